/- layout's fits, array, record: walked, over what size does. Conditions: the table's types hang on those ahead of them. -/
import Derived.Test.YtloihffdolehhaaLyA
import Derived.Test.YtloihffdolehhaaMapB
import Derived.IntWalk
namespace Go.Proofs.Ytloihffdolehhaa
open Go.RowKit
set_option linter.unusedVariables false
set_option linter.unusedSimpArgs false
set_option linter.unusedSectionVars false

def toldV (x : Int × Int) : Value := .agg #[.int .i64 x.1, .int .i64 x.2]
/-- A sizer: its table, in block t, and what it knows, in block r. -/
structure Sizer (w : World) (t r : Nat) (v : Value) (L : List Nat) (base : Nat) (tys : List Ty) (kn : Int → Option (Int × Int)) : Prop where
  tab : Tab 74 w t v L base tys
  rin : r ∈ L
  rt : r ≠ t
  rv : v.ownBlock ≠ some r
  map : MapI w r (fun k => (kn k).map toldV)
theorem Sizer.wr0 {w w' : World} {t r : Nat} {v : Value} {L : List Nat} {base : Nat} {tys : List Ty} {kn : Int → Option (Int × Int)} (h : Sizer w t r v L base tys kn) (hw : Wr [] w w') : Sizer w' t r v L base tys kn :=
  ⟨h.tab.wr0 hw, h.rin, h.rt, h.rv, h.map.wr hw (by simp)⟩
/-- What is known below i is right. -/
def Right (tys : List Ty) (kn : Int → Option (Int × Int)) (i : Int) : Prop := ∀ k y, k < i → kn k = some y → y = sz tys k
/-- What was reckoned, and what is known then. -/
def DoneP (w : World) (t r : Nat) (v : Value) (L : List Nat) (base : Nat) (tys : List Ty) (kn : Int → Option (Int × Int)) (i : Int) (x : Int × Int) (e : Ending) (w' : World) : Prop :=
  e = .returned (.tuple #[.int .i64 x.1, .int .i64 x.2]) ∧ Wr [r] w w' ∧ ∃ kn', Sizer w' t r v L base tys kn' ∧ (∀ k, i ≤ k → kn' k = kn k) ∧ Right tys kn' i
/-- size does what it must, of one type. -/
def SizeSpec (t r : Nat) (v : Value) (L : List Nat) (base : Nat) (tys : List Ty) (i : Int) : Prop :=
  ∀ w kn, Sizer w t r v L base tys kn → Right tys kn (i + 1) → Calls Try.prog 21 #[.agg #[.pointer (some ⟨t, 0, none⟩), .map (some r)], .int .i64 i] w (DoneP w t r v L base tys kn (i + 1) (sz tys i))
theorem Right.mono {tys : List Ty} {kn : Int → Option (Int × Int)} {i j : Int} (h : Right tys kn i) (hj : j ≤ i) : Right tys kn j := fun k y hk => h k y (by omega)
theorem Right.up {tys : List Ty} {kn kn' : Int → Option (Int × Int)} {i j : Int} (hf : ∀ k, j ≤ k → kn' k = kn k) (hk : Right tys kn' j) (hr : Right tys kn i) : Right tys kn' i := fun k y h1 h2 => by
  by_cases h3 : k < j
  · exact hk k y h3 h2
  · rw [hf k (by omega)] at h2
    exact hr k y h1 h2
theorem DoneP.up {w w' : World} {t r : Nat} {v : Value} {L : List Nat} {base : Nat} {tys : List Ty} {kn : Int → Option (Int × Int)} {i j : Int} {x : Int × Int} {e : Ending} (h : DoneP w t r v L base tys kn j x e w') (hr : Right tys kn i) (hj : j ≤ i) :
    DoneP w t r v L base tys kn i x e w' := by
  obtain ⟨he, hw, kn', hs, hf, hk⟩ := h
  refine ⟨he, hw, kn', hs, fun k hk => hf k (by omega), fun k y h1 h2 => ?_⟩
  by_cases h3 : k < j
  · exact hk k y h3 h2
  · rw [hf k (by omega)] at h2
    exact hr k y h1 h2
/-- The world changed a little before. -/
theorem DoneP.after {w w1 w' : World} {t r : Nat} {v : Value} {L : List Nat} {base : Nat} {tys : List Ty} {kn : Int → Option (Int × Int)} {i : Int} {x : Int × Int} {e : Ending} (h : DoneP w1 t r v L base tys kn i x e w') (hw : Wr [] w w1) : DoneP w t r v L base tys kn i x e w' := by
  obtain ⟨he, hw', kn', hs⟩ := h
  exact ⟨he, hw.nil.trans hw', kn', hs⟩

set_option maxHeartbeats 1000000 in
theorem fits_any (n : Int) (hn : -9223372036854775808 ≤ n ∧ n ≤ 9223372036854775807) (w : World) : Calls Try.prog 28 #[.int .i64 n] w fun e w' => e = .returned (.tuple #[.int .i64 (fitsK n).1, .int .i64 (fitsK n).2]) ∧ w = w' := by
  unfold fitsK
  by_cases h : n > 32767
  · rw [if_pos h]
    go_enter Try.func28, Try.ntmps28
    go_wp2_with fail
    go_ret2
    exact ⟨rfl, rfl⟩
  · rw [if_neg h]
    go_enter Try.func28, Try.ntmps28
    go_wp2_with fail
    go_ret2
    exact ⟨rfl, rfl⟩

set_option maxRecDepth 100000 in
set_option maxHeartbeats 4000000 in
theorem array_any (w : World) (t r : Nat) (v : Value) (L : List Nat) (base : Nat) (tys : List Ty) (kn : Int → Option (Int × Int)) (hs : Sizer w t r v L base tys kn) (hlow : Low tys) (i : Int) (hr : Right tys kn i) (ty : Ty) (A1 A2 A3 A4 : Option Addr) (c1 c2 c3 c4 : Nat)
    (hbi : ty.base < i) (ih : SizeSpec t r v L base tys ty.base) :
    Calls Try.prog 41 #[.agg #[.pointer (some ⟨t, 0, none⟩), .map (some r)], ty.val (.slice A1 ty.names.length c1) (.slice A2 ty.fields.length c2) (.slice A3 ty.arms.length c3) (.slice A4 ty.params.length c4)] w
      (DoneP w t r v L base tys kn i (arrK (loB tys ty.index) (hiB tys ty.index) (ordB tys ty.index) (sz tys ty.base))) := by
  have hrg := fun W (q : Wr [] w W) => range_any W t v L base tys (hs.tab.wr0 q) ty.index
  have hsz := fun W (q : Wr [] w W) => ih W kn (hs.wr0 q) (hr.mono (by omega))
  obtain ⟨l1, l2, l3, l4⟩ := loB_bd hlow ty.index
  obtain ⟨s1, s2, s3⟩ := sz_bd tys ty.base
  have HS := Lib.hid hs
  have HR := Lib.hid hr
  have HI := Lib.hid hbi
  have S3 := Lib.hid s3
  generalize loB tys ty.index = lo at *
  generalize hiB tys ty.index = hi at *
  generalize ordB tys ty.index = o at *
  generalize sz tys ty.base = x at *
  obtain ⟨n, err⟩ := x
  obtain ⟨res, hres⟩ : ∃ q, q = arrK lo hi o (n, err) := ⟨_, rfl⟩
  rw [← hres]
  have HX := Lib.hid hres
  clear hres
  clear hs hr ih hbi s3 hlow
  simp only at s1 s2
  have B1 := Lib.hid (And.intro l1 (And.intro l2 (And.intro l3 l4)))
  have B2 := Lib.hid (And.intro s1 s2)
  clear l1 l2 l3 l4 s1 s2
  unfold Ty.val Ty.cells
  cases o with
  | false =>
    obtain rfl : res = (0, 2) := HX.out.trans (by simp [arrK])
    go_enter Try.func41, Try.ntmps41
    go_wp2_with fail
    refine (hrg _ (((Wr.refl [] w).alloc _).alloc _)).mono ?_
    rintro e w1 ⟨rfl, r1⟩
    have R1 := Lib.hid ((((Wr.refl [] w).alloc _).alloc _).trans r1)
    clear r1 hrg hsz
    go_wp2_with fail
    go_ret2
    exact ⟨rfl, R1.out.nil, kn, HS.out.wr0 R1.out, fun _ _ => rfl, HR.out⟩
  | true =>
    go_enter Try.func41, Try.ntmps41
    go_wp2_with fail
    refine (hrg _ (((Wr.refl [] w).alloc _).alloc _)).mono ?_
    rintro e w1 ⟨rfl, r1⟩
    have hb1 := ((Blk.new w 70 #[.pointer (some ⟨t, 0, none⟩), .map (some r)]).alloc (.cells #[.int .u8 ty.kind, .string ty.module, .string ty.name, .int .i64 ty.base, .int .i64 ty.index, .int .i64 ty.low, .int .i64 ty.high, .slice A1 ty.names.length c1, .slice A2 ty.fields.length c2, .slice A3 ty.arms.length c3, .slice A4 ty.params.length c4, .int .i64 ty.result] 38)).wr0 r1
    have hc1 : Blk w1 (w.heap.size + 1) 38 #[.int .u8 ty.kind, .string ty.module, .string ty.name, .int .i64 ty.base, .int .i64 ty.index, .int .i64 ty.low, .int .i64 ty.high, .slice A1 ty.names.length c1, .slice A2 ty.fields.length c2, .slice A3 ty.arms.length c3, .slice A4 ty.params.length c4, .int .i64 ty.result] := by
      have := (Blk.new (w.alloc (.cells #[.pointer (some ⟨t, 0, none⟩), .map (some r)] 70)) 38 #[.int .u8 ty.kind, .string ty.module, .string ty.name, .int .i64 ty.base, .int .i64 ty.index, .int .i64 ty.low, .int .i64 ty.high, .slice A1 ty.names.length c1, .slice A2 ty.fields.length c2, .slice A3 ty.arms.length c3, .slice A4 ty.params.length c4, .int .i64 ty.result]).wr0 r1
      simpa using this
    have R1 := Lib.hid ((((Wr.refl [] w).alloc _).alloc _).trans r1)
    have a0 := hb1.cell 0
    have a1 := hb1.cell 1
    have b3 := hc1.cell 3
    simp only [List.getElem?_toArray, List.getElem?_cons_zero, List.getElem?_cons_succ] at a0 a1 b3
    clear r1 hrg hb1 hc1
    go_wp2_with fail
    refine (hsz _ R1.out).mono ?_
    clear hsz
    rintro e w2 ⟨rfl, r2, kn', hs', hf', hr'⟩
    have HS' := Lib.hid hs'
    have HF' := Lib.hid hf'
    have HR' := Lib.hid hr'
    have R2 := Lib.hid r2
    have hri : Right tys kn' i := Right.up hf' hr' HR.out
    have HRI := Lib.hid hri
    clear hri
    clear hs' hf' hr' r2
    by_cases he : err = 0
    · subst he
      have hres : res = fitsK (max (hi - lo + 1) 0 * n) := HX.out.trans (by simp [arrK])
      have hmax : 0 ≤ max (hi - lo + 1) 0 ∧ max (hi - lo + 1) 0 ≤ 4294967296 := by have := B1.out; omega
      have hp : 0 ≤ max (hi - lo + 1) 0 * n ∧ max (hi - lo + 1) 0 * n ≤ 4294967296 * 32767 := ⟨Int.mul_nonneg hmax.1 B2.out.1, Int.mul_le_mul hmax.2 B2.out.2 B2.out.1 (by omega)⟩
      have fit := fun w => fits_any (max (hi - lo + 1) 0 * n) (by omega) w
      rw [← hres] at fit
      clear hres HX
      by_cases hge : 0 ≤ hi - lo + 1
      · rw [show max (hi - lo + 1) 0 = hi - lo + 1 from by omega] at fit hp
        have ew : wrap64 ((hi - lo + 1) * n) = (hi - lo + 1) * n := by
          generalize (hi - lo + 1) * n = p at hp ⊢
          unfold wrap64
          omega
        rw [← ew] at fit
        obtain ⟨l1, l2, l3, l4⟩ := B1.out
        clear ew hp hmax
        go_wp2_with fail
        refine (fit _).mono ?_
        clear fit
        rintro e w3 ⟨rfl, rfl⟩
        go_wp2_with fail
        go_ret2
        exact ⟨rfl, R1.out.nil.trans R2.out, kn', HS'.out, fun k hk => HF'.out k (by have := HI.out; omega), HRI.out⟩
      · rw [show max (hi - lo + 1) 0 = 0 from by omega, Int.zero_mul] at fit
        obtain ⟨l1, l2, l3, l4⟩ := B1.out
        clear hp hmax
        go_wp2_with fail
        refine (fit _).mono ?_
        clear fit
        rintro e w3 ⟨rfl, rfl⟩
        go_wp2_with fail
        go_ret2
        exact ⟨rfl, R1.out.nil.trans R2.out, kn', HS'.out, fun k hk => HF'.out k (by have := HI.out; omega), HRI.out⟩
    · obtain rfl : res = (0, err) := HX.out.trans (by simp [arrK, he])
      have hne : (err == 0) = false := by simp [he]
      have hne2 : (err != 0) = true := by simp [he]
      go_wp2_with fail
      go_ret2
      exact ⟨rfl, R1.out.nil.trans R2.out, kn', HS'.out, fun k hk => HF'.out k (by have := HI.out; omega), HRI.out⟩
end Go.Proofs.Ytloihffdolehhaa
