/- layout's size, Size, At: walked. Conditions: the table's types hang on those ahead of them. -/
import Derived.Test.YtloihffdolehhaaLyD
import Derived.Deep.QuietTactic
import Derived.BigQuiet
namespace Go.Proofs.Ytloihffdolehhaa
open Go.RowKit
set_option linter.unusedVariables false
set_option linter.unusedSimpArgs false

theorem told_zero (w : World) : (zeroValue 84).run Try.prog w = .ok (.agg #[.int .i64 0, .int .i64 0]) w := Try.zeroValue84 w
theorem known_upd (kn : Int → Option (Int × Int)) (i : Int) (x : Int × Int) : (fun j => if j = i then some (toldV x) else (kn j).map toldV) = fun j => ((if j = i then some x else kn j) : Option (Int × Int)).map toldV := by
  funext j
  by_cases h : j = i <;> simp [h]
theorem Sizer.upd {w w' : World} {t r : Nat} {v : Value} {L : List Nat} {base : Nat} {tys : List Ty} {kn : Int → Option (Int × Int)} (h : Sizer w t r v L base tys kn) (hw : Wr [r] w w') {i : Int} {x : Int × Int} (hm : MapI w' r (fun j => if j = i then some (toldV x) else (kn j).map toldV)) :
    Sizer w' t r v L base tys (fun j => if j = i then some x else kn j) := by
  refine ⟨h.tab.keep hw (fun y hy => ?_) ?_ (fun k hk => ?_), h.rin, h.rt, h.rv, ?_⟩
  · rw [List.mem_singleton] at hy; rw [hy]; exact h.rin
  · intro hm
    rw [List.mem_singleton] at hm
    exact h.rt hm.symm
  · intro hm
    rw [List.mem_singleton] at hm
    exact h.rv (hk.trans (by rw [hm]))
  · rw [known_upd] at hm
    exact hm

set_option maxRecDepth 100000 in
set_option maxHeartbeats 4000000 in
theorem size_any (t r : Nat) (v : Value) (L : List Nat) (base : Nat) (tys : List Ty) (hlow : Low tys) (i : Int) (ih : tyOf tys i ≠ Ty.none → ∀ j, j < i → SizeSpec t r v L base tys j) : SizeSpec t r v L base tys i := by
  intro w kn hs hr
  obtain ⟨res, hres⟩ : ∃ q, q = sz tys i := ⟨_, rfl⟩
  rw [← hres]
  have HX := Lib.hid hres
  clear hres
  have hlk := mapI_look (P := Try.prog) Try.underlying68 Try.underlying3 (w := w.alloc (.cells #[.pointer (some ⟨t, 0, none⟩), .map (some r)] 70)) (hs.map.wr ((Wr.refl [] w).alloc _) (by simp)) i told_zero
  cases hk : kn i with
  | some x =>
    obtain rfl : x = res := (hr i x (by omega) hk).trans HX.out.symm
    obtain ⟨n, err⟩ := x
    simp only [hk, Option.map_some, Option.getD_some, Option.isSome_some, toldV] at hlk
    have HS := Lib.hid hs
    have HR := Lib.hid hr
    clear hs hr ih hk hlow
    go_enter Try.func21, Try.ntmps21
    go_wp2_with fail
    go_quiet (fail)
    go_wp2_with fail
    go_ret2
    have hW : Wr [] w ((w.alloc (.cells #[.pointer (some ⟨t, 0, none⟩), .map (some r)] 70)).alloc (.cells #[.int .i64 n, .int .i64 err] 84)) := ((Wr.refl [] w).alloc _).alloc _
    exact ⟨rfl, (hW.drewN _).nil, kn, HS.out.wr0 (hW.drewN _), fun _ _ => rfl, HR.out⟩
  | none =>
    simp only [hk, Option.map_none, Option.getD_none, Option.isSome_none] at hlk
    have hW0 : Wr [] w ((w.alloc (.cells #[.pointer (some ⟨t, 0, none⟩), .map (some r)] 70)).alloc (.cells #[.int .i64 0, .int .i64 0] 84)) := ((Wr.refl [] w).alloc _).alloc _
    have hs0 := hs.wr0 hW0
    obtain ⟨w1, hrun, hw1, hm1⟩ := mapI_upd (P := Try.prog) Try.underlying68 Try.underlying3 hs0.map i (toldV (0, 2))
    have hs1 := hs0.upd hw1 hm1
    have hr1 : Right tys (fun j => if j = i then some (0, 2) else kn j) i := fun k y h1 h2 => by
      have hne : ¬ k = i := by omega
      simp only [hne, if_false] at h2
      exact hr k y (by omega) h2
    have hrk := reck_any w1 t r v L base tys _ hs1 hlow i hr1 ih
    rw [← sz_eq hlow, ← HX.out] at hrk
    have hrlt := hs.map.lt
    have hb1 : Blk w1 w.heap.size 70 #[.pointer (some ⟨t, 0, none⟩), .map (some r)] := ((Blk.new w _ _).alloc _).wr hw1 (by simp; omega)
    have a0 := hb1.cell 0
    have a1 := hb1.cell 1
    simp only [List.getElem?_toArray, List.getElem?_cons_zero, List.getElem?_cons_succ] at a0 a1
    have HB1 := Lib.hid hb1
    have HW1 := Lib.hid (hW0.nil.trans hw1)
    have HRK := Lib.hid hrk
    have HR := Lib.hid hr
    have HS := Lib.hid hs
    unfold toldV at hrun
    clear hs hr ih hk hs0 hw1 hm1 hs1 hr1 hrk hb1 hW0
    go_enter Try.func21, Try.ntmps21
    go_wp2_with fail
    refine HRK.out.mono ?_
    rintro e w3 ⟨rfl, r3, kn3, hs3, hf3, hr3⟩
    obtain ⟨n, err⟩ := res
    obtain ⟨w4, hrun4, hw4, hm4⟩ := mapI_upd (P := Try.prog) Try.underlying68 Try.underlying3 hs3.map i (toldV (n, err))
    have hs4 := hs3.upd hw4 hm4
    have hb3 := HB1.out.wr r3 (by simp; omega)
    replace a0 := hb3.cell 0
    replace a1 := hb3.cell 1
    simp only [List.getElem?_toArray, List.getElem?_cons_zero, List.getElem?_cons_succ] at a0 a1
    have hz3 := hb3.lt
    have HW4 := Lib.hid ((HW1.out.trans r3).trans hw4)
    have HS4 := Lib.hid hs4
    have HF3 := Lib.hid hf3
    have HR3 := Lib.hid hr3
    unfold toldV at hrun4
    clear hs3 hf3 hr3 hw4 hm4 hs4 hb3 hrun hlk r3
    go_wp2_with fail
    go_ret2
    refine ⟨rfl, HW4.out, _, HS4.out, fun k hk => ?_, fun k y h1 h2 => ?_⟩
    · have hne : ¬ k = i := by omega
      have := HF3.out k (by omega)
      simp only [hne, if_false] at this ⊢
      exact this
    · by_cases hki : k = i
      · subst hki
        simp only [if_true] at h2
        injection h2 with h2
        rw [← h2]
        exact HX.out
      · simp only [hki, if_false] at h2
        exact HR3.out k y (by omega) h2

theorem spec_upto (t r : Nat) (v : Value) (L : List Nat) (base : Nat) (tys : List Ty) (hlow : Low tys) : ∀ (n : Nat) (i : Int), i < n → SizeSpec t r v L base tys i
  | 0, i, h => size_any t r v L base tys hlow i (fun he => absurd (tyOf_neg tys (by omega)) he)
  | n + 1, i, h => size_any t r v L base tys hlow i (fun _ j hj => spec_upto t r v L base tys hlow n j (by omega))
theorem spec_all (t r : Nat) (v : Value) (L : List Nat) (base : Nat) (tys : List Ty) (hlow : Low tys) (i : Int) : SizeSpec t r v L base tys i := spec_upto t r v L base tys hlow (i.toNat + 1) i (by omega)

/-- What a sizer that knows nothing stands on. -/
theorem sizer_new {w : World} {t : Nat} {v : Value} {L : List Nat} {base : Nat} {tys : List Ty} (h : Tab 74 w t v L base tys) : Sizer (w.alloc (.map #[] 0)) t w.heap.size v (w.heap.size :: L) base tys (fun _ => none) := by
  refine ⟨h.step ((Wr.refl [] w).alloc _) (by simp) (by simp) (by simp) (fun x hx => List.mem_cons_of_mem _ hx) (fun x hx => ?_) (fun x hx => ?_), by simp, ?_, ?_, MapI.new w⟩
  · rcases List.mem_cons.1 hx with e | e
    · exact .inr (by omega)
    · exact .inl e
  · rw [World.size_alloc]
    rcases List.mem_cons.1 hx with e | e
    · omega
    · have := h.lin x e
      omega
  · have := h.blk.lt
    omega
  · intro e
    have := h.lin _ (h.rin _ e)
    omega

/-- A pair that is handed back; nothing else but new memory. -/
def PairP (w : World) (x : Int × Int) (e : Ending) (w' : World) : Prop := e = .returned (.tuple #[.int .i64 x.1, .int .i64 x.2]) ∧ Wr [] w w'
set_option maxHeartbeats 1000000 in
theorem Size_any (w : World) (t : Nat) (v : Value) (L : List Nat) (base : Nat) (tys : List Ty) (h : Tab 74 w t v L base tys) (hlow : Low tys) (i : Int) :
    Calls Try.prog 12 #[.pointer (some ⟨t, 0, none⟩), .int .i64 i] w (PairP w (sz tys i)) := by
  have hsz := spec_all t w.heap.size v (w.heap.size :: L) base tys hlow i _ _ (sizer_new h) (fun k y _ h => by cases h)
  have hmm := @run_makeMap Try.prog
  generalize sz tys i = x at *
  clear h hlow
  go_enter Try.func12, Try.ntmps12
  go_wp2_with fail
  refine hsz.mono ?_
  clear hsz
  rintro e w2 ⟨rfl, r2, _⟩
  have R2 := Lib.hid r2
  clear r2
  go_wp2_with fail
  go_ret2
  exact ⟨rfl, ((Wr.refl [] w).alloc _).new R2.out (Nat.le_refl _)⟩
theorem Size_nil (w : World) (i : Int) : Calls Try.prog 12 #[.pointer none, .int .i64 i] w (PairP w (0, 1)) := by
  go_enter Try.func12, Try.ntmps12
  go_wp2_with fail
  go_ret2
  exact ⟨rfl, Wr.refl _ _⟩
end Go.Proofs.Ytloihffdolehhaa
