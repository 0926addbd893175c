/- layout's Places: walked. Conditions: the table's types hang on those ahead of them; no more variables than there is room for. -/
import Derived.Test.YtloihffdolehhaaLyG
namespace Go.Proofs.Ytloihffdolehhaa
open Go.RowKit
set_option linter.unusedVariables false
set_option linter.unusedSimpArgs false

def plK (tys : List Ty) : List Int → Int → List Int → List Int × Int × Int
  | [], all, out => if (fitsK all).2 ≠ 0 then ([], 0, (fitsK all).2) else (out, (fitsK all).1, 0)
  | i :: l, all, out => if (sz tys i).2 ≠ 0 then ([], 0, (sz tys i).2) else plK tys l (all + (sz tys i).1) (out ++ [all])
/-- Places, what they take together, and which error. -/
def PlacesP (w : World) (x : List Int × Int × Int) (e : Ending) (w' : World) : Prop := ∃ v', e = .returned (.tuple #[v', .int .i64 x.2.1, .int .i64 x.2.2]) ∧ Wr [] w w' ∧ SlInts w' (fun b => w.heap.size ≤ b) v' x.1

theorem info_int : (Try.prog.info? 3).map (fun i => (i.zero, i.size, i.bytes)) = some (some (.int .i64 0), 1, 8) := by kernel_rfl
theorem append_int (base : Nat) (v : Value) (out : List Int) (W : World) (ho : W.ownsRow base 3 1 v out.length (out.map (Value.int .i64))) (x : Int) (hn : out.length < 1099511627776) (hb : base ≤ W.heap.size) :
    ∃ v' w', (Builtin.append_ #[59, 59] 59 #[v, .slice (some ⟨W.heap.size, 0, none⟩) 1 1]).run Try.prog (W.alloc (.cells #[.int .i64 x] 3)) = .ok v' w' ∧
      w'.ownsRow base 3 1 v' (out ++ [x]).length ((out ++ [x]).map (Value.int .i64)) ∧ Wr (ownL v) W w' := by
  obtain ⟨i0, hi0, hz0, hz1, hz2⟩ := info_parts info_int
  have hs : Sl (W.alloc (.cells #[.int .i64 x] 3)) (fun _ => True) 1 (.slice (some ⟨W.heap.size, 0, none⟩) 1 1) 1 [.int .i64 x] :=
    Sl.ofOwn (World.ownsRow_lit W #[.int .i64 x] 1 (Nat.le_refl _) (by simp only [maxLen]; omega) rfl) (fun _ _ => trivial)
  obtain ⟨v', w', hrun, hown, hg, _⟩ := run_append_sl (P := Try.prog) (W.alloc (.cells #[.int .i64 x] 3)) base 59 59 3 i0 _ 1 8 Try.underlying59 hi0 hz0 hz1 hz2 rfl (by omega)
    v _ _ (ho.alloc _) (fun _ => True) _ 1 _ hs (by simp [Value.oneCell']) (by simp only [maxLen]; omega) (by omega) (by simp; omega)
  refine ⟨v', w', hrun, ?_, ((Wr.refl _ W).alloc _).trans (Wr.ofGrownOwn hg)⟩
  rw [List.map_append, List.length_append]
  exact hown

def PlAt (w : World) (tys : List Ty) (l : List Int) (res : List Int × Int × Int) (s7 s8 s19 : Value) (wr : World) : Prop :=
  ∃ (k : Nat) (all : Int) (out : List Int), k ≤ l.length ∧ s8 = .int .i64 all ∧ s19 = .int .i64 k ∧ 0 ≤ all ∧ all ≤ 32767 * k ∧ out.length = k ∧ res = plK tys (l.drop k) all out ∧ Wr [] w wr ∧ wr.ownsRow w.heap.size 3 1 s7 out.length (out.map (Value.int .i64))

set_option maxRecDepth 100000 in
set_option maxHeartbeats 4000000 in
theorem Places_any (w : World) (t : Nat) (v : Value) (L : List Nat) (base : Nat) (tys : List Ty) (h : Tab 74 w t v L base tys) (hlow : Low tys) (l : List Int) (P : Nat → Prop) (vl : Value) (hl : SlInts w P vl l) (hll : l.length ≤ 1073741824) :
    Calls Try.prog 18 #[.pointer (some ⟨t, 0, none⟩), vl] w (PlacesP w (plK tys l 0 [])) := by
  obtain ⟨res, hres⟩ : ∃ q, q = plK tys l 0 [] := ⟨_, rfl⟩
  rw [← hres]
  have at0 : PlAt w tys l res (.slice none 0 0) (.int .i64 0) (.int .i64 0) w := ⟨0, 0, [], Nat.zero_le _, rfl, rfl, by omega, by omega, rfl, hres, Wr.refl _ _, World.ownsRow_nil _ _ _ _⟩
  have AT0 := Lib.hid at0
  obtain ⟨A, c, rfl, hlc, hcm⟩ := Sl.form hl
  unfold maxLen at hcm
  have HT := Lib.hid h
  have HLOW := Lib.hid hlow
  have HL := Lib.hid hl
  clear at0 h hlow hl hres
  go_enter Try.func18, Try.ntmps18
  go_wp2_with fail
  go_loopw [7, 8, 19] (fun s7 s8 s19 wr => PlAt w tys l res s7 s8 s19 wr) (fun _ _ s19 _ => l.length - (intOf s19).toNat)
  case atStart => exact AT0.out
  case round =>
    obtain ⟨k, all, out, hk, rfl, rfl, ha0, ha1, hok, hres, hw, ho⟩ := hrel
    subst hok
    have HX := Lib.hid hres
    have HW := Lib.hid hw
    have HO := Lib.hid ho
    obtain ⟨Ao, co, hvo, _, _⟩ := Sl.form (P := fun _ => True) (Sl.ofOwn ho (fun _ _ => trivial))
    have hwz := hw.size
    subst hvo
    clear hres hw ho AT0
    by_cases hlt : out.length < l.length
    · obtain ⟨i, hik⟩ : ∃ i, l[out.length]? = some i := ⟨l[out.length], List.getElem?_eq_getElem hlt⟩
      have hdrop : l.drop out.length = i :: l.drop (out.length + 1) := by
        rw [List.drop_eq_getElem_cons hlt]
        rw [List.getElem?_eq_getElem hlt] at hik
        injection hik with hik
        rw [hik]
      obtain ⟨b, off, c', hv, _, _, _, hcell⟩ := Sl.at_ HL.out (j := out.length) (u := .int .i64 i) (by simp [hik])
      injection hv with hv _ hv3
      subst hv
      clear hv3
      replace hcell := HW.out.cellOf hcell (by simp)
      have hsz := Size_any wr t v L base tys (HT.out.wr0 HW.out) HLOW.out i
      obtain ⟨s1, s2, s3⟩ := sz_bd tys i
      have hst : res = plK tys (i :: l.drop (out.length + 1)) all out := by rw [← hdrop]; exact HX.out
      rw [plK] at hst
      generalize sz tys i = x at *
      obtain ⟨n, err⟩ := x
      simp only at s1 s2 hst
      have HST := Lib.hid hst
      have hi0 : (0 : Int) ≤ (out.length : Int) := by omega
      have hi1 : (out.length : Int) < (l.length : Int) := by omega
      clear s3 hst hdrop hik
      by_cases he : err = 0
      · subst he
        go_wp2_with fail
        refine hsz.mono ?_
        clear hsz
        rintro e w2 ⟨rfl, r2⟩
        have hz2 := r2.size
        obtain ⟨v3, w3, hrun, ho3, r3⟩ := append_int w.heap.size _ out w2 (ownsRow_wr0 HO.out r2) all (by omega) (by omega)
        have HO3 := Lib.hid ho3
        have R3 := Lib.hid r3
        have R2 := Lib.hid r2
        clear ho3 r3 r2
        go_wp2_with (at_builtin; refine wpList_append_run rfl _ _ _ rfl _ _ rfl rfl _ _ hrun ?_)
        go_roundw
        case rel =>
          refine ⟨out.length + 1, all + n, out ++ [all], by omega, rfl, by go_num, by omega, by omega, by simp, HST.out.trans (by simp), ?_, HO3.out⟩
          exact (HW.out.trans R2.out).trans' R3.out (fun x hx => .inr ((HO.out.lt x (mem_ownL.1 hx)).1))
        case measure => simp [intOf]; omega
      · have hne : (err == 0) = false := by simp [he]
        have hne2 : (err != 0) = true := by simp [he]
        obtain rfl : res = ([], 0, err) := HST.out.trans (by simp [he])
        go_wp2_with fail
        refine hsz.mono ?_
        clear hsz
        rintro e w2 ⟨rfl, r2⟩
        have R2 := Lib.hid r2
        clear r2
        go_wp2_with fail
        go_ret3
        exact ⟨_, rfl, HW.out.trans R2.out, Sl.nil _ _ 1⟩
    · have hkl : out.length = l.length := by omega
      have hst : res = plK tys [] all out := by rw [HX.out, hkl, List.drop_length]
      rw [plK] at hst
      have fit := fun w => fits_any all (by omega) w
      generalize fitsK all = q at *
      obtain ⟨m, err⟩ := q
      have HST := Lib.hid hst
      have HKL := Lib.hid hkl
      clear hst hkl
      by_cases he : err = 0
      · subst he
        obtain rfl : res = (out, m, 0) := HST.out.trans (by simp)
        go_wp2_with fail
        refine (fit _).mono ?_
        clear fit
        rintro e w2 ⟨rfl, rfl⟩
        go_wp2_with fail
        go_ret3
        exact ⟨.slice Ao out.length co, rfl, HW.out, Sl.ofOwn HO.out (fun b hb => (HO.out.lt b hb).1)⟩
      · have hne : (err == 0) = false := by simp [he]
        have hne2 : (err != 0) = true := by simp [he]
        obtain rfl : res = ([], 0, err) := HST.out.trans (by simp [he])
        go_wp2_with fail
        refine (fit _).mono ?_
        clear fit
        rintro e w2 ⟨rfl, rfl⟩
        go_wp2_with fail
        go_ret3
        exact ⟨_, rfl, HW.out, Sl.nil _ _ 1⟩
end Go.Proofs.Ytloihffdolehhaa
