/- iface's short, few, small of few things; fits: walked. No conditions. -/
import Derived.Test.YtjanbpchedgoiaaKI02
import Derived.Test.YtjanbpchedgoiaaKI01
import Derived.MapKept
namespace Go.Proofs.Ytjanbpchedgoiaa
open Go.RowKit
set_option linter.unusedVariables false
set_option linter.unusedSimpArgs false

theorem anyB_1 (p : Nat → Bool) : anyB 1 p = p 0 := by simp [anyB, List.range_succ]
theorem anyB_2 (p : Nat → Bool) : anyB 2 p = (p 0 || p 1) := by simp [anyB, List.range_succ]
theorem anyB_3 (p : Nat → Bool) : anyB 3 p = (p 0 || (p 1 || p 2)) := by simp [anyB, List.range_succ, Bool.or_assoc]
theorem anyB_4 (p : Nat → Bool) : anyB 4 p = (p 0 || (p 1 || (p 2 || p 3))) := by simp [anyB, List.range_succ, Bool.or_assoc]
theorem sh_not (s : ByteArray) : (!decide ((s.size : Int) > 255)) = shB s := by
  unfold shB
  by_cases h : s.size ≤ 255
  · rw [decide_eq_true h, decide_eq_false (by omega)]; rfl
  · rw [decide_eq_false h, decide_eq_true (by omega)]; rfl
theorem fw_not (n : Nat) : (!decide ((n : Int) > 65535)) = fwB n := by
  unfold fwB
  by_cases h : n ≤ 65535
  · rw [decide_eq_true h, decide_eq_false (by omega)]; rfl
  · rw [decide_eq_false h, decide_eq_true (by omega)]; rfl
theorem sm_not (n : Int) : (!smallN n) = smB n := by
  unfold smallN smB inB
  rw [Bool.eq_iff_iff]
  simp
theorem ty_not (nt : Nat) (n : Int) : (!typN nt n) = tyB nt n := by
  unfold typN tyB inB
  rw [Bool.eq_iff_iff]
  simp
  omega
theorem short_1 (a : ByteArray) (w : World) : Calls Try.prog 54 #[.slice (some ⟨w.heap.size, 0, none⟩) 1 1] (w.alloc (.cells #[.string a] 9)) fun e w' => e = .returned (.bool (shB a)) ∧ Wr [] (w.alloc (.cells #[.string a] 9)) w' := by
  have h := short_any _ (some ⟨w.heap.size, 0, none⟩) 1 1 (fun _ => a) (by unfold maxLen; omega) (blk_cells (Blk.new w 9 #[.string a]) (fun i hi => by obtain rfl : i = 0 := (by omega); rfl))
  rw [anyB_1, sh_not] at h
  exact h
theorem short_2 (a b : ByteArray) (w : World) : Calls Try.prog 54 #[.slice (some ⟨w.heap.size, 0, none⟩) 2 2] (w.alloc (.cells #[.string a, .string b] 9)) fun e w' => e = .returned (.bool (shB a && shB b)) ∧ Wr [] (w.alloc (.cells #[.string a, .string b] 9)) w' := by
  have h := short_any _ (some ⟨w.heap.size, 0, none⟩) 2 2 (fun i => if i = 0 then a else b) (by unfold maxLen; omega) (blk_cells (Blk.new w 9 #[.string a, .string b]) (fun i hi => by
    match i, hi with
    | 0, _ => rfl
    | 1, _ => rfl))
  rw [anyB_2, Bool.not_or, sh_not, sh_not] at h
  exact h
theorem few_1 (a : Nat) (w : World) : Calls Try.prog 56 #[.slice (some ⟨w.heap.size, 0, none⟩) 1 1] (w.alloc (.cells #[.int .i64 (a : Int)] 3)) fun e w' => e = .returned (.bool (fwB a)) ∧ Wr [] (w.alloc (.cells #[.int .i64 (a : Int)] 3)) w' := by
  have h := few_any _ (some ⟨w.heap.size, 0, none⟩) 1 1 (fun _ => (a : Int)) (by unfold maxLen; omega) (blk_cells (Blk.new w 3 #[.int .i64 (a : Int)]) (fun i hi => by obtain rfl : i = 0 := (by omega); rfl))
  rw [anyB_1, fw_not] at h
  exact h
theorem few_2 (a b : Nat) (w : World) : Calls Try.prog 56 #[.slice (some ⟨w.heap.size, 0, none⟩) 2 2] (w.alloc (.cells #[.int .i64 (a : Int), .int .i64 (b : Int)] 3)) fun e w' => e = .returned (.bool (fwB a && fwB b)) ∧ Wr [] (w.alloc (.cells #[.int .i64 (a : Int), .int .i64 (b : Int)] 3)) w' := by
  have h := few_any _ (some ⟨w.heap.size, 0, none⟩) 2 2 (fun i => if i = 0 then (a : Int) else (b : Int)) (by unfold maxLen; omega) (blk_cells (Blk.new w 3 #[.int .i64 (a : Int), .int .i64 (b : Int)]) (fun i hi => by
    match i, hi with
    | 0, _ => rfl
    | 1, _ => rfl))
  rw [anyB_2, Bool.not_or, if_pos rfl, if_neg (by decide), fw_not, fw_not] at h
  exact h
theorem few_4 (a b c d : Nat) (w : World) : Calls Try.prog 56 #[.slice (some ⟨w.heap.size, 0, none⟩) 4 4] (w.alloc (.cells #[.int .i64 (a : Int), .int .i64 (b : Int), .int .i64 (c : Int), .int .i64 (d : Int)] 3)) fun e w' => e = .returned (.bool (fwB a && (fwB b && (fwB c && fwB d)))) ∧ Wr [] (w.alloc (.cells #[.int .i64 (a : Int), .int .i64 (b : Int), .int .i64 (c : Int), .int .i64 (d : Int)] 3)) w' := by
  have h := few_any _ (some ⟨w.heap.size, 0, none⟩) 4 4 (fun i => if i = 0 then (a : Int) else if i = 1 then (b : Int) else if i = 2 then (c : Int) else (d : Int)) (by unfold maxLen; omega) (blk_cells (Blk.new w 3 #[.int .i64 (a : Int), .int .i64 (b : Int), .int .i64 (c : Int), .int .i64 (d : Int)]) (fun i hi => by
    match i, hi with
    | 0, _ => rfl
    | 1, _ => rfl
    | 2, _ => rfl
    | 3, _ => rfl))
  rw [anyB_4, Bool.not_or, Bool.not_or, Bool.not_or] at h
  simp only [if_pos, show ¬ (1 : Nat) = 0 by decide, show ¬ (2 : Nat) = 0 by decide, show ¬ (2 : Nat) = 1 by decide, show ¬ (3 : Nat) = 0 by decide, show ¬ (3 : Nat) = 1 by decide, show ¬ (3 : Nat) = 2 by decide, if_false] at h
  rw [fw_not, fw_not, fw_not, fw_not] at h
  exact h
theorem small_1 (a : Int) (w : World) : Calls Try.prog 60 #[.slice (some ⟨w.heap.size, 0, none⟩) 1 1] (w.alloc (.cells #[.int .i64 a] 2)) fun e w' => e = .returned (.bool (smB a)) ∧ Wr [] (w.alloc (.cells #[.int .i64 a] 2)) w' := by
  have h := small_any _ (some ⟨w.heap.size, 0, none⟩) 1 1 (fun _ => a) (by unfold maxLen; omega) (blk_cells (Blk.new w 2 #[.int .i64 a]) (fun i hi => by obtain rfl : i = 0 := (by omega); rfl))
  rw [anyB_1, sm_not] at h
  exact h
theorem small_2 (a b : Int) (w : World) : Calls Try.prog 60 #[.slice (some ⟨w.heap.size, 0, none⟩) 2 2] (w.alloc (.cells #[.int .i64 a, .int .i64 b] 2)) fun e w' => e = .returned (.bool (smB a && smB b)) ∧ Wr [] (w.alloc (.cells #[.int .i64 a, .int .i64 b] 2)) w' := by
  have h := small_any _ (some ⟨w.heap.size, 0, none⟩) 2 2 (fun i => if i = 0 then a else b) (by unfold maxLen; omega) (blk_cells (Blk.new w 2 #[.int .i64 a, .int .i64 b]) (fun i hi => by
    match i, hi with
    | 0, _ => rfl
    | 1, _ => rfl))
  rw [anyB_2, Bool.not_or, if_pos rfl, if_neg (by decide), sm_not, sm_not] at h
  exact h
theorem typ_1 (a : Int) (pi : Nat) (At : Option Addr) (nt ct : Nat) (htt : nt ≤ ct ∧ ct ≤ maxLen) (h63 : nt ≤ 1000000) (w : World) (hct : w.cell? ⟨pi, 2, none⟩ = some (.slice At nt ct)) : Calls Try.prog 57 #[.slice (some ⟨w.heap.size, 0, none⟩) 1 1, .pointer (some ⟨pi, 0, none⟩)] (w.alloc (.cells #[.int .i64 a] 3)) fun e w' => e = .returned (.bool (tyB nt a)) ∧ Wr [] (w.alloc (.cells #[.int .i64 a] 3)) w' := by
  have h := typ_any _ (some ⟨w.heap.size, 0, none⟩) 1 1 (fun _ => a) (by unfold maxLen; omega) (blk_cells (Blk.new w 3 #[.int .i64 a]) (fun i hi => by obtain rfl : i = 0 := (by omega); rfl)) pi At nt ct htt (((Wr.refl [] w).alloc _).cellOf hct (by simp)) h63
  rw [anyB_1, ty_not] at h
  exact h
theorem typ_3 (a b c : Int) (pi : Nat) (At : Option Addr) (nt ct : Nat) (htt : nt ≤ ct ∧ ct ≤ maxLen) (h63 : nt ≤ 1000000) (w : World) (hct : w.cell? ⟨pi, 2, none⟩ = some (.slice At nt ct)) : Calls Try.prog 57 #[.slice (some ⟨w.heap.size, 0, none⟩) 3 3, .pointer (some ⟨pi, 0, none⟩)] (w.alloc (.cells #[.int .i64 a, .int .i64 b, .int .i64 c] 3)) fun e w' => e = .returned (.bool (tyB nt a && (tyB nt b && tyB nt c))) ∧ Wr [] (w.alloc (.cells #[.int .i64 a, .int .i64 b, .int .i64 c] 3)) w' := by
  have h := typ_any _ (some ⟨w.heap.size, 0, none⟩) 3 3 (fun i => if i = 0 then a else if i = 1 then b else c) (by unfold maxLen; omega) (blk_cells (Blk.new w 3 #[.int .i64 a, .int .i64 b, .int .i64 c]) (fun i hi => by
    match i, hi with
    | 0, _ => rfl
    | 1, _ => rfl
    | 2, _ => rfl)) pi At nt ct htt (((Wr.refl [] w).alloc _).cellOf hct (by simp)) h63
  rw [anyB_3, Bool.not_or, Bool.not_or] at h
  simp only [if_pos, show ¬ (1 : Nat) = 0 by decide, show ¬ (2 : Nat) = 0 by decide, show ¬ (2 : Nat) = 1 by decide, if_false] at h
  rw [ty_not, ty_not, ty_not] at h
  exact h
section
variable {w : World} {P : Nat → Prop} {v : Value}
theorem arm_at {l : List ArmD} (h : SlArms w P v l) {i : Nat} {x : ArmD} (hi : l[i]? = some x) : ∃ b off c va vb, v = .slice (some ⟨b, off, none⟩) l.length c ∧ P b ∧ w.cell? ⟨b, off + i * 3, none⟩ = some va ∧ w.cell? ⟨b, off + i * 3 + 1, none⟩ = some vb ∧ w.cell? ⟨b, off + i * 3 + 2, none⟩ = some (.bool x.els) ∧ SlInts w P va x.frm ∧ SlInts w P vb x.to := by
  obtain ⟨xs, hs, h1, ha⟩ := h
  obtain ⟨va, vb, e1, e2, e3, ka, kb⟩ := ha i x hi
  obtain ⟨b, off, c, e, _, _, hP, h4⟩ := Sl.thing hs (by decide) (List.getElem?_eq_some_iff.1 hi).1
  have g := fun j u hj hu => h4 j u hj hu
  refine ⟨b, off, c, va, vb, e, hP, ?_, ?_, ?_, ka, kb⟩
  · have := h4 0 va (by decide) (by rw [Nat.add_zero]; exact e1)
    simpa using this
  · have := h4 1 vb (by decide) e2
    rw [← Nat.add_assoc] at this
    exact this
  · have := h4 2 _ (by decide) e3
    rw [← Nat.add_assoc] at this
    exact this
theorem SlArms.form {l : List ArmD} (h : SlArms w P v l) : ∃ A c, v = .slice A l.length c ∧ l.length ≤ c ∧ c ≤ maxLen := by
  obtain ⟨xs, hs, _⟩ := h
  exact hs.form
theorem fld_len (x : Fld) : x.cells.length = 3 := rfl
theorem par_len (x : Par) : x.cells.length = 2 := rfl
theorem fld_at {l : List Fld} (h : SlFlds w P v l) {i : Nat} {x : Fld} (hi : l[i]? = some x) : ∃ b off c, v = .slice (some ⟨b, off, none⟩) l.length c ∧ P b ∧ ∀ j u, x.cells[j]? = some u → w.cell? ⟨b, off + i * 3 + j, none⟩ = some u := by
  obtain ⟨b, off, c, e, _, _, hP, h4⟩ := Sl.thing h (by decide) (List.getElem?_eq_some_iff.1 hi).1
  refine ⟨b, off, c, e, hP, fun j u hj => ?_⟩
  have hj5 : j < 3 := (List.getElem?_eq_some_iff.1 hj).1
  rw [Nat.add_assoc]
  exact h4 j u hj5 (by rw [flatF_at fld_len l i j x hi hj5]; exact hj)
theorem par_at {l : List Par} (h : SlPars w P v l) {i : Nat} {x : Par} (hi : l[i]? = some x) : ∃ b off c, v = .slice (some ⟨b, off, none⟩) l.length c ∧ P b ∧ ∀ j u, x.cells[j]? = some u → w.cell? ⟨b, off + i * 2 + j, none⟩ = some u := by
  obtain ⟨b, off, c, e, _, _, hP, h4⟩ := Sl.thing h (by decide) (List.getElem?_eq_some_iff.1 hi).1
  refine ⟨b, off, c, e, hP, fun j u hj => ?_⟩
  have hj5 : j < 2 := (List.getElem?_eq_some_iff.1 hj).1
  rw [Nat.add_assoc]
  exact h4 j u hj5 (by rw [flatF_at par_len l i j x hi hj5]; exact hj)
end
theorem fitArm_any (x : ArmD) (va vb : Value) (P : Nat → Prop) (w : World) (ha : SlInts w P va x.frm) (hb : SlInts w P vb x.to) : Calls Try.prog 77 #[.agg #[va, vb, .bool x.els]] w fun e w' => e = .returned (.bool (!armFit x)) ∧ Wr [] w w' := by
  obtain ⟨A1, c1, rfl, _, _⟩ := Sl.form ha
  obtain ⟨A2, c2, rfl, _, _⟩ := Sl.form hb
  unfold armFit
  have acc := (Wr.refl [] w).alloc (.cells #[.slice A1 x.frm.length c1, .slice A2 x.to.length c2, .bool x.els] 93)
  have hf := few_2 x.frm.length x.to.length (w.alloc (.cells #[.slice A1 x.frm.length c1, .slice A2 x.to.length c2, .bool x.els] 93))
  rw [World.size_alloc] at hf
  obtain ⟨r, hr⟩ : ∃ r, (fwB x.frm.length && fwB x.to.length) = r := ⟨_, rfl⟩
  rw [hr] at hf ⊢
  have HF := Lib.hid hf
  clear hf hr ha hb
  go_enter Try.func77, Try.ntmps77
  go_wp2_with fail
  refine HF.out.mono ?_
  rintro e w1 ⟨rfl, r1⟩
  go_wp2_with fail
  go_ret
  exact ⟨rfl, (acc.alloc _).trans r1⟩
/-- The first of a list's that is such. -/
theorem any_at {α : Type} {l : List α} {p : α → Bool} {k : Nat} {x : α} (hk : l[k]? = some x) (h : p x = true) : l.any p = true := List.any_eq_true.2 ⟨x, List.mem_of_getElem? hk, h⟩
theorem any_none {α : Type} {l : List α} {p : α → Bool} (h : ∀ (j : Nat) (x : α), j < l.length → l[j]? = some x → p x = false) : l.any p = false := by
  rw [List.any_eq_false]
  intro x hx
  obtain ⟨j, hj⟩ := List.getElem?_of_mem hx
  rw [h j x (List.getElem?_eq_some_iff.1 hj).1 hj]
  decide
def IdxL (w : World) (b : Bool) (e : Ending) (w' : World) : Prop := ∃ r : Int, e = .returned (.int .i64 r) ∧ Wr [] w w' ∧ decide (r ≥ 0) = b
def NotYet {α : Type} (w : World) (l : List α) (p : α → Bool) (k : Nat) (wr : World) : Prop := Wr [] w wr ∧ ∀ (j : Nat) (x : α), j < k → l[j]? = some x → p x = false
set_option maxRecDepth 100000 in
set_option maxHeartbeats 2000000 in
theorem idx_arm (w : World) (P : Nat → Prop) (v : Value) (l : List ArmD) (h : SlArms w P v l) :
    Calls Try.prog 92 #[v, .func (.func 77) #[] #[]] w (IdxL w (l.any fun x => !armFit x)) := by
  obtain ⟨A, c, rfl, l1, l2⟩ := h.form
  unfold maxLen at l2
  have hen : ∀ args w, (callFunc 77 args).run Try.prog w = .ok (.enter 77 args) w := fun args w => rfl
  obtain ⟨b0, hb0⟩ : ∃ b, (l.any fun x => !armFit x) = b := ⟨_, rfl⟩
  rw [hb0]
  have HH := Lib.hid h
  have HB := Lib.hid hb0
  clear h hb0
  go_enter Try.func92, Try.ntmps92
  go_wp2_with fail
  go_loopw [8] (fun i wr => ∃ k : Nat, k ≤ l.length ∧ i = .int .i64 k ∧ NotYet w l (fun x => !armFit x) k wr) (fun i _ => l.length - (intOf i).toNat)
  case atStart => exact ⟨0, by omega, rfl, Wr.refl _ _, fun j x h => absurd h (by omega)⟩
  case round =>
    obtain ⟨k, hk, rfl, hw, hno⟩ := hrel
    have HNO := Lib.hid hno
    have HW := Lib.hid hw
    clear hno hw
    by_cases hlt : k < l.length
    · obtain ⟨x, hx⟩ : ∃ x, l[k]? = some x := ⟨_, List.getElem?_eq_getElem hlt⟩
      have hsa : SlArms wr P (.slice A l.length c) l := SlArms.keep HH.out HW.out (fun _ _ => by simp)
      obtain ⟨b, off, c', va, vb, e, _, a0, a1, a2, ka, kb⟩ := arm_at hsa hx
      injection e with e1 e2 e3
      subst e1 e3
      have hq := fitArm_any x va vb P wr ka kb
      obtain ⟨A1, c1, rfl, _, _⟩ := Sl.form ka
      obtain ⟨A2, c2, rfl, _, _⟩ := Sl.form kb
      have h0 : (0 : Int) ≤ (k : Int) := by omega
      have h1 : (k : Int) < (l.length : Int) := by omega
      obtain ⟨r, hr⟩ : ∃ r, armFit x = r := ⟨_, rfl⟩
      rw [hr] at hq
      have HQ := Lib.hid hq
      have HX := Lib.hid hx
      have HR := Lib.hid hr
      clear hsa hx ka kb e2 hq hr
      cases r with
      | false =>
        have hb : b0 = true := by rw [← HB.out]; exact any_at (p := fun x => !armFit x) HX.out (by rw [HR.out]; rfl)
        subst hb
        go_wp2_with fail
        refine HQ.out.mono ?_
        rintro e w1 ⟨rfl, r1⟩
        go_wp2_with fail
        go_ret
        exact ⟨k, rfl, HW.out.trans r1, by simp⟩
      | true =>
        go_wp2_with fail
        refine HQ.out.mono ?_
        rintro e w1 ⟨rfl, r1⟩
        go_wp2_with fail
        go_roundw
        case rel =>
          refine ⟨k + 1, by omega, by go_num, HW.out.trans r1, fun j y hj hy => ?_⟩
          rcases Nat.lt_or_ge j k with hjk | hjk
          · exact HNO.out j y hjk hy
          · obtain rfl : j = k := by omega
            rw [HX.out] at hy
            injection hy with hy
            rw [← hy]
            show (!armFit x) = false
            rw [HR.out]
            rfl
        case measure => simp [intOf]; omega
    · obtain rfl : k = l.length := by omega
      have hb : b0 = false := by rw [← HB.out]; exact any_none HNO.out
      subst hb
      go_wp2_with fail
      go_ret
      exact ⟨-1, rfl, HW.out, by decide⟩
theorem has_arm (w : World) (P : Nat → Prop) (v : Value) (l : List ArmD) (h : SlArms w P v l) :
    Calls Try.prog 76 #[v, .func (.func 77) #[] #[]] w fun e w' => e = .returned (.bool (!(l.all armFit))) ∧ Wr [] w w' := by
  have h2 := idx_arm w P v l h
  have e : (l.any fun x => !armFit x) = !(l.all armFit) := by
    rw [Bool.eq_iff_iff]
    simp
  rw [e] at h2
  go_enter Try.func76, Try.ntmps76
  go_wp2_with fail
  refine h2.mono ?_
  rintro e w1 ⟨r, rfl, r1, hr⟩
  go_wp2_with fail
  go_ret
  exact ⟨by rw [← hr]; rfl, r1⟩
end Go.Proofs.Ytjanbpchedgoiaa

/- iface's fits: walked. No conditions. -/
namespace Go.Proofs.Ytjanbpchedgoiaa
open Go.RowKit
set_option linter.unusedVariables false
set_option linter.unusedSimpArgs false

theorem Lists.forms {w : World} {P : Nat → Prop} {vn vf va vp : Value} {t : Ty} (h : Lists w P vn vf va vp t) : (∃ A c, vn = .slice A t.names.length c ∧ t.names.length ≤ c ∧ c ≤ maxLen) ∧ (∃ A c, vf = .slice A t.fields.length c ∧ t.fields.length ≤ c ∧ c ≤ maxLen) ∧ (∃ A c, va = .slice A t.arms.length c ∧ t.arms.length ≤ c ∧ c ≤ maxLen) ∧ ∃ A c, vp = .slice A t.params.length c ∧ t.params.length ≤ c ∧ c ≤ maxLen :=
  ⟨Sl.form h.names, Sl.form h.fields, h.arms.form, Sl.form h.params⟩
theorem short_strs (w : World) (P : Nat → Prop) (A : Option Addr) (c : Nat) (l : List ByteArray) (hc : l.length ≤ c ∧ c ≤ maxLen) (h : SlStrs w P (.slice A l.length c) l) : Calls Try.prog 54 #[.slice A l.length c] w fun e w' => e = .returned (.bool (l.all shB)) ∧ Wr [] w w' := by
  have h1 := short_any w A l.length c (fun i => (l[i]?).getD ⟨#[]⟩) hc h.cellsAt
  rw [short_list (fun i s hi => by rw [hi]; rfl)] at h1
  exact h1
def FitAt (w : World) (g : Nat) (cs : Array Value) (l : List Fld) (k : Nat) (wr : World) : Prop := Wr [] w wr ∧ Blk wr g 55 cs ∧ ∀ (j : Nat) (x : Fld), j < k → l[j]? = some x → shB x.name = true
set_option maxRecDepth 100000 in
set_option maxHeartbeats 8000000 in
theorem fits_any (t : Ty) (vn vf va vp : Value) (P : Nat → Prop) (w : World) (h : Lists w P vn vf va vp t) :
    Calls Try.prog 55 #[.agg #[.int .u8 t.kind, .string t.module, .string t.name, .int .i64 t.base, .int .i64 t.index, .int .i64 t.low, .int .i64 t.high, vn, vf, va, vp, .int .i64 t.result]] w fun e w' => e = .returned (.bool (tyFit t)) ∧ Wr [] w w' := by
  obtain ⟨⟨A1, k1, rfl, hn1, hn2⟩, ⟨A2, k2, rfl, hf1, hf2⟩, ⟨A3, k3, rfl, ha1, ha2⟩, ⟨A4, k4, rfl, hp1, hp2⟩⟩ := h.forms
  have hv : tyFit t = ((shB t.module && shB t.name) && ((fwB t.names.length && (fwB t.fields.length && (fwB t.arms.length && fwB t.params.length))) && (t.names.all shB && (t.fields.all (fun f => shB f.name) && t.arms.all armFit)))) := by
    unfold tyFit
    simp only [Bool.and_assoc]
  obtain ⟨w0, hw0⟩ : ∃ q, w.alloc (.cells #[.int .u8 t.kind, .string t.module, .string t.name, .int .i64 t.base, .int .i64 t.index, .int .i64 t.low, .int .i64 t.high, .slice A1 t.names.length k1, .slice A2 t.fields.length k2, .slice A3 t.arms.length k3, .slice A4 t.params.length k4, .int .i64 t.result] 55) = q := ⟨_, rfl⟩
  obtain ⟨g, hg⟩ : ∃ g, w.heap.size = g := ⟨_, rfl⟩
  have acc : Wr [] w w0 := by rw [← hw0]; exact (Wr.refl [] _).alloc _
  have bA : Blk w0 g 55 #[.int .u8 t.kind, .string t.module, .string t.name, .int .i64 t.base, .int .i64 t.index, .int .i64 t.low, .int .i64 t.high, .slice A1 t.names.length k1, .slice A2 t.fields.length k2, .slice A3 t.arms.length k3, .slice A4 t.params.length k4, .int .i64 t.result] := by rw [← hw0, ← hg]; exact Blk.new _ _ _
  have hs2 := short_2 t.module t.name w0
  have hss := fun W (hW : Wr [] w W) => short_strs W P A1 k1 t.names ⟨hn1, hn2⟩ (Sl.wr0 h.names hW)
  have hsa := fun W (hW : Wr [] w W) => has_arm W P (.slice A3 t.arms.length k3) t.arms (SlArms.keep h.arms hW (fun _ _ => by simp))
  obtain ⟨r1, hr1⟩ : ∃ r, (shB t.module && shB t.name) = r := ⟨_, rfl⟩
  obtain ⟨r2, hr2⟩ : ∃ r, (fwB t.names.length && (fwB t.fields.length && (fwB t.arms.length && fwB t.params.length))) = r := ⟨_, rfl⟩
  obtain ⟨r3, hr3⟩ : ∃ r, t.names.all shB = r := ⟨_, rfl⟩
  obtain ⟨r5, hr5⟩ : ∃ r, t.arms.all armFit = r := ⟨_, rfl⟩
  obtain ⟨rr, hrr⟩ : ∃ r, tyFit t = r := ⟨_, rfl⟩
  rw [hr1] at hs2
  rw [hr3] at hss
  rw [hr5] at hsa
  rw [hr1, hr2, hr3, hr5, hrr] at hv
  rw [hrr]
  unfold maxLen at hn2 hf2 ha2 hp2
  have HS2 := Lib.hid hs2
  have HSS := Lib.hid hss
  have HSA := Lib.hid hsa
  have HV := Lib.hid hv
  have HR2 := Lib.hid hr2
  have HW0 := Lib.hid hw0
  have HG := Lib.hid hg
  have ACC := Lib.hid acc
  have BA := Lib.hid bA
  have HH := Lib.hid h
  clear hs2 hss hsa hv hr1 hr2 hr3 hr5 hrr hw0 hg acc bA h
  go_enter Try.func55, Try.ntmps55
  go_upto_region 1 with (fail)
  rw [HW0.out, HG.out]
  have c1 := (BA.out).cell 1
  have c2 := (BA.out).cell 2
  simp only [List.getElem?_toArray, List.getElem?_cons_zero, List.getElem?_cons_succ] at c1 c2
  go_wp2_with fail
  refine HS2.out.mono ?_
  rintro e w1 ⟨rfl, k⟩
  have acc1 := (Wr.refl [] w0).alloc (.cells #[.string t.module, .string t.name] 9) |>.trans k
  have ACC1 := Lib.hid (ACC.out.trans acc1)
  have BA1 := Lib.hid (BA.out.wr0 acc1)
  clear k acc1 c1 c2
  cases r1 with
  | false =>
    have hrr : rr = false := by rw [HV.out]; rfl
    subst hrr
    clear HV
    go_wp2_with fail
    go_ret
    exact ⟨rfl, ACC1.out⟩
  | true =>
  have c7 := (BA1.out).cell 7
  have c8 := (BA1.out).cell 8
  have c9 := (BA1.out).cell 9
  have c10 := (BA1.out).cell 10
  simp only [List.getElem?_toArray, List.getElem?_cons_zero, List.getElem?_cons_succ] at c7 c8 c9 c10
  have hf4 := few_4 t.names.length t.fields.length t.arms.length t.params.length w1
  rw [HR2.out] at hf4
  have HF4 := Lib.hid hf4
  clear hf4
  go_wp2_with fail
  refine HF4.out.mono ?_
  rintro e w2 ⟨rfl, k⟩
  have acc2 := (Wr.refl [] w1).alloc (.cells #[.int .i64 (t.names.length : Int), .int .i64 (t.fields.length : Int), .int .i64 (t.arms.length : Int), .int .i64 (t.params.length : Int)] 3) |>.trans k
  have ACC2 := Lib.hid (ACC1.out.trans acc2)
  have BA2 := Lib.hid (BA1.out.wr0 acc2)
  clear k acc2 c7 c8 c9 c10
  cases r2 with
  | false =>
    have hrr : rr = false := by rw [HV.out]; rfl
    subst hrr
    clear HV
    go_wp2_with fail
    go_ret
    exact ⟨rfl, ACC2.out⟩
  | true =>
  have c7 := (BA2.out).cell 7
  simp only [List.getElem?_toArray, List.getElem?_cons_zero, List.getElem?_cons_succ] at c7
  go_wp2_with fail
  refine (HSS.out _ ACC2.out).mono ?_
  rintro e w3 ⟨rfl, k⟩
  have ACC3 := Lib.hid (ACC2.out.trans k)
  have BA3 := Lib.hid (BA2.out.wr0 k)
  clear k c7
  cases r3 with
  | false =>
    have hrr : rr = false := by rw [HV.out]; rfl
    subst hrr
    clear HV
    go_wp2_with fail
    go_ret
    exact ⟨rfl, ACC3.out⟩
  | true =>
  have hv2 : rr = (t.fields.all (fun f => shB f.name) && r5) := by rw [HV.out]; rfl
  have HV2 := Lib.hid hv2
  have c8 := (BA3.out).cell 8
  simp only [List.getElem?_toArray, List.getElem?_cons_zero, List.getElem?_cons_succ] at c8
  clear hv2
  go_wp2_with fail
  go_loopw [38] (fun s38 wr => ∃ k : Nat, k ≤ t.fields.length ∧ s38 = .int .i64 k ∧ FitAt w g #[.int .u8 t.kind, .string t.module, .string t.name, .int .i64 t.base, .int .i64 t.index, .int .i64 t.low, .int .i64 t.high, .slice A1 t.names.length k1, .slice A2 t.fields.length k2, .slice A3 t.arms.length k3, .slice A4 t.params.length k4, .int .i64 t.result] t.fields k wr) (fun s38 _ => t.fields.length - (intOf s38).toNat)
  case atStart => exact ⟨0, by omega, rfl, ACC3.out, BA3.out, fun j x hj => absurd hj (by omega)⟩
  case round =>
    obtain ⟨k, hk, rfl, acck, bk, hno⟩ := hrel
    have ACCK := Lib.hid acck
    have BK := Lib.hid bk
    have HNO := Lib.hid hno
    clear acck bk hno c8
    by_cases hlt : k < t.fields.length
    · obtain ⟨x, hx⟩ : ∃ x, t.fields[k]? = some x := ⟨_, List.getElem?_eq_getElem hlt⟩
      obtain ⟨b, off, c', e, _, hc⟩ := fld_at (Sl.wr0 HH.out.fields ACCK.out) hx
      injection e with e1 e2 e3
      subst e1 e3
      have x0 := hc 0 _ rfl
      have x1 := hc 1 _ rfl
      have x2 := hc 2 _ rfl
      simp only [Nat.add_zero] at x0
      have hs1 := short_1 x.name (wr.alloc (.cells #[.string x.name, .int .i64 x.type, .int .i64 x.arm] 75))
      rw [World.size_alloc] at hs1
      obtain ⟨r, hr⟩ : ∃ r, shB x.name = r := ⟨_, rfl⟩
      rw [hr] at hs1
      have HS1 := Lib.hid hs1
      have HX := Lib.hid hx
      have HR := Lib.hid hr
      have h0 : (0 : Int) ≤ (k : Int) := by omega
      have h1 : (k : Int) < (t.fields.length : Int) := by omega
      clear hc e2 hs1 hx hr
      go_wp2_with fail
      refine HS1.out.mono ?_
      rintro e w5 ⟨rfl, r5'⟩
      have acc5 := (((Wr.refl [] wr).alloc (.cells #[.string x.name, .int .i64 x.type, .int .i64 x.arm] 75)).alloc (.cells #[.string x.name] 9)).trans r5'
      have ACC5 := Lib.hid acc5
      clear acc5 r5' x0 x1 x2
      cases r with
      | false =>
        have hall : t.fields.all (fun f => shB f.name) = false := by
          rw [List.all_eq_false]
          exact ⟨x, List.mem_of_getElem? HX.out, by rw [HR.out]; decide⟩
        have hrr : rr = false := by rw [HV2.out, hall]; rfl
        subst hrr
        clear HV HV2 hall
        go_wp2_with fail
        go_ret
        exact ⟨rfl, ACCK.out.trans ACC5.out⟩
      | true =>
        go_wp2_with fail
        go_roundw
        case rel =>
          refine ⟨k + 1, by omega, by go_num, ACCK.out.trans ACC5.out, BK.out.wr0 ACC5.out, fun j y hj hy => ?_⟩
          rcases Nat.lt_or_ge j k with hjk | hjk
          · exact HNO.out j y hjk hy
          · obtain rfl : j = k := by omega
            rw [HX.out] at hy
            injection hy with hy
            rw [← hy]
            exact HR.out
        case measure => simp [intOf]; omega
    · obtain rfl : k = t.fields.length := by omega
      have hall : t.fields.all (fun f => shB f.name) = true := by
        rw [List.all_eq_true]
        intro x hx
        obtain ⟨j, hj⟩ := List.getElem?_of_mem hx
        exact HNO.out j x (List.getElem?_eq_some_iff.1 hj).1 hj
      have hrr : rr = r5 := by rw [HV2.out, hall]; rfl
      subst hrr
      have c9 := (BK.out).cell 9
      simp only [List.getElem?_toArray, List.getElem?_cons_zero, List.getElem?_cons_succ] at c9
      clear hall HV HV2
      go_wp2_with fail
      refine (HSA.out _ ACCK.out).mono ?_
      rintro e w6 ⟨rfl, r6⟩
      go_wp2_with fail
      go_ret
      exact ⟨by simp, ACCK.out.trans r6⟩
end Go.Proofs.Ytjanbpchedgoiaa

/- iface's fitting: walked. No conditions. -/
namespace Go.Proofs.Ytjanbpchedgoiaa
open Go.RowKit
set_option linter.unusedVariables false
set_option linter.unusedSimpArgs false

theorem FaceL.forms {w : World} {P : Nat → Prop} {vu vt vi : Value} {f : FaceD} (h : FaceL w P vu vt vi f) : (∃ A c, vu = .slice A f.uses.length c ∧ f.uses.length ≤ c ∧ c ≤ maxLen) ∧ (∃ A c, vt = .slice A f.types.length c ∧ f.types.length ≤ c ∧ c ≤ maxLen) ∧ ∃ A c, vi = .slice A f.items.length c ∧ f.items.length ≤ c ∧ c ≤ maxLen :=
  ⟨Sl.form h.uses, h.types.form, Sl.form h.items⟩
theorem stored_any (V : Value) (h : V.oneCell' = true) : ∀ (w : World) (a : Addr) (m : Mode), (store a V m).run Try.prog w = stored Try.prog w a V m := fun w a m => run_store _ w a V m h
theorem anyFit_eq (v : AnyD) : anyFit v = (!(v.sort == 5) || fwB v.strV.size) := by cases v <;> rfl
/-- How far a list has been looked at. -/
def SeenF {α : Type} (w : World) (g : Nat) (cs : Array Value) (l : List α) (p : α → Bool) (k : Nat) (wr : World) : Prop := Wr [] w wr ∧ Blk wr g 39 cs ∧ ∀ (j : Nat) (x : α), j < k → l[j]? = some x → p x = true
theorem all_seen {α : Type} {l : List α} {p : α → Bool} (h : ∀ (j : Nat) (x : α), j < l.length → l[j]? = some x → p x = true) : l.all p = true := by
  rw [List.all_eq_true]
  intro x hx
  obtain ⟨j, hj⟩ := List.getElem?_of_mem hx
  exact h j x (List.getElem?_eq_some_iff.1 hj).1 hj
theorem all_bad {α : Type} {l : List α} {p : α → Bool} {k : Nat} {x : α} (hk : l[k]? = some x) (h : p x = false) : l.all p = false := by
  rw [List.all_eq_false]
  exact ⟨x, List.mem_of_getElem? hk, by rw [h]; decide⟩
theorem seen_next {α : Type} {l : List α} {p : α → Bool} {k : Nat} {x : α} (hno : ∀ (j : Nat) (x : α), j < k → l[j]? = some x → p x = true) (hk : l[k]? = some x) (h : p x = true) : ∀ (j : Nat) (x : α), j < k + 1 → l[j]? = some x → p x = true := fun j y hj hy => by
  rcases Nat.lt_or_ge j k with hjk | hjk
  · exact hno j y hjk hy
  · obtain rfl : j = k := by omega
    rw [hk] at hy
    injection hy with hy
    rw [← hy]
    exact h
set_option maxRecDepth 100000 in
set_option maxHeartbeats 8000000 in
theorem fitting_any (f : FaceD) (vu vt vi : Value) (P : Nat → Prop) (w : World) (h : FaceL w P vu vt vi f) :
    Calls Try.prog 26 #[.agg #[.string f.module, vu, vt, vi]] w fun e w' => e = .returned (.bool (faceFit f)) ∧ Wr [] w w' := by
  obtain ⟨⟨A1, k1, rfl, hn1, hn2⟩, ⟨A2, k2, rfl, hf1, hf2⟩, ⟨A3, k3, rfl, ha1, ha2⟩⟩ := h.forms
  have hv : faceFit f = (decide (f.uses.length ≤ 64) && (decide (f.items.length ≤ 512) && (decide (f.types.length ≤ 1024) && (shB f.module && (f.uses.all (fun u => shB u.module) && (f.types.all tyFit && f.items.all itmFit)))))) := by
    unfold faceFit
    simp only [Bool.and_assoc]
  obtain ⟨w0, hw0⟩ : ∃ q, w.alloc (.cells #[.string f.module, .slice A1 f.uses.length k1, .slice A2 f.types.length k2, .slice A3 f.items.length k3] 39) = q := ⟨_, rfl⟩
  obtain ⟨g, hg⟩ : ∃ g, w.heap.size = g := ⟨_, rfl⟩
  have acc : Wr [] w w0 := by rw [← hw0]; exact (Wr.refl [] _).alloc _
  have bA : Blk w0 g 39 #[.string f.module, .slice A1 f.uses.length k1, .slice A2 f.types.length k2, .slice A3 f.items.length k3] := by rw [← hw0, ← hg]; exact Blk.new _ _ _
  have hs1 := short_1 f.module w0
  obtain ⟨r1, hr1⟩ : ∃ r, shB f.module = r := ⟨_, rfl⟩
  obtain ⟨rr, hrr⟩ : ∃ r, faceFit f = r := ⟨_, rfl⟩
  rw [hr1] at hs1
  rw [hr1, hrr] at hv
  rw [hrr]
  unfold maxLen at hn2 hf2 ha2
  have HS1 := Lib.hid hs1
  have HV := Lib.hid hv
  have HW0 := Lib.hid hw0
  have HG := Lib.hid hg
  have ACC := Lib.hid acc
  have BA := Lib.hid bA
  have HH := Lib.hid h
  clear hs1 hv hr1 hrr hw0 hg acc bA h
  go_enter Try.func26, Try.ntmps26
  go_upto_region 1 with (fail)
  rw [HW0.out, HG.out]
  have c0 := (BA.out).cell 0
  have c1 := (BA.out).cell 1
  have c2 := (BA.out).cell 2
  have c3 := (BA.out).cell 3
  simp only [List.getElem?_toArray, List.getElem?_cons_zero, List.getElem?_cons_succ] at c0 c1 c2 c3
  by_cases q1 : 64 < f.uses.length
  · have q1i : decide ((64 : Int) < (f.uses.length : Int)) = true := decide_eq_true (by omega)
    have q1n : decide (64 < f.uses.length) = true := decide_eq_true q1
    have hrr : rr = false := by rw [HV.out, decide_eq_false (show ¬ f.uses.length ≤ 64 by omega)]; rfl
    subst hrr
    clear HV
    go_wp2_with fail
    go_ret
    exact ⟨rfl, ACC.out⟩
  have q1i : decide ((64 : Int) < (f.uses.length : Int)) = false := decide_eq_false (by omega)
  have q1n : decide (64 < f.uses.length) = false := decide_eq_false q1
  by_cases q2 : 512 < f.items.length
  · have q2i : decide ((512 : Int) < (f.items.length : Int)) = true := decide_eq_true (by omega)
    have q2n : decide (512 < f.items.length) = true := decide_eq_true q2
    have hrr : rr = false := by rw [HV.out, decide_eq_false (show ¬ f.items.length ≤ 512 by omega), Bool.and_comm]; rfl
    subst hrr
    clear HV
    go_wp2_with fail
    go_ret
    exact ⟨rfl, ACC.out⟩
  have q2i : decide ((512 : Int) < (f.items.length : Int)) = false := decide_eq_false (by omega)
  have q2n : decide (512 < f.items.length) = false := decide_eq_false q2
  by_cases q3 : 1024 < f.types.length
  · have q3i : decide ((1024 : Int) < (f.types.length : Int)) = true := decide_eq_true (by omega)
    have q3n : decide (1024 < f.types.length) = true := decide_eq_true q3
    have hrr : rr = false := by rw [HV.out, decide_eq_false (show ¬ f.types.length ≤ 1024 by omega)]; simp
    subst hrr
    clear HV
    go_wp2_with fail
    go_ret
    exact ⟨rfl, ACC.out⟩
  have q3i : decide ((1024 : Int) < (f.types.length : Int)) = false := decide_eq_false (by omega)
  have q3n : decide (1024 < f.types.length) = false := decide_eq_false q3
  have hv1 : rr = (r1 && (f.uses.all (fun u => shB u.module) && (f.types.all tyFit && f.items.all itmFit))) := by
    rw [HV.out, decide_eq_true (show f.uses.length ≤ 64 by omega), decide_eq_true (show f.items.length ≤ 512 by omega), decide_eq_true (show f.types.length ≤ 1024 by omega)]
    rfl
  have HV1 := Lib.hid hv1
  clear hv1 HV q1 q2 q3
  go_wp2_with fail
  refine HS1.out.mono ?_
  rintro e w1 ⟨rfl, k⟩
  have acc1 := (Wr.refl [] w0).alloc (.cells #[.string f.module] 9) |>.trans k
  have ACC1 := Lib.hid (ACC.out.trans acc1)
  have BA1 := Lib.hid (BA.out.wr0 acc1)
  clear k acc1 c0 c1 c2 c3
  cases r1 with
  | false =>
    have hrr : rr = false := by rw [HV1.out]; rfl
    subst hrr
    clear HV1
    go_wp2_with fail
    go_ret
    exact ⟨rfl, ACC1.out⟩
  | true =>
  have hv2 : rr = (f.uses.all (fun u => shB u.module) && (f.types.all tyFit && f.items.all itmFit)) := by rw [HV1.out]; rfl
  have HV2 := Lib.hid hv2
  have c1 := (BA1.out).cell 1
  simp only [List.getElem?_toArray, List.getElem?_cons_zero, List.getElem?_cons_succ] at c1
  clear hv2 HV1
  go_wp2_with fail
  go_loopw [37] (fun s37 wr => ∃ k : Nat, k ≤ f.uses.length ∧ s37 = .int .i64 k ∧ SeenF w g #[.string f.module, .slice A1 f.uses.length k1, .slice A2 f.types.length k2, .slice A3 f.items.length k3] f.uses (fun u => shB u.module) k wr) (fun s37 _ => f.uses.length - (intOf s37).toNat)
  case atStart => exact ⟨0, by omega, rfl, ACC1.out, BA1.out, fun j x hj => absurd hj (by omega)⟩
  case round =>
    obtain ⟨k, hk, rfl, acck, bk, hno⟩ := hrel
    have ACCK := Lib.hid acck
    have BK := Lib.hid bk
    have HNO := Lib.hid hno
    clear acck bk hno c1
    by_cases hlt : k < f.uses.length
    · obtain ⟨x, hx⟩ : ∃ x, f.uses[k]? = some x := ⟨_, List.getElem?_eq_getElem hlt⟩
      obtain ⟨b, off, c', e, _, hc⟩ := useF_at (Sl.wr0 HH.out.uses ACCK.out) hx
      injection e with e1 e2 e3
      subst e1 e3
      have x0 := hc 0 _ rfl
      have x1 := hc 1 _ rfl
      simp only [Nat.add_zero] at x0
      have hs1 := short_1 x.module (wr.alloc (.cells #[.string x.module, .int .u64 x.key] 61))
      rw [World.size_alloc] at hs1
      obtain ⟨r, hr⟩ : ∃ r, shB x.module = r := ⟨_, rfl⟩
      rw [hr] at hs1
      have HS := Lib.hid hs1
      have HX := Lib.hid hx
      have HR := Lib.hid hr
      have h0 : (0 : Int) ≤ (k : Int) := by omega
      have h1 : (k : Int) < (f.uses.length : Int) := by omega
      clear hc e2 hs1 hx hr
      go_wp2_with fail
      refine HS.out.mono ?_
      rintro e w5 ⟨rfl, r5'⟩
      have acc5 := (((Wr.refl [] wr).alloc (.cells #[.string x.module, .int .u64 x.key] 61)).alloc (.cells #[.string x.module] 9)).trans r5'
      have ACC5 := Lib.hid acc5
      clear acc5 r5' x0 x1
      cases r with
      | false =>
        have hrr : rr = false := by rw [HV2.out, all_bad (p := fun u => shB u.module) HX.out HR.out]; rfl
        subst hrr
        clear HV2
        go_wp2_with fail
        go_ret
        exact ⟨rfl, ACCK.out.trans ACC5.out⟩
      | true =>
        go_wp2_with fail
        go_roundw
        case rel => exact ⟨k + 1, by omega, by go_num, ACCK.out.trans ACC5.out, BK.out.wr0 ACC5.out, seen_next HNO.out HX.out HR.out⟩
        case measure => simp [intOf]; omega
    · obtain rfl : k = f.uses.length := by omega
      have hv3 : rr = (f.types.all tyFit && f.items.all itmFit) := by rw [HV2.out, all_seen HNO.out]; rfl
      have HV3 := Lib.hid hv3
      have c2 := (BK.out).cell 2
      simp only [List.getElem?_toArray, List.getElem?_cons_zero, List.getElem?_cons_succ] at c2
      clear hv3 HV2
      go_wp2_with fail
      go_loopw [50] (fun s50 wr => ∃ k : Nat, k ≤ f.types.length ∧ s50 = .int .i64 k ∧ SeenF w g #[.string f.module, .slice A1 f.uses.length k1, .slice A2 f.types.length k2, .slice A3 f.items.length k3] f.types tyFit k wr) (fun s50 _ => f.types.length - (intOf s50).toNat)
      case atStart => exact ⟨0, by omega, rfl, ACCK.out, BK.out, fun j x hj => absurd hj (by omega)⟩
      case round =>
        obtain ⟨k, hk, rfl, acck, bk, hno⟩ := hrel
        have ACCT := Lib.hid acck
        have BT := Lib.hid bk
        have HNOT := Lib.hid hno
        clear acck bk hno c2
        by_cases hlt : k < f.types.length
        · obtain ⟨x, hx⟩ : ∃ x, f.types[k]? = some x := ⟨_, List.getElem?_eq_getElem hlt⟩
          obtain ⟨b, off, c', un, uf, ua, up, e, _, hc, hl⟩ := ty_at (HH.out.types.wr0 ACCT.out) hx
          injection e with e1 e2 e3
          subst e1 e3
          obtain ⟨⟨B1, m1, rfl, _, _⟩, ⟨B2, m2, rfl, _, _⟩, ⟨B3, m3, rfl, _, _⟩, ⟨B4, m4, rfl, _, _⟩⟩ := hl.forms
          have x0 := hc 0 _ rfl
          have x1 := hc 1 _ rfl
          have x2 := hc 2 _ rfl
          have x3 := hc 3 _ rfl
          have x4 := hc 4 _ rfl
          have x5 := hc 5 _ rfl
          have x6 := hc 6 _ rfl
          have x7 := hc 7 _ rfl
          have x8 := hc 8 _ rfl
          have x9 := hc 9 _ rfl
          have x10 := hc 10 _ rfl
          have x11 := hc 11 _ rfl
          simp only [Nat.add_zero] at x0
          have hft := fits_any x _ _ _ _ _ (wr.alloc (.cells #[.int .u8 x.kind, .string x.module, .string x.name, .int .i64 x.base, .int .i64 x.index, .int .i64 x.low, .int .i64 x.high, .slice B1 x.names.length m1, .slice B2 x.fields.length m2, .slice B3 x.arms.length m3, .slice B4 x.params.length m4, .int .i64 x.result] 55)) (hl.wr0 ((Wr.refl [] wr).alloc _))
          obtain ⟨r, hr⟩ : ∃ r, tyFit x = r := ⟨_, rfl⟩
          rw [hr] at hft
          have HFT := Lib.hid hft
          have HX := Lib.hid hx
          have HR := Lib.hid hr
          have h0 : (0 : Int) ≤ (k : Int) := by omega
          have h1 : (k : Int) < (f.types.length : Int) := by omega
          clear hc e2 hft hx hr hl
          go_wp2_with fail
          refine HFT.out.mono ?_
          rintro e w5 ⟨rfl, r5'⟩
          have acc5 := ((Wr.refl [] wr).alloc (.cells #[.int .u8 x.kind, .string x.module, .string x.name, .int .i64 x.base, .int .i64 x.index, .int .i64 x.low, .int .i64 x.high, .slice B1 x.names.length m1, .slice B2 x.fields.length m2, .slice B3 x.arms.length m3, .slice B4 x.params.length m4, .int .i64 x.result] 55)).trans r5'
          have ACC5 := Lib.hid acc5
          clear acc5 r5' x0 x1 x2 x3 x4 x5 x6 x7 x8 x9 x10 x11
          cases r with
          | false =>
            have hrr : rr = false := by rw [HV3.out, all_bad (p := tyFit) HX.out HR.out]; rfl
            subst hrr
            clear HV3
            go_wp2_with fail
            go_ret
            exact ⟨rfl, ACCT.out.trans ACC5.out⟩
          | true =>
            go_wp2_with fail
            go_roundw
            case rel => exact ⟨k + 1, by omega, by go_num, ACCT.out.trans ACC5.out, BT.out.wr0 ACC5.out, seen_next HNOT.out HX.out HR.out⟩
            case measure => simp [intOf]; omega
        · obtain rfl : k = f.types.length := by omega
          have hv4 : rr = f.items.all itmFit := by rw [HV3.out, all_seen HNOT.out]; rfl
          have HV4 := Lib.hid hv4
          have c3 := (BT.out).cell 3
          simp only [List.getElem?_toArray, List.getElem?_cons_zero, List.getElem?_cons_succ] at c3
          clear hv4 HV3
          go_wp2_with fail
          go_loopw [61] (fun s61 wr => ∃ k : Nat, k ≤ f.items.length ∧ s61 = .int .i64 k ∧ SeenF w g #[.string f.module, .slice A1 f.uses.length k1, .slice A2 f.types.length k2, .slice A3 f.items.length k3] f.items itmFit k wr) (fun s61 _ => f.items.length - (intOf s61).toNat)
          case atStart => exact ⟨0, by omega, rfl, ACCT.out, BT.out, fun j x hj => absurd hj (by omega)⟩
          case round =>
            obtain ⟨k, hk, rfl, acck, bk, hno⟩ := hrel
            have ACCI := Lib.hid acck
            have BI := Lib.hid bk
            have HNOI := Lib.hid hno
            clear acck bk hno c3
            by_cases hlt : k < f.items.length
            · obtain ⟨x, hx⟩ : ∃ x, f.items[k]? = some x := ⟨_, List.getElem?_eq_getElem hlt⟩
              obtain ⟨b, off, c', e, _, hc⟩ := itm_at (Sl.wr0 HH.out.items ACCI.out) hx
              injection e with e1 e2 e3
              subst e1 e3
              have x0 := hc 0 _ rfl
              have x1 := hc 1 _ rfl
              have x2 := hc 2 _ rfl
              have x3 := hc 3 _ rfl
              have x4 := hc 4 _ rfl
              simp only [Nat.add_zero] at x0
              have hst := stored_any x.v.val x.v.val_one
              have hta := fun w => anyAs_string x.v w
              obtain ⟨V, hV⟩ : ∃ V, x.v.val = V := ⟨_, rfl⟩
              obtain ⟨sv, hsv⟩ : ∃ s, x.v.strV = s := ⟨_, rfl⟩
              obtain ⟨is, his⟩ : ∃ b, (x.v.sort == 5) = b := ⟨_, rfl⟩
              have hfe := anyFit_eq x.v
              rw [hsv, his] at hta hfe
              rw [hV] at x3 hst hta
              have hs1 := short_1 x.name (wr.alloc (.cells #[.string x.name, .int .u8 x.kind, .int .i64 x.type, V, .int .i64 x.at_] 57))
              rw [World.size_alloc] at hs1
              obtain ⟨r, hr⟩ : ∃ r, shB x.name = r := ⟨_, rfl⟩
              rw [hr] at hs1
              have hfx : itmFit x = (r && (!is || fwB sv.size)) := by unfold itmFit; rw [hr, hfe]
              have HS := Lib.hid hs1
              have HX := Lib.hid hx
              have HFX := Lib.hid hfx
              have h0 : (0 : Int) ≤ (k : Int) := by omega
              have h1 : (k : Int) < (f.items.length : Int) := by omega
              clear hc e2 hs1 hx hr hV hsv his hfe hfx
              go_wp2_with fail
              refine HS.out.mono ?_
              rintro e w5 ⟨rfl, r5'⟩
              have acc5 := (((Wr.refl [] wr).alloc (.cells #[.string x.name, .int .u8 x.kind, .int .i64 x.type, V, .int .i64 x.at_] 57)).alloc (.cells #[.string x.name] 9)).trans r5'
              have ACC5 := Lib.hid (ACCI.out.trans acc5)
              have BI5 := Lib.hid (BI.out.wr0 acc5)
              clear acc5 r5' x0 x1 x2 x3 x4 hst hta
              cases r with
              | false =>
                have hrr : rr = false := by rw [HV4.out, all_bad (p := itmFit) HX.out (by rw [HFX.out]; rfl)]
                subst hrr
                clear HV4
                go_wp2_with fail
                go_ret
                exact ⟨rfl, ACC5.out⟩
              | true =>
                cases is with
                | false =>
                  go_wp2_with fail
                  go_roundw
                  case rel => exact ⟨k + 1, by omega, by go_num, ACC5.out, BI5.out, seen_next HNOI.out HX.out (by rw [HFX.out]; rfl)⟩
                  case measure => simp [intOf]; omega
                | true =>
                  have hf1 := few_1 sv.size w5
                  obtain ⟨rf, hrf⟩ : ∃ r, fwB sv.size = r := ⟨_, rfl⟩
                  rw [hrf] at hf1
                  have HF1 := Lib.hid hf1
                  have HRF := Lib.hid hrf
                  clear hf1 hrf
                  go_wp2_with fail
                  refine HF1.out.mono ?_
                  rintro e w6 ⟨rfl, r6⟩
                  have acc6 := ((Wr.refl [] w5).alloc (.cells #[.int .i64 (sv.size : Int)] 3)).trans r6
                  have ACC6 := Lib.hid (ACC5.out.trans acc6)
                  have BI6 := Lib.hid (BI5.out.wr0 acc6)
                  clear acc6 r6
                  cases rf with
                  | false =>
                    have hrr : rr = false := by rw [HV4.out, all_bad (p := itmFit) HX.out (by rw [HFX.out, HRF.out]; rfl)]
                    subst hrr
                    clear HV4
                    go_wp2_with fail
                    go_ret
                    exact ⟨rfl, ACC6.out⟩
                  | true =>
                    go_wp2_with fail
                    go_roundw
                    case rel => exact ⟨k + 1, by omega, by go_num, ACC6.out, BI6.out, seen_next HNOI.out HX.out (by rw [HFX.out, HRF.out]; rfl)⟩
                    case measure => simp [intOf]; omega
            · obtain rfl : k = f.items.length := by omega
              have hrr : rr = true := by rw [HV4.out, all_seen HNOI.out]
              subst hrr
              clear HV4
              go_wp2_with fail
              go_ret
              exact ⟨rfl, ACCI.out⟩
end Go.Proofs.Ytjanbpchedgoiaa

/- Maps that are known whole: what an insertion makes of them, what a look-up finds. No conditions. -/
namespace Go.Proofs.Ytjanbpchedgoiaa
open Go.RowKit
set_option linter.unusedVariables false

/-- A key and its value put into a map. -/
theorem ins_at {P : Program} {T K E : TypeId} {d : TypeDesc} (hu : P.underlying T = some (.map K E)) (hk : P.underlying K = some d) (w1 : World) (r : Nat) (es : Array MapEntry) (c : Nat) (k v : Value)
    (hw : w1.heap[r]? = some (.map es c)) (hc : ∀ w, (Instr.checkKey false 10000 K k).run P w = .ok () w) (hf : Instr.findNow d k es.toList 0 = some none) :
    (Instr.mapUpdate T (.map (some r)) k v).run P w1 = .ok () { w1 with heap := w1.heap.setIfInBounds r (.map (es.push { key := k, val := v, born := c }) (c + 1)) } := by
  simp [Instr.mapUpdate, run_underlying hu, Sem.run_bind, hc, Instr.findKey, run_underlying hk, hf, getObj, setObj, Sem.run, hw, Result.andThen]

/-- The same of a map in the newest block. -/
theorem ins_new {P : Program} {T K E : TypeId} {d : TypeDesc} (hu : P.underlying T = some (.map K E)) (hk : P.underlying K = some d) (w : World) (es : Array MapEntry) (c : Nat) (k v : Value)
    (hc : ∀ w, (Instr.checkKey false 10000 K k).run P w = .ok () w) (hf : Instr.findNow d k es.toList 0 = some none) :
    (Instr.mapUpdate T (.map (some w.heap.size)) k v).run P (w.alloc (.map es c)) = .ok () (w.alloc (.map (es.push { key := k, val := v, born := c }) (c + 1))) := by
  rw [ins_at hu hk (w.alloc (.map es c)) w.heap.size es c k v (heap_alloc_new w _) hc hf]
  have h : ∀ (a : Array Obj) (o o' : Obj), (a.push o).setIfInBounds a.size o' = a.push o' := by
    intro a o o'
    apply Array.ext'
    simp
  exact congrArg (fun hp => Result.ok () ({ w with heap := hp } : World)) (h w.heap _ _)

/-- What a look-up finds. -/
theorem look_at {P : Program} {T K E : TypeId} {d : TypeDesc} (hu : P.underlying T = some (.map K E)) (hk : P.underlying K = some d) (w : World) (r : Nat) (es : Array MapEntry) (c : Nat) (k : Value) (o : Option (Nat × Value)) (z : Value)
    (hw : w.heap[r]? = some (.map es c)) (hc : ∀ b w, (Instr.checkKey b 10000 K k).run P w = .ok () w) (hf : Instr.findNow d k es.toList 0 = some o) (hz : ∀ w, (zeroValue E).run P w = .ok z w) (ok : Bool) :
    (Instr.lookup T (.map (some r)) k ok).run P w = .ok (bif ok then .tuple #[(o.map (·.2)).getD z, .bool o.isSome] else (o.map (·.2)).getD z) w := by
  cases o with
  | none => cases ok <;> simp [Instr.lookup, run_underlying hu, Sem.run_bind, hc, Instr.findKey, run_underlying hk, hf, getObj, Sem.run, hw, Result.andThen, hz]
  | some p => cases ok <;> simp [Instr.lookup, run_underlying hu, Sem.run_bind, hc, Instr.findKey, run_underlying hk, hf, getObj, Sem.run, hw, Result.andThen]
end Go.Proofs.Ytjanbpchedgoiaa

/- Maps by strings: what they hold, as a function; an update, a look-up. No conditions. -/
namespace Go.Proofs.Ytjanbpchedgoiaa
open Go.RowKit
set_option linter.unusedVariables false

theorem beqB (a b : ByteArray) : (a == b) = decide (a = b) := by
  rw [Bool.eq_iff_iff, decide_eq_true_iff]
  obtain ⟨x⟩ := a
  obtain ⟨y⟩ := b
  show (x == y) = true ↔ _
  rw [beq_iff_eq]
  simp
/-- What lies there under a string. -/
def fndS : List MapEntry → ByteArray → Option Value
  | [], _ => none
  | e :: l, k => match e.key with | .string a => if a = k then some e.val else fndS l k | _ => none
def StrKeys (l : List MapEntry) : Prop := ∀ e ∈ l, ∃ a, e.key = .string a

theorem findNow_str : ∀ (l : List MapEntry) (k : ByteArray) (i : Nat), StrKeys l → ∃ o, Instr.findNow .string (.string k) l i = some o ∧ o.map (·.2) = fndS l k ∧
    ∀ p, o = some p → ∃ j e, p.1 = i + j ∧ l[j]? = some e ∧ e.key = .string k ∧ ∀ v k', fndS (l.modify j fun e => { e with key := .string k, val := v }) k' = if k' = k then some v else fndS l k'
  | [], k, i, _ => ⟨none, rfl, rfl, fun p h => by cases h⟩
  | e :: l, k, i, h => by
    obtain ⟨a, ha⟩ := h e (.head _)
    by_cases hak : a = k
    · subst hak
      refine ⟨some (i, e.val), ?_, ?_, ?_⟩
      · simp [Instr.findNow, Instr.sameNow, ha, beqB]
      · simp [fndS, ha]
      · intro p hp
        injection hp with hp
        subst hp
        refine ⟨0, e, by simp, rfl, ha, fun v k' => ?_⟩
        simp only [List.modify_zero_cons, fndS, ha]
        by_cases h1 : k' = a
        · subst h1; simp
        · have h2 : ¬ a = k' := fun e => h1 e.symm
          simp [h1, h2]
    · obtain ⟨o, h1, h2, h3⟩ := findNow_str l k (i + 1) (fun e he => h e (.tail _ he))
      refine ⟨o, ?_, ?_, ?_⟩
      · have : (k == a) = false := by rw [beqB]; exact decide_eq_false (fun e => hak e.symm)
        simp [Instr.findNow, Instr.sameNow, ha, this, h1]
      · simp [fndS, ha, hak, h2]
      · intro p hp
        obtain ⟨j, e', g1, g2, g3, g4⟩ := h3 p hp
        refine ⟨j + 1, e', by omega, g2, g3, fun v k' => ?_⟩
        simp only [List.modify_succ_cons, fndS, ha]
        by_cases h5 : a = k'
        · subst h5
          simp [hak]
        · simp only [h5, if_false]
          exact g4 v k'
theorem fndS_push (l : List MapEntry) (k : ByteArray) (v : Value) (b : Nat) (h : fndS l k = none) (hk : StrKeys l) (k' : ByteArray) : fndS (l ++ [{ key := .string k, val := v, born := b }]) k' = if k' = k then some v else fndS l k' := by
  induction l with
  | nil =>
    simp only [List.nil_append, fndS]
    by_cases h1 : k' = k
    · subst h1; simp
    · have : ¬ k = k' := fun e => h1 e.symm
      simp [h1, this]
  | cons e l ih =>
    obtain ⟨a, ha⟩ := hk e (.head _)
    simp only [List.cons_append, fndS, ha] at h ⊢
    by_cases h2 : a = k
    · simp [h2] at h
    · rw [if_neg h2] at h
      by_cases h3 : a = k'
      · subst h3
        simp [h2]
      · simp only [h3, if_false]
        exact ih h (fun e he => hk e (.tail _ he))

theorem strKeys_modify (l : List MapEntry) (h : StrKeys l) (j : Nat) (k : ByteArray) (v : Value) : StrKeys (l.modify j fun e => { e with key := .string k, val := v }) := by
  intro e he
  obtain ⟨i, hi⟩ := List.mem_iff_getElem?.1 he
  rw [List.getElem?_modify] at hi
  cases hx : l[i]? with
  | none => rw [hx] at hi; cases hi
  | some x =>
    rw [hx] at hi
    by_cases hj : j = i
    · subst hj
      simp at hi
      subst hi
      exact ⟨k, rfl⟩
    · simp [hj] at hi
      subst hi
      exact h x (List.mem_of_getElem? hx)

/-- A map by strings, in block r: kn says what it holds. -/
def MapS (w : World) (r : Nat) (kn : ByteArray → Option Value) : Prop := ∃ es c, w.heap[r]? = some (.map es c) ∧ StrKeys es.toList ∧ ∀ k, fndS es.toList k = kn k
theorem MapS.wr {w w' : World} {r : Nat} {kn : ByteArray → Option Value} {l : List Nat} (h : MapS w r kn) (hw : Wr l w w') (hr : r ∉ l) : MapS w' r kn := by
  obtain ⟨es, c, h1, h2, h3⟩ := h
  have hlt : r < w.heap.size := by
    rcases Nat.lt_or_ge r w.heap.size with h | h
    · exact h
    · rw [Array.getElem?_eq_none h] at h1; cases h1
  exact ⟨es, c, (hw.block r hlt hr).trans h1, h2, h3⟩
theorem MapS.lt {w : World} {r : Nat} {kn : ByteArray → Option Value} (h : MapS w r kn) : r < w.heap.size := by
  obtain ⟨es, c, h1, h2, h3⟩ := h
  rcases Nat.lt_or_ge r w.heap.size with h | h
  · exact h
  · rw [Array.getElem?_eq_none h] at h1; cases h1
theorem MapS.new (w : World) : MapS (w.alloc (.map #[] 0)) w.heap.size (fun _ => none) := ⟨#[], 0, heap_alloc_new w _, by simp [StrKeys], fun k => rfl⟩

section
variable {P : Program} {T K E : TypeId} (hu : P.underlying T = some (.map K E)) (hk : P.underlying K = some .string)
include hu hk
theorem mapS_upd {w : World} {r : Nat} {kn : ByteArray → Option Value} (h : MapS w r kn) (k : ByteArray) (v : Value) :
    ∃ W, (Instr.mapUpdate T (.map (some r)) (.string k) v).run P w = .ok () W ∧ Wr [r] w W ∧ MapS W r (fun j => if j = k then some v else kn j) := by
  have hr := h.lt
  obtain ⟨es, c, h1, h2, h3⟩ := h
  have hc : ∀ w, (Instr.checkKey false 10000 K (.string k)).run P w = .ok () w := fun w => MapKept.run_checkKey hk (by simp [MapKept.IsKey]) false 9999
  have hW : ∀ o, Wr [r] w { w with heap := w.heap.setIfInBounds r o } := fun o => ⟨rfl, rfl, rfl, by simp, fun j _ hj => by
    have : r ≠ j := fun e => hj (by simp [e])
    simp [this]⟩
  have hH : ∀ o, (w.heap.setIfInBounds r o)[r]? = some o := fun o => by simp [hr]
  obtain ⟨o, g1, g2, g3⟩ := findNow_str es.toList k 0 h2
  cases o with
  | none =>
    refine ⟨_, ins_at hu hk w r es c (.string k) v h1 hc g1, hW _, _, _, hH _, ?_, ?_⟩
    · intro e he
      simp only [Array.toList_push, List.mem_append, List.mem_singleton] at he
      rcases he with he | rfl
      · exact h2 e he
      · exact ⟨k, rfl⟩
    · intro k'
      rw [Array.toList_push, fndS_push es.toList k v c g2.symm h2 k', h3]
  | some p =>
    obtain ⟨j, e, q1, q2, q3, q4⟩ := g3 p rfl
    have hj : es[p.1]? = some e := by
      rw [q1, Nat.zero_add, ← Array.getElem?_toList]
      exact q2
    have hrun : (Instr.mapUpdate T (.map (some r)) (.string k) v).run P w = .ok () { w with heap := w.heap.setIfInBounds r (.map (es.modify p.1 fun e => { e with key := .string k, val := v }) c) } := by
      obtain ⟨a, b⟩ := p
      simp only at hj
      simp [Instr.mapUpdate, run_underlying hu, Sem.run_bind, hc, Instr.findKey, run_underlying hk, g1, getObj, setObj, Sem.run, h1, Result.andThen, hj, q3]
      have := MapKept.run_keyThatStays (P := P) (w := w) (d := .string) (k := .string k) (by simp [MapKept.IsKey])
      rw [this]
      simp [h1]
    refine ⟨_, hrun, hW _, _, _, hH _, ?_, ?_⟩
    · rw [Array.toList_modify]
      exact strKeys_modify _ h2 _ _ _
    · intro k'
      rw [Array.toList_modify, q1, Nat.zero_add, q4 v k', h3]
theorem mapS_look {w : World} {r : Nat} {kn : ByteArray → Option Value} (h : MapS w r kn) (k : ByteArray) {z : Value} (hz : ∀ w, (zeroValue E).run P w = .ok z w) :
    (Instr.lookup T (.map (some r)) (.string k) true).run P w = .ok (.tuple #[(kn k).getD z, .bool (kn k).isSome]) w := by
  obtain ⟨es, c, h1, h2, h3⟩ := h
  obtain ⟨o, g1, g2, _⟩ := findNow_str es.toList k 0 h2
  have hc : ∀ b w, (Instr.checkKey b 10000 K (.string k)).run P w = .ok () w := fun b w => MapKept.run_checkKey hk (by simp [MapKept.IsKey]) b 9999
  have := look_at hu hk w r es c (.string k) o z h1 hc g1 hz true
  rw [g2, h3] at this
  have e : o.isSome = (kn k).isSome := by rw [← h3 k, ← g2]; cases o <;> rfl
  rw [e] at this
  exact this
theorem mapS_look1 {w : World} {r : Nat} {kn : ByteArray → Option Value} (h : MapS w r kn) (k : ByteArray) {z : Value} (hz : ∀ w, (zeroValue E).run P w = .ok z w) :
    (Instr.lookup T (.map (some r)) (.string k) false).run P w = .ok ((kn k).getD z) w := by
  obtain ⟨es, c, h1, h2, h3⟩ := h
  obtain ⟨o, g1, g2, _⟩ := findNow_str es.toList k 0 h2
  have hc : ∀ b w, (Instr.checkKey b 10000 K (.string k)).run P w = .ok () w := fun b w => MapKept.run_checkKey hk (by simp [MapKept.IsKey]) b 9999
  have := look_at hu hk w r es c (.string k) o z h1 hc g1 hz false
  rw [g2, h3] at this
  exact this
end
end Go.Proofs.Ytjanbpchedgoiaa
