/- iface's short, few, small of few things; fits: walked. No conditions. -/
import Derived.Test.YtjanbpchedgoiaaFaA
namespace Go.Proofs.Ytjanbpchedgoiaa
open Go.RowKit
set_option linter.unusedVariables false
set_option linter.unusedSimpArgs false

theorem anyB_1 (p : Nat → Bool) : anyB 1 p = p 0 := by simp [anyB, List.range_succ]
theorem anyB_2 (p : Nat → Bool) : anyB 2 p = (p 0 || p 1) := by simp [anyB, List.range_succ]
theorem anyB_3 (p : Nat → Bool) : anyB 3 p = (p 0 || (p 1 || p 2)) := by simp [anyB, List.range_succ, Bool.or_assoc]
theorem anyB_4 (p : Nat → Bool) : anyB 4 p = (p 0 || (p 1 || (p 2 || p 3))) := by simp [anyB, List.range_succ, Bool.or_assoc]
theorem sh_not (s : ByteArray) : (!decide ((s.size : Int) > 255)) = shB s := by
  unfold shB
  by_cases h : s.size ≤ 255
  · rw [decide_eq_true h, decide_eq_false (by omega)]; rfl
  · rw [decide_eq_false h, decide_eq_true (by omega)]; rfl
theorem fw_not (n : Nat) : (!decide ((n : Int) > 65535)) = fwB n := by
  unfold fwB
  by_cases h : n ≤ 65535
  · rw [decide_eq_true h, decide_eq_false (by omega)]; rfl
  · rw [decide_eq_false h, decide_eq_true (by omega)]; rfl
theorem sm_not (n : Int) : (!smallN n) = smB n := by
  unfold smallN smB inB
  rw [Bool.eq_iff_iff]
  simp
theorem ty_not (nt : Nat) (n : Int) : (!typN nt n) = tyB nt n := by
  unfold typN tyB inB
  rw [Bool.eq_iff_iff]
  simp
  omega
theorem short_1 (a : ByteArray) (w : World) : Calls Try.prog 54 #[.slice (some ⟨w.heap.size, 0, none⟩) 1 1] (w.alloc (.cells #[.string a] 9)) fun e w' => e = .returned (.bool (shB a)) ∧ Wr [] (w.alloc (.cells #[.string a] 9)) w' := by
  have h := short_any _ (some ⟨w.heap.size, 0, none⟩) 1 1 (fun _ => a) (by unfold maxLen; omega) (blk_cells (Blk.new w 9 #[.string a]) (fun i hi => by obtain rfl : i = 0 := (by omega); rfl))
  rw [anyB_1, sh_not] at h
  exact h
theorem short_2 (a b : ByteArray) (w : World) : Calls Try.prog 54 #[.slice (some ⟨w.heap.size, 0, none⟩) 2 2] (w.alloc (.cells #[.string a, .string b] 9)) fun e w' => e = .returned (.bool (shB a && shB b)) ∧ Wr [] (w.alloc (.cells #[.string a, .string b] 9)) w' := by
  have h := short_any _ (some ⟨w.heap.size, 0, none⟩) 2 2 (fun i => if i = 0 then a else b) (by unfold maxLen; omega) (blk_cells (Blk.new w 9 #[.string a, .string b]) (fun i hi => by
    match i, hi with
    | 0, _ => rfl
    | 1, _ => rfl))
  rw [anyB_2, Bool.not_or, sh_not, sh_not] at h
  exact h
theorem few_1 (a : Nat) (w : World) : Calls Try.prog 56 #[.slice (some ⟨w.heap.size, 0, none⟩) 1 1] (w.alloc (.cells #[.int .i64 (a : Int)] 3)) fun e w' => e = .returned (.bool (fwB a)) ∧ Wr [] (w.alloc (.cells #[.int .i64 (a : Int)] 3)) w' := by
  have h := few_any _ (some ⟨w.heap.size, 0, none⟩) 1 1 (fun _ => (a : Int)) (by unfold maxLen; omega) (blk_cells (Blk.new w 3 #[.int .i64 (a : Int)]) (fun i hi => by obtain rfl : i = 0 := (by omega); rfl))
  rw [anyB_1, fw_not] at h
  exact h
theorem few_2 (a b : Nat) (w : World) : Calls Try.prog 56 #[.slice (some ⟨w.heap.size, 0, none⟩) 2 2] (w.alloc (.cells #[.int .i64 (a : Int), .int .i64 (b : Int)] 3)) fun e w' => e = .returned (.bool (fwB a && fwB b)) ∧ Wr [] (w.alloc (.cells #[.int .i64 (a : Int), .int .i64 (b : Int)] 3)) w' := by
  have h := few_any _ (some ⟨w.heap.size, 0, none⟩) 2 2 (fun i => if i = 0 then (a : Int) else (b : Int)) (by unfold maxLen; omega) (blk_cells (Blk.new w 3 #[.int .i64 (a : Int), .int .i64 (b : Int)]) (fun i hi => by
    match i, hi with
    | 0, _ => rfl
    | 1, _ => rfl))
  rw [anyB_2, Bool.not_or, if_pos rfl, if_neg (by decide), fw_not, fw_not] at h
  exact h
theorem few_4 (a b c d : Nat) (w : World) : Calls Try.prog 56 #[.slice (some ⟨w.heap.size, 0, none⟩) 4 4] (w.alloc (.cells #[.int .i64 (a : Int), .int .i64 (b : Int), .int .i64 (c : Int), .int .i64 (d : Int)] 3)) fun e w' => e = .returned (.bool (fwB a && (fwB b && (fwB c && fwB d)))) ∧ Wr [] (w.alloc (.cells #[.int .i64 (a : Int), .int .i64 (b : Int), .int .i64 (c : Int), .int .i64 (d : Int)] 3)) w' := by
  have h := few_any _ (some ⟨w.heap.size, 0, none⟩) 4 4 (fun i => if i = 0 then (a : Int) else if i = 1 then (b : Int) else if i = 2 then (c : Int) else (d : Int)) (by unfold maxLen; omega) (blk_cells (Blk.new w 3 #[.int .i64 (a : Int), .int .i64 (b : Int), .int .i64 (c : Int), .int .i64 (d : Int)]) (fun i hi => by
    match i, hi with
    | 0, _ => rfl
    | 1, _ => rfl
    | 2, _ => rfl
    | 3, _ => rfl))
  rw [anyB_4, Bool.not_or, Bool.not_or, Bool.not_or] at h
  simp only [if_pos, show ¬ (1 : Nat) = 0 by decide, show ¬ (2 : Nat) = 0 by decide, show ¬ (2 : Nat) = 1 by decide, show ¬ (3 : Nat) = 0 by decide, show ¬ (3 : Nat) = 1 by decide, show ¬ (3 : Nat) = 2 by decide, if_false] at h
  rw [fw_not, fw_not, fw_not, fw_not] at h
  exact h
theorem small_1 (a : Int) (w : World) : Calls Try.prog 60 #[.slice (some ⟨w.heap.size, 0, none⟩) 1 1] (w.alloc (.cells #[.int .i64 a] 2)) fun e w' => e = .returned (.bool (smB a)) ∧ Wr [] (w.alloc (.cells #[.int .i64 a] 2)) w' := by
  have h := small_any _ (some ⟨w.heap.size, 0, none⟩) 1 1 (fun _ => a) (by unfold maxLen; omega) (blk_cells (Blk.new w 2 #[.int .i64 a]) (fun i hi => by obtain rfl : i = 0 := (by omega); rfl))
  rw [anyB_1, sm_not] at h
  exact h
theorem small_2 (a b : Int) (w : World) : Calls Try.prog 60 #[.slice (some ⟨w.heap.size, 0, none⟩) 2 2] (w.alloc (.cells #[.int .i64 a, .int .i64 b] 2)) fun e w' => e = .returned (.bool (smB a && smB b)) ∧ Wr [] (w.alloc (.cells #[.int .i64 a, .int .i64 b] 2)) w' := by
  have h := small_any _ (some ⟨w.heap.size, 0, none⟩) 2 2 (fun i => if i = 0 then a else b) (by unfold maxLen; omega) (blk_cells (Blk.new w 2 #[.int .i64 a, .int .i64 b]) (fun i hi => by
    match i, hi with
    | 0, _ => rfl
    | 1, _ => rfl))
  rw [anyB_2, Bool.not_or, if_pos rfl, if_neg (by decide), sm_not, sm_not] at h
  exact h
theorem typ_1 (a : Int) (pi : Nat) (At : Option Addr) (nt ct : Nat) (htt : nt ≤ ct ∧ ct ≤ maxLen) (h63 : nt ≤ 1000000) (w : World) (hct : w.cell? ⟨pi, 2, none⟩ = some (.slice At nt ct)) : Calls Try.prog 57 #[.slice (some ⟨w.heap.size, 0, none⟩) 1 1, .pointer (some ⟨pi, 0, none⟩)] (w.alloc (.cells #[.int .i64 a] 3)) fun e w' => e = .returned (.bool (tyB nt a)) ∧ Wr [] (w.alloc (.cells #[.int .i64 a] 3)) w' := by
  have h := typ_any _ (some ⟨w.heap.size, 0, none⟩) 1 1 (fun _ => a) (by unfold maxLen; omega) (blk_cells (Blk.new w 3 #[.int .i64 a]) (fun i hi => by obtain rfl : i = 0 := (by omega); rfl)) pi At nt ct htt (((Wr.refl [] w).alloc _).cellOf hct (by simp)) h63
  rw [anyB_1, ty_not] at h
  exact h
theorem typ_3 (a b c : Int) (pi : Nat) (At : Option Addr) (nt ct : Nat) (htt : nt ≤ ct ∧ ct ≤ maxLen) (h63 : nt ≤ 1000000) (w : World) (hct : w.cell? ⟨pi, 2, none⟩ = some (.slice At nt ct)) : Calls Try.prog 57 #[.slice (some ⟨w.heap.size, 0, none⟩) 3 3, .pointer (some ⟨pi, 0, none⟩)] (w.alloc (.cells #[.int .i64 a, .int .i64 b, .int .i64 c] 3)) fun e w' => e = .returned (.bool (tyB nt a && (tyB nt b && tyB nt c))) ∧ Wr [] (w.alloc (.cells #[.int .i64 a, .int .i64 b, .int .i64 c] 3)) w' := by
  have h := typ_any _ (some ⟨w.heap.size, 0, none⟩) 3 3 (fun i => if i = 0 then a else if i = 1 then b else c) (by unfold maxLen; omega) (blk_cells (Blk.new w 3 #[.int .i64 a, .int .i64 b, .int .i64 c]) (fun i hi => by
    match i, hi with
    | 0, _ => rfl
    | 1, _ => rfl
    | 2, _ => rfl)) pi At nt ct htt (((Wr.refl [] w).alloc _).cellOf hct (by simp)) h63
  rw [anyB_3, Bool.not_or, Bool.not_or] at h
  simp only [if_pos, show ¬ (1 : Nat) = 0 by decide, show ¬ (2 : Nat) = 0 by decide, show ¬ (2 : Nat) = 1 by decide, if_false] at h
  rw [ty_not, ty_not, ty_not] at h
  exact h
section
variable {w : World} {P : Nat → Prop} {v : Value}
theorem arm_at {l : List ArmD} (h : SlArms w P v l) {i : Nat} {x : ArmD} (hi : l[i]? = some x) : ∃ b off c va vb, v = .slice (some ⟨b, off, none⟩) l.length c ∧ P b ∧ w.cell? ⟨b, off + i * 3, none⟩ = some va ∧ w.cell? ⟨b, off + i * 3 + 1, none⟩ = some vb ∧ w.cell? ⟨b, off + i * 3 + 2, none⟩ = some (.bool x.els) ∧ SlInts w P va x.frm ∧ SlInts w P vb x.to := by
  obtain ⟨xs, hs, h1, ha⟩ := h
  obtain ⟨va, vb, e1, e2, e3, ka, kb⟩ := ha i x hi
  obtain ⟨b, off, c, e, _, _, hP, h4⟩ := Sl.thing hs (by decide) (List.getElem?_eq_some_iff.1 hi).1
  have g := fun j u hj hu => h4 j u hj hu
  refine ⟨b, off, c, va, vb, e, hP, ?_, ?_, ?_, ka, kb⟩
  · have := h4 0 va (by decide) (by rw [Nat.add_zero]; exact e1)
    simpa using this
  · have := h4 1 vb (by decide) e2
    rw [← Nat.add_assoc] at this
    exact this
  · have := h4 2 _ (by decide) e3
    rw [← Nat.add_assoc] at this
    exact this
theorem SlArms.form {l : List ArmD} (h : SlArms w P v l) : ∃ A c, v = .slice A l.length c ∧ l.length ≤ c ∧ c ≤ maxLen := by
  obtain ⟨xs, hs, _⟩ := h
  exact hs.form
theorem fld_len (x : Fld) : x.cells.length = 3 := rfl
theorem par_len (x : Par) : x.cells.length = 2 := rfl
theorem fld_at {l : List Fld} (h : SlFlds w P v l) {i : Nat} {x : Fld} (hi : l[i]? = some x) : ∃ b off c, v = .slice (some ⟨b, off, none⟩) l.length c ∧ P b ∧ ∀ j u, x.cells[j]? = some u → w.cell? ⟨b, off + i * 3 + j, none⟩ = some u := by
  obtain ⟨b, off, c, e, _, _, hP, h4⟩ := Sl.thing h (by decide) (List.getElem?_eq_some_iff.1 hi).1
  refine ⟨b, off, c, e, hP, fun j u hj => ?_⟩
  have hj5 : j < 3 := (List.getElem?_eq_some_iff.1 hj).1
  rw [Nat.add_assoc]
  exact h4 j u hj5 (by rw [flatF_at fld_len l i j x hi hj5]; exact hj)
theorem par_at {l : List Par} (h : SlPars w P v l) {i : Nat} {x : Par} (hi : l[i]? = some x) : ∃ b off c, v = .slice (some ⟨b, off, none⟩) l.length c ∧ P b ∧ ∀ j u, x.cells[j]? = some u → w.cell? ⟨b, off + i * 2 + j, none⟩ = some u := by
  obtain ⟨b, off, c, e, _, _, hP, h4⟩ := Sl.thing h (by decide) (List.getElem?_eq_some_iff.1 hi).1
  refine ⟨b, off, c, e, hP, fun j u hj => ?_⟩
  have hj5 : j < 2 := (List.getElem?_eq_some_iff.1 hj).1
  rw [Nat.add_assoc]
  exact h4 j u hj5 (by rw [flatF_at par_len l i j x hi hj5]; exact hj)
end
theorem fitArm_any (x : ArmD) (va vb : Value) (P : Nat → Prop) (w : World) (ha : SlInts w P va x.frm) (hb : SlInts w P vb x.to) : Calls Try.prog 77 #[.agg #[va, vb, .bool x.els]] w fun e w' => e = .returned (.bool (!armFit x)) ∧ Wr [] w w' := by
  obtain ⟨A1, c1, rfl, _, _⟩ := Sl.form ha
  obtain ⟨A2, c2, rfl, _, _⟩ := Sl.form hb
  unfold armFit
  have acc := (Wr.refl [] w).alloc (.cells #[.slice A1 x.frm.length c1, .slice A2 x.to.length c2, .bool x.els] 93)
  have hf := few_2 x.frm.length x.to.length (w.alloc (.cells #[.slice A1 x.frm.length c1, .slice A2 x.to.length c2, .bool x.els] 93))
  rw [World.size_alloc] at hf
  obtain ⟨r, hr⟩ : ∃ r, (fwB x.frm.length && fwB x.to.length) = r := ⟨_, rfl⟩
  rw [hr] at hf ⊢
  have HF := Lib.hid hf
  clear hf hr ha hb
  go_enter Try.func77, Try.ntmps77
  go_wp2_with fail
  refine HF.out.mono ?_
  rintro e w1 ⟨rfl, r1⟩
  go_wp2_with fail
  go_ret
  exact ⟨rfl, (acc.alloc _).trans r1⟩
/-- The first of a list's that is such. -/
theorem any_at {α : Type} {l : List α} {p : α → Bool} {k : Nat} {x : α} (hk : l[k]? = some x) (h : p x = true) : l.any p = true := List.any_eq_true.2 ⟨x, List.mem_of_getElem? hk, h⟩
theorem any_none {α : Type} {l : List α} {p : α → Bool} (h : ∀ (j : Nat) (x : α), j < l.length → l[j]? = some x → p x = false) : l.any p = false := by
  rw [List.any_eq_false]
  intro x hx
  obtain ⟨j, hj⟩ := List.getElem?_of_mem hx
  rw [h j x (List.getElem?_eq_some_iff.1 hj).1 hj]
  decide
def IdxL (w : World) (b : Bool) (e : Ending) (w' : World) : Prop := ∃ r : Int, e = .returned (.int .i64 r) ∧ Wr [] w w' ∧ decide (r ≥ 0) = b
def NotYet {α : Type} (w : World) (l : List α) (p : α → Bool) (k : Nat) (wr : World) : Prop := Wr [] w wr ∧ ∀ (j : Nat) (x : α), j < k → l[j]? = some x → p x = false
set_option maxRecDepth 100000 in
set_option maxHeartbeats 2000000 in
theorem idx_arm (w : World) (P : Nat → Prop) (v : Value) (l : List ArmD) (h : SlArms w P v l) :
    Calls Try.prog 92 #[v, .func (.func 77) #[] #[]] w (IdxL w (l.any fun x => !armFit x)) := by
  obtain ⟨A, c, rfl, l1, l2⟩ := h.form
  unfold maxLen at l2
  have hen : ∀ args w, (callFunc 77 args).run Try.prog w = .ok (.enter 77 args) w := fun args w => rfl
  obtain ⟨b0, hb0⟩ : ∃ b, (l.any fun x => !armFit x) = b := ⟨_, rfl⟩
  rw [hb0]
  have HH := Lib.hid h
  have HB := Lib.hid hb0
  clear h hb0
  go_enter Try.func92, Try.ntmps92
  go_wp2_with fail
  go_loopw [8] (fun i wr => ∃ k : Nat, k ≤ l.length ∧ i = .int .i64 k ∧ NotYet w l (fun x => !armFit x) k wr) (fun i _ => l.length - (intOf i).toNat)
  case atStart => exact ⟨0, by omega, rfl, Wr.refl _ _, fun j x h => absurd h (by omega)⟩
  case round =>
    obtain ⟨k, hk, rfl, hw, hno⟩ := hrel
    have HNO := Lib.hid hno
    have HW := Lib.hid hw
    clear hno hw
    by_cases hlt : k < l.length
    · obtain ⟨x, hx⟩ : ∃ x, l[k]? = some x := ⟨_, List.getElem?_eq_getElem hlt⟩
      have hsa : SlArms wr P (.slice A l.length c) l := SlArms.keep HH.out HW.out (fun _ _ => by simp)
      obtain ⟨b, off, c', va, vb, e, _, a0, a1, a2, ka, kb⟩ := arm_at hsa hx
      injection e with e1 e2 e3
      subst e1 e3
      have hq := fitArm_any x va vb P wr ka kb
      obtain ⟨A1, c1, rfl, _, _⟩ := Sl.form ka
      obtain ⟨A2, c2, rfl, _, _⟩ := Sl.form kb
      have h0 : (0 : Int) ≤ (k : Int) := by omega
      have h1 : (k : Int) < (l.length : Int) := by omega
      obtain ⟨r, hr⟩ : ∃ r, armFit x = r := ⟨_, rfl⟩
      rw [hr] at hq
      have HQ := Lib.hid hq
      have HX := Lib.hid hx
      have HR := Lib.hid hr
      clear hsa hx ka kb e2 hq hr
      cases r with
      | false =>
        have hb : b0 = true := by rw [← HB.out]; exact any_at (p := fun x => !armFit x) HX.out (by rw [HR.out]; rfl)
        subst hb
        go_wp2_with fail
        refine HQ.out.mono ?_
        rintro e w1 ⟨rfl, r1⟩
        go_wp2_with fail
        go_ret
        exact ⟨k, rfl, HW.out.trans r1, by simp⟩
      | true =>
        go_wp2_with fail
        refine HQ.out.mono ?_
        rintro e w1 ⟨rfl, r1⟩
        go_wp2_with fail
        go_roundw
        case rel =>
          refine ⟨k + 1, by omega, by go_num, HW.out.trans r1, fun j y hj hy => ?_⟩
          rcases Nat.lt_or_ge j k with hjk | hjk
          · exact HNO.out j y hjk hy
          · obtain rfl : j = k := by omega
            rw [HX.out] at hy
            injection hy with hy
            rw [← hy]
            show (!armFit x) = false
            rw [HR.out]
            rfl
        case measure => simp [intOf]; omega
    · obtain rfl : k = l.length := by omega
      have hb : b0 = false := by rw [← HB.out]; exact any_none HNO.out
      subst hb
      go_wp2_with fail
      go_ret
      exact ⟨-1, rfl, HW.out, by decide⟩
theorem has_arm (w : World) (P : Nat → Prop) (v : Value) (l : List ArmD) (h : SlArms w P v l) :
    Calls Try.prog 76 #[v, .func (.func 77) #[] #[]] w fun e w' => e = .returned (.bool (!(l.all armFit))) ∧ Wr [] w w' := by
  have h2 := idx_arm w P v l h
  have e : (l.any fun x => !armFit x) = !(l.all armFit) := by
    rw [Bool.eq_iff_iff]
    simp
  rw [e] at h2
  go_enter Try.func76, Try.ntmps76
  go_wp2_with fail
  refine h2.mono ?_
  rintro e w1 ⟨r, rfl, r1, hr⟩
  go_wp2_with fail
  go_ret
  exact ⟨by rw [← hr]; rfl, r1⟩
end Go.Proofs.Ytjanbpchedgoiaa
