/- iface's short, few, small of few things; fits: walked. No conditions. -/
import Derived.Test.YtjanbpchedgoiaaGreatKT04
set_option linter.unusedVariables false
set_option linter.unusedSimpArgs false
set_option maxRecDepth 100000
set_option maxHeartbeats 32000000
namespace Go.Proofs.YtjanbpchedgoiaaGreat
open Go.RowKit
theorem anyB_1 (p : Nat → Bool) : anyB 1 p = p 0 := by simp [anyB, List.range_succ]
theorem anyB_2 (p : Nat → Bool) : anyB 2 p = (p 0 || p 1) := by simp [anyB, List.range_succ]
theorem anyB_3 (p : Nat → Bool) : anyB 3 p = (p 0 || (p 1 || p 2)) := by simp [anyB, List.range_succ, Bool.or_assoc]
theorem anyB_4 (p : Nat → Bool) : anyB 4 p = (p 0 || (p 1 || (p 2 || p 3))) := by simp [anyB, List.range_succ, Bool.or_assoc]
theorem sh_not (s : ByteArray) : (!decide ((s.size : Int) > 255)) = shB s := by
 unfold shB
 by_cases h : s.size ≤ 255
 ·rw [qdtq h, qdfq (by omega)]; rfl
 ·rw [qdfq h, qdtq (by omega)]; rfl
theorem fw_not (n : Nat) : (!decide ((n : Int) > 65535)) = fwB n := by
 unfold fwB
 by_cases h : n ≤ 65535
 ·rw [qdtq h, qdfq (by omega)]; rfl
 ·rw [qdfq h, qdtq (by omega)]; rfl
theorem sm_not (n : Int) : (!smallN n) = smB n := by
 unfold smallN smB inB
 rw [Bool.eq_iff_iff]
 simp
theorem ty_not (nt : Nat) (n : Int) : (!typN nt n) = tyB nt n := by
 unfold typN tyB inB
 rw [Bool.eq_iff_iff]
 simp
 omega
theorem short_1 (a : ByteArray) (w : World) : Calls Tryz.prog 71 #[.slice (some ⟨w.heap.size, 0, none⟩) 1 1] (w.alloc (.cells #[.string a] 9)) fun e w' => e = .returned (.bool (shB a)) ∧ Wr [] (w.alloc (.cells #[.string a] 9)) w' := by
 have h := short_any _ (some ⟨w.heap.size, 0, none⟩) 1 1 (fun _ => a) (by unfold maxLen; omega) (blk_cells (Blk.new w 9 #[.string a]) (fun i hi => by obtain rfl : i = 0 := (by omega); rfl))
 rw [anyB_1, sh_not] at h
 exact h
theorem short_2 (a b : ByteArray) (w : World) : Calls Tryz.prog 71 #[.slice (some ⟨w.heap.size, 0, none⟩) 2 2] (w.alloc (.cells #[.string a, .string b] 9)) fun e w' => e = .returned (.bool (shB a && shB b)) ∧ Wr [] (w.alloc (.cells #[.string a, .string b] 9)) w' := by
 have h := short_any _ (some ⟨w.heap.size, 0, none⟩) 2 2 (fun i => if i = 0 then a else b) (by unfold maxLen; omega) (blk_cells (Blk.new w 9 #[.string a, .string b]) (fun i hi => by
  match i, hi with
  | 0, _ => rfl
  | 1, _ => rfl))
 rw [anyB_2, Bool.not_or, sh_not, sh_not] at h
 exact h
theorem few_1 (a : Nat) (w : World) : Calls Tryz.prog 73 #[.slice (some ⟨w.heap.size, 0, none⟩) 1 1] (w.alloc (.cells #[.int .i64 (a : Int)] 3)) fun e w' => e = .returned (.bool (fwB a)) ∧ Wr [] (w.alloc (.cells #[.int .i64 (a : Int)] 3)) w' := by
 have h := few_any _ (some ⟨w.heap.size, 0, none⟩) 1 1 (fun _ => (a : Int)) (by unfold maxLen; omega) (blk_cells (Blk.new w 3 #[.int .i64 (a : Int)]) (fun i hi => by obtain rfl : i = 0 := (by omega); rfl))
 rw [anyB_1, fw_not] at h
 exact h
theorem few_2 (a b : Nat) (w : World) : Calls Tryz.prog 73 #[.slice (some ⟨w.heap.size, 0, none⟩) 2 2] (w.alloc (.cells #[.int .i64 (a : Int), .int .i64 (b : Int)] 3)) fun e w' => e = .returned (.bool (fwB a && fwB b)) ∧ Wr [] (w.alloc (.cells #[.int .i64 (a : Int), .int .i64 (b : Int)] 3)) w' := by
 have h := few_any _ (some ⟨w.heap.size, 0, none⟩) 2 2 (fun i => if i = 0 then (a : Int) else (b : Int)) (by unfold maxLen; omega) (blk_cells (Blk.new w 3 #[.int .i64 (a : Int), .int .i64 (b : Int)]) (fun i hi => by
  match i, hi with
  | 0, _ => rfl
  | 1, _ => rfl))
 rw [anyB_2, Bool.not_or, if_pos rfl, if_neg (by decide), fw_not, fw_not] at h
 exact h
theorem few_4 (a b c d : Nat) (w : World) : Calls Tryz.prog 73 #[.slice (some ⟨w.heap.size, 0, none⟩) 4 4] (w.alloc (.cells #[.int .i64 (a : Int), .int .i64 (b : Int), .int .i64 (c : Int), .int .i64 (d : Int)] 3)) fun e w' => e = .returned (.bool (fwB a && (fwB b && (fwB c && fwB d)))) ∧ Wr [] (w.alloc (.cells #[.int .i64 (a : Int), .int .i64 (b : Int), .int .i64 (c : Int), .int .i64 (d : Int)] 3)) w' := by
 have h := few_any _ (some ⟨w.heap.size, 0, none⟩) 4 4 (fun i => if i = 0 then (a : Int) else if i = 1 then (b : Int) else if i = 2 then (c : Int) else (d : Int)) (by unfold maxLen; omega) (blk_cells (Blk.new w 3 #[.int .i64 (a : Int), .int .i64 (b : Int), .int .i64 (c : Int), .int .i64 (d : Int)]) (fun i hi => by
  match i, hi with
  | 0, _ => rfl
  | 1, _ => rfl
  | 2, _ => rfl
  | 3, _ => rfl))
 rw [anyB_4, Bool.not_or, Bool.not_or, Bool.not_or] at h
 simp only [if_pos, show ¬ (1 : Nat) = 0 by decide, show ¬ (2 : Nat) = 0 by decide, show ¬ (2 : Nat) = 1 by decide, show ¬ (3 : Nat) = 0 by decide, show ¬ (3 : Nat) = 1 by decide, show ¬ (3 : Nat) = 2 by decide, if_false] at h
 rw [fw_not, fw_not, fw_not, fw_not] at h
 exact h
theorem small_1 (a : Int) (w : World) : Calls Tryz.prog 77 #[.slice (some ⟨w.heap.size, 0, none⟩) 1 1] (w.alloc (.cells #[.int .i64 a] 2)) fun e w' => e = .returned (.bool (smB a)) ∧ Wr [] (w.alloc (.cells #[.int .i64 a] 2)) w' := by
 have h := small_any _ (some ⟨w.heap.size, 0, none⟩) 1 1 (fun _ => a) (by unfold maxLen; omega) (blk_cells (Blk.new w 2 #[.int .i64 a]) (fun i hi => by obtain rfl : i = 0 := (by omega); rfl))
 rw [anyB_1, sm_not] at h
 exact h
theorem small_2 (a b : Int) (w : World) : Calls Tryz.prog 77 #[.slice (some ⟨w.heap.size, 0, none⟩) 2 2] (w.alloc (.cells #[.int .i64 a, .int .i64 b] 2)) fun e w' => e = .returned (.bool (smB a && smB b)) ∧ Wr [] (w.alloc (.cells #[.int .i64 a, .int .i64 b] 2)) w' := by
 have h := small_any _ (some ⟨w.heap.size, 0, none⟩) 2 2 (fun i => if i = 0 then a else b) (by unfold maxLen; omega) (blk_cells (Blk.new w 2 #[.int .i64 a, .int .i64 b]) (fun i hi => by
  match i, hi with
  | 0, _ => rfl
  | 1, _ => rfl))
 rw [anyB_2, Bool.not_or, if_pos rfl, if_neg (by decide), sm_not, sm_not] at h
 exact h
theorem typ_1 (a : Int) (pi : Nat) (At : Option Addr) (nt ct : Nat) (htt : nt ≤ ct ∧ ct ≤ maxLen) (h63 : nt ≤ 1000000) (w : World) (hct : w.cell? ⟨pi, 2, none⟩ = some (.slice At nt ct)) : Calls Tryz.prog 74 #[.slice (some ⟨w.heap.size, 0, none⟩) 1 1, .pointer (some ⟨pi, 0, none⟩)] (w.alloc (.cells #[.int .i64 a] 3)) fun e w' => e = .returned (.bool (tyB nt a)) ∧ Wr [] (w.alloc (.cells #[.int .i64 a] 3)) w' := by
 have h := typ_any _ (some ⟨w.heap.size, 0, none⟩) 1 1 (fun _ => a) (by unfold maxLen; omega) (blk_cells (Blk.new w 3 #[.int .i64 a]) (fun i hi => by obtain rfl : i = 0 := (by omega); rfl)) pi At nt ct htt (((Wr.refl [] w).alloc _).cellOf hct (by simp)) h63
 rw [anyB_1, ty_not] at h
 exact h
theorem typ_3 (a b c : Int) (pi : Nat) (At : Option Addr) (nt ct : Nat) (htt : nt ≤ ct ∧ ct ≤ maxLen) (h63 : nt ≤ 1000000) (w : World) (hct : w.cell? ⟨pi, 2, none⟩ = some (.slice At nt ct)) : Calls Tryz.prog 74 #[.slice (some ⟨w.heap.size, 0, none⟩) 3 3, .pointer (some ⟨pi, 0, none⟩)] (w.alloc (.cells #[.int .i64 a, .int .i64 b, .int .i64 c] 3)) fun e w' => e = .returned (.bool (tyB nt a && (tyB nt b && tyB nt c))) ∧ Wr [] (w.alloc (.cells #[.int .i64 a, .int .i64 b, .int .i64 c] 3)) w' := by
 have h := typ_any _ (some ⟨w.heap.size, 0, none⟩) 3 3 (fun i => if i = 0 then a else if i = 1 then b else c) (by unfold maxLen; omega) (blk_cells (Blk.new w 3 #[.int .i64 a, .int .i64 b, .int .i64 c]) (fun i hi => by
  match i, hi with
  | 0, _ => rfl
  | 1, _ => rfl
  | 2, _ => rfl)) pi At nt ct htt (((Wr.refl [] w).alloc _).cellOf hct (by simp)) h63
 rw [anyB_3, Bool.not_or, Bool.not_or] at h
 simp only [if_pos, show ¬ (1 : Nat) = 0 by decide, show ¬ (2 : Nat) = 0 by decide, show ¬ (2 : Nat) = 1 by decide, if_false] at h
 rw [ty_not, ty_not, ty_not] at h
 exact h
section
variable {w : World} {P : Nat → Prop} {v : Value}
theorem arm_at {l : List ArmD} (h : SlArms w P v l) {i : Nat} {x : ArmD} (hi : l[i]? = some x) : ∃ b off c va vb, v = .slice (some ⟨b, off, none⟩) l.length c ∧ P b ∧ w.cell? ⟨b, off + i * 3, none⟩ = some va ∧ w.cell? ⟨b, off + i * 3 + 1, none⟩ = some vb ∧ w.cell? ⟨b, off + i * 3 + 2, none⟩ = some (.bool x.els) ∧ SlInts w P va x.frm ∧ SlInts w P vb x.to := by
 obtain ⟨xs, hs, h1, ha⟩ := h
 obtain ⟨va, vb, e1, e2, e3, ka, kb⟩ := ha i x hi
 obtain ⟨b, off, c, e, _, _, hP, h4⟩ := Sl.thing hs (by decide) (List.getElem?_eq_some_iff.1 hi).1
 have g := fun j u hj hu => h4 j u hj hu
 refine ⟨b, off, c, va, vb, e, hP, ?_, ?_, ?_, ka, kb⟩
 ·have := h4 0 va (by decide) (by rw [Nat.add_zero]; exact e1)
  simpa using this
 ·have := h4 1 vb (by decide) e2
  rw [← Nat.add_assoc] at this
  exact this
 ·have := h4 2 _ (by decide) e3
  rw [← Nat.add_assoc] at this
  exact this
theorem SlArms.form {l : List ArmD} (h : SlArms w P v l) : ∃ A c, v = .slice A l.length c ∧ l.length ≤ c ∧ c ≤ maxLen := by
 obtain ⟨xs, hs, _⟩ := h
 exact hs.form
theorem fld_len (x : Fld) : x.cells.length = 3 := rfl
theorem par_len (x : Par) : x.cells.length = 2 := rfl
theorem fld_at {l : List Fld} (h : SlFlds w P v l) {i : Nat} {x : Fld} (hi : l[i]? = some x) : ∃ b off c, v = .slice (some ⟨b, off, none⟩) l.length c ∧ P b ∧ ∀ j u, x.cells[j]? = some u → w.cell? ⟨b, off + i * 3 + j, none⟩ = some u := by
 obtain ⟨b, off, c, e, _, _, hP, h4⟩ := Sl.thing h (by decide) (List.getElem?_eq_some_iff.1 hi).1
 refine ⟨b, off, c, e, hP, fun j u hj => ?_⟩
 have hj5 : j < 3 := (List.getElem?_eq_some_iff.1 hj).1
 rw [Nat.add_assoc]
 exact h4 j u hj5 (by rw [flatF_at fld_len l i j x hi hj5]; exact hj)
theorem par_at {l : List Par} (h : SlPars w P v l) {i : Nat} {x : Par} (hi : l[i]? = some x) : ∃ b off c, v = .slice (some ⟨b, off, none⟩) l.length c ∧ P b ∧ ∀ j u, x.cells[j]? = some u → w.cell? ⟨b, off + i * 2 + j, none⟩ = some u := by
 obtain ⟨b, off, c, e, _, _, hP, h4⟩ := Sl.thing h (by decide) (List.getElem?_eq_some_iff.1 hi).1
 refine ⟨b, off, c, e, hP, fun j u hj => ?_⟩
 have hj5 : j < 2 := (List.getElem?_eq_some_iff.1 hj).1
 rw [Nat.add_assoc]
 exact h4 j u hj5 (by rw [flatF_at par_len l i j x hi hj5]; exact hj)
end
theorem fitArm_any (x : ArmD) (va vb : Value) (P : Nat → Prop) (w : World) (ha : SlInts w P va x.frm) (hb : SlInts w P vb x.to) : Calls Tryz.prog 96 #[.agg #[va, vb, .bool x.els]] w fun e w' => e = .returned (.bool (!armFit x)) ∧ Wr [] w w' := by
 obtain ⟨A1, c1, rfl, _, _⟩ := Sl.form ha
 obtain ⟨A2, c2, rfl, _, _⟩ := Sl.form hb
 unfold armFit
 have acc := (Wr.refl [] w).alloc (.cells #[.slice A1 x.frm.length c1, .slice A2 x.to.length c2, .bool x.els] 76)
 have hf := few_2 x.frm.length x.to.length (w.alloc (.cells #[.slice A1 x.frm.length c1, .slice A2 x.to.length c2, .bool x.els] 76))
 rw [qsiq] at hf
 obtain ⟨r, hr⟩ : ∃ r, (fwB x.frm.length && fwB x.to.length) = r := ⟨_, rfl⟩
 rw [hr] at hf ⊢
 have HF := qh hf
 clear hf hr ha hb
 go_enter Tryz.func96, Tryz.ntmps96
 go_wp2_with fail
 refine HF.out.mono ?_
 rintro e w1 ⟨rfl, r1⟩
 go_wp2_with fail
 go_ret
 exact ⟨rfl, (acc.alloc _).trans r1⟩
theorem any_at {α : Type} {l : List α} {p : α → Bool} {k : Nat} {x : α} (hk : l[k]? = some x) (h : p x = true) : l.any p = true := List.any_eq_true.2 ⟨x, List.mem_of_getElem? hk, h⟩
theorem any_none {α : Type} {l : List α} {p : α → Bool} (h : ∀ (j : Nat) (x : α), j < l.length → l[j]? = some x → p x = false) : l.any p = false := by
 rw [List.any_eq_false]
 intro x hx
 obtain ⟨j, hj⟩ := List.getElem?_of_mem hx
 rw [h j x (List.getElem?_eq_some_iff.1 hj).1 hj]
 decide
def IdxL (w : World) (b : Bool) (e : Ending) (w' : World) : Prop := ∃ r : Int, e = .returned (.int .i64 r) ∧ Wr [] w w' ∧ decide (r ≥ 0) = b
def NotYet {α : Type} (w : World) (l : List α) (p : α → Bool) (k : Nat) (wr : World) : Prop := Wr [] w wr ∧ ∀ (j : Nat) (x : α), j < k → l[j]? = some x → p x = false
theorem idx_arm (w : World) (P : Nat → Prop) (v : Value) (l : List ArmD) (h : SlArms w P v l) :
  Calls Tryz.prog 110 #[v, .func (.func 96) #[] #[]] w (IdxL w (l.any fun x => !armFit x)) := by
 obtain ⟨A, c, rfl, l1, l2⟩ := h.form
 unfold maxLen at l2
 have hen : ∀ args w, (callFunc 96 args).run Tryz.prog w = .ok (.enter 96 args) w := fun args w => rfl
 obtain ⟨b0, hb0⟩ : ∃ b, (l.any fun x => !armFit x) = b := ⟨_, rfl⟩
 rw [hb0]
 have HH := qh h
 have HB := qh hb0
 clear h hb0
 go_enter Tryz.func110, Tryz.ntmps110
 go_wp2_with fail
 go_loopw [8] (fun i wr => ∃ k : Nat, k ≤ l.length ∧ i = .int .i64 k ∧ NotYet w l (fun x => !armFit x) k wr) (fun i _ => l.length - (intOf i).toNat)
 case atStart => exact ⟨0, by omega, rfl, Wr.refl _ _, fun j x h => absurd h (by omega)⟩
 case round =>
  obtain ⟨k, hk, rfl, hw, hno⟩ := hrel
  have HNO := qh hno
  have HW := qh hw
  clear hno hw
  by_cases hlt : k < l.length
  ·obtain ⟨x, hx⟩ : ∃ x, l[k]? = some x := ⟨_, qgeq hlt⟩
   have hsa : SlArms wr P (.slice A l.length c) l := SlArms.keep HH.out HW.out (fun _ _ => by simp)
   obtain ⟨b, off, c', va, vb, e, _, a0, a1, a2, ka, kb⟩ := arm_at hsa hx
   injection e with e1 e2 e3
   subst e1 e3
   have hq := fitArm_any x va vb P wr ka kb
   obtain ⟨A1, c1, rfl, _, _⟩ := Sl.form ka
   obtain ⟨A2, c2, rfl, _, _⟩ := Sl.form kb
   have h0 : (0 : Int) ≤ (k : Int) := by omega
   have h1 : (k : Int) < (l.length : Int) := by omega
   obtain ⟨r, hr⟩ : ∃ r, armFit x = r := ⟨_, rfl⟩
   rw [hr] at hq
   have HQ := qh hq
   have HX := qh hx
   have HR := qh hr
   clear hsa hx ka kb e2 hq hr
   cases r with
   | false =>
    have hb : b0 = true := by rw [← HB.out]; exact any_at (p := fun x => !armFit x) HX.out (by rw [HR.out]; rfl)
    subst hb
    go_wp2_with fail
    refine HQ.out.mono ?_
    rintro e w1 ⟨rfl, r1⟩
    go_wp2_with fail
    go_ret
    exact ⟨k, rfl, HW.out.trans r1, by simp⟩
   | true =>
    go_wp2_with fail
    refine HQ.out.mono ?_
    rintro e w1 ⟨rfl, r1⟩
    go_wp2_with fail
    go_roundw
    case rel =>
     refine ⟨k + 1, by omega, by go_num, HW.out.trans r1, fun j y hj hy => ?_⟩
     rcases Nat.lt_or_ge j k with hjk | hjk
     ·exact HNO.out j y hjk hy
     ·obtain rfl : j = k := by omega
      rw [HX.out] at hy
      injection hy with hy
      rw [← hy]
      show (!armFit x) = false
      rw [HR.out]
      rfl
    case measure => simp [intOf]; omega
  ·obtain rfl : k = l.length := by omega
   have hb : b0 = false := by rw [← HB.out]; exact any_none HNO.out
   subst hb
   go_wp2_with fail
   go_ret
   exact ⟨-1, rfl, HW.out, by decide⟩
theorem has_arm (w : World) (P : Nat → Prop) (v : Value) (l : List ArmD) (h : SlArms w P v l) :
  Calls Tryz.prog 95 #[v, .func (.func 96) #[] #[]] w fun e w' => e = .returned (.bool (!(l.all armFit))) ∧ Wr [] w w' := by
 have h2 := idx_arm w P v l h
 have e : (l.any fun x => !armFit x) = !(l.all armFit) := by
  rw [Bool.eq_iff_iff]
  simp
 rw [e] at h2
 go_enter Tryz.func95, Tryz.ntmps95
 go_wp2_with fail
 refine h2.mono ?_
 rintro e w1 ⟨r, rfl, r1, hr⟩
 go_wp2_with fail
 go_ret
 exact ⟨by rw [← hr]; rfl, r1⟩
theorem Lists.forms {w : World} {P : Nat → Prop} {vn vf va vp : Value} {t : Ty} (h : Lists w P vn vf va vp t) : (∃ A c, vn = .slice A t.names.length c ∧ t.names.length ≤ c ∧ c ≤ maxLen) ∧ (∃ A c, vf = .slice A t.fields.length c ∧ t.fields.length ≤ c ∧ c ≤ maxLen) ∧ (∃ A c, va = .slice A t.arms.length c ∧ t.arms.length ≤ c ∧ c ≤ maxLen) ∧ ∃ A c, vp = .slice A t.params.length c ∧ t.params.length ≤ c ∧ c ≤ maxLen :=
 ⟨Sl.form h.names, Sl.form h.fields, h.arms.form, Sl.form h.params⟩
theorem short_strs (w : World) (P : Nat → Prop) (A : Option Addr) (c : Nat) (l : List ByteArray) (hc : l.length ≤ c ∧ c ≤ maxLen) (h : SlStrs w P (.slice A l.length c) l) : Calls Tryz.prog 71 #[.slice A l.length c] w fun e w' => e = .returned (.bool (l.all shB)) ∧ Wr [] w w' := by
 have h1 := short_any w A l.length c (fun i => (l[i]?).getD ⟨#[]⟩) hc h.cellsAt
 rw [short_list (fun i s hi => by rw [hi]; rfl)] at h1
 exact h1
def FitAt (w : World) (g : Nat) (cs : Array Value) (l : List Fld) (k : Nat) (wr : World) : Prop := Wr [] w wr ∧ Blk wr g 52 cs ∧ ∀ (j : Nat) (x : Fld), j < k → l[j]? = some x → shB x.name = true
theorem fits_any (t : Ty) (vn vf va vp : Value) (P : Nat → Prop) (w : World) (h : Lists w P vn vf va vp t) :
  Calls Tryz.prog 72 #[.agg #[.int .u8 t.kind, .string t.module, .string t.name, .int .i64 t.base, .int .i64 t.index, .int .i64 t.low, .int .i64 t.high, vn, vf, va, vp, .int .i64 t.result]] w fun e w' => e = .returned (.bool (tyFit t)) ∧ Wr [] w w' := by
 obtain ⟨⟨A1, k1, rfl, hn1, hn2⟩, ⟨A2, k2, rfl, hf1, hf2⟩, ⟨A3, k3, rfl, ha1, ha2⟩, ⟨A4, k4, rfl, hp1, hp2⟩⟩ := h.forms
 have hv : tyFit t = ((shB t.module && shB t.name) && ((fwB t.names.length && (fwB t.fields.length && (fwB t.arms.length && fwB t.params.length))) && (t.names.all shB && (t.fields.all (fun f => shB f.name) && t.arms.all armFit)))) := by
  unfold tyFit
  simp only [Bool.and_assoc]
 obtain ⟨w0, hw0⟩ : ∃ q, w.alloc (.cells #[.int .u8 t.kind, .string t.module, .string t.name, .int .i64 t.base, .int .i64 t.index, .int .i64 t.low, .int .i64 t.high, .slice A1 t.names.length k1, .slice A2 t.fields.length k2, .slice A3 t.arms.length k3, .slice A4 t.params.length k4, .int .i64 t.result] 52) = q := ⟨_, rfl⟩
 obtain ⟨g, hg⟩ : ∃ g, w.heap.size = g := ⟨_, rfl⟩
 have acc : Wr [] w w0 := by rw [← hw0]; exact (Wr.refl [] _).alloc _
 have bA : Blk w0 g 52 #[.int .u8 t.kind, .string t.module, .string t.name, .int .i64 t.base, .int .i64 t.index, .int .i64 t.low, .int .i64 t.high, .slice A1 t.names.length k1, .slice A2 t.fields.length k2, .slice A3 t.arms.length k3, .slice A4 t.params.length k4, .int .i64 t.result] := by rw [← hw0, ← hg]; exact Blk.new _ _ _
 have hs2 := short_2 t.module t.name w0
 have hss := fun W (hW : Wr [] w W) => short_strs W P A1 k1 t.names ⟨hn1, hn2⟩ (Sl.wr0 h.names hW)
 have hsa := fun W (hW : Wr [] w W) => has_arm W P (.slice A3 t.arms.length k3) t.arms (SlArms.keep h.arms hW (fun _ _ => by simp))
 obtain ⟨r1, hr1⟩ : ∃ r, (shB t.module && shB t.name) = r := ⟨_, rfl⟩
 obtain ⟨r2, hr2⟩ : ∃ r, (fwB t.names.length && (fwB t.fields.length && (fwB t.arms.length && fwB t.params.length))) = r := ⟨_, rfl⟩
 obtain ⟨r3, hr3⟩ : ∃ r, t.names.all shB = r := ⟨_, rfl⟩
 obtain ⟨r5, hr5⟩ : ∃ r, t.arms.all armFit = r := ⟨_, rfl⟩
 obtain ⟨rr, hrr⟩ : ∃ r, tyFit t = r := ⟨_, rfl⟩
 rw [hr1] at hs2
 rw [hr3] at hss
 rw [hr5] at hsa
 rw [hr1, hr2, hr3, hr5, hrr] at hv
 rw [hrr]
 unfold maxLen at hn2 hf2 ha2 hp2
 have HS2 := qh hs2
 have HSS := qh hss
 have HSA := qh hsa
 have HV := qh hv
 have HR2 := qh hr2
 have HW0 := qh hw0
 have HG := qh hg
 have ACC := qh acc
 have BA := qh bA
 have HH := qh h
 clear hs2 hss hsa hv hr1 hr2 hr3 hr5 hrr hw0 hg acc bA h
 go_enter Tryz.func72, Tryz.ntmps72
 go_upto_region 1 with (fail)
 rw [HW0.out, HG.out]
 have c1 := (BA.out).cell 1
 have c2 := (BA.out).cell 2
 simp only [qgaq, qgzq, qgsq] at c1 c2
 go_wp2_with fail
 refine HS2.out.mono ?_
 rintro e w1 ⟨rfl, k⟩
 have acc1 := (Wr.refl [] w0).alloc (.cells #[.string t.module, .string t.name] 9) |>.trans k
 have ACC1 := qh (ACC.out.trans acc1)
 have BA1 := qh (BA.out.wr0 acc1)
 clear k acc1 c1 c2
 cases r1 with
 | false =>
  have hrr : rr = false := by rw [HV.out]; rfl
  subst hrr
  clear HV
  go_wp2_with fail
  go_ret
  exact ⟨rfl, ACC1.out⟩
 | true =>
 have c7 := (BA1.out).cell 7
 have c8 := (BA1.out).cell 8
 have c9 := (BA1.out).cell 9
 have c10 := (BA1.out).cell 10
 simp only [qgaq, qgzq, qgsq] at c7 c8 c9 c10
 have hf4 := few_4 t.names.length t.fields.length t.arms.length t.params.length w1
 rw [HR2.out] at hf4
 have HF4 := qh hf4
 clear hf4
 go_wp2_with fail
 refine HF4.out.mono ?_
 rintro e w2 ⟨rfl, k⟩
 have acc2 := (Wr.refl [] w1).alloc (.cells #[.int .i64 (t.names.length : Int), .int .i64 (t.fields.length : Int), .int .i64 (t.arms.length : Int), .int .i64 (t.params.length : Int)] 3) |>.trans k
 have ACC2 := qh (ACC1.out.trans acc2)
 have BA2 := qh (BA1.out.wr0 acc2)
 clear k acc2 c7 c8 c9 c10
 cases r2 with
 | false =>
  have hrr : rr = false := by rw [HV.out]; rfl
  subst hrr
  clear HV
  go_wp2_with fail
  go_ret
  exact ⟨rfl, ACC2.out⟩
 | true =>
 have c7 := (BA2.out).cell 7
 simp only [qgaq, qgzq, qgsq] at c7
 go_wp2_with fail
 refine (HSS.out _ ACC2.out).mono ?_
 rintro e w3 ⟨rfl, k⟩
 have ACC3 := qh (ACC2.out.trans k)
 have BA3 := qh (BA2.out.wr0 k)
 clear k c7
 cases r3 with
 | false =>
  have hrr : rr = false := by rw [HV.out]; rfl
  subst hrr
  clear HV
  go_wp2_with fail
  go_ret
  exact ⟨rfl, ACC3.out⟩
 | true =>
 have hv2 : rr = (t.fields.all (fun f => shB f.name) && r5) := by rw [HV.out]; rfl
 have HV2 := qh hv2
 have c8 := (BA3.out).cell 8
 simp only [qgaq, qgzq, qgsq] at c8
 clear hv2
 go_wp2_with fail
 go_loopw [38] (fun s38 wr => ∃ k : Nat, k ≤ t.fields.length ∧ s38 = .int .i64 k ∧ FitAt w g #[.int .u8 t.kind, .string t.module, .string t.name, .int .i64 t.base, .int .i64 t.index, .int .i64 t.low, .int .i64 t.high, .slice A1 t.names.length k1, .slice A2 t.fields.length k2, .slice A3 t.arms.length k3, .slice A4 t.params.length k4, .int .i64 t.result] t.fields k wr) (fun s38 _ => t.fields.length - (intOf s38).toNat)
 case atStart => exact ⟨0, by omega, rfl, ACC3.out, BA3.out, fun j x hj => absurd hj (by omega)⟩
 case round =>
  obtain ⟨k, hk, rfl, acck, bk, hno⟩ := hrel
  have ACCK := qh acck
  have BK := qh bk
  have HNO := qh hno
  clear acck bk hno c8
  by_cases hlt : k < t.fields.length
  ·obtain ⟨x, hx⟩ : ∃ x, t.fields[k]? = some x := ⟨_, qgeq hlt⟩
   obtain ⟨b, off, c', e, _, hc⟩ := fld_at (Sl.wr0 HH.out.fields ACCK.out) hx
   injection e with e1 e2 e3
   subst e1 e3
   have x0 := hc 0 _ rfl
   have x1 := hc 1 _ rfl
   have x2 := hc 2 _ rfl
   simp only [Nat.add_zero] at x0
   have hs1 := short_1 x.name (wr.alloc (.cells #[.string x.name, .int .i64 x.type, .int .i64 x.arm] 73))
   rw [qsiq] at hs1
   obtain ⟨r, hr⟩ : ∃ r, shB x.name = r := ⟨_, rfl⟩
   rw [hr] at hs1
   have HS1 := qh hs1
   have HX := qh hx
   have HR := qh hr
   have h0 : (0 : Int) ≤ (k : Int) := by omega
   have h1 : (k : Int) < (t.fields.length : Int) := by omega
   clear hc e2 hs1 hx hr
   go_wp2_with fail
   refine HS1.out.mono ?_
   rintro e w5 ⟨rfl, r5'⟩
   have acc5 := (((Wr.refl [] wr).alloc (.cells #[.string x.name, .int .i64 x.type, .int .i64 x.arm] 73)).alloc (.cells #[.string x.name] 9)).trans r5'
   have ACC5 := qh acc5
   clear acc5 r5' x0 x1 x2
   cases r with
   | false =>
    have hall : t.fields.all (fun f => shB f.name) = false := by
     rw [List.all_eq_false]
     exact ⟨x, List.mem_of_getElem? HX.out, by rw [HR.out]; decide⟩
    have hrr : rr = false := by rw [HV2.out, hall]; rfl
    subst hrr
    clear HV HV2 hall
    go_wp2_with fail
    go_ret
    exact ⟨rfl, ACCK.out.trans ACC5.out⟩
   | true =>
    go_wp2_with fail
    go_roundw
    case rel =>
     refine ⟨k + 1, by omega, by go_num, ACCK.out.trans ACC5.out, BK.out.wr0 ACC5.out, fun j y hj hy => ?_⟩
     rcases Nat.lt_or_ge j k with hjk | hjk
     ·exact HNO.out j y hjk hy
     ·obtain rfl : j = k := by omega
      rw [HX.out] at hy
      injection hy with hy
      rw [← hy]
      exact HR.out
    case measure => simp [intOf]; omega
  ·obtain rfl : k = t.fields.length := by omega
   have hall : t.fields.all (fun f => shB f.name) = true := by
    rw [List.all_eq_true]
    intro x hx
    obtain ⟨j, hj⟩ := List.getElem?_of_mem hx
    exact HNO.out j x (List.getElem?_eq_some_iff.1 hj).1 hj
   have hrr : rr = r5 := by rw [HV2.out, hall]; rfl
   subst hrr
   have c9 := (BK.out).cell 9
   simp only [qgaq, qgzq, qgsq] at c9
   clear hall HV HV2
   go_wp2_with fail
   refine (HSA.out _ ACCK.out).mono ?_
   rintro e w6 ⟨rfl, r6⟩
   go_wp2_with fail
   go_ret
   exact ⟨by simp, ACCK.out.trans r6⟩
end Go.Proofs.YtjanbpchedgoiaaGreat
