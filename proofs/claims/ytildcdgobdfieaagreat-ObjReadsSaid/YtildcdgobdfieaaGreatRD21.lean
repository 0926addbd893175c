/- ref 20's in, module: walked. Conditions: the number of modules is small. -/
import Derived.Test.YtildcdgobdfieaaGreatRD20
set_option linter.unusedVariables false
set_option linter.unusedSimpArgs false
set_option maxRecDepth 100000
set_option maxHeartbeats 32000000
namespace Go.Proofs.YtildcdgobdfieaaGreat
open Go.RowKit
theorem rin_any (n a b : Int) (w : World) : Calls Tryz.prog 105 #[.int .i64 n, .int .i64 a, .int .i64 b] w fun e w' => e = .returned (.bool (inB n a b)) ∧ w = w' := by
 unfold inB
 by_cases h : a ≤ n
 ·have hd : decide (a ≤ n) = true := qdtq h
  rw [hd, Bool.true_and]
  go_in
  go_wp2_with fail
  go_ret
  exact ⟨rfl, rfl⟩
 ·have hd : decide (a ≤ n) = false := qdfq h
  rw [hd, Bool.false_and]
  go_in
  go_wp2_with fail
  go_ret
  exact ⟨rfl, rfl⟩
theorem rmodule_any (m : ModD) (n : Int) (h1n : 1 ≤ n) (hn64 : n ≤ 64) (vp vi vn : Value) (P : Nat → Prop) (w : World) (h : ModL w P vp vi vn m) :
  Calls Tryz.prog 104 #[m.val vp vi vn, .int .i64 n] w fun e w' => e = .returned (.bool (modB m n)) ∧ Wr [] w w' := by
 have hv := modB_split m n
 obtain ⟨Ap, cp, rfl, lp1, lp2⟩ := Sl.form h.procs
 obtain ⟨Ai, ci, rfl, li1, li2⟩ := Sl.form h.imports
 obtain ⟨An, cn, rfl, ln1, ln2⟩ := Sl.form h.init
 unfold maxLen at lp2 li2 ln2
 have hw1 := fun w => rin_any (m.procs.length : Int) 1 1024 w
 have hw2 := fun w => rin_any m.data (m.init.length : Int) 65535 w
 have hw3 := fun i w => rin_any i 0 (n - 1) w
 have hin := fun i a b w => rin_any i a b w
 have hpB : inB (m.procs.length : Int) 1 1024 = (decide (1 ≤ m.procs.length) && decide (m.procs.length ≤ 1024)) := by
  unfold inB
  rw [Bool.eq_iff_iff]
  simp only [Bool.and_eq_true, decide_eq_true_eq]
  omega
 have acc := (Wr.refl [] w).alloc (.cells (m.cells (.slice Ap m.procs.length cp) (.slice Ai m.imports.length ci) (.slice An m.init.length cn)).toArray 28)
 have bA := Blk.new w 28 (m.cells (.slice Ap m.procs.length cp) (.slice Ai m.imports.length ci) (.slice An m.init.length cn)).toArray
 obtain ⟨w0, hw0⟩ : ∃ w0, w.alloc (.cells (m.cells (.slice Ap m.procs.length cp) (.slice Ai m.imports.length ci) (.slice An m.init.length cn)).toArray 28) = w0 := ⟨_, rfl⟩
 obtain ⟨g, hg⟩ : ∃ g, w.heap.size = g := ⟨_, rfl⟩
 rw [hw0] at acc bA
 rw [hg] at bA
 unfold ModD.cells at bA hw0
 unfold ModD.val ModD.cells
 have Hw0 := qh hw0
 have Hg := qh hg
 have HH := qh h
 have HV := qh hv
 have HPB := qh hpB
 clear hw0 hg h hv hpB
 go_in
 go_upto_region 1 with (fail)
 rw [Hw0.out, Hg.out]
 obtain ⟨c0, c1, c2, c3, c4⟩ := c5q bA
 by_cases q1 : 65535 < (m.code.size : Int)
 ·go_wp2_with fail
  go_ret
  refine ⟨?_, acc⟩
  rw [HV.out, qdfq (show ¬ m.code.size ≤ 65535 by omega)]
  simp
 go_wp2_with fail
 refine (hw1 _).mono ?_
 rintro e w1 ⟨rfl, rfl⟩
 cases q2 : inB (m.procs.length : Int) 1 1024 with
 | false =>
  have hz : (decide (1 ≤ m.procs.length) && decide (m.procs.length ≤ 1024)) = false := by rw [← HPB.out]; exact q2
  have HZ := qh hz
  clear hz q2
  go_wp2_with fail
  go_ret
  refine ⟨?_, acc⟩
  rw [HV.out, Bool.and_assoc (decide (m.code.size ≤ 65535)), HZ.out]
  simp
 | true =>
 have hz : (decide (1 ≤ m.procs.length) && decide (m.procs.length ≤ 1024)) = true := by rw [← HPB.out]; exact q2
 simp only [Bool.and_eq_true, decide_eq_true_eq] at hz
 obtain ⟨z1, z2⟩ := hz
 clear q2
 by_cases q3 : 255 < (m.imports.length : Int)
 ·go_wp2_with fail
  go_ret
  refine ⟨?_, acc⟩
  rw [HV.out, qdfq (show ¬ m.imports.length ≤ 255 by omega)]
  simp
 go_wp2_with fail
 refine (hw2 _).mono ?_
 rintro e w1 ⟨rfl, rfl⟩
 cases q4 : inB m.data (m.init.length : Int) 65535 with
 | false =>
  have HQ := qh q4
  clear q4
  go_wp2_with fail
  go_ret
  refine ⟨?_, acc⟩
  rw [HV.out, HQ.out]
  simp
 | true =>
 have HQ := qh q4
 clear q4 hw1 hw2
 have hv2 : modB m n = (m.procs.all (fun p => prcB p m) && (m.imports.all (fun i => inB i 0 (n - 1)) && bodyB m.procs)) := by
  rw [HV.out, HQ.out, qdtq (show m.code.size ≤ 65535 by omega), qdtq z1, qdtq z2, qdtq (show m.imports.length ≤ 255 by omega)]
  simp
 have HV2 := qh hv2
 clear hv2
 go_wp2_with fail
 go_loopw [5] (fun s39 wr => ∃ k : Nat, k ≤ m.procs.length ∧ s39 = .int .i64 k ∧ MdAt w g m n #[.string m.code, .slice Ap m.procs.length cp, .slice Ai m.imports.length ci, .int .i64 m.data, .slice An m.init.length cn] k wr) (fun s39 _ => m.procs.length - (intOf s39).toNat)
 case atStart => exact ⟨0, by omega, rfl, acc, bA, fun j p hj => absurd hj (by omega)⟩
 case round =>
  obtain ⟨k, hk, rfl, acck, bk, hyes⟩ := hrel
  clear c0 c1 c2 c3 c4
  obtain ⟨c0, c1, c2, c3, c4⟩ := c5q bk
  have HYES := qh hyes
  clear hyes
  by_cases hlt : k < m.procs.length
  ·obtain ⟨p, hp⟩ : ∃ p, m.procs[k]? = some p := ⟨_, qgeq hlt⟩
   obtain ⟨b, off, c, e, _, _, hc⟩ := prc_at (HH.out.wr0 acck).procs hp
   injection e with e1 e2 e3
   subst e1
   subst e3
   have x0 := hc 0 _ rfl
   have x1 := hc 1 _ rfl
   have x2 := hc 2 _ rfl
   have x3 := hc 3 _ rfl
   have x4 := hc 4 _ rfl
   have x5 := hc 5 _ rfl
   simp only [Nat.add_zero] at x0
   clear hc e2
   have HP := qh hp
   clear hp
   have hlti : (k : Int) < (m.procs.length : Int) := by omega
   have hk0 : (0 : Int) ≤ (k : Int) := by omega
   have hz : g < wr.heap.size := bk.lt
   go_wp2_with fail
   refine (hin p.at_ 0 (m.code.size : Int) _).mono ?_
   rintro e w2 ⟨rfl, rfl⟩
   have acc2 := acck.alloc (.cells #[.int .i64 p.at_, .int .i64 p.params, .int .i64 p.locals, .int .i64 p.depth, .int .i64 p.level, .bool p.func] 98)
   have b2 := bk.alloc (.cells #[.int .i64 p.at_, .int .i64 p.params, .int .i64 p.locals, .int .i64 p.depth, .int .i64 p.level, .bool p.func] 98)
   have ACC2 := qh acc2
   have B2 := qh b2
   have hbad : prcB p m = false → Hid (m.procs.all (fun p => prcB p m) = false) := fun hpp => qh (all_no (p := fun p => prcB p m) HP.out hpp)
   have hprc : prcB p m = (inB p.params 0 65535 && inB p.locals 0 65535 && inB p.depth 0 65535 && inB p.at_ 0 (m.code.size : Int) && inB p.level 1 16) := rfl
   have HPRC := qh hprc
   have HBAD := qh hbad
   clear acc2 b2 acck bk bA acc hprc hbad
   cases q1 : inB p.at_ 0 (m.code.size : Int) with
   | false =>
    have HF := HBAD.out (by rw [HPRC.out, q1]; simp)
    clear q1
    go_wp2_with fail
    go_ret
    exact ⟨by rw [HV2.out, HF.out, Bool.false_and]; rfl, ACC2.out⟩
   | true =>
   have Q1 := qh q1
   clear q1
   go_wp2_with fail
   refine (hin p.params 0 65535 _).mono ?_
   rintro e w2 ⟨rfl, rfl⟩
   cases q1 : inB p.params 0 65535 with
   | false =>
    have HF := HBAD.out (by rw [HPRC.out, q1]; simp)
    clear q1
    go_wp2_with fail
    go_ret
    exact ⟨by rw [HV2.out, HF.out, Bool.false_and]; rfl, ACC2.out⟩
   | true =>
   have Q2 := qh q1
   clear q1
   go_wp2_with fail
   refine (hin p.locals 0 65535 _).mono ?_
   rintro e w2 ⟨rfl, rfl⟩
   cases q1 : inB p.locals 0 65535 with
   | false =>
    have HF := HBAD.out (by rw [HPRC.out, q1]; simp)
    clear q1
    go_wp2_with fail
    go_ret
    exact ⟨by rw [HV2.out, HF.out, Bool.false_and]; rfl, ACC2.out⟩
   | true =>
   have Q3 := qh q1
   clear q1
   go_wp2_with fail
   refine (hin p.depth 0 65535 _).mono ?_
   rintro e w2 ⟨rfl, rfl⟩
   cases q1 : inB p.depth 0 65535 with
   | false =>
    have HF := HBAD.out (by rw [HPRC.out, q1]; simp)
    clear q1
    go_wp2_with fail
    go_ret
    exact ⟨by rw [HV2.out, HF.out, Bool.false_and]; rfl, ACC2.out⟩
   | true =>
   have Q4 := qh q1
   clear q1
   go_wp2_with fail
   refine (hin p.level 1 16 _).mono ?_
   rintro e w2 ⟨rfl, rfl⟩
   cases q1 : inB p.level 1 16 with
   | false =>
    have HF := HBAD.out (by rw [HPRC.out, q1]; simp)
    clear q1
    go_wp2_with fail
    go_ret
    exact ⟨by rw [HV2.out, HF.out, Bool.false_and]; rfl, ACC2.out⟩
   | true =>
    have hpp : prcB p m = true := by rw [HPRC.out, Q1.out, Q2.out, Q3.out, Q4.out, q1]; rfl
    have HPP := qh hpp
    clear hpp q1 x0 x1 x2 x3 x4 x5 c0 c1 c2 c3 c4 hz
    go_wp2_with fail
    go_roundw
    case rel =>
     refine ⟨k + 1, by omega, by go_num, ACC2.out, B2.out, fun j q hj hq => ?_⟩
     by_cases hjk : j = k
     ·subst hjk
      rw [HP.out] at hq
      injection hq with hq
      rw [← hq]
      exact HPP.out
     ·exact HYES.out j q (by omega) hq
    case measure => simp [intOf]; omega
  ·have hkn : k = m.procs.length := by omega
   subst hkn
   have hall : m.procs.all (fun p => prcB p m) = true := all_yes (p := fun p => prcB p m) (fun j x hj => HYES.out j x (List.getElem?_eq_some_iff.1 hj).1 hj)
   have hv3 : modB m n = (m.imports.all (fun i => inB i 0 (n - 1)) && bodyB m.procs) := by rw [HV2.out, hall, Bool.true_and]
   have HV3 := qh hv3
   have ACC := qh acck
   have BK := qh bk
   have hz : g < wr.heap.size := bk.lt
   clear hall hv3 HYES acck bk bA acc
   obtain ⟨wo, hwo⟩ : ∃ wo, wr = wo := ⟨_, rfl⟩
   subst hwo
   go_wp2_with fail
   go_loopw [7] (fun s51 w2 => ∃ k : Nat, k ≤ m.imports.length ∧ s51 = .int .i64 k ∧ ImAt m n wr k w2) (fun s51 _ => m.imports.length - (intOf s51).toNat)
   case atStart => exact ⟨0, by omega, rfl, rfl, fun j x hj => absurd hj (by omega)⟩
   case round =>
    obtain ⟨i, hi, rfl, rfl, hyes⟩ := hrel
    have HYES := qh hyes
    clear hyes
    by_cases hlt2 : i < m.imports.length
    ·obtain ⟨x, hx⟩ : ∃ x, m.imports[i]? = some x := ⟨_, qgeq hlt2⟩
     obtain ⟨b, off, c, e, _, _, hc⟩ := i64_at (HH.out.wr0 ACC.out).imports hx
     injection e with e1 e2 e3
     subst e1
     subst e3
     clear e2
     have HX := qh hx
     clear hx
     have hlti : (i : Int) < (m.imports.length : Int) := by omega
     have hi0 : (0 : Int) ≤ (i : Int) := by omega
     go_wp2_with fail
     refine (hw3 _ _).mono ?_
     rintro e w2 ⟨rfl, rfl⟩
     cases hpp : inB x 0 (n - 1) with
     | false =>
      have hf : m.imports.all (fun i => inB i 0 (n - 1)) = false := all_no (p := fun i => inB i 0 (n - 1)) HX.out hpp
      have HF := qh hf
      clear hf hpp
      go_wp2_with fail
      go_ret
      exact ⟨by rw [HV3.out, HF.out, Bool.false_and]; rfl, ACC.out⟩
     | true =>
      have HPP := qh hpp
      clear hpp
      go_wp2_with fail
      go_roundw
      case rel =>
       refine ⟨i + 1, by omega, by go_num, rfl, fun j q hj hq => ?_⟩
       by_cases hjk : j = i
       ·subst hjk
        rw [HX.out] at hq
        injection hq with hq
        rw [← hq]
        exact HPP.out
       ·exact HYES.out j q (by omega) hq
      case measure => simp [intOf]; omega
    ·have hin : i = m.imports.length := by omega
     subst hin
     have hall : m.imports.all (fun i => inB i 0 (n - 1)) = true := all_yes (p := fun i => inB i 0 (n - 1)) (fun j x hj => HYES.out j x (List.getElem?_eq_some_iff.1 hj).1 hj)
     obtain ⟨p, hp⟩ : ∃ p, m.procs[0]? = some p := ⟨_, qgeq (by omega)⟩
     have hv4 : modB m n = (decide (p.level = 1) && decide (p.params = 0) && !p.func) := by rw [HV3.out, hall, Bool.true_and, body_at _ p hp]
     have HV4 := qh hv4
     obtain ⟨b, off, c, e, _, _, hc⟩ := prc_at (HH.out.wr0 ACC.out).procs hp
     injection e with e1 e2 e3
     subst e1
     subst e3
     have x0 := hc 0 _ rfl
     have x1 := hc 1 _ rfl
     have x2 := hc 2 _ rfl
     have x3 := hc 3 _ rfl
     have x4 := hc 4 _ rfl
     have x5 := hc 5 _ rfl
     simp only [Nat.zero_mul, Nat.add_zero] at x0 x1 x2 x3 x4 x5
     have z1' : (0 : Int) < (m.procs.length : Int) := by omega
     clear hc e2 hall hv4 hp
     by_cases y1 : p.level = 1
     ·by_cases y2 : p.params = 0
      ·have y1' : (p.level == 1) = true := by simpa using y1
       have y2' : (p.params == 0) = true := by simpa using y2
       have hr : Hid (modB m n = !p.func) := qh (by rw [HV4.out, qdtq y1, qdtq y2]; simp)
       clear y1 y2
       go_wp2_with fail
       go_ret
       exact ⟨by rw [hr.out] <;> rfl, ACC.out⟩
      ·have y1' : (p.level == 1) = true := by simpa using y1
       have y2' : (p.params == 0) = false := by simpa using y2
       have hr : Hid (modB m n = false) := qh (by rw [HV4.out, qdfq y2]; simp)
       clear y1 y2
       go_wp2_with fail
       go_ret
       exact ⟨by rw [hr.out] <;> rfl, ACC.out⟩
     ·have y1' : (p.level == 1) = false := by simpa using y1
      have hr : Hid (modB m n = false) := qh (by rw [HV4.out, qdfq y1]; simp)
      clear y1
      go_wp2_with fail
      go_ret
      exact ⟨by rw [hr.out] <;> rfl, ACC.out⟩
end Go.Proofs.YtildcdgobdfieaaGreat
namespace Go.Proofs.YtildcdgobdfieaaGreat
noncomputable def eqB {α : Type} (a b : α) : Bool := @decide (a = b) (Classical.propDecidable _)
theorem eqB_true {α : Type} {a b : α} (h : a = b) : eqB a b = true := by exact @qdtq _ (Classical.propDecidable _) h
theorem eqB_false {α : Type} {a b : α} (h : a ≠ b) : eqB a b = false := by exact @qdfq _ (Classical.propDecidable _) h
theorem eqB_iff {α : Type} {a b : α} : eqB a b = true ↔ a = b := by exact @decide_eq_true_iff _ (Classical.propDecidable _)
theorem str_ne {s t : ByteArray} (h : s ≠ t) : (s.toList == t.toList) = false := by
 rw [beq_eq_false_iff_ne]
 intro e
 apply h
 rw [ByteArray.toList_eq, ByteArray.toList_eq] at e
 obtain ⟨⟨l⟩⟩ := s
 obtain ⟨⟨m⟩⟩ := t
 simp at e
 rw [e]
theorem str_eq (s : ByteArray) : (s.toList == s.toList) = true := by simp
theorem same_next {α : Type} {l m : List α} {k : Nat} {x : α} (h : l.take k = m.take k) (hx : l[k]? = some x) (hy : m[k]? = some x) : l.take (k + 1) = m.take (k + 1) := by
 have h1 := (List.getElem?_eq_some_iff.1 hx).1
 have h2 := (List.getElem?_eq_some_iff.1 hy).1
 rw [List.take_succ_eq_append_getElem h1, List.take_succ_eq_append_getElem h2, h, (List.getElem?_eq_some_iff.1 hx).2, (List.getElem?_eq_some_iff.1 hy).2]
theorem ne_at {α : Type} {l m : List α} {k : Nat} {x y : α} (hx : l[k]? = some x) (hy : m[k]? = some y) (h : x ≠ y) : l ≠ m := fun e => by
 rw [e, hy] at hx
 injection hx with hx
 exact h hx.symm
theorem take_full {α : Type} {l m : List α} (hl : l.length = m.length) (h : l.take l.length = m.take l.length) : l = m := by
 rw [List.take_length, hl, List.take_length] at h
 exact h
end Go.Proofs.YtildcdgobdfieaaGreat
namespace Go.Proofs.YtildcdgobdfieaaGreat
open Go.RowKit
attribute [local go_sem ↓] Go.wp_at_zero Go.wp_at_succ
theorem rcheck_one (m : ModD) (vm : Value) (P : Nat → Prop) (w : World) (hm : SlMods w P vm [m]) :
  Calls Tryz.prog 78 #[.agg #[vm, .slice none 0 0]] w fun e w' => e = .returned (.tuple #[.int .i64 0, .int .i64 (if modB m 1 then 0 else 200)]) ∧ Wr [] w w' := by
 obtain ⟨r, hr⟩ : ∃ r : Int, (if modB m 1 then 0 else 200) = r := ⟨_, rfl⟩
 rw [hr]
 obtain ⟨b, off, c, vp, vi, vn, e, hc, hl⟩ := mod_at hm (i := 0) rfl
 obtain ⟨Ap, cp, rfl, _, _⟩ := Sl.form hl.procs
 obtain ⟨Ai, ci, rfl, _, _⟩ := Sl.form hl.imports
 obtain ⟨An, cn, rfl, _, _⟩ := Sl.form hl.init
 obtain ⟨A, c', e', lc1, lc2⟩ := hm.form
 rw [e] at e'
 injection e' with e1 e2 e3
 subst e1 e3
 subst e
 simp only [List.length_cons, List.length_nil, Nat.zero_add] at lc1 lc2
 unfold maxLen at lc2
 have x0 : w.cell? ⟨b, off, none⟩ = some (.string m.code) := by simpa using hc 0 _ rfl
 have x1 : w.cell? ⟨b, off + 1, none⟩ = some (.slice Ap m.procs.length cp) := by simpa using hc 1 _ rfl
 have x2 : w.cell? ⟨b, off + 2, none⟩ = some (.slice Ai m.imports.length ci) := by simpa using hc 2 _ rfl
 have x3 : w.cell? ⟨b, off + 3, none⟩ = some (.int .i64 m.data) := by simpa using hc 3 _ rfl
 have x4 : w.cell? ⟨b, off + 4, none⟩ = some (.slice An m.init.length cn) := by simpa using hc 4 _ rfl
 simp only [List.length_cons, List.length_nil, Nat.zero_add]
 have hmd := fun w (h : ModL w P (.slice Ap m.procs.length cp) (.slice Ai m.imports.length ci) (.slice An m.init.length cn) m) => rmodule_any m 1 (by omega) (by omega) _ _ _ P w h
 unfold ModD.val ModD.cells at hmd
 obtain ⟨g, hg⟩ : ∃ g, w.heap.size = g := ⟨_, rfl⟩
 obtain ⟨w0, hw0⟩ : ∃ w0, w.alloc (.cells #[.slice (some ⟨b, off, none⟩) 1 c, .slice none 0 0] 146) = w0 := ⟨_, rfl⟩
 have racc : Wr [] w w0 := by rw [← hw0]; exact (Wr.refl [] w).alloc _
 have bA : Blk w0 g 146 #[.slice (some ⟨b, off, none⟩) 1 c, .slice none 0 0] := by rw [← hw0, ← hg]; exact Blk.new _ _ _
 replace x0 := racc.cellOf x0 (by simp)
 replace x1 := racc.cellOf x1 (by simp)
 replace x2 := racc.cellOf x2 (by simp)
 replace x3 := racc.cellOf x3 (by simp)
 replace x4 := racc.cellOf x4 (by simp)
 obtain ⟨c0, c1⟩ := c2q bA
 have HMD := qh hmd
 have HL := qh (hl.wr0 racc)
 have HR := qh hr
 have HW0 := qh hw0
 have HG := qh hg
 clear hmd hl hr hm hc hw0 hg
 go_in
 go_upto_region 1 with (fail)
 rw [HW0.out, HG.out]
 go_wp2_with fail
 refine wp_loop_rounds 2 ?_
 rw [rounds_succ]
 go_wp2_with fail
 refine (HMD.out _ HL.out).mono ?_
 rintro e w2 ⟨rfl, r2⟩
 have ba := bA.wr0 r2
 clear c0 c1
 obtain ⟨c0, c1⟩ := c2q ba
 have R2 := qh (racc.trans r2)
 clear racc r2 ba x0 x1 x2 x3 x4
 cases hq : modB m 1 with
 | false =>
  have hrr : r = 200 := by have := HR.out; rw [hq] at this; simpa using this.symm
  subst hrr
  clear hq HR
  go_wp2_with fail
  go_ret2
  exact ⟨rfl, R2.out⟩
 | true =>
  have hrr : r = 0 := by have := HR.out; rw [hq] at this; simpa using this.symm
  subst hrr
  clear hq HR
  go_wp2_with fail
  rw [rounds_succ]
  go_wp2_with fail
  refine wp_loop_rounds 1 ?_
  rw [rounds_succ]
  go_wp2_with fail
  go_ret2
  exact ⟨rfl, R2.out⟩
theorem rname_any (s : ByteArray) (w : World) : Calls Tryz.prog 49 #[.string s] w fun e w' => e = .returned (.bool (nameB s)) ∧ w' = w := by
 unfold nameB
 by_cases h : s.size = 0
 ·obtain rfl : s = ⟨#[]⟩ := by
   obtain ⟨⟨l⟩⟩ := s
   cases l with
   | nil => rfl
   | cons x l => simp [ByteArray.size] at h
  go_in
  go_wp2_with fail
  go_ret
  exact ⟨rfl, rfl⟩
 ·have h1 := bytes_some s (by omega)
  rw [qdtq (show 1 ≤ s.size by omega), Bool.true_and]
  have e : decide (s.size ≤ 255) = decide ((s.size : Int) < 256) := by
   by_cases c : s.size ≤ 255
   ·rw [qdtq c]; exact (qdtq (by omega)).symm
   ·rw [qdfq c]; exact (qdfq (by omega)).symm
  rw [e]
  clear e
  go_in
  go_wp2_with fail
  go_ret
  exact ⟨rfl, rfl⟩
theorem romod_any (m : ModD) (vp vi vn : Value) (P : Nat → Prop) (w : World) (h : ModL w P vp vi vn m) :
  Calls Tryz.prog 47 #[m.val vp vi vn] w fun e w' => e = .returned (.bool (omodB m)) ∧ Wr [] w w' := by
 have hv : omodB m = (decide (m.imports.length ≤ 255) && (m.imports.all (fun i => inB i 0 63) && modB { m with imports := [] } 1)) := by unfold omodB; rw [Bool.and_assoc]
 obtain ⟨Ap, cp, rfl, lp1, lp2⟩ := Sl.form h.procs
 obtain ⟨Ai, ci, rfl, li1, li2⟩ := Sl.form h.imports
 obtain ⟨An, cn, rfl, ln1, ln2⟩ := Sl.form h.init
 unfold maxLen at lp2 li2 ln2
 have acc := (Wr.refl [] w).alloc (.cells #[.string m.code, .slice Ap m.procs.length cp, .slice Ai m.imports.length ci, .int .i64 m.data, .slice An m.init.length cn] 28)
 have bA := Blk.new w 28 #[.string m.code, .slice Ap m.procs.length cp, .slice Ai m.imports.length ci, .int .i64 m.data, .slice An m.init.length cn]
 obtain ⟨w0, hw0⟩ : ∃ w0, w.alloc (.cells #[.string m.code, .slice Ap m.procs.length cp, .slice Ai m.imports.length ci, .int .i64 m.data, .slice An m.init.length cn] 28) = w0 := ⟨_, rfl⟩
 obtain ⟨g, hg⟩ : ∃ g, w.heap.size = g := ⟨_, rfl⟩
 rw [hw0] at acc bA
 rw [hg] at bA
 unfold ModD.val ModD.cells
 have Hw0 := qh hw0
 have Hg := qh hg
 have HH := qh (h.wr0 acc)
 have HH0 := qh h
 have HV := qh hv
 clear hw0 hg h hv
 go_in
 go_upto_region 1 with (fail)
 rw [Hw0.out, Hg.out]
 obtain ⟨c0, c1, c2, c3, c4⟩ := c5q bA
 have f2 := bA.frozen 2
 by_cases q1 : 255 < (m.imports.length : Int)
 ·go_wp2_with fail
  go_ret
  refine ⟨?_, acc⟩
  rw [HV.out, qdfq (show ¬ m.imports.length ≤ 255 by omega)]
  rfl
 have hv2 : omodB m = (m.imports.all (fun i => inB i 0 63) && modB { m with imports := [] } 1) := by rw [HV.out, qdtq (show m.imports.length ≤ 255 by omega), Bool.true_and]
 have HV2 := qh hv2
 clear hv2
 go_wp2_with fail
 go_loopw [3] (fun s14 wr => ∃ k : Nat, k ≤ m.imports.length ∧ s14 = .int .i64 k ∧ OmAt w0 g #[] m k wr) (fun s14 _ => m.imports.length - (intOf s14).toNat)
 case atStart => exact ⟨0, by omega, rfl, rfl, fun j x hj => absurd hj (by omega)⟩
 case round =>
  obtain ⟨k, hk, rfl, rfl, hyes⟩ := hrel
  have HYES := qh hyes
  clear hyes
  by_cases hlt : k < m.imports.length
  ·obtain ⟨x, hx⟩ : ∃ x, m.imports[k]? = some x := ⟨_, qgeq hlt⟩
   obtain ⟨b, off, c, e, _, _, hc⟩ := i64_at HH.out.imports hx
   injection e with e1 e2 e3
   subst e1
   subst e3
   have HX := qh hx
   clear hx e2
   have hlti : (k : Int) < (m.imports.length : Int) := by omega
   have hk0 : (0 : Int) ≤ (k : Int) := by omega
   by_cases q2 : x < 0
   ·have hf : m.imports.all (fun i => inB i 0 63) = false := all_no (p := fun i => inB i 0 63) HX.out (by
     unfold inB
     rw [qdfq (show ¬ (0 : Int) ≤ x by omega), Bool.false_and])
    have HF := qh hf
    clear hf
    go_wp2_with fail
    go_ret
    exact ⟨by rw [HV2.out, HF.out, Bool.false_and]; rfl, acc⟩
   by_cases q3 : 63 < x
   ·have hf : m.imports.all (fun i => inB i 0 63) = false := all_no (p := fun i => inB i 0 63) HX.out (by
     unfold inB
     rw [qdfq (show ¬ x ≤ 63 by omega), Bool.and_false])
    have HF := qh hf
    clear hf
    go_wp2_with fail
    go_ret
    exact ⟨by rw [HV2.out, HF.out, Bool.false_and]; rfl, acc⟩
   go_wp2_with fail
   go_roundw
   case rel =>
    refine ⟨k + 1, by omega, by go_num, rfl, fun j y hj hy => ?_⟩
    by_cases hjk : j = k
    ·subst hjk
     rw [HX.out] at hy
     injection hy with hy
     rw [← hy]
     exact inBi.2 ⟨by omega, by omega⟩
    ·exact HYES.out j y (by omega) hy
   case measure => simp [intOf]; omega
  ·have hkn : k = m.imports.length := by omega
   subst hkn
   have hall : m.imports.all (fun i => inB i 0 63) = true := all_yes (p := fun i => inB i 0 63) (fun j x hj => HYES.out j x (List.getElem?_eq_some_iff.1 hj).1 hj)
   have hv3 : omodB m = modB { m with imports := [] } 1 := by rw [HV2.out, hall, Bool.true_and]
   have HV3 := qh hv3
   have hz : g < wr.heap.size := bA.lt
   have acc1 := (acc.alloc (.cells #[.string m.code, .slice Ap m.procs.length cp, .slice none 0 0, .int .i64 m.data, .slice An m.init.length cn] 28)).alloc (.cells #[.string m.code, .slice Ap m.procs.length cp, .slice none 0 0, .int .i64 m.data, .slice An m.init.length cn] 28)
   obtain ⟨z, hz'⟩ : ∃ z, wr.heap.size = z := ⟨_, rfl⟩
   obtain ⟨wB, hwB⟩ : ∃ q, wr.alloc (.cells #[.string m.code, .slice Ap m.procs.length cp, .slice none 0 0, .int .i64 m.data, .slice An m.init.length cn] 28) = q := ⟨_, rfl⟩
   rw [hwB] at acc1
   have hin : ModL (wB.alloc (.cells #[.string m.code, .slice Ap m.procs.length cp, .slice none 0 0, .int .i64 m.data, .slice An m.init.length cn] 28)) (fun _ => True) (.slice Ap m.procs.length cp) (.slice none 0 0) (.slice An m.init.length cn) { m with imports := [] } := by
    have h2 := (HH0.out.wr0 acc1).into (Q := fun _ => True) (fun _ _ _ => trivial)
    exact ⟨h2.procs, Sl.nil _ _ 1, h2.init⟩
   have hmo := slMods_one (m := { m with imports := [] }) (vp := .slice Ap m.procs.length cp) (vi := .slice none 0 0) (vn := .slice An m.init.length cn) (Blk.new wB 28 #[.string m.code, .slice Ap m.procs.length cp, .slice none 0 0, .int .i64 m.data, .slice An m.init.length cn]) hin
   have hck := rcheck_one { m with imports := [] } _ (fun _ => True) _ hmo
   have bB : Blk wB z 28 #[.string m.code, .slice Ap m.procs.length cp, .slice none 0 0, .int .i64 m.data, .slice An m.init.length cn] := by rw [← hwB, ← hz']; exact Blk.new _ _ _
   have HCK := qh hck
   have HWB := qh hwB
   have HZ := qh hz'
   have ACC1 := qh acc1
   obtain ⟨y0, y1, y2, y3, y4⟩ := c5q bB
   clear hall hv3 bA hin hmo hck acc acc1 hwB hz' bB
   go_upto_region 10 with (fail)
   rw [HZ.out, HWB.out]
   go_wp2_with fail
   refine HCK.out.mono ?_
   rintro e w3 ⟨rfl, k3⟩
   cases hb : modB { m with imports := [] } 1 with
   | true =>
    have HB := qh hb
    rw [if_pos rfl]
    clear hb
    go_wp2_with fail
    go_ret
    exact ⟨by rw [HV3.out, HB.out]; rfl, ACC1.out.trans k3⟩
   | false =>
    have HB := qh hb
    rw [if_neg (by decide)]
    clear hb
    go_wp2_with fail
    go_ret
    exact ⟨by rw [HV3.out, HB.out]; rfl, ACC1.out.trans k3⟩
def RMayAt (w : World) (g : Nat) (cs : Array Value) (o : ObjD) (k : Nat) (wr : World) : Prop :=
 Wr [] w wr ∧ Blk wr g 30 cs ∧ usesB [o.module] o.uses = usesB (seenL o k) (o.uses.drop k)
def RInAt (w : World) (o : ObjD) (m : ByteArray) (k : Nat) (wr : World) : Prop := Wr [] w wr ∧ inL m ((o.uses.take k).map UseD.module) = false
theorem inL_take {l : List UseD} {k : Nat} {x : UseD} (h : l[k]? = some x) (m : ByteArray) : inL m ((l.take (k + 1)).map UseD.module) = (inL m ((l.take k).map UseD.module) || decide (x.module = m)) := by
 rw [List.take_add_one, h, Option.toList_some, List.map_append]
 exact inL_snoc m x.module _
theorem inL_seen (o : ObjD) (k : Nat) (m : ByteArray) : inL m (seenL o k) = (decide (o.module = m) || inL m ((o.uses.take k).map UseD.module)) := by
 unfold seenL inL
 rw [List.any_append]
 simp
theorem romay_any (o : ObjD) (vu vp vi vn : Value) (P : Nat → Prop) (w : World) (h : ObjL w P vu vp vi vn o) :
  Calls Tryz.prog 15 #[o.val vu vp vi vn] w fun e w' => e = .returned (.bool (objB o)) ∧ Wr [] w w' := by
 have hv : objB o = (nameB o.module && decide (o.uses.length ≤ 255) && decide (o.mod.imports.length = 0) && (usesB [o.module] o.uses && omodB o.mod)) := by unfold objB; simp only [Bool.and_assoc]
 obtain ⟨Au, cu, rfl, lu1, lu2⟩ := Sl.form h.uses
 obtain ⟨Ap, cp, rfl, lp1, lp2⟩ := Sl.form h.mod.procs
 obtain ⟨Ai, ci, rfl, li1, li2⟩ := Sl.form h.mod.imports
 obtain ⟨An, cn, rfl, ln1, ln2⟩ := Sl.form h.mod.init
 unfold maxLen at lu2 lp2 li2 ln2
 have acc := (Wr.refl [] w).alloc (.cells #[.string o.module, .bool o.main, .int .u64 o.key, .slice Au o.uses.length cu, .string o.mod.code, .slice Ap o.mod.procs.length cp, .slice Ai o.mod.imports.length ci, .int .i64 o.mod.data, .slice An o.mod.init.length cn] 30)
 have bA := Blk.new w 30 #[.string o.module, .bool o.main, .int .u64 o.key, .slice Au o.uses.length cu, .string o.mod.code, .slice Ap o.mod.procs.length cp, .slice Ai o.mod.imports.length ci, .int .i64 o.mod.data, .slice An o.mod.init.length cn]
 obtain ⟨w0, hw0⟩ : ∃ w0, w.alloc (.cells #[.string o.module, .bool o.main, .int .u64 o.key, .slice Au o.uses.length cu, .string o.mod.code, .slice Ap o.mod.procs.length cp, .slice Ai o.mod.imports.length ci, .int .i64 o.mod.data, .slice An o.mod.init.length cn] 30) = w0 := ⟨_, rfl⟩
 obtain ⟨g, hg⟩ : ∃ g, w.heap.size = g := ⟨_, rfl⟩
 rw [hw0] at acc bA
 rw [hg] at bA
 unfold ObjD.val ObjD.cells
 have Hw0 := qh hw0
 have Hg := qh hg
 have HH := qh h
 have HV := qh hv
 clear hw0 hg h hv
 go_in
 go_upto_region 1 with (fail)
 rw [Hw0.out, Hg.out]
 have c0 := bA.cell 0
 have c3 := bA.cell 3
 have c6 := bA.cell 6
 simp only [qgaq, qgzq, qgsq] at c0 c3 c6
 go_wp2_with fail
 refine (rname_any _ _).mono ?_
 rintro e w1 ⟨rfl, rfl⟩
 cases q1 : nameB o.module with
 | false =>
  have HQ := qh q1
  clear q1
  go_wp2_with fail
  go_ret
  exact ⟨by rw [HV.out, HQ.out, Bool.false_and, Bool.false_and, Bool.false_and]; rfl, acc⟩
 | true =>
 have HQ := qh q1
 clear q1
 by_cases q2 : 255 < (o.uses.length : Int)
 ·go_wp2_with fail
  go_ret
  exact ⟨by rw [HV.out, qdfq (show ¬ o.uses.length ≤ 255 by omega), Bool.and_false, Bool.false_and, Bool.false_and]; rfl, acc⟩
 have q2' : decide (255 < (o.uses.length : Int)) = false := qdfq (by omega)
 by_cases q3 : o.mod.imports.length = 0
 case neg =>
  have q3' : ((o.mod.imports.length : Int) != 0) = true := by
   have : (o.mod.imports.length : Int) ≠ 0 := by omega
   simpa using this
  have hv2 : objB o = false := by rw [HV.out, qdfq q3, Bool.and_false, Bool.false_and]
  have HV2 := qh hv2
  clear q3 hv2
  go_wp2_with fail
  go_ret
  exact ⟨by rw [HV2.out]; rfl, acc⟩
 have q3' : ((o.mod.imports.length : Int) != 0) = false := by rw [q3]; rfl
 have hv2 : objB o = (usesB [o.module] o.uses && omodB o.mod) := by rw [HV.out, HQ.out, qdtq (show o.uses.length ≤ 255 by omega), qdtq q3]; rfl
 have HV2 := qh hv2
 have ACC := qh acc
 have BA := qh bA
 have Q3 := qh q3
 clear hv2 acc bA q3
 go_wp2_with fail
 clear c0 c3 c6 q3'
 go_loopw [3] (fun s3 wr => ∃ k : Nat, k ≤ o.uses.length ∧ s3 = .int .i64 k ∧ RMayAt w g #[.string o.module, .bool o.main, .int .u64 o.key, .slice Au o.uses.length cu, .string o.mod.code, .slice Ap o.mod.procs.length cp, .slice Ai o.mod.imports.length ci, .int .i64 o.mod.data, .slice An o.mod.init.length cn] o k wr) (fun s3 _ => o.uses.length - (intOf s3).toNat)
 case atStart => exact ⟨0, by omega, rfl, ACC.out, BA.out, rfl⟩
 case round =>
  obtain ⟨k, hk, rfl, acc2, b2, hord⟩ := hrel
  obtain ⟨wo, rfl⟩ : ∃ wo : World, wo = wr := ⟨_, rfl⟩
  have HORD := qh hord
  have ACC2 := qh acc2
  have B2 := qh b2
  clear hord acc2 b2
  have c0 := B2.out.cell 0
  have c3 := B2.out.cell 3
  simp only [qgaq, qgzq, qgsq] at c0 c3
  by_cases hlt2 : k < o.uses.length
  ·obtain ⟨u, hx⟩ : ∃ u, o.uses[k]? = some u := ⟨_, qgeq hlt2⟩
   obtain ⟨b, off, c, e, _, _, hc⟩ := use_at (HH.out.wr0 ACC2.out).uses hx
   injection e with e1 e2 e3
   subst e1
   subst e3
   have x0 := hc 0 _ rfl
   simp only [Nat.add_zero] at x0
   have hd := usesB_drop (seenL o k) hx
   have HD := qh hd
   have HX := qh hx
   clear hx hd e2 hc
   have hlti : (k : Int) < (o.uses.length : Int) := by omega
   have hk0 : (0 : Int) ≤ (k : Int) := by omega
   cases hin : nameB u.module with
   | false =>
    have hr : usesB [o.module] o.uses = false := by rw [HORD.out, HD.out, hin, Bool.false_and, Bool.false_and]
    have HR := qh hr
    clear hr
    go_wp2_with fail
    go_quiet ((go_at_call 49; exact Calls.quiet_of_same (rname_any _ _)))
    go_wp2_with fail
    go_ret
    exact ⟨by rw [HV2.out, HR.out, Bool.false_and]; rfl, ACC2.out.drewN _⟩
   | true =>
   have HIN := qh hin
   by_cases hme : u.module = o.module
   ·have hr : usesB [o.module] o.uses = false := by
     rw [HORD.out, HD.out, hin, inL_seen, qdtq hme.symm]; rfl
    have HR := qh hr
    have hs : (u.module.toList == o.module.toList) = true := by rw [hme]; exact str_eq _
    clear hr hme
    go_wp2_with fail
    go_quiet ((go_at_call 49; exact Calls.quiet_of_same (rname_any _ _)))
    go_wp2_with fail
    go_ret
    exact ⟨by rw [HV2.out, HR.out, Bool.false_and]; rfl, ACC2.out.drewN _⟩
   ·have hs := str_ne hme
    have HME := qh hme
    clear hme
    go_wp2_with fail
    go_quiet ((go_at_call 49; exact Calls.quiet_of_same (rname_any _ _)))
    clear hs hin c0 c3 x0
    go_wp2_with fail
    generalize hWD : World.drewN wo _ = wd
    have rd : Wr [] wo wd := by rw [← hWD]; exact (Wr.refl [] wo).drewN _
    have RD := qh rd
    clear hWD rd
    go_loopw [4] (fun s4 wi => ∃ j : Nat, j ≤ k ∧ s4 = .int .i64 j ∧ RInAt wd o u.module j wi) (fun s4 _ => k - (intOf s4).toNat)
    case atStart => exact ⟨0, by omega, rfl, Wr.refl [] wd, rfl⟩
    case round =>
     obtain ⟨j, hj, rfl, ri, hno⟩ := hrel
     have accI := ACC2.out.trans (RD.out.trans ri)
     have bI := (B2.out.wr0 (RD.out.trans ri))
     have c3 := bI.cell 3
     simp only [qgaq, qgzq, qgsq] at c3
     have ACCI := qh accI
     have RI := qh ri
     have BI := qh bI
     have HNO := qh hno
     clear accI bI ri hno
     by_cases hlt3 : j < k
     ·obtain ⟨x, hy⟩ : ∃ x, o.uses[j]? = some x := ⟨_, qgeq (by omega)⟩
      obtain ⟨b2, off2, c2, e2, _, _, hc2⟩ := use_at (HH.out.wr0 ACCI.out).uses hy
      injection e2 with e1 e2 e3
      injection e1 with e1
      injection e1 with e1 e4 _
      subst e1 e3 e4
      obtain ⟨b3, off3, c3', e2', _, _, hc3⟩ := use_at (HH.out.wr0 ACCI.out).uses HX.out
      injection e2' with e1 e2' e3
      injection e1 with e1
      injection e1 with e1 e4 _
      subst e1 e3 e4
      have y0 := hc2 0 _ rfl
      have x0 := hc3 0 _ rfl
      simp only [Nat.add_zero] at y0 x0
      have HY := qh hy
      clear hc2 hc3 hy e2 e2'
      have hjl : (j : Int) < (o.uses.length : Int) := by omega
      have hjk : (j : Int) < (k : Int) := by omega
      have hj0 : (0 : Int) ≤ (j : Int) := by omega
      by_cases hme2 : x.module = u.module
      ·have hr : usesB [o.module] o.uses = false := by
        have hs : inL u.module (seenL o k) = true := by
         rw [inL_seen]
         have : inL u.module ((o.uses.take k).map UseD.module) = true := by
          rw [inL_iff, ← hme2]
          refine List.mem_map.2 ⟨x, ?_, rfl⟩
          refine List.mem_of_getElem? (i := j) ?_
          rw [List.getElem?_take, if_pos hlt3]
          exact HY.out
         rw [this, Bool.or_true]
        rw [HORD.out, HD.out, hs, HIN.out]; rfl
       have HR := qh hr
       have hs : (x.module.toList == u.module.toList) = true := by rw [hme2]; exact str_eq _
       clear hr hme2
       go_wp2_with fail
       go_quiet (fail)
       go_wp2_with fail
       go_ret
       exact ⟨by rw [HV2.out, HR.out, Bool.false_and]; rfl, ACCI.out.drewN _⟩
      ·have hs := str_ne hme2
       have hno2 : inL u.module ((o.uses.take (j + 1)).map UseD.module) = false := by
        rw [inL_take HY.out, HNO.out, qdfq hme2]; rfl
       have HNO2 := qh hno2
       clear hme2 hno2
       go_wp2_with fail
       go_quiet (fail)
       go_wp2_with fail
       go_roundw
       case rel =>
        first
        | exact ⟨j + 1, by omega, by go_num, RI.out.drewN _, HNO2.out⟩
        | (repeat apply Exists.intro
           refine ⟨⟨j + 1, by omega, by go_num, RI.out.drewN _, HNO2.out⟩, ?_⟩
           rfl)
       case measure => simp [intOf]; omega
     ·have hjk : j = k := by omega
      subst hjk
      have hord2 : usesB [o.module] o.uses = usesB (seenL o (j + 1)) (o.uses.drop (j + 1)) := by
       have hs : inL u.module (seenL o j) = false := by
        rw [inL_seen, HNO.out, qdfq (fun e => HME.out e.symm)]; rfl
       rw [HORD.out, HD.out, hs, HIN.out, seenL_succ HX.out]
       rfl
      have HORD2 := qh hord2
      clear hord2
      go_wp2_with fail
      go_roundw
      case rel => exact ⟨j + 1, by omega, by go_num, ACCI.out, BI.out, HORD2.out⟩
      case measure => simp [intOf]; omega
  ·have hkn : k = o.uses.length := by omega
   subst hkn
   have hr : usesB [o.module] o.uses = true := by rw [HORD.out, List.drop_length]; rfl
   have HR := qh hr
   have d4 := B2.out.cell 4
   have d5 := B2.out.cell 5
   have d6 := B2.out.cell 6
   have d7 := B2.out.cell 7
   have d8 := B2.out.cell 8
   simp only [qgaq, qgzq, qgsq] at d4 d5 d6 d7 d8
   clear hr
   go_wp2_with fail
   refine (romod_any o.mod _ _ _ P _ (HH.out.wr0 ACC2.out).mod).mono ?_
   rintro e w4 ⟨rfl, k4⟩
   go_wp2_with fail
   go_ret
   exact ⟨by rw [HV2.out, HR.out, Bool.true_and]; rfl, ACC2.out.trans k4⟩
end Go.Proofs.YtildcdgobdfieaaGreat
