/- ref 20's in, module: walked. Conditions: the number of modules is small. -/
import Derived.Test.YtfeeeogkkajefaaLkJo
namespace Go.Proofs.Ytfeeeogkkajefaa
open Go.RowKit
set_option linter.unusedVariables false
set_option linter.unusedSimpArgs false

theorem rin_any (n a b : Int) (w : World) : Calls Try.prog 42 #[.int .i64 n, .int .i64 a, .int .i64 b] w fun e w' => e = .returned (.bool (inB n a b)) ∧ w = w' := by
  unfold inB
  by_cases h : a ≤ n
  · have hd : decide (a ≤ n) = true := decide_eq_true h
    rw [hd, Bool.true_and]
    go_enter Try.func42, Try.ntmps42
    go_wp2_with fail
    go_ret
    exact ⟨rfl, rfl⟩
  · have hd : decide (a ≤ n) = false := decide_eq_false h
    rw [hd, Bool.false_and]
    go_enter Try.func42, Try.ntmps42
    go_wp2_with fail
    go_ret
    exact ⟨rfl, rfl⟩
set_option maxRecDepth 100000 in
set_option maxHeartbeats 4000000 in
theorem rmodule_any (m : ModD) (n : Int) (h1n : 1 ≤ n) (hn64 : n ≤ 64) (vp vi vn : Value) (P : Nat → Prop) (w : World) (h : ModL w P vp vi vn m) :
    Calls Try.prog 41 #[m.val vp vi vn, .int .i64 n] w fun e w' => e = .returned (.bool (modB m n)) ∧ Wr [] w w' := by
  have hv := modB_split m n
  obtain ⟨Ap, cp, rfl, lp1, lp2⟩ := Sl.form h.procs
  obtain ⟨Ai, ci, rfl, li1, li2⟩ := Sl.form h.imports
  obtain ⟨An, cn, rfl, ln1, ln2⟩ := Sl.form h.init
  unfold maxLen at lp2 li2 ln2
  have hw1 := fun w => rin_any (m.procs.length : Int) 1 1024 w
  have hw2 := fun w => rin_any m.data (m.init.length : Int) 65535 w
  have hw3 := fun i w => rin_any i 0 (n - 1) w
  have hin := fun i a b w => rin_any i a b w
  have hpB : inB (m.procs.length : Int) 1 1024 = (decide (1 ≤ m.procs.length) && decide (m.procs.length ≤ 1024)) := by
    unfold inB
    rw [Bool.eq_iff_iff]
    simp only [Bool.and_eq_true, decide_eq_true_eq]
    omega
  have acc := (Wr.refl [] w).alloc (.cells (m.cells (.slice Ap m.procs.length cp) (.slice Ai m.imports.length ci) (.slice An m.init.length cn)).toArray 50)
  have bA := Blk.new w 50 (m.cells (.slice Ap m.procs.length cp) (.slice Ai m.imports.length ci) (.slice An m.init.length cn)).toArray
  obtain ⟨w0, hw0⟩ : ∃ w0, w.alloc (.cells (m.cells (.slice Ap m.procs.length cp) (.slice Ai m.imports.length ci) (.slice An m.init.length cn)).toArray 50) = w0 := ⟨_, rfl⟩
  obtain ⟨g, hg⟩ : ∃ g, w.heap.size = g := ⟨_, rfl⟩
  rw [hw0] at acc bA
  rw [hg] at bA
  unfold ModD.cells at bA hw0
  unfold ModD.val ModD.cells
  have Hw0 := Lib.hid hw0
  have Hg := Lib.hid hg
  have HH := Lib.hid h
  have HV := Lib.hid hv
  have HPB := Lib.hid hpB
  clear hw0 hg h hv hpB
  go_enter Try.func41, Try.ntmps41
  go_upto_region 1 with (fail)
  rw [Hw0.out, Hg.out]
  have c0 := bA.cell 0
  have c1 := bA.cell 1
  have c2 := bA.cell 2
  have c3 := bA.cell 3
  have c4 := bA.cell 4
  simp only [List.getElem?_toArray, List.getElem?_cons_zero, List.getElem?_cons_succ] at c0 c1 c2 c3 c4
  by_cases q1 : 65535 < (m.code.size : Int)
  · go_wp2_with fail
    go_ret
    refine ⟨?_, acc⟩
    rw [HV.out, decide_eq_false (show ¬ m.code.size ≤ 65535 by omega)]
    simp
  go_wp2_with fail
  refine (hw1 _).mono ?_
  rintro e w1 ⟨rfl, rfl⟩
  cases q2 : inB (m.procs.length : Int) 1 1024 with
  | false =>
    have hz : (decide (1 ≤ m.procs.length) && decide (m.procs.length ≤ 1024)) = false := by rw [← HPB.out]; exact q2
    have HZ := Lib.hid hz
    clear hz q2
    go_wp2_with fail
    go_ret
    refine ⟨?_, acc⟩
    rw [HV.out, Bool.and_assoc (decide (m.code.size ≤ 65535)), HZ.out]
    simp
  | true =>
  have hz : (decide (1 ≤ m.procs.length) && decide (m.procs.length ≤ 1024)) = true := by rw [← HPB.out]; exact q2
  simp only [Bool.and_eq_true, decide_eq_true_eq] at hz
  obtain ⟨z1, z2⟩ := hz
  clear q2
  by_cases q3 : 255 < (m.imports.length : Int)
  · go_wp2_with fail
    go_ret
    refine ⟨?_, acc⟩
    rw [HV.out, decide_eq_false (show ¬ m.imports.length ≤ 255 by omega)]
    simp
  go_wp2_with fail
  refine (hw2 _).mono ?_
  rintro e w1 ⟨rfl, rfl⟩
  cases q4 : inB m.data (m.init.length : Int) 65535 with
  | false =>
    have HQ := Lib.hid q4
    clear q4
    go_wp2_with fail
    go_ret
    refine ⟨?_, acc⟩
    rw [HV.out, HQ.out]
    simp
  | true =>
  have HQ := Lib.hid q4
  clear q4 hw1 hw2
  have hv2 : modB m n = (m.procs.all (fun p => prcB p m) && (m.imports.all (fun i => inB i 0 (n - 1)) && bodyB m.procs)) := by
    rw [HV.out, HQ.out, decide_eq_true (show m.code.size ≤ 65535 by omega), decide_eq_true z1, decide_eq_true z2, decide_eq_true (show m.imports.length ≤ 255 by omega)]
    simp
  have HV2 := Lib.hid hv2
  clear hv2
  go_wp2_with fail
  go_loopw [5] (fun s39 wr => ∃ k : Nat, k ≤ m.procs.length ∧ s39 = .int .i64 k ∧ MdAt w g m n #[.string m.code, .slice Ap m.procs.length cp, .slice Ai m.imports.length ci, .int .i64 m.data, .slice An m.init.length cn] k wr) (fun s39 _ => m.procs.length - (intOf s39).toNat)
  case atStart => exact ⟨0, by omega, rfl, acc, bA, fun j p hj => absurd hj (by omega)⟩
  case round =>
    obtain ⟨k, hk, rfl, acck, bk, hyes⟩ := hrel
    clear c0 c1 c2 c3 c4
    have c0 := bk.cell 0
    have c1 := bk.cell 1
    have c2 := bk.cell 2
    have c3 := bk.cell 3
    have c4 := bk.cell 4
    simp only [List.getElem?_toArray, List.getElem?_cons_zero, List.getElem?_cons_succ] at c0 c1 c2 c3 c4
    have HYES := Lib.hid hyes
    clear hyes
    by_cases hlt : k < m.procs.length
    · obtain ⟨p, hp⟩ : ∃ p, m.procs[k]? = some p := ⟨_, List.getElem?_eq_getElem hlt⟩
      obtain ⟨b, off, c, e, _, _, hc⟩ := prc_at (HH.out.wr0 acck).procs hp
      injection e with e1 e2 e3
      subst e1
      subst e3
      have x0 := hc 0 _ rfl
      have x1 := hc 1 _ rfl
      have x2 := hc 2 _ rfl
      have x3 := hc 3 _ rfl
      have x4 := hc 4 _ rfl
      have x5 := hc 5 _ rfl
      simp only [Nat.add_zero] at x0
      clear hc e2
      have HP := Lib.hid hp
      clear hp
      have hlti : (k : Int) < (m.procs.length : Int) := by omega
      have hk0 : (0 : Int) ≤ (k : Int) := by omega
      have hz : g < wr.heap.size := bk.lt
      go_wp2_with fail
      refine (hin p.at_ 0 (m.code.size : Int) _).mono ?_
      rintro e w2 ⟨rfl, rfl⟩
      have acc2 := acck.alloc (.cells #[.int .i64 p.at_, .int .i64 p.params, .int .i64 p.locals, .int .i64 p.depth, .int .i64 p.level, .bool p.func] 59)
      have b2 := bk.alloc (.cells #[.int .i64 p.at_, .int .i64 p.params, .int .i64 p.locals, .int .i64 p.depth, .int .i64 p.level, .bool p.func] 59)
      have ACC2 := Lib.hid acc2
      have B2 := Lib.hid b2
      have hbad : prcB p m = false → Hid (m.procs.all (fun p => prcB p m) = false) := fun hpp => Lib.hid (all_no (p := fun p => prcB p m) HP.out hpp)
      have hprc : prcB p m = (inB p.params 0 65535 && inB p.locals 0 65535 && inB p.depth 0 65535 && inB p.at_ 0 (m.code.size : Int) && inB p.level 1 16) := rfl
      have HPRC := Lib.hid hprc
      have HBAD := Lib.hid hbad
      clear acc2 b2 acck bk bA acc hprc hbad
      cases q1 : inB p.at_ 0 (m.code.size : Int) with
      | false =>
        have HF := HBAD.out (by rw [HPRC.out, q1]; simp)
        clear q1
        go_wp2_with fail
        go_ret
        exact ⟨by rw [HV2.out, HF.out, Bool.false_and]; rfl, ACC2.out⟩
      | true =>
      have Q1 := Lib.hid q1
      clear q1
      go_wp2_with fail
      refine (hin p.params 0 65535 _).mono ?_
      rintro e w2 ⟨rfl, rfl⟩
      cases q1 : inB p.params 0 65535 with
      | false =>
        have HF := HBAD.out (by rw [HPRC.out, q1]; simp)
        clear q1
        go_wp2_with fail
        go_ret
        exact ⟨by rw [HV2.out, HF.out, Bool.false_and]; rfl, ACC2.out⟩
      | true =>
      have Q2 := Lib.hid q1
      clear q1
      go_wp2_with fail
      refine (hin p.locals 0 65535 _).mono ?_
      rintro e w2 ⟨rfl, rfl⟩
      cases q1 : inB p.locals 0 65535 with
      | false =>
        have HF := HBAD.out (by rw [HPRC.out, q1]; simp)
        clear q1
        go_wp2_with fail
        go_ret
        exact ⟨by rw [HV2.out, HF.out, Bool.false_and]; rfl, ACC2.out⟩
      | true =>
      have Q3 := Lib.hid q1
      clear q1
      go_wp2_with fail
      refine (hin p.depth 0 65535 _).mono ?_
      rintro e w2 ⟨rfl, rfl⟩
      cases q1 : inB p.depth 0 65535 with
      | false =>
        have HF := HBAD.out (by rw [HPRC.out, q1]; simp)
        clear q1
        go_wp2_with fail
        go_ret
        exact ⟨by rw [HV2.out, HF.out, Bool.false_and]; rfl, ACC2.out⟩
      | true =>
      have Q4 := Lib.hid q1
      clear q1
      go_wp2_with fail
      refine (hin p.level 1 16 _).mono ?_
      rintro e w2 ⟨rfl, rfl⟩
      cases q1 : inB p.level 1 16 with
      | false =>
        have HF := HBAD.out (by rw [HPRC.out, q1]; simp)
        clear q1
        go_wp2_with fail
        go_ret
        exact ⟨by rw [HV2.out, HF.out, Bool.false_and]; rfl, ACC2.out⟩
      | true =>
        have hpp : prcB p m = true := by rw [HPRC.out, Q1.out, Q2.out, Q3.out, Q4.out, q1]; rfl
        have HPP := Lib.hid hpp
        clear hpp q1 x0 x1 x2 x3 x4 x5 c0 c1 c2 c3 c4 hz
        go_wp2_with fail
        go_roundw
        case rel =>
          refine ⟨k + 1, by omega, by go_num, ACC2.out, B2.out, fun j q hj hq => ?_⟩
          by_cases hjk : j = k
          · subst hjk
            rw [HP.out] at hq
            injection hq with hq
            rw [← hq]
            exact HPP.out
          · exact HYES.out j q (by omega) hq
        case measure => simp [intOf]; omega
    · have hkn : k = m.procs.length := by omega
      subst hkn
      have hall : m.procs.all (fun p => prcB p m) = true := all_yes (p := fun p => prcB p m) (fun j x hj => HYES.out j x (List.getElem?_eq_some_iff.1 hj).1 hj)
      have hv3 : modB m n = (m.imports.all (fun i => inB i 0 (n - 1)) && bodyB m.procs) := by rw [HV2.out, hall, Bool.true_and]
      have HV3 := Lib.hid hv3
      have ACC := Lib.hid acck
      have BK := Lib.hid bk
      have hz : g < wr.heap.size := bk.lt
      clear hall hv3 HYES acck bk bA acc
      obtain ⟨wo, hwo⟩ : ∃ wo, wr = wo := ⟨_, rfl⟩
      subst hwo
      go_wp2_with fail
      go_loopw [7] (fun s51 w2 => ∃ k : Nat, k ≤ m.imports.length ∧ s51 = .int .i64 k ∧ ImAt m n wr k w2) (fun s51 _ => m.imports.length - (intOf s51).toNat)
      case atStart => exact ⟨0, by omega, rfl, rfl, fun j x hj => absurd hj (by omega)⟩
      case round =>
        obtain ⟨i, hi, rfl, rfl, hyes⟩ := hrel
        have HYES := Lib.hid hyes
        clear hyes
        by_cases hlt2 : i < m.imports.length
        · obtain ⟨x, hx⟩ : ∃ x, m.imports[i]? = some x := ⟨_, List.getElem?_eq_getElem hlt2⟩
          obtain ⟨b, off, c, e, _, _, hc⟩ := i64_at (HH.out.wr0 ACC.out).imports hx
          injection e with e1 e2 e3
          subst e1
          subst e3
          clear e2
          have HX := Lib.hid hx
          clear hx
          have hlti : (i : Int) < (m.imports.length : Int) := by omega
          have hi0 : (0 : Int) ≤ (i : Int) := by omega
          go_wp2_with fail
          refine (hw3 _ _).mono ?_
          rintro e w2 ⟨rfl, rfl⟩
          cases hpp : inB x 0 (n - 1) with
          | false =>
            have hf : m.imports.all (fun i => inB i 0 (n - 1)) = false := all_no (p := fun i => inB i 0 (n - 1)) HX.out hpp
            have HF := Lib.hid hf
            clear hf hpp
            go_wp2_with fail
            go_ret
            exact ⟨by rw [HV3.out, HF.out, Bool.false_and]; rfl, ACC.out⟩
          | true =>
            have HPP := Lib.hid hpp
            clear hpp
            go_wp2_with fail
            go_roundw
            case rel =>
              refine ⟨i + 1, by omega, by go_num, rfl, fun j q hj hq => ?_⟩
              by_cases hjk : j = i
              · subst hjk
                rw [HX.out] at hq
                injection hq with hq
                rw [← hq]
                exact HPP.out
              · exact HYES.out j q (by omega) hq
            case measure => simp [intOf]; omega
        · have hin : i = m.imports.length := by omega
          subst hin
          have hall : m.imports.all (fun i => inB i 0 (n - 1)) = true := all_yes (p := fun i => inB i 0 (n - 1)) (fun j x hj => HYES.out j x (List.getElem?_eq_some_iff.1 hj).1 hj)
          obtain ⟨p, hp⟩ : ∃ p, m.procs[0]? = some p := ⟨_, List.getElem?_eq_getElem (by omega)⟩
          have hv4 : modB m n = (decide (p.level = 1) && decide (p.params = 0) && !p.func) := by rw [HV3.out, hall, Bool.true_and, body_at _ p hp]
          have HV4 := Lib.hid hv4
          obtain ⟨b, off, c, e, _, _, hc⟩ := prc_at (HH.out.wr0 ACC.out).procs hp
          injection e with e1 e2 e3
          subst e1
          subst e3
          have x0 := hc 0 _ rfl
          have x1 := hc 1 _ rfl
          have x2 := hc 2 _ rfl
          have x3 := hc 3 _ rfl
          have x4 := hc 4 _ rfl
          have x5 := hc 5 _ rfl
          simp only [Nat.zero_mul, Nat.add_zero] at x0 x1 x2 x3 x4 x5
          have z1' : (0 : Int) < (m.procs.length : Int) := by omega
          clear hc e2 hall hv4 hp
          by_cases y1 : p.level = 1
          · by_cases y2 : p.params = 0
            · have y1' : (p.level == 1) = true := by simpa using y1
              have y2' : (p.params == 0) = true := by simpa using y2
              have hr : Hid (modB m n = !p.func) := Lib.hid (by rw [HV4.out, decide_eq_true y1, decide_eq_true y2]; simp)
              clear y1 y2
              go_wp2_with fail
              go_ret
              exact ⟨by rw [hr.out] <;> rfl, ACC.out⟩
            · have y1' : (p.level == 1) = true := by simpa using y1
              have y2' : (p.params == 0) = false := by simpa using y2
              have hr : Hid (modB m n = false) := Lib.hid (by rw [HV4.out, decide_eq_false y2]; simp)
              clear y1 y2
              go_wp2_with fail
              go_ret
              exact ⟨by rw [hr.out] <;> rfl, ACC.out⟩
          · have y1' : (p.level == 1) = false := by simpa using y1
            have hr : Hid (modB m n = false) := Lib.hid (by rw [HV4.out, decide_eq_false y1]; simp)
            clear y1
            go_wp2_with fail
            go_ret
            exact ⟨by rw [hr.out] <;> rfl, ACC.out⟩
end Go.Proofs.Ytfeeeogkkajefaa
