/- obj's name, module, May: walked. No conditions. -/
import Derived.Test.YtfeeeogkkajefaaLkH
import Derived.Test.YtfeeeogkkajefaaMapR
namespace Go.Proofs.Ytfeeeogkkajefaa
open Go.RowKit
set_option linter.unusedVariables false
set_option linter.unusedSimpArgs false

theorem slMods_one {w : World} {nb : Nat} {t : TypeId} {m : ModD} {vp vi vn : Value} (hb : Blk w nb t (m.cells vp vi vn).toArray) (h : ModL w (fun _ => True) vp vi vn m) : SlMods w (fun _ => True) (.slice (some ⟨nb, 0, none⟩) 1 1) [m] := by
  refine ⟨m.cells vp vi vn, ⟨_, _, rfl, Nat.le_refl _, by unfold maxLen; simp, rfl, fun j u hj => ⟨nb, 0, rfl, trivial, ?_⟩⟩, ?_, fun i x hi => ?_⟩
  · rw [hb.cell, Nat.zero_add]
    simpa using hj
  · obtain ⟨Ap, cp, rfl, _, _⟩ := Sl.form h.procs
    obtain ⟨Ai, ci, rfl, _, _⟩ := Sl.form h.imports
    obtain ⟨An, cn, rfl, _, _⟩ := Sl.form h.init
    intro u hu
    simp only [ModD.cells, List.mem_cons, List.not_mem_nil, or_false] at hu
    rcases hu with rfl | rfl | rfl | rfl | rfl <;> rfl
  · cases i with
    | zero =>
      simp only [List.getElem?_cons_zero, Option.some.injEq] at hi
      subst hi
      exact ⟨vp, vi, vn, fun j u hj => by simpa using hj, h⟩
    | succ i => simp at hi
theorem checkP_one (m : ModD) : checkP [m] [] = if modB m 1 then (0, 0) else (0, 200) := by
  have h1 : inB (([m].length : Nat) : Int) 1 64 = true := inBi.2 ⟨by simp, by simp⟩
  unfold checkP
  rw [if_pos h1]
  cases h : modB m 1 with
  | true =>
    have : modsAt (([m].length : Nat) : Int) 0 [m] = none := by
      show (if modB m 1 then _ else _) = _
      rw [h]; rfl
    simp only [this]
    rfl
  | false =>
    have : modsAt (([m].length : Nat) : Int) 0 [m] = some 0 := by
      show (if modB m 1 then _ else _) = _
      rw [h]; rfl
    simp only [this]
    rfl
theorem oname_any (s : ByteArray) (w : World) : Calls Try.prog 32 #[.string s] w fun e w' => e = .returned (.bool (nameB s)) ∧ w = w' := by
  unfold nameB
  by_cases h : (1 : Int) ≤ (s.size : Int)
  · rw [decide_eq_true (show 1 ≤ s.size by omega), Bool.true_and]
    go_enter Try.func32, Try.ntmps32
    go_wp2_with fail
    go_ret
    refine ⟨?_, rfl⟩
    have e : decide (s.size ≤ 255) = decide ((s.size : Int) ≤ 255) := by
      by_cases c : s.size ≤ 255
      · rw [decide_eq_true c]; exact (decide_eq_true (by omega)).symm
      · rw [decide_eq_false c]; exact (decide_eq_false (by omega)).symm
    rw [e]
    rfl
  · rw [decide_eq_false (show ¬ 1 ≤ s.size by omega), Bool.false_and]
    go_enter Try.func32, Try.ntmps32
    go_wp2_with fail
    go_ret
    exact ⟨rfl, rfl⟩
def OmAt (w : World) (g : Nat) (cs : Array Value) (m : ModD) (k : Nat) (wr : World) : Prop := wr = w ∧ ∀ (j : Nat) (x : Int), j < k → m.imports[j]? = some x → inB x 0 63 = true
set_option maxRecDepth 100000 in
set_option maxHeartbeats 4000000 in
theorem omod_any (m : ModD) (vp vi vn : Value) (P : Nat → Prop) (w : World) (h : ModL w P vp vi vn m) :
    Calls Try.prog 33 #[m.val vp vi vn] w fun e w' => e = .returned (.bool (omodB m)) ∧ Wr [] w w' := by
  have hv : omodB m = (decide (m.imports.length ≤ 255) && (m.imports.all (fun i => inB i 0 63) && modB { m with imports := [] } 1)) := by unfold omodB; rw [Bool.and_assoc]
  obtain ⟨Ap, cp, rfl, lp1, lp2⟩ := Sl.form h.procs
  obtain ⟨Ai, ci, rfl, li1, li2⟩ := Sl.form h.imports
  obtain ⟨An, cn, rfl, ln1, ln2⟩ := Sl.form h.init
  unfold maxLen at lp2 li2 ln2
  have acc := (Wr.refl [] w).alloc (.cells #[.string m.code, .slice Ap m.procs.length cp, .slice Ai m.imports.length ci, .int .i64 m.data, .slice An m.init.length cn] 50)
  have bA := Blk.new w 50 #[.string m.code, .slice Ap m.procs.length cp, .slice Ai m.imports.length ci, .int .i64 m.data, .slice An m.init.length cn]
  obtain ⟨w0, hw0⟩ : ∃ w0, w.alloc (.cells #[.string m.code, .slice Ap m.procs.length cp, .slice Ai m.imports.length ci, .int .i64 m.data, .slice An m.init.length cn] 50) = w0 := ⟨_, rfl⟩
  obtain ⟨g, hg⟩ : ∃ g, w.heap.size = g := ⟨_, rfl⟩
  rw [hw0] at acc bA
  rw [hg] at bA
  unfold ModD.val ModD.cells
  have Hw0 := Lib.hid hw0
  have Hg := Lib.hid hg
  have HH := Lib.hid (h.wr0 acc)
  have HH0 := Lib.hid h
  have HV := Lib.hid hv
  clear hw0 hg h hv
  go_enter Try.func33, Try.ntmps33
  go_upto_region 1 with (fail)
  rw [Hw0.out, Hg.out]
  have c0 := bA.cell 0
  have c1 := bA.cell 1
  have c2 := bA.cell 2
  have c3 := bA.cell 3
  have c4 := bA.cell 4
  have f2 := bA.frozen 2
  simp only [List.getElem?_toArray, List.getElem?_cons_zero, List.getElem?_cons_succ] at c0 c1 c2 c3 c4
  by_cases q1 : 255 < (m.imports.length : Int)
  · go_wp2_with fail
    go_ret
    refine ⟨?_, acc⟩
    rw [HV.out, decide_eq_false (show ¬ m.imports.length ≤ 255 by omega)]
    rfl
  have hv2 : omodB m = (m.imports.all (fun i => inB i 0 63) && modB { m with imports := [] } 1) := by rw [HV.out, decide_eq_true (show m.imports.length ≤ 255 by omega), Bool.true_and]
  have HV2 := Lib.hid hv2
  clear hv2
  go_wp2_with fail
  go_loopw [14] (fun s14 wr => ∃ k : Nat, k ≤ m.imports.length ∧ s14 = .int .i64 k ∧ OmAt w0 g #[] m k wr) (fun s14 _ => m.imports.length - (intOf s14).toNat)
  case atStart => exact ⟨0, by omega, rfl, rfl, fun j x hj => absurd hj (by omega)⟩
  case round =>
    obtain ⟨k, hk, rfl, rfl, hyes⟩ := hrel
    have HYES := Lib.hid hyes
    clear hyes
    by_cases hlt : k < m.imports.length
    · obtain ⟨x, hx⟩ : ∃ x, m.imports[k]? = some x := ⟨_, List.getElem?_eq_getElem hlt⟩
      obtain ⟨b, off, c, e, _, _, hc⟩ := i64_at HH.out.imports hx
      injection e with e1 e2 e3
      subst e1
      subst e3
      have HX := Lib.hid hx
      clear hx e2
      have hlti : (k : Int) < (m.imports.length : Int) := by omega
      have hk0 : (0 : Int) ≤ (k : Int) := by omega
      by_cases q2 : x < 0
      · have hf : m.imports.all (fun i => inB i 0 63) = false := all_no (p := fun i => inB i 0 63) HX.out (by
          unfold inB
          rw [decide_eq_false (show ¬ (0 : Int) ≤ x by omega), Bool.false_and])
        have HF := Lib.hid hf
        clear hf
        go_wp2_with fail
        go_ret
        exact ⟨by rw [HV2.out, HF.out, Bool.false_and]; rfl, acc⟩
      by_cases q3 : 64 ≤ x
      · have hf : m.imports.all (fun i => inB i 0 63) = false := all_no (p := fun i => inB i 0 63) HX.out (by
          unfold inB
          rw [decide_eq_false (show ¬ x ≤ 63 by omega), Bool.and_false])
        have HF := Lib.hid hf
        clear hf
        go_wp2_with fail
        go_ret
        exact ⟨by rw [HV2.out, HF.out, Bool.false_and]; rfl, acc⟩
      go_wp2_with fail
      go_roundw
      case rel =>
        refine ⟨k + 1, by omega, by go_num, rfl, fun j y hj hy => ?_⟩
        by_cases hjk : j = k
        · subst hjk
          rw [HX.out] at hy
          injection hy with hy
          rw [← hy]
          exact inBi.2 ⟨by omega, by omega⟩
        · exact HYES.out j y (by omega) hy
      case measure => simp [intOf]; omega
    · have hkn : k = m.imports.length := by omega
      subst hkn
      have hall : m.imports.all (fun i => inB i 0 63) = true := all_yes (p := fun i => inB i 0 63) (fun j x hj => HYES.out j x (List.getElem?_eq_some_iff.1 hj).1 hj)
      have hv3 : omodB m = modB { m with imports := [] } 1 := by rw [HV2.out, hall, Bool.true_and]
      have HV3 := Lib.hid hv3
      have hz : g < wr.heap.size := bA.lt
      have acc1 := (acc.setNew (b := g) (o := 2) (by rw [Hg.out]; exact Nat.le_refl _) (.slice none 0 0)).alloc (.cells #[.string m.code, .slice Ap m.procs.length cp, .slice none 0 0, .int .i64 m.data, .slice An m.init.length cn] 50)
      have hin : ModL ((wr.setCell ⟨g, 2, none⟩ (.slice none 0 0)).alloc (.cells #[.string m.code, .slice Ap m.procs.length cp, .slice none 0 0, .int .i64 m.data, .slice An m.init.length cn] 50)) (fun _ => True) (.slice Ap m.procs.length cp) (.slice none 0 0) (.slice An m.init.length cn) { m with imports := [] } := by
        have h2 := (HH0.out.wr0 acc1).into (Q := fun _ => True) (fun _ _ _ => trivial)
        exact ⟨h2.procs, Sl.nil _ _ 1, h2.init⟩
      have hmo := slMods_one (m := { m with imports := [] }) (vp := .slice Ap m.procs.length cp) (vi := .slice none 0 0) (vn := .slice An m.init.length cn) (Blk.new (wr.setCell ⟨g, 2, none⟩ (.slice none 0 0)) 50 #[.string m.code, .slice Ap m.procs.length cp, .slice none 0 0, .int .i64 m.data, .slice An m.init.length cn]) hin
      have hck := check_any [{ m with imports := [] }] [] _ (.slice none 0 0) (fun _ => True) _ hmo (Sl.nil _ _ 1)
      rw [checkP_one] at hck
      rw [show (wr.setCell ⟨g, 2, none⟩ (.slice none 0 0)).heap.size = wr.heap.size by simp] at hck
      have HCK := Lib.hid hck
      have HBA := Lib.hid bA
      have ACC1 := Lib.hid acc1
      clear hall hv3 bA hin hmo hck acc acc1
      go_wp2_with fail
      refine HCK.out.mono ?_
      rintro e w3 ⟨rfl, k3⟩
      cases hb : modB { m with imports := [] } 1 with
      | true =>
        have HB := Lib.hid hb
        clear hb
        go_wp2_with fail
        go_ret
        exact ⟨by rw [HV3.out, HB.out]; rfl, ACC1.out.trans k3⟩
      | false =>
        have HB := Lib.hid hb
        clear hb
        go_wp2_with fail
        go_ret
        exact ⟨by rw [HV3.out, HB.out]; rfl, ACC1.out.trans k3⟩
end Go.Proofs.Ytfeeeogkkajefaa
