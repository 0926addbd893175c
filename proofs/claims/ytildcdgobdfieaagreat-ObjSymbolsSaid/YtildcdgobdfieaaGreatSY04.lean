/- mach's module: walked. Conditions: the number of modules is small. -/
import Derived.Test.YtildcdgobdfieaaGreatSY01
import Derived.Test.YtildcdgobdfieaaGreatSY03
import Derived.MapKept
set_option linter.unusedVariables false
set_option linter.unusedSimpArgs false
set_option maxRecDepth 100000
set_option maxHeartbeats 32000000
namespace Go.Proofs.YtildcdgobdfieaaGreat
open Go.RowKit
theorem prc_len (p : PrcD) : p.cells.length = 6 := rfl
theorem use_len (u : UseD) : u.cells.length = 2 := rfl
section
variable {w : World} {P : Nat → Prop} {v : Value}
theorem prc_at {l : List PrcD} (h : SlPrcs w P v l) {i : Nat} {p : PrcD} (hi : l[i]? = some p) : ∃ b off c, v = .slice (some ⟨b, off, none⟩) l.length c ∧ l.length ≤ c ∧ c ≤ maxLen ∧ ∀ j u, p.cells[j]? = some u → w.cell? ⟨b, off + i * 6 + j, none⟩ = some u := by
 obtain ⟨b, off, c, e, h1, h2, _, h4⟩ := Sl.thing h (by decide) (List.getElem?_eq_some_iff.1 hi).1
 refine ⟨b, off, c, e, h1, h2, fun j u hj => ?_⟩
 have hj6 : j < 6 := (List.getElem?_eq_some_iff.1 hj).1
 rw [Nat.add_assoc]
 exact h4 j u hj6 (by rw [flat_at prc_len l i j p hi hj6]; exact hj)
theorem use_at {l : List UseD} (h : SlUses w P v l) {i : Nat} {p : UseD} (hi : l[i]? = some p) : ∃ b off c, v = .slice (some ⟨b, off, none⟩) l.length c ∧ l.length ≤ c ∧ c ≤ maxLen ∧ ∀ j u, p.cells[j]? = some u → w.cell? ⟨b, off + i * 2 + j, none⟩ = some u := by
 obtain ⟨b, off, c, e, h1, h2, _, h4⟩ := Sl.thing h (by decide) (List.getElem?_eq_some_iff.1 hi).1
 refine ⟨b, off, c, e, h1, h2, fun j u hj => ?_⟩
 have hj6 : j < 2 := (List.getElem?_eq_some_iff.1 hj).1
 rw [Nat.add_assoc]
 exact h4 j u hj6 (by rw [flat_at use_len l i j p hi hj6]; exact hj)
theorem i64_at {l : List Int} (h : SlI64 w P v l) {i : Nat} {x : Int} (hi : l[i]? = some x) : ∃ b off c, v = .slice (some ⟨b, off, none⟩) l.length c ∧ l.length ≤ c ∧ c ≤ maxLen ∧ w.cell? ⟨b, off + i, none⟩ = some (.int .i64 x) := by
 obtain ⟨b, off, c, e, h1, h2, _, h4⟩ := Sl.at_ h (j := i) (u := .int .i64 x) (by rw [List.getElem?_map, hi]; rfl)
 exact ⟨b, off, c, e, h1, h2, h4⟩
end
theorem modB_split (m : ModD) (n : Int) : modB m n = (decide (m.code.size ≤ 65535) && decide (1 ≤ m.procs.length) && decide (m.procs.length ≤ 1024) && decide (m.imports.length ≤ 255) && inB m.data (m.init.length : Int) 65535 &&
  (m.procs.all (fun p => prcB p m) && (m.imports.all (fun i => inB i 0 (n - 1)) && bodyB m.procs))) := by
 unfold modB
 simp only [Bool.and_assoc]
theorem body_at (l : List PrcD) (p : PrcD) (h : l[0]? = some p) : bodyB l = (decide (p.level = 1) && decide (p.params = 0) && !p.func) := by
 cases l with
 | nil => cases h
 | cons q l =>
  simp only [qgzq, Option.some.injEq] at h
  subst h
  rfl
theorem all_no {α : Type} {l : List α} {p : α → Bool} {k : Nat} {x : α} (h : l[k]? = some x) (hx : p x = false) : l.all p = false := by
 rw [List.all_eq_false]
 exact ⟨x, List.mem_of_getElem? h, by rw [hx]; decide⟩
theorem all_yes {α : Type} {l : List α} {p : α → Bool} (h : ∀ (j : Nat) (x : α), l[j]? = some x → p x = true) : l.all p = true := by
 rw [List.all_eq_true]
 intro x hx
 obtain ⟨j, hj⟩ := List.getElem?_of_mem hx
 exact h j x hj
def ImAt (m : ModD) (n : Int) (wr : World) (k : Nat) (w2 : World) : Prop := w2 = wr ∧ ∀ (j : Nat) (x : Int), j < k → m.imports[j]? = some x → inB x 0 (n - 1) = true
def MdAt (w : World) (g : Nat) (m : ModD) (n : Int) (cs : Array Value) (k : Nat) (wr : World) : Prop := Wr [] w wr ∧ Blk wr g 28 cs ∧ ∀ j p, j < k → m.procs[j]? = some p → prcB p m = true
theorem module_any (m : ModD) (n : Int) (h1n : 1 ≤ n) (hn64 : n ≤ 64) (vp vi vn : Value) (P : Nat → Prop) (w : World) (h : ModL w P vp vi vn m) :
  Calls Tryz.prog 102 #[m.val vp vi vn, .int .i64 n] w fun e w' => e = .returned (.bool (modB m n)) ∧ Wr [] w w' := by
 have hv := modB_split m n
 obtain ⟨Ap, cp, rfl, lp1, lp2⟩ := Sl.form h.procs
 obtain ⟨Ai, ci, rfl, li1, li2⟩ := Sl.form h.imports
 obtain ⟨An, cn, rfl, ln1, ln2⟩ := Sl.form h.init
 unfold maxLen at lp2 li2 ln2
 have hw1 := fun w => within_any (m.procs.length : Int) 1 1024 w
 have hw2 := fun w => within_any m.data (m.init.length : Int) 65535 w
 have hw3 := fun i w => within_any i 0 (n - 1) w
 have hpB : inB (m.procs.length : Int) 1 1024 = (decide (1 ≤ m.procs.length) && decide (m.procs.length ≤ 1024)) := by
  unfold inB
  rw [Bool.eq_iff_iff]
  simp only [Bool.and_eq_true, decide_eq_true_eq]
  omega
 have acc := (Wr.refl [] w).alloc (.cells (m.cells (.slice Ap m.procs.length cp) (.slice Ai m.imports.length ci) (.slice An m.init.length cn)).toArray 28)
 have bA := Blk.new w 28 (m.cells (.slice Ap m.procs.length cp) (.slice Ai m.imports.length ci) (.slice An m.init.length cn)).toArray
 obtain ⟨w0, hw0⟩ : ∃ w0, w.alloc (.cells (m.cells (.slice Ap m.procs.length cp) (.slice Ai m.imports.length ci) (.slice An m.init.length cn)).toArray 28) = w0 := ⟨_, rfl⟩
 obtain ⟨g, hg⟩ : ∃ g, w.heap.size = g := ⟨_, rfl⟩
 rw [hw0] at acc bA
 rw [hg] at bA
 unfold ModD.cells at bA hw0
 unfold ModD.val ModD.cells
 have Hw0 := qh hw0
 have Hg := qh hg
 have HH := qh h
 have HV := qh hv
 have HPB := qh hpB
 clear hw0 hg h hv hpB
 go_enter Tryz.func102, Tryz.ntmps102
 go_upto_region 1 with (fail)
 rw [Hw0.out, Hg.out]
 have c0 := bA.cell 0
 have c1 := bA.cell 1
 have c2 := bA.cell 2
 have c3 := bA.cell 3
 have c4 := bA.cell 4
 simp only [qgaq, qgzq, qgsq] at c0 c1 c2 c3 c4
 by_cases q1 : 65535 < (m.code.size : Int)
 ·go_wp2_with fail
  go_ret
  refine ⟨?_, acc⟩
  rw [HV.out, decide_eq_false (show ¬ m.code.size ≤ 65535 by omega)]
  simp
 go_wp2_with fail
 refine (hw1 _).mono ?_
 rintro e w1 ⟨rfl, rfl⟩
 cases q2 : inB (m.procs.length : Int) 1 1024 with
 | false =>
  have hz : (decide (1 ≤ m.procs.length) && decide (m.procs.length ≤ 1024)) = false := by rw [← HPB.out]; exact q2
  have HZ := qh hz
  clear hz q2
  go_wp2_with fail
  go_ret
  refine ⟨?_, acc⟩
  rw [HV.out, Bool.and_assoc (decide (m.code.size ≤ 65535)), HZ.out]
  simp
 | true =>
 have hz : (decide (1 ≤ m.procs.length) && decide (m.procs.length ≤ 1024)) = true := by rw [← HPB.out]; exact q2
 simp only [Bool.and_eq_true, decide_eq_true_eq] at hz
 obtain ⟨z1, z2⟩ := hz
 clear q2
 by_cases q3 : 255 < (m.imports.length : Int)
 ·go_wp2_with fail
  go_ret
  refine ⟨?_, acc⟩
  rw [HV.out, decide_eq_false (show ¬ m.imports.length ≤ 255 by omega)]
  simp
 go_wp2_with fail
 refine (hw2 _).mono ?_
 rintro e w1 ⟨rfl, rfl⟩
 cases q4 : inB m.data (m.init.length : Int) 65535 with
 | false =>
  have HQ := qh q4
  clear q4
  go_wp2_with fail
  go_ret
  refine ⟨?_, acc⟩
  rw [HV.out, HQ.out]
  simp
 | true =>
 have HQ := qh q4
 clear q4 hw1 hw2
 have hv2 : modB m n = (m.procs.all (fun p => prcB p m) && (m.imports.all (fun i => inB i 0 (n - 1)) && bodyB m.procs)) := by
  rw [HV.out, HQ.out, decide_eq_true (show m.code.size ≤ 65535 by omega), decide_eq_true z1, decide_eq_true z2, decide_eq_true (show m.imports.length ≤ 255 by omega)]
  simp
 have HV2 := qh hv2
 clear hv2
 go_wp2_with fail
 go_loopw [39] (fun s39 wr => ∃ k : Nat, k ≤ m.procs.length ∧ s39 = .int .i64 k ∧ MdAt w g m n #[.string m.code, .slice Ap m.procs.length cp, .slice Ai m.imports.length ci, .int .i64 m.data, .slice An m.init.length cn] k wr) (fun s39 _ => m.procs.length - (intOf s39).toNat)
 case atStart => exact ⟨0, by omega, rfl, acc, bA, fun j p hj => absurd hj (by omega)⟩
 case round =>
  obtain ⟨k, hk, rfl, acck, bk, hyes⟩ := hrel
  clear c0 c1 c2 c3 c4
  have c0 := bk.cell 0
  have c1 := bk.cell 1
  have c2 := bk.cell 2
  have c3 := bk.cell 3
  have c4 := bk.cell 4
  simp only [qgaq, qgzq, qgsq] at c0 c1 c2 c3 c4
  have HYES := qh hyes
  clear hyes
  by_cases hlt : k < m.procs.length
  ·obtain ⟨p, hp⟩ : ∃ p, m.procs[k]? = some p := ⟨_, List.getElem?_eq_getElem hlt⟩
   obtain ⟨b, off, c, e, _, _, hc⟩ := prc_at (HH.out.wr0 acck).procs hp
   injection e with e1 e2 e3
   subst e1
   subst e3
   have x0 := hc 0 _ rfl
   have x1 := hc 1 _ rfl
   have x2 := hc 2 _ rfl
   have x3 := hc 3 _ rfl
   have x4 := hc 4 _ rfl
   have x5 := hc 5 _ rfl
   simp only [Nat.add_zero] at x0
   clear hc e2
   have HP := qh hp
   clear hp
   have hlti : (k : Int) < (m.procs.length : Int) := by omega
   have hk0 : (0 : Int) ≤ (k : Int) := by omega
   have hz : g < wr.heap.size := bk.lt
   go_wp2_with fail
   refine (mmay_any p m (.slice (some ⟨b, off, none⟩) m.procs.length cp) (.slice Ai m.imports.length ci) (.slice An m.init.length cn) _).mono ?_
   rintro e w2 ⟨rfl, k2⟩
   have acc2 := (acck.alloc (.cells #[.int .i64 p.at_, .int .i64 p.params, .int .i64 p.locals, .int .i64 p.depth, .int .i64 p.level, .bool p.func] 98)).trans k2
   have b2 := (bk.alloc (.cells #[.int .i64 p.at_, .int .i64 p.params, .int .i64 p.locals, .int .i64 p.depth, .int .i64 p.level, .bool p.func] 98)).wr0 k2
   have ACC2 := qh acc2
   have B2 := qh b2
   clear x0 x1 x2 x3 x4 x5 c0 c1 c2 c3 c4 hz k2 acc2 b2 acck bk bA acc
   cases hpp : prcB p m with
   | false =>
    have hf : m.procs.all (fun p => prcB p m) = false := all_no (p := fun p => prcB p m) HP.out hpp
    have HF := qh hf
    clear hf hpp
    go_wp2_with fail
    go_ret
    exact ⟨by rw [HV2.out, HF.out, Bool.false_and]; rfl, ACC2.out⟩
   | true =>
    have HPP := qh hpp
    clear hpp
    go_wp2_with fail
    go_roundw
    case rel =>
     refine ⟨k + 1, by omega, by go_num, ACC2.out, B2.out, fun j q hj hq => ?_⟩
     by_cases hjk : j = k
     ·subst hjk
      rw [HP.out] at hq
      injection hq with hq
      rw [← hq]
      exact HPP.out
     ·exact HYES.out j q (by omega) hq
    case measure => simp [intOf]; omega
  ·have hkn : k = m.procs.length := by omega
   subst hkn
   have hall : m.procs.all (fun p => prcB p m) = true := all_yes (p := fun p => prcB p m) (fun j x hj => HYES.out j x (List.getElem?_eq_some_iff.1 hj).1 hj)
   have hv3 : modB m n = (m.imports.all (fun i => inB i 0 (n - 1)) && bodyB m.procs) := by rw [HV2.out, hall, Bool.true_and]
   have HV3 := qh hv3
   have ACC := qh acck
   have BK := qh bk
   have hz : g < wr.heap.size := bk.lt
   clear hall hv3 HYES acck bk bA acc
   obtain ⟨wo, hwo⟩ : ∃ wo, wr = wo := ⟨_, rfl⟩
   subst hwo
   go_wp2_with fail
   go_loopw [51] (fun s51 w2 => ∃ k : Nat, k ≤ m.imports.length ∧ s51 = .int .i64 k ∧ ImAt m n wr k w2) (fun s51 _ => m.imports.length - (intOf s51).toNat)
   case atStart => exact ⟨0, by omega, rfl, rfl, fun j x hj => absurd hj (by omega)⟩
   case round =>
    obtain ⟨i, hi, rfl, rfl, hyes⟩ := hrel
    have HYES := qh hyes
    clear hyes
    by_cases hlt2 : i < m.imports.length
    ·obtain ⟨x, hx⟩ : ∃ x, m.imports[i]? = some x := ⟨_, List.getElem?_eq_getElem hlt2⟩
     obtain ⟨b, off, c, e, _, _, hc⟩ := i64_at (HH.out.wr0 ACC.out).imports hx
     injection e with e1 e2 e3
     subst e1
     subst e3
     clear e2
     have HX := qh hx
     clear hx
     have hlti : (i : Int) < (m.imports.length : Int) := by omega
     have hi0 : (0 : Int) ≤ (i : Int) := by omega
     go_wp2_with fail
     refine (hw3 _ _).mono ?_
     rintro e w2 ⟨rfl, rfl⟩
     cases hpp : inB x 0 (n - 1) with
     | false =>
      have hf : m.imports.all (fun i => inB i 0 (n - 1)) = false := all_no (p := fun i => inB i 0 (n - 1)) HX.out hpp
      have HF := qh hf
      clear hf hpp
      go_wp2_with fail
      go_ret
      exact ⟨by rw [HV3.out, HF.out, Bool.false_and]; rfl, ACC.out⟩
     | true =>
      have HPP := qh hpp
      clear hpp
      go_wp2_with fail
      go_roundw
      case rel =>
       refine ⟨i + 1, by omega, by go_num, rfl, fun j q hj hq => ?_⟩
       by_cases hjk : j = i
       ·subst hjk
        rw [HX.out] at hq
        injection hq with hq
        rw [← hq]
        exact HPP.out
       ·exact HYES.out j q (by omega) hq
      case measure => simp [intOf]; omega
    ·have hin : i = m.imports.length := by omega
     subst hin
     have hall : m.imports.all (fun i => inB i 0 (n - 1)) = true := all_yes (p := fun i => inB i 0 (n - 1)) (fun j x hj => HYES.out j x (List.getElem?_eq_some_iff.1 hj).1 hj)
     obtain ⟨p, hp⟩ : ∃ p, m.procs[0]? = some p := ⟨_, List.getElem?_eq_getElem (by omega)⟩
     have hv4 : modB m n = (decide (p.level = 1) && decide (p.params = 0) && !p.func) := by rw [HV3.out, hall, Bool.true_and, body_at _ p hp]
     have HV4 := qh hv4
     obtain ⟨b, off, c, e, _, _, hc⟩ := prc_at (HH.out.wr0 ACC.out).procs hp
     injection e with e1 e2 e3
     subst e1
     subst e3
     have x0 := hc 0 _ rfl
     have x1 := hc 1 _ rfl
     have x2 := hc 2 _ rfl
     have x3 := hc 3 _ rfl
     have x4 := hc 4 _ rfl
     have x5 := hc 5 _ rfl
     simp only [Nat.zero_mul, Nat.add_zero] at x0 x1 x2 x3 x4 x5
     have z1' : (0 : Int) < (m.procs.length : Int) := by omega
     have acc := ACC.out.alloc (.cells #[.int .i64 p.at_, .int .i64 p.params, .int .i64 p.locals, .int .i64 p.depth, .int .i64 p.level, .bool p.func] 98)
     clear hc e2 hall hv4 hp
     go_wp2_with fail
     all_goals
      go_ret
      refine ⟨?_, ACC.out.alloc _⟩
      rw [HV4.out]
      simp [*]
end Go.Proofs.YtildcdgobdfieaaGreat

namespace Go.Proofs.YtildcdgobdfieaaGreat
open Go.RowKit
theorem ins_at {P : Program} {T K E : TypeId} {d : TypeDesc} (hu : P.underlying T = some (.map K E)) (hk : P.underlying K = some d) (w1 : World) (r : Nat) (es : Array MapEntry) (c : Nat) (k v : Value)
  (hw : w1.heap[r]? = some (.map es c)) (hc : ∀ w, (Instr.checkKey false 10000 K k).run P w = .ok () w) (hf : Instr.findNow d k es.toList 0 = some none) :
  (Instr.mapUpdate T (.map (some r)) k v).run P w1 = .ok () { w1 with heap := w1.heap.setIfInBounds r (.map (es.push { key := k, val := v, born := c }) (c + 1)) } := by
 simp [Instr.mapUpdate, run_underlying hu, Sem.run_bind, hc, Instr.findKey, run_underlying hk, hf, getObj, setObj, Sem.run, hw, Result.andThen]
theorem look_at {P : Program} {T K E : TypeId} {d : TypeDesc} (hu : P.underlying T = some (.map K E)) (hk : P.underlying K = some d) (w : World) (r : Nat) (es : Array MapEntry) (c : Nat) (k : Value) (o : Option (Nat × Value)) (z : Value)
  (hw : w.heap[r]? = some (.map es c)) (hc : ∀ b w, (Instr.checkKey b 10000 K k).run P w = .ok () w) (hf : Instr.findNow d k es.toList 0 = some o) (hz : ∀ w, (zeroValue E).run P w = .ok z w) (ok : Bool) :
  (Instr.lookup T (.map (some r)) k ok).run P w = .ok (bif ok then .tuple #[(o.map (·.2)).getD z, .bool o.isSome] else (o.map (·.2)).getD z) w := by
 cases o with
 | none => cases ok <;> simp [Instr.lookup, run_underlying hu, Sem.run_bind, hc, Instr.findKey, run_underlying hk, hf, getObj, Sem.run, hw, Result.andThen, hz]
 | some p => cases ok <;> simp [Instr.lookup, run_underlying hu, Sem.run_bind, hc, Instr.findKey, run_underlying hk, hf, getObj, Sem.run, hw, Result.andThen]
end Go.Proofs.YtildcdgobdfieaaGreat

namespace Go.Proofs.YtildcdgobdfieaaGreat
open Go.RowKit
def fndI : List MapEntry → Int → Option Value
 | [], _ => none
 | e :: l, k => match e.key with | .int .i64 a => if a = k then some e.val else fndI l k | _ => none
def IntKeys (l : List MapEntry) : Prop := ∀ e ∈ l, ∃ a, e.key = .int .i64 a
theorem findNow_int : ∀ (l : List MapEntry) (k : Int) (i : Nat), IntKeys l → ∃ o, Instr.findNow (.int .i64) (.int .i64 k) l i = some o ∧ o.map (·.2) = fndI l k ∧
  ∀ p, o = some p → ∃ j e, p.1 = i + j ∧ l[j]? = some e ∧ e.key = .int .i64 k ∧ ∀ v k', fndI (l.modify j fun e => { e with key := .int .i64 k, val := v }) k' = if k' = k then some v else fndI l k'
 | [], k, i, _ => ⟨none, rfl, rfl, fun p h => by cases h⟩
 | e :: l, k, i, h => by
  obtain ⟨a, ha⟩ := h e (.head _)
  by_cases hak : a = k
  ·subst hak
   refine ⟨some (i, e.val), ?_, ?_, ?_⟩
   ·simp [Instr.findNow, Instr.sameNow, ha]
   ·simp [fndI, ha]
   ·intro p hp
    injection hp with hp
    subst hp
    refine ⟨0, e, by simp, rfl, ha, fun v k' => ?_⟩
    simp only [List.modify_zero_cons, fndI, ha]
    by_cases h1 : k' = a
    ·subst h1; simp
    ·have h2 : ¬ a = k' := fun e => h1 e.symm
     simp [h1, h2]
  ·obtain ⟨o, h1, h2, h3⟩ := findNow_int l k (i + 1) (fun e he => h e (.tail _ he))
   refine ⟨o, ?_, ?_, ?_⟩
   ·have : (k == a) = false := by simp; omega
    simp [Instr.findNow, Instr.sameNow, ha, this, h1]
   ·simp [fndI, ha, hak, h2]
   ·intro p hp
    obtain ⟨j, e', g1, g2, g3, g4⟩ := h3 p hp
    refine ⟨j + 1, e', by omega, g2, g3, fun v k' => ?_⟩
    simp only [List.modify_succ_cons, fndI, ha]
    by_cases h5 : a = k'
    ·subst h5
     simp [hak]
    ·simp only [h5, if_false]
     exact g4 v k'
theorem fndI_push (l : List MapEntry) (k : Int) (v : Value) (b : Nat) (h : fndI l k = none) (hk : IntKeys l) (k' : Int) : fndI (l ++ [{ key := .int .i64 k, val := v, born := b }]) k' = if k' = k then some v else fndI l k' := by
 induction l with
 | nil =>
  simp only [List.nil_append, fndI]
  by_cases h1 : k' = k
  ·subst h1; simp
  ·have : ¬ k = k' := fun e => h1 e.symm
   simp [h1, this]
 | cons e l ih =>
  obtain ⟨a, ha⟩ := hk e (.head _)
  simp only [List.cons_append, fndI, ha] at h ⊢
  by_cases h2 : a = k
  ·simp [h2] at h
  ·rw [if_neg h2] at h
   by_cases h3 : a = k'
   ·subst h3
    simp [h2]
   ·simp only [h3, if_false]
    exact ih h (fun e he => hk e (.tail _ he))
theorem intKeys_modify (l : List MapEntry) (h : IntKeys l) (j : Nat) (k : Int) (v : Value) : IntKeys (l.modify j fun e => { e with key := .int .i64 k, val := v }) := by
 intro e he
 obtain ⟨i, hi⟩ := List.mem_iff_getElem?.1 he
 rw [List.getElem?_modify] at hi
 cases hx : l[i]? with
 | none => rw [hx] at hi; cases hi
 | some x =>
  rw [hx] at hi
  by_cases hj : j = i
  ·subst hj
   simp at hi
   subst hi
   exact ⟨k, rfl⟩
  ·simp [hj] at hi
   subst hi
   exact h x (List.mem_of_getElem? hx)
def MapI (w : World) (r : Nat) (kn : Int → Option Value) : Prop := ∃ es c, w.heap[r]? = some (.map es c) ∧ IntKeys es.toList ∧ ∀ k, fndI es.toList k = kn k
theorem MapI.wr {w w' : World} {r : Nat} {kn : Int → Option Value} {l : List Nat} (h : MapI w r kn) (hw : Wr l w w') (hr : r ∉ l) : MapI w' r kn := by
 obtain ⟨es, c, h1, h2, h3⟩ := h
 have hlt : r < w.heap.size := by
  rcases Nat.lt_or_ge r w.heap.size with h | h
  ·exact h
  ·rw [Array.getElem?_eq_none h] at h1; cases h1
 exact ⟨es, c, (hw.block r hlt hr).trans h1, h2, h3⟩
theorem MapI.lt {w : World} {r : Nat} {kn : Int → Option Value} (h : MapI w r kn) : r < w.heap.size := by
 obtain ⟨es, c, h1, h2, h3⟩ := h
 rcases Nat.lt_or_ge r w.heap.size with h | h
 ·exact h
 ·rw [Array.getElem?_eq_none h] at h1; cases h1
theorem MapI.new (w : World) : MapI (w.alloc (.map #[] 0)) w.heap.size (fun _ => none) := ⟨#[], 0, heap_alloc_new w _, by simp [IntKeys], fun k => rfl⟩
section
variable {P : Program} {T K E : TypeId} (hu : P.underlying T = some (.map K E)) (hk : P.underlying K = some (.int .i64))
include hu hk
theorem mapI_upd {w : World} {r : Nat} {kn : Int → Option Value} (h : MapI w r kn) (k : Int) (v : Value) :
  ∃ W, (Instr.mapUpdate T (.map (some r)) (.int .i64 k) v).run P w = .ok () W ∧ Wr [r] w W ∧ MapI W r (fun j => if j = k then some v else kn j) := by
 have hr := h.lt
 obtain ⟨es, c, h1, h2, h3⟩ := h
 have hc : ∀ w, (Instr.checkKey false 10000 K (.int .i64 k)).run P w = .ok () w := fun w => MapKept.run_checkKey hk (by simp [MapKept.IsKey]) false 9999
 have hW : ∀ o, Wr [r] w { w with heap := w.heap.setIfInBounds r o } := fun o => ⟨rfl, rfl, rfl, by simp, fun j _ hj => by
  have : r ≠ j := fun e => hj (by simp [e])
  simp [this]⟩
 have hH : ∀ o, (w.heap.setIfInBounds r o)[r]? = some o := fun o => by simp [hr]
 obtain ⟨o, g1, g2, g3⟩ := findNow_int es.toList k 0 h2
 cases o with
 | none =>
  refine ⟨_, ins_at hu hk w r es c (.int .i64 k) v h1 hc g1, hW _, _, _, hH _, ?_, ?_⟩
  ·intro e he
   simp only [Array.toList_push, List.mem_append, List.mem_singleton] at he
   rcases he with he | rfl
   ·exact h2 e he
   ·exact ⟨k, rfl⟩
  ·intro k'
   rw [Array.toList_push, fndI_push es.toList k v c g2.symm h2 k', h3]
 | some p =>
  obtain ⟨j, e, q1, q2, q3, q4⟩ := g3 p rfl
  have hj : es[p.1]? = some e := by
   rw [q1, Nat.zero_add, ← Array.getElem?_toList]
   exact q2
  have hrun : (Instr.mapUpdate T (.map (some r)) (.int .i64 k) v).run P w = .ok () { w with heap := w.heap.setIfInBounds r (.map (es.modify p.1 fun e => { e with key := .int .i64 k, val := v }) c) } := by
   obtain ⟨a, b⟩ := p
   simp only at hj
   simp [Instr.mapUpdate, run_underlying hu, Sem.run_bind, hc, Instr.findKey, run_underlying hk, g1, getObj, setObj, Sem.run, h1, Result.andThen, hj, q3]
   have := MapKept.run_keyThatStays (P := P) (w := w) (d := .int .i64) (k := .int .i64 k) (by simp [MapKept.IsKey])
   rw [this]
   simp [h1]
  refine ⟨_, hrun, hW _, _, _, hH _, ?_, ?_⟩
  ·rw [Array.toList_modify]
   exact intKeys_modify _ h2 _ _ _
  ·intro k'
   rw [Array.toList_modify, q1, Nat.zero_add, q4 v k', h3]
theorem mapI_look {w : World} {r : Nat} {kn : Int → Option Value} (h : MapI w r kn) (k : Int) {z : Value} (hz : ∀ w, (zeroValue E).run P w = .ok z w) :
  (Instr.lookup T (.map (some r)) (.int .i64 k) true).run P w = .ok (.tuple #[(kn k).getD z, .bool (kn k).isSome]) w := by
 obtain ⟨es, c, h1, h2, h3⟩ := h
 obtain ⟨o, g1, g2, _⟩ := findNow_int es.toList k 0 h2
 have hc : ∀ b w, (Instr.checkKey b 10000 K (.int .i64 k)).run P w = .ok () w := fun b w => MapKept.run_checkKey hk (by simp [MapKept.IsKey]) b 9999
 have := look_at hu hk w r es c (.int .i64 k) o z h1 hc g1 hz true
 rw [g2, h3] at this
 have e : o.isSome = (kn k).isSome := by rw [← h3 k, ← g2]; cases o <;> rfl
 rw [e] at this
 exact this
end
end Go.Proofs.YtildcdgobdfieaaGreat

namespace Go.Proofs.YtildcdgobdfieaaGreat
open Go.RowKit
def SlMods (w : World) (P : Nat → Prop) (v : Value) (l : List ModD) : Prop :=
 ∃ xs, Sl w P 5 v l.length xs ∧ (∀ u ∈ xs, u.oneCell' = true) ∧ ∀ i m, l[i]? = some m → ∃ vp vi vn, (∀ j u, (m.cells vp vi vn)[j]? = some u → xs[i * 5 + j]? = some u) ∧ ModL w P vp vi vn m
section
variable {w w' : World} {P Q : Nat → Prop} {v : Value}
theorem SlMods.keep {ls : List Nat} {l : List ModD} (h : SlMods w P v l) (hw : Wr ls w w') (hP : ∀ b, P b → b ∉ ls) : SlMods w' P v l := by
 obtain ⟨xs, h1, h2, h3⟩ := h
 refine ⟨xs, h1.keep hw hP, h2, fun i o hi => ?_⟩
 obtain ⟨vp, vi, vn, e1, e2⟩ := h3 i o hi
 exact ⟨vp, vi, vn, e1, e2.keep hw hP⟩
theorem SlMods.wr0 {l : List ModD} (h : SlMods w P v l) (hw : Wr [] w w') : SlMods w' P v l := h.keep hw (fun _ _ => by simp)
theorem SlMods.form {l : List ModD} (h : SlMods w P v l) : ∃ A c, v = .slice A l.length c ∧ l.length ≤ c ∧ c ≤ maxLen := by
 obtain ⟨xs, h1, h2, h3⟩ := h
 exact h1.form
theorem mod_at {l : List ModD} (h : SlMods w P v l) {i : Nat} {m : ModD} (hi : l[i]? = some m) : ∃ b off c vp vi vn, v = .slice (some ⟨b, off, none⟩) l.length c ∧ (∀ j u, (m.cells vp vi vn)[j]? = some u → w.cell? ⟨b, off + i * 5 + j, none⟩ = some u) ∧ ModL w P vp vi vn m := by
 obtain ⟨xs, h1, h2, h3⟩ := h
 obtain ⟨vp, vi, vn, e1, e2⟩ := h3 i m hi
 obtain ⟨b, off, c, e, _, _, _, h4⟩ := Sl.thing h1 (by decide) (List.getElem?_eq_some_iff.1 hi).1
 refine ⟨b, off, c, vp, vi, vn, e, fun j u hj => ?_, e2⟩
 have hj5 : j < 5 := (List.getElem?_eq_some_iff.1 hj).1
 rw [Nat.add_assoc]
 exact h4 j u hj5 (e1 j u hj)
end
section
variable {P : Program} {T K E : TypeId} (hu : P.underlying T = some (.map K E)) (hk : P.underlying K = some (.int .i64))
include hu hk
theorem mapI_look1 {w : World} {r : Nat} {kn : Int → Option Value} (h : MapI w r kn) (k : Int) {z : Value} (hz : ∀ w, (zeroValue E).run P w = .ok z w) :
  (Instr.lookup T (.map (some r)) (.int .i64 k) false).run P w = .ok ((kn k).getD z) w := by
 obtain ⟨es, c, h1, h2, h3⟩ := h
 obtain ⟨o, g1, g2, _⟩ := findNow_int es.toList k 0 h2
 have hc : ∀ b w, (Instr.checkKey b 10000 K (.int .i64 k)).run P w = .ok () w := fun b w => MapKept.run_checkKey hk (by simp [MapKept.IsKey]) b 9999
 have := look_at hu hk w r es c (.int .i64 k) o z h1 hc g1 hz false
 rw [g2, h3] at this
 exact this
end
theorem inBi {n a b : Int} : inB n a b = true ↔ a ≤ n ∧ n ≤ b := by simp [inB]
theorem modsAt_drop {n : Int} {l : List ModD} {k : Nat} {m : ModD} (h : l[k]? = some m) (i : Nat) : modsAt n i (l.drop k) = if modB m n then modsAt n (i + 1) (l.drop (k + 1)) else some i := by
 have hk := (List.getElem?_eq_some_iff.1 h).1
 rw [List.drop_eq_getElem_cons hk, modsAt]
 have e : l[k] = m := (List.getElem?_eq_some_iff.1 h).2
 rw [e]
theorem ordB_drop {n : Int} {l : List Int} {k : Nat} {x : Int} (h : l[k]? = some x) : ordB n (l.take k) (l.drop k) = (inB x 0 (n - 1) && !((l.take k).contains x) && ordB n (l.take (k + 1)) (l.drop (k + 1))) := by
 have hk := (List.getElem?_eq_some_iff.1 h).1
 have e : l[k] = x := (List.getElem?_eq_some_iff.1 h).2
 conv => lhs; rw [List.drop_eq_getElem_cons hk, ordB]
 rw [e, List.take_add_one, h]
 rfl
def ChkAt (w : World) (g : Nat) (cs : Array Value) (ms : List ModD) (k : Nat) (wr : World) : Prop := Wr [] w wr ∧ Blk wr g 146 cs ∧ modsAt ms.length 0 ms = modsAt ms.length k (ms.drop k)
def SeenK (l : List Int) (k : Nat) (j : Int) : Option Value := if (l.take k).contains j = true then some (.int .i64 1) else none
def ChkOrd (w : World) (g r : Nat) (cs : Array Value) (n : Nat) (l : List Int) (k : Nat) (wr : World) : Prop := Wr [] w wr ∧ Blk wr g 146 cs ∧ w.heap.size ≤ r ∧ MapI wr r (SeenK l k) ∧ ordB n [] l = ordB n (l.take k) (l.drop k)
theorem check_any (ms : List ModD) (ord : List Int) (vm vo : Value) (P : Nat → Prop) (w : World) (hm : SlMods w P vm ms) (ho : SlI64 w P vo ord) :
  Calls Tryz.prog 76 #[.agg #[vm, vo]] w fun e w' => e = .returned (.tuple #[.int .i64 (checkP ms ord).1, .int .i64 (checkP ms ord).2]) ∧ Wr [] w w' := by
 have hmm := @run_makeMap Tryz.prog
 obtain ⟨Am, cm, rfl, lm1, lm2⟩ := SlMods.form hm
 obtain ⟨Ao, co, rfl, lo1, lo2⟩ := Sl.form ho
 unfold maxLen at lm2 lo2
 have hw1 := fun w => within_any (ms.length : Int) 1 64 w
 have hw2 := fun x w => within_any x 0 ((ms.length : Int) - 1) w
 have acc := (Wr.refl [] w).alloc (.cells #[.slice Am ms.length cm, .slice Ao ord.length co] 146)
 have bA := Blk.new w 146 #[.slice Am ms.length cm, .slice Ao ord.length co]
 obtain ⟨w0, hw0⟩ : ∃ w0, w.alloc (.cells #[.slice Am ms.length cm, .slice Ao ord.length co] 146) = w0 := ⟨_, rfl⟩
 obtain ⟨g, hg⟩ : ∃ g, w.heap.size = g := ⟨_, rfl⟩
 rw [hw0] at acc bA
 rw [hg] at bA
 obtain ⟨ch, hch⟩ : ∃ c, checkP ms ord = c := ⟨_, rfl⟩
 rw [hch]
 unfold checkP at hch
 have Hw0 := qh hw0
 have Hg := qh hg
 have HM := qh hm
 have HO := qh ho
 have HC := qh hch
 clear hw0 hg hm ho hch
 go_enter Tryz.func76, Tryz.ntmps76
 go_upto_region 1 with (fail)
 rw [Hw0.out, Hg.out]
 have c0 := bA.cell 0
 have c1 := bA.cell 1
 simp only [qgaq, qgzq, qgsq] at c0 c1
 go_wp2_with fail
 refine (hw1 _).mono ?_
 rintro e w1 ⟨rfl, rfl⟩
 cases q1 : inB (ms.length : Int) 1 64 with
 | false =>
  have hr : ch = ((ms.length : Int), 200) := by rw [← HC.out, if_neg (by rw [q1]; decide)]
  have HR := qh hr
  clear q1 hr
  go_wp2_with fail
  go_ret2
  exact ⟨by rw [HR.out]; rfl, acc⟩
 | true =>
 have hq := inBi.1 q1
 have hc2 : (match modsAt ms.length 0 ms with | some i => ((i : Int), (200 : Int)) | none => if ordB ms.length [] ord then (0, 0) else ((ms.length : Int), 200)) = ch := (if_pos q1).symm.trans HC.out
 have HC2 := qh hc2
 clear q1 hc2 hw1
 have hn1 : ms.length ≤ 64 := by omega
 have hn0 : 1 ≤ ms.length := by omega
 go_wp2_with fail
 go_loopw [20] (fun s20 wr => ∃ k : Nat, k ≤ ms.length ∧ s20 = .int .i64 k ∧ ChkAt w g #[.slice Am ms.length cm, .slice Ao ord.length co] ms k wr) (fun s20 _ => ms.length - (intOf s20).toNat)
 case atStart => exact ⟨0, by omega, rfl, acc, bA, rfl⟩
 case round =>
  obtain ⟨k, hk, rfl, acck, bk, hms⟩ := hrel
  have HMS := qh hms
  clear hms c0 c1 acc bA
  have c0 := bk.cell 0
  have c1 := bk.cell 1
  simp only [qgaq, qgzq, qgsq] at c0 c1
  by_cases hlt : k < ms.length
  ·obtain ⟨m, hmk⟩ : ∃ m, ms[k]? = some m := ⟨_, List.getElem?_eq_getElem hlt⟩
   obtain ⟨b, off, c, vp, vi, vn, e, hc, hml⟩ := mod_at (HM.out.wr0 acck) hmk
   injection e with e1 e2 e3
   subst e1
   subst e3
   obtain ⟨Bp, dp, rfl, _, _⟩ := Sl.form hml.procs
   obtain ⟨Bi, di, rfl, _, _⟩ := Sl.form hml.imports
   obtain ⟨Bn, dn, rfl, _, _⟩ := Sl.form hml.init
   have x0 := hc 0 _ rfl
   have x1 := hc 1 _ rfl
   have x2 := hc 2 _ rfl
   have x3 := hc 3 _ rfl
   have x4 := hc 4 _ rfl
   simp only [Nat.add_zero] at x0
   have hd := modsAt_drop (n := (ms.length : Int)) hmk k
   have HD := qh hd
   have HML := qh hml
   clear hc e2 hmk hd hml
   have hlti : (k : Int) < (ms.length : Int) := by omega
   have hk0 : (0 : Int) ≤ (k : Int) := by omega
   have hz : g < wr.heap.size := bk.lt
   go_wp2_with fail
   refine (module_any m (ms.length : Int) (by omega) (by omega) _ _ _ P _ (HML.out.wr0 ((Wr.refl [] wr).alloc _))).mono ?_
   rintro e w2 ⟨rfl, k2⟩
   have acc2 := (acck.alloc _).trans k2
   have b2 := (bk.alloc _).wr0 k2
   have ACC2 := qh acc2
   have B2 := qh b2
   clear x0 x1 x2 x3 x4 c0 c1 hz k2 acc2 b2 acck bk
   cases hmb : modB m (ms.length : Int) with
   | false =>
    have hr : ch = ((k : Int), 200) := by rw [← HC2.out, HMS.out, HD.out, hmb]; rfl
    have HR := qh hr
    clear hmb hr
    go_wp2_with fail
    go_ret2
    exact ⟨by rw [HR.out]; rfl, ACC2.out⟩
   | true =>
    have hms2 : modsAt ms.length 0 ms = modsAt ms.length (k + 1) (ms.drop (k + 1)) := by rw [HMS.out, HD.out, hmb, if_pos rfl]
    have HMS2 := qh hms2
    clear hmb hms2
    go_wp2_with fail
    go_roundw
    case rel => exact ⟨k + 1, by omega, by go_num, ACC2.out, B2.out, HMS2.out⟩
    case measure => simp [intOf]; omega
  ·have hkn : k = ms.length := by omega
   subst hkn
   have hms0 : modsAt ms.length 0 ms = none := by rw [HMS.out, List.drop_length]; rfl
   have hc3 : (if ordB ms.length [] ord then ((0 : Int), (0 : Int)) else ((ms.length : Int), 200)) = ch := by rw [← HC2.out, hms0]
   have HC3 := qh hc3
   have hz : g < wr.heap.size := bk.lt
   have hmp := MapI.new wr
   have ACCK := qh acck
   have BK := qh bk
   have HMP := qh hmp
   have hsz := acck.size
   clear hms0 hc3 acck bk HMS hmp
   obtain ⟨wo, rfl⟩ : ∃ wo : World, wo = wr := ⟨_, rfl⟩
   clear c0 c1
   have c1 := BK.out.cell 1
   simp only [qgaq, qgzq, qgsq] at c1
   go_wp2_with fail
   go_loopw [35] (fun s35 w2 => ∃ k : Nat, k ≤ ord.length ∧ s35 = .int .i64 k ∧ ChkOrd w g wo.heap.size #[.slice Am ms.length cm, .slice Ao ord.length co] ms.length ord k w2) (fun s35 _ => ord.length - (intOf s35).toNat)
   case atStart => exact ⟨0, by omega, rfl, ACCK.out.alloc _, BK.out.alloc _, hsz, HMP.out, by simp⟩
   case round =>
    obtain ⟨k, hk, rfl, acc2, b2, _, hmap, hord⟩ := hrel
    have HORD := qh hord
    have ACC2 := qh acc2
    have B2 := qh b2
    clear hord acc2 b2 c1 hz
    by_cases hlt2 : k < ord.length
    ·obtain ⟨x, hx⟩ : ∃ x, ord[k]? = some x := ⟨_, List.getElem?_eq_getElem hlt2⟩
     obtain ⟨b, off, c, e, _, _, hc⟩ := i64_at (Sl.wr0 HO.out ACC2.out) hx
     injection e with e1 e2 e3
     subst e1
     subst e3
     have hd := ordB_drop (n := (ms.length : Int)) hx
     have HD := qh hd
     have hl := mapI_look1 Tryz.underlying189 Tryz.underlying3 hmap x Tryz.zeroValue3
     obtain ⟨w3, hu, k3, hmap3⟩ := mapI_upd Tryz.underlying189 Tryz.underlying3 hmap x (.int .i64 1)
     have HX := qh hx
     clear hx hd e2
     have hlti : (k : Int) < (ord.length : Int) := by omega
     have hk0 : (0 : Int) ≤ (k : Int) := by omega
     cases hin : inB x 0 ((ms.length : Int) - 1) with
     | false =>
      have hr : ch = ((ms.length : Int), 200) := by rw [← HC3.out, HORD.out, HD.out, hin, Bool.false_and, Bool.false_and]; rfl
      have HR := qh hr
      have HIN := qh hin
      clear hin hr hu hl k3 hmap3 hmap
      go_wp2_with fail
      refine (hw2 _ _).mono ?_
      rintro e w4 ⟨rfl, rfl⟩
      rw [HIN.out]
      go_wp2_with fail
      go_ret2
      exact ⟨by rw [HR.out]; rfl, ACC2.out⟩
     | true =>
     have HIN := qh hin
     cases hct : (ord.take k).contains x with
     | true =>
      have hr : ch = ((ms.length : Int), 200) := by rw [← HC3.out, HORD.out, HD.out, hin, hct]; rfl
      rw [show SeenK ord k x = some (.int .i64 1) from if_pos hct, Option.getD_some] at hl
      have HR := qh hr
      clear hin hr hu k3 hmap3 hmap hct
      go_wp2_with fail
      refine (hw2 _ _).mono ?_
      rintro e w4 ⟨rfl, rfl⟩
      rw [HIN.out]
      go_wp2_with fail
      go_ret2
      exact ⟨by rw [HR.out]; rfl, ACC2.out⟩
     | false =>
      have hord2 : ordB (ms.length : Int) [] ord = ordB (ms.length : Int) (ord.take (k + 1)) (ord.drop (k + 1)) := by rw [HORD.out, HD.out, hin, hct]; rfl
      rw [show SeenK ord k x = none from if_neg (by rw [hct]; decide), Option.getD_none] at hl
      have hfn : (fun j => if j = x then some (Value.int .i64 1) else SeenK ord k j) = SeenK ord (k + 1) := by
       funext j
       unfold SeenK
       rw [List.take_add_one, HX.out]
       by_cases hj : j = x
       ·subst hj; simp
       ·simp [hj]
      rw [hfn] at hmap3
      have HMAP := qh hmap3
      have HORD2 := qh hord2
      have acc3 := ACC2.out.new k3 hsz
      have hgr : g ∉ [wo.heap.size] := by have := BK.out.lt; simp; omega
      have b3 := B2.out.wr k3 hgr
      have ACC3 := qh acc3
      have B3 := qh b3
      clear hin k3 hmap3 hmap hct hord2 hfn acc3 b3 hgr
      go_wp2_with fail
      refine (hw2 _ _).mono ?_
      rintro e w4 ⟨rfl, rfl⟩
      rw [HIN.out]
      go_wp2_with fail
      go_roundw
      case rel => exact ⟨k + 1, by omega, by go_num, ACC3.out, B3.out, hsz, HMAP.out, HORD2.out⟩
      case measure => simp [intOf]; omega
    ·have hkn : k = ord.length := by omega
     subst hkn
     have hr : ch = (0, 0) := by rw [← HC3.out, HORD.out, List.drop_length]; rfl
     have HR := qh hr
     clear hr hmap
     go_wp2_with fail
     go_ret2
     exact ⟨by rw [HR.out]; rfl, ACC2.out⟩
end Go.Proofs.YtildcdgobdfieaaGreat
