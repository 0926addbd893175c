/- Canon's other closure (a number anew), walked. No conditions. -/
import Derived.Test.YtmpbkfbjmmoapaaIB13
import Derived.Test.YtmpbkfbjmmoapaaIB15
import Derived.Test.YtmpbkfbjmmoapaaIB03
namespace Go.Proofs.Ytmpbkfbjmmoapaa
open Go.RowKit
set_option linter.unusedVariables false
set_option linter.unusedSimpArgs false
/-- A condition that is owed all the time. -/
def AlwaysC (C : World → Prop) : Array Bool → World → Prop := fun _ w => C w
section
variable {P : Program} {md : Region.Mode} {ops : Array Oper}
theorem alwaysC_take (C : World → Prop) {i : Nat} (l : Array Bool) (w : World) : AlwaysC C (l.setIfInBounds i true) w ↔ AlwaysC C l w := Iff.rfl
theorem yields_alwaysC {C : World → Prop} {i : Nat} {o : Oper} {v : Value} {a : Act}
    (h : (Region.wanted o (yielded ops a.tmps) = true ∧ ∀ w, C w → (execOp a.eval o).run P w = .ok (.value v) w) ∨ (Region.wanted o (yielded ops a.tmps) = false ∧ v = undef)) : YieldsL P md ops (AlwaysC C) i o v a :=
  h.imp (fun ⟨hw, hv⟩ => ⟨hw, fun l w hc hun hS => hv w hS⟩) id
end
/-- A number has been put anew into a cell. -/
def AnewR (ord : List Int) (n : Int) (g o : Nat) (w : World) (e : Ending) (w' : World) : Prop :=
  e = .returned (.tuple #[]) ∧ ∃ wd : World, Wr [] w wd ∧ wd.heap = w.heap ∧ w' = wd.setCell ⟨g, o, none⟩ (.int .i64 (anewN ord n))
theorem wr_set {w wd w' : World} {g o : Nat} {u : Value} (r : Wr [] w wd) (e : w' = wd.setCell ⟨g, o, none⟩ u) : Wr [g] w w' := by
  subst e
  exact r.nil.setOn (by simp) u
theorem row_set {w wd w' : World} {B g o size n : Nat} {T : TypeId} {v u : Value} {xs : List Value} (h : w.ownsRow B T size v n xs) (hg : v.ownBlock = some g) (hh : wd.heap = w.heap) (e : w' = wd.setCell ⟨g, o, none⟩ u) : w'.ownsRow B T size v n (xs.set o u) := by
  subst e
  have h1 : wd.ownsRow B T size v n xs := by
    refine ⟨h.1, ?_⟩
    rcases h.2 with h0 | ⟨g', cap, cur, rfl, hb, hh', rest⟩
    · exact .inl h0
    · exact .inr ⟨g', cap, cur, rfl, hb, by rw [hh]; exact hh', rest⟩
  rcases h1.2 with ⟨rfl, _⟩ | ⟨g', cap, cur, rfl, _⟩
  · cases hg
  · obtain rfl : g' = g := by simpa [Value.ownBlock] using hg
    exact (h1.stored o u).1
theorem blk_set' {w wd w' : World} {g o : Nat} {T : TypeId} {cs : Array Value} {u : Value} (h : Blk w g T cs) (hh : wd.heap = w.heap) (e : w' = wd.setCell ⟨g, o, none⟩ u) : Blk w' g T (cs.setIfInBounds o u) := by
  subst e
  have h1 : Blk wd g T cs := by
    unfold Blk at h ⊢
    rw [hh]
    exact h
  exact h1.set_ o u
set_option maxRecDepth 100000 in
set_option maxHeartbeats 4000000 in
theorem anew_any (pn gn g o : Nat) (ord : List Int) (n : Int) (w : World) (bn : Blk w pn 83 #[.map (some gn)]) (mn : MapI w gn (numsOf ord)) (ct : Own w ⟨g, o, none⟩ (.int .i64 n)) :
    Calls Try.prog 29 #[.pointer (some ⟨g, o, none⟩), .pointer (some ⟨pn, 0, none⟩)] w (AnewR ord n g o w) := by
  have c0 := bn.cell 0
  have c1 := ct.cell
  have f1 := ct.frozen
  simp only [List.getElem?_toArray, List.getElem?_cons_zero] at c0
  have hl1 := mapI_look Try.underlying83 Try.underlying3 (mn.wr (Wr.refl [] w).drew (by simp)) n Try.zeroValue3
  by_cases hm : n ∈ ord
  · rw [numsOf_in hm] at hl1
    simp only [Option.getD_some, Option.isSome_some] at hl1
    clear hm
    go_enter Try.func29, Try.ntmps29
    go_upto_region 0 with (fail)
    refine wp_region_noPanic ?_
    refine wp_region_L (AlwaysC fun w' => w'.cell? ⟨pn, 0, none⟩ = some (.map (some gn)) ∧ w'.cell? ⟨g, o, none⟩ = some (.int .i64 n) ∧ (Instr.lookup 83 (.map (some gn)) (.int .i64 n) true).run Try.prog w' = .ok (.tuple #[.int .i64 (anewN ord n), .bool true]) w') (by kernel_rfl) (fun hcl => ?_)
    have hS : AlwaysC (fun w' => w'.cell? ⟨pn, 0, none⟩ = some (.map (some gn)) ∧ w'.cell? ⟨g, o, none⟩ = some (.int .i64 n) ∧ (Instr.lookup 83 (.map (some gn)) (.int .i64 n) true).run Try.prog w' = .ok (.tuple #[.int .i64 (anewN ord n), .bool true]) w') (Array.replicate 10 false) w.drew := ⟨c0, c1, hl1⟩
    refine wpAnyL_take (i := 0) (oi := ?oi1) (v := ?v1) ?hi1 (by kernel_rfl) (by kernel_rfl) (by kernel_rfl) (fun _ _ _ h => h) (alwaysC_take _) ?hy1 hcl hS ?rest1
    case hi1 =>
      simp only [List.getElem?_toArray, List.getElem?_cons_succ, List.getElem?_cons_zero]
      rfl
    case hy1 =>
      refine yields_alwaysC (Or.inl ⟨by rfl, fun w' hS => ?_⟩)
      try go_split_ands
      go_simp
      try rfl
    case rest1 =>
    intro hcl1 hS1
    clear hcl hS
    try simp only [Act.put, List.setIfInBounds_toArray, List.set_cons_zero, List.set_cons_succ]
    refine wpAnyL_take (i := 1) (oi := ?oi2) (v := ?v2) ?hi2 (by kernel_rfl) (by kernel_rfl) (by kernel_rfl) (fun _ _ _ h => h) (alwaysC_take _) ?hy2 hcl1 hS1 ?rest2
    case hi2 =>
      simp only [List.getElem?_toArray, List.getElem?_cons_succ, List.getElem?_cons_zero]
      rfl
    case hy2 =>
      refine yields_alwaysC (Or.inl ⟨by rfl, fun w' hS => ?_⟩)
      try go_split_ands
      go_simp
      try rfl
    case rest2 =>
    intro hcl2 hS2
    clear hcl1 hS1
    try simp only [Act.put, List.setIfInBounds_toArray, List.set_cons_zero, List.set_cons_succ]
    refine wpAnyL_take (i := 2) (oi := ?oi3) (v := ?v3) ?hi3 (by kernel_rfl) (by kernel_rfl) (by kernel_rfl) (fun _ _ _ h => h) (alwaysC_take _) ?hy3 hcl2 hS2 ?rest3
    case hi3 =>
      simp only [List.getElem?_toArray, List.getElem?_cons_succ, List.getElem?_cons_zero]
      rfl
    case hy3 =>
      refine yields_alwaysC (Or.inl ⟨by rfl, fun w' hS => ?_⟩)
      try go_split_ands
      go_simp
      try rfl
    case rest3 =>
    intro hcl3 hS3
    clear hcl2 hS2
    try simp only [Act.put, List.setIfInBounds_toArray, List.set_cons_zero, List.set_cons_succ]
    refine wpAnyL_take (i := 3) (oi := ?oi4) (v := ?v4) ?hi4 (by kernel_rfl) (by kernel_rfl) (by kernel_rfl) (fun _ _ _ h => h) (alwaysC_take _) ?hy4 hcl3 hS3 ?rest4
    case hi4 =>
      simp only [List.getElem?_toArray, List.getElem?_cons_succ, List.getElem?_cons_zero]
      rfl
    case hy4 =>
      refine yields_alwaysC (Or.inl ⟨by rfl, fun w' hS => ?_⟩)
      try go_split_ands
      go_simp
      try rfl
    case rest4 =>
    intro hcl4 hS4
    clear hcl3 hS3
    try simp only [Act.put, List.setIfInBounds_toArray, List.set_cons_zero, List.set_cons_succ]
    refine wpAnyL_take (i := 4) (oi := ?oi5) (v := ?v5) ?hi5 (by kernel_rfl) (by kernel_rfl) (by kernel_rfl) (fun _ _ _ h => h) (alwaysC_take _) ?hy5 hcl4 hS4 ?rest5
    case hi5 =>
      simp only [List.getElem?_toArray, List.getElem?_cons_succ, List.getElem?_cons_zero]
      rfl
    case hy5 =>
      refine yields_alwaysC (Or.inl ⟨by rfl, fun w' hS => ?_⟩)
      try go_split_ands
      go_simp
      try rfl
    case rest5 =>
    intro hcl5 hS5
    clear hcl4 hS4
    try simp only [Act.put, List.setIfInBounds_toArray, List.set_cons_zero, List.set_cons_succ]
    refine wpAnyL_take (i := 5) (oi := ?oi6) (v := ?v6) ?hi6 (by kernel_rfl) (by kernel_rfl) (by kernel_rfl) (fun _ _ _ h => h) (alwaysC_take _) ?hy6 hcl5 hS5 ?rest6
    case hi6 =>
      simp only [List.getElem?_toArray, List.getElem?_cons_succ, List.getElem?_cons_zero]
      rfl
    case hy6 =>
      refine yields_alwaysC (Or.inl ⟨by rfl, fun w' hS => ?_⟩)
      try go_split_ands
      go_simp
      try rfl
    case rest6 =>
    intro hcl6 hS6
    clear hcl5 hS5
    try simp only [Act.put, List.setIfInBounds_toArray, List.set_cons_zero, List.set_cons_succ]
    refine wpAnyL_take (i := 6) (oi := ?oi7) (v := ?v7) ?hi7 (by kernel_rfl) (by kernel_rfl) (by kernel_rfl) (fun _ _ _ h => h) (alwaysC_take _) ?hy7 hcl6 hS6 ?rest7
    case hi7 =>
      simp only [List.getElem?_toArray, List.getElem?_cons_succ, List.getElem?_cons_zero]
      rfl
    case hy7 =>
      refine yields_alwaysC (Or.inl ⟨by rfl, fun w' hS => ?_⟩)
      try go_split_ands
      go_simp
      try rfl
    case rest7 =>
    intro hcl7 hS7
    clear hcl6 hS6
    try simp only [Act.put, List.setIfInBounds_toArray, List.set_cons_zero, List.set_cons_succ]
    refine wpAnyL_take (i := 7) (oi := ?oi8) (v := ?v8) ?hi8 (by kernel_rfl) (by kernel_rfl) (by kernel_rfl) (fun _ _ _ h => h) (alwaysC_take _) ?hy8 hcl7 hS7 ?rest8
    case hi8 =>
      simp only [List.getElem?_toArray, List.getElem?_cons_succ, List.getElem?_cons_zero]
      rfl
    case hy8 =>
      refine yields_alwaysC (Or.inl ⟨by rfl, fun w' hS => ?_⟩)
      try go_split_ands
      go_simp
      try rfl
    case rest8 =>
    intro hcl8 hS8
    clear hcl7 hS7
    try simp only [Act.put, List.setIfInBounds_toArray, List.set_cons_zero, List.set_cons_succ]
    refine wpAnyL_take (i := 8) (oi := ?oi9) (v := ?v9) ?hi9 (by kernel_rfl) (by kernel_rfl) (by kernel_rfl) (fun _ _ _ h => h) (alwaysC_take _) ?hy9 hcl8 hS8 ?rest9
    case hi9 =>
      simp only [List.getElem?_toArray, List.getElem?_cons_succ, List.getElem?_cons_zero]
      rfl
    case hy9 =>
      refine yields_alwaysC (Or.inl ⟨by rfl, fun w' hS => ?_⟩)
      try go_split_ands
      go_simp
      try rfl
    case rest9 =>
    intro hcl9 hS9
    clear hcl8 hS8
    try simp only [Act.put, List.setIfInBounds_toArray, List.set_cons_zero, List.set_cons_succ]
    refine wpAnyL_take (i := 9) (oi := ?oi10) (v := ?v10) ?hi10 (by kernel_rfl) (by kernel_rfl) (by kernel_rfl) (fun _ _ _ h => h) (alwaysC_take _) ?hy10 hcl9 hS9 ?rest10
    case hi10 =>
      simp only [List.getElem?_toArray, List.getElem?_cons_succ, List.getElem?_cons_zero]
      rfl
    case hy10 =>
      refine yields_alwaysC (Or.inl ⟨by rfl, fun w' hS => ?_⟩)
      try go_split_ands
      go_simp
      try rfl
    case rest10 =>
    intro hcl10 hS10
    clear hcl9 hS9
    try simp only [Act.put, List.setIfInBounds_toArray, List.set_cons_zero, List.set_cons_succ]
    refine wpAnyL_done (by kernel_rfl) (NoPanic.normal ?_) _
    clear hl1
    go_wp2_with fail
    refine bodyPost_end (results_none Try.results29 _ _ _) rfl ?_
    exact ⟨rfl, w.drew, (Wr.refl [] w).drew, rfl, rfl⟩
  · rw [numsOf_out hm] at hl1
    simp only [Option.getD_none, Option.isSome_none] at hl1
    have hout := Lib.hid (anewN_out hm)
    clear hm
    go_enter Try.func29, Try.ntmps29
    go_upto_region 0 with (fail)
    refine wp_region_noPanic ?_
    refine wp_region_L (AlwaysC fun w' => w'.cell? ⟨pn, 0, none⟩ = some (.map (some gn)) ∧ w'.cell? ⟨g, o, none⟩ = some (.int .i64 n) ∧ (Instr.lookup 83 (.map (some gn)) (.int .i64 n) true).run Try.prog w' = .ok (.tuple #[.int .i64 0, .bool false]) w') (by kernel_rfl) (fun hcl => ?_)
    have hS : AlwaysC (fun w' => w'.cell? ⟨pn, 0, none⟩ = some (.map (some gn)) ∧ w'.cell? ⟨g, o, none⟩ = some (.int .i64 n) ∧ (Instr.lookup 83 (.map (some gn)) (.int .i64 n) true).run Try.prog w' = .ok (.tuple #[.int .i64 0, .bool false]) w') (Array.replicate 10 false) w.drew := ⟨c0, c1, hl1⟩
    refine wpAnyL_take (i := 0) (oi := ?pi1) (v := ?pv1) ?phi1 (by kernel_rfl) (by kernel_rfl) (by kernel_rfl) (fun _ _ _ h => h) (alwaysC_take _) ?phy1 hcl hS ?prest1
    case phi1 =>
      simp only [List.getElem?_toArray, List.getElem?_cons_succ, List.getElem?_cons_zero]
      rfl
    case phy1 =>
      refine yields_alwaysC (Or.inl ⟨by rfl, fun w' hS => ?_⟩)
      try go_split_ands
      go_simp
      try rfl
    case prest1 =>
    intro hcl1 hS1
    clear hcl hS
    try simp only [Act.put, List.setIfInBounds_toArray, List.set_cons_zero, List.set_cons_succ]
    refine wpAnyL_take (i := 1) (oi := ?pi2) (v := ?pv2) ?phi2 (by kernel_rfl) (by kernel_rfl) (by kernel_rfl) (fun _ _ _ h => h) (alwaysC_take _) ?phy2 hcl1 hS1 ?prest2
    case phi2 =>
      simp only [List.getElem?_toArray, List.getElem?_cons_succ, List.getElem?_cons_zero]
      rfl
    case phy2 =>
      refine yields_alwaysC (Or.inl ⟨by rfl, fun w' hS => ?_⟩)
      try go_split_ands
      go_simp
      try rfl
    case prest2 =>
    intro hcl2 hS2
    clear hcl1 hS1
    try simp only [Act.put, List.setIfInBounds_toArray, List.set_cons_zero, List.set_cons_succ]
    refine wpAnyL_take (i := 2) (oi := ?pi3) (v := ?pv3) ?phi3 (by kernel_rfl) (by kernel_rfl) (by kernel_rfl) (fun _ _ _ h => h) (alwaysC_take _) ?phy3 hcl2 hS2 ?prest3
    case phi3 =>
      simp only [List.getElem?_toArray, List.getElem?_cons_succ, List.getElem?_cons_zero]
      rfl
    case phy3 =>
      refine yields_alwaysC (Or.inl ⟨by rfl, fun w' hS => ?_⟩)
      try go_split_ands
      go_simp
      try rfl
    case prest3 =>
    intro hcl3 hS3
    clear hcl2 hS2
    try simp only [Act.put, List.setIfInBounds_toArray, List.set_cons_zero, List.set_cons_succ]
    refine wpAnyL_take (i := 3) (oi := ?pi4) (v := ?pv4) ?phi4 (by kernel_rfl) (by kernel_rfl) (by kernel_rfl) (fun _ _ _ h => h) (alwaysC_take _) ?phy4 hcl3 hS3 ?prest4
    case phi4 =>
      simp only [List.getElem?_toArray, List.getElem?_cons_succ, List.getElem?_cons_zero]
      rfl
    case phy4 =>
      refine yields_alwaysC (Or.inl ⟨by rfl, fun w' hS => ?_⟩)
      try go_split_ands
      go_simp
      try rfl
    case prest4 =>
    intro hcl4 hS4
    clear hcl3 hS3
    try simp only [Act.put, List.setIfInBounds_toArray, List.set_cons_zero, List.set_cons_succ]
    refine wpAnyL_take (i := 4) (oi := ?pi5) (v := ?pv5) ?phi5 (by kernel_rfl) (by kernel_rfl) (by kernel_rfl) (fun _ _ _ h => h) (alwaysC_take _) ?phy5 hcl4 hS4 ?prest5
    case phi5 =>
      simp only [List.getElem?_toArray, List.getElem?_cons_succ, List.getElem?_cons_zero]
      rfl
    case phy5 =>
      refine yields_alwaysC (Or.inl ⟨by rfl, fun w' hS => ?_⟩)
      try go_split_ands
      go_simp
      try rfl
    case prest5 =>
    intro hcl5 hS5
    clear hcl4 hS4
    try simp only [Act.put, List.setIfInBounds_toArray, List.set_cons_zero, List.set_cons_succ]
    refine wpAnyL_take (i := 5) (oi := ?pi6) (v := ?pv6) ?phi6 (by kernel_rfl) (by kernel_rfl) (by kernel_rfl) (fun _ _ _ h => h) (alwaysC_take _) ?phy6 hcl5 hS5 ?prest6
    case phi6 =>
      simp only [List.getElem?_toArray, List.getElem?_cons_succ, List.getElem?_cons_zero]
      rfl
    case phy6 =>
      refine yields_alwaysC (Or.inl ⟨by rfl, fun w' hS => ?_⟩)
      try go_split_ands
      go_simp
      try rfl
    case prest6 =>
    intro hcl6 hS6
    clear hcl5 hS5
    try simp only [Act.put, List.setIfInBounds_toArray, List.set_cons_zero, List.set_cons_succ]
    refine wpAnyL_take (i := 6) (oi := ?pi7) (v := ?pv7) ?phi7 (by kernel_rfl) (by kernel_rfl) (by kernel_rfl) (fun _ _ _ h => h) (alwaysC_take _) ?phy7 hcl6 hS6 ?prest7
    case phi7 =>
      simp only [List.getElem?_toArray, List.getElem?_cons_succ, List.getElem?_cons_zero]
      rfl
    case phy7 =>
      refine yields_alwaysC (Or.inl ⟨by rfl, fun w' hS => ?_⟩)
      try go_split_ands
      go_simp
      try rfl
    case prest7 =>
    intro hcl7 hS7
    clear hcl6 hS6
    try simp only [Act.put, List.setIfInBounds_toArray, List.set_cons_zero, List.set_cons_succ]
    refine wpAnyL_take (i := 7) (oi := ?pi8) (v := ?pv8) ?phi8 (by kernel_rfl) (by kernel_rfl) (by kernel_rfl) (fun _ _ _ h => h) (alwaysC_take _) ?phy8 hcl7 hS7 ?prest8
    case phi8 =>
      simp only [List.getElem?_toArray, List.getElem?_cons_succ, List.getElem?_cons_zero]
      rfl
    case phy8 =>
      refine yields_alwaysC (Or.inl ⟨by rfl, fun w' hS => ?_⟩)
      try go_split_ands
      go_simp
      try rfl
    case prest8 =>
    intro hcl8 hS8
    clear hcl7 hS7
    try simp only [Act.put, List.setIfInBounds_toArray, List.set_cons_zero, List.set_cons_succ]
    refine wpAnyL_take (i := 8) (oi := ?pi9) (v := ?pv9) ?phi9 (by kernel_rfl) (by kernel_rfl) (by kernel_rfl) (fun _ _ _ h => h) (alwaysC_take _) ?phy9 hcl8 hS8 ?prest9
    case phi9 =>
      simp only [List.getElem?_toArray, List.getElem?_cons_succ, List.getElem?_cons_zero]
      rfl
    case phy9 =>
      refine yields_alwaysC (Or.inl ⟨by rfl, fun w' hS => ?_⟩)
      try go_split_ands
      go_simp
      try rfl
    case prest9 =>
    intro hcl9 hS9
    clear hcl8 hS8
    try simp only [Act.put, List.setIfInBounds_toArray, List.set_cons_zero, List.set_cons_succ]
    refine wpAnyL_take (i := 9) (oi := ?pi10) (v := ?pv10) ?phi10 (by kernel_rfl) (by kernel_rfl) (by kernel_rfl) (fun _ _ _ h => h) (alwaysC_take _) ?phy10 hcl9 hS9 ?prest10
    case phi10 =>
      simp only [List.getElem?_toArray, List.getElem?_cons_succ, List.getElem?_cons_zero]
      rfl
    case phy10 =>
      refine yields_alwaysC (Or.inl ⟨by rfl, fun w' hS => ?_⟩)
      try go_split_ands
      go_simp
      try rfl
    case prest10 =>
    intro hcl10 hS10
    clear hcl9 hS9
    try simp only [Act.put, List.setIfInBounds_toArray, List.set_cons_zero, List.set_cons_succ]
    refine wpAnyL_done (by kernel_rfl) (NoPanic.normal ?_) _
    clear hl1
    go_wp2_with fail
    refine bodyPost_end (results_none Try.results29 _ _ _) rfl ?_
    exact ⟨rfl, w.drew, (Wr.refl [] w).drew, rfl, by rw [hout.out]; exact (setCell_self (w := w.drew) c1).symm⟩
end Go.Proofs.Ytmpbkfbjmmoapaa
