/- Canon's other closure (a number anew), walked. No conditions. -/
import Derived.Test.YtmpbkfbjmmoapaaGreatIT01
import Derived.Test.YtmpbkfbjmmoapaaGreatIT21
import Derived.Test.YtmpbkfbjmmoapaaGreatIT25
import Derived.Test.YtmpbkfbjmmoapaaGreatIT06
import Derived.Test.YtmpbkfbjmmoapaaGreatIT24
import Derived.Laws.StructEq
namespace Go.Proofs.YtmpbkfbjmmoapaaGreat
open Go.RowKit
set_option linter.unusedVariables false
set_option linter.unusedSimpArgs false
def AlwaysC (C : World → Prop) : Array Bool → World → Prop := fun _ w => C w
section
variable {P : Program} {md : Region.Mode} {ops : Array Oper}
theorem alwaysC_take (C : World → Prop) {i : Nat} (l : Array Bool) (w : World) : AlwaysC C (l.setIfInBounds i true) w ↔ AlwaysC C l w := Iff.rfl
theorem yields_alwaysC {C : World → Prop} {i : Nat} {o : Oper} {v : Value} {a : Act}
  (h : (Region.wanted o (yielded ops a.tmps) = true ∧ ∀ w, C w → (execOp a.eval o).run P w = .ok (.value v) w) ∨ (Region.wanted o (yielded ops a.tmps) = false ∧ v = undef)) : YieldsL P md ops (AlwaysC C) i o v a :=
 h.imp (fun ⟨hw, hv⟩ => ⟨hw, fun l w hc hun hS => hv w hS⟩) id
end
def AnewR (ord : List Int) (n : Int) (g o : Nat) (w : World) (e : Ending) (w' : World) : Prop :=
 e = .returned (.tuple #[]) ∧ ∃ wd : World, Wr [] w wd ∧ wd.heap = w.heap ∧ w' = wd.setCell ⟨g, o, none⟩ (.int .i64 (anewN ord n))
theorem wr_set {w wd w' : World} {g o : Nat} {u : Value} (r : Wr [] w wd) (e : w' = wd.setCell ⟨g, o, none⟩ u) : Wr [g] w w' := by
 subst e
 exact r.nil.setOn (by simp) u
theorem row_set {w wd w' : World} {B g o size n : Nat} {T : TypeId} {v u : Value} {xs : List Value} (h : w.ownsRow B T size v n xs) (hg : v.ownBlock = some g) (hh : wd.heap = w.heap) (e : w' = wd.setCell ⟨g, o, none⟩ u) : w'.ownsRow B T size v n (xs.set o u) := by
 subst e
 have h1 : wd.ownsRow B T size v n xs := by
  refine ⟨h.1, ?_⟩
  rcases h.2 with h0 | ⟨g', cap, cur, rfl, hb, hh', rest⟩
  ·exact .inl h0
  ·exact .inr ⟨g', cap, cur, rfl, hb, by rw [hh]; exact hh', rest⟩
 rcases h1.2 with ⟨rfl, _⟩ | ⟨g', cap, cur, rfl, _⟩
 ·cases hg
 ·obtain rfl : g' = g := by simpa [Value.ownBlock] using hg
  exact (h1.stored o u).1
theorem blk_set' {w wd w' : World} {g o : Nat} {T : TypeId} {cs : Array Value} {u : Value} (h : Blk w g T cs) (hh : wd.heap = w.heap) (e : w' = wd.setCell ⟨g, o, none⟩ u) : Blk w' g T (cs.setIfInBounds o u) := by
 subst e
 have h1 : Blk wd g T cs := by
  unfold Blk at h ⊢
  rw [hh]
  exact h
 exact h1.set_ o u
set_option maxRecDepth 100000 in
set_option maxHeartbeats 4000000 in
theorem anew_any (pn gn g o : Nat) (ord : List Int) (n : Int) (w : World) (bn : Blk w pn 65 #[.map (some gn)]) (mn : MapI w gn (numsOf ord)) (ct : Own w ⟨g, o, none⟩ (.int .i64 n)) :
  Calls Tryz.prog 19 #[.pointer (some ⟨g, o, none⟩), .pointer (some ⟨pn, 0, none⟩)] w (AnewR ord n g o w) := by
 have c0 := bn.cell 0
 have c1 := ct.cell
 have f1 := ct.frozen
 simp only [qgaq, qgzq] at c0
 have hl1 := mapI_look Tryz.underlying65 Tryz.underlying3 (mn.wr (Wr.refl [] w).drew (by simp)) n Tryz.zeroValue3
 by_cases hm : n ∈ ord
 ·rw [numsOf_in hm] at hl1
  simp only [Option.getD_some, Option.isSome_some] at hl1
  clear hm
  go_enter Tryz.func19, Tryz.ntmps19
  go_upto_region 0 with (fail)
  refine wp_region_noPanic ?_
  refine wp_region_L (AlwaysC fun w' => w'.cell? ⟨pn, 0, none⟩ = some (.map (some gn)) ∧ w'.cell? ⟨g, o, none⟩ = some (.int .i64 n) ∧ (Instr.lookup 65 (.map (some gn)) (.int .i64 n) true).run Tryz.prog w' = .ok (.tuple #[.int .i64 (anewN ord n), .bool true]) w') (by kernel_rfl) (fun hcl => ?_)
  have hS : AlwaysC (fun w' => w'.cell? ⟨pn, 0, none⟩ = some (.map (some gn)) ∧ w'.cell? ⟨g, o, none⟩ = some (.int .i64 n) ∧ (Instr.lookup 65 (.map (some gn)) (.int .i64 n) true).run Tryz.prog w' = .ok (.tuple #[.int .i64 (anewN ord n), .bool true]) w') (Array.replicate 10 false) w.drew := ⟨c0, c1, hl1⟩
  refine wpAnyL_take (i := 0) (oi := ?oi1) (v := ?v1) ?hi1 (by kernel_rfl) (by kernel_rfl) (by kernel_rfl) (fun _ _ _ h => h) (alwaysC_take _) ?hy1 hcl hS ?rest1
  case hi1 =>
   simp only [qgaq, qgsq, qgzq]
   rfl
  case hy1 =>
   refine yields_alwaysC (Or.inl ⟨by rfl, fun w' hS => ?_⟩)
   try go_split_ands
   go_simp
   try rfl
  case rest1 =>
  intro hcl1 hS1
  clear hcl hS
  try simp only [Act.put, qsaq, qszq, qssq]
  refine wpAnyL_take (i := 1) (oi := ?oi2) (v := ?v2) ?hi2 (by kernel_rfl) (by kernel_rfl) (by kernel_rfl) (fun _ _ _ h => h) (alwaysC_take _) ?hy2 hcl1 hS1 ?rest2
  case hi2 =>
   simp only [qgaq, qgsq, qgzq]
   rfl
  case hy2 =>
   refine yields_alwaysC (Or.inl ⟨by rfl, fun w' hS => ?_⟩)
   try go_split_ands
   go_simp
   try rfl
  case rest2 =>
  intro hcl2 hS2
  clear hcl1 hS1
  try simp only [Act.put, qsaq, qszq, qssq]
  refine wpAnyL_take (i := 2) (oi := ?oi3) (v := ?v3) ?hi3 (by kernel_rfl) (by kernel_rfl) (by kernel_rfl) (fun _ _ _ h => h) (alwaysC_take _) ?hy3 hcl2 hS2 ?rest3
  case hi3 =>
   simp only [qgaq, qgsq, qgzq]
   rfl
  case hy3 =>
   refine yields_alwaysC (Or.inl ⟨by rfl, fun w' hS => ?_⟩)
   try go_split_ands
   go_simp
   try rfl
  case rest3 =>
  intro hcl3 hS3
  clear hcl2 hS2
  try simp only [Act.put, qsaq, qszq, qssq]
  refine wpAnyL_take (i := 3) (oi := ?oi4) (v := ?v4) ?hi4 (by kernel_rfl) (by kernel_rfl) (by kernel_rfl) (fun _ _ _ h => h) (alwaysC_take _) ?hy4 hcl3 hS3 ?rest4
  case hi4 =>
   simp only [qgaq, qgsq, qgzq]
   rfl
  case hy4 =>
   refine yields_alwaysC (Or.inl ⟨by rfl, fun w' hS => ?_⟩)
   try go_split_ands
   go_simp
   try rfl
  case rest4 =>
  intro hcl4 hS4
  clear hcl3 hS3
  try simp only [Act.put, qsaq, qszq, qssq]
  refine wpAnyL_take (i := 4) (oi := ?oi5) (v := ?v5) ?hi5 (by kernel_rfl) (by kernel_rfl) (by kernel_rfl) (fun _ _ _ h => h) (alwaysC_take _) ?hy5 hcl4 hS4 ?rest5
  case hi5 =>
   simp only [qgaq, qgsq, qgzq]
   rfl
  case hy5 =>
   refine yields_alwaysC (Or.inl ⟨by rfl, fun w' hS => ?_⟩)
   try go_split_ands
   go_simp
   try rfl
  case rest5 =>
  intro hcl5 hS5
  clear hcl4 hS4
  try simp only [Act.put, qsaq, qszq, qssq]
  refine wpAnyL_take (i := 5) (oi := ?oi6) (v := ?v6) ?hi6 (by kernel_rfl) (by kernel_rfl) (by kernel_rfl) (fun _ _ _ h => h) (alwaysC_take _) ?hy6 hcl5 hS5 ?rest6
  case hi6 =>
   simp only [qgaq, qgsq, qgzq]
   rfl
  case hy6 =>
   refine yields_alwaysC (Or.inl ⟨by rfl, fun w' hS => ?_⟩)
   try go_split_ands
   go_simp
   try rfl
  case rest6 =>
  intro hcl6 hS6
  clear hcl5 hS5
  try simp only [Act.put, qsaq, qszq, qssq]
  refine wpAnyL_take (i := 6) (oi := ?oi7) (v := ?v7) ?hi7 (by kernel_rfl) (by kernel_rfl) (by kernel_rfl) (fun _ _ _ h => h) (alwaysC_take _) ?hy7 hcl6 hS6 ?rest7
  case hi7 =>
   simp only [qgaq, qgsq, qgzq]
   rfl
  case hy7 =>
   refine yields_alwaysC (Or.inl ⟨by rfl, fun w' hS => ?_⟩)
   try go_split_ands
   go_simp
   try rfl
  case rest7 =>
  intro hcl7 hS7
  clear hcl6 hS6
  try simp only [Act.put, qsaq, qszq, qssq]
  refine wpAnyL_take (i := 7) (oi := ?oi8) (v := ?v8) ?hi8 (by kernel_rfl) (by kernel_rfl) (by kernel_rfl) (fun _ _ _ h => h) (alwaysC_take _) ?hy8 hcl7 hS7 ?rest8
  case hi8 =>
   simp only [qgaq, qgsq, qgzq]
   rfl
  case hy8 =>
   refine yields_alwaysC (Or.inl ⟨by rfl, fun w' hS => ?_⟩)
   try go_split_ands
   go_simp
   try rfl
  case rest8 =>
  intro hcl8 hS8
  clear hcl7 hS7
  try simp only [Act.put, qsaq, qszq, qssq]
  refine wpAnyL_take (i := 8) (oi := ?oi9) (v := ?v9) ?hi9 (by kernel_rfl) (by kernel_rfl) (by kernel_rfl) (fun _ _ _ h => h) (alwaysC_take _) ?hy9 hcl8 hS8 ?rest9
  case hi9 =>
   simp only [qgaq, qgsq, qgzq]
   rfl
  case hy9 =>
   refine yields_alwaysC (Or.inl ⟨by rfl, fun w' hS => ?_⟩)
   try go_split_ands
   go_simp
   try rfl
  case rest9 =>
  intro hcl9 hS9
  clear hcl8 hS8
  try simp only [Act.put, qsaq, qszq, qssq]
  refine wpAnyL_take (i := 9) (oi := ?oi10) (v := ?v10) ?hi10 (by kernel_rfl) (by kernel_rfl) (by kernel_rfl) (fun _ _ _ h => h) (alwaysC_take _) ?hy10 hcl9 hS9 ?rest10
  case hi10 =>
   simp only [qgaq, qgsq, qgzq]
   rfl
  case hy10 =>
   refine yields_alwaysC (Or.inl ⟨by rfl, fun w' hS => ?_⟩)
   try go_split_ands
   go_simp
   try rfl
  case rest10 =>
  intro hcl10 hS10
  clear hcl9 hS9
  try simp only [Act.put, qsaq, qszq, qssq]
  refine wpAnyL_done (by kernel_rfl) (NoPanic.normal ?_) _
  clear hl1
  go_wp2_with fail
  refine bodyPost_end (results_none Tryz.results19 _ _ _) rfl ?_
  exact ⟨rfl, w.drew, (Wr.refl [] w).drew, rfl, rfl⟩
 ·rw [numsOf_out hm] at hl1
  simp only [Option.getD_none, Option.isSome_none] at hl1
  have hout := Lib.hid (anewN_out hm)
  clear hm
  go_enter Tryz.func19, Tryz.ntmps19
  go_upto_region 0 with (fail)
  refine wp_region_noPanic ?_
  refine wp_region_L (AlwaysC fun w' => w'.cell? ⟨pn, 0, none⟩ = some (.map (some gn)) ∧ w'.cell? ⟨g, o, none⟩ = some (.int .i64 n) ∧ (Instr.lookup 65 (.map (some gn)) (.int .i64 n) true).run Tryz.prog w' = .ok (.tuple #[.int .i64 0, .bool false]) w') (by kernel_rfl) (fun hcl => ?_)
  have hS : AlwaysC (fun w' => w'.cell? ⟨pn, 0, none⟩ = some (.map (some gn)) ∧ w'.cell? ⟨g, o, none⟩ = some (.int .i64 n) ∧ (Instr.lookup 65 (.map (some gn)) (.int .i64 n) true).run Tryz.prog w' = .ok (.tuple #[.int .i64 0, .bool false]) w') (Array.replicate 10 false) w.drew := ⟨c0, c1, hl1⟩
  refine wpAnyL_take (i := 0) (oi := ?pi1) (v := ?pv1) ?phi1 (by kernel_rfl) (by kernel_rfl) (by kernel_rfl) (fun _ _ _ h => h) (alwaysC_take _) ?phy1 hcl hS ?prest1
  case phi1 =>
   simp only [qgaq, qgsq, qgzq]
   rfl
  case phy1 =>
   refine yields_alwaysC (Or.inl ⟨by rfl, fun w' hS => ?_⟩)
   try go_split_ands
   go_simp
   try rfl
  case prest1 =>
  intro hcl1 hS1
  clear hcl hS
  try simp only [Act.put, qsaq, qszq, qssq]
  refine wpAnyL_take (i := 1) (oi := ?pi2) (v := ?pv2) ?phi2 (by kernel_rfl) (by kernel_rfl) (by kernel_rfl) (fun _ _ _ h => h) (alwaysC_take _) ?phy2 hcl1 hS1 ?prest2
  case phi2 =>
   simp only [qgaq, qgsq, qgzq]
   rfl
  case phy2 =>
   refine yields_alwaysC (Or.inl ⟨by rfl, fun w' hS => ?_⟩)
   try go_split_ands
   go_simp
   try rfl
  case prest2 =>
  intro hcl2 hS2
  clear hcl1 hS1
  try simp only [Act.put, qsaq, qszq, qssq]
  refine wpAnyL_take (i := 2) (oi := ?pi3) (v := ?pv3) ?phi3 (by kernel_rfl) (by kernel_rfl) (by kernel_rfl) (fun _ _ _ h => h) (alwaysC_take _) ?phy3 hcl2 hS2 ?prest3
  case phi3 =>
   simp only [qgaq, qgsq, qgzq]
   rfl
  case phy3 =>
   refine yields_alwaysC (Or.inl ⟨by rfl, fun w' hS => ?_⟩)
   try go_split_ands
   go_simp
   try rfl
  case prest3 =>
  intro hcl3 hS3
  clear hcl2 hS2
  try simp only [Act.put, qsaq, qszq, qssq]
  refine wpAnyL_take (i := 3) (oi := ?pi4) (v := ?pv4) ?phi4 (by kernel_rfl) (by kernel_rfl) (by kernel_rfl) (fun _ _ _ h => h) (alwaysC_take _) ?phy4 hcl3 hS3 ?prest4
  case phi4 =>
   simp only [qgaq, qgsq, qgzq]
   rfl
  case phy4 =>
   refine yields_alwaysC (Or.inl ⟨by rfl, fun w' hS => ?_⟩)
   try go_split_ands
   go_simp
   try rfl
  case prest4 =>
  intro hcl4 hS4
  clear hcl3 hS3
  try simp only [Act.put, qsaq, qszq, qssq]
  refine wpAnyL_take (i := 4) (oi := ?pi5) (v := ?pv5) ?phi5 (by kernel_rfl) (by kernel_rfl) (by kernel_rfl) (fun _ _ _ h => h) (alwaysC_take _) ?phy5 hcl4 hS4 ?prest5
  case phi5 =>
   simp only [qgaq, qgsq, qgzq]
   rfl
  case phy5 =>
   refine yields_alwaysC (Or.inl ⟨by rfl, fun w' hS => ?_⟩)
   try go_split_ands
   go_simp
   try rfl
  case prest5 =>
  intro hcl5 hS5
  clear hcl4 hS4
  try simp only [Act.put, qsaq, qszq, qssq]
  refine wpAnyL_take (i := 5) (oi := ?pi6) (v := ?pv6) ?phi6 (by kernel_rfl) (by kernel_rfl) (by kernel_rfl) (fun _ _ _ h => h) (alwaysC_take _) ?phy6 hcl5 hS5 ?prest6
  case phi6 =>
   simp only [qgaq, qgsq, qgzq]
   rfl
  case phy6 =>
   refine yields_alwaysC (Or.inl ⟨by rfl, fun w' hS => ?_⟩)
   try go_split_ands
   go_simp
   try rfl
  case prest6 =>
  intro hcl6 hS6
  clear hcl5 hS5
  try simp only [Act.put, qsaq, qszq, qssq]
  refine wpAnyL_take (i := 6) (oi := ?pi7) (v := ?pv7) ?phi7 (by kernel_rfl) (by kernel_rfl) (by kernel_rfl) (fun _ _ _ h => h) (alwaysC_take _) ?phy7 hcl6 hS6 ?prest7
  case phi7 =>
   simp only [qgaq, qgsq, qgzq]
   rfl
  case phy7 =>
   refine yields_alwaysC (Or.inl ⟨by rfl, fun w' hS => ?_⟩)
   try go_split_ands
   go_simp
   try rfl
  case prest7 =>
  intro hcl7 hS7
  clear hcl6 hS6
  try simp only [Act.put, qsaq, qszq, qssq]
  refine wpAnyL_take (i := 7) (oi := ?pi8) (v := ?pv8) ?phi8 (by kernel_rfl) (by kernel_rfl) (by kernel_rfl) (fun _ _ _ h => h) (alwaysC_take _) ?phy8 hcl7 hS7 ?prest8
  case phi8 =>
   simp only [qgaq, qgsq, qgzq]
   rfl
  case phy8 =>
   refine yields_alwaysC (Or.inl ⟨by rfl, fun w' hS => ?_⟩)
   try go_split_ands
   go_simp
   try rfl
  case prest8 =>
  intro hcl8 hS8
  clear hcl7 hS7
  try simp only [Act.put, qsaq, qszq, qssq]
  refine wpAnyL_take (i := 8) (oi := ?pi9) (v := ?pv9) ?phi9 (by kernel_rfl) (by kernel_rfl) (by kernel_rfl) (fun _ _ _ h => h) (alwaysC_take _) ?phy9 hcl8 hS8 ?prest9
  case phi9 =>
   simp only [qgaq, qgsq, qgzq]
   rfl
  case phy9 =>
   refine yields_alwaysC (Or.inl ⟨by rfl, fun w' hS => ?_⟩)
   try go_split_ands
   go_simp
   try rfl
  case prest9 =>
  intro hcl9 hS9
  clear hcl8 hS8
  try simp only [Act.put, qsaq, qszq, qssq]
  refine wpAnyL_take (i := 9) (oi := ?pi10) (v := ?pv10) ?phi10 (by kernel_rfl) (by kernel_rfl) (by kernel_rfl) (fun _ _ _ h => h) (alwaysC_take _) ?phy10 hcl9 hS9 ?prest10
  case phi10 =>
   simp only [qgaq, qgsq, qgzq]
   rfl
  case phy10 =>
   refine yields_alwaysC (Or.inl ⟨by rfl, fun w' hS => ?_⟩)
   try go_split_ands
   go_simp
   try rfl
  case prest10 =>
  intro hcl10 hS10
  clear hcl9 hS9
  try simp only [Act.put, qsaq, qszq, qssq]
  refine wpAnyL_done (by kernel_rfl) (NoPanic.normal ?_) _
  clear hl1
  go_wp2_with fail
  refine bodyPost_end (results_none Tryz.results19 _ _ _) rfl ?_
  exact ⟨rfl, w.drew, (Wr.refl [] w).drew, rfl, by rw [hout.out]; exact (setCell_self (w := w.drew) c1).symm⟩
end Go.Proofs.YtmpbkfbjmmoapaaGreat

/- The document's Same: lists of numbers, items: walked. No conditions. -/
namespace Go.Proofs.YtmpbkfbjmmoapaaGreat
open Go.RowKit
set_option linter.unusedVariables false
set_option linter.unusedSimpArgs false
noncomputable def eqB {α : Type} (a b : α) : Bool := @decide (a = b) (Classical.propDecidable _)
theorem eqB_true {α : Type} {a b : α} (h : a = b) : eqB a b = true := by exact @decide_eq_true _ (Classical.propDecidable _) h
theorem eqB_false {α : Type} {a b : α} (h : a ≠ b) : eqB a b = false := by exact @decide_eq_false _ (Classical.propDecidable _) h
theorem eqB_iff {α : Type} {a b : α} : eqB a b = true ↔ a = b := by exact @decide_eq_true_iff _ (Classical.propDecidable _)
theorem str_ne {s t : ByteArray} (h : s ≠ t) : (s.toList == t.toList) = false := by
 rw [beq_eq_false_iff_ne]
 intro e
 apply h
 rw [ByteArray.toList_eq, ByteArray.toList_eq] at e
 obtain ⟨⟨l⟩⟩ := s
 obtain ⟨⟨m⟩⟩ := t
 simp at e
 rw [e]
theorem str_eq (s : ByteArray) : (s.toList == s.toList) = true := by simp
theorem same_next {α : Type} {l m : List α} {k : Nat} {x : α} (h : l.take k = m.take k) (hx : l[k]? = some x) (hy : m[k]? = some x) : l.take (k + 1) = m.take (k + 1) := by
 have h1 := (List.getElem?_eq_some_iff.1 hx).1
 have h2 := (List.getElem?_eq_some_iff.1 hy).1
 rw [List.take_succ_eq_append_getElem h1, List.take_succ_eq_append_getElem h2, h, (List.getElem?_eq_some_iff.1 hx).2, (List.getElem?_eq_some_iff.1 hy).2]
theorem ne_at {α : Type} {l m : List α} {k : Nat} {x y : α} (hx : l[k]? = some x) (hy : m[k]? = some y) (h : x ≠ y) : l ≠ m := fun e => by
 rw [e, hy] at hx
 injection hx with hx
 exact h hx.symm
theorem take_full {α : Type} {l m : List α} (hl : l.length = m.length) (h : l.take l.length = m.take l.length) : l = m := by
 rw [List.take_length, hl, List.take_length] at h
 exact h
def DrewB (r : Bool) (w : World) (e : Ending) (w' : World) : Prop := e = .returned (.bool r) ∧ ∃ n, w' = w.drewN n
set_option maxRecDepth 100000 in
set_option maxHeartbeats 4000000 in
theorem numbers_any (l m : List Int) (va vb : Value) (P Q : Nat → Prop) (w : World) (ha : SlInts w P va l) (hb : SlInts w Q vb m) :
  Calls Tryz.prog 101 #[va, vb] w (DrewB (eqB l m) w) := by
 obtain ⟨A, c, rfl, la, ma⟩ := Sl.form ha
 obtain ⟨B, d, rfl, lb, mb⟩ := Sl.form hb
 unfold maxLen at ma mb
 have HA := Lib.hid ha
 have HB := Lib.hid hb
 clear ha hb
 by_cases hlen : l.length = m.length
 ·have HLEN := Lib.hid hlen
  have hne : ((l.length : Int) != (m.length : Int)) = false := by simp [hlen]
  have hle : m.length ≤ l.length := by omega
  have hge : l.length ≤ m.length := by omega
  clear hlen
  go_enter Tryz.func101, Tryz.ntmps101
  go_wp2_with fail
  go_loopw [5] (fun s5 wr => ∃ k : Nat, k ≤ l.length ∧ s5 = .int .i64 k ∧ l.take k = m.take k ∧ ∃ n, wr = w.drewN n) (fun s5 _ => l.length - (intOf s5).toNat)
  case atStart => exact ⟨0, by omega, rfl, by simp, 0, rfl⟩
  case round =>
   obtain ⟨k, hk, rfl, htk, n0, hn0⟩ := hrel
   have hw0 : Wr [] w wr := by rw [hn0]; exact (Wr.refl _ _).drewN _
   have HN0 := Lib.hid hn0
   have HTK := Lib.hid htk
   clear hn0 htk
   by_cases hlt : k < l.length
   ·obtain ⟨x, hx⟩ : ∃ x, l[k]? = some x := ⟨_, List.getElem?_eq_getElem hlt⟩
    obtain ⟨y, hy⟩ : ∃ y, m[k]? = some y := ⟨_, List.getElem?_eq_getElem (by omega)⟩
    obtain ⟨b1, o1, c1, e1, _, _, _, hc1⟩ := Sl.at_ (Sl.wr0 HA.out hw0) (j := k) (u := .int .i64 x) (by rw [List.getElem?_map, hx]; rfl)
    obtain ⟨b2, o2, c2, e2, _, _, _, hc2⟩ := Sl.at_ (Sl.wr0 HB.out hw0) (j := k) (u := .int .i64 y) (by rw [List.getElem?_map, hy]; rfl)
    injection e1 with e11 _ e12
    injection e2 with e21 _ e22
    subst e11 e12 e21 e22
    have h0 : (0 : Int) ≤ (k : Int) := by omega
    have h1 : (k : Int) < (l.length : Int) := by omega
    have h2 : (k : Int) < (m.length : Int) := by omega
    by_cases hxy : x = y
    ·subst hxy
     have hnx := Lib.hid (same_next HTK.out hx hy)
     clear hx hy
     go_wp2_with fail
     go_quiet (fail)
     go_wp2_with fail
     go_roundw
     case rel => exact ⟨k + 1, by omega, by go_num, hnx.out, _, by rw [HN0.out, World.drewN_drewN]⟩
     case measure => simp [intOf]; omega
    ·have hres := Lib.hid (eqB_false (ne_at hx hy hxy))
     clear hx hy
     go_wp2_with fail
     go_quiet (fail)
     go_wp2_with fail
     go_ret
     exact ⟨by rw [hres.out]; rfl, _, by rw [HN0.out, World.drewN_drewN]⟩
   ·obtain rfl : k = l.length := by omega
    have hres := Lib.hid (eqB_true (take_full HLEN.out HTK.out))
    go_wp2_with fail
    go_ret
    exact ⟨by rw [hres.out]; rfl, n0, HN0.out⟩
 ·have hres := Lib.hid (eqB_false (fun e : l = m => hlen (by rw [e])))
  have hne : ((l.length : Int) != (m.length : Int)) = true := by simpa using (by omega : ¬ (l.length : Int) = (m.length : Int))
  have hne2 : ((l.length : Int) == (m.length : Int)) = false := by simpa using (by omega : ¬ (l.length : Int) = (m.length : Int))
  have hne3 : ¬ l.length = m.length := hlen
  clear hlen
  go_enter Tryz.func101, Tryz.ntmps101
  go_wp2_with fail
  go_ret
  exact ⟨by rw [hres.out]; rfl, 0, rfl⟩
set_option maxRecDepth 100000 in
set_option maxHeartbeats 8000000 in
theorem arms_any (l m : List ArmD) (va vb : Value) (P Q : Nat → Prop) (w : World) (ha : SlArms w P va l) (hb : SlArms w Q vb m) :
  Calls Tryz.prog 73 #[va, vb] w (DrewB (eqB l m) w) := by
 obtain ⟨xs, ha1, _, ha3⟩ := ha
 obtain ⟨ys, hb1, _, hb3⟩ := hb
 obtain ⟨A, c, rfl, la, ma⟩ := Sl.form ha1
 obtain ⟨B, d, rfl, lb, mb⟩ := Sl.form hb1
 unfold maxLen at ma mb
 have HA := Lib.hid ha1
 have HB := Lib.hid hb1
 have HA3 := Lib.hid ha3
 have HB3 := Lib.hid hb3
 clear ha1 hb1 ha3 hb3
 by_cases hlen : l.length = m.length
 ·have HLEN := Lib.hid hlen
  have hne : ((l.length : Int) != (m.length : Int)) = false := by simp [hlen]
  have hle : m.length ≤ l.length := by omega
  have hge : l.length ≤ m.length := by omega
  clear hlen
  go_enter Tryz.func73, Tryz.ntmps73
  go_wp2_with fail
  go_loopw [5] (fun s5 wr => ∃ k : Nat, k ≤ l.length ∧ s5 = .int .i64 k ∧ l.take k = m.take k ∧ ∃ n, wr = w.drewN n) (fun s5 _ => l.length - (intOf s5).toNat)
  case atStart => exact ⟨0, by omega, rfl, by simp, 0, rfl⟩
  case round =>
   obtain ⟨k, hk, rfl, htk, n0, hn0⟩ := hrel
   have hw0 : Wr [] w wr := by rw [hn0]; exact (Wr.refl _ _).drewN _
   have HN0 := Lib.hid hn0
   have HTK := Lib.hid htk
   clear hn0 htk
   by_cases hlt : k < l.length
   ·obtain ⟨x, hx⟩ : ∃ x, l[k]? = some x := ⟨_, List.getElem?_eq_getElem hlt⟩
    obtain ⟨y, hy⟩ : ∃ y, m[k]? = some y := ⟨_, List.getElem?_eq_getElem (by omega)⟩
    obtain ⟨u0, u1, f0, f1, f2, sa, sb⟩ := HA3.out k x hx
    obtain ⟨v0, v1, g0, g1, g2, ta, tb⟩ := HB3.out k y hy
    obtain ⟨Q1, m1, rfl, _, _⟩ := Sl.form sa
    obtain ⟨Q2, m2, rfl, _, _⟩ := Sl.form sb
    obtain ⟨R1, p1, rfl, _, _⟩ := Sl.form ta
    obtain ⟨R2, p2, rfl, _, _⟩ := Sl.form tb
    obtain ⟨b1, o1, c1', e1, _, _, _, hc1⟩ := Sl.thing (Sl.wr0 HA.out hw0) (by decide) hlt
    obtain ⟨b2, o2, c2', e2, _, _, _, hc2⟩ := Sl.thing (Sl.wr0 HB.out hw0) (by decide) (by omega : k < m.length)
    injection e1 with e11 _ e12
    injection e2 with e21 _ e22
    subst e11 e12 e21 e22
    have x0 := hc1 0 _ (by decide) f0
    have x1 := hc1 1 _ (by decide) f1
    have x2 := hc1 2 _ (by decide) f2
    have y0 := hc2 0 _ (by decide) g0
    have y1 := hc2 1 _ (by decide) g1
    have y2 := hc2 2 _ (by decide) g2
    simp only [Nat.add_zero, ← Nat.add_assoc] at x0 x1 x2 y0 y1 y2
    have HSA := Lib.hid (Sl.wr0 sa hw0)
    have HSB := Lib.hid (Sl.wr0 sb hw0)
    have HTA := Lib.hid (Sl.wr0 ta hw0)
    have HTB := Lib.hid (Sl.wr0 tb hw0)
    have h0 : (0 : Int) ≤ (k : Int) := by omega
    have h1k : (k : Int) < (l.length : Int) := by omega
    have h2k : (k : Int) < (m.length : Int) := by omega
    clear f0 f1 f2 g0 g1 g2 sa sb ta tb hc1 hc2 hw0
    by_cases c1 : x.frm = y.frm
    ·by_cases c2 : x.to = y.to
     ·by_cases c3 : x.els = y.els
      ·have d3 : (x.els != y.els) = false := by simp [c3]
       have d4 : (x.els == y.els) = true := by simp [c3]
       have h1 : ∀ n, Calls Tryz.prog 101 #[.slice Q1 x.frm.length m1, .slice R1 y.frm.length p1] (wr.drewN n) fun e w' => e = .returned (.bool true) ∧ ∃ m, w' = (wr.drewN n).drewN m := fun n => by
        have := numbers_any x.frm y.frm _ _ _ _ (wr.drewN n) (Sl.wr0 HSA.out ((Wr.refl _ _).drewN n)) (Sl.wr0 HTA.out ((Wr.refl _ _).drewN n))
        rw [eqB_true c1] at this
        exact this
       have h2 : ∀ n, Calls Tryz.prog 101 #[.slice Q2 x.to.length m2, .slice R2 y.to.length p2] (wr.drewN n) fun e w' => e = .returned (.bool true) ∧ ∃ m, w' = (wr.drewN n).drewN m := fun n => by
        have := numbers_any x.to y.to _ _ _ _ (wr.drewN n) (Sl.wr0 HSB.out ((Wr.refl _ _).drewN n)) (Sl.wr0 HTB.out ((Wr.refl _ _).drewN n))
        rw [eqB_true c2] at this
        exact this
       have H2 := Lib.hid h2
       clear h2
       have H1 := Lib.hid h1
       clear h1
       have hxy : x = y := by obtain ⟨a1, a2, a3⟩ := x; obtain ⟨d1, d2, d3⟩ := y; simp only at c1 c2 c3; subst c1 c2 c3; rfl
       have hnx := Lib.hid (same_next (x := x) HTK.out hx (by rw [hxy]; exact hy))
       clear hx hy c1 c2 c3 hxy
       go_wp2_with fail
       go_quiet ((go_at_call 101; first | (with_reducible exact Calls.quiet_of (H1.out _)) | (with_reducible exact Calls.quiet_of (H2.out _))))
       go_wp2_with fail
       go_roundw
       case rel => exact ⟨k + 1, by omega, by go_num, hnx.out, _, by rw [HN0.out, World.drewN_drewN]⟩
       case measure => simp [intOf]; omega
      ·have d3 : (x.els != y.els) = true := by simpa using c3
       have d4 : (x.els == y.els) = false := by simpa using c3
       have h1 : ∀ n, Calls Tryz.prog 101 #[.slice Q1 x.frm.length m1, .slice R1 y.frm.length p1] (wr.drewN n) fun e w' => e = .returned (.bool true) ∧ ∃ m, w' = (wr.drewN n).drewN m := fun n => by
        have := numbers_any x.frm y.frm _ _ _ _ (wr.drewN n) (Sl.wr0 HSA.out ((Wr.refl _ _).drewN n)) (Sl.wr0 HTA.out ((Wr.refl _ _).drewN n))
        rw [eqB_true c1] at this
        exact this
       have h2 : ∀ n, Calls Tryz.prog 101 #[.slice Q2 x.to.length m2, .slice R2 y.to.length p2] (wr.drewN n) fun e w' => e = .returned (.bool true) ∧ ∃ m, w' = (wr.drewN n).drewN m := fun n => by
        have := numbers_any x.to y.to _ _ _ _ (wr.drewN n) (Sl.wr0 HSB.out ((Wr.refl _ _).drewN n)) (Sl.wr0 HTB.out ((Wr.refl _ _).drewN n))
        rw [eqB_true c2] at this
        exact this
       have H2 := Lib.hid h2
       clear h2
       have H1 := Lib.hid h1
       clear h1
       have hres := Lib.hid (eqB_false (ne_at hx hy (fun e : x = y => c3 (by rw [e]))))
       clear hx hy c1 c2 c3
       go_wp2_with fail
       go_quiet ((go_at_call 101; first | (with_reducible exact Calls.quiet_of (H1.out _)) | (with_reducible exact Calls.quiet_of (H2.out _))))
       go_wp2_with fail
       go_ret
       exact ⟨by rw [hres.out]; rfl, _, by rw [HN0.out, World.drewN_drewN]⟩
     ·skip
      have h1 : ∀ n, Calls Tryz.prog 101 #[.slice Q1 x.frm.length m1, .slice R1 y.frm.length p1] (wr.drewN n) fun e w' => e = .returned (.bool true) ∧ ∃ m, w' = (wr.drewN n).drewN m := fun n => by
       have := numbers_any x.frm y.frm _ _ _ _ (wr.drewN n) (Sl.wr0 HSA.out ((Wr.refl _ _).drewN n)) (Sl.wr0 HTA.out ((Wr.refl _ _).drewN n))
       rw [eqB_true c1] at this
       exact this
      have h2 : ∀ n, Calls Tryz.prog 101 #[.slice Q2 x.to.length m2, .slice R2 y.to.length p2] (wr.drewN n) fun e w' => e = .returned (.bool false) ∧ ∃ m, w' = (wr.drewN n).drewN m := fun n => by
       have := numbers_any x.to y.to _ _ _ _ (wr.drewN n) (Sl.wr0 HSB.out ((Wr.refl _ _).drewN n)) (Sl.wr0 HTB.out ((Wr.refl _ _).drewN n))
       rw [eqB_false c2] at this
       exact this
      have H2 := Lib.hid h2
      clear h2
      have H1 := Lib.hid h1
      clear h1
      have hres := Lib.hid (eqB_false (ne_at hx hy (fun e : x = y => c2 (by rw [e]))))
      clear hx hy c1 c2
      go_wp2_with fail
      go_quiet ((go_at_call 101; first | (with_reducible exact Calls.quiet_of (H1.out _)) | (with_reducible exact Calls.quiet_of (H2.out _))))
      go_wp2_with fail
      go_ret
      exact ⟨by rw [hres.out]; rfl, _, by rw [HN0.out, World.drewN_drewN]⟩
    ·skip
     have h1 : ∀ n, Calls Tryz.prog 101 #[.slice Q1 x.frm.length m1, .slice R1 y.frm.length p1] (wr.drewN n) fun e w' => e = .returned (.bool false) ∧ ∃ m, w' = (wr.drewN n).drewN m := fun n => by
      have := numbers_any x.frm y.frm _ _ _ _ (wr.drewN n) (Sl.wr0 HSA.out ((Wr.refl _ _).drewN n)) (Sl.wr0 HTA.out ((Wr.refl _ _).drewN n))
      rw [eqB_false c1] at this
      exact this
     have H1 := Lib.hid h1
     clear h1
     have hres := Lib.hid (eqB_false (ne_at hx hy (fun e : x = y => c1 (by rw [e]))))
     clear hx hy c1
     go_wp2_with fail
     go_quiet ((go_at_call 101; with_reducible exact Calls.quiet_of (H1.out _)))
     go_wp2_with fail
     go_ret
     exact ⟨by rw [hres.out]; rfl, _, by rw [HN0.out, World.drewN_drewN]⟩
   ·obtain rfl : k = l.length := by omega
    have hres := Lib.hid (eqB_true (take_full HLEN.out HTK.out))
    go_wp2_with fail
    go_ret
    exact ⟨by rw [hres.out]; rfl, n0, HN0.out⟩
 ·have hres := Lib.hid (eqB_false (fun e : l = m => hlen (by rw [e])))
  have hne : ((l.length : Int) != (m.length : Int)) = true := by simpa using (by omega : ¬ (l.length : Int) = (m.length : Int))
  have hne2 : ((l.length : Int) == (m.length : Int)) = false := by simpa using (by omega : ¬ (l.length : Int) = (m.length : Int))
  have hne3 : ¬ l.length = m.length := hlen
  clear hlen
  go_enter Tryz.func73, Tryz.ntmps73
  go_wp2_with fail
  go_ret
  exact ⟨by rw [hres.out]; rfl, 0, rfl⟩
end Go.Proofs.YtmpbkfbjmmoapaaGreat
