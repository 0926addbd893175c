/- Canon's other closure (a number anew), walked. No conditions. -/
import Derived.Test.YtildcdgobdfieaaGreatSY01
import Derived.Test.YtildcdgobdfieaaGreatSY23
import Derived.Test.YtildcdgobdfieaaGreatSY24
import Derived.Test.YtildcdgobdfieaaGreatSY05
set_option linter.unusedVariables false
set_option linter.unusedSimpArgs false
set_option maxRecDepth 100000
set_option maxHeartbeats 32000000
namespace Go.Proofs.YtildcdgobdfieaaGreat
open Go.RowKit
def AlwaysC (C : World → Prop) : Array Bool → World → Prop := fun _ w => C w
section
variable {P : Program} {md : Region.Mode} {ops : Array Oper}
theorem alwaysC_take (C : World → Prop) {i : Nat} (l : Array Bool) (w : World) : AlwaysC C (l.setIfInBounds i true) w ↔ AlwaysC C l w := Iff.rfl
theorem yields_alwaysC {C : World → Prop} {i : Nat} {o : Oper} {v : Value} {a : Act}
  (h : (Region.wanted o (yielded ops a.tmps) = true ∧ ∀ w, C w → (execOp a.eval o).run P w = .ok (.value v) w) ∨ (Region.wanted o (yielded ops a.tmps) = false ∧ v = undef)) : YieldsL P md ops (AlwaysC C) i o v a :=
 h.imp (fun ⟨hw, hv⟩ => ⟨hw, fun l w hc hun hS => hv w hS⟩) id
end
def AnewR (ord : List Int) (n : Int) (g o : Nat) (w : World) (e : Ending) (w' : World) : Prop :=
 e = .returned (.tuple #[]) ∧ ∃ wd : World, Wr [] w wd ∧ wd.heap = w.heap ∧ w' = wd.setCell ⟨g, o, none⟩ (.int .i64 (anewN ord n))
theorem wr_set {w wd w' : World} {g o : Nat} {u : Value} (r : Wr [] w wd) (e : w' = wd.setCell ⟨g, o, none⟩ u) : Wr [g] w w' := by
 subst e
 exact r.nil.setOn (by simp) u
theorem row_set {w wd w' : World} {B g o size n : Nat} {T : TypeId} {v u : Value} {xs : List Value} (h : w.ownsRow B T size v n xs) (hg : v.ownBlock = some g) (hh : wd.heap = w.heap) (e : w' = wd.setCell ⟨g, o, none⟩ u) : w'.ownsRow B T size v n (xs.set o u) := by
 subst e
 have h1 : wd.ownsRow B T size v n xs := by
  refine ⟨h.1, ?_⟩
  rcases h.2 with h0 | ⟨g', cap, cur, rfl, hb, hh', rest⟩
  ·exact .inl h0
  ·exact .inr ⟨g', cap, cur, rfl, hb, by rw [hh]; exact hh', rest⟩
 rcases h1.2 with ⟨rfl, _⟩ | ⟨g', cap, cur, rfl, _⟩
 ·cases hg
 ·obtain rfl : g' = g := by simpa [Value.ownBlock] using hg
  exact (h1.stored o u).1
theorem blk_set' {w wd w' : World} {g o : Nat} {T : TypeId} {cs : Array Value} {u : Value} (h : Blk w g T cs) (hh : wd.heap = w.heap) (e : w' = wd.setCell ⟨g, o, none⟩ u) : Blk w' g T (cs.setIfInBounds o u) := by
 subst e
 have h1 : Blk wd g T cs := by
  unfold Blk at h ⊢
  rw [hh]
  exact h
 exact h1.set_ o u
theorem anew_any (pn gn g o : Nat) (ord : List Int) (n : Int) (w : World) (bn : Blk w pn 189 #[.map (some gn)]) (mn : MapI w gn (numsOf ord)) (ct : Own w ⟨g, o, none⟩ (.int .i64 n)) :
  Calls Tryz.prog 100 #[.pointer (some ⟨g, o, none⟩), .pointer (some ⟨pn, 0, none⟩)] w (AnewR ord n g o w) := by
 have c0 := bn.cell 0
 have c1 := ct.cell
 have f1 := ct.frozen
 simp only [qgaq, qgzq] at c0
 have hl1 := mapI_look Tryz.underlying189 Tryz.underlying3 (mn.wr (Wr.refl [] w).drew (by simp)) n Tryz.zeroValue3
 by_cases hm : n ∈ ord
 ·rw [numsOf_in hm] at hl1
  simp only [Option.getD_some, Option.isSome_some] at hl1
  clear hm
  go_enter Tryz.func100, Tryz.ntmps100
  go_upto_region 0 with (fail)
  refine wp_region_noPanic ?_
  refine wp_region_L (AlwaysC fun w' => w'.cell? ⟨pn, 0, none⟩ = some (.map (some gn)) ∧ w'.cell? ⟨g, o, none⟩ = some (.int .i64 n) ∧ (Instr.lookup 189 (.map (some gn)) (.int .i64 n) true).run Tryz.prog w' = .ok (.tuple #[.int .i64 (anewN ord n), .bool true]) w') (by kernel_rfl) (fun hcl => ?_)
  have hS : AlwaysC (fun w' => w'.cell? ⟨pn, 0, none⟩ = some (.map (some gn)) ∧ w'.cell? ⟨g, o, none⟩ = some (.int .i64 n) ∧ (Instr.lookup 189 (.map (some gn)) (.int .i64 n) true).run Tryz.prog w' = .ok (.tuple #[.int .i64 (anewN ord n), .bool true]) w') (Array.replicate 10 false) w.drew := ⟨c0, c1, hl1⟩
  refine wpAnyL_take (i := 0) (oi := ?oi1) (v := ?v1) ?hi1 (by kernel_rfl) (by kernel_rfl) (by kernel_rfl) (fun _ _ _ h => h) (alwaysC_take _) ?hy1 hcl hS ?rest1
  case hi1 =>
   simp only [qgaq, qgsq, qgzq]
   rfl
  case hy1 =>
   refine yields_alwaysC (Or.inl ⟨by rfl, fun w' hS => ?_⟩)
   try go_split_ands
   go_simp
   try rfl
  case rest1 =>
  intro hcl1 hS1
  clear hcl hS
  try simp only [Act.put, qsaq, qszq, qssq]
  refine wpAnyL_take (i := 1) (oi := ?oi2) (v := ?v2) ?hi2 (by kernel_rfl) (by kernel_rfl) (by kernel_rfl) (fun _ _ _ h => h) (alwaysC_take _) ?hy2 hcl1 hS1 ?rest2
  case hi2 =>
   simp only [qgaq, qgsq, qgzq]
   rfl
  case hy2 =>
   refine yields_alwaysC (Or.inl ⟨by rfl, fun w' hS => ?_⟩)
   try go_split_ands
   go_simp
   try rfl
  case rest2 =>
  intro hcl2 hS2
  clear hcl1 hS1
  try simp only [Act.put, qsaq, qszq, qssq]
  refine wpAnyL_take (i := 2) (oi := ?oi3) (v := ?v3) ?hi3 (by kernel_rfl) (by kernel_rfl) (by kernel_rfl) (fun _ _ _ h => h) (alwaysC_take _) ?hy3 hcl2 hS2 ?rest3
  case hi3 =>
   simp only [qgaq, qgsq, qgzq]
   rfl
  case hy3 =>
   refine yields_alwaysC (Or.inl ⟨by rfl, fun w' hS => ?_⟩)
   try go_split_ands
   go_simp
   try rfl
  case rest3 =>
  intro hcl3 hS3
  clear hcl2 hS2
  try simp only [Act.put, qsaq, qszq, qssq]
  refine wpAnyL_take (i := 3) (oi := ?oi4) (v := ?v4) ?hi4 (by kernel_rfl) (by kernel_rfl) (by kernel_rfl) (fun _ _ _ h => h) (alwaysC_take _) ?hy4 hcl3 hS3 ?rest4
  case hi4 =>
   simp only [qgaq, qgsq, qgzq]
   rfl
  case hy4 =>
   refine yields_alwaysC (Or.inl ⟨by rfl, fun w' hS => ?_⟩)
   try go_split_ands
   go_simp
   try rfl
  case rest4 =>
  intro hcl4 hS4
  clear hcl3 hS3
  try simp only [Act.put, qsaq, qszq, qssq]
  refine wpAnyL_take (i := 4) (oi := ?oi5) (v := ?v5) ?hi5 (by kernel_rfl) (by kernel_rfl) (by kernel_rfl) (fun _ _ _ h => h) (alwaysC_take _) ?hy5 hcl4 hS4 ?rest5
  case hi5 =>
   simp only [qgaq, qgsq, qgzq]
   rfl
  case hy5 =>
   refine yields_alwaysC (Or.inl ⟨by rfl, fun w' hS => ?_⟩)
   try go_split_ands
   go_simp
   try rfl
  case rest5 =>
  intro hcl5 hS5
  clear hcl4 hS4
  try simp only [Act.put, qsaq, qszq, qssq]
  refine wpAnyL_take (i := 5) (oi := ?oi6) (v := ?v6) ?hi6 (by kernel_rfl) (by kernel_rfl) (by kernel_rfl) (fun _ _ _ h => h) (alwaysC_take _) ?hy6 hcl5 hS5 ?rest6
  case hi6 =>
   simp only [qgaq, qgsq, qgzq]
   rfl
  case hy6 =>
   refine yields_alwaysC (Or.inl ⟨by rfl, fun w' hS => ?_⟩)
   try go_split_ands
   go_simp
   try rfl
  case rest6 =>
  intro hcl6 hS6
  clear hcl5 hS5
  try simp only [Act.put, qsaq, qszq, qssq]
  refine wpAnyL_take (i := 6) (oi := ?oi7) (v := ?v7) ?hi7 (by kernel_rfl) (by kernel_rfl) (by kernel_rfl) (fun _ _ _ h => h) (alwaysC_take _) ?hy7 hcl6 hS6 ?rest7
  case hi7 =>
   simp only [qgaq, qgsq, qgzq]
   rfl
  case hy7 =>
   refine yields_alwaysC (Or.inl ⟨by rfl, fun w' hS => ?_⟩)
   try go_split_ands
   go_simp
   try rfl
  case rest7 =>
  intro hcl7 hS7
  clear hcl6 hS6
  try simp only [Act.put, qsaq, qszq, qssq]
  refine wpAnyL_take (i := 7) (oi := ?oi8) (v := ?v8) ?hi8 (by kernel_rfl) (by kernel_rfl) (by kernel_rfl) (fun _ _ _ h => h) (alwaysC_take _) ?hy8 hcl7 hS7 ?rest8
  case hi8 =>
   simp only [qgaq, qgsq, qgzq]
   rfl
  case hy8 =>
   refine yields_alwaysC (Or.inl ⟨by rfl, fun w' hS => ?_⟩)
   try go_split_ands
   go_simp
   try rfl
  case rest8 =>
  intro hcl8 hS8
  clear hcl7 hS7
  try simp only [Act.put, qsaq, qszq, qssq]
  refine wpAnyL_take (i := 8) (oi := ?oi9) (v := ?v9) ?hi9 (by kernel_rfl) (by kernel_rfl) (by kernel_rfl) (fun _ _ _ h => h) (alwaysC_take _) ?hy9 hcl8 hS8 ?rest9
  case hi9 =>
   simp only [qgaq, qgsq, qgzq]
   rfl
  case hy9 =>
   refine yields_alwaysC (Or.inl ⟨by rfl, fun w' hS => ?_⟩)
   try go_split_ands
   go_simp
   try rfl
  case rest9 =>
  intro hcl9 hS9
  clear hcl8 hS8
  try simp only [Act.put, qsaq, qszq, qssq]
  refine wpAnyL_take (i := 9) (oi := ?oi10) (v := ?v10) ?hi10 (by kernel_rfl) (by kernel_rfl) (by kernel_rfl) (fun _ _ _ h => h) (alwaysC_take _) ?hy10 hcl9 hS9 ?rest10
  case hi10 =>
   simp only [qgaq, qgsq, qgzq]
   rfl
  case hy10 =>
   refine yields_alwaysC (Or.inl ⟨by rfl, fun w' hS => ?_⟩)
   try go_split_ands
   go_simp
   try rfl
  case rest10 =>
  intro hcl10 hS10
  clear hcl9 hS9
  try simp only [Act.put, qsaq, qszq, qssq]
  refine wpAnyL_done (by kernel_rfl) (NoPanic.normal ?_) _
  clear hl1
  go_wp2_with fail
  refine bodyPost_end (results_none Tryz.results100 _ _ _) rfl ?_
  exact ⟨rfl, w.drew, (Wr.refl [] w).drew, rfl, rfl⟩
 ·rw [numsOf_out hm] at hl1
  simp only [Option.getD_none, Option.isSome_none] at hl1
  have hout := qh (anewN_out hm)
  clear hm
  go_enter Tryz.func100, Tryz.ntmps100
  go_upto_region 0 with (fail)
  refine wp_region_noPanic ?_
  refine wp_region_L (AlwaysC fun w' => w'.cell? ⟨pn, 0, none⟩ = some (.map (some gn)) ∧ w'.cell? ⟨g, o, none⟩ = some (.int .i64 n) ∧ (Instr.lookup 189 (.map (some gn)) (.int .i64 n) true).run Tryz.prog w' = .ok (.tuple #[.int .i64 0, .bool false]) w') (by kernel_rfl) (fun hcl => ?_)
  have hS : AlwaysC (fun w' => w'.cell? ⟨pn, 0, none⟩ = some (.map (some gn)) ∧ w'.cell? ⟨g, o, none⟩ = some (.int .i64 n) ∧ (Instr.lookup 189 (.map (some gn)) (.int .i64 n) true).run Tryz.prog w' = .ok (.tuple #[.int .i64 0, .bool false]) w') (Array.replicate 10 false) w.drew := ⟨c0, c1, hl1⟩
  refine wpAnyL_take (i := 0) (oi := ?pi1) (v := ?pv1) ?phi1 (by kernel_rfl) (by kernel_rfl) (by kernel_rfl) (fun _ _ _ h => h) (alwaysC_take _) ?phy1 hcl hS ?prest1
  case phi1 =>
   simp only [qgaq, qgsq, qgzq]
   rfl
  case phy1 =>
   refine yields_alwaysC (Or.inl ⟨by rfl, fun w' hS => ?_⟩)
   try go_split_ands
   go_simp
   try rfl
  case prest1 =>
  intro hcl1 hS1
  clear hcl hS
  try simp only [Act.put, qsaq, qszq, qssq]
  refine wpAnyL_take (i := 1) (oi := ?pi2) (v := ?pv2) ?phi2 (by kernel_rfl) (by kernel_rfl) (by kernel_rfl) (fun _ _ _ h => h) (alwaysC_take _) ?phy2 hcl1 hS1 ?prest2
  case phi2 =>
   simp only [qgaq, qgsq, qgzq]
   rfl
  case phy2 =>
   refine yields_alwaysC (Or.inl ⟨by rfl, fun w' hS => ?_⟩)
   try go_split_ands
   go_simp
   try rfl
  case prest2 =>
  intro hcl2 hS2
  clear hcl1 hS1
  try simp only [Act.put, qsaq, qszq, qssq]
  refine wpAnyL_take (i := 2) (oi := ?pi3) (v := ?pv3) ?phi3 (by kernel_rfl) (by kernel_rfl) (by kernel_rfl) (fun _ _ _ h => h) (alwaysC_take _) ?phy3 hcl2 hS2 ?prest3
  case phi3 =>
   simp only [qgaq, qgsq, qgzq]
   rfl
  case phy3 =>
   refine yields_alwaysC (Or.inl ⟨by rfl, fun w' hS => ?_⟩)
   try go_split_ands
   go_simp
   try rfl
  case prest3 =>
  intro hcl3 hS3
  clear hcl2 hS2
  try simp only [Act.put, qsaq, qszq, qssq]
  refine wpAnyL_take (i := 3) (oi := ?pi4) (v := ?pv4) ?phi4 (by kernel_rfl) (by kernel_rfl) (by kernel_rfl) (fun _ _ _ h => h) (alwaysC_take _) ?phy4 hcl3 hS3 ?prest4
  case phi4 =>
   simp only [qgaq, qgsq, qgzq]
   rfl
  case phy4 =>
   refine yields_alwaysC (Or.inl ⟨by rfl, fun w' hS => ?_⟩)
   try go_split_ands
   go_simp
   try rfl
  case prest4 =>
  intro hcl4 hS4
  clear hcl3 hS3
  try simp only [Act.put, qsaq, qszq, qssq]
  refine wpAnyL_take (i := 4) (oi := ?pi5) (v := ?pv5) ?phi5 (by kernel_rfl) (by kernel_rfl) (by kernel_rfl) (fun _ _ _ h => h) (alwaysC_take _) ?phy5 hcl4 hS4 ?prest5
  case phi5 =>
   simp only [qgaq, qgsq, qgzq]
   rfl
  case phy5 =>
   refine yields_alwaysC (Or.inl ⟨by rfl, fun w' hS => ?_⟩)
   try go_split_ands
   go_simp
   try rfl
  case prest5 =>
  intro hcl5 hS5
  clear hcl4 hS4
  try simp only [Act.put, qsaq, qszq, qssq]
  refine wpAnyL_take (i := 5) (oi := ?pi6) (v := ?pv6) ?phi6 (by kernel_rfl) (by kernel_rfl) (by kernel_rfl) (fun _ _ _ h => h) (alwaysC_take _) ?phy6 hcl5 hS5 ?prest6
  case phi6 =>
   simp only [qgaq, qgsq, qgzq]
   rfl
  case phy6 =>
   refine yields_alwaysC (Or.inl ⟨by rfl, fun w' hS => ?_⟩)
   try go_split_ands
   go_simp
   try rfl
  case prest6 =>
  intro hcl6 hS6
  clear hcl5 hS5
  try simp only [Act.put, qsaq, qszq, qssq]
  refine wpAnyL_take (i := 6) (oi := ?pi7) (v := ?pv7) ?phi7 (by kernel_rfl) (by kernel_rfl) (by kernel_rfl) (fun _ _ _ h => h) (alwaysC_take _) ?phy7 hcl6 hS6 ?prest7
  case phi7 =>
   simp only [qgaq, qgsq, qgzq]
   rfl
  case phy7 =>
   refine yields_alwaysC (Or.inl ⟨by rfl, fun w' hS => ?_⟩)
   try go_split_ands
   go_simp
   try rfl
  case prest7 =>
  intro hcl7 hS7
  clear hcl6 hS6
  try simp only [Act.put, qsaq, qszq, qssq]
  refine wpAnyL_take (i := 7) (oi := ?pi8) (v := ?pv8) ?phi8 (by kernel_rfl) (by kernel_rfl) (by kernel_rfl) (fun _ _ _ h => h) (alwaysC_take _) ?phy8 hcl7 hS7 ?prest8
  case phi8 =>
   simp only [qgaq, qgsq, qgzq]
   rfl
  case phy8 =>
   refine yields_alwaysC (Or.inl ⟨by rfl, fun w' hS => ?_⟩)
   try go_split_ands
   go_simp
   try rfl
  case prest8 =>
  intro hcl8 hS8
  clear hcl7 hS7
  try simp only [Act.put, qsaq, qszq, qssq]
  refine wpAnyL_take (i := 8) (oi := ?pi9) (v := ?pv9) ?phi9 (by kernel_rfl) (by kernel_rfl) (by kernel_rfl) (fun _ _ _ h => h) (alwaysC_take _) ?phy9 hcl8 hS8 ?prest9
  case phi9 =>
   simp only [qgaq, qgsq, qgzq]
   rfl
  case phy9 =>
   refine yields_alwaysC (Or.inl ⟨by rfl, fun w' hS => ?_⟩)
   try go_split_ands
   go_simp
   try rfl
  case prest9 =>
  intro hcl9 hS9
  clear hcl8 hS8
  try simp only [Act.put, qsaq, qszq, qssq]
  refine wpAnyL_take (i := 9) (oi := ?pi10) (v := ?pv10) ?phi10 (by kernel_rfl) (by kernel_rfl) (by kernel_rfl) (fun _ _ _ h => h) (alwaysC_take _) ?phy10 hcl9 hS9 ?prest10
  case phi10 =>
   simp only [qgaq, qgsq, qgzq]
   rfl
  case phy10 =>
   refine yields_alwaysC (Or.inl ⟨by rfl, fun w' hS => ?_⟩)
   try go_split_ands
   go_simp
   try rfl
  case prest10 =>
  intro hcl10 hS10
  clear hcl9 hS9
  try simp only [Act.put, qsaq, qszq, qssq]
  refine wpAnyL_done (by kernel_rfl) (NoPanic.normal ?_) _
  clear hl1
  go_wp2_with fail
  refine bodyPost_end (results_none Tryz.results100 _ _ _) rfl ?_
  exact ⟨rfl, w.drew, (Wr.refl [] w).drew, rfl, by rw [hout.out]; exact (setCell_self (w := w.drew) c1).symm⟩
end Go.Proofs.YtildcdgobdfieaaGreat

namespace Go.Proofs.YtildcdgobdfieaaGreat
open Go.RowKit
def stage {α : Type} (g : α → α) (k : Nat) (l : List α) : List α := (l.take k).map g ++ l.drop k
section
variable {α : Type} {g : α → α} {k : Nat} {l : List α} {x : α}
theorem stage_zero : stage g 0 l = l := by simp [stage]
theorem stage_all : stage g l.length l = l.map g := by simp [stage]
theorem stage_len : (stage g k l).length = l.length := by
 unfold stage
 rw [List.length_append, List.length_map, List.length_take, List.length_drop]
 omega
theorem stage_at (h : l[k]? = some x) : (stage g k l)[k]? = some x := by
 have hk := (List.getElem?_eq_some_iff.1 h).1
 have hl : ((l.take k).map g).length = k := by rw [List.length_map, List.length_take]; omega
 unfold stage
 rw [List.getElem?_append_right (by omega), hl, Nat.sub_self, List.getElem?_drop, Nat.add_zero]
 exact h
theorem stage_set (h : l[k]? = some x) : (stage g k l).set k (g x) = stage g (k + 1) l := by
 have hk := (List.getElem?_eq_some_iff.1 h).1
 have e := (List.getElem?_eq_some_iff.1 h).2
 have hl : ((l.take k).map g).length = k := by rw [List.length_map, List.length_take]; omega
 unfold stage
 rw [List.set_append_right _ _ (by omega), hl, Nat.sub_self, List.drop_eq_getElem_cons hk, qszq, List.take_succ_eq_append_getElem hk, List.map_append, e]
 simp
end
theorem flat_set {α : Type} {g : α → List Value} {size : Nat} (hg : ∀ x, (g x).length = size) : ∀ (l : List α) (k j : Nat) (x y : α) (u : Value), l[k]? = some x → j < size → (g x).set j u = g y → (l.flatMap g).set (k * size + j) u = (l.set k y).flatMap g
 | [], k, j, x, y, u, h, _, _ => by simp at h
 | z :: l, 0, j, x, y, u, h, hj, e => by
  simp only [qgzq, Option.some.injEq] at h
  subst h
  rw [List.flatMap_cons, Nat.zero_mul, Nat.zero_add, List.set_append_left _ _ (by rw [hg]; exact hj), e, qszq, List.flatMap_cons]
 | z :: l, k + 1, j, x, y, u, h, hj, e => by
  rw [qgsq] at h
  rw [List.flatMap_cons, List.set_append_right _ _ (by rw [hg, Nat.succ_mul]; omega), hg, show (k + 1) * size + j - size = k * size + j by rw [Nat.succ_mul]; omega, flat_set hg l k j x y u h hj e, qssq, List.flatMap_cons]
def anewF (ord : List Int) (x : Fld) : Fld := { x with type := anewN ord x.type }
def anewP (ord : List Int) (x : Par) : Par := { x with type := anewN ord x.type }
def gV (xs : List Value) (j : Nat) : Value := (xs[j]?).getD undef
theorem gV_eq {xs : List Value} {j : Nat} {u : Value} (h : xs[j]? = some u) : gV xs j = u := by
 unfold gV
 rw [h]
 rfl
def tyK (ord : List Int) (k i : Nat) (t : Ty) : Ty := if (10 + (i : Int)) ∈ ord.take k then anewT ord t else t
def TyV (w : World) (S : Nat) (lab : Nat → Nat × Nat) (xs : List Value) (i : Nat) (t : Ty) : Prop := TyO w S lab i (gV xs (i * 12 + 7)) (gV xs (i * 12 + 8)) (gV xs (i * 12 + 9)) (gV xs (i * 12 + 10)) t
def cellsV (xs : List Value) (i : Nat) (t : Ty) : List Value := t.cells (gV xs (i * 12 + 7)) (gV xs (i * 12 + 8)) (gV xs (i * 12 + 9)) (gV xs (i * 12 + 10))
def TysD (w : World) (S : Nat) (lab : Nat → Nat × Nat) (xs : List Value) (ts : List Ty) (ord : List Int) (k : Nat) : Prop := ∀ i t, ts[i]? = some t → TyV w S lab xs i (tyK ord k i t)
def NewTys (xs xs' : List Value) (ts : List Ty) (ord : List Int) (k : Nat) : Prop := ∀ j n, j < k → ord[j]? = some n → ∃ t, ts[(n - 10).toNat]? = some t ∧ ∀ jj u, (cellsV xs (n - 10).toNat (anewT ord t))[jj]? = some u → xs'[j * 12 + jj]? = some u
theorem tysTo_cells {w : World} {S k : Nat} {lab : Nat → Nat × Nat} {xs : List Value} {l : List Ty} (h : TysTo w S lab xs l k) {i : Nat} {t : Ty} (hi : i < k) (ht : l[i]? = some t) : (∀ j u, (cellsV xs i t)[j]? = some u → xs[i * 12 + j]? = some u) ∧ TyV w S lab xs i t := by
 obtain ⟨vn, vf, va, vp, e, o⟩ := h i t hi ht
 have e7 := gV_eq (e 7 vn rfl)
 have e8 := gV_eq (e 8 vf rfl)
 have e9 := gV_eq (e 9 va rfl)
 have e10 := gV_eq (e 10 vp rfl)
 unfold cellsV TyV
 rw [e7, e8, e9, e10]
 exact ⟨e, o⟩
theorem TyO.same {w : World} {S i : Nat} {lab : Nat → Nat × Nat} {vn vf va vp : Value} {t t' : Ty} (h : TyO w S lab i vn vf va vp t) (h1 : t'.names = t.names) (h2 : t'.fields = t.fields) (h3 : t'.arms = t.arms) (h4 : t'.params = t.params) : TyO w S lab i vn vf va vp t' := by
 obtain ⟨a, b, c, d⟩ := h
 exact ⟨by rw [h1]; exact a, by rw [h2]; exact b, by rw [h3]; exact c, by rw [h4]; exact d⟩
theorem TyO.setField {w wd w' : World} {S i g k : Nat} {lab : Nat → Nat × Nat} {vn vf va vp : Value} {t : Ty} {x : Fld} {v : Int} (h : TyO w S lab i vn vf va vp t) (hx : t.fields[k]? = some x) (hg : vf.ownBlock = some g) (r : Wr [] w wd) (hh : wd.heap = w.heap) (e : w' = wd.setCell ⟨g, k * 3 + 1, none⟩ (.int .i64 v)) :
  TyO w' S lab i vn vf va vp { t with fields := t.fields.set k { x with type := v } } := by
 have r1 := wr_set r e
 have hlg := h.fields.2 g hg
 have hb : ∀ c b, Lb S lab i c b → c ≠ 1 → b ∉ [g] := fun c b hb hc hm => by
  rw [List.mem_singleton] at hm
  subst hm
  rw [hb.2] at hlg
  exact hc (congrArg Prod.snd hlg)
 refine ⟨Sl.keep h.names r1 (fun b hb' => hb 0 b hb' (by decide)), ⟨?_, h.fields.2⟩, ?_, h.params.keep r1 (fun x hx hs el => ?_)⟩
 ·have := row_set h.fields.1 hg hh e
  rw [flat_set (g := Fld.cells) (size := 3) (fun _ => rfl) t.fields k 1 x { x with type := v } (.int .i64 v) hx (by decide) rfl] at this
  rw [List.length_set]
  exact this
 ·obtain ⟨xs, h1, h2, h3⟩ := h.arms
  exact ⟨xs, h1.keep r1 (fun x hx hs el => by rw [List.mem_singleton] at hx; subst hx; rw [hlg] at el; simp at el), h2, fun j y hy => (h3 j y hy).keep r1 (fun x hx hs el => by rw [List.mem_singleton] at hx; subst hx; rw [hlg] at el; simp at el)⟩
 ·rw [List.mem_singleton] at hx
  subst hx
  rw [hlg] at el
  simp at el
theorem TyO.setParam {w wd w' : World} {S i g k : Nat} {lab : Nat → Nat × Nat} {vn vf va vp : Value} {t : Ty} {x : Par} {v : Int} (h : TyO w S lab i vn vf va vp t) (hx : t.params[k]? = some x) (hg : vp.ownBlock = some g) (r : Wr [] w wd) (hh : wd.heap = w.heap) (e : w' = wd.setCell ⟨g, k * 2 + 1, none⟩ (.int .i64 v)) :
  TyO w' S lab i vn vf va vp { t with params := t.params.set k { x with type := v } } := by
 have r1 := wr_set r e
 have hlg := h.params.2 g hg
 have hb : ∀ c b, Lb S lab i c b → c ≠ 3 → b ∉ [g] := fun c b hb hc hm => by
  rw [List.mem_singleton] at hm
  subst hm
  rw [hb.2] at hlg
  exact hc (congrArg Prod.snd hlg)
 refine ⟨Sl.keep h.names r1 (fun b hb' => hb 0 b hb' (by decide)), h.fields.keep r1 (fun x hx hs el => ?_), ?_, ⟨?_, h.params.2⟩⟩
 ·rw [List.mem_singleton] at hx
  subst hx
  rw [hlg] at el
  simp at el
 ·obtain ⟨xs, h1, h2, h3⟩ := h.arms
  exact ⟨xs, h1.keep r1 (fun x hx hs el => by rw [List.mem_singleton] at hx; subst hx; rw [hlg] at el; simp at el), h2, fun j y hy => (h3 j y hy).keep r1 (fun x hx hs el => by rw [List.mem_singleton] at hx; subst hx; rw [hlg] at el; simp at el)⟩
 ·have := row_set h.params.1 hg hh e
  rw [flat_set (g := Par.cells) (size := 2) (fun _ => rfl) t.params k 1 x { x with type := v } (.int .i64 v) hx (by decide) rfl] at this
  rw [List.length_set]
  exact this
structure CP where
 w00 : World
 f : FaceD
 ord : List Int
 pi : Nat
 pn : Nat
 gn : Nat
 b0 : Nat
 S : Nat
 B : Nat
 NB : Nat
 vu : Value
 vt : Value
 vi : Value
 vo : Value
 xs : List Value
 lab : Nat → Nat × Nat
structure CP.ok (c : CP) : Prop where
 p1 : c.w00.heap.size ≤ c.pi
 p2 : c.pi + 1 < c.b0
 p3 : c.b0 ≤ c.S
 p4 : c.S ≤ c.B
 p5 : c.B ≤ c.NB
 n1 : c.B ≤ c.pn
 n2 : c.pn < c.NB
 g1 : c.B ≤ c.gn
 g2 : c.gn < c.NB
 ng : c.pn ≠ c.gn
 o1 : ∀ b, c.vo.ownBlock = some b → c.B ≤ b ∧ b < c.NB
 u1 : ∀ b, c.vu.ownBlock = some b → b < c.S ∧ c.vt.ownBlock ≠ some b ∧ c.vi.ownBlock ≠ some b
 t1 : ∀ b, c.vt.ownBlock = some b → b < c.S ∧ c.vi.ownBlock ≠ some b
 i1 : ∀ b, c.vi.ownBlock = some b → b < c.S
 lb : ∀ b, c.B ≤ b → c.f.types.length ≤ (c.lab b).1
 nd : c.ord.Nodup
 sb : ∀ x ∈ c.ord, x ∈ nums c.f.types.length ∧ 10 ≤ x
 cl : ∀ i t, c.f.types[i]? = some t → ∀ j u, (cellsV c.xs i t)[j]? = some u → c.xs[i * 12 + j]? = some u
structure Core (c : CP) (k : Nat) (vt' : Value) (xs' : List Value) (its : List ItmD) (w : World) : Prop where
 acc : Wr [] c.w00 w
 bi : Blk w c.pi 55 #[.string c.f.module, c.vu, vt', c.vi]
 br : Blk w (c.pi + 1) 55 #[.string ⟨#[]⟩, .slice none 0 0, .slice none 0 0, .slice none 0 0]
 bn : Blk w c.pn 189 #[.map (some c.gn)]
 mn : MapI w c.gn (numsOf c.ord)
 od : w.ownsRow c.B 3 1 c.vo c.ord.length (c.ord.map (Value.int .i64))
 tr : w.ownsRow c.b0 129 12 c.vt c.f.types.length c.xs
 ur : w.ownsRow c.b0 72 2 c.vu c.f.uses.length (c.f.uses.flatMap UseD.cellsF)
 ir : w.ownsRow c.b0 136 5 c.vi its.length (its.flatMap ItmD.cells)
 nr : w.ownsRow c.NB 129 12 vt' k xs'
 nt : NewTys c.xs xs' c.f.types c.ord k
 one : ∀ u ∈ xs', u.oneCell' = true
 nb : c.NB ≤ w.heap.size
section
variable {c : CP} {k : Nat} {vt' : Value} {xs' : List Value} {its : List ItmD} {w w' wd : World} {ls : List Nat}
theorem Core.keep (hc : c.ok) (h : Core c k vt' xs' its w) (r : Wr ls w w') (hl : ∀ x ∈ ls, c.w00.heap.size ≤ x ∧ ((c.S ≤ x ∧ x < c.B) ∨ (c.NB ≤ x ∧ vt'.ownBlock ≠ some x))) : Core c k vt' xs' its w' := by
 have low : ∀ b, b < c.S → b ∉ ls := fun b hb hm => by have := (hl b hm).2; have := hc.p4; have := hc.p5; omega
 have mid : ∀ b, c.B ≤ b → b < c.NB → b ∉ ls := fun b h1 h2 hm => by have := (hl b hm).2; omega
 have hpi : c.pi ∉ ls := low _ (by have := hc.p2; have := hc.p3; omega)
 have hpi1 : c.pi + 1 ∉ ls := low _ (by have := hc.p2; have := hc.p3; omega)
 refine ⟨h.acc.trans' r (fun x hx => .inr (hl x hx).1), h.bi.wr r hpi, h.br.wr r hpi1, h.bn.wr r (mid _ hc.n1 hc.n2), h.mn.wr r (mid _ hc.g1 hc.g2), own_keep h.od r (fun g hg => mid g (hc.o1 g hg).1 (hc.o1 g hg).2), own_keep h.tr r (fun g hg => low g (hc.t1 g hg).1), own_keep h.ur r (fun g hg => low g (hc.u1 g hg).1), own_keep h.ir r (fun g hg => low g (hc.i1 g hg)), own_keep h.nr r (fun g hg hm => ?_), h.nt, h.one, Nat.le_trans h.nb r.size⟩
 rcases (hl g hm).2 with h1 | h1
 ·have := (h.nr.lt g hg).1
  have := hc.p5
  omega
 ·exact h1.2 hg
theorem Core.wr0 (hc : c.ok) (h : Core c k vt' xs' its w) (r : Wr [] w w') : Core c k vt' xs' its w' := h.keep hc r (fun x hx => by cases hx)
theorem Core.keepNew {z : Nat} (hc : c.ok) (h : Core c k vt' xs' its w) (r : Wr [z] w w') (hz : c.NB ≤ z) (hv : vt'.ownBlock ≠ some z) : Core c k vt' xs' its w' :=
 h.keep hc r (fun x hx => by rw [List.mem_singleton] at hx; subst hx; exact ⟨by have := hc.p1; have := hc.p2; have := hc.p3; have := hc.p4; have := hc.p5; omega, .inr ⟨hz, hv⟩⟩)
theorem Core.keepMid {g : Nat} (hc : c.ok) (h : Core c k vt' xs' its w) (r : Wr [g] w w') (h1 : c.S ≤ g) (h2 : g < c.B) : Core c k vt' xs' its w' :=
 h.keep hc r (fun x hx => by rw [List.mem_singleton] at hx; subst hx; exact ⟨by have := hc.p1; have := hc.p2; have := hc.p3; omega, .inl ⟨h1, h2⟩⟩)
theorem TyV.keep {S i : Nat} {lab : Nat → Nat × Nat} {xs : List Value} {t : Ty} (h : TyV w S lab xs i t) (r : Wr ls w w') (hl : ∀ x ∈ ls, S ≤ x → (lab x).1 ≠ i) : TyV w' S lab xs i t := TyO.keep h r hl
theorem TysD.keep {S : Nat} {lab : Nat → Nat × Nat} {xs : List Value} {ts : List Ty} {ord : List Int} (h : TysD w S lab xs ts ord k) (r : Wr ls w w') (hl : ∀ x ∈ ls, S ≤ x → ts.length ≤ (lab x).1) : TysD w' S lab xs ts ord k := fun i t ht =>
 (h i t ht).keep r (fun x hx hs e => by have := hl x hx hs; have := (List.getElem?_eq_some_iff.1 ht).1; omega)
def TysB (w : World) (S : Nat) (lab : Nat → Nat × Nat) (xs : List Value) (ts : List Ty) (ord : List Int) (k i0 : Nat) : Prop := ∀ i t, i ≠ i0 → ts[i]? = some t → TyV w S lab xs i (tyK ord k i t)
theorem TysB.keep {S i0 : Nat} {lab : Nat → Nat × Nat} {xs : List Value} {ts : List Ty} {ord : List Int} (h : TysB w S lab xs ts ord k i0) (r : Wr ls w w') (hl : ∀ x ∈ ls, S ≤ x → ts.length ≤ (lab x).1 ∨ (lab x).1 = i0) : TysB w' S lab xs ts ord k i0 := fun i t hi ht =>
 (h i t hi ht).keep r (fun x hx hs e => by have := hl x hx hs; have := (List.getElem?_eq_some_iff.1 ht).1; omega)
theorem TysB.all {S i0 : Nat} {lab : Nat → Nat × Nat} {xs : List Value} {ts : List Ty} {ord : List Int} (hn : ord.Nodup) {n : Int} {t : Ty} (h : TysB w S lab xs ts ord k i0) (hk : ord[k]? = some n) (h0 : 10 + (i0 : Int) = n) (ht : ts[i0]? = some t) (hv : TyV w S lab xs i0 (anewT ord t)) : TysD w S lab xs ts ord (k + 1) := fun i t' ht' => by
 have hkl := (List.getElem?_eq_some_iff.1 hk).1
 have e : ord.take (k + 1) = ord.take k ++ [n] := by rw [List.take_succ_eq_append_getElem hkl, (List.getElem?_eq_some_iff.1 hk).2]
 by_cases hi : i = i0
 ·subst hi
  rw [ht] at ht'
  injection ht' with ht'
  subst ht'
  unfold tyK
  rw [if_pos (by rw [e, h0]; simp)]
  exact hv
 ·have := h i t' hi ht'
  unfold tyK at this ⊢
  have hne : (10 + (i : Int)) ≠ n := by omega
  by_cases hm : (10 + (i : Int)) ∈ ord.take k
  ·rw [if_pos hm] at this
   rw [if_pos (by rw [e]; exact List.mem_append_left _ hm)]
   exact this
  ·rw [if_neg hm] at this
   rw [if_neg (by rw [e]; simp [hm, hne])]
   exact this
theorem TysD.but {S i0 : Nat} {lab : Nat → Nat × Nat} {xs : List Value} {ts : List Ty} {ord : List Int} (h : TysD w S lab xs ts ord k) : TysB w S lab xs ts ord k i0 := fun i t _ ht => h i t ht
theorem not_taken {ord : List Int} (hn : ord.Nodup) {n : Int} (hk : ord[k]? = some n) : n ∉ ord.take k := fun hm => by
 obtain ⟨j, hj⟩ := List.getElem?_of_mem hm
 have hjl := (List.getElem?_eq_some_iff.1 hj).1
 rw [List.length_take] at hjl
 rw [List.getElem?_take_of_lt (by omega)] at hj
 have := nodup_idx hn hj hk
 omega
theorem NewTys.next {xs ys : List Value} {ts : List Ty} {ord : List Int} {n : Int} {t : Ty} (h : NewTys xs xs' ts ord k) (hl : xs'.length = k * 12) (hk : ord[k]? = some n) (ht : ts[(n - 10).toNat]? = some t) (hy : ys = cellsV xs (n - 10).toNat (anewT ord t)) : NewTys xs (xs' ++ ys) ts ord (k + 1) := fun j m hj hm => by
 have h12 : ys.length = 12 := by rw [hy]; rfl
 rcases Nat.lt_or_ge j k with hjk | hjk
 ·obtain ⟨t', ht', hc⟩ := h j m hjk hm
  refine ⟨t', ht', fun jj u hu => ?_⟩
  have hj12 : jj < 12 := (List.getElem?_eq_some_iff.1 hu).1
  rw [List.getElem?_append_left (by omega)]
  exact hc jj u hu
 ·obtain rfl : j = k := by omega
  rw [hk] at hm
  injection hm with hm
  subst hm
  refine ⟨t, ht, fun jj u hu => ?_⟩
  rw [List.getElem?_append_right (by omega), hl, Nat.add_sub_cancel_left, hy]
  exact hu
end
theorem Core.setItem {c : CP} {k j J gi : Nat} {vt' u : Value} {xs' : List Value} {its : List ItmD} {x y : ItmD} {w wd w' : World} (hc : c.ok) (h : Core c k vt' xs' its w) (hx : its[j]? = some x) (hJ : J < 5) (hy : x.cells.set J u = y.cells) (hg : c.vi.ownBlock = some gi) (r : Wr [] w wd) (hh : wd.heap = w.heap) (e : w' = wd.setCell ⟨gi, j * 5 + J, none⟩ u) : Core c k vt' xs' (its.set j y) w' := by
 have r1 := wr_set r e
 have hgi := hc.i1 gi hg
 have hgb := (h.ir.lt gi hg).1
 have off : ∀ b, b ≠ gi → b ∉ [gi] := fun b hb hm => hb (List.mem_singleton.1 hm)
 have h2 := hc.p2
 have h3 := hc.p3
 have h4 := hc.p4
 have h5 := hc.p5
 have h6 := hc.n1
 have h7 := hc.g1
 refine ⟨h.acc.trans' r1 (fun x hx => .inr ?_), h.bi.wr r1 (off _ (by omega)), h.br.wr r1 (off _ (by omega)), h.bn.wr r1 (off _ (by omega)), h.mn.wr r1 (off _ (by omega)), own_keep h.od r1 (fun g hg' => off _ (by have := (hc.o1 g hg').1; omega)), own_keep h.tr r1 (fun g hg' => off _ (fun e => (hc.t1 g hg').2 (by rw [e]; exact hg))), own_keep h.ur r1 (fun g hg' => off _ (fun e => (hc.u1 g hg').2.2 (by rw [e]; exact hg))), ?_, own_keep h.nr r1 (fun g hg' => off _ (by have := (h.nr.lt g hg').1; omega)), h.nt, h.one, Nat.le_trans h.nb r1.size⟩
 ·rw [List.mem_singleton] at hx
  subst hx
  have := hc.p1
  omega
 ·have := row_set h.ir hg hh e
  rw [flat_set (g := ItmD.cells) (size := 5) itm_len its j J x y u hx hJ hy] at this
  rw [List.length_set]
  exact this
theorem Core.fin {c : CP} {vt' : Value} {xs' : List Value} {w : World} (hc : c.ok) (hord : c.ord = ordOf c.f) (h : Core c c.ord.length vt' xs' (c.f.items.map (anewI c.ord)) w) (ht : TysD w c.S c.lab c.xs c.f.types c.ord c.ord.length) : FaceL w (fun b => c.b0 ≤ b) c.vu vt' c.vi (canonF c.f) := by
 refine ⟨Sl.ofOwn h.ur (fun b hbk => (h.ur.lt b hbk).1), ⟨xs', ?_, h.one, fun i t' hi => ?_⟩, ?_⟩
 ·have := Sl.ofOwn h.nr (P := fun b => c.b0 ≤ b) (fun b hbk => by have := (h.nr.lt b hbk).1; have := hc.p3; have := hc.p4; have := hc.p5; omega)
  unfold canonF
  rw [List.length_map, ← hord]
  exact this
 ·unfold canonF at hi
  rw [← hord, List.getElem?_map] at hi
  cases hn : c.ord[i]? with
  | none => rw [hn] at hi; cases hi
  | some n =>
   rw [hn] at hi
   obtain ⟨t, htt, hcell⟩ := h.nt i n (List.getElem?_eq_some_iff.1 hn).1 hn
   simp only [Option.map_some, Option.some.injEq, htt, Option.getD_some] at hi
   subst hi
   refine ⟨_, _, _, _, hcell, ?_⟩
   have := ht _ t htt
   unfold tyK at this
   have hm := List.mem_of_getElem? hn
   have h10 := (hc.sb n hm).2
   rw [List.take_length, if_pos (by rw [show 10 + (((n - 10).toNat : Nat) : Int) = n by omega]; exact hm)] at this
   exact (TyO.lists this).into (fun b hb' _ => by have := hc.p3; omega)
 ·have := Sl.ofOwn h.ir (P := fun b => c.b0 ≤ b) (fun b hbk => (h.ir.lt b hbk).1)
  show SlItms w _ c.vi (c.f.items.map (anewI (ordOf c.f)))
  rw [← hord]
  exact this
theorem anewV_other {ord : List Int} {v : AnyD} (h : (v.sort == 6) = false) : anewV ord v = v := by cases v <;> first | rfl | cases h
theorem anyItem {v : AnyD} (h : (v.sort == 6) = true) : v = .item v.itemT v.itemN := by cases v <;> first | rfl | cases h
def cpA (w : World) (f : FaceD) (g k b0 S NB : Nat) (vu vt vi vo : Value) (xs : List Value) (lab : Nat → Nat × Nat) : CP :=
 ⟨w, f, ordOf f, g, k + 1 + 1, k, b0, S, k, NB, vu, vt, vi, vo, xs, fun b => if b < k then lab b else (f.types.length, 0)⟩
def L2 (c : CP) (j : Nat) (w : World) : Prop := ∃ vt' xs', Core c j vt' xs' c.f.items w ∧ TysD w c.S c.lab c.xs c.f.types c.ord j
def L5 (c : CP) (j : Nat) (w : World) : Prop := ∃ vt' xs', Core c c.ord.length vt' xs' (stage (anewI c.ord) j c.f.items) w ∧ TysD w c.S c.lab c.xs c.f.types c.ord c.ord.length
def L3 (c : CP) (j i z : Nat) (t : Ty) (cs : Array Value) (vt' : Value) (xs' : List Value) (w : World) : Prop :=
 Core c j vt' xs' c.f.items w ∧ TysB w c.S c.lab c.xs c.f.types c.ord j i ∧ TyV w c.S c.lab c.xs i t ∧ Blk w z 129 cs ∧ c.NB ≤ z ∧ vt'.ownBlock ≠ some z
end Go.Proofs.YtildcdgobdfieaaGreat
