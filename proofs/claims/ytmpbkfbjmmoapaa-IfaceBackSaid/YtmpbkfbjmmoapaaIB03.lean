/- iface's short of one text, once of nobody: walked. Conditions: the text is short. -/
import Derived.Test.YtmpbkfbjmmoapaaIB01
import Derived.Laws.IdiomStrings
import Derived.Deep.Cut
import Derived.Deep.DeepCutAuto
import Derived.LoopN
import Derived.Test.YtmpbkfbjmmoapaaIB02
import Derived.OrdersHeld
import Derived.Tactics
import Derived.Deep.DrawnRows
import Derived.Laws.EntriesVeiled
namespace Go.Proofs.Ytmpbkfbjmmoapaa
open Go.RowKit
set_option linter.unusedVariables false
set_option linter.unusedSimpArgs false
end Go.Proofs.Ytmpbkfbjmmoapaa

/- iface's May, of an interface without lists: walked. Conditions: its name is short. -/
namespace Go.Proofs.Ytmpbkfbjmmoapaa
open Go.RowKit
set_option linter.unusedVariables false
set_option linter.unusedSimpArgs false
end Go.Proofs.Ytmpbkfbjmmoapaa

/- A region that draws its order, whose last store hits a cell that it loads: the loads may be taken first, under a condition on the world that is owed until that store alone. No conditions. -/
namespace Go.Proofs.Ytmpbkfbjmmoapaa
open Go
section
variable {P : Program} {ops : Array Oper} {Q : Exit → Act → World → Prop} {md : Region.Mode} {S : Array Bool → World → Prop}
/-- What is listed, all that it waits for is listed too. -/
def ClosedL (md : Region.Mode) (ops : Array Oper) (listed : Array Bool) : Prop :=
  ∀ j oj, ops[j]? = some oj → listed.getD j false = true → ∀ e ∈ oj.after, Region.binds md e = true → listed.getD e.on false = true
theorem ClosedL.set {listed : Array Bool} (h : ClosedL md ops listed) {i : Nat} (hi : i ∈ Region.ready md ops listed) : ClosedL md ops (listed.setIfInBounds i true) := by
  obtain ⟨_, oi, hoi, hall⟩ := mem_ready.1 hi
  intro j oj hj hl e he hb
  by_cases hij : i = j
  · subst hij
    have : oj = oi := Option.some.inj (hj.symm.trans hoi)
    subst this
    exact getD_set_true (hall e he hb)
  · rw [getD_set_ne false hij] at hl
    exact getD_set_true (h j oj hj hl e he hb)
theorem ClosedL.start (n : Nat) : ClosedL md ops (Array.replicate n false) := by
  intro j oj _ hl
  have : (Array.replicate n false).getD j false = false := by
    rcases Nat.lt_or_ge j n with h | h
    · simp [h]
    · simp [h]
  rw [this] at hl
  cases hl
/-- In this state, as long as it is not listed, it yields v in every world that meets S. -/
def YieldsL (P : Program) (md : Region.Mode) (ops : Array Oper) (S : Array Bool → World → Prop) (i : Nat) (o : Oper) (v : Value) (a : Act) : Prop :=
  (Region.wanted o (yielded ops a.tmps) = true ∧ ∀ l w, ClosedL md ops l → l.getD i true = false → S l w → (execOp a.eval o).run P w = .ok (.value v) w) ∨
  (Region.wanted o (yielded ops a.tmps) = false ∧ v = undef)
/-- Whatever order is picked from here on, and S holds behind every operation. -/
def wpAnyL (P : Program) (md : Region.Mode) (ops : Array Oper) (Q : Exit → Act → World → Prop) (S : Array Bool → World → Prop) : Nat → Array Bool → Act → World → Prop
  | 0, listed, a, w => Region.ready md ops listed = [] ∧ Q .normal a w
  | fuel + 1, listed, a, w =>
    (Region.ready md ops listed = [] → Q .normal a w) ∧
    ∀ i ∈ Region.ready md ops listed, wpOp P ops Q i (fun a' w' => S (listed.setIfInBounds i true) w' ∧ wpAnyL P md ops Q S fuel (listed.setIfInBounds i true) a' w') a w
theorem wpAny_of_L : ∀ (fuel : Nat) (listed : Array Bool) (a : Act) (w : World), wpAnyL P md ops Q S fuel listed a w → wpAny P md ops Q fuel listed a w
  | 0, _, _, _, h => h
  | fuel + 1, _, _, _, h => ⟨h.1, fun i hi => wpOp_mono (fun a' w' h' => wpAny_of_L fuel _ a' w' h'.2) (h.2 i hi)⟩
theorem wpAnyL_first {i : Nat} {oi : Oper} {v : Value} (hi : ops[i]? = some oi) (hsel : ∀ (j : Nat) (o : Oper) cs b, ops[j]? = some o → o.op ≠ .select cs b)
    (hQ : ∀ c a w, Q (.panic c) (a.put oi.dst v) w → Q (.panic c) a w)
    (hSi : ∀ l w, S (l.setIfInBounds i true) w ↔ S l w) :
    ∀ (fuel : Nat) (listed : Array Bool) (a : Act) (w : World),
      (∀ j oj, ops[j]? = some oj → j ≠ i → listed.getD j true = false → (∀ e ∈ oj.after, Region.binds md e = true → e.on ≠ i) → oi.apart ops oj = true) →
      i ∈ Region.ready md ops listed → YieldsL P md ops S i oi v a → ClosedL md ops listed → S listed w →
      wpAnyL P md ops Q S fuel (listed.setIfInBounds i true) (a.put oi.dst v) w → wpAnyL P md ops Q S (fuel + 1) listed a w := by
  -- what it yields now, in this world and with these listed
  have now : ∀ {listed : Array Bool} {a : Act} {w : World}, i ∈ Region.ready md ops listed → YieldsL P md ops S i oi v a → ClosedL md ops listed → S listed w →
      ∀ {K : Act → World → Prop}, K (a.put oi.dst v) w → wpOp P ops Q i K a w := by
    intro listed a w hr hy hc hS K h
    have hun := (mem_ready.1 hr).1
    unfold Go.wpOp
    simp only [hi]
    rcases hy with ⟨hw, hv⟩ | ⟨hw, rfl⟩
    · simp only [hw, if_true, Oper.wp, hv listed w hc hun hS, Oper.upon]; exact .inl h
    · simp only [hw, Bool.false_eq_true, if_false]; exact h
  intro fuel
  induction fuel with
  | zero =>
    intro listed a w _ hr hy hc hS H
    refine ⟨fun h => (by rw [h] at hr; cases hr), fun j hj => ?_⟩
    by_cases hji : j = i
    · subst hji; exact now hj hy hc hS ⟨(hSi listed w).2 hS, H⟩
    · have := ready_mono hj hji
      rw [H.1] at this
      cases this
  | succ fuel ih =>
    intro listed a w hfree hr hy hc hS H
    refine ⟨fun h => (by rw [h] at hr; cases hr), fun j hj => ?_⟩
    by_cases hji : j = i
    · subst hji; exact now hj hy hc hS ⟨(hSi listed w).2 hS, H⟩
    · have h1 := H.2 j (ready_mono hj hji)
      obtain ⟨hjun, oj, hoj, hall⟩ := mem_ready.1 hj
      have hnot : ∀ e ∈ oj.after, Region.binds md e = true → e.on ≠ i := fun e he hb heq => by
        have h1 := hall e he hb
        have h0 := (mem_ready.1 hr).1
        rw [heq] at h1
        rcases Nat.lt_or_ge i listed.size with h' | h'
        · simp [h'] at h0 h1; rw [h0] at h1; cases h1
        · simp [Array.getElem?_eq_none h'] at h1
      -- the frame apart: by the elder law, under a condition that says nothing of the world
      have hap := hfree j oj hoj hji hjun hnot
      obtain ⟨p1, p2, p3⟩ := Oper.apart_spec hap
      have hsi := fun cs b => hsel i oi cs b hi
      have hsj := fun cs b => hsel j oj cs b hoj
      have hy0 : YieldsIf P ops (fun w => ∃ l, ClosedL md ops l ∧ l.getD i true = false ∧ S l w) oi v a := hy.imp (fun ⟨hw, hv⟩ => ⟨hw, fun w ⟨l, c1, c2, c3⟩ => hv l w c1 c2 c3⟩) id
      have h2 := wpOp_putIf hoj hap hsi hsj hQ hy0 h1
      have hfree' : ∀ k ok, ops[k]? = some ok → k ≠ i → (listed.setIfInBounds j true).getD k true = false →
          (∀ e ∈ ok.after, Region.binds md e = true → e.on ≠ i) → oi.apart ops ok = true := fun k ok hk hki hun hno => by
        refine hfree k ok hk hki ?_ hno
        by_cases hjk : j = k
        · subst hjk; exact hjun
        · rw [getD_set_ne true hjk] at hun; exact hun
      refine wpOp_mono (fun a' w' h3 => ?_) h2
      have hcomm : (listed.setIfInBounds i true).setIfInBounds j true = (listed.setIfInBounds j true).setIfInBounds i true := Array.setIfInBounds_comm _ _ (fun e => hji e.symm)
      have h32 := h3.2.1
      have h33 := h3.2.2
      rw [hcomm] at h32 h33
      have hS' := (hSi _ w').1 h32
      have hy' : YieldsL P md ops S i oi v a' := h3.1.imp (fun ⟨hw, hv⟩ => ⟨hw, fun l w c1 c2 c3 => hv w ⟨l, c1, c2, c3⟩⟩) id
      exact ⟨hS', ih (listed.setIfInBounds j true) a' w' hfree' (ready_mono hr (fun e => hji e.symm)) hy' (hc.set hj) hS' h33⟩
/-- Take number i first. -/
theorem wpAnyL_take {i : Nat} {oi : Oper} {v : Value} {fuel : Nat} {listed : Array Bool} {a : Act} {w : World} (hi : ops[i]? = some oi)
    (hs : Region.noSelect ops = true) (hf : Region.free md ops listed i = true) (hr : (Region.ready md ops listed).contains i = true)
    (hQ : ∀ c a w, Q (.panic c) (a.put oi.dst v) w → Q (.panic c) a w) (hSi : ∀ l w, S (l.setIfInBounds i true) w ↔ S l w) (hy : YieldsL P md ops S i oi v a) (hc : ClosedL md ops listed) (hS : S listed w)
    (h : ClosedL md ops (listed.setIfInBounds i true) → S (listed.setIfInBounds i true) w → wpAnyL P md ops Q S fuel (listed.setIfInBounds i true) (a.put oi.dst v) w) : wpAnyL P md ops Q S (fuel + 1) listed a w :=
  wpAnyL_first hi (Region.noSelect_spec hs) hQ hSi fuel listed a w (Region.free_spec hi hf) (by simpa using hr) hy hc hS (h (hc.set (by simpa using hr)) ((hSi _ _).2 hS))
/-- The one that may come up comes up. -/
theorem wpAnyL_one {i : Nat} {fuel : Nat} {listed : Array Bool} {a : Act} {w : World} (hr : Region.ready md ops listed = [i]) (hc : ClosedL md ops listed)
    (h : wpOp P ops Q i (fun a' w' => S (listed.setIfInBounds i true) w' ∧ (ClosedL md ops (listed.setIfInBounds i true) → wpAnyL P md ops Q S fuel (listed.setIfInBounds i true) a' w')) a w) : wpAnyL P md ops Q S (fuel + 1) listed a w := by
  have hm : i ∈ Region.ready md ops listed := by rw [hr]; simp
  refine ⟨fun h0 => absurd (h0.symm.trans hr) (by simp), fun j hj => ?_⟩
  rw [hr] at hj
  obtain rfl : j = i := by simpa using hj
  exact wpOp_mono (fun a' w' h3 => ⟨h3.1, h3.2 (hc.set hm)⟩) h
/-- The same, for a walk: what follows is a letter. -/
theorem wpAnyL_step {i : Nat} {o : Oper} {fuel : Nat} {listed : Array Bool} {a : Act} {w : World} (hi : ops[i]? = some o) (hr : Region.ready md ops listed = [i]) (hc : ClosedL md ops listed)
    (h : ∀ K : Act → World → Prop, (∀ a' w', S (listed.setIfInBounds i true) w' → (ClosedL md ops (listed.setIfInBounds i true) → wpAnyL P md ops Q S fuel (listed.setIfInBounds i true) a' w') → K a' w') → if Region.wanted o (yielded ops a.tmps) = true then Oper.wp P o a w K Q else K (a.put o.dst undef) w) : wpAnyL P md ops Q S (fuel + 1) listed a w := by
  refine wpAnyL_one hr hc ?_
  unfold wpOp
  simp only [hi]
  have := h (fun a' w' => S (listed.setIfInBounds i true) w' ∧ (ClosedL md ops (listed.setIfInBounds i true) → wpAnyL P md ops Q S fuel (listed.setIfInBounds i true) a' w')) (fun a' w' h1 h2 => ⟨h1, h2⟩)
  by_cases hw : Region.wanted o (yielded ops a.tmps) = true
  · rw [if_pos hw] at this ⊢
    exact .inl this
  · rw [if_neg hw] at this ⊢
    exact this
theorem wpAnyL_done {listed : Array Bool} {a : Act} {w : World} (hr : Region.ready md ops listed = []) (h : Q .normal a w) : ∀ fuel, wpAnyL P md ops Q S fuel listed a w
  | 0 => ⟨hr, h⟩
  | _ + 1 => ⟨fun _ => h, by rw [hr]; simp⟩
theorem wp_region_L {id : Nat} {a : Act} {w : World} (S : Array Bool → World → Prop) (hm : P.follows .mixedOrders = true)
    (h : ClosedL .any ops (Array.replicate ops.size false) → wpAnyL P .any ops Q S ops.size (Array.replicate ops.size false) a { w with drawn := w.drawn + 1 }) : (Code.region id ops true).wp P Q a w :=
  wp_region_any hm (wpAny_of_L _ _ _ _ (h (ClosedL.start _)))
/-- A condition that is owed until number t has come up. -/
def Until (t : Nat) (C : World → Prop) : Array Bool → World → Prop := fun l w => l.getD t false = false → C w
theorem until_take (t : Nat) (C : World → Prop) {i : Nat} (hne : i ≠ t) (l : Array Bool) (w : World) : Until t C (l.setIfInBounds i true) w ↔ Until t C l w := by
  unfold Until
  rw [getD_set_ne false hne]
/-- What number t waits for yields under the bare condition. -/
theorem yields_until {t : Nat} {C : World → Prop} {i : Nat} {o : Oper} {v : Value} {a : Act} (hb : (match ops[t]? with | some ot => ot.after.any fun e => Region.binds md e && e.on == i | none => false) = true)
    (h : (Region.wanted o (yielded ops a.tmps) = true ∧ ∀ w, C w → (execOp a.eval o).run P w = .ok (.value v) w) ∨ (Region.wanted o (yielded ops a.tmps) = false ∧ v = undef)) : YieldsL P md ops (Until t C) i o v a := by
  refine h.imp (fun ⟨hw, hv⟩ => ⟨hw, fun l w hc hun hS => hv w (hS ?_)⟩) id
  cases hlt : l.getD t false with
  | false => rfl
  | true =>
    exfalso
    cases hot : ops[t]? with
    | none => rw [hot] at hb; cases hb
    | some ot =>
      rw [hot] at hb
      obtain ⟨e, he, hb⟩ := Array.any_eq_true'.1 hb
      simp only [Bool.and_eq_true, beq_iff_eq] at hb
      have h2 := hc t ot hot hlt e he hb.1
      rw [hb.2] at h2
      rcases Nat.lt_or_ge i l.size with h' | h'
      · simp [h'] at hun h2; rw [hun] at h2; cases h2
      · simp [Array.getElem?_eq_none h'] at h2
end
end Go.Proofs.Ytmpbkfbjmmoapaa

/- A region that draws its order, walked by what holds of what is listed: each operation once, in any state of the others. No conditions. -/
namespace Go.Proofs.Ytmpbkfbjmmoapaa
open Go
section
variable {P : Program} {ops : Array Oper} {Q : Exit → Act → World → Prop} {md : Region.Mode} {S : Array Bool → World → Prop}
/-- The frame with these slots put: ds says which operation writes which slot. -/
def puts (ds : List (Nat × Nat)) (σ : Nat → Value) (a : Act) : Act := ds.foldl (fun a d => a.put (some d.2) (σ d.1)) a
def upd (σ : Nat → Value) (i : Nat) (v : Value) : Nat → Value := fun j => if j = i then v else σ j
theorem upd_same (σ : Nat → Value) (i : Nat) (v : Value) : upd σ i v i = v := if_pos rfl
theorem upd_ne (σ : Nat → Value) {i j : Nat} (v : Value) (h : j ≠ i) : upd σ i v j = σ j := if_neg h
theorem put_none (a : Act) (v : Value) : a.put none v = a := rfl
theorem put_comm (a : Act) {s t : Nat} (u v : Value) (h : s ≠ t) : (a.put (some s) u).put (some t) v = (a.put (some t) v).put (some s) u := by
  simp only [Act.put]
  rw [Array.setIfInBounds_comm _ _ h]
theorem put_again (a : Act) (s : Nat) (u v : Value) : (a.put (some s) u).put (some s) v = a.put (some s) v := by
  simp [Act.put]
theorem puts_far (σ : Nat → Value) {s : Nat} (v : Value) : ∀ (ds : List (Nat × Nat)) (a : Act), s ∉ ds.map (·.2) → (puts ds σ a).put (some s) v = puts ds σ (a.put (some s) v)
  | [], _, _ => rfl
  | (j, t) :: ds, a, h => by
    simp only [List.map_cons, List.mem_cons, not_or] at h
    have h1 := puts_far σ v ds (a.put (some t) (σ j)) h.2
    rw [put_comm a (σ j) v (fun e => h.1 e.symm)] at h1
    exact h1
theorem puts_upd (σ : Nat → Value) {i : Nat} (v : Value) : ∀ (ds : List (Nat × Nat)) (a : Act), i ∉ ds.map (·.1) → puts ds (upd σ i v) a = puts ds σ a
  | [], _, _ => rfl
  | (j, t) :: ds, a, h => by
    simp only [List.map_cons, List.mem_cons, not_or] at h
    have h1 := puts_upd σ v ds (a.put (some t) (upd σ i v j)) h.2
    rw [upd_ne σ v (fun e => h.1 e.symm)] at h1
    show puts ds (upd σ i v) (a.put (some t) (upd σ i v j)) = _
    rw [upd_ne σ v (fun e => h.1 e.symm)]
    exact h1
theorem puts_put (σ : Nat → Value) {i s : Nat} (v : Value) : ∀ (ds : List (Nat × Nat)) (a : Act), (ds.map (·.1)).Nodup → (ds.map (·.2)).Nodup → (i, s) ∈ ds → (puts ds σ a).put (some s) v = puts ds (upd σ i v) a
  | [], _, _, _, h => by cases h
  | (j, t) :: ds, a, n1, n2, h => by
    simp only [List.map_cons, List.nodup_cons] at n1 n2
    rcases List.mem_cons.1 h with h | h
    · simp only [Prod.mk.injEq] at h
      obtain ⟨rfl, rfl⟩ := h
      show (puts ds σ (a.put (some s) (σ i))).put (some s) v = puts ds (upd σ i v) (a.put (some s) (upd σ i v i))
      rw [upd_same, puts_upd σ v ds _ n1.1, puts_far σ v ds _ n2.1, put_again]
    · have hji : j ≠ i := fun e => n1.1 (by subst e; exact List.mem_map.2 ⟨(j, s), h, rfl⟩)
      show (puts ds σ (a.put (some t) (σ j))).put (some s) v = puts ds (upd σ i v) (a.put (some t) (upd σ i v j))
      rw [upd_ne σ v hji]
      exact puts_put σ v ds _ n1.2 n2.2 h
/-- The list of slots fits the operations. -/
def fits (ops : Array Oper) (ds : List (Nat × Nat)) : Bool :=
  (List.range ops.size).all (fun i => match ops[i]? with | none => true | some o => match o.dst with | none => !(ds.map (·.1)).contains i | some s => ds.contains (i, s)) && decide (ds.map (·.1)).Nodup && decide (ds.map (·.2)).Nodup
theorem fits_put {ops : Array Oper} {ds : List (Nat × Nat)} (h : fits ops ds = true) (a0 : Act) (i : Nat) (hi : i < ops.size) (oi : Oper) (ho : ops[i]? = some oi) (σ : Nat → Value) (v : Value) :
    (puts ds σ a0).put oi.dst v = puts ds (upd σ i v) a0 := by
  unfold fits at h
  simp only [Bool.and_eq_true, decide_eq_true_eq] at h
  obtain ⟨⟨h1, h2⟩, h3⟩ := h
  have h4 := List.all_eq_true.1 h1 i (List.mem_range.2 hi)
  rw [ho] at h4
  cases hd : oi.dst with
  | none =>
    simp only [hd] at h4
    rw [put_none]
    exact (puts_upd σ v ds a0 (by simpa using h4)).symm
  | some s =>
    simp only [hd] at h4
    exact puts_put σ v ds a0 h2 h3 (by simpa using h4)
/-- What number i waits for. -/
def waits (md : Region.Mode) (ops : Array Oper) (i : Nat) : List Nat := match ops[i]? with | none => [] | some o => (o.after.toList.filter (Region.binds md)).map (·.on)
/-- How many of the first k are not listed. -/
def unl : Nat → Array Bool → Nat
  | 0, _ => 0
  | k + 1, l => unl k l + (if l.getD k true = true then 0 else 1)
theorem unl_far {l : Array Bool} {i : Nat} : ∀ k, k ≤ i → unl k (l.setIfInBounds i true) = unl k l
  | 0, _ => rfl
  | k + 1, h => by
    have : (l.setIfInBounds i true).getD k true = l.getD k true := getD_set_ne true (by omega)
    have h2 := unl_far (l := l) (i := i) k (by omega)
    simp only [unl, this, h2]
theorem unl_set {l : Array Bool} {i : Nat} (h : l.getD i true = false) : ∀ k, i < k → unl k (l.setIfInBounds i true) + 1 = unl k l
  | 0, hk => absurd hk (by omega)
  | k + 1, hk => by
    by_cases hik : i = k
    · subst hik
      have hlt : i < l.size := by
        rcases Nat.lt_or_ge i l.size with h' | h'
        · exact h'
        · simp [h'] at h
      have h1 : (l.setIfInBounds i true).getD i true = true := by simp [hlt]
      simp only [unl, unl_far i (Nat.le_refl _), h, h1]
      simp
    · have h1 : (l.setIfInBounds i true).getD k true = l.getD k true := getD_set_ne true hik
      have := unl_set h k (by omega)
      simp only [unl, h1]
      omega
theorem unl_zero {l : Array Bool} : ∀ k, unl k l = 0 → ∀ i, i < k → l.getD i true = true
  | 0, _, i, hi => absurd hi (by omega)
  | k + 1, h, i, hi => by
    simp only [unl] at h
    by_cases hik : i = k
    · subst hik
      by_cases hl : l.getD i true = true
      · exact hl
      · simp [hl] at h
    · exact unl_zero k (by omega) i (by omega)
theorem getD_both {l : Array Bool} {i : Nat} (hi : i < l.size) : l.getD i true = l.getD i false := by simp [hi]
/-- Is number i listed? -/
def lst (l : Array Bool) (i : Nat) : Bool := l.getD i false
theorem lst_same {l : Array Bool} {i : Nat} (h : i < l.size) : lst (l.setIfInBounds i true) i = true := by simp [lst, h]
theorem lst_ne {l : Array Bool} {i j : Nat} (h : j ≠ i) : lst (l.setIfInBounds i true) j = lst l j := getD_set_ne false (fun e => h e.symm)
theorem lst_start (n i : Nat) : lst (Array.replicate n false) i = false := by
  unfold lst
  rcases Nat.lt_or_ge i n with h | h
  · simp [h]
  · simp [h]
/-- What a walk of number i owes. -/
def GridStep (P : Program) (md : Region.Mode) (ops : Array Oper) (Q : Exit → Act → World → Prop) (ds : List (Nat × Nat)) (a0 : Act) (I : (Nat → Value) → Array Bool → World → Prop) (i : Nat) : Prop :=
  ∀ oi, ops[i]? = some oi → ∀ σ l w, l.size = ops.size → lst l i = false → (∀ d ∈ waits md ops i, lst l d = true) → I σ l w →
    ∀ K : Act → World → Prop, (∀ v w', I (upd σ i v) (l.setIfInBounds i true) w' → K ((puts ds σ a0).put oi.dst v) w') →
      if Region.wanted oi (yielded ops (puts ds σ a0).tmps) = true then Oper.wp P oi (puts ds σ a0) w K Q else K ((puts ds σ a0).put oi.dst undef) w
theorem wpAnyL_grid (ds : List (Nat × Nat)) (core : List Nat) (I : (Nat → Value) → Array Bool → World → Prop) (a0 : Act)
    (hback : (List.range ops.size).all (fun i => (waits md ops i).all (fun d => decide (d < i))) = true)
    (hstep : ∀ i ∈ core, GridStep P md ops Q ds a0 I i)
    (hput : ∀ i ∈ core, ∀ oi, ops[i]? = some oi → ∀ σ v, (puts ds σ a0).put oi.dst v = puts ds (upd σ i v) a0)
    (hS : ∀ σ l w, I σ l w → S l w)
    (hend : ∀ σ l w, (∀ i, i < ops.size → lst l i = true) → I σ l w → Q .normal (puts ds σ a0) w) :
    ∀ (fuel : Nat) (l : Array Bool) (σ : Nat → Value) (w : World), l.size = ops.size → unl ops.size l ≤ fuel → (∀ j, j < ops.size → j ∉ core → l.getD j true = true) → I σ l w →
      wpAnyL P md ops Q S fuel l (puts ds σ a0) w := by
  -- nothing is ready: all is listed
  have all : ∀ l : Array Bool, Region.ready md ops l = [] → ∀ i, i < ops.size → l.getD i true = true := by
    intro l hr i
    induction i using Nat.strongRecOn with
    | _ i ih =>
      intro hi
      by_cases hl : l.getD i true = true
      · exact hl
      · exfalso
        have : i ∈ Region.ready md ops l := by
          rw [mem_ready]
          refine ⟨by simpa using hl, ops[i], by simp [hi], fun e he hb => ?_⟩
          have hd : e.on ∈ waits md ops i := by
            unfold waits
            simp only [hi, getElem?_pos]
            exact List.mem_map.2 ⟨e, List.mem_filter.2 ⟨by simpa using he, hb⟩, rfl⟩
          have hlt : e.on < i := by
            have := List.all_eq_true.1 (List.all_eq_true.1 hback i (by simp [hi])) _ hd
            simpa using this
          have h1 := ih e.on hlt (by omega)
          rcases Nat.lt_or_ge e.on l.size with h' | h'
          · rw [getD_both h'] at h1; exact h1
          · exfalso
            -- not within: then i is not within, either
            have : l.getD i true = true := by simp [show l.size ≤ i by omega]
            exact hl this
        rw [hr] at this
        cases this
  intro fuel
  induction fuel with
  | zero =>
    intro l σ w hsz hf hcov hI
    have ha : ∀ i, i < ops.size → l.getD i true = true := unl_zero _ (by omega)
    have hr : Region.ready md ops l = [] := by
      refine List.eq_nil_iff_forall_not_mem.2 fun i hi => ?_
      obtain ⟨h1, o, ho, _⟩ := mem_ready.1 hi
      have hlt : i < ops.size := by
        rcases Nat.lt_or_ge i ops.size with h' | h'
        · exact h'
        · simp [h'] at ho
      rw [ha i hlt] at h1
      cases h1
    exact ⟨hr, hend σ l w (fun i hi => by unfold lst; rw [← getD_both (by omega)]; exact ha i hi) hI⟩
  | succ fuel ih =>
    intro l σ w hsz hf hcov hI
    refine ⟨fun hr => hend σ l w (fun i hi => by unfold lst; rw [← getD_both (by omega)]; exact all l hr i hi) hI, fun i hi => ?_⟩
    obtain ⟨h1, o, ho, hdep⟩ := mem_ready.1 hi
    have hlt : i < ops.size := by
      rcases Nat.lt_or_ge i ops.size with h' | h'
      · exact h'
      · simp [h'] at ho
    have hcore : i ∈ core := by
      by_cases hc : i ∈ core
      · exact hc
      · rw [hcov i hlt hc] at h1
        cases h1
    have hl0 : l.getD i false = false := by rw [← getD_both (by omega)]; exact h1
    have hw : ∀ d ∈ waits md ops i, l.getD d false = true := by
      intro d hd
      unfold waits at hd
      rw [ho] at hd
      obtain ⟨e, he, rfl⟩ := List.mem_map.1 hd
      obtain ⟨he, hb⟩ := List.mem_filter.1 he
      exact hdep e (by simpa using he) hb
    have step := hstep i hcore o ho σ l w hsz hl0 hw hI (fun a' w' => S (l.setIfInBounds i true) w' ∧ wpAnyL P md ops Q S fuel (l.setIfInBounds i true) a' w') (fun v w' hI' => by
      refine ⟨hS _ _ _ hI', ?_⟩
      rw [hput i hcore o ho σ v]
      refine ih _ _ _ (by simp [hsz]) ?_ (fun j hj hjc => ?_) hI'
      · have := unl_set h1 ops.size hlt
        omega
      · have hji : i ≠ j := fun e => by subst e; exact hjc hcore
        rw [getD_set_ne true hji]
        exact hcov j hj hjc)
    unfold wpOp
    simp only [ho]
    by_cases hwn : Region.wanted o (yielded ops (puts ds σ a0).tmps) = true
    · rw [if_pos hwn] at step ⊢
      exact .inl step
    · rw [if_neg hwn] at step ⊢
      exact step
theorem unl_le (l : Array Bool) : ∀ k, unl k l ≤ k
  | 0 => Nat.le_refl _
  | k + 1 => by
    have := unl_le l k
    simp only [unl]
    split <;> omega
/-- The whole region, from its start. -/
theorem wpAnyL_grid0 (ds : List (Nat × Nat)) (I : (Nat → Value) → Array Bool → World → Prop) {a0 : Act} {w : World}
    (hback : (List.range ops.size).all (fun i => (waits md ops i).all (fun d => decide (d < i))) = true)
    (hundef : puts ds (fun _ => undef) a0 = a0)
    (hstep : ∀ i, i < ops.size → GridStep P md ops Q ds a0 I i)
    (hput : fits ops ds = true)
    (hS : ∀ σ l w, I σ l w → S l w)
    (hend : ∀ σ l w, (∀ i, i < ops.size → lst l i = true) → I σ l w → Q .normal (puts ds σ a0) w)
    (h0 : I (fun _ => undef) (Array.replicate ops.size false) w) : wpAnyL P md ops Q S ops.size (Array.replicate ops.size false) a0 w := by
  have h := wpAnyL_grid (P := P) (md := md) (ops := ops) (Q := Q) (S := S) ds (List.range ops.size) I a0 hback (fun i hi => hstep i (List.mem_range.1 hi)) (fun i hi => fits_put hput a0 i (List.mem_range.1 hi)) hS hend
    ops.size (Array.replicate ops.size false) (fun _ => undef) w (by simp) (unl_le _ _) (fun j hj hc => absurd (List.mem_range.2 hj) hc) h0
  rwa [hundef] at h
end
end Go.Proofs.Ytmpbkfbjmmoapaa

/- iface's clone, of an interface without lists: walked. No conditions. -/
namespace Go.Proofs.Ytmpbkfbjmmoapaa
open Go.RowKit
set_option linter.unusedVariables false
set_option linter.unusedSimpArgs false
theorem wr4 (w : World) (g : Nat) (u0 u1 u2 u3 : Value) : Wr [g] w ((((w.setCell ⟨g, 0, none⟩ u0).setCell ⟨g, 1, none⟩ u1).setCell ⟨g, 2, none⟩ u2).setCell ⟨g, 3, none⟩ u3) :=
  ((((Wr.refl [g] w).setOn (by simp) u0).setOn (by simp) u1).setOn (by simp) u2).setOn (by simp) u3
theorem blk4 (w : World) (g : Nat) (T : TypeId) (x0 x1 x2 x3 u0 u1 u2 u3 : Value) (h : Blk w g T #[x0, x1, x2, x3]) : Blk ((((w.setCell ⟨g, 0, none⟩ u0).setCell ⟨g, 1, none⟩ u1).setCell ⟨g, 2, none⟩ u2).setCell ⟨g, 3, none⟩ u3) g T #[u0, u1, u2, u3] := by
  have := (((h.set_ 0 u0).set_ 1 u1).set_ 2 u2).set_ 3 u3
  simpa using this
def clV (g : Nat) : Nat → Value
  | 0 => .pointer (some ⟨g, 1, none⟩)
  | 3 => .pointer (some ⟨g, 2, none⟩)
  | 6 => .pointer (some ⟨g, 3, none⟩)
  | 9 => .pointer (some ⟨g, 1, none⟩)
  | 11 => .pointer (some ⟨g, 2, none⟩)
  | 13 => .pointer (some ⟨g, 3, none⟩)
  | 10 => undef
  | 12 => undef
  | 14 => undef
  | _ => .slice none 0 0
structure ClI (m : ByteArray) (wd : World) (g : Nat) (σ : Nat → Value) (l : Array Bool) (w' : World) : Prop where
  v : ∀ j, lst l j = true → σ j = clV g j
  b : Blk w' g 31 #[.string m, .slice none 0 0, .slice none 0 0, .slice none 0 0]
  acc : Wr [g] wd w'
theorem ClI.step {m : ByteArray} {wd : World} {g : Nat} {σ : Nat → Value} {l : Array Bool} {w1 w2 : World} (h : ClI m wd g σ l w1) (i : Nat) (hb : Blk w2 g 31 #[.string m, .slice none 0 0, .slice none 0 0, .slice none 0 0]) (r : Wr [g] w1 w2) : ClI m wd g (upd σ i (clV g i)) (l.setIfInBounds i true) w2 := by
  refine ⟨fun j hj => ?_, hb, h.acc.trans r⟩
  by_cases hji : j = i
  · subst hji
    exact upd_same _ _ _
  · rw [upd_ne σ _ hji]
    rw [lst_ne hji] at hj
    exact h.v j hj
end Go.Proofs.Ytmpbkfbjmmoapaa

/- iface's Canon, of an interface without items: walked. Conditions: what its May and its clone answer. -/
namespace Go.Proofs.Ytmpbkfbjmmoapaa
open Go.RowKit
set_option linter.unusedVariables false
set_option linter.unusedSimpArgs false
end Go.Proofs.Ytmpbkfbjmmoapaa
