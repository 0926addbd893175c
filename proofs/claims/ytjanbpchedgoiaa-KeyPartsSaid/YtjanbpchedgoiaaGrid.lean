/- A region that draws its order, walked by what holds of what is listed: each operation once, in any state of the others. No conditions. -/
import Derived.Test.YtjanbpchedgoiaaRegL
namespace Go.Proofs.Ytjanbpchedgoiaa
open Go

section
variable {P : Program} {ops : Array Oper} {Q : Exit → Act → World → Prop} {md : Region.Mode} {S : Array Bool → World → Prop}

/-- The frame with these slots put: ds says which operation writes which slot. -/
def puts (ds : List (Nat × Nat)) (σ : Nat → Value) (a : Act) : Act := ds.foldl (fun a d => a.put (some d.2) (σ d.1)) a
def upd (σ : Nat → Value) (i : Nat) (v : Value) : Nat → Value := fun j => if j = i then v else σ j
theorem upd_same (σ : Nat → Value) (i : Nat) (v : Value) : upd σ i v i = v := if_pos rfl
theorem upd_ne (σ : Nat → Value) {i j : Nat} (v : Value) (h : j ≠ i) : upd σ i v j = σ j := if_neg h
theorem put_none (a : Act) (v : Value) : a.put none v = a := rfl
theorem put_comm (a : Act) {s t : Nat} (u v : Value) (h : s ≠ t) : (a.put (some s) u).put (some t) v = (a.put (some t) v).put (some s) u := by
  simp only [Act.put]
  rw [Array.setIfInBounds_comm _ _ h]
theorem put_again (a : Act) (s : Nat) (u v : Value) : (a.put (some s) u).put (some s) v = a.put (some s) v := by
  simp [Act.put]
theorem puts_far (σ : Nat → Value) {s : Nat} (v : Value) : ∀ (ds : List (Nat × Nat)) (a : Act), s ∉ ds.map (·.2) → (puts ds σ a).put (some s) v = puts ds σ (a.put (some s) v)
  | [], _, _ => rfl
  | (j, t) :: ds, a, h => by
    simp only [List.map_cons, List.mem_cons, not_or] at h
    have h1 := puts_far σ v ds (a.put (some t) (σ j)) h.2
    rw [put_comm a (σ j) v (fun e => h.1 e.symm)] at h1
    exact h1
theorem puts_upd (σ : Nat → Value) {i : Nat} (v : Value) : ∀ (ds : List (Nat × Nat)) (a : Act), i ∉ ds.map (·.1) → puts ds (upd σ i v) a = puts ds σ a
  | [], _, _ => rfl
  | (j, t) :: ds, a, h => by
    simp only [List.map_cons, List.mem_cons, not_or] at h
    have h1 := puts_upd σ v ds (a.put (some t) (upd σ i v j)) h.2
    rw [upd_ne σ v (fun e => h.1 e.symm)] at h1
    show puts ds (upd σ i v) (a.put (some t) (upd σ i v j)) = _
    rw [upd_ne σ v (fun e => h.1 e.symm)]
    exact h1
theorem puts_put (σ : Nat → Value) {i s : Nat} (v : Value) : ∀ (ds : List (Nat × Nat)) (a : Act), (ds.map (·.1)).Nodup → (ds.map (·.2)).Nodup → (i, s) ∈ ds → (puts ds σ a).put (some s) v = puts ds (upd σ i v) a
  | [], _, _, _, h => by cases h
  | (j, t) :: ds, a, n1, n2, h => by
    simp only [List.map_cons, List.nodup_cons] at n1 n2
    rcases List.mem_cons.1 h with h | h
    · simp only [Prod.mk.injEq] at h
      obtain ⟨rfl, rfl⟩ := h
      show (puts ds σ (a.put (some s) (σ i))).put (some s) v = puts ds (upd σ i v) (a.put (some s) (upd σ i v i))
      rw [upd_same, puts_upd σ v ds _ n1.1, puts_far σ v ds _ n2.1, put_again]
    · have hji : j ≠ i := fun e => n1.1 (by subst e; exact List.mem_map.2 ⟨(j, s), h, rfl⟩)
      show (puts ds σ (a.put (some t) (σ j))).put (some s) v = puts ds (upd σ i v) (a.put (some t) (upd σ i v j))
      rw [upd_ne σ v hji]
      exact puts_put σ v ds _ n1.2 n2.2 h
/-- The list of slots fits the operations. -/
def fits (ops : Array Oper) (ds : List (Nat × Nat)) : Bool :=
  (List.range ops.size).all (fun i => match ops[i]? with | none => true | some o => match o.dst with | none => !(ds.map (·.1)).contains i | some s => ds.contains (i, s)) && decide (ds.map (·.1)).Nodup && decide (ds.map (·.2)).Nodup
theorem fits_put {ops : Array Oper} {ds : List (Nat × Nat)} (h : fits ops ds = true) (a0 : Act) (i : Nat) (hi : i < ops.size) (oi : Oper) (ho : ops[i]? = some oi) (σ : Nat → Value) (v : Value) :
    (puts ds σ a0).put oi.dst v = puts ds (upd σ i v) a0 := by
  unfold fits at h
  simp only [Bool.and_eq_true, decide_eq_true_eq] at h
  obtain ⟨⟨h1, h2⟩, h3⟩ := h
  have h4 := List.all_eq_true.1 h1 i (List.mem_range.2 hi)
  rw [ho] at h4
  cases hd : oi.dst with
  | none =>
    simp only [hd] at h4
    rw [put_none]
    exact (puts_upd σ v ds a0 (by simpa using h4)).symm
  | some s =>
    simp only [hd] at h4
    exact puts_put σ v ds a0 h2 h3 (by simpa using h4)
/-- What number i waits for. -/
def waits (md : Region.Mode) (ops : Array Oper) (i : Nat) : List Nat := match ops[i]? with | none => [] | some o => (o.after.toList.filter (Region.binds md)).map (·.on)
/-- How many of the first k are not listed. -/
def unl : Nat → Array Bool → Nat
  | 0, _ => 0
  | k + 1, l => unl k l + (if l.getD k true = true then 0 else 1)
theorem unl_far {l : Array Bool} {i : Nat} : ∀ k, k ≤ i → unl k (l.setIfInBounds i true) = unl k l
  | 0, _ => rfl
  | k + 1, h => by
    have : (l.setIfInBounds i true).getD k true = l.getD k true := getD_set_ne true (by omega)
    have h2 := unl_far (l := l) (i := i) k (by omega)
    simp only [unl, this, h2]
theorem unl_set {l : Array Bool} {i : Nat} (h : l.getD i true = false) : ∀ k, i < k → unl k (l.setIfInBounds i true) + 1 = unl k l
  | 0, hk => absurd hk (by omega)
  | k + 1, hk => by
    by_cases hik : i = k
    · subst hik
      have hlt : i < l.size := by
        rcases Nat.lt_or_ge i l.size with h' | h'
        · exact h'
        · simp [h'] at h
      have h1 : (l.setIfInBounds i true).getD i true = true := by simp [hlt]
      simp only [unl, unl_far i (Nat.le_refl _), h, h1]
      simp
    · have h1 : (l.setIfInBounds i true).getD k true = l.getD k true := getD_set_ne true hik
      have := unl_set h k (by omega)
      simp only [unl, h1]
      omega
theorem unl_zero {l : Array Bool} : ∀ k, unl k l = 0 → ∀ i, i < k → l.getD i true = true
  | 0, _, i, hi => absurd hi (by omega)
  | k + 1, h, i, hi => by
    simp only [unl] at h
    by_cases hik : i = k
    · subst hik
      by_cases hl : l.getD i true = true
      · exact hl
      · simp [hl] at h
    · exact unl_zero k (by omega) i (by omega)
theorem getD_both {l : Array Bool} {i : Nat} (hi : i < l.size) : l.getD i true = l.getD i false := by simp [hi]

/-- Is number i listed? -/
def lst (l : Array Bool) (i : Nat) : Bool := l.getD i false
theorem lst_same {l : Array Bool} {i : Nat} (h : i < l.size) : lst (l.setIfInBounds i true) i = true := by simp [lst, h]
theorem lst_ne {l : Array Bool} {i j : Nat} (h : j ≠ i) : lst (l.setIfInBounds i true) j = lst l j := getD_set_ne false (fun e => h e.symm)
theorem lst_start (n i : Nat) : lst (Array.replicate n false) i = false := by
  unfold lst
  rcases Nat.lt_or_ge i n with h | h
  · simp [h]
  · simp [h]
/-- What a walk of number i owes. -/
def GridStep (P : Program) (md : Region.Mode) (ops : Array Oper) (Q : Exit → Act → World → Prop) (ds : List (Nat × Nat)) (a0 : Act) (I : (Nat → Value) → Array Bool → World → Prop) (i : Nat) : Prop :=
  ∀ oi, ops[i]? = some oi → ∀ σ l w, l.size = ops.size → lst l i = false → (∀ d ∈ waits md ops i, lst l d = true) → I σ l w →
    ∀ K : Act → World → Prop, (∀ v w', I (upd σ i v) (l.setIfInBounds i true) w' → K ((puts ds σ a0).put oi.dst v) w') →
      if Region.wanted oi (yielded ops (puts ds σ a0).tmps) = true then Oper.wp P oi (puts ds σ a0) w K Q else K ((puts ds σ a0).put oi.dst undef) w

theorem wpAnyL_grid (ds : List (Nat × Nat)) (core : List Nat) (I : (Nat → Value) → Array Bool → World → Prop) (a0 : Act)
    (hback : (List.range ops.size).all (fun i => (waits md ops i).all (fun d => decide (d < i))) = true)
    (hstep : ∀ i ∈ core, GridStep P md ops Q ds a0 I i)
    (hput : ∀ i ∈ core, ∀ oi, ops[i]? = some oi → ∀ σ v, (puts ds σ a0).put oi.dst v = puts ds (upd σ i v) a0)
    (hS : ∀ σ l w, I σ l w → S l w)
    (hend : ∀ σ l w, (∀ i, i < ops.size → lst l i = true) → I σ l w → Q .normal (puts ds σ a0) w) :
    ∀ (fuel : Nat) (l : Array Bool) (σ : Nat → Value) (w : World), l.size = ops.size → unl ops.size l ≤ fuel → (∀ j, j < ops.size → j ∉ core → l.getD j true = true) → I σ l w →
      wpAnyL P md ops Q S fuel l (puts ds σ a0) w := by
  -- nothing is ready: all is listed
  have all : ∀ l : Array Bool, Region.ready md ops l = [] → ∀ i, i < ops.size → l.getD i true = true := by
    intro l hr i
    induction i using Nat.strongRecOn with
    | _ i ih =>
      intro hi
      by_cases hl : l.getD i true = true
      · exact hl
      · exfalso
        have : i ∈ Region.ready md ops l := by
          rw [mem_ready]
          refine ⟨by simpa using hl, ops[i], by simp [hi], fun e he hb => ?_⟩
          have hd : e.on ∈ waits md ops i := by
            unfold waits
            simp only [hi, getElem?_pos]
            exact List.mem_map.2 ⟨e, List.mem_filter.2 ⟨by simpa using he, hb⟩, rfl⟩
          have hlt : e.on < i := by
            have := List.all_eq_true.1 (List.all_eq_true.1 hback i (by simp [hi])) _ hd
            simpa using this
          have h1 := ih e.on hlt (by omega)
          rcases Nat.lt_or_ge e.on l.size with h' | h'
          · rw [getD_both h'] at h1; exact h1
          · exfalso
            -- not within: then i is not within, either
            have : l.getD i true = true := by simp [show l.size ≤ i by omega]
            exact hl this
        rw [hr] at this
        cases this
  intro fuel
  induction fuel with
  | zero =>
    intro l σ w hsz hf hcov hI
    have ha : ∀ i, i < ops.size → l.getD i true = true := unl_zero _ (by omega)
    have hr : Region.ready md ops l = [] := by
      refine List.eq_nil_iff_forall_not_mem.2 fun i hi => ?_
      obtain ⟨h1, o, ho, _⟩ := mem_ready.1 hi
      have hlt : i < ops.size := by
        rcases Nat.lt_or_ge i ops.size with h' | h'
        · exact h'
        · simp [h'] at ho
      rw [ha i hlt] at h1
      cases h1
    exact ⟨hr, hend σ l w (fun i hi => by unfold lst; rw [← getD_both (by omega)]; exact ha i hi) hI⟩
  | succ fuel ih =>
    intro l σ w hsz hf hcov hI
    refine ⟨fun hr => hend σ l w (fun i hi => by unfold lst; rw [← getD_both (by omega)]; exact all l hr i hi) hI, fun i hi => ?_⟩
    obtain ⟨h1, o, ho, hdep⟩ := mem_ready.1 hi
    have hlt : i < ops.size := by
      rcases Nat.lt_or_ge i ops.size with h' | h'
      · exact h'
      · simp [h'] at ho
    have hcore : i ∈ core := by
      by_cases hc : i ∈ core
      · exact hc
      · rw [hcov i hlt hc] at h1
        cases h1
    have hl0 : l.getD i false = false := by rw [← getD_both (by omega)]; exact h1
    have hw : ∀ d ∈ waits md ops i, l.getD d false = true := by
      intro d hd
      unfold waits at hd
      rw [ho] at hd
      obtain ⟨e, he, rfl⟩ := List.mem_map.1 hd
      obtain ⟨he, hb⟩ := List.mem_filter.1 he
      exact hdep e (by simpa using he) hb
    have step := hstep i hcore o ho σ l w hsz hl0 hw hI (fun a' w' => S (l.setIfInBounds i true) w' ∧ wpAnyL P md ops Q S fuel (l.setIfInBounds i true) a' w') (fun v w' hI' => by
      refine ⟨hS _ _ _ hI', ?_⟩
      rw [hput i hcore o ho σ v]
      refine ih _ _ _ (by simp [hsz]) ?_ (fun j hj hjc => ?_) hI'
      · have := unl_set h1 ops.size hlt
        omega
      · have hji : i ≠ j := fun e => by subst e; exact hjc hcore
        rw [getD_set_ne true hji]
        exact hcov j hj hjc)
    unfold wpOp
    simp only [ho]
    by_cases hwn : Region.wanted o (yielded ops (puts ds σ a0).tmps) = true
    · rw [if_pos hwn] at step ⊢
      exact .inl step
    · rw [if_neg hwn] at step ⊢
      exact step
theorem unl_le (l : Array Bool) : ∀ k, unl k l ≤ k
  | 0 => Nat.le_refl _
  | k + 1 => by
    have := unl_le l k
    simp only [unl]
    split <;> omega
/-- The whole region, from its start. -/
theorem wpAnyL_grid0 (ds : List (Nat × Nat)) (I : (Nat → Value) → Array Bool → World → Prop) {a0 : Act} {w : World}
    (hback : (List.range ops.size).all (fun i => (waits md ops i).all (fun d => decide (d < i))) = true)
    (hundef : puts ds (fun _ => undef) a0 = a0)
    (hstep : ∀ i, i < ops.size → GridStep P md ops Q ds a0 I i)
    (hput : fits ops ds = true)
    (hS : ∀ σ l w, I σ l w → S l w)
    (hend : ∀ σ l w, (∀ i, i < ops.size → lst l i = true) → I σ l w → Q .normal (puts ds σ a0) w)
    (h0 : I (fun _ => undef) (Array.replicate ops.size false) w) : wpAnyL P md ops Q S ops.size (Array.replicate ops.size false) a0 w := by
  have h := wpAnyL_grid (P := P) (md := md) (ops := ops) (Q := Q) (S := S) ds (List.range ops.size) I a0 hback (fun i hi => hstep i (List.mem_range.1 hi)) (fun i hi => fits_put hput a0 i (List.mem_range.1 hi)) hS hend
    ops.size (Array.replicate ops.size false) (fun _ => undef) w (by simp) (unl_le _ _) (fun j hj hc => absurd (List.mem_range.2 hj) hc) h0
  rwa [hundef] at h
end
end Go.Proofs.Ytjanbpchedgoiaa
