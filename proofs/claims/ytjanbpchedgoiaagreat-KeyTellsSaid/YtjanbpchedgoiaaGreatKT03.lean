/- A region that draws its order, walked by what holds of what is listed: each operation once, in any state of the others. No conditions. -/
import Derived.Test.YtjanbpchedgoiaaGreatKT02
import Derived.Deep.DrawnRows
import Derived.Laws.EntriesVeiled
set_option linter.unusedVariables false
set_option linter.unusedSimpArgs false
set_option maxRecDepth 100000
set_option maxHeartbeats 32000000
namespace Go.Proofs.YtjanbpchedgoiaaGreat
open Go
section
variable {P : Program} {ops : Array Oper} {Q : Exit → Act → World → Prop} {md : Region.Mode} {S : Array Bool → World → Prop}
def puts (ds : List (Nat × Nat)) (σ : Nat → Value) (a : Act) : Act := ds.foldl (fun a d => a.put (some d.2) (σ d.1)) a
def upd (σ : Nat → Value) (i : Nat) (v : Value) : Nat → Value := fun j => if j = i then v else σ j
theorem upd_same (σ : Nat → Value) (i : Nat) (v : Value) : upd σ i v i = v := if_pos rfl
theorem upd_ne (σ : Nat → Value) {i j : Nat} (v : Value) (h : j ≠ i) : upd σ i v j = σ j := if_neg h
theorem put_none (a : Act) (v : Value) : a.put none v = a := rfl
theorem put_comm (a : Act) {s t : Nat} (u v : Value) (h : s ≠ t) : (a.put (some s) u).put (some t) v = (a.put (some t) v).put (some s) u := by
 simp only [Act.put]
 rw [Array.setIfInBounds_comm _ _ h]
theorem put_again (a : Act) (s : Nat) (u v : Value) : (a.put (some s) u).put (some s) v = a.put (some s) v := by
 simp [Act.put]
theorem puts_far (σ : Nat → Value) {s : Nat} (v : Value) : ∀ (ds : List (Nat × Nat)) (a : Act), s ∉ ds.map (·.2) → (puts ds σ a).put (some s) v = puts ds σ (a.put (some s) v)
 | [], _, _ => rfl
 | (j, t) :: ds, a, h => by
  simp only [List.map_cons, qmcq, not_or] at h
  have h1 := puts_far σ v ds (a.put (some t) (σ j)) h.2
  rw [put_comm a (σ j) v (fun e => h.1 e.symm)] at h1
  exact h1
theorem puts_upd (σ : Nat → Value) {i : Nat} (v : Value) : ∀ (ds : List (Nat × Nat)) (a : Act), i ∉ ds.map (·.1) → puts ds (upd σ i v) a = puts ds σ a
 | [], _, _ => rfl
 | (j, t) :: ds, a, h => by
  simp only [List.map_cons, qmcq, not_or] at h
  have h1 := puts_upd σ v ds (a.put (some t) (upd σ i v j)) h.2
  rw [upd_ne σ v (fun e => h.1 e.symm)] at h1
  show puts ds (upd σ i v) (a.put (some t) (upd σ i v j)) = _
  rw [upd_ne σ v (fun e => h.1 e.symm)]
  exact h1
theorem puts_put (σ : Nat → Value) {i s : Nat} (v : Value) : ∀ (ds : List (Nat × Nat)) (a : Act), (ds.map (·.1)).Nodup → (ds.map (·.2)).Nodup → (i, s) ∈ ds → (puts ds σ a).put (some s) v = puts ds (upd σ i v) a
 | [], _, _, _, h => by cases h
 | (j, t) :: ds, a, n1, n2, h => by
  simp only [List.map_cons, List.nodup_cons] at n1 n2
  rcases List.mem_cons.1 h with h | h
  ·simp only [Prod.mk.injEq] at h
   obtain ⟨rfl, rfl⟩ := h
   show (puts ds σ (a.put (some s) (σ i))).put (some s) v = puts ds (upd σ i v) (a.put (some s) (upd σ i v i))
   rw [upd_same, puts_upd σ v ds _ n1.1, puts_far σ v ds _ n2.1, put_again]
  ·have hji : j ≠ i := fun e => n1.1 (by subst e; exact List.mem_map.2 ⟨(j, s), h, rfl⟩)
   show (puts ds σ (a.put (some t) (σ j))).put (some s) v = puts ds (upd σ i v) (a.put (some t) (upd σ i v j))
   rw [upd_ne σ v hji]
   exact puts_put σ v ds _ n1.2 n2.2 h
def fits (ops : Array Oper) (ds : List (Nat × Nat)) : Bool :=
 (List.range ops.size).all (fun i => match ops[i]? with | none => true | some o => match o.dst with | none => !(ds.map (·.1)).contains i | some s => ds.contains (i, s)) && decide (ds.map (·.1)).Nodup && decide (ds.map (·.2)).Nodup
theorem fits_put {ops : Array Oper} {ds : List (Nat × Nat)} (h : fits ops ds = true) (a0 : Act) (i : Nat) (hi : i < ops.size) (oi : Oper) (ho : ops[i]? = some oi) (σ : Nat → Value) (v : Value) :
  (puts ds σ a0).put oi.dst v = puts ds (upd σ i v) a0 := by
 unfold fits at h
 simp only [Bool.and_eq_true, decide_eq_true_eq] at h
 obtain ⟨⟨h1, h2⟩, h3⟩ := h
 have h4 := List.all_eq_true.1 h1 i (List.mem_range.2 hi)
 rw [ho] at h4
 cases hd : oi.dst with
 | none =>
  simp only [hd] at h4
  rw [put_none]
  exact (puts_upd σ v ds a0 (by simpa using h4)).symm
 | some s =>
  simp only [hd] at h4
  exact puts_put σ v ds a0 h2 h3 (by simpa using h4)
def waits (md : Region.Mode) (ops : Array Oper) (i : Nat) : List Nat := match ops[i]? with | none => [] | some o => (o.after.toList.filter (Region.binds md)).map (·.on)
def unl : Nat → Array Bool → Nat
 | 0, _ => 0
 | k + 1, l => unl k l + (if l.getD k true = true then 0 else 1)
theorem unl_far {l : Array Bool} {i : Nat} : ∀ k, k ≤ i → unl k (l.setIfInBounds i true) = unl k l
 | 0, _ => rfl
 | k + 1, h => by
  have : (l.setIfInBounds i true).getD k true = l.getD k true := getD_set_ne true (by omega)
  have h2 := unl_far (l := l) (i := i) k (by omega)
  simp only [unl, this, h2]
theorem unl_set {l : Array Bool} {i : Nat} (h : l.getD i true = false) : ∀ k, i < k → unl k (l.setIfInBounds i true) + 1 = unl k l
 | 0, hk => absurd hk (by omega)
 | k + 1, hk => by
  by_cases hik : i = k
  ·subst hik
   have hlt : i < l.size := by
    rcases Nat.lt_or_ge i l.size with h' | h'
    ·exact h'
    ·simp [h'] at h
   have h1 : (l.setIfInBounds i true).getD i true = true := by simp [hlt]
   simp only [unl, unl_far i (Nat.le_refl _), h, h1]
   simp
  ·have h1 : (l.setIfInBounds i true).getD k true = l.getD k true := getD_set_ne true hik
   have := unl_set h k (by omega)
   simp only [unl, h1]
   omega
theorem unl_zero {l : Array Bool} : ∀ k, unl k l = 0 → ∀ i, i < k → l.getD i true = true
 | 0, _, i, hi => absurd hi (by omega)
 | k + 1, h, i, hi => by
  simp only [unl] at h
  by_cases hik : i = k
  ·subst hik
   by_cases hl : l.getD i true = true
   ·exact hl
   ·simp [hl] at h
  ·exact unl_zero k (by omega) i (by omega)
theorem getD_both {l : Array Bool} {i : Nat} (hi : i < l.size) : l.getD i true = l.getD i false := by simp [hi]
def lst (l : Array Bool) (i : Nat) : Bool := l.getD i false
theorem lst_same {l : Array Bool} {i : Nat} (h : i < l.size) : lst (l.setIfInBounds i true) i = true := by simp [lst, h]
theorem lst_ne {l : Array Bool} {i j : Nat} (h : j ≠ i) : lst (l.setIfInBounds i true) j = lst l j := getD_set_ne false (fun e => h e.symm)
theorem lst_start (n i : Nat) : lst (Array.replicate n false) i = false := by
 unfold lst
 rcases Nat.lt_or_ge i n with h | h
 ·simp [h]
 ·simp [h]
def GridStep (P : Program) (md : Region.Mode) (ops : Array Oper) (Q : Exit → Act → World → Prop) (ds : List (Nat × Nat)) (a0 : Act) (I : (Nat → Value) → Array Bool → World → Prop) (i : Nat) : Prop :=
 ∀ oi, ops[i]? = some oi → ∀ σ l w, l.size = ops.size → lst l i = false → (∀ d ∈ waits md ops i, lst l d = true) → I σ l w →
  ∀ K : Act → World → Prop, (∀ v w', I (upd σ i v) (l.setIfInBounds i true) w' → K ((puts ds σ a0).put oi.dst v) w') →
   if Region.wanted oi (yielded ops (puts ds σ a0).tmps) = true then Oper.wp P oi (puts ds σ a0) w K Q else K ((puts ds σ a0).put oi.dst undef) w
theorem wpAnyL_grid (ds : List (Nat × Nat)) (core : List Nat) (I : (Nat → Value) → Array Bool → World → Prop) (a0 : Act)
  (hback : (List.range ops.size).all (fun i => (waits md ops i).all (fun d => decide (d < i))) = true)
  (hstep : ∀ i ∈ core, GridStep P md ops Q ds a0 I i)
  (hput : ∀ i ∈ core, ∀ oi, ops[i]? = some oi → ∀ σ v, (puts ds σ a0).put oi.dst v = puts ds (upd σ i v) a0)
  (hS : ∀ σ l w, I σ l w → S l w)
  (hend : ∀ σ l w, (∀ i, i < ops.size → lst l i = true) → I σ l w → Q .normal (puts ds σ a0) w) :
  ∀ (fuel : Nat) (l : Array Bool) (σ : Nat → Value) (w : World), l.size = ops.size → unl ops.size l ≤ fuel → (∀ j, j < ops.size → j ∉ core → l.getD j true = true) → I σ l w →
   wpAnyL P md ops Q S fuel l (puts ds σ a0) w := by
 -- nothing is ready: all is listed
 have all : ∀ l : Array Bool, Region.ready md ops l = [] → ∀ i, i < ops.size → l.getD i true = true := by
  intro l hr i
  induction i using Nat.strongRecOn with
  | _ i ih =>
   intro hi
   by_cases hl : l.getD i true = true
   ·exact hl
   ·exfalso
    have : i ∈ Region.ready md ops l := by
     rw [mem_ready]
     refine ⟨by simpa using hl, ops[i], by simp [hi], fun e he hb => ?_⟩
     have hd : e.on ∈ waits md ops i := by
      unfold waits
      simp only [hi, getElem?_pos]
      exact List.mem_map.2 ⟨e, List.mem_filter.2 ⟨by simpa using he, hb⟩, rfl⟩
     have hlt : e.on < i := by
      have := List.all_eq_true.1 (List.all_eq_true.1 hback i (by simp [hi])) _ hd
      simpa using this
     have h1 := ih e.on hlt (by omega)
     rcases Nat.lt_or_ge e.on l.size with h' | h'
     ·rw [getD_both h'] at h1; exact h1
     ·exfalso
      -- not within: then i is not within, either
      have : l.getD i true = true := by simp [show l.size ≤ i by omega]
      exact hl this
    rw [hr] at this
    cases this
 intro fuel
 induction fuel with
 | zero =>
  intro l σ w hsz hf hcov hI
  have ha : ∀ i, i < ops.size → l.getD i true = true := unl_zero _ (by omega)
  have hr : Region.ready md ops l = [] := by
   refine List.eq_nil_iff_forall_not_mem.2 fun i hi => ?_
   obtain ⟨h1, o, ho, _⟩ := mem_ready.1 hi
   have hlt : i < ops.size := by
    rcases Nat.lt_or_ge i ops.size with h' | h'
    ·exact h'
    ·simp [h'] at ho
   rw [ha i hlt] at h1
   cases h1
  exact ⟨hr, hend σ l w (fun i hi => by unfold lst; rw [← getD_both (by omega)]; exact ha i hi) hI⟩
 | succ fuel ih =>
  intro l σ w hsz hf hcov hI
  refine ⟨fun hr => hend σ l w (fun i hi => by unfold lst; rw [← getD_both (by omega)]; exact all l hr i hi) hI, fun i hi => ?_⟩
  obtain ⟨h1, o, ho, hdep⟩ := mem_ready.1 hi
  have hlt : i < ops.size := by
   rcases Nat.lt_or_ge i ops.size with h' | h'
   ·exact h'
   ·simp [h'] at ho
  have hcore : i ∈ core := by
   by_cases hc : i ∈ core
   ·exact hc
   ·rw [hcov i hlt hc] at h1
    cases h1
  have hl0 : l.getD i false = false := by rw [← getD_both (by omega)]; exact h1
  have hw : ∀ d ∈ waits md ops i, l.getD d false = true := by
   intro d hd
   unfold waits at hd
   rw [ho] at hd
   obtain ⟨e, he, rfl⟩ := List.mem_map.1 hd
   obtain ⟨he, hb⟩ := List.mem_filter.1 he
   exact hdep e (by simpa using he) hb
  have step := hstep i hcore o ho σ l w hsz hl0 hw hI (fun a' w' => S (l.setIfInBounds i true) w' ∧ wpAnyL P md ops Q S fuel (l.setIfInBounds i true) a' w') (fun v w' hI' => by
   refine ⟨hS _ _ _ hI', ?_⟩
   rw [hput i hcore o ho σ v]
   refine ih _ _ _ (by simp [hsz]) ?_ (fun j hj hjc => ?_) hI'
   ·have := unl_set h1 ops.size hlt
    omega
   ·have hji : i ≠ j := fun e => by subst e; exact hjc hcore
    rw [getD_set_ne true hji]
    exact hcov j hj hjc)
  unfold wpOp
  simp only [ho]
  by_cases hwn : Region.wanted o (yielded ops (puts ds σ a0).tmps) = true
  ·rw [if_pos hwn] at step ⊢
   exact .inl step
  ·rw [if_neg hwn] at step ⊢
   exact step
theorem unl_le (l : Array Bool) : ∀ k, unl k l ≤ k
 | 0 => Nat.le_refl _
 | k + 1 => by
  have := unl_le l k
  simp only [unl]
  split <;> omega
theorem wpAnyL_grid0 (ds : List (Nat × Nat)) (I : (Nat → Value) → Array Bool → World → Prop) {a0 : Act} {w : World}
  (hback : (List.range ops.size).all (fun i => (waits md ops i).all (fun d => decide (d < i))) = true)
  (hundef : puts ds (fun _ => undef) a0 = a0)
  (hstep : ∀ i, i < ops.size → GridStep P md ops Q ds a0 I i)
  (hput : fits ops ds = true)
  (hS : ∀ σ l w, I σ l w → S l w)
  (hend : ∀ σ l w, (∀ i, i < ops.size → lst l i = true) → I σ l w → Q .normal (puts ds σ a0) w)
  (h0 : I (fun _ => undef) (Array.replicate ops.size false) w) : wpAnyL P md ops Q S ops.size (Array.replicate ops.size false) a0 w := by
 have h := wpAnyL_grid (P := P) (md := md) (ops := ops) (Q := Q) (S := S) ds (List.range ops.size) I a0 hback (fun i hi => hstep i (List.mem_range.1 hi)) (fun i hi => fits_put hput a0 i (List.mem_range.1 hi)) hS hend
  ops.size (Array.replicate ops.size false) (fun _ => undef) w (by simp) (unl_le _ _) (fun j hj hc => absurd (List.mem_range.2 hj) hc) h0
 rwa [hundef] at h
end
end Go.Proofs.YtjanbpchedgoiaaGreat
namespace Go.Proofs.YtjanbpchedgoiaaGreat
open Go.RowKit
theorem cloneU_nil (w : World) : Calls Tryz.prog 45 #[.slice none 0 0] w fun e w' => e = .returned (.slice none 0 0) ∧ w = w' := by
 have he := fun (w : World) => Lib.run_eql_slice_nil (P := Tryz.prog) w 23 45 none 0 0 0 0 Tryz.underlying23
 go_enter Tryz.func45, Tryz.ntmps45
 go_wp2_with fail
 go_ret
 exact ⟨rfl, rfl⟩
theorem cloneT_nil (w : World) : Calls Tryz.prog 46 #[.slice none 0 0] w fun e w' => e = .returned (.slice none 0 0) ∧ w = w' := by
 have he := fun (w : World) => Lib.run_eql_slice_nil (P := Tryz.prog) w 24 52 none 0 0 0 0 Tryz.underlying24
 go_enter Tryz.func46, Tryz.ntmps46
 go_wp2_with fail
 go_ret
 exact ⟨rfl, rfl⟩
theorem cloneE_nil (w : World) : Calls Tryz.prog 47 #[.slice none 0 0] w fun e w' => e = .returned (.slice none 0 0) ∧ w = w' := by
 have he := fun (w : World) => Lib.run_eql_slice_nil (P := Tryz.prog) w 33 59 none 0 0 0 0 Tryz.underlying33
 go_enter Tryz.func47, Tryz.ntmps47
 go_wp2_with fail
 go_ret
 exact ⟨rfl, rfl⟩
theorem wr4 (w : World) (g : Nat) (u0 u1 u2 u3 : Value) : Wr [g] w ((((w.setCell ⟨g, 0, none⟩ u0).setCell ⟨g, 1, none⟩ u1).setCell ⟨g, 2, none⟩ u2).setCell ⟨g, 3, none⟩ u3) :=
 ((((Wr.refl [g] w).setOn (by simp) u0).setOn (by simp) u1).setOn (by simp) u2).setOn (by simp) u3
theorem blk4 (w : World) (g : Nat) (T : TypeId) (x0 x1 x2 x3 u0 u1 u2 u3 : Value) (h : Blk w g T #[x0, x1, x2, x3]) : Blk ((((w.setCell ⟨g, 0, none⟩ u0).setCell ⟨g, 1, none⟩ u1).setCell ⟨g, 2, none⟩ u2).setCell ⟨g, 3, none⟩ u3) g T #[u0, u1, u2, u3] := by
 have := (((h.set_ 0 u0).set_ 1 u1).set_ 2 u2).set_ 3 u3
 simpa using this
def clV (g : Nat) : Nat → Value
 | 0 => .pointer (some ⟨g, 1, none⟩)
 | 3 => .pointer (some ⟨g, 2, none⟩)
 | 6 => .pointer (some ⟨g, 3, none⟩)
 | 9 => .pointer (some ⟨g, 1, none⟩)
 | 11 => .pointer (some ⟨g, 2, none⟩)
 | 13 => .pointer (some ⟨g, 3, none⟩)
 | 10 => undef
 | 12 => undef
 | 14 => undef
 | _ => .slice none 0 0
structure ClI (m : ByteArray) (wd : World) (g : Nat) (σ : Nat → Value) (l : Array Bool) (w' : World) : Prop where
 v : ∀ j, lst l j = true → σ j = clV g j
 b : Blk w' g 35 #[.string m, .slice none 0 0, .slice none 0 0, .slice none 0 0]
 acc : Wr [g] wd w'
theorem ClI.step {m : ByteArray} {wd : World} {g : Nat} {σ : Nat → Value} {l : Array Bool} {w1 w2 : World} (h : ClI m wd g σ l w1) (i : Nat) (hb : Blk w2 g 35 #[.string m, .slice none 0 0, .slice none 0 0, .slice none 0 0]) (r : Wr [g] w1 w2) : ClI m wd g (upd σ i (clV g i)) (l.setIfInBounds i true) w2 := by
 refine ⟨fun j hj => ?_, hb, h.acc.trans r⟩
 by_cases hji : j = i
 ·subst hji
  exact upd_same _ _ _
 ·rw [upd_ne σ _ hji]
  rw [lst_ne hji] at hj
  exact h.v j hj
theorem cl_set {w : World} {g : Nat} {m : ByteArray} (k : Nat) (hk : k = 1 ∨ k = 2 ∨ k = 3) (h : Blk w g 35 #[.string m, .slice none 0 0, .slice none 0 0, .slice none 0 0]) : Blk (w.setCell ⟨g, k, none⟩ (.slice none 0 0)) g 35 #[.string m, .slice none 0 0, .slice none 0 0, .slice none 0 0] := by
 have := h.set_ k (.slice none 0 0)
 rcases hk with rfl | rfl | rfl <;> simpa using this
theorem clone_bare (m : ByteArray) (w : World) : Calls Tryz.prog 26 #[.agg #[.string m, .slice none 0 0, .slice none 0 0, .slice none 0 0]] w fun e w' => e = .returned (.agg #[.string m, .slice none 0 0, .slice none 0 0, .slice none 0 0]) ∧ Wr [] w w' := by
 have h1 := fun w => cloneU_nil w
 have h2 := fun w => cloneT_nil w
 have h3 := fun w => cloneE_nil w
 obtain ⟨wb, hwb⟩ : ∃ wb, (w.alloc (.cells #[.string m, .slice none 0 0, .slice none 0 0, .slice none 0 0] 35)).alloc (.cells #[.string ⟨#[]⟩, .slice none 0 0, .slice none 0 0, .slice none 0 0] 35) = wb := ⟨_, rfl⟩
 obtain ⟨g, hg⟩ : ∃ g, w.heap.size = g := ⟨_, rfl⟩
 have acc : Wr [] w wb := by rw [← hwb]; exact ((Wr.refl _ _).alloc _).alloc _
 have bA : Blk wb g 35 #[.string m, .slice none 0 0, .slice none 0 0, .slice none 0 0] := by rw [← hwb, ← hg]; exact (Blk.new _ _ _).alloc _
 have bR : Blk wb (g + 1) 35 #[.string ⟨#[]⟩, .slice none 0 0, .slice none 0 0, .slice none 0 0] := by
  have hb := Blk.new (w.alloc (.cells #[.string m, .slice none 0 0, .slice none 0 0, .slice none 0 0] 35)) 35 #[.string ⟨#[]⟩, .slice none 0 0, .slice none 0 0, .slice none 0 0]
  rw [show (w.alloc (.cells #[.string m, .slice none 0 0, .slice none 0 0, .slice none 0 0] 35)).heap.size = g + 1 by simp [hg], hwb] at hb
  exact hb
 have Hwb := qh hwb
 have Hg := qh hg
 clear hwb hg
 go_enter Tryz.func26, Tryz.ntmps26
 go_upto_region 1 with (fail)
 rw [Hwb.out, Hg.out]
 go_cut [2] (fun s2 wx => s2 = .pointer (some ⟨g + 1, 0, none⟩) ∧ Blk wx g 35 #[.string m, .slice none 0 0, .slice none 0 0, .slice none 0 0] ∧ Wr [g] wb wx)
 case first =>
  rename_i J K' hJ hK'
  refine wp_region_L (fun _ _ => True) (by kernel_rfl) (fun hcl => ?_)
  clear hcl
  change wpAnyL _ _ _ _ _ _ _ _ wb.drew
  have accd : Wr [g] wb wb.drew := (Wr.refl [g] wb).drew
  replace bA := bA.drew
  generalize wb.drew = wd at *
  refine wpAnyL_grid0 [(0, 6), (1, 7), (2, 8), (3, 9), (4, 10), (5, 11), (6, 12), (7, 13), (8, 14), (9, 15), (11, 16), (13, 17)] (ClI m wd g) (by kernel_rfl) (by kernel_rfl) ?steps (by kernel_rfl) (fun _ _ _ _ => trivial) ?fin ⟨fun j h => (by rw [lst_start] at h; cases h), bA, Wr.refl _ _⟩
  case steps =>
   intro n hn
   have : n = 0 ∨ n = 1 ∨ n = 2 ∨ n = 3 ∨ n = 4 ∨ n = 5 ∨ n = 6 ∨ n = 7 ∨ n = 8 ∨ n = 9 ∨ n = 10 ∨ n = 11 ∨ n = 12 ∨ n = 13 ∨ n = 14 := by
    have : n < 15 := hn
    omega
   rcases this with h | h | h | h | h | h | h | h | h | h | h | h | h | h | h <;> subst h <;> intro oi hoi' <;> simp only [qgaq, qgsq, qgzq, Option.some.injEq] at hoi' <;> subst hoi' <;> intro σ l w1 hsz hl hd hI K hK <;>
    simp only [puts, List.foldl_cons, List.foldl_nil, Act.put, qsaq, qszq, qssq] at hK ⊢
   ·go_simp
    exact hK _ _ (hI.step 0 hI.b (Wr.refl _ _))
   ·have e0 := hI.v 0 (hd 0 (by decide +kernel))
    simp only [clV] at e0
    have c0 := hI.b.cell 1
    simp only [qgaq, qgzq, qgsq] at c0
    simp only [e0] at hK ⊢
    go_simp
    exact hK _ _ (hI.step 1 hI.b (Wr.refl _ _))
   ·have e0 := hI.v 1 (hd 1 (by decide +kernel))
    simp only [clV] at e0
    simp only [e0] at hK ⊢
    go_simp
    refine (h1 _).mono ?_
    rintro e w2 ⟨rfl, rfl⟩
    exact hK _ _ (hI.step 2 hI.b (Wr.refl _ _))
   ·go_simp
    exact hK _ _ (hI.step 3 hI.b (Wr.refl _ _))
   ·have e0 := hI.v 3 (hd 3 (by decide +kernel))
    simp only [clV] at e0
    have c0 := hI.b.cell 2
    simp only [qgaq, qgzq, qgsq] at c0
    simp only [e0] at hK ⊢
    go_simp
    exact hK _ _ (hI.step 4 hI.b (Wr.refl _ _))
   ·have e0 := hI.v 4 (hd 4 (by decide +kernel))
    simp only [clV] at e0
    simp only [e0] at hK ⊢
    go_simp
    refine (h2 _).mono ?_
    rintro e w2 ⟨rfl, rfl⟩
    exact hK _ _ (hI.step 5 hI.b (Wr.refl _ _))
   ·go_simp
    exact hK _ _ (hI.step 6 hI.b (Wr.refl _ _))
   ·have e0 := hI.v 6 (hd 6 (by decide +kernel))
    simp only [clV] at e0
    have c0 := hI.b.cell 3
    simp only [qgaq, qgzq, qgsq] at c0
    simp only [e0] at hK ⊢
    go_simp
    exact hK _ _ (hI.step 7 hI.b (Wr.refl _ _))
   ·have e0 := hI.v 7 (hd 7 (by decide +kernel))
    simp only [clV] at e0
    simp only [e0] at hK ⊢
    go_simp
    refine (h3 _).mono ?_
    rintro e w2 ⟨rfl, rfl⟩
    exact hK _ _ (hI.step 8 hI.b (Wr.refl _ _))
   ·go_simp
    exact hK _ _ (hI.step 9 hI.b (Wr.refl _ _))
   ·have e0 := hI.v 9 (hd 9 (by decide +kernel))
    have e1 := hI.v 2 (hd 2 (by decide +kernel))
    simp only [clV] at e0 e1
    have c0 := hI.b.cell 1
    have f0 := hI.b.frozen 1
    simp only [qgaq, qgzq, qgsq] at c0
    simp only [e0, e1] at hK ⊢
    go_simp
    exact hK undef _ (hI.step 10 (cl_set 1 (by decide) hI.b) ((Wr.refl [g] _).setOn (by simp) _))
   ·go_simp
    exact hK _ _ (hI.step 11 hI.b (Wr.refl _ _))
   ·have e0 := hI.v 11 (hd 11 (by decide +kernel))
    have e1 := hI.v 5 (hd 5 (by decide +kernel))
    simp only [clV] at e0 e1
    have c0 := hI.b.cell 2
    have f0 := hI.b.frozen 2
    simp only [qgaq, qgzq, qgsq] at c0
    simp only [e0, e1] at hK ⊢
    go_simp
    exact hK undef _ (hI.step 12 (cl_set 2 (by decide) hI.b) ((Wr.refl [g] _).setOn (by simp) _))
   ·go_simp
    exact hK _ _ (hI.step 13 hI.b (Wr.refl _ _))
   ·have e0 := hI.v 13 (hd 13 (by decide +kernel))
    have e1 := hI.v 8 (hd 8 (by decide +kernel))
    simp only [clV] at e0 e1
    have c0 := hI.b.cell 3
    have f0 := hI.b.frozen 3
    simp only [qgaq, qgzq, qgsq] at c0
    simp only [e0, e1] at hK ⊢
    go_simp
    exact hK undef _ (hI.step 14 (cl_set 3 (by decide) hI.b) ((Wr.refl [g] _).setOn (by simp) _))
  case fin =>
   intro σ l w1 hall hI
   simp only [puts, List.foldl_cons, List.foldl_nil, Act.put, qsaq, qszq, qssq]
   refine hK' _ _ (Met.intro (hJ _ _ ?_))
   repeat apply Exists.intro
   exact ⟨⟨rfl, hI.b, accd.trans hI.acc⟩, rfl⟩
 case rest =>
  obtain ⟨rfl, bx, rx⟩ := hcut
  have bR2 := bR.wr rx (by simp)
  have t0 := bx.cell 0
  have t1 := bx.cell 1
  have t2 := bx.cell 2
  have t3 := bx.cell 3
  have s0 := bR2.cell 0
  have s1 := bR2.cell 1
  have s2 := bR2.cell 2
  have s3 := bR2.cell 3
  simp only [qgaq, qgzq, qgsq] at t0 t1 t2 t3 s0 s1 s2 s3
  have z0 := bR2.frozen 0
  have z1 := bR2.frozen 1
  have z2 := bR2.frozen 2
  have z3 := bR2.frozen 3
  go_wp2_with fail
  refine wp_loop_rounds 1 ?_
  rw [rounds_succ]
  go_wp2_with fail
  refine bodyPost_ret (v := .agg #[.string m, .slice none 0 0, .slice none 0 0, .slice none 0 0]) ?_ rfl ⟨rfl, ?_⟩
  ·have cc := blk4 wc (g + 1) 35 _ _ _ _ (.string m) (.slice none 0 0) (.slice none 0 0) (.slice none 0 0) bR2
   have t0 := cc.cell 0
   have t1 := cc.cell 1
   have t2 := cc.cell 2
   have t3 := cc.cell 3
   simp only [qgaq, qgzq, qgsq] at t0 t1 t2 t3
   simp [results, Tryz.results26, go_sem, t0, t1, t2, t3]
  ·have e := Hg.out
   exact (acc.new rx (by omega)).new (wr4 wc (g + 1) _ _ _ _) (by omega)
def bareI (m : ByteArray) (ts : Value) : Value := .agg #[.string m, .slice none 0 0, ts, .slice none 0 0]
def Holds (G : World → Prop) : Prop := ∀ w w', G w → Wr [] w w' → G w'
theorem canon_plain (m : ByteArray) (A : Option Addr) (n c : Nat) (G : World → Prop) (hG : Holds G)
  (h1 : ∀ w, G w → Calls Tryz.prog 25 #[bareI m (.slice A n c)] w fun e w' => e = .returned (.int .i64 0) ∧ Wr [] w w')
  (h2 : ∀ w, G w → Calls Tryz.prog 26 #[bareI m (.slice A n c)] w fun e w' => (∃ A' n' c', e = .returned (bareI m (.slice A' n' c'))) ∧ Wr [] w w')
  (w : World) (hw : G w) : Calls Tryz.prog 18 #[bareI m (.slice A n c)] w fun e w' => e = .returned (.tuple #[bareI m (.slice none 0 0), .int .i64 0]) ∧ Wr [] w w' := by
 have hmf : ∀ (fn : Fn) (first cap : Array Value) (w : World), (Instr.makeFunc fn first cap).run Tryz.prog w = .ok (.func fn first cap) w := fun _ _ _ _ => rfl
 have hmm := @run_makeMap Tryz.prog
 unfold bareI at *
 obtain ⟨wb, hwb⟩ : ∃ wb, (w.alloc (.cells #[.string m, .slice none 0 0, .slice A n c, .slice none 0 0] 35)).alloc (.cells #[.string ⟨#[]⟩, .slice none 0 0, .slice none 0 0, .slice none 0 0] 35) = wb := ⟨_, rfl⟩
 obtain ⟨g, hg⟩ : ∃ g, w.heap.size = g := ⟨_, rfl⟩
 have acc : Wr [] w wb := by rw [← hwb]; exact ((Wr.refl _ _).alloc _).alloc _
 have bA : Blk wb g 35 #[.string m, .slice none 0 0, .slice A n c, .slice none 0 0] := by rw [← hwb, ← hg]; exact (Blk.new _ _ _).alloc _
 have bR : Blk wb (g + 1) 35 #[.string ⟨#[]⟩, .slice none 0 0, .slice none 0 0, .slice none 0 0] := by
  have hb := Blk.new (w.alloc (.cells #[.string m, .slice none 0 0, .slice A n c, .slice none 0 0] 35)) 35 #[.string ⟨#[]⟩, .slice none 0 0, .slice none 0 0, .slice none 0 0]
  rw [show (w.alloc (.cells #[.string m, .slice none 0 0, .slice A n c, .slice none 0 0] 35)).heap.size = g + 1 by simp [hg], hwb] at hb
  exact hb
 have Hwb := qh hwb
 have Hg := qh hg
 clear hwb hg
 go_enter Tryz.func18, Tryz.ntmps18
 go_upto_region 1 with (fail)
 rw [Hwb.out, Hg.out]
 have gw := hG _ _ hw acc
 have c0 := bA.cell 0
 have c1 := bA.cell 1
 have c2 := bA.cell 2
 have c3 := bA.cell 3
 simp only [qgaq, qgzq, qgsq] at c0 c1 c2 c3
 have cz0 := bA.frozen 0
 have cz1 := bA.frozen 1
 have cz2 := bA.frozen 2
 have cz3 := bA.frozen 3
 go_wp2_with fail
 refine (h1 _ gw).mono ?_
 rintro e w1 ⟨rfl, k1⟩
 replace acc := acc.trans k1
 replace bA := bA.wr0 k1
 replace bR := bR.wr0 k1
 replace gw := hG _ _ gw k1
 clear c0 c1 c2 c3 cz0 cz1 cz2 cz3
 have c0 := bA.cell 0
 have c1 := bA.cell 1
 have c2 := bA.cell 2
 have c3 := bA.cell 3
 simp only [qgaq, qgzq, qgsq] at c0 c1 c2 c3
 have cz0 := bA.frozen 0
 have cz1 := bA.frozen 1
 have cz2 := bA.frozen 2
 have cz3 := bA.frozen 3
 go_wp2_with fail
 refine (h2 _ gw).mono ?_
 rintro e w2 ⟨⟨A', n', c', rfl⟩, k2⟩
 replace acc := acc.trans k2
 replace bA := bA.wr0 k2
 replace bR := bR.wr0 k2
 clear c0 c1 c2 c3 cz0 cz1 cz2 cz3
 have c0 := bA.cell 0
 have c1 := bA.cell 1
 have c2 := bA.cell 2
 have c3 := bA.cell 3
 simp only [qgaq, qgzq, qgsq] at c0 c1 c2 c3
 have cz0 := bA.frozen 0
 have cz1 := bA.frozen 1
 have cz2 := bA.frozen 2
 have cz3 := bA.frozen 3
 go_upto_region 5 with (fail)
 have acc2 := acc.new (wr4 w2 g (.string m) (.slice none 0 0) (.slice A' n' c') (.slice none 0 0)) (by have := Hg.out; omega)
 replace bA := blk4 w2 g 35 _ _ _ _ (.string m) (.slice none 0 0) (.slice A' n' c') (.slice none 0 0) bA
 replace bR := bR.wr (wr4 w2 g (.string m) (.slice none 0 0) (.slice A' n' c') (.slice none 0 0)) (by simp)
 clear c0 c1 c2 c3 cz0 cz1 cz2 cz3
 generalize ((((w2.setCell ⟨g, 0, none⟩ (.string m)).setCell ⟨g, 1, none⟩ (.slice none 0 0)).setCell ⟨g, 2, none⟩ (.slice A' n' c')).setCell ⟨g, 3, none⟩ (.slice none 0 0)) = wx at *
 have c0 := bA.cell 0
 have c1 := bA.cell 1
 have c2 := bA.cell 2
 have c3 := bA.cell 3
 simp only [qgaq, qgzq, qgsq] at c0 c1 c2 c3
 have cz0 := bA.frozen 0
 have cz1 := bA.frozen 1
 have cz2 := bA.frozen 2
 have cz3 := bA.frozen 3
 have r0 := bR.cell 0
 have r1 := bR.cell 1
 have r2 := bR.cell 2
 have r3 := bR.cell 3
 simp only [qgaq, qgzq, qgsq] at r0 r1 r2 r3
 have rz0 := bR.frozen 0
 have rz1 := bR.frozen 1
 have rz2 := bR.frozen 2
 have rz3 := bR.frozen 3
 go_upto_region 8 with (fail)
 obtain ⟨k, hk⟩ : ∃ k, wx.heap.size = k := ⟨_, rfl⟩
 rw [hk]
 obtain ⟨wy, hwy⟩ : ∃ wy, (((((wx.alloc (.map #[] 0)).alloc (.cells #[] 3)).alloc (.cells #[.map (some k)] 79)).alloc (.cells #[.slice (some ⟨k + 1, 0, none⟩) 0 0] 80)).alloc (.cells #[.func (.func 27) #[] #[.pointer (some ⟨k + 1 + 1, 0, none⟩), .pointer (some ⟨k + 1 + 1 + 1, 0, none⟩), .pointer (some ⟨g, 0, none⟩), .pointer (some ⟨k + 1 + 1 + 1 + 1, 0, none⟩)]] 81)) = wy := ⟨_, rfl⟩
 rw [hwy]
 have rY : Wr [] wx wy := by rw [← hwy]; exact (((((Wr.refl [] wx).alloc _).alloc _).alloc _).alloc _).alloc _
 have d6 : wy.cell? ⟨k + 1 + 1 + 1, 0, none⟩ = some (.slice (some ⟨k + 1, 0, none⟩) 0 0) := by
  have hb := (Blk.new ((((wx.alloc (.map #[] 0)).alloc (.cells #[] 3)).alloc (.cells #[.map (some k)] 79))) 80 #[.slice (some ⟨k + 1, 0, none⟩) 0 0]).alloc (.cells #[.func (.func 27) #[] #[.pointer (some ⟨k + 1 + 1, 0, none⟩), .pointer (some ⟨k + 1 + 1 + 1, 0, none⟩), .pointer (some ⟨g, 0, none⟩), .pointer (some ⟨k + 1 + 1 + 1 + 1, 0, none⟩)]] 81)
  rw [hwy] at hb
  have := hb.cell 0
  simpa [qsiq, hk] using this
 have bX := bA
 have Hk := qh hk
 clear hk hwy
 replace acc2 := acc2.trans rY
 replace bA := bA.wr0 rY
 replace bR := bR.wr0 rY
 clear c0 c1 c2 c3 cz0 cz1 cz2 cz3
 clear r0 r1 r2 r3 rz0 rz1 rz2 rz3
 have c0 := bA.cell 0
 have c1 := bA.cell 1
 have c2 := bA.cell 2
 have c3 := bA.cell 3
 simp only [qgaq, qgzq, qgsq] at c0 c1 c2 c3
 have cz0 := bA.frozen 0
 have cz1 := bA.frozen 1
 have cz2 := bA.frozen 2
 have cz3 := bA.frozen 3
 have r0 := bR.cell 0
 have r1 := bR.cell 1
 have r2 := bR.cell 2
 have r3 := bR.cell 3
 simp only [qgaq, qgzq, qgsq] at r0 r1 r2 r3
 have rz0 := bR.frozen 0
 have rz1 := bR.frozen 1
 have rz2 := bR.frozen 2
 have rz3 := bR.frozen 3
 go_wp2_with fail
 refine wp_loop_rounds 1 ?_
 rw [rounds_succ]
 go_upto_region 19 with (fail)
 have hne : g ≠ k + 1 + 1 + 1 := by
  have := bX.lt
  have := Hk.out
  omega
 have rZ : Wr [g] wy (wy.setCell ⟨g, 2, none⟩ (.slice none 0 0)) := (Wr.refl [g] wy).setOn (by simp) _
 replace d6 := rZ.cellOf d6 (by simp [Ne.symm hne])
 replace acc2 := acc2.new rZ (by have := Hg.out; omega)
 replace bA : Blk (wy.setCell ⟨g, 2, none⟩ (.slice none 0 0)) g 35 #[.string m, .slice none 0 0, .slice none 0 0, .slice none 0 0] := by
  have := bA.set_ 2 (.slice none 0 0)
  simpa using this
 replace bR := bR.wr rZ (by simp)
 clear rY rZ hne bX
 clear c0 c1 c2 c3 cz0 cz1 cz2 cz3
 clear r0 r1 r2 r3 rz0 rz1 rz2 rz3
 generalize wy.setCell ⟨g, 2, none⟩ (.slice none 0 0) = wz at *
 have c0 := bA.cell 0
 have c1 := bA.cell 1
 have c2 := bA.cell 2
 have c3 := bA.cell 3
 simp only [qgaq, qgzq, qgsq] at c0 c1 c2 c3
 have cz0 := bA.frozen 0
 have cz1 := bA.frozen 1
 have cz2 := bA.frozen 2
 have cz3 := bA.frozen 3
 have r0 := bR.cell 0
 have r1 := bR.cell 1
 have r2 := bR.cell 2
 have r3 := bR.cell 3
 simp only [qgaq, qgzq, qgsq] at r0 r1 r2 r3
 have rz0 := bR.frozen 0
 have rz1 := bR.frozen 1
 have rz2 := bR.frozen 2
 have rz3 := bR.frozen 3
 go_wp2_with fail
 refine wp_loop_rounds 1 ?_
 rw [rounds_succ]
 go_wp2_with fail
 refine wp_loop_rounds 1 ?_
 rw [rounds_succ]
 go_wp2_with fail
 refine bodyPost_ret (v := .tuple #[.agg #[.string m, .slice none 0 0, .slice none 0 0, .slice none 0 0], .int .i64 0]) ?_ rfl ⟨rfl, ?_⟩
 ·have cc := blk4 wz (g + 1) 35 _ _ _ _ (.string m) (.slice none 0 0) (.slice none 0 0) (.slice none 0 0) bR
  have t0 := cc.cell 0
  have t1 := cc.cell 1
  have t2 := cc.cell 2
  have t3 := cc.cell 3
  simp only [qgaq, qgzq, qgsq] at t0 t1 t2 t3
  simp [results, Tryz.results18, go_sem, t0, t1, t2, t3]
 ·have e := Hg.out
  exact acc2.new (wr4 wz (g + 1) _ _ _ _) (by omega)
theorem canon_bad (x : Array Value) (hx : ∃ a b c d, x = #[a, b, c, d]) (en : Int) (he : en ≠ 0) (w : World)
  (h1 : ∀ w', Wr [] w w' → Calls Tryz.prog 25 #[.agg x] w' fun e w2 => e = .returned (.int .i64 en) ∧ Wr [] w' w2) :
  Calls Tryz.prog 18 #[.agg x] w fun e w' => e = .returned (.tuple #[bareI ⟨#[]⟩ (.slice none 0 0), .int .i64 en]) ∧ Wr [] w w' := by
 obtain ⟨xa, xb, xc, xd, rfl⟩ := hx
 have hd : decide (en = 0) = false := by simpa using he
 unfold bareI
 obtain ⟨wb, hwb⟩ : ∃ wb, (w.alloc (.cells #[xa, xb, xc, xd] 35)).alloc (.cells #[.string ⟨#[]⟩, .slice none 0 0, .slice none 0 0, .slice none 0 0] 35) = wb := ⟨_, rfl⟩
 obtain ⟨g, hg⟩ : ∃ g, w.heap.size = g := ⟨_, rfl⟩
 have acc : Wr [] w wb := by rw [← hwb]; exact ((Wr.refl _ _).alloc _).alloc _
 have bA : Blk wb g 35 #[xa, xb, xc, xd] := by rw [← hwb, ← hg]; exact (Blk.new _ _ _).alloc _
 have bR : Blk wb (g + 1) 35 #[.string ⟨#[]⟩, .slice none 0 0, .slice none 0 0, .slice none 0 0] := by
  have hb := Blk.new (w.alloc (.cells #[xa, xb, xc, xd] 35)) 35 #[.string ⟨#[]⟩, .slice none 0 0, .slice none 0 0, .slice none 0 0]
  rw [show (w.alloc (.cells #[xa, xb, xc, xd] 35)).heap.size = g + 1 by simp [hg], hwb] at hb
  exact hb
 have Hwb := qh hwb
 have Hg := qh hg
 clear hwb hg
 go_enter Tryz.func18, Tryz.ntmps18
 go_upto_region 1 with (fail)
 rw [Hwb.out, Hg.out]
 have c0 := bA.cell 0
 have c1 := bA.cell 1
 have c2 := bA.cell 2
 have c3 := bA.cell 3
 simp only [qgaq, qgzq, qgsq] at c0 c1 c2 c3
 have cz0 := bA.frozen 0
 have cz1 := bA.frozen 1
 have cz2 := bA.frozen 2
 have cz3 := bA.frozen 3
 have r0 := bR.cell 0
 have r1 := bR.cell 1
 have r2 := bR.cell 2
 have r3 := bR.cell 3
 simp only [qgaq, qgzq, qgsq] at r0 r1 r2 r3
 have rz0 := bR.frozen 0
 have rz1 := bR.frozen 1
 have rz2 := bR.frozen 2
 have rz3 := bR.frozen 3
 go_wp2_with fail
 refine (h1 _ acc).mono ?_
 rintro e w1 ⟨rfl, k1⟩
 replace acc := acc.trans k1
 replace bA := bA.wr0 k1
 replace bR := bR.wr0 k1
 clear c0 c1 c2 c3 cz0 cz1 cz2 cz3
 clear r0 r1 r2 r3 rz0 rz1 rz2 rz3
 have c0 := bA.cell 0
 have c1 := bA.cell 1
 have c2 := bA.cell 2
 have c3 := bA.cell 3
 simp only [qgaq, qgzq, qgsq] at c0 c1 c2 c3
 have cz0 := bA.frozen 0
 have cz1 := bA.frozen 1
 have cz2 := bA.frozen 2
 have cz3 := bA.frozen 3
 have r0 := bR.cell 0
 have r1 := bR.cell 1
 have r2 := bR.cell 2
 have r3 := bR.cell 3
 simp only [qgaq, qgzq, qgsq] at r0 r1 r2 r3
 have rz0 := bR.frozen 0
 have rz1 := bR.frozen 1
 have rz2 := bR.frozen 2
 have rz3 := bR.frozen 3
 go_wp2_with fail
 refine bodyPost_ret (v := .tuple #[.agg #[.string ⟨#[]⟩, .slice none 0 0, .slice none 0 0, .slice none 0 0], .int .i64 en]) ?_ rfl ⟨rfl, ?_⟩
 ·have cc := blk4 w1 (g + 1) 35 _ _ _ _ (.string ⟨#[]⟩) (.slice none 0 0) (.slice none 0 0) (.slice none 0 0) bR
  have t0 := cc.cell 0
  have t1 := cc.cell 1
  have t2 := cc.cell 2
  have t3 := cc.cell 3
  simp only [qgaq, qgzq, qgsq] at t0 t1 t2 t3
  simp [results, Tryz.results18, go_sem, t0, t1, t2, t3]
 ·have e := Hg.out
  exact acc.new (wr4 w1 (g + 1) _ _ _ _) (by omega)
end Go.Proofs.YtjanbpchedgoiaaGreat
