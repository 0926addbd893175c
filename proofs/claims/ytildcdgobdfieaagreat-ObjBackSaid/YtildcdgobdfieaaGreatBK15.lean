/- A region that draws its order, walked by what holds of what is listed: each operation once, in any state of the others. No conditions. -/
import Derived.Test.YtildcdgobdfieaaGreatBK05
import Derived.Test.YtildcdgobdfieaaGreatBK14
import Derived.Deep.DrawnRows
import Derived.Deep.Cut
import Derived.Deep.DeepCutAuto
import Derived.Laws.EntriesVeiled
import Derived.Test.YtildcdgobdfieaaGreatBK01
import Derived.Test.YtildcdgobdfieaaGreatBK10
set_option linter.unusedVariables false
set_option linter.unusedSimpArgs false
set_option maxRecDepth 100000
set_option maxHeartbeats 32000000
namespace Go.Proofs.YtildcdgobdfieaaGreat
open Go
section
variable {P : Program} {ops : Array Oper} {Q : Exit → Act → World → Prop} {md : Region.Mode} {S : Array Bool → World → Prop}
def puts (ds : List (Nat × Nat)) (σ : Nat → Value) (a : Act) : Act := ds.foldl (fun a d => a.put (some d.2) (σ d.1)) a
def upd (σ : Nat → Value) (i : Nat) (v : Value) : Nat → Value := fun j => if j = i then v else σ j
theorem upd_same (σ : Nat → Value) (i : Nat) (v : Value) : upd σ i v i = v := if_pos rfl
theorem upd_ne (σ : Nat → Value) {i j : Nat} (v : Value) (h : j ≠ i) : upd σ i v j = σ j := if_neg h
theorem put_none (a : Act) (v : Value) : a.put none v = a := rfl
theorem put_comm (a : Act) {s t : Nat} (u v : Value) (h : s ≠ t) : (a.put (some s) u).put (some t) v = (a.put (some t) v).put (some s) u := by
 simp only [Act.put]
 rw [Array.setIfInBounds_comm _ _ h]
theorem put_again (a : Act) (s : Nat) (u v : Value) : (a.put (some s) u).put (some s) v = a.put (some s) v := by
 simp [Act.put]
theorem puts_far (σ : Nat → Value) {s : Nat} (v : Value) : ∀ (ds : List (Nat × Nat)) (a : Act), s ∉ ds.map (·.2) → (puts ds σ a).put (some s) v = puts ds σ (a.put (some s) v)
 | [], _, _ => rfl
 | (j, t) :: ds, a, h => by
  simp only [List.map_cons, List.mem_cons, not_or] at h
  have h1 := puts_far σ v ds (a.put (some t) (σ j)) h.2
  rw [put_comm a (σ j) v (fun e => h.1 e.symm)] at h1
  exact h1
theorem puts_upd (σ : Nat → Value) {i : Nat} (v : Value) : ∀ (ds : List (Nat × Nat)) (a : Act), i ∉ ds.map (·.1) → puts ds (upd σ i v) a = puts ds σ a
 | [], _, _ => rfl
 | (j, t) :: ds, a, h => by
  simp only [List.map_cons, List.mem_cons, not_or] at h
  have h1 := puts_upd σ v ds (a.put (some t) (upd σ i v j)) h.2
  rw [upd_ne σ v (fun e => h.1 e.symm)] at h1
  show puts ds (upd σ i v) (a.put (some t) (upd σ i v j)) = _
  rw [upd_ne σ v (fun e => h.1 e.symm)]
  exact h1
theorem puts_put (σ : Nat → Value) {i s : Nat} (v : Value) : ∀ (ds : List (Nat × Nat)) (a : Act), (ds.map (·.1)).Nodup → (ds.map (·.2)).Nodup → (i, s) ∈ ds → (puts ds σ a).put (some s) v = puts ds (upd σ i v) a
 | [], _, _, _, h => by cases h
 | (j, t) :: ds, a, n1, n2, h => by
  simp only [List.map_cons, List.nodup_cons] at n1 n2
  rcases List.mem_cons.1 h with h | h
  ·simp only [Prod.mk.injEq] at h
   obtain ⟨rfl, rfl⟩ := h
   show (puts ds σ (a.put (some s) (σ i))).put (some s) v = puts ds (upd σ i v) (a.put (some s) (upd σ i v i))
   rw [upd_same, puts_upd σ v ds _ n1.1, puts_far σ v ds _ n2.1, put_again]
  ·have hji : j ≠ i := fun e => n1.1 (by subst e; exact List.mem_map.2 ⟨(j, s), h, rfl⟩)
   show (puts ds σ (a.put (some t) (σ j))).put (some s) v = puts ds (upd σ i v) (a.put (some t) (upd σ i v j))
   rw [upd_ne σ v hji]
   exact puts_put σ v ds _ n1.2 n2.2 h
def fits (ops : Array Oper) (ds : List (Nat × Nat)) : Bool :=
 (List.range ops.size).all (fun i => match ops[i]? with | none => true | some o => match o.dst with | none => !(ds.map (·.1)).contains i | some s => ds.contains (i, s)) && decide (ds.map (·.1)).Nodup && decide (ds.map (·.2)).Nodup
theorem fits_put {ops : Array Oper} {ds : List (Nat × Nat)} (h : fits ops ds = true) (a0 : Act) (i : Nat) (hi : i < ops.size) (oi : Oper) (ho : ops[i]? = some oi) (σ : Nat → Value) (v : Value) :
  (puts ds σ a0).put oi.dst v = puts ds (upd σ i v) a0 := by
 unfold fits at h
 simp only [Bool.and_eq_true, decide_eq_true_eq] at h
 obtain ⟨⟨h1, h2⟩, h3⟩ := h
 have h4 := List.all_eq_true.1 h1 i (List.mem_range.2 hi)
 rw [ho] at h4
 cases hd : oi.dst with
 | none =>
  simp only [hd] at h4
  rw [put_none]
  exact (puts_upd σ v ds a0 (by simpa using h4)).symm
 | some s =>
  simp only [hd] at h4
  exact puts_put σ v ds a0 h2 h3 (by simpa using h4)
def waits (md : Region.Mode) (ops : Array Oper) (i : Nat) : List Nat := match ops[i]? with | none => [] | some o => (o.after.toList.filter (Region.binds md)).map (·.on)
def unl : Nat → Array Bool → Nat
 | 0, _ => 0
 | k + 1, l => unl k l + (if l.getD k true = true then 0 else 1)
theorem unl_far {l : Array Bool} {i : Nat} : ∀ k, k ≤ i → unl k (l.setIfInBounds i true) = unl k l
 | 0, _ => rfl
 | k + 1, h => by
  have : (l.setIfInBounds i true).getD k true = l.getD k true := getD_set_ne true (by omega)
  have h2 := unl_far (l := l) (i := i) k (by omega)
  simp only [unl, this, h2]
theorem unl_set {l : Array Bool} {i : Nat} (h : l.getD i true = false) : ∀ k, i < k → unl k (l.setIfInBounds i true) + 1 = unl k l
 | 0, hk => absurd hk (by omega)
 | k + 1, hk => by
  by_cases hik : i = k
  ·subst hik
   have hlt : i < l.size := by
    rcases Nat.lt_or_ge i l.size with h' | h'
    ·exact h'
    ·simp [h'] at h
   have h1 : (l.setIfInBounds i true).getD i true = true := by simp [hlt]
   simp only [unl, unl_far i (Nat.le_refl _), h, h1]
   simp
  ·have h1 : (l.setIfInBounds i true).getD k true = l.getD k true := getD_set_ne true hik
   have := unl_set h k (by omega)
   simp only [unl, h1]
   omega
theorem unl_zero {l : Array Bool} : ∀ k, unl k l = 0 → ∀ i, i < k → l.getD i true = true
 | 0, _, i, hi => absurd hi (by omega)
 | k + 1, h, i, hi => by
  simp only [unl] at h
  by_cases hik : i = k
  ·subst hik
   by_cases hl : l.getD i true = true
   ·exact hl
   ·simp [hl] at h
  ·exact unl_zero k (by omega) i (by omega)
theorem getD_both {l : Array Bool} {i : Nat} (hi : i < l.size) : l.getD i true = l.getD i false := by simp [hi]
def lst (l : Array Bool) (i : Nat) : Bool := l.getD i false
theorem lst_same {l : Array Bool} {i : Nat} (h : i < l.size) : lst (l.setIfInBounds i true) i = true := by simp [lst, h]
theorem lst_ne {l : Array Bool} {i j : Nat} (h : j ≠ i) : lst (l.setIfInBounds i true) j = lst l j := getD_set_ne false (fun e => h e.symm)
theorem lst_start (n i : Nat) : lst (Array.replicate n false) i = false := by
 unfold lst
 rcases Nat.lt_or_ge i n with h | h
 ·simp [h]
 ·simp [h]
def GridStep (P : Program) (md : Region.Mode) (ops : Array Oper) (Q : Exit → Act → World → Prop) (ds : List (Nat × Nat)) (a0 : Act) (I : (Nat → Value) → Array Bool → World → Prop) (i : Nat) : Prop :=
 ∀ oi, ops[i]? = some oi → ∀ σ l w, l.size = ops.size → lst l i = false → (∀ d ∈ waits md ops i, lst l d = true) → I σ l w →
  ∀ K : Act → World → Prop, (∀ v w', I (upd σ i v) (l.setIfInBounds i true) w' → K ((puts ds σ a0).put oi.dst v) w') →
   if Region.wanted oi (yielded ops (puts ds σ a0).tmps) = true then Oper.wp P oi (puts ds σ a0) w K Q else K ((puts ds σ a0).put oi.dst undef) w
theorem wpAnyL_grid (ds : List (Nat × Nat)) (core : List Nat) (I : (Nat → Value) → Array Bool → World → Prop) (a0 : Act)
  (hback : (List.range ops.size).all (fun i => (waits md ops i).all (fun d => decide (d < i))) = true)
  (hstep : ∀ i ∈ core, GridStep P md ops Q ds a0 I i)
  (hput : ∀ i ∈ core, ∀ oi, ops[i]? = some oi → ∀ σ v, (puts ds σ a0).put oi.dst v = puts ds (upd σ i v) a0)
  (hS : ∀ σ l w, I σ l w → S l w)
  (hend : ∀ σ l w, (∀ i, i < ops.size → lst l i = true) → I σ l w → Q .normal (puts ds σ a0) w) :
  ∀ (fuel : Nat) (l : Array Bool) (σ : Nat → Value) (w : World), l.size = ops.size → unl ops.size l ≤ fuel → (∀ j, j < ops.size → j ∉ core → l.getD j true = true) → I σ l w →
   wpAnyL P md ops Q S fuel l (puts ds σ a0) w := by
 -- nothing is ready: all is listed
 have all : ∀ l : Array Bool, Region.ready md ops l = [] → ∀ i, i < ops.size → l.getD i true = true := by
  intro l hr i
  induction i using Nat.strongRecOn with
  | _ i ih =>
   intro hi
   by_cases hl : l.getD i true = true
   ·exact hl
   ·exfalso
    have : i ∈ Region.ready md ops l := by
     rw [mem_ready]
     refine ⟨by simpa using hl, ops[i], by simp [hi], fun e he hb => ?_⟩
     have hd : e.on ∈ waits md ops i := by
      unfold waits
      simp only [hi, getElem?_pos]
      exact List.mem_map.2 ⟨e, List.mem_filter.2 ⟨by simpa using he, hb⟩, rfl⟩
     have hlt : e.on < i := by
      have := List.all_eq_true.1 (List.all_eq_true.1 hback i (by simp [hi])) _ hd
      simpa using this
     have h1 := ih e.on hlt (by omega)
     rcases Nat.lt_or_ge e.on l.size with h' | h'
     ·rw [getD_both h'] at h1; exact h1
     ·exfalso
      -- not within: then i is not within, either
      have : l.getD i true = true := by simp [show l.size ≤ i by omega]
      exact hl this
    rw [hr] at this
    cases this
 intro fuel
 induction fuel with
 | zero =>
  intro l σ w hsz hf hcov hI
  have ha : ∀ i, i < ops.size → l.getD i true = true := unl_zero _ (by omega)
  have hr : Region.ready md ops l = [] := by
   refine List.eq_nil_iff_forall_not_mem.2 fun i hi => ?_
   obtain ⟨h1, o, ho, _⟩ := mem_ready.1 hi
   have hlt : i < ops.size := by
    rcases Nat.lt_or_ge i ops.size with h' | h'
    ·exact h'
    ·simp [h'] at ho
   rw [ha i hlt] at h1
   cases h1
  exact ⟨hr, hend σ l w (fun i hi => by unfold lst; rw [← getD_both (by omega)]; exact ha i hi) hI⟩
 | succ fuel ih =>
  intro l σ w hsz hf hcov hI
  refine ⟨fun hr => hend σ l w (fun i hi => by unfold lst; rw [← getD_both (by omega)]; exact all l hr i hi) hI, fun i hi => ?_⟩
  obtain ⟨h1, o, ho, hdep⟩ := mem_ready.1 hi
  have hlt : i < ops.size := by
   rcases Nat.lt_or_ge i ops.size with h' | h'
   ·exact h'
   ·simp [h'] at ho
  have hcore : i ∈ core := by
   by_cases hc : i ∈ core
   ·exact hc
   ·rw [hcov i hlt hc] at h1
    cases h1
  have hl0 : l.getD i false = false := by rw [← getD_both (by omega)]; exact h1
  have hw : ∀ d ∈ waits md ops i, l.getD d false = true := by
   intro d hd
   unfold waits at hd
   rw [ho] at hd
   obtain ⟨e, he, rfl⟩ := List.mem_map.1 hd
   obtain ⟨he, hb⟩ := List.mem_filter.1 he
   exact hdep e (by simpa using he) hb
  have step := hstep i hcore o ho σ l w hsz hl0 hw hI (fun a' w' => S (l.setIfInBounds i true) w' ∧ wpAnyL P md ops Q S fuel (l.setIfInBounds i true) a' w') (fun v w' hI' => by
   refine ⟨hS _ _ _ hI', ?_⟩
   rw [hput i hcore o ho σ v]
   refine ih _ _ _ (by simp [hsz]) ?_ (fun j hj hjc => ?_) hI'
   ·have := unl_set h1 ops.size hlt
    omega
   ·have hji : i ≠ j := fun e => by subst e; exact hjc hcore
    rw [getD_set_ne true hji]
    exact hcov j hj hjc)
  unfold wpOp
  simp only [ho]
  by_cases hwn : Region.wanted o (yielded ops (puts ds σ a0).tmps) = true
  ·rw [if_pos hwn] at step ⊢
   exact .inl step
  ·rw [if_neg hwn] at step ⊢
   exact step
theorem unl_le (l : Array Bool) : ∀ k, unl k l ≤ k
 | 0 => Nat.le_refl _
 | k + 1 => by
  have := unl_le l k
  simp only [unl]
  split <;> omega
theorem wpAnyL_grid0 (ds : List (Nat × Nat)) (I : (Nat → Value) → Array Bool → World → Prop) {a0 : Act} {w : World}
  (hback : (List.range ops.size).all (fun i => (waits md ops i).all (fun d => decide (d < i))) = true)
  (hundef : puts ds (fun _ => undef) a0 = a0)
  (hstep : ∀ i, i < ops.size → GridStep P md ops Q ds a0 I i)
  (hput : fits ops ds = true)
  (hS : ∀ σ l w, I σ l w → S l w)
  (hend : ∀ σ l w, (∀ i, i < ops.size → lst l i = true) → I σ l w → Q .normal (puts ds σ a0) w)
  (h0 : I (fun _ => undef) (Array.replicate ops.size false) w) : wpAnyL P md ops Q S ops.size (Array.replicate ops.size false) a0 w := by
 have h := wpAnyL_grid (P := P) (md := md) (ops := ops) (Q := Q) (S := S) ds (List.range ops.size) I a0 hback (fun i hi => hstep i (List.mem_range.1 hi)) (fun i hi => fits_put hput a0 i (List.mem_range.1 hi)) hS hend
  ops.size (Array.replicate ops.size false) (fun _ => undef) w (by simp) (unl_le _ _) (fun j hj hc => absurd (List.mem_range.2 hj) hc) h0
 rwa [hundef] at h
end
end Go.Proofs.YtildcdgobdfieaaGreat

namespace Go.Proofs.YtildcdgobdfieaaGreat
open Go.RowKit
theorem wr4 (w : World) (g : Nat) (u0 u1 u2 u3 : Value) : Wr [g] w ((((w.setCell ⟨g, 0, none⟩ u0).setCell ⟨g, 1, none⟩ u1).setCell ⟨g, 2, none⟩ u2).setCell ⟨g, 3, none⟩ u3) :=
 ((((Wr.refl [g] w).setOn (by simp) u0).setOn (by simp) u1).setOn (by simp) u2).setOn (by simp) u3
theorem blk4 (w : World) (g : Nat) (T : TypeId) (x0 x1 x2 x3 u0 u1 u2 u3 : Value) (h : Blk w g T #[x0, x1, x2, x3]) : Blk ((((w.setCell ⟨g, 0, none⟩ u0).setCell ⟨g, 1, none⟩ u1).setCell ⟨g, 2, none⟩ u2).setCell ⟨g, 3, none⟩ u3) g T #[u0, u1, u2, u3] := by
 have := (((h.set_ 0 u0).set_ 1 u1).set_ 2 u2).set_ 3 u3
 simpa using this
def clV (g : Nat) : Nat → Value
 | 0 => .pointer (some ⟨g, 1, none⟩)
 | 3 => .pointer (some ⟨g, 2, none⟩)
 | 6 => .pointer (some ⟨g, 3, none⟩)
 | 9 => .pointer (some ⟨g, 1, none⟩)
 | 11 => .pointer (some ⟨g, 2, none⟩)
 | 13 => .pointer (some ⟨g, 3, none⟩)
 | 10 => undef
 | 12 => undef
 | 14 => undef
 | _ => .slice none 0 0
structure ClI (m : ByteArray) (wd : World) (g : Nat) (σ : Nat → Value) (l : Array Bool) (w' : World) : Prop where
 v : ∀ j, lst l j = true → σ j = clV g j
 b : Blk w' g 55 #[.string m, .slice none 0 0, .slice none 0 0, .slice none 0 0]
 acc : Wr [g] wd w'
theorem ClI.step {m : ByteArray} {wd : World} {g : Nat} {σ : Nat → Value} {l : Array Bool} {w1 w2 : World} (h : ClI m wd g σ l w1) (i : Nat) (hb : Blk w2 g 55 #[.string m, .slice none 0 0, .slice none 0 0, .slice none 0 0]) (r : Wr [g] w1 w2) : ClI m wd g (upd σ i (clV g i)) (l.setIfInBounds i true) w2 := by
 refine ⟨fun j hj => ?_, hb, h.acc.trans r⟩
 by_cases hji : j = i
 ·subst hji
  exact upd_same _ _ _
 ·rw [upd_ne σ _ hji]
  rw [lst_ne hji] at hj
  exact h.v j hj
end Go.Proofs.YtildcdgobdfieaaGreat

namespace Go.Proofs.YtildcdgobdfieaaGreat
open Go.RowKit
end Go.Proofs.YtildcdgobdfieaaGreat

namespace Go.Proofs.YtildcdgobdfieaaGreat
open Go.RowKit
structure KV where
 sort : Nat
 n : Int
 t : Int
 s : ByteArray
def KV.is (x : KV) (k : Nat) : Bool := x.sort == k
def KV.num (x : KV) (k : Nat) : Int := if x.sort = k then x.n else 0
def KV.str (x : KV) : ByteArray := if x.sort = 5 then x.s else ⟨#[]⟩
def KV.val (x : KV) : Value :=
 if x.sort = 1 then .iface 176 (.int .i64 x.n) else if x.sort = 2 then .iface 177 (.int .u8 x.n) else if x.sort = 3 then .iface 178 (.bool (x.n == 1))
 else if x.sort = 4 then .iface 179 (.int .u16 x.n) else if x.sort = 5 then .iface 180 (.string x.s) else if x.sort = 6 then .iface 182 (.agg #[.int .i64 x.t, .int .i64 x.n])
 else if x.sort = 7 then .iface 184 (.agg #[]) else if x.sort = 8 then .iface 2 (.int .i64 x.n) else .nilIface
theorem as_self {T xT : TypeId} {u : TypeDesc} (hu : Tryz.prog.underlying T = some u) (hi : (match u with | .interface _ => true | _ => false) = false) (v : Value) (w : World) :
  (Instr.typeAssert (.iface T v) xT T true).run Tryz.prog w = .ok (.tuple #[v, .bool true]) w := by
 cases u <;> first | (cases hi; done) | simp [Instr.typeAssert, run_underlying hu]
theorem as_other {T xT t : TypeId} {u : TypeDesc} {z : Value} (hu : Tryz.prog.underlying T = some u) (hi : (match u with | .interface _ => true | _ => false) = false) (hz : ∀ w, (zeroValue T).run Tryz.prog w = .ok z w) (ht : t ≠ T) (v : Value) (w : World) :
  (Instr.typeAssert (.iface t v) xT T true).run Tryz.prog w = .ok (.tuple #[z, .bool false]) w := by
 cases u <;> first | (cases hi; done) | simp [Instr.typeAssert, run_underlying hu, ht, hz]
theorem as_nil {T xT : TypeId} {u : TypeDesc} {z : Value} (hu : Tryz.prog.underlying T = some u) (hi : (match u with | .interface _ => true | _ => false) = false) (hz : ∀ w, (zeroValue T).run Tryz.prog w = .ok z w) (w : World) :
  (Instr.typeAssert .nilIface xT T true).run Tryz.prog w = .ok (.tuple #[z, .bool false]) w := by
 cases u <;> first | (cases hi; done) | simp [Instr.typeAssert, run_underlying hu, hz]
end Go.Proofs.YtildcdgobdfieaaGreat

namespace Go.Proofs.YtildcdgobdfieaaGreat
open Go.RowKit
theorem flatF_at {α : Type} {g : α → List Value} {size : Nat} (hg : ∀ x, (g x).length = size) : ∀ (l : List α) (i j : Nat) (x : α), l[i]? = some x → j < size → (l.flatMap g)[i * size + j]? = (g x)[j]?
 | [], i, j, x, h, _ => by simp at h
 | y :: l, 0, j, x, h, hj => by
  simp only [qgzq, Option.some.injEq] at h
  subst h
  rw [List.flatMap_cons, Nat.zero_mul, Nat.zero_add, List.getElem?_append_left (by rw [hg]; exact hj)]
 | y :: l, i + 1, j, x, h, hj => by
  rw [qgsq] at h
  rw [List.flatMap_cons, List.getElem?_append_right (by rw [hg, Nat.succ_mul]; omega), hg, show (i + 1) * size + j - size = i * size + j by rw [Nat.succ_mul]; omega]
  exact flatF_at hg l i j x h hj
def AnyD.val : AnyD → Value
 | .nil => .nilIface
 | .whole n => .iface 176 (.int .i64 n)
 | .letter n => .iface 177 (.int .u8 n)
 | .truth b => .iface 178 (.bool b)
 | .bits n => .iface 179 (.int .u16 n)
 | .str s => .iface 180 (.string s)
 | .item t n => .iface 182 (.agg #[.int .i64 t, .int .i64 n])
 | .null => .iface 184 (.agg #[])
 | .other => .iface 9 (.string ⟨#[110, 111, 110, 101]⟩)
def AnyD.sort : AnyD → Nat
 | .nil => 0 | .whole _ => 1 | .letter _ => 2 | .truth _ => 3 | .bits _ => 4 | .str _ => 5 | .item _ _ => 6 | .null => 7 | .other => 8
def AnyD.wholeV : AnyD → Int | .whole n => n | _ => 0
def AnyD.letterV : AnyD → Int | .letter n => n | _ => 0
def AnyD.truthV : AnyD → Bool | .truth b => b | _ => false
def AnyD.bitsV : AnyD → Int | .bits n => n | _ => 0
def AnyD.strV : AnyD → ByteArray | .str s => s | _ => ⟨#[]⟩
def AnyD.itemT : AnyD → Int | .item t _ => t | _ => 0
def AnyD.itemN : AnyD → Int | .item _ n => n | _ => 0
theorem AnyD.val_one (v : AnyD) : v.val.oneCell' = true := by cases v <;> rfl
section
variable (v : AnyD) (w : World)
theorem anyAs_whole : (Instr.typeAssert v.val 20 176 true).run Tryz.prog w = .ok (.tuple #[.int .i64 v.wholeV, .bool (v.sort == 1)]) w := by
 cases v <;> simp only [AnyD.val, AnyD.wholeV, AnyD.sort] <;> first
  | (rw [as_self Tryz.underlying176 rfl]; rfl)
  | (rw [as_nil Tryz.underlying176 rfl Tryz.zeroValue176]; rfl)
  | (rw [as_other Tryz.underlying176 rfl Tryz.zeroValue176 (by decide)]; rfl)
theorem anyAs_letter : (Instr.typeAssert v.val 20 177 true).run Tryz.prog w = .ok (.tuple #[.int .u8 v.letterV, .bool (v.sort == 2)]) w := by
 cases v <;> simp only [AnyD.val, AnyD.letterV, AnyD.sort] <;> first
  | (rw [as_self Tryz.underlying177 rfl]; rfl)
  | (rw [as_nil Tryz.underlying177 rfl Tryz.zeroValue177]; rfl)
  | (rw [as_other Tryz.underlying177 rfl Tryz.zeroValue177 (by decide)]; rfl)
theorem anyAs_truth : (Instr.typeAssert v.val 20 178 true).run Tryz.prog w = .ok (.tuple #[.bool v.truthV, .bool (v.sort == 3)]) w := by
 cases v <;> simp only [AnyD.val, AnyD.truthV, AnyD.sort] <;> first
  | (rw [as_self Tryz.underlying178 rfl]; rfl)
  | (rw [as_nil Tryz.underlying178 rfl Tryz.zeroValue178]; rfl)
  | (rw [as_other Tryz.underlying178 rfl Tryz.zeroValue178 (by decide)]; rfl)
theorem anyAs_bits : (Instr.typeAssert v.val 20 179 true).run Tryz.prog w = .ok (.tuple #[.int .u16 v.bitsV, .bool (v.sort == 4)]) w := by
 cases v <;> simp only [AnyD.val, AnyD.bitsV, AnyD.sort] <;> first
  | (rw [as_self Tryz.underlying179 rfl]; rfl)
  | (rw [as_nil Tryz.underlying179 rfl Tryz.zeroValue179]; rfl)
  | (rw [as_other Tryz.underlying179 rfl Tryz.zeroValue179 (by decide)]; rfl)
theorem anyAs_string : (Instr.typeAssert v.val 20 180 true).run Tryz.prog w = .ok (.tuple #[.string v.strV, .bool (v.sort == 5)]) w := by
 cases v <;> simp only [AnyD.val, AnyD.strV, AnyD.sort] <;> first
  | (rw [as_self Tryz.underlying180 rfl]; rfl)
  | (rw [as_nil Tryz.underlying180 rfl Tryz.zeroValue180]; rfl)
  | (rw [as_other Tryz.underlying180 rfl Tryz.zeroValue180 (by decide)]; rfl)
theorem anyAs_item : (Instr.typeAssert v.val 20 182 true).run Tryz.prog w = .ok (.tuple #[.agg #[.int .i64 v.itemT, .int .i64 v.itemN], .bool (v.sort == 6)]) w := by
 cases v <;> simp only [AnyD.val, AnyD.itemT, AnyD.itemN, AnyD.sort] <;> first
  | (rw [as_self Tryz.underlying182 rfl]; rfl)
  | (rw [as_nil Tryz.underlying182 rfl Tryz.zeroValue182]; rfl)
  | (rw [as_other Tryz.underlying182 rfl Tryz.zeroValue182 (by decide)]; rfl)
theorem anyAs_null : (Instr.typeAssert v.val 20 184 true).run Tryz.prog w = .ok (.tuple #[.agg #[], .bool (v.sort == 7)]) w := by
 cases v <;> simp only [AnyD.val, AnyD.sort, AnyD.sort] <;> first
  | (rw [as_self Tryz.underlying184 rfl]; rfl)
  | (rw [as_nil Tryz.underlying184 rfl Tryz.zeroValue184]; rfl)
  | (rw [as_other Tryz.underlying184 rfl Tryz.zeroValue184 (by decide)]; rfl)
end
def ItmD.cells (x : ItmD) : List Value := [.string x.name, .int .u8 x.kind, .int .i64 x.type, x.v.val, .int .i64 x.at_]
theorem itm_len (x : ItmD) : x.cells.length = 5 := rfl
def UseD.cellsF (u : UseD) : List Value := [.string u.module, .int .u64 u.key]
theorem useF_len (x : UseD) : x.cellsF.length = 2 := rfl
def SlItms (w : World) (P : Nat → Prop) (v : Value) (l : List ItmD) : Prop := Sl w P 5 v l.length (l.flatMap ItmD.cells)
def SlUsesF (w : World) (P : Nat → Prop) (v : Value) (l : List UseD) : Prop := Sl w P 2 v l.length (l.flatMap UseD.cellsF)
def SlTys (w : World) (P : Nat → Prop) (v : Value) (l : List Ty) : Prop :=
 ∃ xs, Sl w P 12 v l.length xs ∧ (∀ u ∈ xs, u.oneCell' = true) ∧ ∀ i t, l[i]? = some t → ∃ vn vf va vp, (∀ j u, (t.cells vn vf va vp)[j]? = some u → xs[i * 12 + j]? = some u) ∧ Lists w P vn vf va vp t
structure FaceL (w : World) (P : Nat → Prop) (vu vt vi : Value) (f : FaceD) : Prop where
 uses : SlUsesF w P vu f.uses
 types : SlTys w P vt f.types
 items : SlItms w P vi f.items
def FaceD.val (f : FaceD) (vu vt vi : Value) : Value := .agg #[.string f.module, vu, vt, vi]
section
variable {w w' : World} {P Q : Nat → Prop} {v vu vt vi : Value}
theorem SlTys.keep {ls : List Nat} {l : List Ty} (h : SlTys w P v l) (hw : Wr ls w w') (hP : ∀ b, P b → b ∉ ls) : SlTys w' P v l := by
 obtain ⟨xs, h1, h2, h3⟩ := h
 refine ⟨xs, h1.keep hw hP, h2, fun i o hi => ?_⟩
 obtain ⟨vn, vf, va, vp, e1, e2⟩ := h3 i o hi
 exact ⟨vn, vf, va, vp, e1, e2.keep hw hP⟩
theorem SlTys.wr0 {l : List Ty} (h : SlTys w P v l) (hw : Wr [] w w') : SlTys w' P v l := h.keep hw (fun _ _ => by simp)
theorem SlTys.into {l : List Ty} (h : SlTys w P v l) (hP : ∀ b, P b → b < w.heap.size → Q b) : SlTys w Q v l := by
 obtain ⟨xs, h1, h2, h3⟩ := h
 refine ⟨xs, h1.into hP, h2, fun i o hi => ?_⟩
 obtain ⟨vn, vf, va, vp, e1, e2⟩ := h3 i o hi
 exact ⟨vn, vf, va, vp, e1, e2.into hP⟩
theorem SlTys.form {l : List Ty} (h : SlTys w P v l) : ∃ A c, v = .slice A l.length c ∧ l.length ≤ c ∧ c ≤ maxLen := by
 obtain ⟨xs, h1, h2, h3⟩ := h
 exact h1.form
theorem SlTys.nil (w : World) (P : Nat → Prop) : SlTys w P (.slice none 0 0) [] := ⟨[], Sl.nil _ _ _, by simp, fun i t h => by simp at h⟩
theorem ty_at {l : List Ty} (h : SlTys w P v l) {i : Nat} {t : Ty} (hi : l[i]? = some t) : ∃ b off c vn vf va vp, v = .slice (some ⟨b, off, none⟩) l.length c ∧ P b ∧ (∀ j u, (t.cells vn vf va vp)[j]? = some u → w.cell? ⟨b, off + i * 12 + j, none⟩ = some u) ∧ Lists w P vn vf va vp t := by
 obtain ⟨xs, h1, h2, h3⟩ := h
 obtain ⟨vn, vf, va, vp, e1, e2⟩ := h3 i t hi
 obtain ⟨b, off, c, e, _, _, hP, h4⟩ := Sl.thing h1 (by decide) (List.getElem?_eq_some_iff.1 hi).1
 refine ⟨b, off, c, vn, vf, va, vp, e, hP, fun j u hj => ?_, e2⟩
 have hj9 : j < 12 := (List.getElem?_eq_some_iff.1 hj).1
 rw [Nat.add_assoc]
 exact h4 j u hj9 (e1 j u hj)
theorem itm_at {l : List ItmD} (h : SlItms w P v l) {i : Nat} {x : ItmD} (hi : l[i]? = some x) : ∃ b off c, v = .slice (some ⟨b, off, none⟩) l.length c ∧ P b ∧ ∀ j u, x.cells[j]? = some u → w.cell? ⟨b, off + i * 5 + j, none⟩ = some u := by
 obtain ⟨b, off, c, e, _, _, hP, h4⟩ := Sl.thing h (by decide) (List.getElem?_eq_some_iff.1 hi).1
 refine ⟨b, off, c, e, hP, fun j u hj => ?_⟩
 have hj5 : j < 5 := (List.getElem?_eq_some_iff.1 hj).1
 rw [Nat.add_assoc]
 exact h4 j u hj5 (by rw [flatF_at itm_len l i j x hi hj5]; exact hj)
theorem useF_at {l : List UseD} (h : SlUsesF w P v l) {i : Nat} {x : UseD} (hi : l[i]? = some x) : ∃ b off c, v = .slice (some ⟨b, off, none⟩) l.length c ∧ P b ∧ ∀ j u, x.cellsF[j]? = some u → w.cell? ⟨b, off + i * 2 + j, none⟩ = some u := by
 obtain ⟨b, off, c, e, _, _, hP, h4⟩ := Sl.thing h (by decide) (List.getElem?_eq_some_iff.1 hi).1
 refine ⟨b, off, c, e, hP, fun j u hj => ?_⟩
 have hj5 : j < 2 := (List.getElem?_eq_some_iff.1 hj).1
 rw [Nat.add_assoc]
 exact h4 j u hj5 (by rw [flatF_at useF_len l i j x hi hj5]; exact hj)
theorem FaceL.keep {ls : List Nat} {f : FaceD} (h : FaceL w P vu vt vi f) (hw : Wr ls w w') (hP : ∀ b, P b → b ∉ ls) : FaceL w' P vu vt vi f := ⟨Sl.keep h.uses hw hP, h.types.keep hw hP, Sl.keep h.items hw hP⟩
theorem FaceL.wr0 {f : FaceD} (h : FaceL w P vu vt vi f) (hw : Wr [] w w') : FaceL w' P vu vt vi f := h.keep hw (fun _ _ => by simp)
theorem FaceL.into {f : FaceD} (h : FaceL w P vu vt vi f) (hP : ∀ b, P b → b < w.heap.size → Q b) : FaceL w Q vu vt vi f := ⟨Sl.into h.uses hP, h.types.into hP, Sl.into h.items hP⟩
end
theorem short_list {l : List ByteArray} {ev : Nat → ByteArray} (h : ∀ (i : Nat) (s : ByteArray), l[i]? = some s → ev i = s) : (!anyB l.length fun i => decide (((ev i).size : Int) > 255)) = l.all shB := by
 unfold anyB shB
 rw [Bool.eq_iff_iff]
 simp only [Bool.not_eq_true', List.any_eq_false, List.all_eq_true, List.mem_range, decide_eq_true_eq]
 constructor
 ·intro h1 s hs
  obtain ⟨i, hi⟩ := List.getElem?_of_mem hs
  have := h1 i (List.getElem?_eq_some_iff.1 hi).1
  rw [h i s hi] at this
  omega
 ·intro h1 i hi
  have := h1 _ (List.getElem_mem hi)
  rw [h i _ (List.getElem?_eq_getElem hi)]
  omega
theorem SlStrs.cellsAt {w : World} {P : Nat → Prop} {A : Option Addr} {c : Nat} {l : List ByteArray} (h : SlStrs w P (.slice A l.length c) l) : CellsAt w A l.length (fun i => .string ((l[i]?).getD ⟨#[]⟩)) := by
 intro i hi
 obtain ⟨b, off, c', e, _, _, _, hc⟩ := Sl.at_ h (j := i) (u := .string l[i]) (by rw [List.getElem?_map, List.getElem?_eq_getElem hi]; rfl)
 injection e with e1 _ _
 exact ⟨b, off, e1, by rw [hc]; simp [List.getElem?_eq_getElem hi]⟩
theorem SlInts.cellsAt {w : World} {P : Nat → Prop} {A : Option Addr} {c : Nat} {l : List Int} (h : SlInts w P (.slice A l.length c) l) : CellsAt w A l.length (fun i => .int .i64 ((l[i]?).getD 0)) := by
 intro i hi
 obtain ⟨b, off, c', e, _, _, _, hc⟩ := Sl.at_ h (j := i) (u := .int .i64 l[i]) (by rw [List.getElem?_map, List.getElem?_eq_getElem hi]; rfl)
 injection e with e1 _ _
 exact ⟨b, off, e1, by rw [hc]; simp [List.getElem?_eq_getElem hi]⟩
theorem blk_cells {w : World} {g : Nat} {t : TypeId} {cs : Array Value} {n : Nat} {ev : Nat → Value} (h : Blk w g t cs) (hn : ∀ i, i < n → cs[i]? = some (ev i)) : CellsAt w (some ⟨g, 0, none⟩) n ev := fun i hi => ⟨g, 0, rfl, by rw [Nat.zero_add, h.cell]; exact hn i hi⟩
end Go.Proofs.YtildcdgobdfieaaGreat
