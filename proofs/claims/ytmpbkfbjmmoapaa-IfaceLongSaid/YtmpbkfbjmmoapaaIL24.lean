/- Canon's closure: what its variables hold. No conditions. -/
import Derived.Test.YtmpbkfbjmmoapaaIL15
import Derived.Test.YtmpbkfbjmmoapaaIL23
namespace Go.Proofs.Ytmpbkfbjmmoapaa
open Go.RowKit
set_option linter.unusedVariables false
set_option linter.unusedSimpArgs false
theorem meets_append {kd : Int → List Int} (k : Nat) : ∀ (l m ord : List Int), meets kd k (l ++ m) ord = meets kd k m (meets kd k l ord) := by
  cases k with
  | zero => intro l m ord; rfl
  | succ k =>
    intro l
    induction l with
    | nil => intro m ord; rw [List.nil_append, meets_nil]
    | cons x l ih => intro m ord; rw [List.cons_append, meets_cons, meets_cons, ih]
theorem meets_drop {kd : Int → List Int} {k j : Nat} {l : List Int} {n : Int} {ord : List Int} (h : l[j]? = some n) : meets kd (k + 1) (l.drop j) ord = meets kd (k + 1) (l.drop (j + 1)) (if n < 10 ∨ n ∈ ord then ord else meets kd k (kd n) (ord ++ [n])) := by
  have hk := (List.getElem?_eq_some_iff.1 h).1
  have e : l[j] = n := (List.getElem?_eq_some_iff.1 h).2
  conv => lhs; rw [List.drop_eq_getElem_cons hk, meets_cons]
  rw [e]
/-- The map from numbers to numbers anew. -/
def numsOf (ord : List Int) (n : Int) : Option Value := (ord.idxOf? n).map fun k => .int .i64 (10 + (k : Int))
theorem idx_push {ord : List Int} {n : Int} (h : n ∉ ord) (j : Int) : (ord ++ [n]).idxOf? j = if j = n then some ord.length else ord.idxOf? j := by
  induction ord with
  | nil =>
    by_cases hj : j = n
    · subst hj
      simp [List.idxOf?]
    · have : (n == j) = false := by simpa using fun e => hj e.symm
      simp [List.idxOf?, hj, this]
  | cons x l ih =>
    have hx : x ≠ n := fun e => h (by simp [e])
    have hl : n ∉ l := fun e => h (by simp [e])
    rw [List.cons_append, List.idxOf?_cons, ih hl]
    by_cases hxj : x = j
    · subst hxj
      rw [if_neg hx]
      simp [List.idxOf?_cons, hx]
    · have hb : (x == j) = false := by simpa using hxj
      by_cases hj : j = n
      · subst hj
        simp [hb]
      · simp [hb, hj, List.idxOf?_cons]
theorem numsOf_push {ord : List Int} {n : Int} (h : n ∉ ord) : (fun j => if j = n then some (Value.int .i64 (10 + (ord.length : Int))) else numsOf ord j) = numsOf (ord ++ [n]) := by
  funext j
  unfold numsOf
  rw [idx_push h]
  by_cases hj : j = n
  · rw [if_pos hj, if_pos hj]
    rfl
  · rw [if_neg hj, if_neg hj]
theorem numsOf_out {ord : List Int} {n : Int} (h : n ∉ ord) : numsOf ord n = none := by
  unfold numsOf
  have : ord.idxOf? n = none := by simpa using h
  rw [this]
  rfl
theorem numsOf_in {ord : List Int} {n : Int} (h : n ∈ ord) : numsOf ord n = some (.int .i64 (anewN ord n)) := by
  obtain ⟨k, h1, _⟩ := idx_some h
  unfold numsOf anewN
  rw [h1]
  rfl
/-- Where the closure's variables lie: blocks from B on are those behind the copy. -/
structure CC where
  B : Nat
  pn : Nat
  po : Nat
  pi : Nat
  pm : Nat
  gn : Nat
def CC.blocks (c : CC) : List Nat := [c.pn, c.po, c.pm, c.gn]
def CC.caps (c : CC) : Array Value := #[.pointer (some ⟨c.pn, 0, none⟩), .pointer (some ⟨c.po, 0, none⟩), .pointer (some ⟨c.pi, 0, none⟩), .pointer (some ⟨c.pm, 0, none⟩)]
structure CC.wf (c : CC) : Prop where
  nodup : c.blocks.Nodup
  low : ∀ b ∈ c.blocks, c.B ≤ b
theorem CC.wf.ne {c : CC} (hc : c.wf) : c.pn ≠ c.po ∧ c.pn ≠ c.pm ∧ c.pn ≠ c.gn ∧ c.po ≠ c.pm ∧ c.po ≠ c.gn ∧ c.pm ≠ c.gn := by
  have h := hc.nodup
  unfold CC.blocks at h
  simp only [List.nodup_cons, List.mem_cons, List.not_mem_nil, or_false, not_or] at h
  obtain ⟨⟨a1, a2, a3⟩, ⟨b1, b2⟩, c1, _⟩ := h
  exact ⟨a1, a2, a3, b1, b2, c1⟩
structure CEnv (c : CC) (w0 : World) (nt : Nat) (ord : List Int) (vo : Value) (w : World) : Prop where
  bel : Below c.B w0 w
  bn : Blk w c.pn 83 #[.map (some c.gn)]
  bo : Blk w c.po 84 #[vo]
  bm : Blk w c.pm 85 #[.func (.func 28) #[] c.caps]
  mn : MapI w c.gn (numsOf ord)
  own : w.ownsRow c.B 3 1 vo ord.length (ord.map (Value.int .i64))
  far : ∀ b, vo.ownBlock = some b → b ∉ c.blocks
  nodup : ord.Nodup
  sub : ∀ x ∈ ord, x ∈ nums nt ∧ 10 ≤ x
/-- What a call of the closure may have done. -/
structure CStep (c : CC) (vo : Value) (w : World) (vo' : Value) (w' : World) : Prop where
  wr : Wr (c.gn :: c.po :: ownL vo) w w'
  own : ∀ g, vo'.ownBlock = some g → vo.ownBlock = some g ∨ w.heap.size ≤ g
/-- A block that it leaves alone. -/
structure CSafe (c : CC) (vo : Value) (w : World) (g : Nat) : Prop where
  lt : g < w.heap.size
  n1 : g ≠ c.gn
  n2 : g ≠ c.po
  n3 : vo.ownBlock ≠ some g
section
variable {c : CC} {w0 w w1 w2 W : World} {nt : Nat} {ord ord' : List Int} {vo vo1 vo2 : Value} {g : Nat}
theorem CStep.refl (c : CC) (vo : Value) (w : World) : CStep c vo w vo w := ⟨Wr.refl _ _, fun g h => .inl h⟩
theorem CStep.trans (h : CStep c vo w vo1 w1) (k : CStep c vo1 w1 vo2 w2) : CStep c vo w vo2 w2 := by
  refine ⟨h.wr.trans' k.wr (fun x hx => ?_), fun g hg => ?_⟩
  · simp only [List.mem_cons] at hx ⊢
    rcases hx with hx | hx | hx
    · exact .inl (.inl hx)
    · exact .inl (.inr (.inl hx))
    · rcases h.own x (mem_ownL.1 hx) with h1 | h1
      · exact .inl (.inr (.inr (mem_ownL.2 h1)))
      · exact .inr h1
  · rcases k.own g hg with h1 | h1
    · exact h.own g h1
    · exact .inr (Nat.le_trans h.wr.size h1)
theorem CStep.wr0 (h : CStep c vo w vo1 w1) (r : Wr [] w1 w2) : CStep c vo w vo1 w2 := ⟨h.wr.trans0 r, h.own⟩
theorem CStep.of0 (r : Wr [] w w1) : CStep c vo w vo w1 := ⟨r.nil, fun g h => .inl h⟩
theorem CSafe.step (h : CSafe c vo w g) (k : CStep c vo w vo1 w1) : CSafe c vo1 w1 g := by
  refine ⟨Nat.lt_of_lt_of_le h.lt k.wr.size, h.n1, h.n2, fun e => ?_⟩
  rcases k.own g e with h1 | h1
  · exact h.n3 h1
  · have := h.lt; omega
theorem CSafe.not (h : CSafe c vo w g) : g ∉ c.gn :: c.po :: ownL vo := by
  simp only [List.mem_cons, not_or]
  exact ⟨h.n1, h.n2, fun e => h.n3 (mem_ownL.1 e)⟩
theorem CSafe.blk {T : TypeId} {cs : Array Value} (h : CSafe c vo w g) (k : CStep c vo w vo1 w1) (hb : Blk w g T cs) : Blk w1 g T cs := hb.wr k.wr h.not
theorem CSafe.cell {o : Nat} {v : Value} (h : CSafe c vo w g) (k : CStep c vo w vo1 w1) (hb : w.cell? ⟨g, o, none⟩ = some v) : w1.cell? ⟨g, o, none⟩ = some v := k.wr.cellOf hb h.not
theorem CEnv.size (h : CEnv c w0 nt ord vo w) (hB : c.B ≤ w0.heap.size) : c.B ≤ w.heap.size := Nat.le_trans hB h.bel.size
/-- A block that is new. -/
theorem CEnv.safeNew (h : CEnv c w0 nt ord vo w) (o : Obj) : CSafe c vo (w.alloc o) w.heap.size := by
  refine ⟨by simp, fun e => ?_, fun e => ?_, fun e => ?_⟩
  · have := h.mn.lt; omega
  · have := h.bo.lt; omega
  · have := (h.own.lt _ e).2; omega
theorem CEnv.wr0 (h : CEnv c w0 nt ord vo w) (hB : c.B ≤ w0.heap.size) (hw : Wr [] w W) : CEnv c w0 nt ord vo W :=
  ⟨h.bel.trans (hw.below (h.size hB) (fun _ hx => by cases hx)), h.bn.wr0 hw, h.bo.wr0 hw, h.bm.wr0 hw, h.mn.wr hw (by simp), own_keep h.own hw (fun _ _ => by simp), h.far, h.nodup, h.sub⟩
theorem CEnv.len (h : CEnv c w0 nt ord vo w) : ord.length ≤ nt := by
  have := len_sub ord (nums nt) h.nodup (fun x hx => (h.sub x hx).1)
  simpa [nums] using this
/-- One more is met: first the map, then the row. -/
theorem CEnv.push (hc : c.wf) (h : CEnv c w0 nt ord vo w) (hB : c.B ≤ w0.heap.size) {n : Int} (hn : n ∉ ord) (hT : n ∈ nums nt) (h10 : 10 ≤ n) {W1 W2 W3 : World} {v' : Value}
    (k1 : Wr [c.gn] w W1) (hm : MapI W1 c.gn (fun j => if j = n then some (.int .i64 (10 + (ord.length : Int))) else numsOf ord j)) (k2 : Wr [] W1 W2)
    (hown : W3.ownsRow c.B 3 1 v' (ord.length + 1) (ord.map (Value.int .i64) ++ [.int .i64 n])) (hg : W2.grownBy W3 vo.ownBlock) (hb : v'.ownBlock = vo.ownBlock ∨ v'.ownBlock = some W2.heap.size) :
    CEnv c w0 nt (ord ++ [n]) v' (W3.setCell ⟨c.po, 0, none⟩ v') ∧ CStep c vo w v' (W3.setCell ⟨c.po, 0, none⟩ v') := by
  obtain ⟨n1, n2, n3, n4, n5, n6⟩ := hc.ne
  have k3 : Wr (ownL vo) W2 W3 := Wr.ofGrownOwn hg
  have hf : ∀ b, b ∈ c.blocks → b ∉ ownL vo := fun b hb hx => h.far b (mem_ownL.1 hx) hb
  have hpo : c.B ≤ c.po := hc.low _ (by simp [CC.blocks])
  have hgn : c.B ≤ c.gn := hc.low _ (by simp [CC.blocks])
  have hlt : ∀ b, b ∈ c.blocks → b < w.heap.size := fun b hm => by
    simp only [CC.blocks, List.mem_cons, List.not_mem_nil, or_false] at hm
    rcases hm with rfl | rfl | rfl | rfl
    · exact h.bn.lt
    · exact h.bo.lt
    · exact h.bm.lt
    · exact h.mn.lt
  have s12 := Nat.le_trans k1.size k2.size
  have hbv : ∀ b, v'.ownBlock = some b → b ∉ c.blocks := fun b hb' hm => by
    rcases hb with h1 | h1
    · exact h.far b (h1 ▸ hb') hm
    · rw [h1] at hb'
      injection hb' with hb'
      have := hlt b hm
      omega
  have k4 : Wr [c.po] W3 (W3.setCell ⟨c.po, 0, none⟩ v') := (Wr.refl [c.po] W3).setOn (by simp) v'
  have m0 : MapI W1 c.gn (numsOf (ord ++ [n])) := by rw [← numsOf_push hn]; exact hm
  have lows : ∀ b, vo.ownBlock = some b → c.B ≤ b := fun b hb => (h.own.lt b hb).1
  refine ⟨⟨?_, ((((h.bn.wr k1 (by simpa using n3)).wr0 k2).wr k3 (hf _ (by simp [CC.blocks]))).wr k4 (by simpa using n1)), ?_, ((((h.bm.wr k1 (by simpa using n6)).wr0 k2).wr k3 (hf _ (by simp [CC.blocks]))).wr k4 (by simpa using fun e => n4 e.symm)), ((m0.wr k2 (by simp)).wr k3 (hf _ (by simp [CC.blocks]))).wr k4 (by simpa using fun e => n5 e.symm), ?_, hbv, ?_, ?_⟩, ⟨?_, ?_⟩⟩
  · have b1 : Below c.B w W1 := k1.below (h.size hB) (fun x hx => by rw [List.mem_singleton] at hx; rw [hx]; exact hgn)
    have b2 : Below c.B W1 W2 := k2.below (Nat.le_trans (h.size hB) k1.size) (fun x hx => by cases hx)
    have b3 : Below c.B W2 W3 := k3.below (Nat.le_trans (h.size hB) s12) (fun x hx => lows x (mem_ownL.1 hx))
    have b4 : Below c.B W3 (W3.setCell ⟨c.po, 0, none⟩ v') := k4.below (Nat.le_trans (h.size hB) (Nat.le_trans s12 k3.size)) (fun x hx => by rw [List.mem_singleton] at hx; rw [hx]; exact hpo)
    exact (((h.bel.trans b1).trans b2).trans b3).trans b4
  · have := (((h.bo.wr k1 (by simpa using n5)).wr0 k2).wr k3 (hf _ (by simp [CC.blocks]))).set_ 0 v'
    simpa using this
  · rw [List.length_append, List.map_append]
    exact own_keep hown k4 (fun b hb hx => hbv b hb (by rw [List.mem_singleton] at hx; rw [hx]; simp [CC.blocks]))
  · rw [List.nodup_append]
    refine ⟨h.nodup, by simp, fun a ha b hb e => ?_⟩
    rw [List.mem_singleton] at hb
    subst hb
    subst e
    exact hn ha
  · intro x hx
    rcases List.mem_append.1 hx with h1 | h1
    · exact h.sub x h1
    · rw [List.mem_singleton] at h1
      rw [h1]
      exact ⟨hT, h10⟩
  · refine (((k1.more (fun x hx => by rw [List.mem_singleton] at hx; simp [hx])).trans0 k2).trans (k3.more (fun x hx => by simp [hx]))).trans (k4.more (fun x hx => by rw [List.mem_singleton] at hx; simp [hx]))
  · intro x hx
    rcases hb with h1 | h1
    · exact .inl (h1 ▸ hx)
    · rw [h1] at hx
      injection hx with hx
      exact .inr (by omega)
end
/-- What the closure answers. -/
def MetR (c : CC) (w0 : World) (nt : Nat) (ord : List Int) (vo : Value) (w : World) (e : Ending) (w' : World) : Prop :=
  e = .returned (.tuple #[]) ∧ ∃ vo', CEnv c w0 nt ord vo' w' ∧ CStep c vo w vo' w'
end Go.Proofs.Ytmpbkfbjmmoapaa
