/- Small words for worlds: a block that is known whole, what a call may write, and the laws of the walk that the kit lacks. No conditions. -/
import Derived.Test.YtjanbpchedgoiaaRows
import Derived.WalkKit
import Derived.WalkSpells
import Derived.WalkLawsBesides
import Derived.BigQuiet
import Derived.BigRegion
import Derived.Deep.QuietTactic
import Derived.Lib.Hide
namespace Go.Proofs.Ytjanbpchedgoiaa
open Go.RowKit

/-- What a call may have done: new blocks, and the blocks of the list written. -/
structure Wr (l : List Nat) (w w' : World) : Prop where
  os : w'.os = w.os
  tape : w'.tape = w.tape
  output : w'.output = w.output
  size : w.heap.size ≤ w'.heap.size
  block : ∀ k, k < w.heap.size → k ∉ l → w'.heap[k]? = w.heap[k]?

theorem Wr.refl (l : List Nat) (w : World) : Wr l w w := ⟨rfl, rfl, rfl, Nat.le_refl _, fun _ _ _ => rfl⟩

/-- Two steps: what the second one writes is on the list, or new since the first. -/
theorem Wr.trans' {l l' : List Nat} {a b c : World} (h : Wr l a b) (k : Wr l' b c) (hl : ∀ x, x ∈ l' → x ∈ l ∨ a.heap.size ≤ x) : Wr l a c :=
  ⟨k.os.trans h.os, k.tape.trans h.tape, k.output.trans h.output, Nat.le_trans h.size k.size, fun i hi hn =>
    (k.block i (Nat.lt_of_lt_of_le hi h.size) (fun hm => by rcases hl i hm with h1 | h1; exact hn h1; omega)).trans (h.block i hi hn)⟩
theorem Wr.trans {l : List Nat} {a b c : World} (h : Wr l a b) (k : Wr l b c) : Wr l a c := h.trans' k (fun _ hx => .inl hx)
theorem Wr.trans0 {l : List Nat} {a b c : World} (h : Wr l a b) (k : Wr [] b c) : Wr l a c := h.trans' k (fun _ hx => by cases hx)
theorem Wr.more {l l' : List Nat} {a b : World} (h : Wr l a b) (hl : ∀ x, x ∈ l → x ∈ l') : Wr l' a b :=
  ⟨h.os, h.tape, h.output, h.size, fun i hi hn => h.block i hi (fun hm => hn (hl i hm))⟩
theorem Wr.nil {l : List Nat} {a b : World} (h : Wr [] a b) : Wr l a b := h.more (fun _ hx => by cases hx)
theorem Wr.drew {l : List Nat} {a w : World} (h : Wr l a w) : Wr l a w.drew := ⟨h.os, h.tape, h.output, h.size, h.block⟩
theorem Wr.drewN {l : List Nat} {a w : World} (h : Wr l a w) (n : Nat) : Wr l a (w.drewN n) := ⟨h.os, h.tape, h.output, h.size, h.block⟩
theorem Wr.alloc {l : List Nat} {a w : World} (h : Wr l a w) (o : Obj) : Wr l a (w.alloc o) :=
  ⟨h.os, h.tape, h.output, by have := h.size; simp; omega, fun i hi hn => (Below.heap_alloc w o i (Nat.lt_of_lt_of_le hi h.size)).trans (h.block i hi hn)⟩
theorem Wr.setCell {l : List Nat} {a w : World} (h : Wr l a w) {p : Addr} (hp : p.block ∈ l ∨ a.heap.size ≤ p.block) (u : Value) : Wr l a (w.setCell p u) :=
  ⟨h.os, h.tape, h.output, by have := h.size; simp; omega, fun i hi hn => (Below.heap_setCell w p u i (fun e => by subst e; rcases hp with h1 | h1; exact hn h1; omega)).trans (h.block i hi hn)⟩
theorem Wr.setOn {l : List Nat} {a w : World} (h : Wr l a w) {b o : Nat} (hp : b ∈ l) (u : Value) : Wr l a (w.setCell ⟨b, o, none⟩ u) := h.setCell (.inl hp) u
theorem Wr.setNew {l : List Nat} {a w : World} (h : Wr l a w) {b o : Nat} (hp : a.heap.size ≤ b) (u : Value) : Wr l a (w.setCell ⟨b, o, none⟩ u) := h.setCell (.inr hp) u
theorem Wr.below {l : List Nat} {w w' : World} (h : Wr l w w') {B : Nat} (hB : B ≤ w.heap.size) (hl : ∀ x, x ∈ l → B ≤ x) : Below B w w' :=
  ⟨h.os, h.tape, h.output, h.size, fun k hk => h.block k (by omega) (fun hm => by have := hl k hm; omega)⟩
theorem Wr.ofBelow {w w' : World} (h : Below w.heap.size w w') : Wr [] w w' := ⟨h.os, h.tape, h.output, h.size, fun k hk _ => h.block k hk⟩
theorem Wr.toBelow {w w' : World} (h : Wr [] w w') : Below w.heap.size w w' := h.below (Nat.le_refl _) (fun _ hx => by cases hx)
theorem Wr.cell {l : List Nat} {w w' : World} (h : Wr l w w') {p : Addr} (hp : p.block < w.heap.size) (hn : p.block ∉ l) : w'.cell? p = w.cell? p :=
  World.cell?_of_block (h.block p.block hp hn)
theorem Wr.cellOf {l : List Nat} {w w' : World} (h : Wr l w w') {p : Addr} {v : Value} (hc : w.cell? p = some v) (hn : p.block ∉ l) : w'.cell? p = some v :=
  (h.cell (World.block_lt_of_cell? w p hc) hn).trans hc
theorem Wr.frozenOf {l : List Nat} {w w' : World} (h : Wr l w w') {p : Addr} {v : Value} {f : Bool} (hc : w.cell? p = some v) (hf : w.frozen? p = f) (hn : p.block ∉ l) : w'.frozen? p = f :=
  (World.frozen?_of_block (h.block p.block (World.block_lt_of_cell? w p hc) hn)).trans hf
theorem Wr.ofGrown {w w' : World} {row : Option Nat} (h : w.grownBy w' row) {l : List Nat} (hr : ∀ k, row = some k → k ∈ l) : Wr l w w' :=
  ⟨h.os, h.tape, h.output, h.size, fun k hk hn => h.block k hk (fun e => hn (hr k e.symm))⟩

theorem Wr.new {l : List Nat} {a b c : World} {g : Nat} (h : Wr l a b) (k : Wr [g] b c) (hg : a.heap.size ≤ g) : Wr l a c :=
  h.trans' k (fun x hx => .inr (by rw [List.mem_singleton] at hx; omega))
theorem Wr.on {l : List Nat} {a b c : World} {g : Nat} (h : Wr l a b) (k : Wr [g] b c) (hg : g ∈ l) : Wr l a c :=
  h.trans' k (fun x hx => .inl (by rw [List.mem_singleton] at hx; subst hx; exact hg))

/-- Block g is just these cells, none frozen. -/
def Blk (w : World) (g : Nat) (t : TypeId) (cs : Array Value) : Prop := w.heap[g]? = some (.cells cs t (0, 0))
section
variable {w w' : World} {g : Nat} {t : TypeId} {cs : Array Value}
theorem Blk.lt (h : Blk w g t cs) : g < w.heap.size := by
  rcases Nat.lt_or_ge g w.heap.size with hlt | hge
  · exact hlt
  · unfold Blk at h; rw [Array.getElem?_eq_none hge] at h; cases h
theorem Blk.cell (h : Blk w g t cs) (i : Nat) : w.cell? ⟨g, i, none⟩ = cs[i]? := cell_of_row w g i cs t (0, 0) h
theorem Blk.frozen (h : Blk w g t cs) (i : Nat) : w.frozen? ⟨g, i, none⟩ = false := by
  unfold Blk at h
  simp [World.frozen?, h]
theorem Blk.new (w : World) (t : TypeId) (cs : Array Value) : Blk (w.alloc (.cells cs t)) w.heap.size t cs := heap_alloc_new w _
theorem Blk.drew (h : Blk w g t cs) : Blk w.drew g t cs := h
theorem Blk.drewN (h : Blk w g t cs) (n : Nat) : Blk (w.drewN n) g t cs := h
theorem Blk.alloc (h : Blk w g t cs) (o : Obj) : Blk (w.alloc o) g t cs := (Below.heap_alloc w o g h.lt).trans h
theorem Blk.set_ (h : Blk w g t cs) (i : Nat) (u : Value) : Blk (w.setCell ⟨g, i, none⟩ u) g t (cs.setIfInBounds i u) := by
  unfold Blk at h ⊢
  simp [World.setCell, Array.getElem?_modify, h]
theorem Blk.far (h : Blk w g t cs) {p : Addr} (hp : g ≠ p.block) (u : Value) : Blk (w.setCell p u) g t cs := (Below.heap_setCell w p u g hp).trans h
theorem Blk.wr {l : List Nat} (h : Blk w g t cs) (hb : Wr l w w') (hg : g ∉ l) : Blk w' g t cs := (hb.block g h.lt hg).trans h
theorem Blk.wr0 (h : Blk w g t cs) (hb : Wr [] w w') : Blk w' g t cs := h.wr hb (by simp)
end

section
variable (P : Program) (w : World)
@[go_sem] theorem run_store_complex' (a : Addr) (m : Mode) (k : FloatKind) (x y : Nat) : (store a (.complex k x y) m).run P w = stored P w a (.complex k x y) m := run_store P w a _ m rfl
@[go_sem] theorem run_store_float' (a : Addr) (m : Mode) (k : FloatKind) (x : Nat) : (store a (.float k x) m).run P w = stored P w a (.float k x) m := run_store P w a _ m rfl
end
section
variable {P : Program} {ops : Array Oper} {Q : Exit → Act → World → Prop} {a : Act} {w : World} {rest : List Oper} {o : Oper}
/-- An operation that yields a value: what it yields, and the world, said by the caller. -/
theorem wpList_val (hg : o.guard = none) (v : Value) (w' : World) (hr : (execOp a.eval o).run P w = .ok (.value v) w') (h : wpList P ops Q rest (a.put o.dst v) w') : wpList P ops Q (o :: rest) a w := by
  refine wpList_plain hg fun K hK => ?_
  unfold Oper.wp
  rw [hr, Oper.upon_value]
  exact hK _ _ h
theorem wpList_build (hg : o.guard = none) (t : TypeId) (parts : Array (Nat × Operand)) (ho : o.op = .build t parts) (ps : Array (Nat × Value)) (hps : (parts.map fun (i, x) => (i, a.eval x)) = ps) (v : Value)
    (hr : (Instr.build t ps).run P w = .ok v w) (h : wpList P ops Q rest (a.put o.dst v) w) : wpList P ops Q (o :: rest) a w := by
  refine wpList_val hg v w ?_ h
  subst hps
  unfold execOp
  rw [ho]
  simp only [Sem.run_bind, hr, Result.andThen]
  rfl
end

/-- A slice of n one-cell elements that reads g. -/
def Row1 (w : World) (v : Value) (n : Nat) (g : Nat → Value) : Prop :=
  ∃ (A : Option Addr) (c : Nat), v = .slice A n c ∧ n ≤ c ∧ c ≤ maxLen ∧ ∀ j, j < n → ∃ b off, A = some ⟨b, off, none⟩ ∧ w.cell? ⟨b, off + j, none⟩ = some (g j)
theorem Row1.wr0 {w w' : World} {v : Value} {n : Nat} {g : Nat → Value} (h : Row1 w v n g) (hw : Wr [] w w') : Row1 w' v n g := by
  obtain ⟨A, c, hv, h1, h2, h3⟩ := h
  refine ⟨A, c, hv, h1, h2, fun j hj => ?_⟩
  obtain ⟨b, off, hA, hc⟩ := h3 j hj
  exact ⟨b, off, hA, hw.cellOf hc (by simp)⟩
theorem Row1.ofOwn {w : World} {base : Nat} {e : TypeId} {v : Value} {n : Nat} {xs : List Value} (h : w.ownsRow base e 1 v n xs) (g : Nat → Value) (hg : ∀ j, j < n → xs[j]? = some (g j)) : Row1 w v n g := by
  rcases h.2 with ⟨rfl, rfl⟩ | ⟨b, cap, cur, rfl, hb, hh, hn, hc, hs, ht⟩
  · exact ⟨none, 0, rfl, Nat.le_refl _, by simp, fun j hj => absurd hj (by omega)⟩
  · refine ⟨_, cap, rfl, hn, hc, fun j hj => ⟨b, 0, rfl, ?_⟩⟩
    rw [Nat.zero_add, cell_of_row w b j cur e (0, 0) hh, ← hg j hj, ← ht]
    rw [List.getElem?_take, if_pos (by omega)]
    simp

theorem bytes_some (s : ByteArray) (h : 0 < s.size) : s.toList.isEmpty = false := by
  rw [ByteArray.toList_eq]
  obtain ⟨⟨l⟩⟩ := s
  cases l with
  | nil => simp [ByteArray.size] at h
  | cons x l => rfl
end Go.Proofs.Ytjanbpchedgoiaa
