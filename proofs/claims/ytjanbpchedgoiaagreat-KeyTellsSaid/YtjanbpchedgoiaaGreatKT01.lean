/- Short names of lemmas on lists that the texts use often. No conditions. -/
import Derived.Test.YtjanbpchedgoiaaGreatRows
import Derived.Lib.Hide
import Derived.WalkKit
import Derived.WalkSpells
import Derived.WalkLawsBesides
import Derived.BigQuiet
import Derived.BigRegion
import Derived.Deep.QuietTactic
import Derived.Maps.AppendAt
import Derived.Deep.AppendLies
import Derived.RegionTactic
import Derived.OwnWalk
import Derived.Laws.OwnMore
import Derived.Deep.Draws
import Derived.Laws.Rows
set_option linter.unusedVariables false
set_option linter.unusedSimpArgs false
set_option maxRecDepth 100000
set_option maxHeartbeats 32000000
namespace Go.Proofs.YtjanbpchedgoiaaGreat
open Go
theorem qh {p : Prop} (h : p) : Go.RowKit.Hid p := Go.Lib.hid h
theorem qmsq {α : Type} {a b : α} : a ∈ [b] ↔ a = b := List.mem_singleton
theorem qapq {α : Type} (a b c : List α) : (a ++ b) ++ c = a ++ (b ++ c) := List.append_assoc a b c
theorem qlaq {α : Type} {a b : List α} : (a ++ b).length = a.length + b.length := List.length_append
theorem qsiq (w : World) (o : Obj) : (w.alloc o).heap.size = w.heap.size + 1 := World.size_alloc w o
theorem qnnq {α : Type} {a : α} : ¬ a ∈ [] := List.not_mem_nil
theorem qmcq {α : Type} {a b : α} {l : List α} : a ∈ b :: l ↔ a = b ∨ a ∈ l := List.mem_cons
theorem qgeq {α : Type} {l : List α} {i : Nat} (h : i < l.length) : l[i]? = some l[i] := List.getElem?_eq_getElem h
theorem qesq {α : Type} {a : α} {l : List α} {i : Nat} : l[i]? = some a ↔ ∃ h : i < l.length, l[i] = a := List.getElem?_eq_some_iff
theorem qglq {α : Type} {a b : List α} {n : Nat} (h : n < a.length) : (a ++ b)[n]? = a[n]? := List.getElem?_append_left h
theorem qgrq {α : Type} {a b : List α} {n : Nat} (h : a.length ≤ n) : (a ++ b)[n]? = b[n - a.length]? := List.getElem?_append_right h
theorem qdfq {p : Prop} [h : Decidable p] (k : ¬ p) : decide p = false := decide_eq_false k
theorem qdtq {p : Prop} [h : Decidable p] (k : p) : decide p = true := decide_eq_true k
theorem qfaq {α β : Type} {xs ys : List α} {f : α → List β} : (xs ++ ys).flatMap f = xs.flatMap f ++ ys.flatMap f := List.flatMap_append
theorem qfcq {α β : Type} {x : α} {xs : List α} {f : α → List β} : (x :: xs).flatMap f = f x ++ xs.flatMap f := List.flatMap_cons
theorem qlmq {α β : Type} {l : List α} (f : α → β) : (l.map f).length = l.length := List.length_map f
theorem qgmq {α β : Type} {f : α → β} {l : List α} {i : Nat} : (l.map f)[i]? = Option.map f l[i]? := List.getElem?_map
theorem qgzq {α : Type} {a : α} {l : List α} : (a :: l)[0]? = some a := rfl
theorem qgsq {α : Type} {a : α} {l : List α} {i : Nat} : (a :: l)[i + 1]? = l[i]? := rfl
theorem qgaq {α : Type} {l : List α} {i : Nat} : l.toArray[i]? = l[i]? := List.getElem?_toArray
theorem qsaq {α : Type} (l : List α) (i : Nat) (a : α) : l.toArray.setIfInBounds i a = (l.set i a).toArray := List.setIfInBounds_toArray l i a
theorem qszq {α : Type} {a b : α} {l : List α} : (a :: l).set 0 b = b :: l := rfl
theorem qssq {α : Type} {a b : α} {l : List α} {i : Nat} : (a :: l).set (i + 1) b = a :: l.set i b := rfl
end Go.Proofs.YtjanbpchedgoiaaGreat
namespace Go.Proofs.YtjanbpchedgoiaaGreat
open Go.RowKit
structure Wr (l : List Nat) (w w' : World) : Prop where
 os : w'.os = w.os
 tape : w'.tape = w.tape
 output : w'.output = w.output
 size : w.heap.size ≤ w'.heap.size
 block : ∀ k, k < w.heap.size → k ∉ l → w'.heap[k]? = w.heap[k]?
theorem Wr.refl (l : List Nat) (w : World) : Wr l w w := ⟨rfl, rfl, rfl, Nat.le_refl _, fun _ _ _ => rfl⟩
theorem Wr.trans' {l l' : List Nat} {a b c : World} (h : Wr l a b) (k : Wr l' b c) (hl : ∀ x, x ∈ l' → x ∈ l ∨ a.heap.size ≤ x) : Wr l a c :=
 ⟨k.os.trans h.os, k.tape.trans h.tape, k.output.trans h.output, Nat.le_trans h.size k.size, fun i hi hn =>
  (k.block i (Nat.lt_of_lt_of_le hi h.size) (fun hm => by rcases hl i hm with h1 | h1; exact hn h1; omega)).trans (h.block i hi hn)⟩
theorem Wr.trans {l : List Nat} {a b c : World} (h : Wr l a b) (k : Wr l b c) : Wr l a c := h.trans' k (fun _ hx => .inl hx)
theorem Wr.trans0 {l : List Nat} {a b c : World} (h : Wr l a b) (k : Wr [] b c) : Wr l a c := h.trans' k (fun _ hx => by cases hx)
theorem Wr.more {l l' : List Nat} {a b : World} (h : Wr l a b) (hl : ∀ x, x ∈ l → x ∈ l') : Wr l' a b :=
 ⟨h.os, h.tape, h.output, h.size, fun i hi hn => h.block i hi (fun hm => hn (hl i hm))⟩
theorem Wr.nil {l : List Nat} {a b : World} (h : Wr [] a b) : Wr l a b := h.more (fun _ hx => by cases hx)
theorem Wr.drew {l : List Nat} {a w : World} (h : Wr l a w) : Wr l a w.drew := ⟨h.os, h.tape, h.output, h.size, h.block⟩
theorem Wr.drewN {l : List Nat} {a w : World} (h : Wr l a w) (n : Nat) : Wr l a (w.drewN n) := ⟨h.os, h.tape, h.output, h.size, h.block⟩
theorem Wr.alloc {l : List Nat} {a w : World} (h : Wr l a w) (o : Obj) : Wr l a (w.alloc o) :=
 ⟨h.os, h.tape, h.output, by have := h.size; simp; omega, fun i hi hn => (Below.heap_alloc w o i (Nat.lt_of_lt_of_le hi h.size)).trans (h.block i hi hn)⟩
theorem Wr.setCell {l : List Nat} {a w : World} (h : Wr l a w) {p : Addr} (hp : p.block ∈ l ∨ a.heap.size ≤ p.block) (u : Value) : Wr l a (w.setCell p u) :=
 ⟨h.os, h.tape, h.output, by have := h.size; simp; omega, fun i hi hn => (Below.heap_setCell w p u i (fun e => by subst e; rcases hp with h1 | h1; exact hn h1; omega)).trans (h.block i hi hn)⟩
theorem Wr.setOn {l : List Nat} {a w : World} (h : Wr l a w) {b o : Nat} (hp : b ∈ l) (u : Value) : Wr l a (w.setCell ⟨b, o, none⟩ u) := h.setCell (.inl hp) u
theorem Wr.setNew {l : List Nat} {a w : World} (h : Wr l a w) {b o : Nat} (hp : a.heap.size ≤ b) (u : Value) : Wr l a (w.setCell ⟨b, o, none⟩ u) := h.setCell (.inr hp) u
theorem Wr.below {l : List Nat} {w w' : World} (h : Wr l w w') {B : Nat} (hB : B ≤ w.heap.size) (hl : ∀ x, x ∈ l → B ≤ x) : Below B w w' :=
 ⟨h.os, h.tape, h.output, h.size, fun k hk => h.block k (by omega) (fun hm => by have := hl k hm; omega)⟩
theorem Wr.ofBelow {w w' : World} (h : Below w.heap.size w w') : Wr [] w w' := ⟨h.os, h.tape, h.output, h.size, fun k hk _ => h.block k hk⟩
theorem Wr.toBelow {w w' : World} (h : Wr [] w w') : Below w.heap.size w w' := h.below (Nat.le_refl _) (fun _ hx => by cases hx)
theorem Wr.cell {l : List Nat} {w w' : World} (h : Wr l w w') {p : Addr} (hp : p.block < w.heap.size) (hn : p.block ∉ l) : w'.cell? p = w.cell? p :=
 World.cell?_of_block (h.block p.block hp hn)
theorem Wr.cellOf {l : List Nat} {w w' : World} (h : Wr l w w') {p : Addr} {v : Value} (hc : w.cell? p = some v) (hn : p.block ∉ l) : w'.cell? p = some v :=
 (h.cell (World.block_lt_of_cell? w p hc) hn).trans hc
theorem Wr.frozenOf {l : List Nat} {w w' : World} (h : Wr l w w') {p : Addr} {v : Value} {f : Bool} (hc : w.cell? p = some v) (hf : w.frozen? p = f) (hn : p.block ∉ l) : w'.frozen? p = f :=
 (World.frozen?_of_block (h.block p.block (World.block_lt_of_cell? w p hc) hn)).trans hf
theorem Wr.ofGrown {w w' : World} {row : Option Nat} (h : w.grownBy w' row) {l : List Nat} (hr : ∀ k, row = some k → k ∈ l) : Wr l w w' :=
 ⟨h.os, h.tape, h.output, h.size, fun k hk hn => h.block k hk (fun e => hn (hr k e.symm))⟩
theorem Wr.new {l : List Nat} {a b c : World} {g : Nat} (h : Wr l a b) (k : Wr [g] b c) (hg : a.heap.size ≤ g) : Wr l a c :=
 h.trans' k (fun x hx => .inr (by rw [qmsq] at hx; omega))
theorem Wr.on {l : List Nat} {a b c : World} {g : Nat} (h : Wr l a b) (k : Wr [g] b c) (hg : g ∈ l) : Wr l a c :=
 h.trans' k (fun x hx => .inl (by rw [qmsq] at hx; subst hx; exact hg))
def Blk (w : World) (g : Nat) (t : TypeId) (cs : Array Value) : Prop := w.heap[g]? = some (.cells cs t (0, 0))
section
variable {w w' : World} {g : Nat} {t : TypeId} {cs : Array Value}
theorem Blk.lt (h : Blk w g t cs) : g < w.heap.size := by
 rcases Nat.lt_or_ge g w.heap.size with hlt | hge
 ·exact hlt
 ·unfold Blk at h; rw [Array.getElem?_eq_none hge] at h; cases h
theorem Blk.cell (h : Blk w g t cs) (i : Nat) : w.cell? ⟨g, i, none⟩ = cs[i]? := cell_of_row w g i cs t (0, 0) h
theorem Blk.frozen (h : Blk w g t cs) (i : Nat) : w.frozen? ⟨g, i, none⟩ = false := by
 unfold Blk at h
 simp [World.frozen?, h]
theorem Blk.new (w : World) (t : TypeId) (cs : Array Value) : Blk (w.alloc (.cells cs t)) w.heap.size t cs := heap_alloc_new w _
theorem Blk.drew (h : Blk w g t cs) : Blk w.drew g t cs := h
theorem Blk.drewN (h : Blk w g t cs) (n : Nat) : Blk (w.drewN n) g t cs := h
theorem Blk.alloc (h : Blk w g t cs) (o : Obj) : Blk (w.alloc o) g t cs := (Below.heap_alloc w o g h.lt).trans h
theorem Blk.set_ (h : Blk w g t cs) (i : Nat) (u : Value) : Blk (w.setCell ⟨g, i, none⟩ u) g t (cs.setIfInBounds i u) := by
 unfold Blk at h ⊢
 simp [World.setCell, Array.getElem?_modify, h]
theorem Blk.far (h : Blk w g t cs) {p : Addr} (hp : g ≠ p.block) (u : Value) : Blk (w.setCell p u) g t cs := (Below.heap_setCell w p u g hp).trans h
theorem Blk.wr {l : List Nat} (h : Blk w g t cs) (hb : Wr l w w') (hg : g ∉ l) : Blk w' g t cs := (hb.block g h.lt hg).trans h
theorem Blk.wr0 (h : Blk w g t cs) (hb : Wr [] w w') : Blk w' g t cs := h.wr hb (by simp)
end
section
variable (P : Program) (w : World)
@[go_sem] theorem run_store_complex' (a : Addr) (m : Mode) (k : FloatKind) (x y : Nat) : (store a (.complex k x y) m).run P w = stored P w a (.complex k x y) m := run_store P w a _ m rfl
@[go_sem] theorem run_store_float' (a : Addr) (m : Mode) (k : FloatKind) (x : Nat) : (store a (.float k x) m).run P w = stored P w a (.float k x) m := run_store P w a _ m rfl
end
section
variable {P : Program} {ops : Array Oper} {Q : Exit → Act → World → Prop} {a : Act} {w : World} {rest : List Oper} {o : Oper}
end
def Row1 (w : World) (v : Value) (n : Nat) (g : Nat → Value) : Prop :=
 ∃ (A : Option Addr) (c : Nat), v = .slice A n c ∧ n ≤ c ∧ c ≤ maxLen ∧ ∀ j, j < n → ∃ b off, A = some ⟨b, off, none⟩ ∧ w.cell? ⟨b, off + j, none⟩ = some (g j)
theorem Row1.wr0 {w w' : World} {v : Value} {n : Nat} {g : Nat → Value} (h : Row1 w v n g) (hw : Wr [] w w') : Row1 w' v n g := by
 obtain ⟨A, c, hv, h1, h2, h3⟩ := h
 refine ⟨A, c, hv, h1, h2, fun j hj => ?_⟩
 obtain ⟨b, off, hA, hc⟩ := h3 j hj
 exact ⟨b, off, hA, hw.cellOf hc (by simp)⟩
theorem Row1.ofOwn {w : World} {base : Nat} {e : TypeId} {v : Value} {n : Nat} {xs : List Value} (h : w.ownsRow base e 1 v n xs) (g : Nat → Value) (hg : ∀ j, j < n → xs[j]? = some (g j)) : Row1 w v n g := by
 rcases h.2 with ⟨rfl, rfl⟩ | ⟨b, cap, cur, rfl, hb, hh, hn, hc, hs, ht⟩
 ·exact ⟨none, 0, rfl, Nat.le_refl _, by simp, fun j hj => absurd hj (by omega)⟩
 ·refine ⟨_, cap, rfl, hn, hc, fun j hj => ⟨b, 0, rfl, ?_⟩⟩
  rw [Nat.zero_add, cell_of_row w b j cur e (0, 0) hh, ← hg j hj, ← ht]
  rw [List.getElem?_take, if_pos (by omega)]
  simp
def Sl (w : World) (P : Nat → Prop) (size : Nat) (v : Value) (n : Nat) (xs : List Value) : Prop :=
 ∃ (A : Option Addr) (c : Nat), v = .slice A n c ∧ n ≤ c ∧ c ≤ maxLen ∧ xs.length = n * size ∧ ∀ (j : Nat) (u : Value), xs[j]? = some u → ∃ b off, A = some ⟨b, off, none⟩ ∧ P b ∧ w.cell? ⟨b, off + j, none⟩ = some u
section
variable {w w' : World} {P Q : Nat → Prop} {size n : Nat} {v : Value} {xs : List Value}
theorem Sl.nil (w : World) (P : Nat → Prop) (size : Nat) : Sl w P size (.slice none 0 0) 0 [] := ⟨none, 0, rfl, Nat.le_refl _, by simp, by simp, fun j u h => by simp at h⟩
theorem Sl.keep {l : List Nat} (h : Sl w P size v n xs) (hw : Wr l w w') (hP : ∀ b, P b → b ∉ l) : Sl w' P size v n xs := by
 obtain ⟨A, c, hv, h1, h2, h3, h4⟩ := h
 refine ⟨A, c, hv, h1, h2, h3, fun j u hj => ?_⟩
 obtain ⟨b, off, hA, hb, hc⟩ := h4 j u hj
 exact ⟨b, off, hA, hb, hw.cellOf hc (hP b hb)⟩
theorem Sl.wr0 (h : Sl w P size v n xs) (hw : Wr [] w w') : Sl w' P size v n xs := h.keep hw (fun _ _ => by simp)
theorem Sl.into (h : Sl w P size v n xs) (hP : ∀ b, P b → b < w.heap.size → Q b) : Sl w Q size v n xs := by
 obtain ⟨A, c, hv, h1, h2, h3, h4⟩ := h
 refine ⟨A, c, hv, h1, h2, h3, fun j u hj => ?_⟩
 obtain ⟨b, off, hA, hb, hc⟩ := h4 j u hj
 exact ⟨b, off, hA, hP b hb (World.block_lt_of_cell? w _ hc), hc⟩
theorem Sl.mono (h : Sl w P size v n xs) (hP : ∀ b, P b → Q b) : Sl w Q size v n xs := h.into fun b hb _ => hP b hb
theorem Sl.ofOwn {base : Nat} {e : TypeId} (h : w.ownsRow base e size v n xs) (hP : ∀ b, v.ownBlock = some b → P b) : Sl w P size v n xs := by
 have hl := h.1
 rcases h.2 with ⟨rfl, rfl⟩ | ⟨b, cap, cur, rfl, hb, hh, hn, hc, hs, ht⟩
 ·have hx : xs = [] := List.eq_nil_of_length_eq_zero (by simpa using hl)
  subst hx
  exact ⟨none, 0, rfl, Nat.le_refl _, by simp, hl, fun j u h => by simp at h⟩
 ·refine ⟨_, cap, rfl, hn, hc, hl, fun j u hj => ⟨b, 0, rfl, hP b rfl, ?_⟩⟩
  have := h.cells (g := b) rfl j u hj
  rw [Addr.add_lit] at this
  exact this
theorem Sl.at_ (h : Sl w P size v n xs) {j : Nat} {u : Value} (hj : xs[j]? = some u) : ∃ b off c, v = .slice (some ⟨b, off, none⟩) n c ∧ n ≤ c ∧ c ≤ maxLen ∧ P b ∧ w.cell? ⟨b, off + j, none⟩ = some u := by
 obtain ⟨A, c, hv, h1, h2, h3, h4⟩ := h
 obtain ⟨b, off, rfl, hb, hc⟩ := h4 j u hj
 exact ⟨b, off, c, hv, h1, h2, hb, hc⟩
theorem Sl.len (h : Sl w P size v n xs) : xs.length = n * size := by
 obtain ⟨A, c, hv, h1, h2, h3, h4⟩ := h
 exact h3
theorem Sl.form (h : Sl w P size v n xs) : ∃ A c, v = .slice A n c ∧ n ≤ c ∧ c ≤ maxLen := by
 obtain ⟨A, c, hv, h1, h2, h3, h4⟩ := h
 exact ⟨A, c, hv, h1, h2⟩
theorem Sl.thing (h : Sl w P size v n xs) (hs : 0 < size) {i : Nat} (hi : i < n) : ∃ b off c, v = .slice (some ⟨b, off, none⟩) n c ∧ n ≤ c ∧ c ≤ maxLen ∧ P b ∧
  ∀ j u, j < size → xs[i * size + j]? = some u → w.cell? ⟨b, off + (i * size + j), none⟩ = some u := by
 have hl := h.len
 obtain ⟨A, c, hv, h1, h2, h3, h4⟩ := h
 have h0 : 0 < xs.length := by rw [hl]; exact Nat.mul_pos (by omega) hs
 obtain ⟨b, off, rfl, hb, hc⟩ := h4 0 xs[0] (qgeq h0)
 refine ⟨b, off, c, hv, h1, h2, hb, fun j u hj hu => ?_⟩
 obtain ⟨b', off', e, hb', hc'⟩ := h4 _ u hu
 injection e with e
 injection e with e1 e2
 subst e1 e2
 exact hc'
end
theorem run_append_sl {P : Program} (w : World) (base : Nat) (t ty e : TypeId) (i : TypeInfo) (z : Value) (size bytes : Nat) (ht : P.underlying t = some (.slice e)) (hi : P.info? e = some i) (hz : i.zero = some z)
  (hsize : i.size = size) (hby : i.bytes = bytes) (hzs : z.cells.size = size) (hsz : 0 < size)
  (v : Value) (n : Nat) (xs : List Value) (hown : w.ownsRow base e size v n xs) (Q : Nat → Prop) (vs : Value) (m : Nat) (news : List Value) (hr : Sl w Q size vs m news) (h1 : ∀ u ∈ news, u.oneCell' = true)
  (h63 : n + m ≤ maxLen) (hbytes : (n + m) * bytes ≤ 140737488355328) (hbase : base ≤ w.heap.size) :
  ∃ v' w', (Builtin.append_ #[t, t] ty #[v, vs]).run P w = .ok v' w' ∧ w'.ownsRow base e size v' (n + m) (xs ++ news) ∧ w.grownBy w' v.ownBlock ∧ (v'.ownBlock = v.ownBlock ∨ v'.ownBlock = some w.heap.size) := by
 obtain ⟨A, c, rfl, _, _, hl, hc⟩ := hr
 rcases Nat.eq_zero_or_pos m with h0 | h0
 ·subst h0
  have hn : news = [] := List.eq_nil_of_length_eq_zero (by simpa using hl)
  subst hn
  have hrun : (Builtin.append_ #[t, t] ty #[v, .slice A 0 c]).run P w = .ok v w := by
   rcases hown.2 with ⟨rfl, rfl⟩ | ⟨g, cap, cur, rfl, _, _, hnc, _⟩
   ·cases A <;> simp [Builtin.append_, run_underlying ht, sizeOf, typeInfo, hi, Builtin.lenOf, Builtin.firstCells, loadCells, loadCellsFrom, storeCells]
   ·cases A <;> simp [Builtin.append_, run_underlying ht, sizeOf, typeInfo, hi, Builtin.lenOf, Builtin.firstCells, hnc, loadCells, loadCellsFrom, storeCells]
  exact ⟨v, w, hrun, by simpa using hown, World.grownBy.refl w _, .inl rfl⟩
 ·have hnl : 0 < news.length := by rw [hl]; exact Nat.mul_pos h0 hsz
  obtain ⟨b, off, rfl, _, _⟩ := hc 0 news[0] (qgeq hnl)
  have hcells : ∀ j u, news[j]? = some u → w.cell? ((⟨b, off, none⟩ : Addr).add j) = some u := by
   intro j u hu
   obtain ⟨b', off', e', _, hc'⟩ := hc j u hu
   injection e' with e'
   injection e' with e1 e2
   subst e1 e2
   rw [Addr.add_lit]
   exact hc'
  obtain ⟨v', w', hrun, h2, h3, _, h5⟩ := run_append_own_at (P := P) w base t ty e i z size bytes ht hi hz hsize hby hzs hsz v n xs hown ⟨b, off, none⟩ m c news hl hcells h1 h63 hbytes hbase
  exact ⟨v', w', hrun, h2, h3, h5⟩
section
variable {P : Program} {a : Act} {Q : Exit → Act → World → Prop} {w : World} {o : Oper}
theorem wp_append_run {K : Act → World → Prop} (s x : Operand) (t : TypeId) (ho : o.op = .call { callee := .builtin .append, args := #[s, x], argTypes := #[t, t] }) (vs vx : Value) (hs : a.eval s = vs) (hx : a.eval x = vx) (v' : Value) (w' : World)
  (hrun : (Builtin.append_ #[t, t] o.type #[vs, vx]).run P w = .ok v' w') (h : K (a.put o.dst v') w') : o.wp P a w K Q := by
 unfold Oper.wp execOp
 simp only [ho, resolve, invoke, builtin, Sem.run_bind, Sem.run_pure, Result.andThen_ok, List.map_toArray, List.map_cons, List.map_nil, hs, hx, hrun]
 exact h
theorem wpList_append_run {ops : Array Oper} {rest : List Oper} (hgd : o.guard = none) (s x : Operand) (t : TypeId) (ho : o.op = .call { callee := .builtin .append, args := #[s, x], argTypes := #[t, t] }) (vs vx : Value) (hs : a.eval s = vs) (hx : a.eval x = vx) (v' : Value) (w' : World)
  (hrun : (Builtin.append_ #[t, t] o.type #[vs, vx]).run P w = .ok v' w') (h : wpList P ops Q rest (a.put o.dst v') w') : wpList P ops Q (o :: rest) a w :=
 wpList_plain hgd fun _ hK => wp_append_run s x t ho vs vx hs hx v' w' hrun (hK _ _ h)
theorem step_append_run {ops : Array Oper} {K : Act → World → Prop} {E : Prop} (hgd : o.guard = none) (s x : Operand) (t : TypeId) (ho : o.op = .call { callee := .builtin .append, args := #[s, x], argTypes := #[t, t] }) (vs vx : Value) (hs : a.eval s = vs) (hx : a.eval x = vx) (v' : Value) (w' : World)
  (hrun : (Builtin.append_ #[t, t] o.type #[vs, vx]).run P w = .ok v' w') (h : K (a.put o.dst v') w') : if Region.wanted o (yielded ops a.tmps) = true then Oper.wp P o a w K Q else E := by
 have hw : Region.wanted o (yielded ops a.tmps) = true := by simp [Region.wanted, hgd]
 rw [if_pos hw]
 exact wp_append_run s x t ho vs vx hs hx v' w' hrun h
end
def ownL (v : Value) : List Nat := match v.ownBlock with | some k => [k] | none => []
theorem mem_ownL {v : Value} {k : Nat} : k ∈ ownL v ↔ v.ownBlock = some k := by
 unfold ownL
 cases h : v.ownBlock with
 | none => simp
 | some g => simp; exact ⟨fun e => e.symm, fun e => e.symm⟩
theorem Wr.ofGrownOwn {w w' : World} {v : Value} (h : w.grownBy w' v.ownBlock) : Wr (ownL v) w w' := Wr.ofGrown h fun k hk => mem_ownL.2 hk
def CloneP (w : World) (size n : Nat) (xs : List Value) (e : Ending) (w' : World) : Prop := ∃ v', e = .returned v' ∧ Wr [] w w' ∧ Sl w' (fun b => w.heap.size ≤ b) size v' n xs
def CloneO (w : World) (t : TypeId) (size n : Nat) (xs : List Value) (e : Ending) (w' : World) : Prop := ∃ v', e = .returned v' ∧ Wr [] w w' ∧ w'.ownsRow w.heap.size t size v' n xs
theorem CloneO.toP {w w' : World} {t : TypeId} {size n : Nat} {xs : List Value} {e : Ending} (h : CloneO w t size n xs e w') : CloneP w size n xs e w' := by
 obtain ⟨v', he, r, ho⟩ := h
 exact ⟨v', he, r, Sl.ofOwn ho fun b hb => (ho.lt b hb).1⟩
theorem info_str : (Tryz.prog.info? 9).map (fun i => (i.zero, i.size, i.bytes)) = some (some (.string ⟨#[]⟩), 1, 16) := by kernel_rfl
theorem cloneO_str (w : World) (P : Nat → Prop) (v : Value) (n : Nat) (xs : List Value) (h : Sl w P 1 v n xs) (h1 : ∀ u ∈ xs, u.oneCell' = true) (hb : n * 16 ≤ 140737488355328) :
  Calls Tryz.prog 48 #[v] w (CloneO w 9 1 n xs) := by
 obtain ⟨i0, hi0, hz0, hz1, hz2⟩ := info_parts info_str
 have hm : 0 + n ≤ maxLen := by obtain ⟨A, c, _, k1, k2⟩ := h.form; omega
 have H := qh h
 have hl := qh h.len
 obtain ⟨A, c, rfl, k1, k2⟩ := h.form
 clear h k1 k2
 cases A with
 | none =>
  clear hi0 hz0 hz1 hz2 hb hm h1
  have he := fun (w : World) => Lib.run_eql_slice_nil (P := Tryz.prog) w 47 9 none n c 0 0 Tryz.underlying47
  go_enter Tryz.func48, Tryz.ntmps48
  go_wp2_with fail
  go_ret
  have h0 : xs = [] := by
   obtain ⟨A, c, e, _, _, _, hc⟩ := H.out
   cases xs with
   | nil => rfl
   | cons x l =>
    obtain ⟨b, off, e', _, _⟩ := hc 0 x rfl
    subst e'
    injection e with e
    cases e
  subst h0
  have hn : n = 0 := by have := hl.out; simp at this; omega
  subst hn
  exact ⟨_, rfl, Wr.refl _ _, World.ownsRow_nil w _ _ _⟩
 | some ad =>
  obtain ⟨v1, w1, hrun, hown, hg, hat⟩ := run_append_sl (P := Tryz.prog) (w.alloc (.cells #[] 9)) w.heap.size 47 47 9 i0 _ 1 16 Tryz.underlying47 hi0 hz0 hz1 hz2 rfl (by omega)
   (.slice (some ⟨w.heap.size, 0, none⟩) 0 0) 0 [] (World.ownsRow_made w #[] 0 (Nat.le_refl _) (by simp) rfl) P (.slice (some ad) n c) n xs (H.out.wr0 ((Wr.refl _ _).alloc _)) h1 hm (by omega) (by simp)
  simp only [Nat.zero_add, List.nil_append] at hown
  have HG := qh hg
  have HO := qh hown
  clear hi0 hz0 hz1 hz2 hm hb h1 hg hat hown
  have he := fun (w : World) => Lib.run_eql_slice_nil (P := Tryz.prog) w 47 9 (some ad) n c 0 0 Tryz.underlying47
  go_enter Tryz.func48, Tryz.ntmps48
  go_wp2_with (at_builtin; refine wpList_append_run rfl _ _ _ rfl _ _ rfl rfl _ _ hrun ?_)
  go_ret
  refine ⟨_, rfl, ?_, HO.out⟩
  exact ((Wr.refl [] w).alloc _).trans' (Wr.ofGrown HG.out (l := [w.heap.size]) (fun k hk => by simp [Value.ownBlock] at hk; simp [hk])) (fun x hx => .inr (by simp at hx; omega))
theorem clone_str (w : World) (P : Nat → Prop) (v : Value) (n : Nat) (xs : List Value) (h : Sl w P 1 v n xs) (h1 : ∀ u ∈ xs, u.oneCell' = true) (hb : n * 16 ≤ 140737488355328) :
  Calls Tryz.prog 48 #[v] w (CloneP w 1 n xs) := (cloneO_str w P v n xs h h1 hb).mono fun _ _ k => k.toP
theorem info_fld : (Tryz.prog.info? 73).map (fun i => (i.zero, i.size, i.bytes)) = some (some (.agg #[.string ⟨#[]⟩, .int .i64 0, .int .i64 0]), 3, 32) := by kernel_rfl
theorem cloneO_fld (w : World) (P : Nat → Prop) (v : Value) (n : Nat) (xs : List Value) (h : Sl w P 3 v n xs) (h1 : ∀ u ∈ xs, u.oneCell' = true) (hb : n * 32 ≤ 140737488355328) :
  Calls Tryz.prog 49 #[v] w (CloneO w 73 3 n xs) := by
 obtain ⟨i0, hi0, hz0, hz1, hz2⟩ := info_parts info_fld
 have hm : 0 + n ≤ maxLen := by obtain ⟨A, c, _, k1, k2⟩ := h.form; omega
 have H := qh h
 have hl := qh h.len
 obtain ⟨A, c, rfl, k1, k2⟩ := h.form
 clear h k1 k2
 cases A with
 | none =>
  clear hi0 hz0 hz1 hz2 hb hm h1
  have he := fun (w : World) => Lib.run_eql_slice_nil (P := Tryz.prog) w 48 73 none n c 0 0 Tryz.underlying48
  go_enter Tryz.func49, Tryz.ntmps49
  go_wp2_with fail
  go_ret
  have h0 : xs = [] := by
   obtain ⟨A, c, e, _, _, _, hc⟩ := H.out
   cases xs with
   | nil => rfl
   | cons x l =>
    obtain ⟨b, off, e', _, _⟩ := hc 0 x rfl
    subst e'
    injection e with e
    cases e
  subst h0
  have hn : n = 0 := by have := hl.out; simp at this; omega
  subst hn
  exact ⟨_, rfl, Wr.refl _ _, World.ownsRow_nil w _ _ _⟩
 | some ad =>
  obtain ⟨v1, w1, hrun, hown, hg, hat⟩ := run_append_sl (P := Tryz.prog) (w.alloc (.cells #[] 73)) w.heap.size 48 48 73 i0 _ 3 32 Tryz.underlying48 hi0 hz0 hz1 hz2 rfl (by omega)
   (.slice (some ⟨w.heap.size, 0, none⟩) 0 0) 0 [] (World.ownsRow_made w #[] 0 (Nat.le_refl _) (by simp) rfl) P (.slice (some ad) n c) n xs (H.out.wr0 ((Wr.refl _ _).alloc _)) h1 hm (by omega) (by simp)
  simp only [Nat.zero_add, List.nil_append] at hown
  have HG := qh hg
  have HO := qh hown
  clear hi0 hz0 hz1 hz2 hm hb h1 hg hat hown
  have he := fun (w : World) => Lib.run_eql_slice_nil (P := Tryz.prog) w 48 73 (some ad) n c 0 0 Tryz.underlying48
  go_enter Tryz.func49, Tryz.ntmps49
  go_wp2_with (at_builtin; refine wpList_append_run rfl _ _ _ rfl _ _ rfl rfl _ _ hrun ?_)
  go_ret
  refine ⟨_, rfl, ?_, HO.out⟩
  exact ((Wr.refl [] w).alloc _).trans' (Wr.ofGrown HG.out (l := [w.heap.size]) (fun k hk => by simp [Value.ownBlock] at hk; simp [hk])) (fun x hx => .inr (by simp at hx; omega))
theorem info_par : (Tryz.prog.info? 84).map (fun i => (i.zero, i.size, i.bytes)) = some (some (.agg #[.bool false, .int .i64 0]), 2, 16) := by kernel_rfl
theorem cloneO_par (w : World) (P : Nat → Prop) (v : Value) (n : Nat) (xs : List Value) (h : Sl w P 2 v n xs) (h1 : ∀ u ∈ xs, u.oneCell' = true) (hb : n * 16 ≤ 140737488355328) :
  Calls Tryz.prog 51 #[v] w (CloneO w 84 2 n xs) := by
 obtain ⟨i0, hi0, hz0, hz1, hz2⟩ := info_parts info_par
 have hm : 0 + n ≤ maxLen := by obtain ⟨A, c, _, k1, k2⟩ := h.form; omega
 have H := qh h
 have hl := qh h.len
 obtain ⟨A, c, rfl, k1, k2⟩ := h.form
 clear h k1 k2
 cases A with
 | none =>
  clear hi0 hz0 hz1 hz2 hb hm h1
  have he := fun (w : World) => Lib.run_eql_slice_nil (P := Tryz.prog) w 50 84 none n c 0 0 Tryz.underlying50
  go_enter Tryz.func51, Tryz.ntmps51
  go_wp2_with fail
  go_ret
  have h0 : xs = [] := by
   obtain ⟨A, c, e, _, _, _, hc⟩ := H.out
   cases xs with
   | nil => rfl
   | cons x l =>
    obtain ⟨b, off, e', _, _⟩ := hc 0 x rfl
    subst e'
    injection e with e
    cases e
  subst h0
  have hn : n = 0 := by have := hl.out; simp at this; omega
  subst hn
  exact ⟨_, rfl, Wr.refl _ _, World.ownsRow_nil w _ _ _⟩
 | some ad =>
  obtain ⟨v1, w1, hrun, hown, hg, hat⟩ := run_append_sl (P := Tryz.prog) (w.alloc (.cells #[] 84)) w.heap.size 50 50 84 i0 _ 2 16 Tryz.underlying50 hi0 hz0 hz1 hz2 rfl (by omega)
   (.slice (some ⟨w.heap.size, 0, none⟩) 0 0) 0 [] (World.ownsRow_made w #[] 0 (Nat.le_refl _) (by simp) rfl) P (.slice (some ad) n c) n xs (H.out.wr0 ((Wr.refl _ _).alloc _)) h1 hm (by omega) (by simp)
  simp only [Nat.zero_add, List.nil_append] at hown
  have HG := qh hg
  have HO := qh hown
  clear hi0 hz0 hz1 hz2 hm hb h1 hg hat hown
  have he := fun (w : World) => Lib.run_eql_slice_nil (P := Tryz.prog) w 50 84 (some ad) n c 0 0 Tryz.underlying50
  go_enter Tryz.func51, Tryz.ntmps51
  go_wp2_with (at_builtin; refine wpList_append_run rfl _ _ _ rfl _ _ rfl rfl _ _ hrun ?_)
  go_ret
  refine ⟨_, rfl, ?_, HO.out⟩
  exact ((Wr.refl [] w).alloc _).trans' (Wr.ofGrown HG.out (l := [w.heap.size]) (fun k hk => by simp [Value.ownBlock] at hk; simp [hk])) (fun x hx => .inr (by simp at hx; omega))
theorem info_i64 : (Tryz.prog.info? 2).map (fun i => (i.zero, i.size, i.bytes)) = some (some (.int .i64 0), 1, 8) := by kernel_rfl
theorem cloneO_i64 (w : World) (P : Nat → Prop) (v : Value) (n : Nat) (xs : List Value) (h : Sl w P 1 v n xs) (h1 : ∀ u ∈ xs, u.oneCell' = true) (hb : n * 8 ≤ 140737488355328) :
  Calls Tryz.prog 52 #[v] w (CloneO w 2 1 n xs) := by
 obtain ⟨i0, hi0, hz0, hz1, hz2⟩ := info_parts info_i64
 have hm : 0 + n ≤ maxLen := by obtain ⟨A, c, _, k1, k2⟩ := h.form; omega
 have H := qh h
 have hl := qh h.len
 obtain ⟨A, c, rfl, k1, k2⟩ := h.form
 clear h k1 k2
 cases A with
 | none =>
  clear hi0 hz0 hz1 hz2 hb hm h1
  have he := fun (w : World) => Lib.run_eql_slice_nil (P := Tryz.prog) w 74 2 none n c 0 0 Tryz.underlying74
  go_enter Tryz.func52, Tryz.ntmps52
  go_wp2_with fail
  go_ret
  have h0 : xs = [] := by
   obtain ⟨A, c, e, _, _, _, hc⟩ := H.out
   cases xs with
   | nil => rfl
   | cons x l =>
    obtain ⟨b, off, e', _, _⟩ := hc 0 x rfl
    subst e'
    injection e with e
    cases e
  subst h0
  have hn : n = 0 := by have := hl.out; simp at this; omega
  subst hn
  exact ⟨_, rfl, Wr.refl _ _, World.ownsRow_nil w _ _ _⟩
 | some ad =>
  obtain ⟨v1, w1, hrun, hown, hg, hat⟩ := run_append_sl (P := Tryz.prog) (w.alloc (.cells #[] 2)) w.heap.size 74 74 2 i0 _ 1 8 Tryz.underlying74 hi0 hz0 hz1 hz2 rfl (by omega)
   (.slice (some ⟨w.heap.size, 0, none⟩) 0 0) 0 [] (World.ownsRow_made w #[] 0 (Nat.le_refl _) (by simp) rfl) P (.slice (some ad) n c) n xs (H.out.wr0 ((Wr.refl _ _).alloc _)) h1 hm (by omega) (by simp)
  simp only [Nat.zero_add, List.nil_append] at hown
  have HG := qh hg
  have HO := qh hown
  clear hi0 hz0 hz1 hz2 hm hb h1 hg hat hown
  have he := fun (w : World) => Lib.run_eql_slice_nil (P := Tryz.prog) w 74 2 (some ad) n c 0 0 Tryz.underlying74
  go_enter Tryz.func52, Tryz.ntmps52
  go_wp2_with (at_builtin; refine wpList_append_run rfl _ _ _ rfl _ _ rfl rfl _ _ hrun ?_)
  go_ret
  refine ⟨_, rfl, ?_, HO.out⟩
  exact ((Wr.refl [] w).alloc _).trans' (Wr.ofGrown HG.out (l := [w.heap.size]) (fun k hk => by simp [Value.ownBlock] at hk; simp [hk])) (fun x hx => .inr (by simp at hx; omega))
theorem info_arm : (Tryz.prog.info? 76).map (fun i => (i.zero, i.size, i.bytes)) = some (some (.agg #[.slice none 0 0, .slice none 0 0, .bool false]), 3, 56) := by kernel_rfl
theorem cloneO_arm (w : World) (P : Nat → Prop) (v : Value) (n : Nat) (xs : List Value) (h : Sl w P 3 v n xs) (h1 : ∀ u ∈ xs, u.oneCell' = true) (hb : n * 56 ≤ 140737488355328) :
  Calls Tryz.prog 50 #[v] w (CloneO w 76 3 n xs) := by
 obtain ⟨i0, hi0, hz0, hz1, hz2⟩ := info_parts info_arm
 have hm : 0 + n ≤ maxLen := by obtain ⟨A, c, _, k1, k2⟩ := h.form; omega
 have H := qh h
 have hl := qh h.len
 obtain ⟨A, c, rfl, k1, k2⟩ := h.form
 clear h k1 k2
 cases A with
 | none =>
  clear hi0 hz0 hz1 hz2 hb hm h1
  have he := fun (w : World) => Lib.run_eql_slice_nil (P := Tryz.prog) w 49 76 none n c 0 0 Tryz.underlying49
  go_enter Tryz.func50, Tryz.ntmps50
  go_wp2_with fail
  go_ret
  have h0 : xs = [] := by
   obtain ⟨A, c, e, _, _, _, hc⟩ := H.out
   cases xs with
   | nil => rfl
   | cons x l =>
    obtain ⟨b, off, e', _, _⟩ := hc 0 x rfl
    subst e'
    injection e with e
    cases e
  subst h0
  have hn : n = 0 := by have := hl.out; simp at this; omega
  subst hn
  exact ⟨_, rfl, Wr.refl _ _, World.ownsRow_nil w _ _ _⟩
 | some ad =>
  obtain ⟨v1, w1, hrun, hown, hg, hat⟩ := run_append_sl (P := Tryz.prog) (w.alloc (.cells #[] 76)) w.heap.size 49 49 76 i0 _ 3 56 Tryz.underlying49 hi0 hz0 hz1 hz2 rfl (by omega)
   (.slice (some ⟨w.heap.size, 0, none⟩) 0 0) 0 [] (World.ownsRow_made w #[] 0 (Nat.le_refl _) (by simp) rfl) P (.slice (some ad) n c) n xs (H.out.wr0 ((Wr.refl _ _).alloc _)) h1 hm (by omega) (by simp)
  simp only [Nat.zero_add, List.nil_append] at hown
  have HG := qh hg
  have HO := qh hown
  clear hi0 hz0 hz1 hz2 hm hb h1 hg hat hown
  have he := fun (w : World) => Lib.run_eql_slice_nil (P := Tryz.prog) w 49 76 (some ad) n c 0 0 Tryz.underlying49
  go_enter Tryz.func50, Tryz.ntmps50
  go_wp2_with (at_builtin; refine wpList_append_run rfl _ _ _ rfl _ _ rfl rfl _ _ hrun ?_)
  go_ret
  refine ⟨_, rfl, ?_, HO.out⟩
  exact ((Wr.refl [] w).alloc _).trans' (Wr.ofGrown HG.out (l := [w.heap.size]) (fun k hk => by simp [Value.ownBlock] at hk; simp [hk])) (fun x hx => .inr (by simp at hx; omega))
structure Fld where
 name : ByteArray
 type : Int
 arm : Int
structure ArmD where
 frm : List Int
 to : List Int
 els : Bool
structure Par where
 var : Bool
 type : Int
structure Ty where
 kind : Int
 module : ByteArray
 name : ByteArray
 base : Int
 index : Int
 low : Int
 high : Int
 names : List ByteArray
 fields : List Fld
 arms : List ArmD
 params : List Par
 result : Int
def Fld.cells (x : Fld) : List Value := [.string x.name, .int .i64 x.type, .int .i64 x.arm]
def Par.cells (x : Par) : List Value := [.bool x.var, .int .i64 x.type]
def SlInts (w : World) (P : Nat → Prop) (v : Value) (l : List Int) : Prop := Sl w P 1 v l.length (l.map (Value.int .i64))
def SlStrs (w : World) (P : Nat → Prop) (v : Value) (l : List ByteArray) : Prop := Sl w P 1 v l.length (l.map Value.string)
def SlFlds (w : World) (P : Nat → Prop) (v : Value) (l : List Fld) : Prop := Sl w P 3 v l.length (l.flatMap Fld.cells)
def SlPars (w : World) (P : Nat → Prop) (v : Value) (l : List Par) : Prop := Sl w P 2 v l.length (l.flatMap Par.cells)
def ArmAt (w : World) (P : Nat → Prop) (xs : List Value) (i : Nat) (x : ArmD) : Prop :=
 ∃ va vb, xs[i * 3]? = some va ∧ xs[i * 3 + 1]? = some vb ∧ xs[i * 3 + 2]? = some (.bool x.els) ∧ SlInts w P va x.frm ∧ SlInts w P vb x.to
def SlArms (w : World) (P : Nat → Prop) (v : Value) (l : List ArmD) : Prop := ∃ xs, Sl w P 3 v l.length xs ∧ (∀ u ∈ xs, u.oneCell' = true) ∧ ∀ i x, l[i]? = some x → ArmAt w P xs i x
structure Lists (w : World) (P : Nat → Prop) (vn vf va vp : Value) (t : Ty) : Prop where
 names : SlStrs w P vn t.names
 fields : SlFlds w P vf t.fields
 arms : SlArms w P va t.arms
 params : SlPars w P vp t.params
def Ty.cells (t : Ty) (vn vf va vp : Value) : List Value :=
 [.int .u8 t.kind, .string t.module, .string t.name, .int .i64 t.base, .int .i64 t.index, .int .i64 t.low, .int .i64 t.high, vn, vf, va, vp, .int .i64 t.result]
def Ty.val (t : Ty) (vn vf va vp : Value) : Value := .agg (t.cells vn vf va vp).toArray
structure Ty.room (t : Ty) : Prop where
 names : t.names.length ≤ 1099511627776
 fields : t.fields.length ≤ 1099511627776
 arms : t.arms.length ≤ 1099511627776
 params : t.params.length ≤ 1099511627776
 ints : ∀ x ∈ t.arms, x.frm.length ≤ 1099511627776 ∧ x.to.length ≤ 1099511627776
theorem one_ints (l : List Int) : ∀ u ∈ l.map (Value.int .i64), u.oneCell' = true := by simp [Value.oneCell']
theorem one_strs (l : List ByteArray) : ∀ u ∈ l.map Value.string, u.oneCell' = true := by simp [Value.oneCell']
theorem one_flds (l : List Fld) : ∀ u ∈ l.flatMap Fld.cells, u.oneCell' = true := by
 intro u hu
 simp only [List.mem_flatMap, Fld.cells] at hu
 obtain ⟨x, _, hx⟩ := hu
 simp at hx
 rcases hx with rfl | rfl | rfl <;> rfl
theorem one_pars (l : List Par) : ∀ u ∈ l.flatMap Par.cells, u.oneCell' = true := by
 intro u hu
 simp only [List.mem_flatMap, Par.cells] at hu
 obtain ⟨x, _, hx⟩ := hu
 simp at hx
 rcases hx with rfl | rfl <;> rfl
section
variable {w w' : World} {P Q : Nat → Prop} {v : Value}
theorem SlArms.keep {l : List Nat} {ams : List ArmD} (h : SlArms w P v ams) (hw : Wr l w w') (hP : ∀ b, P b → b ∉ l) : SlArms w' P v ams := by
 obtain ⟨xs, hs, h1, ha⟩ := h
 refine ⟨xs, hs.keep hw hP, h1, fun i x hi => ?_⟩
 obtain ⟨va, vb, e1, e2, e3, ka, kb⟩ := ha i x hi
 exact ⟨va, vb, e1, e2, e3, Sl.keep ka hw hP, Sl.keep kb hw hP⟩
theorem SlArms.into {ams : List ArmD} (h : SlArms w P v ams) (hP : ∀ b, P b → b < w.heap.size → Q b) : SlArms w Q v ams := by
 obtain ⟨xs, hs, h1, ha⟩ := h
 refine ⟨xs, hs.into hP, h1, fun i x hi => ?_⟩
 obtain ⟨va, vb, e1, e2, e3, ka, kb⟩ := ha i x hi
 exact ⟨va, vb, e1, e2, e3, Sl.into ka hP, Sl.into kb hP⟩
theorem SlArms.nil (w : World) (P : Nat → Prop) : SlArms w P (.slice none 0 0) [] := ⟨[], Sl.nil w P 3, by simp, fun i x h => by simp at h⟩
variable {vn vf va vp : Value} {t : Ty}
theorem Lists.keep {l : List Nat} (h : Lists w P vn vf va vp t) (hw : Wr l w w') (hP : ∀ b, P b → b ∉ l) : Lists w' P vn vf va vp t :=
 ⟨Sl.keep h.names hw hP, Sl.keep h.fields hw hP, SlArms.keep h.arms hw hP, Sl.keep h.params hw hP⟩
theorem Lists.wr0 (h : Lists w P vn vf va vp t) (hw : Wr [] w w') : Lists w' P vn vf va vp t := h.keep hw (fun _ _ => by simp)
theorem Lists.into (h : Lists w P vn vf va vp t) (hP : ∀ b, P b → b < w.heap.size → Q b) : Lists w Q vn vf va vp t :=
 ⟨Sl.into h.names hP, Sl.into h.fields hP, SlArms.into h.arms hP, Sl.into h.params hP⟩
theorem Lists.mono (h : Lists w P vn vf va vp t) (hP : ∀ b, P b → Q b) : Lists w Q vn vf va vp t := h.into fun b hb _ => hP b hb
end
end Go.Proofs.YtjanbpchedgoiaaGreat
namespace Go.Proofs.YtjanbpchedgoiaaGreat
open Go
def stepN (h c : Nat) : Nat := ((h ^^^ c) * 1099511628211) % 18446744073709551616
def moreN (h : Nat) (l : List Nat) : Nat := l.foldl stepN h
def ofN (h : Nat) : Nat := h ^^^ (h >>> 32)
theorem stepN_lt (h c : Nat) : stepN h c < 18446744073709551616 := Nat.mod_lt _ (by decide)
theorem moreN_lt {h : Nat} (hh : h < 18446744073709551616) (l : List Nat) : moreN h l < 18446744073709551616 := by
 induction l generalizing h with
 | nil => exact hh
 | cons c l ih => exact ih (stepN_lt h c)
theorem moreN_append (h : Nat) (l m : List Nat) : moreN h (l ++ m) = moreN (moreN h l) m := by simp [moreN, List.foldl_append]
def hexN (d : Nat) : UInt8 := if d < 10 then UInt8.ofNat (48 + d) else UInt8.ofNat (87 + d)
def textN (k : Nat) : Nat → List UInt8
 | 0 => []
 | n + 1 => hexN (k / 16 ^ n % 16) :: textN k n
theorem textN_len (k : Nat) : ∀ n, (textN k n).length = n
 | 0 => rfl
 | n + 1 => by simp [textN, textN_len k n]
end Go.Proofs.YtjanbpchedgoiaaGreat
