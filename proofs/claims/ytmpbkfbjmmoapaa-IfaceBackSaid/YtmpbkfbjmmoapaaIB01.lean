/- Linking, as plain data: modules, objects, in which order they begin, what is linked. The plain law of the order. No conditions. -/
import Derived.Test.YtmpbkfbjmmoapaaRows
import Derived.WalkKit
import Derived.WalkSpells
import Derived.WalkLawsBesides
import Derived.BigQuiet
import Derived.BigRegion
import Derived.Deep.QuietTactic
import Derived.Lib.Hide
import Derived.Maps.AppendAt
import Derived.Deep.AppendLies
import Derived.RegionTactic
import Derived.OwnWalk
import Derived.Laws.OwnMore
import Derived.Deep.Draws
import Derived.Laws.Rows
import Derived.Laws.Bits64
namespace Go.Proofs.Ytmpbkfbjmmoapaa
set_option linter.unusedVariables false
set_option linter.unusedSimpArgs false
/-- A procedure. -/
structure PrcD where
  at_ : Int
  params : Int
  locals : Int
  depth : Int
  level : Int
  func : Bool
/-- A module. -/
structure ModD where
  code : ByteArray
  procs : List PrcD
  imports : List Int
  data : Int
  init : List Int
/-- Another one that is named. -/
structure UseD where
  module : ByteArray
  key : Int
/-- An object. -/
structure ObjD where
  module : ByteArray
  main : Bool
  key : Int
  uses : List UseD
  mod : ModD
/-- What a module needs. -/
structure NeedD where
  module : ByteArray
  needs : List ByteArray
/-- Is it in the list? -/
def inL (m : ByteArray) (l : List ByteArray) : Bool := l.any (fun x => decide (x = m))
/-- Is it from low to high? -/
def inB (n low high : Int) : Bool := decide (low ≤ n) && decide (n ≤ high)
def prcB (p : PrcD) (m : ModD) : Bool := inB p.params 0 65535 && inB p.locals 0 65535 && inB p.depth 0 65535 && inB p.at_ 0 (m.code.size : Int) && inB p.level 1 16
def bodyB : List PrcD → Bool
  | [] => false
  | p :: _ => decide (p.level = 1) && decide (p.params = 0) && !p.func
/-- May a module be, among so many? -/
def modB (m : ModD) (n : Int) : Bool :=
  decide (m.code.size ≤ 65535) && decide (1 ≤ m.procs.length) && decide (m.procs.length ≤ 1024) && decide (m.imports.length ≤ 255) && inB m.data (m.init.length : Int) 65535 &&
    m.procs.all (fun p => prcB p m) && m.imports.all (fun i => inB i 0 (n - 1)) && bodyB m.procs
/-- May a module be, in an object? -/
def omodB (m : ModD) : Bool := decide (m.imports.length ≤ 255) && m.imports.all (fun i => inB i 0 63) && modB { m with imports := [] } 1
/-- How far the order has come. -/
structure Tr where
  st : ByteArray → Nat
  ord : List ByteArray
inductive Res where
  | ok (t : Tr)
  | err (who : ByteArray) (e : Int)
def Tr.set (t : Tr) (m : ByteArray) (n : Nat) : Tr := ⟨fun x => if x = m then n else t.st x, t.ord⟩
def Tr.done (t : Tr) (m : ByteArray) : Tr := ⟨fun x => if x = m then 2 else t.st x, t.ord ++ [m]⟩
/-- Nothing becomes fresh again. -/
def Le (t t' : Tr) : Prop := ∀ m, t'.st m = 0 → t.st m = 0
theorem Le.refl (t : Tr) : Le t t := fun _ h => h
theorem Le.trans {a b c : Tr} (h : Le a b) (k : Le b c) : Le a c := fun m hm => h m (k m hm)
theorem filter_len {α : Type} (p q : α → Bool) (h : ∀ x, p x = true → q x = true) : ∀ l : List α, (l.filter p).length ≤ (l.filter q).length
  | [] => Nat.le_refl _
  | x :: l => by
    have := filter_len p q h l
    cases hp : p x with
    | true => rw [List.filter_cons_of_pos hp, List.filter_cons_of_pos (h x hp)]; simpa using this
    | false =>
      rw [List.filter_cons_of_neg (by simp [hp])]
      cases hq : q x with
      | true => rw [List.filter_cons_of_pos hq, List.length_cons]; omega
      | false => rw [List.filter_cons_of_neg (by simp [hq])]; exact this
theorem filter_len_lt {α : Type} (p q : α → Bool) (h : ∀ x, p x = true → q x = true) (y : α) (hy : p y = false) (hz : q y = true) : ∀ l : List α, y ∈ l → (l.filter p).length < (l.filter q).length
  | [], hm => by cases hm
  | x :: l, hm => by
    rcases List.mem_cons.1 hm with e | e
    · subst e
      rw [List.filter_cons_of_neg (by simp [hy]), List.filter_cons_of_pos hz, List.length_cons]
      have := filter_len p q h l
      omega
    · have ih := filter_len_lt p q h y hy hz l e
      cases hp : p x with
      | true => rw [List.filter_cons_of_pos hp, List.filter_cons_of_pos (h x hp)]; simpa using ih
      | false =>
        rw [List.filter_cons_of_neg (by simp [hp])]
        cases hq : q x with
        | true => rw [List.filter_cons_of_pos hq, List.length_cons]; omega
        | false => rw [List.filter_cons_of_neg (by simp [hq])]; exact ih
theorem Le.set (t : Tr) (m : ByteArray) (n : Nat) (hn : n ≠ 0) : Le t (t.set m n) := fun x hx => by
  have hx' : (if x = m then n else t.st x) = 0 := hx
  by_cases e : x = m
  · rw [if_pos e] at hx'; exact absurd hx' hn
  · rwa [if_neg e] at hx'
theorem Le.done (t : Tr) (m : ByteArray) : Le t (t.done m) := fun x hx => by
  have hx' : (if x = m then 2 else t.st x) = 0 := hx
  by_cases e : x = m
  · rw [if_pos e] at hx'; cases hx'
  · rwa [if_neg e] at hx'
/-- What holds of an order that is under way. -/
structure Inv (all : ByteArray → Option (List ByteArray)) (t : Tr) : Prop where
  le2 : ∀ m, t.st m ≤ 2
  two : ∀ m, t.st m = 2 ↔ m ∈ t.ord
  nodup : t.ord.Nodup
  ahead : ∀ (i : Nat) (m : ByteArray), t.ord[i]? = some m → ∃ l, all m = some l ∧ ∀ n ∈ l, ∃ j, j < i ∧ t.ord[j]? = some n
/-- What became of it. -/
structure Gone (t t' : Tr) : Prop where
  one : ∀ m, t'.st m = 1 ↔ t.st m = 1
  more : ∃ x, t'.ord = t.ord ++ x
theorem Gone.refl (t : Tr) : Gone t t := ⟨fun _ => Iff.rfl, [], by simp⟩
theorem Gone.trans {a b c : Tr} (h : Gone a b) (k : Gone b c) : Gone a c :=
  ⟨fun m => (k.one m).trans (h.one m), by
    obtain ⟨x, hx⟩ := h.more
    obtain ⟨y, hy⟩ := k.more
    exact ⟨x ++ y, by rw [hy, hx, List.append_assoc]⟩⟩
end Go.Proofs.Ytmpbkfbjmmoapaa

/- Small words for worlds: a block that is known whole, what a call may write, and the laws of the walk that the kit lacks. No conditions. -/
namespace Go.Proofs.Ytmpbkfbjmmoapaa
set_option linter.unusedVariables false
set_option linter.unusedSimpArgs false
open Go.RowKit
/-- What a call may have done: new blocks, and the blocks of the list written. -/
structure Wr (l : List Nat) (w w' : World) : Prop where
  os : w'.os = w.os
  tape : w'.tape = w.tape
  output : w'.output = w.output
  size : w.heap.size ≤ w'.heap.size
  block : ∀ k, k < w.heap.size → k ∉ l → w'.heap[k]? = w.heap[k]?
theorem Wr.refl (l : List Nat) (w : World) : Wr l w w := ⟨rfl, rfl, rfl, Nat.le_refl _, fun _ _ _ => rfl⟩
/-- Two steps: what the second one writes is on the list, or new since the first. -/
theorem Wr.trans' {l l' : List Nat} {a b c : World} (h : Wr l a b) (k : Wr l' b c) (hl : ∀ x, x ∈ l' → x ∈ l ∨ a.heap.size ≤ x) : Wr l a c :=
  ⟨k.os.trans h.os, k.tape.trans h.tape, k.output.trans h.output, Nat.le_trans h.size k.size, fun i hi hn =>
    (k.block i (Nat.lt_of_lt_of_le hi h.size) (fun hm => by rcases hl i hm with h1 | h1; exact hn h1; omega)).trans (h.block i hi hn)⟩
theorem Wr.trans {l : List Nat} {a b c : World} (h : Wr l a b) (k : Wr l b c) : Wr l a c := h.trans' k (fun _ hx => .inl hx)
theorem Wr.trans0 {l : List Nat} {a b c : World} (h : Wr l a b) (k : Wr [] b c) : Wr l a c := h.trans' k (fun _ hx => by cases hx)
theorem Wr.more {l l' : List Nat} {a b : World} (h : Wr l a b) (hl : ∀ x, x ∈ l → x ∈ l') : Wr l' a b :=
  ⟨h.os, h.tape, h.output, h.size, fun i hi hn => h.block i hi (fun hm => hn (hl i hm))⟩
theorem Wr.nil {l : List Nat} {a b : World} (h : Wr [] a b) : Wr l a b := h.more (fun _ hx => by cases hx)
theorem Wr.drew {l : List Nat} {a w : World} (h : Wr l a w) : Wr l a w.drew := ⟨h.os, h.tape, h.output, h.size, h.block⟩
theorem Wr.drewN {l : List Nat} {a w : World} (h : Wr l a w) (n : Nat) : Wr l a (w.drewN n) := ⟨h.os, h.tape, h.output, h.size, h.block⟩
theorem Wr.alloc {l : List Nat} {a w : World} (h : Wr l a w) (o : Obj) : Wr l a (w.alloc o) :=
  ⟨h.os, h.tape, h.output, by have := h.size; simp; omega, fun i hi hn => (Below.heap_alloc w o i (Nat.lt_of_lt_of_le hi h.size)).trans (h.block i hi hn)⟩
theorem Wr.setCell {l : List Nat} {a w : World} (h : Wr l a w) {p : Addr} (hp : p.block ∈ l ∨ a.heap.size ≤ p.block) (u : Value) : Wr l a (w.setCell p u) :=
  ⟨h.os, h.tape, h.output, by have := h.size; simp; omega, fun i hi hn => (Below.heap_setCell w p u i (fun e => by subst e; rcases hp with h1 | h1; exact hn h1; omega)).trans (h.block i hi hn)⟩
theorem Wr.setOn {l : List Nat} {a w : World} (h : Wr l a w) {b o : Nat} (hp : b ∈ l) (u : Value) : Wr l a (w.setCell ⟨b, o, none⟩ u) := h.setCell (.inl hp) u
theorem Wr.setNew {l : List Nat} {a w : World} (h : Wr l a w) {b o : Nat} (hp : a.heap.size ≤ b) (u : Value) : Wr l a (w.setCell ⟨b, o, none⟩ u) := h.setCell (.inr hp) u
theorem Wr.below {l : List Nat} {w w' : World} (h : Wr l w w') {B : Nat} (hB : B ≤ w.heap.size) (hl : ∀ x, x ∈ l → B ≤ x) : Below B w w' :=
  ⟨h.os, h.tape, h.output, h.size, fun k hk => h.block k (by omega) (fun hm => by have := hl k hm; omega)⟩
theorem Wr.ofBelow {w w' : World} (h : Below w.heap.size w w') : Wr [] w w' := ⟨h.os, h.tape, h.output, h.size, fun k hk _ => h.block k hk⟩
theorem Wr.toBelow {w w' : World} (h : Wr [] w w') : Below w.heap.size w w' := h.below (Nat.le_refl _) (fun _ hx => by cases hx)
theorem Wr.cell {l : List Nat} {w w' : World} (h : Wr l w w') {p : Addr} (hp : p.block < w.heap.size) (hn : p.block ∉ l) : w'.cell? p = w.cell? p :=
  World.cell?_of_block (h.block p.block hp hn)
theorem Wr.cellOf {l : List Nat} {w w' : World} (h : Wr l w w') {p : Addr} {v : Value} (hc : w.cell? p = some v) (hn : p.block ∉ l) : w'.cell? p = some v :=
  (h.cell (World.block_lt_of_cell? w p hc) hn).trans hc
theorem Wr.frozenOf {l : List Nat} {w w' : World} (h : Wr l w w') {p : Addr} {v : Value} {f : Bool} (hc : w.cell? p = some v) (hf : w.frozen? p = f) (hn : p.block ∉ l) : w'.frozen? p = f :=
  (World.frozen?_of_block (h.block p.block (World.block_lt_of_cell? w p hc) hn)).trans hf
theorem Wr.ofGrown {w w' : World} {row : Option Nat} (h : w.grownBy w' row) {l : List Nat} (hr : ∀ k, row = some k → k ∈ l) : Wr l w w' :=
  ⟨h.os, h.tape, h.output, h.size, fun k hk hn => h.block k hk (fun e => hn (hr k e.symm))⟩
theorem Wr.new {l : List Nat} {a b c : World} {g : Nat} (h : Wr l a b) (k : Wr [g] b c) (hg : a.heap.size ≤ g) : Wr l a c :=
  h.trans' k (fun x hx => .inr (by rw [List.mem_singleton] at hx; omega))
theorem Wr.on {l : List Nat} {a b c : World} {g : Nat} (h : Wr l a b) (k : Wr [g] b c) (hg : g ∈ l) : Wr l a c :=
  h.trans' k (fun x hx => .inl (by rw [List.mem_singleton] at hx; subst hx; exact hg))
/-- Block g is just these cells, none frozen. -/
def Blk (w : World) (g : Nat) (t : TypeId) (cs : Array Value) : Prop := w.heap[g]? = some (.cells cs t (0, 0))
section
variable {w w' : World} {g : Nat} {t : TypeId} {cs : Array Value}
theorem Blk.lt (h : Blk w g t cs) : g < w.heap.size := by
  rcases Nat.lt_or_ge g w.heap.size with hlt | hge
  · exact hlt
  · unfold Blk at h; rw [Array.getElem?_eq_none hge] at h; cases h
theorem Blk.cell (h : Blk w g t cs) (i : Nat) : w.cell? ⟨g, i, none⟩ = cs[i]? := cell_of_row w g i cs t (0, 0) h
theorem Blk.frozen (h : Blk w g t cs) (i : Nat) : w.frozen? ⟨g, i, none⟩ = false := by
  unfold Blk at h
  simp [World.frozen?, h]
theorem Blk.new (w : World) (t : TypeId) (cs : Array Value) : Blk (w.alloc (.cells cs t)) w.heap.size t cs := heap_alloc_new w _
theorem Blk.drew (h : Blk w g t cs) : Blk w.drew g t cs := h
theorem Blk.drewN (h : Blk w g t cs) (n : Nat) : Blk (w.drewN n) g t cs := h
theorem Blk.alloc (h : Blk w g t cs) (o : Obj) : Blk (w.alloc o) g t cs := (Below.heap_alloc w o g h.lt).trans h
theorem Blk.set_ (h : Blk w g t cs) (i : Nat) (u : Value) : Blk (w.setCell ⟨g, i, none⟩ u) g t (cs.setIfInBounds i u) := by
  unfold Blk at h ⊢
  simp [World.setCell, Array.getElem?_modify, h]
theorem Blk.far (h : Blk w g t cs) {p : Addr} (hp : g ≠ p.block) (u : Value) : Blk (w.setCell p u) g t cs := (Below.heap_setCell w p u g hp).trans h
theorem Blk.wr {l : List Nat} (h : Blk w g t cs) (hb : Wr l w w') (hg : g ∉ l) : Blk w' g t cs := (hb.block g h.lt hg).trans h
theorem Blk.wr0 (h : Blk w g t cs) (hb : Wr [] w w') : Blk w' g t cs := h.wr hb (by simp)
end
section
variable (P : Program) (w : World)
@[go_sem] theorem run_store_complex' (a : Addr) (m : Mode) (k : FloatKind) (x y : Nat) : (store a (.complex k x y) m).run P w = stored P w a (.complex k x y) m := run_store P w a _ m rfl
@[go_sem] theorem run_store_float' (a : Addr) (m : Mode) (k : FloatKind) (x : Nat) : (store a (.float k x) m).run P w = stored P w a (.float k x) m := run_store P w a _ m rfl
end
section
variable {P : Program} {ops : Array Oper} {Q : Exit → Act → World → Prop} {a : Act} {w : World} {rest : List Oper} {o : Oper}
end
/-- A slice of n one-cell elements that reads g. -/
def Row1 (w : World) (v : Value) (n : Nat) (g : Nat → Value) : Prop :=
  ∃ (A : Option Addr) (c : Nat), v = .slice A n c ∧ n ≤ c ∧ c ≤ maxLen ∧ ∀ j, j < n → ∃ b off, A = some ⟨b, off, none⟩ ∧ w.cell? ⟨b, off + j, none⟩ = some (g j)
theorem Row1.wr0 {w w' : World} {v : Value} {n : Nat} {g : Nat → Value} (h : Row1 w v n g) (hw : Wr [] w w') : Row1 w' v n g := by
  obtain ⟨A, c, hv, h1, h2, h3⟩ := h
  refine ⟨A, c, hv, h1, h2, fun j hj => ?_⟩
  obtain ⟨b, off, hA, hc⟩ := h3 j hj
  exact ⟨b, off, hA, hw.cellOf hc (by simp)⟩
theorem Row1.ofOwn {w : World} {base : Nat} {e : TypeId} {v : Value} {n : Nat} {xs : List Value} (h : w.ownsRow base e 1 v n xs) (g : Nat → Value) (hg : ∀ j, j < n → xs[j]? = some (g j)) : Row1 w v n g := by
  rcases h.2 with ⟨rfl, rfl⟩ | ⟨b, cap, cur, rfl, hb, hh, hn, hc, hs, ht⟩
  · exact ⟨none, 0, rfl, Nat.le_refl _, by simp, fun j hj => absurd hj (by omega)⟩
  · refine ⟨_, cap, rfl, hn, hc, fun j hj => ⟨b, 0, rfl, ?_⟩⟩
    rw [Nat.zero_add, cell_of_row w b j cur e (0, 0) hh, ← hg j hj, ← ht]
    rw [List.getElem?_take, if_pos (by omega)]
    simp
theorem bytes_some (s : ByteArray) (h : 0 < s.size) : s.toList.isEmpty = false := by
  rw [ByteArray.toList_eq]
  obtain ⟨⟨l⟩⟩ := s
  cases l with
  | nil => simp [ByteArray.size] at h
  | cons x l => rfl
end Go.Proofs.Ytmpbkfbjmmoapaa

/- The plain law of KeyParts: sums, keys, and how keys are written. No conditions. -/
namespace Go.Proofs.Ytmpbkfbjmmoapaa
set_option linter.unusedVariables false
set_option linter.unusedSimpArgs false
open Go
end Go.Proofs.Ytmpbkfbjmmoapaa

/- Objects as bytes, and back: the plain laws. No conditions. -/
namespace Go.Proofs.Ytmpbkfbjmmoapaa
set_option linter.unusedVariables false
set_option linter.unusedSimpArgs false
/-- So many bytes of a number, the higher first. -/
def numL (n : Nat) : Nat → List UInt8
  | 0 => []
  | k + 1 => UInt8.ofNat (n / 256 ^ k % 256) :: numL n k
theorem numL_len (n : Nat) : ∀ k, (numL n k).length = k
  | 0 => rfl
  | k + 1 => by rw [numL, List.length_cons, numL_len n k]
def truL (b : Bool) : List UInt8 := if b then [1] else [0]
def textL (s : ByteArray) : List UInt8 := numL s.size 1 ++ s.data.toList
def useL (u : UseD) : List UInt8 := textL u.module ++ numL u.key.toNat 8
/-- What is left of bytes. -/
structure Rd where
  s : List UInt8
  bad : Bool
def valN (l : List UInt8) : Nat := l.foldl (fun n c => 256 * n + c.toNat) 0
def Rd.raw (r : Rd) (n : Nat) : List UInt8 × Rd := if r.bad = true ∨ r.s.length < n then ([], ⟨r.s, true⟩) else (r.s.take n, ⟨r.s.drop n, false⟩)
def Rd.num (r : Rd) (size : Nat) : Nat × Rd := (valN (r.raw size).1, (r.raw size).2)
def Rd.truth (r : Rd) : Bool × Rd := (decide ((r.num 1).1 = 1), ⟨(r.num 1).2.s, (r.num 1).2.bad || decide (1 < (r.num 1).1)⟩)
def Rd.text (r : Rd) : ByteArray × Rd := (⟨(((r.num 1).2.raw (r.num 1).1).1).toArray⟩, ((r.num 1).2.raw (r.num 1).1).2)
def Rd.list {α : Type} (one : Rd → α × Rd) : Nat → Rd → List α × Rd
  | 0, r => ([], r)
  | n + 1, r => if r.bad = true then ([], r) else ((one r).1 :: (Rd.list one n (one r).2).1, (Rd.list one n (one r).2).2)
def Rd.two (r : Rd) : Int × Rd := (((r.num 2).1 : Int), (r.num 2).2)
def Rd.one (r : Rd) : Int × Rd := (((r.num 1).1 : Int), (r.num 1).2)
def Rd.proc (r : Rd) : PrcD × Rd :=
  let a := r.two
  let b := a.2.two
  let c := b.2.two
  let d := c.2.two
  let e := d.2.one
  let f := e.2.truth
  (⟨a.1, b.1, c.1, d.1, e.1, f.1⟩, f.2)
def Rd.use (r : Rd) : UseD × Rd :=
  let a := r.text
  let b := a.2.num 8
  (⟨a.1, (b.1 : Int)⟩, b.2)
def Rd.module (r : Rd) : ModD × Rd :=
  let a := r.num 2
  let b := a.2.raw a.1
  let c := b.2.num 2
  let d := c.2.list Rd.proc c.1
  let e := d.2.num 1
  let f := e.2.list Rd.one e.1
  let g := f.2.two
  let h := g.2.num 2
  let i := h.2.list Rd.two h.1
  let m : ModD := ⟨⟨b.1.toArray⟩, d.1, f.1, g.1, i.1⟩
  (m, ⟨i.2.s, i.2.bad || !omodB m⟩)
theorem raw_app (a b : List UInt8) : (Rd.mk (a ++ b) false).raw a.length = (a, ⟨b, false⟩) := by
  unfold Rd.raw
  rw [if_neg (by simp)]
  simp
theorem valN_snoc (l : List UInt8) (c : UInt8) : valN (l ++ [c]) = 256 * valN l + c.toNat := by simp [valN, List.foldl_append]
theorem numL_snoc (n : Nat) : ∀ k, numL n (k + 1) = numL (n / 256) k ++ [UInt8.ofNat (n % 256)]
  | 0 => by simp [numL]
  | k + 1 => by
    rw [numL, numL_snoc n k]
    conv => rhs; rw [numL]
    rw [List.cons_append]
    congr 2
    rw [Nat.div_div_eq_div_mul, Nat.pow_succ, Nat.mul_comm]
theorem toNat_ofNat (n : Nat) (h : n < 256) : (UInt8.ofNat n).toNat = n := by
  rw [UInt8.toNat_ofNat']
  exact Nat.mod_eq_of_lt h
theorem valN_numL : ∀ (k n : Nat), n < 256 ^ k → valN (numL n k) = n
  | 0, n, h => by simp at h; simp [numL, valN, h]
  | k + 1, n, h => by
    rw [numL_snoc, valN_snoc, valN_numL k (n / 256) (by rw [Nat.div_lt_iff_lt_mul (by decide), ← Nat.pow_succ]; exact h), toNat_ofNat _ (Nat.mod_lt _ (by decide))]
    omega
theorem num_app (n k : Nat) (h : n < 256 ^ k) (rest : List UInt8) : (Rd.mk (numL n k ++ rest) false).num k = (n, ⟨rest, false⟩) := by
  unfold Rd.num
  have := raw_app (numL n k) rest
  rw [numL_len] at this
  rw [this]
  simp only [valN_numL k n h]
theorem truth_app (b : Bool) (rest : List UInt8) : (Rd.mk (truL b ++ rest) false).truth = (b, ⟨rest, false⟩) := by
  cases b
  · have := num_app 0 1 (by decide) rest
    have e : truL false = numL 0 1 := rfl
    unfold Rd.truth
    rw [e, this]
    rfl
  · have := num_app 1 1 (by decide) rest
    have e : truL true = numL 1 1 := rfl
    unfold Rd.truth
    rw [e, this]
    rfl
theorem text_app (s : ByteArray) (h : s.size ≤ 255) (rest : List UInt8) : (Rd.mk (textL s ++ rest) false).text = (s, ⟨rest, false⟩) := by
  unfold Rd.text textL
  rw [List.append_assoc, num_app s.size 1 (by omega)]
  have hl : s.data.toList.length = s.size := rfl
  have := raw_app s.data.toList rest
  rw [hl] at this
  rw [this]
theorem list_app {α : Type} {one : Rd → α × Rd} {enc : α → List UInt8} : ∀ (l : List α) (rest : List UInt8), (∀ x ∈ l, ∀ r, one ⟨enc x ++ r, false⟩ = (x, ⟨r, false⟩)) → Rd.list one l.length ⟨l.flatMap enc ++ rest, false⟩ = (l, ⟨rest, false⟩)
  | [], rest, _ => rfl
  | x :: l, rest, h => by
    rw [List.length_cons, Rd.list, if_neg (by simp), List.flatMap_cons, List.append_assoc, h x (by simp)]
    simp only
    rw [list_app l rest (fun y hy => h y (by simp [hy]))]
theorem two_app (n : Int) (h : 0 ≤ n) (h2 : n ≤ 65535) (rest : List UInt8) : (Rd.mk (numL n.toNat 2 ++ rest) false).two = (n, ⟨rest, false⟩) := by
  unfold Rd.two
  rw [num_app n.toNat 2 (by omega)]
  simp only [Int.toNat_of_nonneg h]
theorem one_app (n : Int) (h : 0 ≤ n) (h2 : n ≤ 255) (rest : List UInt8) : (Rd.mk (numL n.toNat 1 ++ rest) false).one = (n, ⟨rest, false⟩) := by
  unfold Rd.one
  rw [num_app n.toNat 1 (by omega)]
  simp only [Int.toNat_of_nonneg h]
theorem inB_iff {n a b : Int} : inB n a b = true ↔ a ≤ n ∧ n ≤ b := by simp [inB]
/-- Numbers of one word each. -/
def wordsB (m : ModD) : Prop := ∀ i ∈ m.init, 0 ≤ i ∧ i ≤ 65535
theorem use_app (u : UseD) (hm : u.module.size ≤ 255) (hk : 0 ≤ u.key ∧ u.key < 18446744073709551616) (rest : List UInt8) : (Rd.mk (useL u ++ rest) false).use = (u, ⟨rest, false⟩) := by
  unfold Rd.use useL
  simp only [List.append_assoc]
  rw [text_app u.module hm]
  simp only
  rw [num_app u.key.toNat 8 (by omega)]
  simp only [Int.toNat_of_nonneg hk.1]
/-- Keys of 64 bits, words of 16. -/
structure objW (o : ObjD) : Prop where
  key : 0 ≤ o.key ∧ o.key < 18446744073709551616
  keys : ∀ u ∈ o.uses, 0 ≤ u.key ∧ u.key < 18446744073709551616
  words : wordsB o.mod
end Go.Proofs.Ytmpbkfbjmmoapaa

/- Slices that read as lists, and a type as it lies in memory. No conditions. -/
namespace Go.Proofs.Ytmpbkfbjmmoapaa
open Go.RowKit
set_option linter.unusedVariables false
set_option linter.unusedSimpArgs false
/-- A slice of n things of some cells each that reads xs; it lies in blocks that P lets in. -/
def Sl (w : World) (P : Nat → Prop) (size : Nat) (v : Value) (n : Nat) (xs : List Value) : Prop :=
  ∃ (A : Option Addr) (c : Nat), v = .slice A n c ∧ n ≤ c ∧ c ≤ maxLen ∧ xs.length = n * size ∧ ∀ (j : Nat) (u : Value), xs[j]? = some u → ∃ b off, A = some ⟨b, off, none⟩ ∧ P b ∧ w.cell? ⟨b, off + j, none⟩ = some u
section
variable {w w' : World} {P Q : Nat → Prop} {size n : Nat} {v : Value} {xs : List Value}
theorem Sl.nil (w : World) (P : Nat → Prop) (size : Nat) : Sl w P size (.slice none 0 0) 0 [] := ⟨none, 0, rfl, Nat.le_refl _, by simp, by simp, fun j u h => by simp at h⟩
theorem Sl.keep {l : List Nat} (h : Sl w P size v n xs) (hw : Wr l w w') (hP : ∀ b, P b → b ∉ l) : Sl w' P size v n xs := by
  obtain ⟨A, c, hv, h1, h2, h3, h4⟩ := h
  refine ⟨A, c, hv, h1, h2, h3, fun j u hj => ?_⟩
  obtain ⟨b, off, hA, hb, hc⟩ := h4 j u hj
  exact ⟨b, off, hA, hb, hw.cellOf hc (hP b hb)⟩
theorem Sl.wr0 (h : Sl w P size v n xs) (hw : Wr [] w w') : Sl w' P size v n xs := h.keep hw (fun _ _ => by simp)
theorem Sl.into (h : Sl w P size v n xs) (hP : ∀ b, P b → b < w.heap.size → Q b) : Sl w Q size v n xs := by
  obtain ⟨A, c, hv, h1, h2, h3, h4⟩ := h
  refine ⟨A, c, hv, h1, h2, h3, fun j u hj => ?_⟩
  obtain ⟨b, off, hA, hb, hc⟩ := h4 j u hj
  exact ⟨b, off, hA, hP b hb (World.block_lt_of_cell? w _ hc), hc⟩
theorem Sl.mono (h : Sl w P size v n xs) (hP : ∀ b, P b → Q b) : Sl w Q size v n xs := h.into fun b hb _ => hP b hb
theorem Sl.ofOwn {base : Nat} {e : TypeId} (h : w.ownsRow base e size v n xs) (hP : ∀ b, v.ownBlock = some b → P b) : Sl w P size v n xs := by
  have hl := h.1
  rcases h.2 with ⟨rfl, rfl⟩ | ⟨b, cap, cur, rfl, hb, hh, hn, hc, hs, ht⟩
  · have hx : xs = [] := List.eq_nil_of_length_eq_zero (by simpa using hl)
    subst hx
    exact ⟨none, 0, rfl, Nat.le_refl _, by simp, hl, fun j u h => by simp at h⟩
  · refine ⟨_, cap, rfl, hn, hc, hl, fun j u hj => ⟨b, 0, rfl, hP b rfl, ?_⟩⟩
    have := h.cells (g := b) rfl j u hj
    rw [Addr.add_lit] at this
    exact this
/-- The cell of a thing's field. -/
theorem Sl.at_ (h : Sl w P size v n xs) {j : Nat} {u : Value} (hj : xs[j]? = some u) : ∃ b off c, v = .slice (some ⟨b, off, none⟩) n c ∧ n ≤ c ∧ c ≤ maxLen ∧ P b ∧ w.cell? ⟨b, off + j, none⟩ = some u := by
  obtain ⟨A, c, hv, h1, h2, h3, h4⟩ := h
  obtain ⟨b, off, rfl, hb, hc⟩ := h4 j u hj
  exact ⟨b, off, c, hv, h1, h2, hb, hc⟩
theorem Sl.len (h : Sl w P size v n xs) : xs.length = n * size := by
  obtain ⟨A, c, hv, h1, h2, h3, h4⟩ := h
  exact h3
theorem Sl.form (h : Sl w P size v n xs) : ∃ A c, v = .slice A n c ∧ n ≤ c ∧ c ≤ maxLen := by
  obtain ⟨A, c, hv, h1, h2, h3, h4⟩ := h
  exact ⟨A, c, hv, h1, h2⟩
/-- A thing's cells, all at one address. -/
theorem Sl.thing (h : Sl w P size v n xs) (hs : 0 < size) {i : Nat} (hi : i < n) : ∃ b off c, v = .slice (some ⟨b, off, none⟩) n c ∧ n ≤ c ∧ c ≤ maxLen ∧ P b ∧
    ∀ j u, j < size → xs[i * size + j]? = some u → w.cell? ⟨b, off + (i * size + j), none⟩ = some u := by
  have hl := h.len
  obtain ⟨A, c, hv, h1, h2, h3, h4⟩ := h
  have h0 : 0 < xs.length := by rw [hl]; exact Nat.mul_pos (by omega) hs
  obtain ⟨b, off, rfl, hb, hc⟩ := h4 0 xs[0] (List.getElem?_eq_getElem h0)
  refine ⟨b, off, c, hv, h1, h2, hb, fun j u hj hu => ?_⟩
  obtain ⟨b', off', e, hb', hc'⟩ := h4 _ u hu
  injection e with e
  injection e with e1 e2
  subst e1 e2
  exact hc'
end
/-- 'append' of a slice behind a row of the call's own. -/
theorem run_append_sl {P : Program} (w : World) (base : Nat) (t ty e : TypeId) (i : TypeInfo) (z : Value) (size bytes : Nat) (ht : P.underlying t = some (.slice e)) (hi : P.info? e = some i) (hz : i.zero = some z)
    (hsize : i.size = size) (hby : i.bytes = bytes) (hzs : z.cells.size = size) (hsz : 0 < size)
    (v : Value) (n : Nat) (xs : List Value) (hown : w.ownsRow base e size v n xs) (Q : Nat → Prop) (vs : Value) (m : Nat) (news : List Value) (hr : Sl w Q size vs m news) (h1 : ∀ u ∈ news, u.oneCell' = true)
    (h63 : n + m ≤ maxLen) (hbytes : (n + m) * bytes ≤ 140737488355328) (hbase : base ≤ w.heap.size) :
    ∃ v' w', (Builtin.append_ #[t, t] ty #[v, vs]).run P w = .ok v' w' ∧ w'.ownsRow base e size v' (n + m) (xs ++ news) ∧ w.grownBy w' v.ownBlock ∧ (v'.ownBlock = v.ownBlock ∨ v'.ownBlock = some w.heap.size) := by
  obtain ⟨A, c, rfl, _, _, hl, hc⟩ := hr
  rcases Nat.eq_zero_or_pos m with h0 | h0
  · subst h0
    have hn : news = [] := List.eq_nil_of_length_eq_zero (by simpa using hl)
    subst hn
    have hrun : (Builtin.append_ #[t, t] ty #[v, .slice A 0 c]).run P w = .ok v w := by
      rcases hown.2 with ⟨rfl, rfl⟩ | ⟨g, cap, cur, rfl, _, _, hnc, _⟩
      · cases A <;> simp [Builtin.append_, run_underlying ht, sizeOf, typeInfo, hi, Builtin.lenOf, Builtin.firstCells, loadCells, loadCellsFrom, storeCells]
      · cases A <;> simp [Builtin.append_, run_underlying ht, sizeOf, typeInfo, hi, Builtin.lenOf, Builtin.firstCells, hnc, loadCells, loadCellsFrom, storeCells]
    exact ⟨v, w, hrun, by simpa using hown, World.grownBy.refl w _, .inl rfl⟩
  · have hnl : 0 < news.length := by rw [hl]; exact Nat.mul_pos h0 hsz
    obtain ⟨b, off, rfl, _, _⟩ := hc 0 news[0] (List.getElem?_eq_getElem hnl)
    have hcells : ∀ j u, news[j]? = some u → w.cell? ((⟨b, off, none⟩ : Addr).add j) = some u := by
      intro j u hu
      obtain ⟨b', off', e', _, hc'⟩ := hc j u hu
      injection e' with e'
      injection e' with e1 e2
      subst e1 e2
      rw [Addr.add_lit]
      exact hc'
    obtain ⟨v', w', hrun, h2, h3, _, h5⟩ := run_append_own_at (P := P) w base t ty e i z size bytes ht hi hz hsize hby hzs hsz v n xs hown ⟨b, off, none⟩ m c news hl hcells h1 h63 hbytes hbase
    exact ⟨v', w', hrun, h2, h3, h5⟩
section
variable {P : Program} {a : Act} {Q : Exit → Act → World → Prop} {w : World} {o : Oper}
/-- 'append' in a walk, by its run. -/
theorem wp_append_run {K : Act → World → Prop} (s x : Operand) (t : TypeId) (ho : o.op = .call { callee := .builtin .append, args := #[s, x], argTypes := #[t, t] }) (vs vx : Value) (hs : a.eval s = vs) (hx : a.eval x = vx) (v' : Value) (w' : World)
    (hrun : (Builtin.append_ #[t, t] o.type #[vs, vx]).run P w = .ok v' w') (h : K (a.put o.dst v') w') : o.wp P a w K Q := by
  unfold Oper.wp execOp
  simp only [ho, resolve, invoke, builtin, Sem.run_bind, Sem.run_pure, Result.andThen_ok, List.map_toArray, List.map_cons, List.map_nil, hs, hx, hrun]
  exact h
theorem wpList_append_run {ops : Array Oper} {rest : List Oper} (hgd : o.guard = none) (s x : Operand) (t : TypeId) (ho : o.op = .call { callee := .builtin .append, args := #[s, x], argTypes := #[t, t] }) (vs vx : Value) (hs : a.eval s = vs) (hx : a.eval x = vx) (v' : Value) (w' : World)
    (hrun : (Builtin.append_ #[t, t] o.type #[vs, vx]).run P w = .ok v' w') (h : wpList P ops Q rest (a.put o.dst v') w') : wpList P ops Q (o :: rest) a w :=
  wpList_plain hgd fun _ hK => wp_append_run s x t ho vs vx hs hx v' w' hrun (hK _ _ h)
theorem step_append_run {ops : Array Oper} {K : Act → World → Prop} {E : Prop} (hgd : o.guard = none) (s x : Operand) (t : TypeId) (ho : o.op = .call { callee := .builtin .append, args := #[s, x], argTypes := #[t, t] }) (vs vx : Value) (hs : a.eval s = vs) (hx : a.eval x = vx) (v' : Value) (w' : World)
    (hrun : (Builtin.append_ #[t, t] o.type #[vs, vx]).run P w = .ok v' w') (h : K (a.put o.dst v') w') : if Region.wanted o (yielded ops a.tmps) = true then Oper.wp P o a w K Q else E := by
  have hw : Region.wanted o (yielded ops a.tmps) = true := by simp [Region.wanted, hgd]
  rw [if_pos hw]
  exact wp_append_run s x t ho vs vx hs hx v' w' hrun h
end
/-- The row's own block, as a list. -/
def ownL (v : Value) : List Nat := match v.ownBlock with | some k => [k] | none => []
theorem mem_ownL {v : Value} {k : Nat} : k ∈ ownL v ↔ v.ownBlock = some k := by
  unfold ownL
  cases h : v.ownBlock with
  | none => simp
  | some g => simp; exact ⟨fun e => e.symm, fun e => e.symm⟩
theorem Wr.ofGrownOwn {w w' : World} {v : Value} (h : w.grownBy w' v.ownBlock) : Wr (ownL v) w w' := Wr.ofGrown h fun k hk => mem_ownL.2 hk
end Go.Proofs.Ytmpbkfbjmmoapaa

/- slices.Clone, walked at five kinds of lists. Conditions: what is copied takes no more room than an address can reach. -/
namespace Go.Proofs.Ytmpbkfbjmmoapaa
open Go.RowKit
set_option linter.unusedVariables false
set_option linter.unusedSimpArgs false
/-- A copy, in memory of its own. -/
def CloneP (w : World) (size n : Nat) (xs : List Value) (e : Ending) (w' : World) : Prop := ∃ v', e = .returned v' ∧ Wr [] w w' ∧ Sl w' (fun b => w.heap.size ≤ b) size v' n xs
/-- The same, of a row of the call's own. -/
def CloneO (w : World) (t : TypeId) (size n : Nat) (xs : List Value) (e : Ending) (w' : World) : Prop := ∃ v', e = .returned v' ∧ Wr [] w w' ∧ w'.ownsRow w.heap.size t size v' n xs
theorem CloneO.toP {w w' : World} {t : TypeId} {size n : Nat} {xs : List Value} {e : Ending} (h : CloneO w t size n xs e w') : CloneP w size n xs e w' := by
  obtain ⟨v', he, r, ho⟩ := h
  exact ⟨v', he, r, Sl.ofOwn ho fun b hb => (ho.lt b hb).1⟩
theorem info_str : (Try.prog.info? 9).map (fun i => (i.zero, i.size, i.bytes)) = some (some (.string ⟨#[]⟩), 1, 16) := by kernel_rfl
set_option maxHeartbeats 400000 in
theorem cloneO_str (w : World) (P : Nat → Prop) (v : Value) (n : Nat) (xs : List Value) (h : Sl w P 1 v n xs) (h1 : ∀ u ∈ xs, u.oneCell' = true) (hb : n * 16 ≤ 140737488355328) :
    Calls Try.prog 39 #[v] w (CloneO w 9 1 n xs) := by
  obtain ⟨i0, hi0, hz0, hz1, hz2⟩ := info_parts info_str
  have hm : 0 + n ≤ maxLen := by obtain ⟨A, c, _, k1, k2⟩ := h.form; omega
  have H := Lib.hid h
  have hl := Lib.hid h.len
  obtain ⟨A, c, rfl, k1, k2⟩ := h.form
  clear h k1 k2
  cases A with
  | none =>
    clear hi0 hz0 hz1 hz2 hb hm h1
    have he := fun (w : World) => Lib.run_eql_slice_nil (P := Try.prog) w 51 9 none n c 0 0 Try.underlying51
    go_enter Try.func39, Try.ntmps39
    go_wp2_with fail
    go_ret
    have h0 : xs = [] := by
      obtain ⟨A, c, e, _, _, _, hc⟩ := H.out
      cases xs with
      | nil => rfl
      | cons x l =>
        obtain ⟨b, off, e', _, _⟩ := hc 0 x rfl
        subst e'
        injection e with e
        cases e
    subst h0
    have hn : n = 0 := by have := hl.out; simp at this; omega
    subst hn
    exact ⟨_, rfl, Wr.refl _ _, World.ownsRow_nil w _ _ _⟩
  | some ad =>
    obtain ⟨v1, w1, hrun, hown, hg, hat⟩ := run_append_sl (P := Try.prog) (w.alloc (.cells #[] 9)) w.heap.size 51 51 9 i0 _ 1 16 Try.underlying51 hi0 hz0 hz1 hz2 rfl (by omega)
      (.slice (some ⟨w.heap.size, 0, none⟩) 0 0) 0 [] (World.ownsRow_made w #[] 0 (Nat.le_refl _) (by simp) rfl) P (.slice (some ad) n c) n xs (H.out.wr0 ((Wr.refl _ _).alloc _)) h1 hm (by omega) (by simp)
    simp only [Nat.zero_add, List.nil_append] at hown
    have HG := Lib.hid hg
    have HO := Lib.hid hown
    clear hi0 hz0 hz1 hz2 hm hb h1 hg hat hown
    have he := fun (w : World) => Lib.run_eql_slice_nil (P := Try.prog) w 51 9 (some ad) n c 0 0 Try.underlying51
    go_enter Try.func39, Try.ntmps39
    go_wp2_with (at_builtin; refine wpList_append_run rfl _ _ _ rfl _ _ rfl rfl _ _ hrun ?_)
    go_ret
    refine ⟨_, rfl, ?_, HO.out⟩
    exact ((Wr.refl [] w).alloc _).trans' (Wr.ofGrown HG.out (l := [w.heap.size]) (fun k hk => by simp [Value.ownBlock] at hk; simp [hk])) (fun x hx => .inr (by simp at hx; omega))
theorem clone_str (w : World) (P : Nat → Prop) (v : Value) (n : Nat) (xs : List Value) (h : Sl w P 1 v n xs) (h1 : ∀ u ∈ xs, u.oneCell' = true) (hb : n * 16 ≤ 140737488355328) :
    Calls Try.prog 39 #[v] w (CloneP w 1 n xs) := (cloneO_str w P v n xs h h1 hb).mono fun _ _ k => k.toP
theorem info_fld : (Try.prog.info? 79).map (fun i => (i.zero, i.size, i.bytes)) = some (some (.agg #[.string ⟨#[]⟩, .int .i64 0, .int .i64 0]), 3, 32) := by kernel_rfl
set_option maxHeartbeats 400000 in
theorem cloneO_fld (w : World) (P : Nat → Prop) (v : Value) (n : Nat) (xs : List Value) (h : Sl w P 3 v n xs) (h1 : ∀ u ∈ xs, u.oneCell' = true) (hb : n * 32 ≤ 140737488355328) :
    Calls Try.prog 40 #[v] w (CloneO w 79 3 n xs) := by
  obtain ⟨i0, hi0, hz0, hz1, hz2⟩ := info_parts info_fld
  have hm : 0 + n ≤ maxLen := by obtain ⟨A, c, _, k1, k2⟩ := h.form; omega
  have H := Lib.hid h
  have hl := Lib.hid h.len
  obtain ⟨A, c, rfl, k1, k2⟩ := h.form
  clear h k1 k2
  cases A with
  | none =>
    clear hi0 hz0 hz1 hz2 hb hm h1
    have he := fun (w : World) => Lib.run_eql_slice_nil (P := Try.prog) w 52 79 none n c 0 0 Try.underlying52
    go_enter Try.func40, Try.ntmps40
    go_wp2_with fail
    go_ret
    have h0 : xs = [] := by
      obtain ⟨A, c, e, _, _, _, hc⟩ := H.out
      cases xs with
      | nil => rfl
      | cons x l =>
        obtain ⟨b, off, e', _, _⟩ := hc 0 x rfl
        subst e'
        injection e with e
        cases e
    subst h0
    have hn : n = 0 := by have := hl.out; simp at this; omega
    subst hn
    exact ⟨_, rfl, Wr.refl _ _, World.ownsRow_nil w _ _ _⟩
  | some ad =>
    obtain ⟨v1, w1, hrun, hown, hg, hat⟩ := run_append_sl (P := Try.prog) (w.alloc (.cells #[] 79)) w.heap.size 52 52 79 i0 _ 3 32 Try.underlying52 hi0 hz0 hz1 hz2 rfl (by omega)
      (.slice (some ⟨w.heap.size, 0, none⟩) 0 0) 0 [] (World.ownsRow_made w #[] 0 (Nat.le_refl _) (by simp) rfl) P (.slice (some ad) n c) n xs (H.out.wr0 ((Wr.refl _ _).alloc _)) h1 hm (by omega) (by simp)
    simp only [Nat.zero_add, List.nil_append] at hown
    have HG := Lib.hid hg
    have HO := Lib.hid hown
    clear hi0 hz0 hz1 hz2 hm hb h1 hg hat hown
    have he := fun (w : World) => Lib.run_eql_slice_nil (P := Try.prog) w 52 79 (some ad) n c 0 0 Try.underlying52
    go_enter Try.func40, Try.ntmps40
    go_wp2_with (at_builtin; refine wpList_append_run rfl _ _ _ rfl _ _ rfl rfl _ _ hrun ?_)
    go_ret
    refine ⟨_, rfl, ?_, HO.out⟩
    exact ((Wr.refl [] w).alloc _).trans' (Wr.ofGrown HG.out (l := [w.heap.size]) (fun k hk => by simp [Value.ownBlock] at hk; simp [hk])) (fun x hx => .inr (by simp at hx; omega))
theorem info_par : (Try.prog.info? 88).map (fun i => (i.zero, i.size, i.bytes)) = some (some (.agg #[.bool false, .int .i64 0]), 2, 16) := by kernel_rfl
set_option maxHeartbeats 400000 in
theorem cloneO_par (w : World) (P : Nat → Prop) (v : Value) (n : Nat) (xs : List Value) (h : Sl w P 2 v n xs) (h1 : ∀ u ∈ xs, u.oneCell' = true) (hb : n * 16 ≤ 140737488355328) :
    Calls Try.prog 42 #[v] w (CloneO w 88 2 n xs) := by
  obtain ⟨i0, hi0, hz0, hz1, hz2⟩ := info_parts info_par
  have hm : 0 + n ≤ maxLen := by obtain ⟨A, c, _, k1, k2⟩ := h.form; omega
  have H := Lib.hid h
  have hl := Lib.hid h.len
  obtain ⟨A, c, rfl, k1, k2⟩ := h.form
  clear h k1 k2
  cases A with
  | none =>
    clear hi0 hz0 hz1 hz2 hb hm h1
    have he := fun (w : World) => Lib.run_eql_slice_nil (P := Try.prog) w 54 88 none n c 0 0 Try.underlying54
    go_enter Try.func42, Try.ntmps42
    go_wp2_with fail
    go_ret
    have h0 : xs = [] := by
      obtain ⟨A, c, e, _, _, _, hc⟩ := H.out
      cases xs with
      | nil => rfl
      | cons x l =>
        obtain ⟨b, off, e', _, _⟩ := hc 0 x rfl
        subst e'
        injection e with e
        cases e
    subst h0
    have hn : n = 0 := by have := hl.out; simp at this; omega
    subst hn
    exact ⟨_, rfl, Wr.refl _ _, World.ownsRow_nil w _ _ _⟩
  | some ad =>
    obtain ⟨v1, w1, hrun, hown, hg, hat⟩ := run_append_sl (P := Try.prog) (w.alloc (.cells #[] 88)) w.heap.size 54 54 88 i0 _ 2 16 Try.underlying54 hi0 hz0 hz1 hz2 rfl (by omega)
      (.slice (some ⟨w.heap.size, 0, none⟩) 0 0) 0 [] (World.ownsRow_made w #[] 0 (Nat.le_refl _) (by simp) rfl) P (.slice (some ad) n c) n xs (H.out.wr0 ((Wr.refl _ _).alloc _)) h1 hm (by omega) (by simp)
    simp only [Nat.zero_add, List.nil_append] at hown
    have HG := Lib.hid hg
    have HO := Lib.hid hown
    clear hi0 hz0 hz1 hz2 hm hb h1 hg hat hown
    have he := fun (w : World) => Lib.run_eql_slice_nil (P := Try.prog) w 54 88 (some ad) n c 0 0 Try.underlying54
    go_enter Try.func42, Try.ntmps42
    go_wp2_with (at_builtin; refine wpList_append_run rfl _ _ _ rfl _ _ rfl rfl _ _ hrun ?_)
    go_ret
    refine ⟨_, rfl, ?_, HO.out⟩
    exact ((Wr.refl [] w).alloc _).trans' (Wr.ofGrown HG.out (l := [w.heap.size]) (fun k hk => by simp [Value.ownBlock] at hk; simp [hk])) (fun x hx => .inr (by simp at hx; omega))
theorem info_i64 : (Try.prog.info? 2).map (fun i => (i.zero, i.size, i.bytes)) = some (some (.int .i64 0), 1, 8) := by kernel_rfl
set_option maxHeartbeats 400000 in
theorem cloneO_i64 (w : World) (P : Nat → Prop) (v : Value) (n : Nat) (xs : List Value) (h : Sl w P 1 v n xs) (h1 : ∀ u ∈ xs, u.oneCell' = true) (hb : n * 8 ≤ 140737488355328) :
    Calls Try.prog 43 #[v] w (CloneO w 2 1 n xs) := by
  obtain ⟨i0, hi0, hz0, hz1, hz2⟩ := info_parts info_i64
  have hm : 0 + n ≤ maxLen := by obtain ⟨A, c, _, k1, k2⟩ := h.form; omega
  have H := Lib.hid h
  have hl := Lib.hid h.len
  obtain ⟨A, c, rfl, k1, k2⟩ := h.form
  clear h k1 k2
  cases A with
  | none =>
    clear hi0 hz0 hz1 hz2 hb hm h1
    have he := fun (w : World) => Lib.run_eql_slice_nil (P := Try.prog) w 80 2 none n c 0 0 Try.underlying80
    go_enter Try.func43, Try.ntmps43
    go_wp2_with fail
    go_ret
    have h0 : xs = [] := by
      obtain ⟨A, c, e, _, _, _, hc⟩ := H.out
      cases xs with
      | nil => rfl
      | cons x l =>
        obtain ⟨b, off, e', _, _⟩ := hc 0 x rfl
        subst e'
        injection e with e
        cases e
    subst h0
    have hn : n = 0 := by have := hl.out; simp at this; omega
    subst hn
    exact ⟨_, rfl, Wr.refl _ _, World.ownsRow_nil w _ _ _⟩
  | some ad =>
    obtain ⟨v1, w1, hrun, hown, hg, hat⟩ := run_append_sl (P := Try.prog) (w.alloc (.cells #[] 2)) w.heap.size 80 80 2 i0 _ 1 8 Try.underlying80 hi0 hz0 hz1 hz2 rfl (by omega)
      (.slice (some ⟨w.heap.size, 0, none⟩) 0 0) 0 [] (World.ownsRow_made w #[] 0 (Nat.le_refl _) (by simp) rfl) P (.slice (some ad) n c) n xs (H.out.wr0 ((Wr.refl _ _).alloc _)) h1 hm (by omega) (by simp)
    simp only [Nat.zero_add, List.nil_append] at hown
    have HG := Lib.hid hg
    have HO := Lib.hid hown
    clear hi0 hz0 hz1 hz2 hm hb h1 hg hat hown
    have he := fun (w : World) => Lib.run_eql_slice_nil (P := Try.prog) w 80 2 (some ad) n c 0 0 Try.underlying80
    go_enter Try.func43, Try.ntmps43
    go_wp2_with (at_builtin; refine wpList_append_run rfl _ _ _ rfl _ _ rfl rfl _ _ hrun ?_)
    go_ret
    refine ⟨_, rfl, ?_, HO.out⟩
    exact ((Wr.refl [] w).alloc _).trans' (Wr.ofGrown HG.out (l := [w.heap.size]) (fun k hk => by simp [Value.ownBlock] at hk; simp [hk])) (fun x hx => .inr (by simp at hx; omega))
theorem info_arm : (Try.prog.info? 82).map (fun i => (i.zero, i.size, i.bytes)) = some (some (.agg #[.slice none 0 0, .slice none 0 0, .bool false]), 3, 56) := by kernel_rfl
set_option maxHeartbeats 400000 in
theorem cloneO_arm (w : World) (P : Nat → Prop) (v : Value) (n : Nat) (xs : List Value) (h : Sl w P 3 v n xs) (h1 : ∀ u ∈ xs, u.oneCell' = true) (hb : n * 56 ≤ 140737488355328) :
    Calls Try.prog 41 #[v] w (CloneO w 82 3 n xs) := by
  obtain ⟨i0, hi0, hz0, hz1, hz2⟩ := info_parts info_arm
  have hm : 0 + n ≤ maxLen := by obtain ⟨A, c, _, k1, k2⟩ := h.form; omega
  have H := Lib.hid h
  have hl := Lib.hid h.len
  obtain ⟨A, c, rfl, k1, k2⟩ := h.form
  clear h k1 k2
  cases A with
  | none =>
    clear hi0 hz0 hz1 hz2 hb hm h1
    have he := fun (w : World) => Lib.run_eql_slice_nil (P := Try.prog) w 53 82 none n c 0 0 Try.underlying53
    go_enter Try.func41, Try.ntmps41
    go_wp2_with fail
    go_ret
    have h0 : xs = [] := by
      obtain ⟨A, c, e, _, _, _, hc⟩ := H.out
      cases xs with
      | nil => rfl
      | cons x l =>
        obtain ⟨b, off, e', _, _⟩ := hc 0 x rfl
        subst e'
        injection e with e
        cases e
    subst h0
    have hn : n = 0 := by have := hl.out; simp at this; omega
    subst hn
    exact ⟨_, rfl, Wr.refl _ _, World.ownsRow_nil w _ _ _⟩
  | some ad =>
    obtain ⟨v1, w1, hrun, hown, hg, hat⟩ := run_append_sl (P := Try.prog) (w.alloc (.cells #[] 82)) w.heap.size 53 53 82 i0 _ 3 56 Try.underlying53 hi0 hz0 hz1 hz2 rfl (by omega)
      (.slice (some ⟨w.heap.size, 0, none⟩) 0 0) 0 [] (World.ownsRow_made w #[] 0 (Nat.le_refl _) (by simp) rfl) P (.slice (some ad) n c) n xs (H.out.wr0 ((Wr.refl _ _).alloc _)) h1 hm (by omega) (by simp)
    simp only [Nat.zero_add, List.nil_append] at hown
    have HG := Lib.hid hg
    have HO := Lib.hid hown
    clear hi0 hz0 hz1 hz2 hm hb h1 hg hat hown
    have he := fun (w : World) => Lib.run_eql_slice_nil (P := Try.prog) w 53 82 (some ad) n c 0 0 Try.underlying53
    go_enter Try.func41, Try.ntmps41
    go_wp2_with (at_builtin; refine wpList_append_run rfl _ _ _ rfl _ _ rfl rfl _ _ hrun ?_)
    go_ret
    refine ⟨_, rfl, ?_, HO.out⟩
    exact ((Wr.refl [] w).alloc _).trans' (Wr.ofGrown HG.out (l := [w.heap.size]) (fun k hk => by simp [Value.ownBlock] at hk; simp [hk])) (fun x hx => .inr (by simp at hx; omega))
end Go.Proofs.Ytmpbkfbjmmoapaa

/- A type, as plain data, and as it lies in memory. No conditions. -/
namespace Go.Proofs.Ytmpbkfbjmmoapaa
open Go.RowKit
set_option linter.unusedVariables false
set_option linter.unusedSimpArgs false
/-- A record's field. -/
structure Fld where
  name : ByteArray
  type : Int
  arm : Int
/-- An arm of a record. -/
structure ArmD where
  frm : List Int
  to : List Int
  els : Bool
/-- A parameter. -/
structure Par where
  var : Bool
  type : Int
/-- A type. -/
structure Ty where
  kind : Int
  module : ByteArray
  name : ByteArray
  base : Int
  index : Int
  low : Int
  high : Int
  names : List ByteArray
  fields : List Fld
  arms : List ArmD
  params : List Par
  result : Int
def Fld.cells (x : Fld) : List Value := [.string x.name, .int .i64 x.type, .int .i64 x.arm]
def Par.cells (x : Par) : List Value := [.bool x.var, .int .i64 x.type]
def SlInts (w : World) (P : Nat → Prop) (v : Value) (l : List Int) : Prop := Sl w P 1 v l.length (l.map (Value.int .i64))
def SlStrs (w : World) (P : Nat → Prop) (v : Value) (l : List ByteArray) : Prop := Sl w P 1 v l.length (l.map Value.string)
def SlFlds (w : World) (P : Nat → Prop) (v : Value) (l : List Fld) : Prop := Sl w P 3 v l.length (l.flatMap Fld.cells)
def SlPars (w : World) (P : Nat → Prop) (v : Value) (l : List Par) : Prop := Sl w P 2 v l.length (l.flatMap Par.cells)
/-- An arm's three cells, in a list of cells. -/
def ArmAt (w : World) (P : Nat → Prop) (xs : List Value) (i : Nat) (x : ArmD) : Prop :=
  ∃ va vb, xs[i * 3]? = some va ∧ xs[i * 3 + 1]? = some vb ∧ xs[i * 3 + 2]? = some (.bool x.els) ∧ SlInts w P va x.frm ∧ SlInts w P vb x.to
def SlArms (w : World) (P : Nat → Prop) (v : Value) (l : List ArmD) : Prop := ∃ xs, Sl w P 3 v l.length xs ∧ (∀ u ∈ xs, u.oneCell' = true) ∧ ∀ i x, l[i]? = some x → ArmAt w P xs i x
/-- A type's four lists. -/
structure Lists (w : World) (P : Nat → Prop) (vn vf va vp : Value) (t : Ty) : Prop where
  names : SlStrs w P vn t.names
  fields : SlFlds w P vf t.fields
  arms : SlArms w P va t.arms
  params : SlPars w P vp t.params
/-- A type's twelve cells. -/
def Ty.cells (t : Ty) (vn vf va vp : Value) : List Value :=
  [.int .u8 t.kind, .string t.module, .string t.name, .int .i64 t.base, .int .i64 t.index, .int .i64 t.low, .int .i64 t.high, vn, vf, va, vp, .int .i64 t.result]
def Ty.val (t : Ty) (vn vf va vp : Value) : Value := .agg (t.cells vn vf va vp).toArray
/-- Its lists take no more room than there is. -/
structure Ty.room (t : Ty) : Prop where
  names : t.names.length ≤ 1099511627776
  fields : t.fields.length ≤ 1099511627776
  arms : t.arms.length ≤ 1099511627776
  params : t.params.length ≤ 1099511627776
  ints : ∀ x ∈ t.arms, x.frm.length ≤ 1099511627776 ∧ x.to.length ≤ 1099511627776
theorem one_ints (l : List Int) : ∀ u ∈ l.map (Value.int .i64), u.oneCell' = true := by simp [Value.oneCell']
theorem one_strs (l : List ByteArray) : ∀ u ∈ l.map Value.string, u.oneCell' = true := by simp [Value.oneCell']
theorem one_flds (l : List Fld) : ∀ u ∈ l.flatMap Fld.cells, u.oneCell' = true := by
  intro u hu
  simp only [List.mem_flatMap, Fld.cells] at hu
  obtain ⟨x, _, hx⟩ := hu
  simp at hx
  rcases hx with rfl | rfl | rfl <;> rfl
theorem one_pars (l : List Par) : ∀ u ∈ l.flatMap Par.cells, u.oneCell' = true := by
  intro u hu
  simp only [List.mem_flatMap, Par.cells] at hu
  obtain ⟨x, _, hx⟩ := hu
  simp at hx
  rcases hx with rfl | rfl <;> rfl
section
variable {w w' : World} {P Q : Nat → Prop} {v : Value}
theorem SlArms.keep {l : List Nat} {ams : List ArmD} (h : SlArms w P v ams) (hw : Wr l w w') (hP : ∀ b, P b → b ∉ l) : SlArms w' P v ams := by
  obtain ⟨xs, hs, h1, ha⟩ := h
  refine ⟨xs, hs.keep hw hP, h1, fun i x hi => ?_⟩
  obtain ⟨va, vb, e1, e2, e3, ka, kb⟩ := ha i x hi
  exact ⟨va, vb, e1, e2, e3, Sl.keep ka hw hP, Sl.keep kb hw hP⟩
theorem SlArms.into {ams : List ArmD} (h : SlArms w P v ams) (hP : ∀ b, P b → b < w.heap.size → Q b) : SlArms w Q v ams := by
  obtain ⟨xs, hs, h1, ha⟩ := h
  refine ⟨xs, hs.into hP, h1, fun i x hi => ?_⟩
  obtain ⟨va, vb, e1, e2, e3, ka, kb⟩ := ha i x hi
  exact ⟨va, vb, e1, e2, e3, Sl.into ka hP, Sl.into kb hP⟩
theorem SlArms.nil (w : World) (P : Nat → Prop) : SlArms w P (.slice none 0 0) [] := ⟨[], Sl.nil w P 3, by simp, fun i x h => by simp at h⟩
variable {vn vf va vp : Value} {t : Ty}
theorem Lists.keep {l : List Nat} (h : Lists w P vn vf va vp t) (hw : Wr l w w') (hP : ∀ b, P b → b ∉ l) : Lists w' P vn vf va vp t :=
  ⟨Sl.keep h.names hw hP, Sl.keep h.fields hw hP, SlArms.keep h.arms hw hP, Sl.keep h.params hw hP⟩
theorem Lists.wr0 (h : Lists w P vn vf va vp t) (hw : Wr [] w w') : Lists w' P vn vf va vp t := h.keep hw (fun _ _ => by simp)
theorem Lists.into (h : Lists w P vn vf va vp t) (hP : ∀ b, P b → b < w.heap.size → Q b) : Lists w Q vn vf va vp t :=
  ⟨Sl.into h.names hP, Sl.into h.fields hP, SlArms.into h.arms hP, Sl.into h.params hP⟩
theorem Lists.mono (h : Lists w P vn vf va vp t) (hP : ∀ b, P b → Q b) : Lists w Q vn vf va vp t := h.into fun b hb _ => hP b hb
end
end Go.Proofs.Ytmpbkfbjmmoapaa

/- Interfaces as plain data: which may be, as bytes, and back. No conditions. -/
namespace Go.Proofs.Ytmpbkfbjmmoapaa
set_option linter.unusedVariables false
set_option linter.unusedSimpArgs false
/-- A constant's value. -/
inductive AnyD where
  | nil
  | whole (n : Int)
  | letter (n : Int)
  | truth (b : Bool)
  | bits (n : Int)
  | str (s : ByteArray)
  | item (t n : Int)
  | null
  | other
/-- An item. -/
structure ItmD where
  name : ByteArray
  kind : Int
  type : Int
  at_ : Int
  v : AnyD
/-- An interface. -/
structure FaceD where
  module : ByteArray
  uses : List UseD
  types : List Ty
  items : List ItmD
def shB (s : ByteArray) : Bool := decide (s.size ≤ 255)
def fwB (n : Nat) : Bool := decide (n ≤ 65535)
def smB (n : Int) : Bool := inB n (-2147483648) 2147483647
def tyB (nt : Nat) (n : Int) : Bool := inB n 0 (9 + (nt : Int))
def armFit (a : ArmD) : Bool := fwB a.frm.length && fwB a.to.length
def tyFit (t : Ty) : Bool :=
  shB t.module && shB t.name && fwB t.names.length && fwB t.fields.length && fwB t.arms.length && fwB t.params.length && t.names.all shB && t.fields.all (fun f => shB f.name) && t.arms.all armFit
def anyFit : AnyD → Bool
  | .str s => fwB s.size
  | _ => true
def itmFit (x : ItmD) : Bool := shB x.name && anyFit x.v
def faceFit (f : FaceD) : Bool :=
  decide (f.uses.length ≤ 64) && decide (f.items.length ≤ 512) && decide (f.types.length ≤ 1024) && shB f.module && f.uses.all (fun u => shB u.module) && f.types.all tyFit && f.items.all itmFit
/-- Is each there once? -/
def onceB : List ByteArray → List ByteArray → Bool
  | _, [] => true
  | seen, s :: l => !(inL s seen) && onceB (seen ++ [s]) l
def armForm (a : ArmD) : Bool := decide (a.frm.length = a.to.length) && a.frm.all smB && a.to.all smB
def tyForm (nt : Nat) (t : Ty) : Bool :=
  tyB nt t.base && tyB nt t.index && tyB nt t.result && smB t.low && smB t.high && t.fields.all (fun f => tyB nt f.type && smB f.arm) && t.arms.all armForm && t.params.all (fun p => tyB nt p.type)
def anyForm (nt : Nat) : AnyD → Bool
  | .whole n => smB n
  | .item t n => tyB nt t && smB n
  | .other => false
  | _ => true
def itmForm (nt : Nat) (x : ItmD) : Bool := tyB nt x.type && smB x.at_ && anyForm nt x.v
def faceForm (f : FaceD) : Bool := f.types.all (tyForm f.types.length) && f.items.all (itmForm f.types.length)
/-- May an interface be? -/
def mayP (f : FaceD) : Int :=
  if faceFit f then if onceB [] (f.uses.map UseD.module) && onceB [] (f.items.map ItmD.name) then if faceForm f then 0 else 7 else 6 else 5
/-- Four bytes of a number. -/
def fourL (n : Int) : List UInt8 := numL (n % 4294967296).toNat 4
def fldL (f : Fld) : List UInt8 := textL f.name ++ fourL f.type ++ fourL f.arm
def pairL (p : Int × Int) : List UInt8 := fourL p.1 ++ fourL p.2
def armL (a : ArmD) : List UInt8 := numL a.frm.length 2 ++ (a.frm.zip a.to).flatMap pairL ++ truL a.els
def parL (p : Par) : List UInt8 := truL p.var ++ fourL p.type
def tyL (t : Ty) : List UInt8 :=
  numL t.kind.toNat 1 ++ textL t.module ++ textL t.name ++ fourL t.base ++ fourL t.index ++ fourL t.low ++ fourL t.high ++ numL t.names.length 2 ++ t.names.flatMap textL ++ numL t.fields.length 2 ++ t.fields.flatMap fldL ++
    numL t.arms.length 2 ++ t.arms.flatMap armL ++ numL t.params.length 2 ++ t.params.flatMap parL ++ fourL t.result
def anyL : AnyD → List UInt8
  | .nil => numL 0 1
  | .whole n => numL 1 1 ++ fourL n
  | .letter n => numL 2 1 ++ numL n.toNat 1
  | .truth b => numL 3 1 ++ truL b
  | .bits n => numL 4 1 ++ numL n.toNat 2
  | .str s => numL 5 1 ++ (numL s.size 2 ++ s.data.toList)
  | .item t n => numL 6 1 ++ (fourL t ++ fourL n)
  | .null => numL 7 1
  | .other => numL 0 1
def itmL (x : ItmD) : List UInt8 := textL x.name ++ numL x.kind.toNat 1 ++ fourL x.type ++ fourL x.at_ ++ anyL x.v
def faceL (f : FaceD) : List UInt8 :=
  textL f.module ++ numL f.uses.length 2 ++ f.uses.flatMap useL ++ numL f.types.length 2 ++ f.types.flatMap tyL ++ numL f.items.length 2 ++ f.items.flatMap itmL
def encFaceP (f : FaceD) : List UInt8 × Int := if mayP f = 0 then (faceL f, 0) else ([], mayP f)
/-- A number of four bytes, with its sign. -/
def signN (n : Nat) : Int := if n < 2147483648 then (n : Int) else (n : Int) - 4294967296
def Rd.four (r : Rd) : Int × Rd := (signN (r.num 4).1, (r.num 4).2)
def Rd.fld (r : Rd) : Fld × Rd :=
  let a := r.text
  let b := a.2.four
  let c := b.2.four
  (⟨a.1, b.1, c.1⟩, c.2)
def Rd.pair (r : Rd) : (Int × Int) × Rd :=
  let a := r.four
  let b := a.2.four
  ((a.1, b.1), b.2)
def Rd.arm (r : Rd) : ArmD × Rd :=
  let a := r.num 2
  let b := a.2.list Rd.pair a.1
  let c := b.2.truth
  (⟨b.1.map Prod.fst, b.1.map Prod.snd, c.1⟩, c.2)
def Rd.par (r : Rd) : Par × Rd :=
  let a := r.truth
  let b := a.2.four
  (⟨a.1, b.1⟩, b.2)
/-- A list, behind its length. -/
def Rd.lst {α : Type} (one : Rd → α × Rd) (r : Rd) : List α × Rd := (r.num 2).2.list one (r.num 2).1
def Rd.ty (r : Rd) : Ty × Rd :=
  let k := r.one
  let a := k.2.text
  let b := a.2.text
  let c := b.2.four
  let d := c.2.four
  let e := d.2.four
  let f := e.2.four
  let g := f.2.lst Rd.text
  let h := g.2.lst Rd.fld
  let i := h.2.lst Rd.arm
  let j := i.2.lst Rd.par
  let l := j.2.four
  (⟨k.1, a.1, b.1, c.1, d.1, e.1, f.1, g.1, h.1, i.1, j.1, l.1⟩, l.2)
def Rd.any (r : Rd) : AnyD × Rd :=
  let k := r.num 1
  match k.1 with
  | 0 => (.nil, k.2)
  | 1 => (.whole k.2.four.1, k.2.four.2)
  | 2 => (.letter k.2.one.1, k.2.one.2)
  | 3 => (.truth k.2.truth.1, k.2.truth.2)
  | 4 => (.bits k.2.two.1, k.2.two.2)
  | 5 => (.str ⟨((k.2.num 2).2.raw (k.2.num 2).1).1.toArray⟩, ((k.2.num 2).2.raw (k.2.num 2).1).2)
  | 6 => (.item k.2.four.1 k.2.four.2.four.1, k.2.four.2.four.2)
  | 7 => (.null, k.2)
  | _ => (.nil, ⟨k.2.s, true⟩)
def Rd.itm (r : Rd) : ItmD × Rd :=
  let a := r.text
  let b := a.2.one
  let c := b.2.four
  let d := c.2.four
  let e := d.2.any
  (⟨a.1, b.1, c.1, d.1, e.1⟩, e.2)
def Rd.face (r : Rd) : FaceD × Rd :=
  let a := r.text
  let b := a.2.lst Rd.use
  let c := b.2.lst Rd.ty
  let d := c.2.lst Rd.itm
  (⟨a.1, b.1, c.1, d.1⟩, d.2)
def noFace : FaceD := ⟨⟨#[]⟩, [], [], []⟩
/-- Which interface bytes are. -/
def decFaceP (l : List UInt8) : FaceD × Int :=
  if (Rd.face ⟨l, false⟩).2.bad || !((Rd.face ⟨l, false⟩).2.s).isEmpty || !decide (mayP (Rd.face ⟨l, false⟩).1 = 0) then (noFace, 7) else ((Rd.face ⟨l, false⟩).1, 0)
theorem smB_iff {n : Int} : smB n = true ↔ -2147483648 ≤ n ∧ n ≤ 2147483647 := inB_iff
theorem four_app (n : Int) (h : smB n = true) (rest : List UInt8) : (Rd.mk (fourL n ++ rest) false).four = (n, ⟨rest, false⟩) := by
  obtain ⟨h1, h2⟩ := smB_iff.1 h
  unfold Rd.four fourL
  rw [num_app _ 4 (by omega)]
  simp only [signN]
  congr 1
  split <;> omega
theorem lst_app {α : Type} {one : Rd → α × Rd} {enc : α → List UInt8} (l : List α) (hl : l.length ≤ 65535) (rest : List UInt8) (h : ∀ x ∈ l, ∀ r, one ⟨enc x ++ r, false⟩ = (x, ⟨r, false⟩)) :
    Rd.lst one ⟨numL l.length 2 ++ (l.flatMap enc ++ rest), false⟩ = (l, ⟨rest, false⟩) := by
  unfold Rd.lst
  rw [num_app l.length 2 (by omega)]
  exact list_app l rest h
theorem tyB_sm {nt : Nat} (hn : nt ≤ 1024) {n : Int} (h : tyB nt n = true) : smB n = true := by
  obtain ⟨h1, h2⟩ := inB_iff.1 h
  exact smB_iff.2 ⟨by omega, by omega⟩
theorem fld_app (f : Fld) (h1 : f.name.size ≤ 255) (h2 : smB f.type = true) (h3 : smB f.arm = true) (rest : List UInt8) : (Rd.mk (fldL f ++ rest) false).fld = (f, ⟨rest, false⟩) := by
  unfold Rd.fld fldL
  simp only [List.append_assoc]
  rw [text_app f.name h1]
  simp only
  rw [four_app f.type h2]
  simp only
  rw [four_app f.arm h3]
theorem pair_app (p : Int × Int) (h2 : smB p.1 = true) (h3 : smB p.2 = true) (rest : List UInt8) : (Rd.mk (pairL p ++ rest) false).pair = (p, ⟨rest, false⟩) := by
  unfold Rd.pair pairL
  simp only [List.append_assoc]
  rw [four_app p.1 h2]
  simp only
  rw [four_app p.2 h3]
theorem arm_app (a : ArmD) (hf : armFit a = true) (h : armForm a = true) (rest : List UInt8) : (Rd.mk (armL a ++ rest) false).arm = (a, ⟨rest, false⟩) := by
  unfold armForm at h
  unfold armFit fwB at hf
  simp only [Bool.and_eq_true, decide_eq_true_eq, List.all_eq_true] at h hf
  obtain ⟨⟨h1, h2⟩, h3⟩ := h
  unfold Rd.arm armL
  simp only [List.append_assoc]
  rw [num_app a.frm.length 2 (by omega)]
  simp only
  have hz : (a.frm.zip a.to).length = a.frm.length := by rw [List.length_zip]; omega
  have := list_app (one := Rd.pair) (enc := pairL) (a.frm.zip a.to) (truL a.els ++ rest) (fun p hp r => pair_app p (h2 _ (List.of_mem_zip hp).1) (h3 _ (List.of_mem_zip hp).2) r)
  rw [hz] at this
  rw [this]
  simp only
  rw [truth_app]
  simp only
  rw [List.map_fst_zip (by omega), List.map_snd_zip (by omega)]
theorem par_app (p : Par) (h : smB p.type = true) (rest : List UInt8) : (Rd.mk (parL p ++ rest) false).par = (p, ⟨rest, false⟩) := by
  unfold Rd.par parL
  simp only [List.append_assoc]
  rw [truth_app]
  simp only
  rw [four_app p.type h]
theorem ty_app (t : Ty) (nt : Nat) (hn : nt ≤ 1024) (hk : 0 ≤ t.kind ∧ t.kind ≤ 255) (hf : tyFit t = true) (h : tyForm nt t = true) (rest : List UInt8) : (Rd.mk (tyL t ++ rest) false).ty = (t, ⟨rest, false⟩) := by
  unfold tyForm at h
  unfold tyFit fwB shB at hf
  simp only [Bool.and_eq_true, decide_eq_true_eq, List.all_eq_true] at h hf
  obtain ⟨⟨⟨⟨⟨⟨⟨a1, a2⟩, a3⟩, a4⟩, a5⟩, a6⟩, a7⟩, a8⟩ := h
  obtain ⟨⟨⟨⟨⟨⟨⟨⟨b1, b2⟩, b3⟩, b4⟩, b5⟩, b6⟩, b7⟩, b8⟩, b9⟩ := hf
  unfold Rd.ty tyL
  simp only [List.append_assoc]
  rw [one_app t.kind hk.1 hk.2]
  simp only
  rw [text_app t.module b1]
  simp only
  rw [text_app t.name b2]
  simp only
  rw [four_app t.base (tyB_sm hn a1)]
  simp only
  rw [four_app t.index (tyB_sm hn a2)]
  simp only
  rw [four_app t.low a4]
  simp only
  rw [four_app t.high a5]
  simp only
  rw [lst_app t.names b3 _ (fun s hs r => text_app s (b7 s hs) r)]
  simp only
  rw [lst_app t.fields b4 _ (fun f hf r => fld_app f (b8 f hf) (tyB_sm hn (a6 f hf).1) (a6 f hf).2 r)]
  simp only
  rw [lst_app t.arms b5 _ (fun a ha r => arm_app a (b9 a ha) (a7 a ha) r)]
  simp only
  rw [lst_app t.params b6 _ (fun p hp r => par_app p (tyB_sm hn (a8 p hp)) r)]
  simp only
  rw [four_app t.result (tyB_sm hn a3)]
/-- Numbers within their kinds. -/
def anyW : AnyD → Prop
  | .letter n => 0 ≤ n ∧ n ≤ 255
  | .bits n => 0 ≤ n ∧ n ≤ 65535
  | _ => True
structure faceW (f : FaceD) : Prop where
  keys : ∀ u ∈ f.uses, 0 ≤ u.key ∧ u.key < 18446744073709551616
  kinds : ∀ t ∈ f.types, 0 ≤ t.kind ∧ t.kind ≤ 255
  sorts : ∀ x ∈ f.items, 0 ≤ x.kind ∧ x.kind ≤ 255
  vals : ∀ x ∈ f.items, anyW x.v
theorem any_app (v : AnyD) (nt : Nat) (hn : nt ≤ 1024) (hw : anyW v) (hf : anyFit v = true) (h : anyForm nt v = true) (rest : List UInt8) : (Rd.mk (anyL v ++ rest) false).any = (v, ⟨rest, false⟩) := by
  have n1 := fun k (hk : k < 256) rest => num_app k 1 (by simpa using hk) rest
  cases v with
  | nil =>
    unfold Rd.any anyL
    rw [n1 0 (by decide)]
    simp only
  | whole n =>
    unfold Rd.any anyL
    rw [List.append_assoc, n1 1 (by decide)]
    simp only
    rw [four_app n h]
  | letter n =>
    unfold Rd.any anyL
    rw [List.append_assoc, n1 2 (by decide)]
    simp only
    rw [one_app n hw.1 hw.2]
  | truth b =>
    unfold Rd.any anyL
    rw [List.append_assoc, n1 3 (by decide)]
    simp only
    rw [truth_app]
  | bits n =>
    unfold Rd.any anyL
    rw [List.append_assoc, n1 4 (by decide)]
    simp only
    rw [two_app n hw.1 hw.2]
  | str s =>
    unfold Rd.any anyL
    rw [List.append_assoc, n1 5 (by decide)]
    simp only
    have hs : s.size ≤ 65535 := of_decide_eq_true hf
    rw [List.append_assoc, num_app s.size 2 (by omega)]
    simp only
    have hl : s.data.toList.length = s.size := rfl
    have := raw_app s.data.toList rest
    rw [hl] at this
    rw [this]
  | item t n =>
    unfold anyForm at h
    simp only [Bool.and_eq_true] at h
    unfold Rd.any anyL
    rw [List.append_assoc, n1 6 (by decide)]
    simp only
    rw [List.append_assoc, four_app t (tyB_sm hn h.1)]
    simp only
    rw [four_app n h.2]
  | null =>
    unfold Rd.any anyL
    rw [n1 7 (by decide)]
    simp only
  | other => cases h
theorem itm_app (x : ItmD) (nt : Nat) (hn : nt ≤ 1024) (hk : 0 ≤ x.kind ∧ x.kind ≤ 255) (hw : anyW x.v) (hf : itmFit x = true) (h : itmForm nt x = true) (rest : List UInt8) : (Rd.mk (itmL x ++ rest) false).itm = (x, ⟨rest, false⟩) := by
  unfold itmForm at h
  unfold itmFit shB at hf
  simp only [Bool.and_eq_true, decide_eq_true_eq] at h hf
  unfold Rd.itm itmL
  simp only [List.append_assoc]
  rw [text_app x.name hf.1]
  simp only
  rw [one_app x.kind hk.1 hk.2]
  simp only
  rw [four_app x.type (tyB_sm hn h.1.1)]
  simp only
  rw [four_app x.at_ h.1.2]
  simp only
  rw [any_app x.v nt hn hw hf.2 h.2]
theorem face_parts {f : FaceD} (h : mayP f = 0) : faceFit f = true ∧ onceB [] (f.uses.map UseD.module) = true ∧ onceB [] (f.items.map ItmD.name) = true ∧ faceForm f = true := by
  unfold mayP at h
  by_cases h1 : faceFit f = true
  · rw [if_pos h1] at h
    by_cases h2 : (onceB [] (f.uses.map UseD.module) && onceB [] (f.items.map ItmD.name)) = true
    · rw [if_pos h2] at h
      by_cases h3 : faceForm f = true
      · rw [Bool.and_eq_true] at h2
        exact ⟨h1, h2.1, h2.2, h3⟩
      · rw [if_neg h3] at h; exact absurd h (by decide)
    · rw [if_neg h2] at h; exact absurd h (by decide)
  · rw [if_neg h1] at h; exact absurd h (by decide)
/-- An interface that was written is read. -/
theorem face_app (f : FaceD) (hw : faceW f) (hm : mayP f = 0) (rest : List UInt8) : (Rd.mk (faceL f ++ rest) false).face = (f, ⟨rest, false⟩) := by
  obtain ⟨h1, _, _, h2⟩ := face_parts hm
  unfold faceFit shB at h1
  unfold faceForm at h2
  simp only [Bool.and_eq_true, decide_eq_true_eq, List.all_eq_true] at h1 h2
  obtain ⟨⟨⟨⟨⟨⟨a1, a2⟩, a3⟩, a4⟩, a5⟩, a6⟩, a7⟩ := h1
  unfold Rd.face faceL
  simp only [List.append_assoc]
  rw [text_app f.module a4]
  simp only
  rw [lst_app f.uses (by omega) _ (fun u hu r => use_app u (a5 u hu) (hw.keys u hu) r)]
  simp only
  rw [lst_app f.types (by omega) _ (fun t ht r => ty_app t _ a3 (hw.kinds t ht) (a6 t ht) (h2.1 t ht) r)]
  simp only
  rw [lst_app f.items (by omega) _ (fun x hx r => itm_app x _ a3 (hw.sorts x hx) (hw.vals x hx) (a7 x hx) (h2.2 x hx) r)]
theorem dec_enc (f : FaceD) (hw : faceW f) (hm : mayP f = 0) : decFaceP (faceL f) = (f, 0) := by
  have := face_app f hw hm []
  rw [List.append_nil] at this
  unfold decFaceP
  rw [this]
  simp [hm]
/-- None's bytes are the beginning of another one's. -/
theorem face_prefix (a b : FaceD) (ha : faceW a) (hb : faceW b) (ma : mayP a = 0) (mb : mayP b = 0) (rest : List UInt8) (h : faceL a ++ rest = faceL b) : rest = [] ∧ a = b := by
  have h1 := face_app a ha ma rest
  have h2 := face_app b hb mb []
  rw [List.append_nil, ← h, h1] at h2
  simp only [Prod.mk.injEq, Rd.mk.injEq] at h2
  exact ⟨h2.2.1, h2.1⟩
end Go.Proofs.Ytmpbkfbjmmoapaa

/- Bytes as numbers, and one step of a key: plain. No conditions. -/
namespace Go.Proofs.Ytmpbkfbjmmoapaa
open Go.RowKit
set_option linter.unusedVariables false
set_option linter.unusedSimpArgs false
end Go.Proofs.Ytmpbkfbjmmoapaa
