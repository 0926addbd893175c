/- Short names of lemmas on lists that the texts use often. No conditions. -/
import Derived.Test.YtildcdgobdfieaaGreatRows
import Derived.WalkKit
import Derived.WalkSpells
import Derived.WalkLawsBesides
import Derived.BigQuiet
import Derived.BigRegion
import Derived.Deep.QuietTactic
import Derived.Lib.Hide
import Derived.Maps.AppendAt
import Derived.Deep.AppendLies
import Derived.RegionTactic
import Derived.OwnWalk
import Derived.Laws.OwnMore
import Derived.Deep.Draws
import Derived.Laws.Rows
namespace Go.Proofs.YtildcdgobdfieaaGreat
theorem qgzq {α : Type} {a : α} {l : List α} : (a :: l)[0]? = some a := rfl
theorem qgsq {α : Type} {a : α} {l : List α} {i : Nat} : (a :: l)[i + 1]? = l[i]? := rfl
theorem qgaq {α : Type} {l : List α} {i : Nat} : l.toArray[i]? = l[i]? := List.getElem?_toArray
theorem qsaq {α : Type} (l : List α) (i : Nat) (a : α) : l.toArray.setIfInBounds i a = (l.set i a).toArray := List.setIfInBounds_toArray l i a
theorem qszq {α : Type} {a b : α} {l : List α} : (a :: l).set 0 b = b :: l := rfl
theorem qssq {α : Type} {a b : α} {l : List α} {i : Nat} : (a :: l).set (i + 1) b = a :: l.set i b := rfl
end Go.Proofs.YtildcdgobdfieaaGreat

/- Linking, as plain data: modules, objects, in which order they begin, what is linked. The plain law of the order. No conditions. -/
namespace Go.Proofs.YtildcdgobdfieaaGreat
set_option linter.unusedVariables false
set_option linter.unusedSimpArgs false
structure PrcD where
 at_ : Int
 params : Int
 locals : Int
 depth : Int
 level : Int
 func : Bool
structure ModD where
 code : ByteArray
 procs : List PrcD
 imports : List Int
 data : Int
 init : List Int
structure UseD where
 module : ByteArray
 key : Int
structure ObjD where
 module : ByteArray
 main : Bool
 key : Int
 uses : List UseD
 mod : ModD
structure NeedD where
 module : ByteArray
 needs : List ByteArray
def inL (m : ByteArray) (l : List ByteArray) : Bool := l.any (fun x => decide (x = m))
theorem inL_iff {m : ByteArray} {l : List ByteArray} : inL m l = true ↔ m ∈ l := by
 unfold inL
 rw [List.any_eq_true]
 constructor
 ·rintro ⟨x, hx, e⟩
  rw [← of_decide_eq_true e]; exact hx
 ·exact fun h => ⟨m, h, decide_eq_true rfl⟩
def inB (n low high : Int) : Bool := decide (low ≤ n) && decide (n ≤ high)
def prcB (p : PrcD) (m : ModD) : Bool := inB p.params 0 65535 && inB p.locals 0 65535 && inB p.depth 0 65535 && inB p.at_ 0 (m.code.size : Int) && inB p.level 1 16
def bodyB : List PrcD → Bool
 | [] => false
 | p :: _ => decide (p.level = 1) && decide (p.params = 0) && !p.func
def modB (m : ModD) (n : Int) : Bool :=
 decide (m.code.size ≤ 65535) && decide (1 ≤ m.procs.length) && decide (m.procs.length ≤ 1024) && decide (m.imports.length ≤ 255) && inB m.data (m.init.length : Int) 65535 &&
  m.procs.all (fun p => prcB p m) && m.imports.all (fun i => inB i 0 (n - 1)) && bodyB m.procs
def ordB (n : Int) : List Int → List Int → Bool
 | _, [] => true
 | seen, i :: l => inB i 0 (n - 1) && !(seen.contains i) && ordB n (seen ++ [i]) l
def modsAt (n : Int) : Nat → List ModD → Option Nat
 | _, [] => none
 | i, m :: l => if modB m n then modsAt n (i + 1) l else some i
def checkP (ms : List ModD) (order : List Int) : Int × Int :=
 if inB (ms.length : Int) 1 64 then
  match modsAt ms.length 0 ms with
  | some i => (i, 200)
  | none => if ordB ms.length [] order then (0, 0) else (ms.length, 200)
 else (ms.length, 200)
def omodB (m : ModD) : Bool := decide (m.imports.length ≤ 255) && m.imports.all (fun i => inB i 0 63) && modB { m with imports := [] } 1
def nameB (s : ByteArray) : Bool := decide (1 ≤ s.size) && decide (s.size ≤ 255)
def usesB : List ByteArray → List UseD → Bool
 | _, [] => true
 | seen, u :: l => nameB u.module && !(inL u.module seen) && usesB (seen ++ [u.module]) l
def objB (o : ObjD) : Bool := nameB o.module && decide (o.uses.length ≤ 255) && decide (o.mod.imports.length = 0) && usesB [o.module] o.uses && omodB o.mod
structure Tr where
 st : ByteArray → Nat
 ord : List ByteArray
inductive Res where
 | ok (t : Tr)
 | err (who : ByteArray) (e : Int)
def Tr.set (t : Tr) (m : ByteArray) (n : Nat) : Tr := ⟨fun x => if x = m then n else t.st x, t.ord⟩
def Tr.done (t : Tr) (m : ByteArray) : Tr := ⟨fun x => if x = m then 2 else t.st x, t.ord ++ [m]⟩
def each (f : ByteArray → Tr → Res) : List ByteArray → Tr → Res
 | [], t => .ok t
 | n :: l, t => if t.st n = 1 then .err n 220 else if t.st n = 0 then match f n t with | .ok t' => each f l t' | .err who e => .err who e else each f l t
def thr (all : ByteArray → Option (List ByteArray)) : Nat → ByteArray → Tr → Res
 | 0, _, _ => .err ⟨#[]⟩ 1
 | k + 1, m, t => match all m with
  | none => .err m 3
  | some l => match each (thr all k) l (t.set m 1) with
   | .ok t' => .ok (t'.done m)
   | .err who e => .err who e
def allOf (l : List NeedD) (m : ByteArray) : Option (List ByteArray) := (l.find? (fun x => decide (x.module = m))).map NeedD.needs
def twiceOf : List ByteArray → List NeedD → Option ByteArray
 | _, [] => none
 | seen, x :: l => if inL x.module seen then some x.module else twiceOf (seen ++ [x.module]) l
def orderP (l : List NeedD) (first : ByteArray) : List ByteArray × ByteArray × Int :=
 match twiceOf [] l with
 | some d => ([], d, 6)
 | none => match thr (allOf l) (l.length + 1) first ⟨fun _ => 0, []⟩ with
  | .ok t => (t.ord, ⟨#[]⟩, 0)
  | .err who e => ([], who, e)
def Le (t t' : Tr) : Prop := ∀ m, t'.st m = 0 → t.st m = 0
theorem Le.refl (t : Tr) : Le t t := fun _ h => h
theorem Le.trans {a b c : Tr} (h : Le a b) (k : Le b c) : Le a c := fun m hm => h m (k m hm)
theorem filter_len {α : Type} (p q : α → Bool) (h : ∀ x, p x = true → q x = true) : ∀ l : List α, (l.filter p).length ≤ (l.filter q).length
 | [] => Nat.le_refl _
 | x :: l => by
  have := filter_len p q h l
  cases hp : p x with
  | true => rw [List.filter_cons_of_pos hp, List.filter_cons_of_pos (h x hp)]; simpa using this
  | false =>
   rw [List.filter_cons_of_neg (by simp [hp])]
   cases hq : q x with
   | true => rw [List.filter_cons_of_pos hq, List.length_cons]; omega
   | false => rw [List.filter_cons_of_neg (by simp [hq])]; exact this
theorem filter_len_lt {α : Type} (p q : α → Bool) (h : ∀ x, p x = true → q x = true) (y : α) (hy : p y = false) (hz : q y = true) : ∀ l : List α, y ∈ l → (l.filter p).length < (l.filter q).length
 | [], hm => by cases hm
 | x :: l, hm => by
  rcases List.mem_cons.1 hm with e | e
  ·subst e
   rw [List.filter_cons_of_neg (by simp [hy]), List.filter_cons_of_pos hz, List.length_cons]
   have := filter_len p q h l
   omega
  ·have ih := filter_len_lt p q h y hy hz l e
   cases hp : p x with
   | true => rw [List.filter_cons_of_pos hp, List.filter_cons_of_pos (h x hp)]; simpa using ih
   | false =>
    rw [List.filter_cons_of_neg (by simp [hp])]
    cases hq : q x with
    | true => rw [List.filter_cons_of_pos hq, List.length_cons]; omega
    | false => rw [List.filter_cons_of_neg (by simp [hq])]; exact ih
theorem Le.set (t : Tr) (m : ByteArray) (n : Nat) (hn : n ≠ 0) : Le t (t.set m n) := fun x hx => by
 have hx' : (if x = m then n else t.st x) = 0 := hx
 by_cases e : x = m
 ·rw [if_pos e] at hx'; exact absurd hx' hn
 ·rwa [if_neg e] at hx'
theorem Le.done (t : Tr) (m : ByteArray) : Le t (t.done m) := fun x hx => by
 have hx' : (if x = m then 2 else t.st x) = 0 := hx
 by_cases e : x = m
 ·rw [if_pos e] at hx'; cases hx'
 ·rwa [if_neg e] at hx'
structure Inv (all : ByteArray → Option (List ByteArray)) (t : Tr) : Prop where
 le2 : ∀ m, t.st m ≤ 2
 two : ∀ m, t.st m = 2 ↔ m ∈ t.ord
 nodup : t.ord.Nodup
 ahead : ∀ (i : Nat) (m : ByteArray), t.ord[i]? = some m → ∃ l, all m = some l ∧ ∀ n ∈ l, ∃ j, j < i ∧ t.ord[j]? = some n
structure Gone (t t' : Tr) : Prop where
 one : ∀ m, t'.st m = 1 ↔ t.st m = 1
 more : ∃ x, t'.ord = t.ord ++ x
theorem Gone.refl (t : Tr) : Gone t t := ⟨fun _ => Iff.rfl, [], by simp⟩
theorem Gone.trans {a b c : Tr} (h : Gone a b) (k : Gone b c) : Gone a c :=
 ⟨fun m => (k.one m).trans (h.one m), by
  obtain ⟨x, hx⟩ := h.more
  obtain ⟨y, hy⟩ := k.more
  exact ⟨x ++ y, by rw [hy, hx, List.append_assoc]⟩⟩
end Go.Proofs.YtildcdgobdfieaaGreat

/- Small words for worlds: a block that is known whole, what a call may write, and the laws of the walk that the kit lacks. No conditions. -/
namespace Go.Proofs.YtildcdgobdfieaaGreat
set_option linter.unusedVariables false
set_option linter.unusedSimpArgs false
open Go.RowKit
structure Wr (l : List Nat) (w w' : World) : Prop where
 os : w'.os = w.os
 tape : w'.tape = w.tape
 output : w'.output = w.output
 size : w.heap.size ≤ w'.heap.size
 block : ∀ k, k < w.heap.size → k ∉ l → w'.heap[k]? = w.heap[k]?
theorem Wr.refl (l : List Nat) (w : World) : Wr l w w := ⟨rfl, rfl, rfl, Nat.le_refl _, fun _ _ _ => rfl⟩
theorem Wr.trans' {l l' : List Nat} {a b c : World} (h : Wr l a b) (k : Wr l' b c) (hl : ∀ x, x ∈ l' → x ∈ l ∨ a.heap.size ≤ x) : Wr l a c :=
 ⟨k.os.trans h.os, k.tape.trans h.tape, k.output.trans h.output, Nat.le_trans h.size k.size, fun i hi hn =>
  (k.block i (Nat.lt_of_lt_of_le hi h.size) (fun hm => by rcases hl i hm with h1 | h1; exact hn h1; omega)).trans (h.block i hi hn)⟩
theorem Wr.trans {l : List Nat} {a b c : World} (h : Wr l a b) (k : Wr l b c) : Wr l a c := h.trans' k (fun _ hx => .inl hx)
theorem Wr.trans0 {l : List Nat} {a b c : World} (h : Wr l a b) (k : Wr [] b c) : Wr l a c := h.trans' k (fun _ hx => by cases hx)
theorem Wr.more {l l' : List Nat} {a b : World} (h : Wr l a b) (hl : ∀ x, x ∈ l → x ∈ l') : Wr l' a b :=
 ⟨h.os, h.tape, h.output, h.size, fun i hi hn => h.block i hi (fun hm => hn (hl i hm))⟩
theorem Wr.nil {l : List Nat} {a b : World} (h : Wr [] a b) : Wr l a b := h.more (fun _ hx => by cases hx)
theorem Wr.drew {l : List Nat} {a w : World} (h : Wr l a w) : Wr l a w.drew := ⟨h.os, h.tape, h.output, h.size, h.block⟩
theorem Wr.drewN {l : List Nat} {a w : World} (h : Wr l a w) (n : Nat) : Wr l a (w.drewN n) := ⟨h.os, h.tape, h.output, h.size, h.block⟩
theorem Wr.alloc {l : List Nat} {a w : World} (h : Wr l a w) (o : Obj) : Wr l a (w.alloc o) :=
 ⟨h.os, h.tape, h.output, by have := h.size; simp; omega, fun i hi hn => (Below.heap_alloc w o i (Nat.lt_of_lt_of_le hi h.size)).trans (h.block i hi hn)⟩
theorem Wr.setCell {l : List Nat} {a w : World} (h : Wr l a w) {p : Addr} (hp : p.block ∈ l ∨ a.heap.size ≤ p.block) (u : Value) : Wr l a (w.setCell p u) :=
 ⟨h.os, h.tape, h.output, by have := h.size; simp; omega, fun i hi hn => (Below.heap_setCell w p u i (fun e => by subst e; rcases hp with h1 | h1; exact hn h1; omega)).trans (h.block i hi hn)⟩
theorem Wr.setOn {l : List Nat} {a w : World} (h : Wr l a w) {b o : Nat} (hp : b ∈ l) (u : Value) : Wr l a (w.setCell ⟨b, o, none⟩ u) := h.setCell (.inl hp) u
theorem Wr.setNew {l : List Nat} {a w : World} (h : Wr l a w) {b o : Nat} (hp : a.heap.size ≤ b) (u : Value) : Wr l a (w.setCell ⟨b, o, none⟩ u) := h.setCell (.inr hp) u
theorem Wr.below {l : List Nat} {w w' : World} (h : Wr l w w') {B : Nat} (hB : B ≤ w.heap.size) (hl : ∀ x, x ∈ l → B ≤ x) : Below B w w' :=
 ⟨h.os, h.tape, h.output, h.size, fun k hk => h.block k (by omega) (fun hm => by have := hl k hm; omega)⟩
theorem Wr.ofBelow {w w' : World} (h : Below w.heap.size w w') : Wr [] w w' := ⟨h.os, h.tape, h.output, h.size, fun k hk _ => h.block k hk⟩
theorem Wr.toBelow {w w' : World} (h : Wr [] w w') : Below w.heap.size w w' := h.below (Nat.le_refl _) (fun _ hx => by cases hx)
theorem Wr.cell {l : List Nat} {w w' : World} (h : Wr l w w') {p : Addr} (hp : p.block < w.heap.size) (hn : p.block ∉ l) : w'.cell? p = w.cell? p :=
 World.cell?_of_block (h.block p.block hp hn)
theorem Wr.cellOf {l : List Nat} {w w' : World} (h : Wr l w w') {p : Addr} {v : Value} (hc : w.cell? p = some v) (hn : p.block ∉ l) : w'.cell? p = some v :=
 (h.cell (World.block_lt_of_cell? w p hc) hn).trans hc
theorem Wr.frozenOf {l : List Nat} {w w' : World} (h : Wr l w w') {p : Addr} {v : Value} {f : Bool} (hc : w.cell? p = some v) (hf : w.frozen? p = f) (hn : p.block ∉ l) : w'.frozen? p = f :=
 (World.frozen?_of_block (h.block p.block (World.block_lt_of_cell? w p hc) hn)).trans hf
theorem Wr.ofGrown {w w' : World} {row : Option Nat} (h : w.grownBy w' row) {l : List Nat} (hr : ∀ k, row = some k → k ∈ l) : Wr l w w' :=
 ⟨h.os, h.tape, h.output, h.size, fun k hk hn => h.block k hk (fun e => hn (hr k e.symm))⟩
theorem Wr.new {l : List Nat} {a b c : World} {g : Nat} (h : Wr l a b) (k : Wr [g] b c) (hg : a.heap.size ≤ g) : Wr l a c :=
 h.trans' k (fun x hx => .inr (by rw [List.mem_singleton] at hx; omega))
theorem Wr.on {l : List Nat} {a b c : World} {g : Nat} (h : Wr l a b) (k : Wr [g] b c) (hg : g ∈ l) : Wr l a c :=
 h.trans' k (fun x hx => .inl (by rw [List.mem_singleton] at hx; subst hx; exact hg))
def Blk (w : World) (g : Nat) (t : TypeId) (cs : Array Value) : Prop := w.heap[g]? = some (.cells cs t (0, 0))
section
variable {w w' : World} {g : Nat} {t : TypeId} {cs : Array Value}
theorem Blk.lt (h : Blk w g t cs) : g < w.heap.size := by
 rcases Nat.lt_or_ge g w.heap.size with hlt | hge
 ·exact hlt
 ·unfold Blk at h; rw [Array.getElem?_eq_none hge] at h; cases h
theorem Blk.cell (h : Blk w g t cs) (i : Nat) : w.cell? ⟨g, i, none⟩ = cs[i]? := cell_of_row w g i cs t (0, 0) h
theorem Blk.frozen (h : Blk w g t cs) (i : Nat) : w.frozen? ⟨g, i, none⟩ = false := by
 unfold Blk at h
 simp [World.frozen?, h]
theorem Blk.new (w : World) (t : TypeId) (cs : Array Value) : Blk (w.alloc (.cells cs t)) w.heap.size t cs := heap_alloc_new w _
theorem Blk.drew (h : Blk w g t cs) : Blk w.drew g t cs := h
theorem Blk.drewN (h : Blk w g t cs) (n : Nat) : Blk (w.drewN n) g t cs := h
theorem Blk.alloc (h : Blk w g t cs) (o : Obj) : Blk (w.alloc o) g t cs := (Below.heap_alloc w o g h.lt).trans h
theorem Blk.set_ (h : Blk w g t cs) (i : Nat) (u : Value) : Blk (w.setCell ⟨g, i, none⟩ u) g t (cs.setIfInBounds i u) := by
 unfold Blk at h ⊢
 simp [World.setCell, Array.getElem?_modify, h]
theorem Blk.far (h : Blk w g t cs) {p : Addr} (hp : g ≠ p.block) (u : Value) : Blk (w.setCell p u) g t cs := (Below.heap_setCell w p u g hp).trans h
theorem Blk.wr {l : List Nat} (h : Blk w g t cs) (hb : Wr l w w') (hg : g ∉ l) : Blk w' g t cs := (hb.block g h.lt hg).trans h
theorem Blk.wr0 (h : Blk w g t cs) (hb : Wr [] w w') : Blk w' g t cs := h.wr hb (by simp)
end
section
variable (P : Program) (w : World)
@[go_sem] theorem run_store_complex' (a : Addr) (m : Mode) (k : FloatKind) (x y : Nat) : (store a (.complex k x y) m).run P w = stored P w a (.complex k x y) m := run_store P w a _ m rfl
@[go_sem] theorem run_store_float' (a : Addr) (m : Mode) (k : FloatKind) (x : Nat) : (store a (.float k x) m).run P w = stored P w a (.float k x) m := run_store P w a _ m rfl
end
section
variable {P : Program} {ops : Array Oper} {Q : Exit → Act → World → Prop} {a : Act} {w : World} {rest : List Oper} {o : Oper}
end
def Row1 (w : World) (v : Value) (n : Nat) (g : Nat → Value) : Prop :=
 ∃ (A : Option Addr) (c : Nat), v = .slice A n c ∧ n ≤ c ∧ c ≤ maxLen ∧ ∀ j, j < n → ∃ b off, A = some ⟨b, off, none⟩ ∧ w.cell? ⟨b, off + j, none⟩ = some (g j)
theorem Row1.wr0 {w w' : World} {v : Value} {n : Nat} {g : Nat → Value} (h : Row1 w v n g) (hw : Wr [] w w') : Row1 w' v n g := by
 obtain ⟨A, c, hv, h1, h2, h3⟩ := h
 refine ⟨A, c, hv, h1, h2, fun j hj => ?_⟩
 obtain ⟨b, off, hA, hc⟩ := h3 j hj
 exact ⟨b, off, hA, hw.cellOf hc (by simp)⟩
theorem Row1.ofOwn {w : World} {base : Nat} {e : TypeId} {v : Value} {n : Nat} {xs : List Value} (h : w.ownsRow base e 1 v n xs) (g : Nat → Value) (hg : ∀ j, j < n → xs[j]? = some (g j)) : Row1 w v n g := by
 rcases h.2 with ⟨rfl, rfl⟩ | ⟨b, cap, cur, rfl, hb, hh, hn, hc, hs, ht⟩
 ·exact ⟨none, 0, rfl, Nat.le_refl _, by simp, fun j hj => absurd hj (by omega)⟩
 ·refine ⟨_, cap, rfl, hn, hc, fun j hj => ⟨b, 0, rfl, ?_⟩⟩
  rw [Nat.zero_add, cell_of_row w b j cur e (0, 0) hh, ← hg j hj, ← ht]
  rw [List.getElem?_take, if_pos (by omega)]
  simp
theorem bytes_some (s : ByteArray) (h : 0 < s.size) : s.toList.isEmpty = false := by
 rw [ByteArray.toList_eq]
 obtain ⟨⟨l⟩⟩ := s
 cases l with
 | nil => simp [ByteArray.size] at h
 | cons x l => rfl
end Go.Proofs.YtildcdgobdfieaaGreat

/- The plain law of KeyParts: sums, keys, and how keys are written. No conditions. -/
namespace Go.Proofs.YtildcdgobdfieaaGreat
set_option linter.unusedVariables false
set_option linter.unusedSimpArgs false
open Go
def stepN (h c : Nat) : Nat := ((h ^^^ c) * 1099511628211) % 18446744073709551616
def moreN (h : Nat) (l : List Nat) : Nat := l.foldl stepN h
def ofN (h : Nat) : Nat := h ^^^ (h >>> 32)
theorem stepN_lt (h c : Nat) : stepN h c < 18446744073709551616 := Nat.mod_lt _ (by decide)
theorem moreN_lt {h : Nat} (hh : h < 18446744073709551616) (l : List Nat) : moreN h l < 18446744073709551616 := by
 induction l generalizing h with
 | nil => exact hh
 | cons c l ih => exact ih (stepN_lt h c)
theorem moreN_append (h : Nat) (l m : List Nat) : moreN h (l ++ m) = moreN (moreN h l) m := by simp [moreN, List.foldl_append]
end Go.Proofs.YtildcdgobdfieaaGreat

/- Objects as bytes, and back: the plain laws. No conditions. -/
namespace Go.Proofs.YtildcdgobdfieaaGreat
set_option linter.unusedVariables false
set_option linter.unusedSimpArgs false
def numL (n : Nat) : Nat → List UInt8
 | 0 => []
 | k + 1 => UInt8.ofNat (n / 256 ^ k % 256) :: numL n k
theorem numL_len (n : Nat) : ∀ k, (numL n k).length = k
 | 0 => rfl
 | k + 1 => by rw [numL, List.length_cons, numL_len n k]
def truL (b : Bool) : List UInt8 := if b then [1] else [0]
def textL (s : ByteArray) : List UInt8 := numL s.size 1 ++ s.data.toList
def prcL (p : PrcD) : List UInt8 := numL p.at_.toNat 2 ++ numL p.params.toNat 2 ++ numL p.locals.toNat 2 ++ numL p.depth.toNat 2 ++ numL p.level.toNat 1 ++ truL p.func
def packL (m : ModD) : List UInt8 :=
 numL m.code.size 2 ++ m.code.data.toList ++ numL m.procs.length 2 ++ m.procs.flatMap prcL ++ numL m.imports.length 1 ++ m.imports.flatMap (fun i => numL i.toNat 1) ++ numL m.data.toNat 2 ++ numL m.init.length 2 ++ m.init.flatMap (fun i => numL i.toNat 2)
def useL (u : UseD) : List UInt8 := textL u.module ++ numL u.key.toNat 8
def bodyL (o : ObjD) : List UInt8 := textL o.module ++ truL o.main ++ numL o.key.toNat 8 ++ numL o.uses.length 1 ++ o.uses.flatMap useL ++ packL o.mod
def keyL (l : List UInt8) : Nat := ofN (moreN 14695981039346656037 (l.map UInt8.toNat))
def fileL (kind : List UInt8) (l : List UInt8) : List UInt8 := kind ++ numL (keyL l) 8 ++ l
structure Rd where
 s : List UInt8
 bad : Bool
def valN (l : List UInt8) : Nat := l.foldl (fun n c => 256 * n + c.toNat) 0
def Rd.raw (r : Rd) (n : Nat) : List UInt8 × Rd := if r.bad = true ∨ r.s.length < n then ([], ⟨r.s, true⟩) else (r.s.take n, ⟨r.s.drop n, false⟩)
def Rd.num (r : Rd) (size : Nat) : Nat × Rd := (valN (r.raw size).1, (r.raw size).2)
def Rd.truth (r : Rd) : Bool × Rd := (decide ((r.num 1).1 = 1), ⟨(r.num 1).2.s, (r.num 1).2.bad || decide (1 < (r.num 1).1)⟩)
def Rd.text (r : Rd) : ByteArray × Rd := (⟨(((r.num 1).2.raw (r.num 1).1).1).toArray⟩, ((r.num 1).2.raw (r.num 1).1).2)
def Rd.list {α : Type} (one : Rd → α × Rd) : Nat → Rd → List α × Rd
 | 0, r => ([], r)
 | n + 1, r => if r.bad = true then ([], r) else ((one r).1 :: (Rd.list one n (one r).2).1, (Rd.list one n (one r).2).2)
def Rd.two (r : Rd) : Int × Rd := (((r.num 2).1 : Int), (r.num 2).2)
def Rd.one (r : Rd) : Int × Rd := (((r.num 1).1 : Int), (r.num 1).2)
def Rd.proc (r : Rd) : PrcD × Rd :=
 let a := r.two
 let b := a.2.two
 let c := b.2.two
 let d := c.2.two
 let e := d.2.one
 let f := e.2.truth
 (⟨a.1, b.1, c.1, d.1, e.1, f.1⟩, f.2)
def Rd.use (r : Rd) : UseD × Rd :=
 let a := r.text
 let b := a.2.num 8
 (⟨a.1, (b.1 : Int)⟩, b.2)
def Rd.module (r : Rd) : ModD × Rd :=
 let a := r.num 2
 let b := a.2.raw a.1
 let c := b.2.num 2
 let d := c.2.list Rd.proc c.1
 let e := d.2.num 1
 let f := e.2.list Rd.one e.1
 let g := f.2.two
 let h := g.2.num 2
 let i := h.2.list Rd.two h.1
 let m : ModD := ⟨⟨b.1.toArray⟩, d.1, f.1, g.1, i.1⟩
 (m, ⟨i.2.s, i.2.bad || !omodB m⟩)
def zeroMod : ModD := ⟨⟨#[]⟩, [], [], 0, []⟩
def unpackP (l : List UInt8) : ModD × List UInt8 × Int := if (Rd.module ⟨l, false⟩).2.bad then (zeroMod, [], 7) else ((Rd.module ⟨l, false⟩).1, (Rd.module ⟨l, false⟩).2.s, 0)
def Rd.obj (r : Rd) : ObjD × Rd :=
 let a := r.text
 let b := a.2.truth
 let c := b.2.num 8
 let d := c.2.num 1
 let e := d.2.list Rd.use d.1
 let f := e.2.module
 (⟨a.1, b.1, (c.1 : Int), e.1, f.1⟩, f.2)
def noObj : ObjD := ⟨⟨#[]⟩, false, 0, [], zeroMod⟩
def headP (kind l : List UInt8) : Option (Nat × List UInt8) := if l.length < 12 ∨ l.take 4 ≠ kind then none else some (valN ((l.drop 4).take 8), l.drop 12)
def objKind : List UInt8 := [83, 69, 80, 79]
def decodeP (l : List UInt8) : ObjD × Int :=
 match headP objKind l with
 | none => (noObj, 7)
 | some (k, s) => if k ≠ keyL s then (noObj, 210) else if (Rd.obj ⟨s, false⟩).2.bad || !((Rd.obj ⟨s, false⟩).2.s).isEmpty || !objB (Rd.obj ⟨s, false⟩).1 then (noObj, 7) else ((Rd.obj ⟨s, false⟩).1, 0)
def encodeP (o : ObjD) : List UInt8 × Int := if objB o then (fileL objKind (bodyL o), 0) else ([], 2)
theorem raw_app (a b : List UInt8) : (Rd.mk (a ++ b) false).raw a.length = (a, ⟨b, false⟩) := by
 unfold Rd.raw
 rw [if_neg (by simp)]
 simp
theorem valN_snoc (l : List UInt8) (c : UInt8) : valN (l ++ [c]) = 256 * valN l + c.toNat := by simp [valN, List.foldl_append]
theorem numL_snoc (n : Nat) : ∀ k, numL n (k + 1) = numL (n / 256) k ++ [UInt8.ofNat (n % 256)]
 | 0 => by simp [numL]
 | k + 1 => by
  rw [numL, numL_snoc n k]
  conv => rhs; rw [numL]
  rw [List.cons_append]
  congr 2
  rw [Nat.div_div_eq_div_mul, Nat.pow_succ, Nat.mul_comm]
theorem toNat_ofNat (n : Nat) (h : n < 256) : (UInt8.ofNat n).toNat = n := by
 rw [UInt8.toNat_ofNat']
 exact Nat.mod_eq_of_lt h
theorem valN_numL : ∀ (k n : Nat), n < 256 ^ k → valN (numL n k) = n
 | 0, n, h => by simp at h; simp [numL, valN, h]
 | k + 1, n, h => by
  rw [numL_snoc, valN_snoc, valN_numL k (n / 256) (by rw [Nat.div_lt_iff_lt_mul (by decide), ← Nat.pow_succ]; exact h), toNat_ofNat _ (Nat.mod_lt _ (by decide))]
  omega
theorem num_app (n k : Nat) (h : n < 256 ^ k) (rest : List UInt8) : (Rd.mk (numL n k ++ rest) false).num k = (n, ⟨rest, false⟩) := by
 unfold Rd.num
 have := raw_app (numL n k) rest
 rw [numL_len] at this
 rw [this]
 simp only [valN_numL k n h]
theorem truth_app (b : Bool) (rest : List UInt8) : (Rd.mk (truL b ++ rest) false).truth = (b, ⟨rest, false⟩) := by
 cases b
 ·have := num_app 0 1 (by decide) rest
  have e : truL false = numL 0 1 := rfl
  unfold Rd.truth
  rw [e, this]
  rfl
 ·have := num_app 1 1 (by decide) rest
  have e : truL true = numL 1 1 := rfl
  unfold Rd.truth
  rw [e, this]
  rfl
theorem text_app (s : ByteArray) (h : s.size ≤ 255) (rest : List UInt8) : (Rd.mk (textL s ++ rest) false).text = (s, ⟨rest, false⟩) := by
 unfold Rd.text textL
 rw [List.append_assoc, num_app s.size 1 (by omega)]
 have hl : s.data.toList.length = s.size := rfl
 have := raw_app s.data.toList rest
 rw [hl] at this
 rw [this]
theorem list_app {α : Type} {one : Rd → α × Rd} {enc : α → List UInt8} : ∀ (l : List α) (rest : List UInt8), (∀ x ∈ l, ∀ r, one ⟨enc x ++ r, false⟩ = (x, ⟨r, false⟩)) → Rd.list one l.length ⟨l.flatMap enc ++ rest, false⟩ = (l, ⟨rest, false⟩)
 | [], rest, _ => rfl
 | x :: l, rest, h => by
  rw [List.length_cons, Rd.list, if_neg (by simp), List.flatMap_cons, List.append_assoc, h x (by simp)]
  simp only
  rw [list_app l rest (fun y hy => h y (by simp [hy]))]
theorem two_app (n : Int) (h : 0 ≤ n) (h2 : n ≤ 65535) (rest : List UInt8) : (Rd.mk (numL n.toNat 2 ++ rest) false).two = (n, ⟨rest, false⟩) := by
 unfold Rd.two
 rw [num_app n.toNat 2 (by omega)]
 simp only [Int.toNat_of_nonneg h]
theorem one_app (n : Int) (h : 0 ≤ n) (h2 : n ≤ 255) (rest : List UInt8) : (Rd.mk (numL n.toNat 1 ++ rest) false).one = (n, ⟨rest, false⟩) := by
 unfold Rd.one
 rw [num_app n.toNat 1 (by omega)]
 simp only [Int.toNat_of_nonneg h]
theorem inB_iff {n a b : Int} : inB n a b = true ↔ a ≤ n ∧ n ≤ b := by simp [inB]
theorem proc_app (p : PrcD) (m : ModD) (hm : m.code.size ≤ 65535) (h : prcB p m = true) (rest : List UInt8) : (Rd.mk (prcL p ++ rest) false).proc = (p, ⟨rest, false⟩) := by
 unfold prcB at h
 simp only [Bool.and_eq_true, inB_iff] at h
 obtain ⟨⟨⟨⟨h1, h2⟩, h3⟩, h4⟩, h5⟩ := h
 unfold Rd.proc prcL
 simp only [List.append_assoc]
 rw [two_app p.at_ h4.1 (by omega)]
 simp only
 rw [two_app p.params h1.1 h1.2]
 simp only
 rw [two_app p.locals h2.1 h2.2]
 simp only
 rw [two_app p.depth h3.1 h3.2]
 simp only
 rw [one_app p.level (by omega) (by omega)]
 simp only
 rw [truth_app]
def wordsB (m : ModD) : Prop := ∀ i ∈ m.init, 0 ≤ i ∧ i ≤ 65535
theorem module_app (m : ModD) (hw : wordsB m) (h : omodB m = true) (rest : List UInt8) : (Rd.mk (packL m ++ rest) false).module = (m, ⟨rest, false⟩) := by
 have h0 := h
 unfold omodB modB at h
 simp only [Bool.and_eq_true, decide_eq_true_eq, List.all_eq_true, inB_iff] at h
 obtain ⟨⟨a1, a2⟩, ⟨⟨⟨⟨⟨⟨⟨b1, b2⟩, b3⟩, b4⟩, b5⟩, b6⟩, b7⟩, b8⟩⟩ := h
 unfold Rd.module packL
 simp only [List.append_assoc]
 rw [num_app m.code.size 2 (by omega)]
 simp only
 have hl : m.code.data.toList.length = m.code.size := rfl
 have hr := raw_app m.code.data.toList
 simp only [hl] at hr
 rw [hr]
 simp only
 rw [num_app m.procs.length 2 (by omega)]
 simp only
 rw [list_app m.procs _ (fun p hp r => proc_app p _ b1 (b6 p hp) r)]
 simp only
 rw [num_app m.imports.length 1 (by omega)]
 simp only
 rw [list_app (enc := fun i : Int => numL i.toNat 1) m.imports _ (fun i hi r => one_app i (a2 i hi).1 (by have := (a2 i hi).2; omega) r)]
 simp only
 rw [two_app m.data (by omega) b5.2]
 simp only
 rw [num_app m.init.length 2 (by have := b5.1; have := b5.2; omega)]
 simp only
 rw [list_app (enc := fun i : Int => numL i.toNat 2) m.init _ (fun i hi r => two_app i (hw i hi).1 (hw i hi).2 r)]
 simp only [h0]
 rfl
theorem use_app (u : UseD) (hm : u.module.size ≤ 255) (hk : 0 ≤ u.key ∧ u.key < 18446744073709551616) (rest : List UInt8) : (Rd.mk (useL u ++ rest) false).use = (u, ⟨rest, false⟩) := by
 unfold Rd.use useL
 simp only [List.append_assoc]
 rw [text_app u.module hm]
 simp only
 rw [num_app u.key.toNat 8 (by omega)]
 simp only [Int.toNat_of_nonneg hk.1]
structure objW (o : ObjD) : Prop where
 key : 0 ≤ o.key ∧ o.key < 18446744073709551616
 keys : ∀ u ∈ o.uses, 0 ≤ u.key ∧ u.key < 18446744073709551616
 words : wordsB o.mod
theorem usesB_names : ∀ (l : List UseD) (seen : List ByteArray), usesB seen l = true → ∀ u ∈ l, u.module.size ≤ 255
 | [], _, _, u, hu => by cases hu
 | x :: l, seen, h, u, hu => by
  unfold usesB at h
  simp only [Bool.and_eq_true] at h
  rcases List.mem_cons.1 hu with e | e
  ·rw [e]
   have := h.1.1
   unfold nameB at this
   simp at this
   exact this.2
  ·exact usesB_names l _ h.2 u e
theorem obj_app (o : ObjD) (hw : objW o) (h : objB o = true) : (Rd.mk (bodyL o) false).obj = (o, ⟨[], false⟩) := by
 unfold objB nameB at h
 simp only [Bool.and_eq_true, decide_eq_true_eq] at h
 obtain ⟨⟨⟨⟨⟨n1, n2⟩, u1⟩, i1⟩, u2⟩, m1⟩ := h
 unfold Rd.obj bodyL
 simp only [List.append_assoc]
 rw [text_app o.module n2]
 simp only
 rw [truth_app]
 simp only
 rw [num_app o.key.toNat 8 (by have := hw.key; omega)]
 simp only
 rw [num_app o.uses.length 1 (by omega)]
 simp only
 rw [list_app o.uses _ (fun u hu r => use_app u (usesB_names _ _ u2 u hu) (hw.keys u hu) r)]
 simp only
 have := module_app o.mod hw.words m1 []
 rw [List.append_nil] at this
 rw [this]
 simp only [Int.toNat_of_nonneg hw.key.1]
theorem keyL_lt (l : List UInt8) : keyL l < 256 ^ 8 := by
 unfold keyL ofN
 have h1 := moreN_lt (h := 14695981039346656037) (by decide) (l.map UInt8.toNat)
 refine Nat.xor_lt_two_pow (n := 64) h1 ?_
 rw [Nat.shiftRight_eq_div_pow]
 omega
theorem head_file (kind l : List UInt8) (hk : kind.length = 4) : headP kind (fileL kind l) = some (keyL l, l) := by
 unfold headP fileL
 have h1 : (kind ++ numL (keyL l) 8 ++ l).length = 12 + l.length := by rw [List.length_append, List.length_append, hk, numL_len]
 have h2 : (kind ++ numL (keyL l) 8 ++ l).take 4 = kind := by rw [List.append_assoc, List.take_append, hk, Nat.sub_self, List.take_zero, List.append_nil, ← hk, List.take_length]
 have h3 : (kind ++ numL (keyL l) 8 ++ l).drop 4 = numL (keyL l) 8 ++ l := by rw [List.append_assoc, List.drop_append, hk, Nat.sub_self, List.drop_zero, ← hk, List.drop_length, List.nil_append]
 have h4 : (numL (keyL l) 8 ++ l).take 8 = numL (keyL l) 8 := by
  have := numL_len (keyL l) 8
  rw [List.take_append, this, Nat.sub_self, List.take_zero, List.append_nil, List.take_of_length_le (by omega)]
 have h5 : (kind ++ numL (keyL l) 8 ++ l).drop 12 = l := by
  rw [List.drop_append, List.length_append, hk, numL_len, List.drop_eq_nil_of_le (by rw [List.length_append, hk, numL_len]; omega)]
  simp
 rw [if_neg (by rw [h1, h2]; simp), h3, h4, h5, valN_numL 8 _ (keyL_lt l)]
theorem decode_encode (o : ObjD) (hw : objW o) (h : objB o = true) : decodeP (fileL objKind (bodyL o)) = (o, 0) := by
 unfold decodeP
 rw [head_file _ _ rfl]
 simp only
 rw [obj_app o hw h, h]
 simp
end Go.Proofs.YtildcdgobdfieaaGreat

/- Slices that read as lists, and a type as it lies in memory. No conditions. -/
namespace Go.Proofs.YtildcdgobdfieaaGreat
open Go.RowKit
set_option linter.unusedVariables false
set_option linter.unusedSimpArgs false
def Sl (w : World) (P : Nat → Prop) (size : Nat) (v : Value) (n : Nat) (xs : List Value) : Prop :=
 ∃ (A : Option Addr) (c : Nat), v = .slice A n c ∧ n ≤ c ∧ c ≤ maxLen ∧ xs.length = n * size ∧ ∀ (j : Nat) (u : Value), xs[j]? = some u → ∃ b off, A = some ⟨b, off, none⟩ ∧ P b ∧ w.cell? ⟨b, off + j, none⟩ = some u
section
variable {w w' : World} {P Q : Nat → Prop} {size n : Nat} {v : Value} {xs : List Value}
theorem Sl.nil (w : World) (P : Nat → Prop) (size : Nat) : Sl w P size (.slice none 0 0) 0 [] := ⟨none, 0, rfl, Nat.le_refl _, by simp, by simp, fun j u h => by simp at h⟩
theorem Sl.keep {l : List Nat} (h : Sl w P size v n xs) (hw : Wr l w w') (hP : ∀ b, P b → b ∉ l) : Sl w' P size v n xs := by
 obtain ⟨A, c, hv, h1, h2, h3, h4⟩ := h
 refine ⟨A, c, hv, h1, h2, h3, fun j u hj => ?_⟩
 obtain ⟨b, off, hA, hb, hc⟩ := h4 j u hj
 exact ⟨b, off, hA, hb, hw.cellOf hc (hP b hb)⟩
theorem Sl.wr0 (h : Sl w P size v n xs) (hw : Wr [] w w') : Sl w' P size v n xs := h.keep hw (fun _ _ => by simp)
theorem Sl.into (h : Sl w P size v n xs) (hP : ∀ b, P b → b < w.heap.size → Q b) : Sl w Q size v n xs := by
 obtain ⟨A, c, hv, h1, h2, h3, h4⟩ := h
 refine ⟨A, c, hv, h1, h2, h3, fun j u hj => ?_⟩
 obtain ⟨b, off, hA, hb, hc⟩ := h4 j u hj
 exact ⟨b, off, hA, hP b hb (World.block_lt_of_cell? w _ hc), hc⟩
theorem Sl.mono (h : Sl w P size v n xs) (hP : ∀ b, P b → Q b) : Sl w Q size v n xs := h.into fun b hb _ => hP b hb
theorem Sl.ofOwn {base : Nat} {e : TypeId} (h : w.ownsRow base e size v n xs) (hP : ∀ b, v.ownBlock = some b → P b) : Sl w P size v n xs := by
 have hl := h.1
 rcases h.2 with ⟨rfl, rfl⟩ | ⟨b, cap, cur, rfl, hb, hh, hn, hc, hs, ht⟩
 ·have hx : xs = [] := List.eq_nil_of_length_eq_zero (by simpa using hl)
  subst hx
  exact ⟨none, 0, rfl, Nat.le_refl _, by simp, hl, fun j u h => by simp at h⟩
 ·refine ⟨_, cap, rfl, hn, hc, hl, fun j u hj => ⟨b, 0, rfl, hP b rfl, ?_⟩⟩
  have := h.cells (g := b) rfl j u hj
  rw [Addr.add_lit] at this
  exact this
theorem Sl.at_ (h : Sl w P size v n xs) {j : Nat} {u : Value} (hj : xs[j]? = some u) : ∃ b off c, v = .slice (some ⟨b, off, none⟩) n c ∧ n ≤ c ∧ c ≤ maxLen ∧ P b ∧ w.cell? ⟨b, off + j, none⟩ = some u := by
 obtain ⟨A, c, hv, h1, h2, h3, h4⟩ := h
 obtain ⟨b, off, rfl, hb, hc⟩ := h4 j u hj
 exact ⟨b, off, c, hv, h1, h2, hb, hc⟩
theorem Sl.len (h : Sl w P size v n xs) : xs.length = n * size := by
 obtain ⟨A, c, hv, h1, h2, h3, h4⟩ := h
 exact h3
theorem Sl.form (h : Sl w P size v n xs) : ∃ A c, v = .slice A n c ∧ n ≤ c ∧ c ≤ maxLen := by
 obtain ⟨A, c, hv, h1, h2, h3, h4⟩ := h
 exact ⟨A, c, hv, h1, h2⟩
theorem Sl.thing (h : Sl w P size v n xs) (hs : 0 < size) {i : Nat} (hi : i < n) : ∃ b off c, v = .slice (some ⟨b, off, none⟩) n c ∧ n ≤ c ∧ c ≤ maxLen ∧ P b ∧
  ∀ j u, j < size → xs[i * size + j]? = some u → w.cell? ⟨b, off + (i * size + j), none⟩ = some u := by
 have hl := h.len
 obtain ⟨A, c, hv, h1, h2, h3, h4⟩ := h
 have h0 : 0 < xs.length := by rw [hl]; exact Nat.mul_pos (by omega) hs
 obtain ⟨b, off, rfl, hb, hc⟩ := h4 0 xs[0] (List.getElem?_eq_getElem h0)
 refine ⟨b, off, c, hv, h1, h2, hb, fun j u hj hu => ?_⟩
 obtain ⟨b', off', e, hb', hc'⟩ := h4 _ u hu
 injection e with e
 injection e with e1 e2
 subst e1 e2
 exact hc'
end
theorem run_append_sl {P : Program} (w : World) (base : Nat) (t ty e : TypeId) (i : TypeInfo) (z : Value) (size bytes : Nat) (ht : P.underlying t = some (.slice e)) (hi : P.info? e = some i) (hz : i.zero = some z)
  (hsize : i.size = size) (hby : i.bytes = bytes) (hzs : z.cells.size = size) (hsz : 0 < size)
  (v : Value) (n : Nat) (xs : List Value) (hown : w.ownsRow base e size v n xs) (Q : Nat → Prop) (vs : Value) (m : Nat) (news : List Value) (hr : Sl w Q size vs m news) (h1 : ∀ u ∈ news, u.oneCell' = true)
  (h63 : n + m ≤ maxLen) (hbytes : (n + m) * bytes ≤ 140737488355328) (hbase : base ≤ w.heap.size) :
  ∃ v' w', (Builtin.append_ #[t, t] ty #[v, vs]).run P w = .ok v' w' ∧ w'.ownsRow base e size v' (n + m) (xs ++ news) ∧ w.grownBy w' v.ownBlock ∧ (v'.ownBlock = v.ownBlock ∨ v'.ownBlock = some w.heap.size) := by
 obtain ⟨A, c, rfl, _, _, hl, hc⟩ := hr
 rcases Nat.eq_zero_or_pos m with h0 | h0
 ·subst h0
  have hn : news = [] := List.eq_nil_of_length_eq_zero (by simpa using hl)
  subst hn
  have hrun : (Builtin.append_ #[t, t] ty #[v, .slice A 0 c]).run P w = .ok v w := by
   rcases hown.2 with ⟨rfl, rfl⟩ | ⟨g, cap, cur, rfl, _, _, hnc, _⟩
   ·cases A <;> simp [Builtin.append_, run_underlying ht, sizeOf, typeInfo, hi, Builtin.lenOf, Builtin.firstCells, loadCells, loadCellsFrom, storeCells]
   ·cases A <;> simp [Builtin.append_, run_underlying ht, sizeOf, typeInfo, hi, Builtin.lenOf, Builtin.firstCells, hnc, loadCells, loadCellsFrom, storeCells]
  exact ⟨v, w, hrun, by simpa using hown, World.grownBy.refl w _, .inl rfl⟩
 ·have hnl : 0 < news.length := by rw [hl]; exact Nat.mul_pos h0 hsz
  obtain ⟨b, off, rfl, _, _⟩ := hc 0 news[0] (List.getElem?_eq_getElem hnl)
  have hcells : ∀ j u, news[j]? = some u → w.cell? ((⟨b, off, none⟩ : Addr).add j) = some u := by
   intro j u hu
   obtain ⟨b', off', e', _, hc'⟩ := hc j u hu
   injection e' with e'
   injection e' with e1 e2
   subst e1 e2
   rw [Addr.add_lit]
   exact hc'
  obtain ⟨v', w', hrun, h2, h3, _, h5⟩ := run_append_own_at (P := P) w base t ty e i z size bytes ht hi hz hsize hby hzs hsz v n xs hown ⟨b, off, none⟩ m c news hl hcells h1 h63 hbytes hbase
  exact ⟨v', w', hrun, h2, h3, h5⟩
section
variable {P : Program} {a : Act} {Q : Exit → Act → World → Prop} {w : World} {o : Oper}
theorem wp_append_run {K : Act → World → Prop} (s x : Operand) (t : TypeId) (ho : o.op = .call { callee := .builtin .append, args := #[s, x], argTypes := #[t, t] }) (vs vx : Value) (hs : a.eval s = vs) (hx : a.eval x = vx) (v' : Value) (w' : World)
  (hrun : (Builtin.append_ #[t, t] o.type #[vs, vx]).run P w = .ok v' w') (h : K (a.put o.dst v') w') : o.wp P a w K Q := by
 unfold Oper.wp execOp
 simp only [ho, resolve, invoke, builtin, Sem.run_bind, Sem.run_pure, Result.andThen_ok, List.map_toArray, List.map_cons, List.map_nil, hs, hx, hrun]
 exact h
theorem wpList_append_run {ops : Array Oper} {rest : List Oper} (hgd : o.guard = none) (s x : Operand) (t : TypeId) (ho : o.op = .call { callee := .builtin .append, args := #[s, x], argTypes := #[t, t] }) (vs vx : Value) (hs : a.eval s = vs) (hx : a.eval x = vx) (v' : Value) (w' : World)
  (hrun : (Builtin.append_ #[t, t] o.type #[vs, vx]).run P w = .ok v' w') (h : wpList P ops Q rest (a.put o.dst v') w') : wpList P ops Q (o :: rest) a w :=
 wpList_plain hgd fun _ hK => wp_append_run s x t ho vs vx hs hx v' w' hrun (hK _ _ h)
theorem step_append_run {ops : Array Oper} {K : Act → World → Prop} {E : Prop} (hgd : o.guard = none) (s x : Operand) (t : TypeId) (ho : o.op = .call { callee := .builtin .append, args := #[s, x], argTypes := #[t, t] }) (vs vx : Value) (hs : a.eval s = vs) (hx : a.eval x = vx) (v' : Value) (w' : World)
  (hrun : (Builtin.append_ #[t, t] o.type #[vs, vx]).run P w = .ok v' w') (h : K (a.put o.dst v') w') : if Region.wanted o (yielded ops a.tmps) = true then Oper.wp P o a w K Q else E := by
 have hw : Region.wanted o (yielded ops a.tmps) = true := by simp [Region.wanted, hgd]
 rw [if_pos hw]
 exact wp_append_run s x t ho vs vx hs hx v' w' hrun h
end
def ownL (v : Value) : List Nat := match v.ownBlock with | some k => [k] | none => []
theorem mem_ownL {v : Value} {k : Nat} : k ∈ ownL v ↔ v.ownBlock = some k := by
 unfold ownL
 cases h : v.ownBlock with
 | none => simp
 | some g => simp; exact ⟨fun e => e.symm, fun e => e.symm⟩
theorem Wr.ofGrownOwn {w w' : World} {v : Value} (h : w.grownBy w' v.ownBlock) : Wr (ownL v) w w' := Wr.ofGrown h fun k hk => mem_ownL.2 hk
end Go.Proofs.YtildcdgobdfieaaGreat
