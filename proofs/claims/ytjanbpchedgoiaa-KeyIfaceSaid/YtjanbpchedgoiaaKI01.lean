/- Linking, as plain data: modules, objects, in which order they begin, what is linked. The plain law of the order. No conditions. -/
import Derived.Test.YtjanbpchedgoiaaRows
import Derived.WalkKit
import Derived.WalkSpells
import Derived.WalkLawsBesides
import Derived.BigQuiet
import Derived.BigRegion
import Derived.Deep.QuietTactic
import Derived.Lib.Hide
import Derived.Maps.AppendAt
import Derived.Deep.AppendLies
import Derived.RegionTactic
import Derived.OwnWalk
import Derived.Laws.OwnMore
import Derived.Deep.Draws
import Derived.Laws.Rows
namespace Go.Proofs.Ytjanbpchedgoiaa
set_option linter.unusedVariables false

/-- A procedure. -/
structure PrcD where
  at_ : Int
  params : Int
  locals : Int
  depth : Int
  level : Int
  func : Bool
/-- A module. -/
structure ModD where
  code : ByteArray
  procs : List PrcD
  imports : List Int
  data : Int
  init : List Int
/-- Another one that is named. -/
structure UseD where
  module : ByteArray
  key : Int
/-- An object. -/
structure ObjD where
  module : ByteArray
  main : Bool
  key : Int
  uses : List UseD
  mod : ModD
/-- What a module needs. -/
structure NeedD where
  module : ByteArray
  needs : List ByteArray

/-- Is it in the list? -/
def inL (m : ByteArray) (l : List ByteArray) : Bool := l.any (fun x => decide (x = m))
theorem inL_iff {m : ByteArray} {l : List ByteArray} : inL m l = true ↔ m ∈ l := by
  unfold inL
  rw [List.any_eq_true]
  constructor
  · rintro ⟨x, hx, e⟩
    rw [← of_decide_eq_true e]; exact hx
  · exact fun h => ⟨m, h, decide_eq_true rfl⟩
/-- Is it from low to high? -/
def inB (n low high : Int) : Bool := decide (low ≤ n) && decide (n ≤ high)
def prcB (p : PrcD) (m : ModD) : Bool := inB p.params 0 65535 && inB p.locals 0 65535 && inB p.depth 0 65535 && inB p.at_ 0 (m.code.size : Int) && inB p.level 1 16
def bodyB : List PrcD → Bool
  | [] => false
  | p :: _ => decide (p.level = 1) && decide (p.params = 0) && !p.func
/-- May a module be, among so many? -/
def modB (m : ModD) (n : Int) : Bool :=
  decide (m.code.size ≤ 65535) && decide (1 ≤ m.procs.length) && decide (m.procs.length ≤ 1024) && decide (m.imports.length ≤ 255) && inB m.data (m.init.length : Int) 65535 &&
    m.procs.all (fun p => prcB p m) && m.imports.all (fun i => inB i 0 (n - 1)) && bodyB m.procs
/-- The first that is there twice, in a list of numbers; or out of its bounds. -/
def ordB (n : Int) : List Int → List Int → Bool
  | _, [] => true
  | seen, i :: l => inB i 0 (n - 1) && !(seen.contains i) && ordB n (seen ++ [i]) l
def modsAt (n : Int) : Nat → List ModD → Option Nat
  | _, [] => none
  | i, m :: l => if modB m n then modsAt n (i + 1) l else some i
/-- May a program be? -/
def checkP (ms : List ModD) (order : List Int) : Int × Int :=
  if inB (ms.length : Int) 1 64 then
    match modsAt ms.length 0 ms with
    | some i => (i, 200)
    | none => if ordB ms.length [] order then (0, 0) else (ms.length, 200)
  else (ms.length, 200)
/-- May a module be, in an object? -/
def omodB (m : ModD) : Bool := decide (m.imports.length ≤ 255) && m.imports.all (fun i => inB i 0 63) && modB { m with imports := [] } 1
def nameB (s : ByteArray) : Bool := decide (1 ≤ s.size) && decide (s.size ≤ 255)
def usesB : List ByteArray → List UseD → Bool
  | _, [] => true
  | seen, u :: l => nameB u.module && !(inL u.module seen) && usesB (seen ++ [u.module]) l
/-- May an object be? -/
def objB (o : ObjD) : Bool := nameB o.module && decide (o.uses.length ≤ 255) && decide (o.mod.imports.length = 0) && usesB [o.module] o.uses && omodB o.mod

/-- How far the order has come. -/
structure Tr where
  st : ByteArray → Nat
  ord : List ByteArray
inductive Res where
  | ok (t : Tr)
  | err (who : ByteArray) (e : Int)
def Tr.set (t : Tr) (m : ByteArray) (n : Nat) : Tr := ⟨fun x => if x = m then n else t.st x, t.ord⟩
def Tr.done (t : Tr) (m : ByteArray) : Tr := ⟨fun x => if x = m then 2 else t.st x, t.ord ++ [m]⟩
def each (f : ByteArray → Tr → Res) : List ByteArray → Tr → Res
  | [], t => .ok t
  | n :: l, t => if t.st n = 1 then .err n 220 else if t.st n = 0 then match f n t with | .ok t' => each f l t' | .err who e => .err who e else each f l t
def thr (all : ByteArray → Option (List ByteArray)) : Nat → ByteArray → Tr → Res
  | 0, _, _ => .err ⟨#[]⟩ 1
  | k + 1, m, t => match all m with
    | none => .err m 3
    | some l => match each (thr all k) l (t.set m 1) with
      | .ok t' => .ok (t'.done m)
      | .err who e => .err who e
def allOf (l : List NeedD) (m : ByteArray) : Option (List ByteArray) := (l.find? (fun x => decide (x.module = m))).map NeedD.needs
/-- The first that is told twice. -/
def twiceOf : List ByteArray → List NeedD → Option ByteArray
  | _, [] => none
  | seen, x :: l => if inL x.module seen then some x.module else twiceOf (seen ++ [x.module]) l
def orderP (l : List NeedD) (first : ByteArray) : List ByteArray × ByteArray × Int :=
  match twiceOf [] l with
  | some d => ([], d, 6)
  | none => match thr (allOf l) (l.length + 1) first ⟨fun _ => 0, []⟩ with
    | .ok t => (t.ord, ⟨#[]⟩, 0)
    | .err who e => ([], who, e)

/-- How many of these are fresh. -/
def cnt (T : List ByteArray) (t : Tr) : Nat := (T.filter (fun m => decide (t.st m = 0))).length
/-- Nothing becomes fresh again. -/
def Le (t t' : Tr) : Prop := ∀ m, t'.st m = 0 → t.st m = 0
theorem Le.refl (t : Tr) : Le t t := fun _ h => h
theorem Le.trans {a b c : Tr} (h : Le a b) (k : Le b c) : Le a c := fun m hm => h m (k m hm)
theorem filter_len {α : Type} (p q : α → Bool) (h : ∀ x, p x = true → q x = true) : ∀ l : List α, (l.filter p).length ≤ (l.filter q).length
  | [] => Nat.le_refl _
  | x :: l => by
    have := filter_len p q h l
    cases hp : p x with
    | true => rw [List.filter_cons_of_pos hp, List.filter_cons_of_pos (h x hp)]; simpa using this
    | false =>
      rw [List.filter_cons_of_neg (by simp [hp])]
      cases hq : q x with
      | true => rw [List.filter_cons_of_pos hq, List.length_cons]; omega
      | false => rw [List.filter_cons_of_neg (by simp [hq])]; exact this
theorem filter_len_lt {α : Type} (p q : α → Bool) (h : ∀ x, p x = true → q x = true) (y : α) (hy : p y = false) (hz : q y = true) : ∀ l : List α, y ∈ l → (l.filter p).length < (l.filter q).length
  | [], hm => by cases hm
  | x :: l, hm => by
    rcases List.mem_cons.1 hm with e | e
    · subst e
      rw [List.filter_cons_of_neg (by simp [hy]), List.filter_cons_of_pos hz, List.length_cons]
      have := filter_len p q h l
      omega
    · have ih := filter_len_lt p q h y hy hz l e
      cases hp : p x with
      | true => rw [List.filter_cons_of_pos hp, List.filter_cons_of_pos (h x hp)]; simpa using ih
      | false =>
        rw [List.filter_cons_of_neg (by simp [hp])]
        cases hq : q x with
        | true => rw [List.filter_cons_of_pos hq, List.length_cons]; omega
        | false => rw [List.filter_cons_of_neg (by simp [hq])]; exact ih
theorem cnt_le {T : List ByteArray} {t t' : Tr} (h : Le t t') : cnt T t' ≤ cnt T t :=
  filter_len _ _ (fun x hx => by simpa using h x (by simpa using hx)) T
theorem cnt_lt {T : List ByteArray} {t t' : Tr} (h : Le t t') {m : ByteArray} (hm : m ∈ T) (h0 : t.st m = 0) (h1 : t'.st m ≠ 0) : cnt T t' < cnt T t :=
  filter_len_lt _ _ (fun x hx => by simpa using h x (by simpa using hx)) m (by simpa using h1) (by simpa using h0) T hm
theorem Le.set (t : Tr) (m : ByteArray) (n : Nat) (hn : n ≠ 0) : Le t (t.set m n) := fun x hx => by
  have hx' : (if x = m then n else t.st x) = 0 := hx
  by_cases e : x = m
  · rw [if_pos e] at hx'; exact absurd hx' hn
  · rwa [if_neg e] at hx'
theorem Le.done (t : Tr) (m : ByteArray) : Le t (t.done m) := fun x hx => by
  have hx' : (if x = m then 2 else t.st x) = 0 := hx
  by_cases e : x = m
  · rw [if_pos e] at hx'; cases hx'
  · rwa [if_neg e] at hx'
theorem each_le {f : ByteArray → Tr → Res} (hf : ∀ m t t', f m t = .ok t' → Le t t') : ∀ l t t', each f l t = .ok t' → Le t t'
  | [], t, t', h => by
    simp only [each, Res.ok.injEq] at h
    subst h
    exact Le.refl _
  | n :: l, t, t', h => by
    unfold each at h
    by_cases h1 : t.st n = 1
    · rw [if_pos h1] at h; cases h
    · rw [if_neg h1] at h
      by_cases h0 : t.st n = 0
      · rw [if_pos h0] at h
        cases hr : f n t with
        | ok t1 =>
          rw [hr] at h
          exact (hf n t t1 hr).trans (each_le hf l t1 t' h)
        | err who e => rw [hr] at h; cases h
      · rw [if_neg h0] at h
        exact each_le hf l t t' h
theorem thr_le {all : ByteArray → Option (List ByteArray)} : ∀ k m t t', thr all k m t = .ok t' → Le t t'
  | 0, m, t, t', h => by cases h
  | k + 1, m, t, t', h => by
    unfold thr at h
    cases ha : all m with
    | none => rw [ha] at h; cases h
    | some l =>
      rw [ha] at h
      cases he : each (thr all k) l (t.set m 1) with
      | err who e => simp only [he] at h; cases h
      | ok t1 =>
        simp only [he, Res.ok.injEq] at h
        subst h
        exact ((Le.set t m 1 (by decide)).trans (each_le (thr_le k) l _ _ he)).trans (Le.done t1 m)

/-- An error is none that is OK. -/
theorem each_err_ne {f : ByteArray → Tr → Res} (hf : ∀ m t who, f m t ≠ .err who 0) : ∀ l t who, each f l t ≠ .err who 0
  | [], t, who => by simp [each]
  | n :: l, t, who => by
    unfold each
    by_cases h1 : t.st n = 1
    · rw [if_pos h1]; intro h; injection h with _ h; exact absurd h (by decide)
    · rw [if_neg h1]
      by_cases h0 : t.st n = 0
      · rw [if_pos h0]
        cases hr : f n t with
        | ok t1 => exact each_err_ne hf l t1 who
        | err w e =>
          intro h
          simp only [Res.err.injEq] at h
          rw [h.1, h.2] at hr
          exact hf n t who hr
      · rw [if_neg h0]; exact each_err_ne hf l t who
theorem thr_err_ne (all : ByteArray → Option (List ByteArray)) : ∀ k m t who, thr all k m t ≠ .err who 0
  | 0, m, t, who => by unfold thr; intro h; injection h with _ h; exact absurd h (by decide)
  | k + 1, m, t, who => by
    unfold thr
    cases ha : all m with
    | none => intro h; simp only at h; injection h with _ h; exact absurd h (by decide)
    | some l =>
      have he := each_err_ne (thr_err_ne all k) l (t.set m 1)
      cases hr : each (thr all k) l (t.set m 1) with
      | ok t1 => simp [hr]
      | err w e =>
        intro h
        simp only [hr, Res.err.injEq] at h
        rw [h.1, h.2] at hr
        exact he who hr

/-- What holds of an order that is under way. -/
structure Inv (all : ByteArray → Option (List ByteArray)) (t : Tr) : Prop where
  le2 : ∀ m, t.st m ≤ 2
  two : ∀ m, t.st m = 2 ↔ m ∈ t.ord
  nodup : t.ord.Nodup
  ahead : ∀ (i : Nat) (m : ByteArray), t.ord[i]? = some m → ∃ l, all m = some l ∧ ∀ n ∈ l, ∃ j, j < i ∧ t.ord[j]? = some n
/-- What became of it. -/
structure Gone (t t' : Tr) : Prop where
  one : ∀ m, t'.st m = 1 ↔ t.st m = 1
  more : ∃ x, t'.ord = t.ord ++ x
theorem Gone.refl (t : Tr) : Gone t t := ⟨fun _ => Iff.rfl, [], by simp⟩
theorem Gone.trans {a b c : Tr} (h : Gone a b) (k : Gone b c) : Gone a c :=
  ⟨fun m => (k.one m).trans (h.one m), by
    obtain ⟨x, hx⟩ := h.more
    obtain ⟨y, hy⟩ := k.more
    exact ⟨x ++ y, by rw [hy, hx, List.append_assoc]⟩⟩
theorem gone_two {all : ByteArray → Option (List ByteArray)} {t t' : Tr} (hi : Inv all t) (hi' : Inv all t') (g : Gone t t') {m : ByteArray} (h : t.st m = 2) : t'.st m = 2 := by
  obtain ⟨x, hx⟩ := g.more
  exact (hi'.two m).2 (by rw [hx]; exact List.mem_append_left _ ((hi.two m).1 h))
theorem each_inv {all : ByteArray → Option (List ByteArray)} {f : ByteArray → Tr → Res}
    (hf : ∀ m t t', t.st m = 0 → Inv all t → f m t = .ok t' → Inv all t' ∧ Gone t t' ∧ t'.st m = 2) :
    ∀ l t t', Inv all t → each f l t = .ok t' → Inv all t' ∧ Gone t t' ∧ ∀ n ∈ l, t'.st n = 2
  | [], t, t', hi, h => by
    simp only [each, Res.ok.injEq] at h
    subst h
    exact ⟨hi, Gone.refl _, fun n hn => by cases hn⟩
  | n :: l, t, t', hi, h => by
    unfold each at h
    by_cases h1 : t.st n = 1
    · rw [if_pos h1] at h; cases h
    · rw [if_neg h1] at h
      by_cases h0 : t.st n = 0
      · rw [if_pos h0] at h
        cases hr : f n t with
        | ok t1 =>
          rw [hr] at h
          obtain ⟨i1, g1, e1⟩ := hf n t t1 h0 hi hr
          obtain ⟨i2, g2, e2⟩ := each_inv hf l t1 t' i1 h
          exact ⟨i2, g1.trans g2, fun x hx => by
            rcases List.mem_cons.1 hx with e | e
            · subst e; exact gone_two i1 i2 g2 e1
            · exact e2 x e⟩
        | err who e => rw [hr] at h; cases h
      · rw [if_neg h0] at h
        obtain ⟨i2, g2, e2⟩ := each_inv hf l t t' hi h
        have := hi.le2 n
        exact ⟨i2, g2, fun x hx => by
          rcases List.mem_cons.1 hx with e | e
          · subst e; exact gone_two hi i2 g2 (by omega)
          · exact e2 x e⟩
theorem set_inv {all : ByteArray → Option (List ByteArray)} {t : Tr} (hi : Inv all t) {m : ByteArray} (h0 : t.st m = 0) : Inv all (t.set m 1) := by
  refine ⟨fun x => ?_, fun x => ?_, hi.nodup, hi.ahead⟩
  · show (if x = m then 1 else t.st x) ≤ 2
    have := hi.le2 x
    split <;> omega
  · show (if x = m then 1 else t.st x) = 2 ↔ x ∈ t.ord
    by_cases e : x = m
    · subst e
      rw [if_pos rfl, ← hi.two x]
      omega
    · rw [if_neg e]; exact hi.two x
theorem done_inv {all : ByteArray → Option (List ByteArray)} {t : Tr} (hi : Inv all t) {m : ByteArray} (h1 : t.st m = 1) {l : List ByteArray} (ha : all m = some l) (hl : ∀ n ∈ l, t.st n = 2) : Inv all (t.done m) := by
  have hm : m ∉ t.ord := fun h => by have := (hi.two m).2 h; omega
  refine ⟨fun x => ?_, fun x => ?_, ?_, fun i x hx => ?_⟩
  · show (if x = m then 2 else t.st x) ≤ 2
    have := hi.le2 x
    split <;> omega
  · show (if x = m then 2 else t.st x) = 2 ↔ x ∈ t.ord ++ [m]
    by_cases e : x = m
    · subst e
      simp
    · rw [if_neg e, hi.two x]
      simp [e]
  · show (t.ord ++ [m]).Nodup
    rw [List.nodup_append]
    refine ⟨hi.nodup, by simp, fun a hA b hb e => ?_⟩
    rw [List.mem_singleton] at hb
    subst hb
    subst e
    exact hm hA
  · have hx' : (t.ord ++ [m])[i]? = some x := hx
    have up : ∀ (j : Nat) (n : ByteArray), t.ord[j]? = some n → (t.done m).ord[j]? = some n := fun j n hj => by
      show (t.ord ++ [m])[j]? = some n
      rw [List.getElem?_append_left (List.getElem?_eq_some_iff.1 hj).1]
      exact hj
    rcases Nat.lt_or_ge i t.ord.length with hlt | hge
    · rw [List.getElem?_append_left hlt] at hx'
      obtain ⟨l', ha', hl'⟩ := hi.ahead i x hx'
      exact ⟨l', ha', fun n hn => by
        obtain ⟨j, hj, e⟩ := hl' n hn
        exact ⟨j, hj, up j n e⟩⟩
    · rw [List.getElem?_append_right hge] at hx'
      have hi0 : i - t.ord.length = 0 := by
        rcases Nat.eq_zero_or_pos (i - t.ord.length) with h | h
        · exact h
        · rw [List.getElem?_eq_none (by simp; omega)] at hx'; cases hx'
      rw [hi0] at hx'
      simp at hx'
      subst hx'
      refine ⟨l, ha, fun n hn => ?_⟩
      obtain ⟨j, hj⟩ := List.getElem?_of_mem ((hi.two n).1 (hl n hn))
      exact ⟨j, by have := (List.getElem?_eq_some_iff.1 hj).1; omega, up j n hj⟩
theorem thr_inv {all : ByteArray → Option (List ByteArray)} : ∀ k m t t', t.st m = 0 → Inv all t → thr all k m t = .ok t' → Inv all t' ∧ Gone t t' ∧ t'.st m = 2
  | 0, m, t, t', _, _, h => by cases h
  | k + 1, m, t, t', h0, hi, h => by
    unfold thr at h
    cases ha : all m with
    | none => rw [ha] at h; cases h
    | some l =>
      rw [ha] at h
      cases he : each (thr all k) l (t.set m 1) with
      | err who e => simp only [he] at h; cases h
      | ok t1 =>
        simp only [he, Res.ok.injEq] at h
        subst h
        obtain ⟨i1, g1, e1⟩ := each_inv (thr_inv k) l _ _ (set_inv hi h0) he
        have h1 : t1.st m = 1 := (g1.one m).2 (if_pos rfl)
        refine ⟨done_inv i1 h1 ha e1, ⟨fun x => ?_, ?_⟩, if_pos rfl⟩
        · show (if x = m then 2 else t1.st x) = 1 ↔ t.st x = 1
          by_cases e : x = m
          · subst e; rw [if_pos rfl]; omega
          · rw [if_neg e, g1.one x]
            show (if x = m then 1 else t.st x) = 1 ↔ _
            rw [if_neg e]
        · obtain ⟨x, hx⟩ := g1.more
          exact ⟨x ++ [m], by show t1.ord ++ [m] = _; rw [hx]; show t.ord ++ x ++ [m] = _; rw [List.append_assoc]⟩
theorem thr_last {all : ByteArray → Option (List ByteArray)} {k : Nat} {m : ByteArray} {t t' : Tr} (h : thr all k m t = .ok t') : ∃ x, t'.ord = x ++ [m] := by
  cases k with
  | zero => cases h
  | succ k =>
    unfold thr at h
    cases ha : all m with
    | none => rw [ha] at h; cases h
    | some l =>
      rw [ha] at h
      cases he : each (thr all k) l (t.set m 1) with
      | err who e => simp only [he] at h; cases h
      | ok t1 =>
        simp only [he, Res.ok.injEq] at h
        subst h
        exact ⟨t1.ord, rfl⟩
/-- The order depends on what is needed alone. -/
theorem inv_start (all : ByteArray → Option (List ByteArray)) : Inv all ⟨fun _ => 0, []⟩ := ⟨fun _ => Nat.zero_le _, fun m => by simp, by simp, fun i m h => by simp at h⟩
end Go.Proofs.Ytjanbpchedgoiaa

/- Small words for worlds: a block that is known whole, what a call may write, and the laws of the walk that the kit lacks. No conditions. -/
namespace Go.Proofs.Ytjanbpchedgoiaa
open Go.RowKit

/-- What a call may have done: new blocks, and the blocks of the list written. -/
structure Wr (l : List Nat) (w w' : World) : Prop where
  os : w'.os = w.os
  tape : w'.tape = w.tape
  output : w'.output = w.output
  size : w.heap.size ≤ w'.heap.size
  block : ∀ k, k < w.heap.size → k ∉ l → w'.heap[k]? = w.heap[k]?

theorem Wr.refl (l : List Nat) (w : World) : Wr l w w := ⟨rfl, rfl, rfl, Nat.le_refl _, fun _ _ _ => rfl⟩

/-- Two steps: what the second one writes is on the list, or new since the first. -/
theorem Wr.trans' {l l' : List Nat} {a b c : World} (h : Wr l a b) (k : Wr l' b c) (hl : ∀ x, x ∈ l' → x ∈ l ∨ a.heap.size ≤ x) : Wr l a c :=
  ⟨k.os.trans h.os, k.tape.trans h.tape, k.output.trans h.output, Nat.le_trans h.size k.size, fun i hi hn =>
    (k.block i (Nat.lt_of_lt_of_le hi h.size) (fun hm => by rcases hl i hm with h1 | h1; exact hn h1; omega)).trans (h.block i hi hn)⟩
theorem Wr.trans {l : List Nat} {a b c : World} (h : Wr l a b) (k : Wr l b c) : Wr l a c := h.trans' k (fun _ hx => .inl hx)
theorem Wr.trans0 {l : List Nat} {a b c : World} (h : Wr l a b) (k : Wr [] b c) : Wr l a c := h.trans' k (fun _ hx => by cases hx)
theorem Wr.more {l l' : List Nat} {a b : World} (h : Wr l a b) (hl : ∀ x, x ∈ l → x ∈ l') : Wr l' a b :=
  ⟨h.os, h.tape, h.output, h.size, fun i hi hn => h.block i hi (fun hm => hn (hl i hm))⟩
theorem Wr.nil {l : List Nat} {a b : World} (h : Wr [] a b) : Wr l a b := h.more (fun _ hx => by cases hx)
theorem Wr.drew {l : List Nat} {a w : World} (h : Wr l a w) : Wr l a w.drew := ⟨h.os, h.tape, h.output, h.size, h.block⟩
theorem Wr.drewN {l : List Nat} {a w : World} (h : Wr l a w) (n : Nat) : Wr l a (w.drewN n) := ⟨h.os, h.tape, h.output, h.size, h.block⟩
theorem Wr.alloc {l : List Nat} {a w : World} (h : Wr l a w) (o : Obj) : Wr l a (w.alloc o) :=
  ⟨h.os, h.tape, h.output, by have := h.size; simp; omega, fun i hi hn => (Below.heap_alloc w o i (Nat.lt_of_lt_of_le hi h.size)).trans (h.block i hi hn)⟩
theorem Wr.setCell {l : List Nat} {a w : World} (h : Wr l a w) {p : Addr} (hp : p.block ∈ l ∨ a.heap.size ≤ p.block) (u : Value) : Wr l a (w.setCell p u) :=
  ⟨h.os, h.tape, h.output, by have := h.size; simp; omega, fun i hi hn => (Below.heap_setCell w p u i (fun e => by subst e; rcases hp with h1 | h1; exact hn h1; omega)).trans (h.block i hi hn)⟩
theorem Wr.setOn {l : List Nat} {a w : World} (h : Wr l a w) {b o : Nat} (hp : b ∈ l) (u : Value) : Wr l a (w.setCell ⟨b, o, none⟩ u) := h.setCell (.inl hp) u
theorem Wr.setNew {l : List Nat} {a w : World} (h : Wr l a w) {b o : Nat} (hp : a.heap.size ≤ b) (u : Value) : Wr l a (w.setCell ⟨b, o, none⟩ u) := h.setCell (.inr hp) u
theorem Wr.below {l : List Nat} {w w' : World} (h : Wr l w w') {B : Nat} (hB : B ≤ w.heap.size) (hl : ∀ x, x ∈ l → B ≤ x) : Below B w w' :=
  ⟨h.os, h.tape, h.output, h.size, fun k hk => h.block k (by omega) (fun hm => by have := hl k hm; omega)⟩
theorem Wr.ofBelow {w w' : World} (h : Below w.heap.size w w') : Wr [] w w' := ⟨h.os, h.tape, h.output, h.size, fun k hk _ => h.block k hk⟩
theorem Wr.toBelow {w w' : World} (h : Wr [] w w') : Below w.heap.size w w' := h.below (Nat.le_refl _) (fun _ hx => by cases hx)
theorem Wr.cell {l : List Nat} {w w' : World} (h : Wr l w w') {p : Addr} (hp : p.block < w.heap.size) (hn : p.block ∉ l) : w'.cell? p = w.cell? p :=
  World.cell?_of_block (h.block p.block hp hn)
theorem Wr.cellOf {l : List Nat} {w w' : World} (h : Wr l w w') {p : Addr} {v : Value} (hc : w.cell? p = some v) (hn : p.block ∉ l) : w'.cell? p = some v :=
  (h.cell (World.block_lt_of_cell? w p hc) hn).trans hc
theorem Wr.frozenOf {l : List Nat} {w w' : World} (h : Wr l w w') {p : Addr} {v : Value} {f : Bool} (hc : w.cell? p = some v) (hf : w.frozen? p = f) (hn : p.block ∉ l) : w'.frozen? p = f :=
  (World.frozen?_of_block (h.block p.block (World.block_lt_of_cell? w p hc) hn)).trans hf
theorem Wr.ofGrown {w w' : World} {row : Option Nat} (h : w.grownBy w' row) {l : List Nat} (hr : ∀ k, row = some k → k ∈ l) : Wr l w w' :=
  ⟨h.os, h.tape, h.output, h.size, fun k hk hn => h.block k hk (fun e => hn (hr k e.symm))⟩

theorem Wr.new {l : List Nat} {a b c : World} {g : Nat} (h : Wr l a b) (k : Wr [g] b c) (hg : a.heap.size ≤ g) : Wr l a c :=
  h.trans' k (fun x hx => .inr (by rw [List.mem_singleton] at hx; omega))
theorem Wr.on {l : List Nat} {a b c : World} {g : Nat} (h : Wr l a b) (k : Wr [g] b c) (hg : g ∈ l) : Wr l a c :=
  h.trans' k (fun x hx => .inl (by rw [List.mem_singleton] at hx; subst hx; exact hg))

/-- Block g is just these cells, none frozen. -/
def Blk (w : World) (g : Nat) (t : TypeId) (cs : Array Value) : Prop := w.heap[g]? = some (.cells cs t (0, 0))
section
variable {w w' : World} {g : Nat} {t : TypeId} {cs : Array Value}
theorem Blk.lt (h : Blk w g t cs) : g < w.heap.size := by
  rcases Nat.lt_or_ge g w.heap.size with hlt | hge
  · exact hlt
  · unfold Blk at h; rw [Array.getElem?_eq_none hge] at h; cases h
theorem Blk.cell (h : Blk w g t cs) (i : Nat) : w.cell? ⟨g, i, none⟩ = cs[i]? := cell_of_row w g i cs t (0, 0) h
theorem Blk.frozen (h : Blk w g t cs) (i : Nat) : w.frozen? ⟨g, i, none⟩ = false := by
  unfold Blk at h
  simp [World.frozen?, h]
theorem Blk.new (w : World) (t : TypeId) (cs : Array Value) : Blk (w.alloc (.cells cs t)) w.heap.size t cs := heap_alloc_new w _
theorem Blk.drew (h : Blk w g t cs) : Blk w.drew g t cs := h
theorem Blk.drewN (h : Blk w g t cs) (n : Nat) : Blk (w.drewN n) g t cs := h
theorem Blk.alloc (h : Blk w g t cs) (o : Obj) : Blk (w.alloc o) g t cs := (Below.heap_alloc w o g h.lt).trans h
theorem Blk.set_ (h : Blk w g t cs) (i : Nat) (u : Value) : Blk (w.setCell ⟨g, i, none⟩ u) g t (cs.setIfInBounds i u) := by
  unfold Blk at h ⊢
  simp [World.setCell, Array.getElem?_modify, h]
theorem Blk.far (h : Blk w g t cs) {p : Addr} (hp : g ≠ p.block) (u : Value) : Blk (w.setCell p u) g t cs := (Below.heap_setCell w p u g hp).trans h
theorem Blk.wr {l : List Nat} (h : Blk w g t cs) (hb : Wr l w w') (hg : g ∉ l) : Blk w' g t cs := (hb.block g h.lt hg).trans h
theorem Blk.wr0 (h : Blk w g t cs) (hb : Wr [] w w') : Blk w' g t cs := h.wr hb (by simp)
end

section
variable (P : Program) (w : World)
@[go_sem] theorem run_store_complex' (a : Addr) (m : Mode) (k : FloatKind) (x y : Nat) : (store a (.complex k x y) m).run P w = stored P w a (.complex k x y) m := run_store P w a _ m rfl
@[go_sem] theorem run_store_float' (a : Addr) (m : Mode) (k : FloatKind) (x : Nat) : (store a (.float k x) m).run P w = stored P w a (.float k x) m := run_store P w a _ m rfl
end
section
variable {P : Program} {ops : Array Oper} {Q : Exit → Act → World → Prop} {a : Act} {w : World} {rest : List Oper} {o : Oper}
/-- An operation that yields a value: what it yields, and the world, said by the caller. -/
theorem wpList_val (hg : o.guard = none) (v : Value) (w' : World) (hr : (execOp a.eval o).run P w = .ok (.value v) w') (h : wpList P ops Q rest (a.put o.dst v) w') : wpList P ops Q (o :: rest) a w := by
  refine wpList_plain hg fun K hK => ?_
  unfold Oper.wp
  rw [hr, Oper.upon_value]
  exact hK _ _ h
theorem wpList_build (hg : o.guard = none) (t : TypeId) (parts : Array (Nat × Operand)) (ho : o.op = .build t parts) (ps : Array (Nat × Value)) (hps : (parts.map fun (i, x) => (i, a.eval x)) = ps) (v : Value)
    (hr : (Instr.build t ps).run P w = .ok v w) (h : wpList P ops Q rest (a.put o.dst v) w) : wpList P ops Q (o :: rest) a w := by
  refine wpList_val hg v w ?_ h
  subst hps
  unfold execOp
  rw [ho]
  simp only [Sem.run_bind, hr, Result.andThen]
  rfl
end

/-- A slice of n one-cell elements that reads g. -/
def Row1 (w : World) (v : Value) (n : Nat) (g : Nat → Value) : Prop :=
  ∃ (A : Option Addr) (c : Nat), v = .slice A n c ∧ n ≤ c ∧ c ≤ maxLen ∧ ∀ j, j < n → ∃ b off, A = some ⟨b, off, none⟩ ∧ w.cell? ⟨b, off + j, none⟩ = some (g j)
theorem Row1.wr0 {w w' : World} {v : Value} {n : Nat} {g : Nat → Value} (h : Row1 w v n g) (hw : Wr [] w w') : Row1 w' v n g := by
  obtain ⟨A, c, hv, h1, h2, h3⟩ := h
  refine ⟨A, c, hv, h1, h2, fun j hj => ?_⟩
  obtain ⟨b, off, hA, hc⟩ := h3 j hj
  exact ⟨b, off, hA, hw.cellOf hc (by simp)⟩
theorem Row1.ofOwn {w : World} {base : Nat} {e : TypeId} {v : Value} {n : Nat} {xs : List Value} (h : w.ownsRow base e 1 v n xs) (g : Nat → Value) (hg : ∀ j, j < n → xs[j]? = some (g j)) : Row1 w v n g := by
  rcases h.2 with ⟨rfl, rfl⟩ | ⟨b, cap, cur, rfl, hb, hh, hn, hc, hs, ht⟩
  · exact ⟨none, 0, rfl, Nat.le_refl _, by simp, fun j hj => absurd hj (by omega)⟩
  · refine ⟨_, cap, rfl, hn, hc, fun j hj => ⟨b, 0, rfl, ?_⟩⟩
    rw [Nat.zero_add, cell_of_row w b j cur e (0, 0) hh, ← hg j hj, ← ht]
    rw [List.getElem?_take, if_pos (by omega)]
    simp

theorem bytes_some (s : ByteArray) (h : 0 < s.size) : s.toList.isEmpty = false := by
  rw [ByteArray.toList_eq]
  obtain ⟨⟨l⟩⟩ := s
  cases l with
  | nil => simp [ByteArray.size] at h
  | cons x l => rfl
end Go.Proofs.Ytjanbpchedgoiaa

/- The plain law of KeyParts: sums, keys, and how keys are written. No conditions. -/
namespace Go.Proofs.Ytjanbpchedgoiaa
open Go

def stepN (h c : Nat) : Nat := ((h ^^^ c) * 1099511628211) % 18446744073709551616
def moreN (h : Nat) (l : List Nat) : Nat := l.foldl stepN h
def ofN (h : Nat) : Nat := h ^^^ (h >>> 32)

theorem stepN_lt (h c : Nat) : stepN h c < 18446744073709551616 := Nat.mod_lt _ (by decide)
theorem odd_inj {x y : Nat} (hx : x < 18446744073709551616) (hy : y < 18446744073709551616) (h : (x * 1099511628211) % 18446744073709551616 = (y * 1099511628211) % 18446744073709551616) : x = y := by
  have key : ∀ z, z < 18446744073709551616 → ((z * 1099511628211) % 18446744073709551616 * 14886173955864302971) % 18446744073709551616 = z := by
    intro z hz
    rw [Nat.mod_mul_mod, Nat.mul_assoc, show 1099511628211 * 14886173955864302971 = 1 + 887285111055 * 18446744073709551616 by decide +kernel, Nat.mul_add, Nat.mul_one, ← Nat.mul_assoc, Nat.add_mul_mod_self_right, Nat.mod_eq_of_lt hz]
  rw [← key x hx, ← key y hy, h]
theorem xor_inj_r {a b c : Nat} (h : a ^^^ c = b ^^^ c) : a = b := by
  have := congrArg (fun x => x ^^^ c) h
  simpa [Nat.xor_assoc] using this
theorem xor_inj_l {a b c : Nat} (h : c ^^^ a = c ^^^ b) : a = b := by
  rw [Nat.xor_comm c a, Nat.xor_comm c b] at h
  exact xor_inj_r h
theorem xor_lt {a c : Nat} (ha : a < 18446744073709551616) (hc : c < 256) : a ^^^ c < 18446744073709551616 :=
  Nat.xor_lt_two_pow (n := 64) ha (by omega)
theorem step_h {h h' c : Nat} (a : h < 18446744073709551616) (b : h' < 18446744073709551616) (hc : c < 256) (e : stepN h c = stepN h' c) : h = h' :=
  xor_inj_r (odd_inj (xor_lt a hc) (xor_lt b hc) e)
theorem step_c {h c c' : Nat} (a : h < 18446744073709551616) (hc : c < 256) (hc' : c' < 256) (e : stepN h c = stepN h c') : c = c' :=
  xor_inj_l (odd_inj (xor_lt a hc) (xor_lt a hc') e)
theorem moreN_lt {h : Nat} (hh : h < 18446744073709551616) (l : List Nat) : moreN h l < 18446744073709551616 := by
  induction l generalizing h with
  | nil => exact hh
  | cons c l ih => exact ih (stepN_lt h c)
theorem moreN_append (h : Nat) (l m : List Nat) : moreN h (l ++ m) = moreN (moreN h l) m := by simp [moreN, List.foldl_append]
theorem moreN_inj {l : List Nat} (hl : ∀ c ∈ l, c < 256) {h h' : Nat} (a : h < 18446744073709551616) (b : h' < 18446744073709551616) : moreN h l = moreN h' l ↔ h = h' := by
  constructor
  · induction l generalizing h h' with
    | nil => exact id
    | cons c l ih =>
      intro e
      exact step_h a b (hl c (by simp)) (ih (fun x hx => hl x (by simp [hx])) (stepN_lt h c) (stepN_lt h' c) e)
  · exact fun e => by rw [e]
/-- One byte that is another one. -/
theorem moreN_set {l : List Nat} (hl : ∀ c ∈ l, c < 256) {h : Nat} (a : h < 18446744073709551616) {k c : Nat} (hc : c < 256) (hk : k < l.length) : moreN h (l.set k c) = moreN h l ↔ c = l[k] := by
  induction l generalizing h k with
  | nil => exact absurd hk (by simp)
  | cons x l ih =>
    cases k with
    | zero =>
      rw [List.set_cons_zero]
      show moreN (stepN h c) l = moreN (stepN h x) l ↔ _
      rw [moreN_inj (fun y hy => hl y (by simp [hy])) (stepN_lt h c) (stepN_lt h x)]
      constructor
      · exact fun e => step_c a hc (hl x (by simp)) e
      · intro e
        have e' : c = x := e
        rw [e']
    | succ k =>
      rw [List.set_cons_succ]
      show moreN (stepN h x) (l.set k c) = moreN (stepN h x) l ↔ _
      have := ih (fun y hy => hl y (by simp [hy])) (stepN_lt h x) (by simpa using hk)
      simpa using this
theorem ofN_inj {a b : Nat} (ha : a < 18446744073709551616) (hb : b < 18446744073709551616) : ofN a = ofN b ↔ a = b := by
  have back : ∀ z, z < 18446744073709551616 → ofN z ^^^ (ofN z >>> 32) = z := by
    intro z hz
    have h64 : z >>> 32 >>> 32 = 0 := by
      rw [Nat.shiftRight_eq_div_pow, Nat.shiftRight_eq_div_pow]
      omega
    unfold ofN
    rw [Nat.shiftRight_xor_distrib, h64, Nat.xor_zero, Nat.xor_assoc, Nat.xor_self, Nat.xor_zero]
  constructor
  · intro e
    rw [← back a ha, ← back b hb, e]
  · exact fun e => by rw [e]

/-- A digit, as a byte. -/
def hexN (d : Nat) : UInt8 := if d < 10 then UInt8.ofNat (48 + d) else UInt8.ofNat (87 + d)
/-- A key, written: its last n digits. -/
def textN (k : Nat) : Nat → List UInt8
  | 0 => []
  | n + 1 => hexN (k / 16 ^ n % 16) :: textN k n
theorem textN_len (k : Nat) : ∀ n, (textN k n).length = n
  | 0 => rfl
  | n + 1 => by simp [textN, textN_len k n]
theorem hexN_inj : ∀ d e, d < 16 → e < 16 → hexN d = hexN e → d = e := by
  have : ∀ d e : Fin 16, hexN d = hexN e → d = e := by decide +kernel
  intro d e hd he h
  simpa using this ⟨d, hd⟩ ⟨e, he⟩ h
theorem textN_inj {a b : Nat} : ∀ n, textN a n = textN b n → a % 16 ^ n = b % 16 ^ n
  | 0, _ => by simp [Nat.mod_one]
  | n + 1, h => by
    simp only [textN, List.cons.injEq] at h
    have h1 := hexN_inj _ _ (Nat.mod_lt _ (by decide)) (Nat.mod_lt _ (by decide)) h.1
    have h2 := textN_inj n h.2
    rw [Nat.pow_succ, Nat.mod_mul, Nat.mod_mul, h1, h2]
theorem text_inj {a b : Nat} (ha : a < 18446744073709551616) (hb : b < 18446744073709551616) : textN a 16 = textN b 16 ↔ a = b := by
  constructor
  · intro h
    have := textN_inj 16 h
    rwa [show (16 : Nat) ^ 16 = 18446744073709551616 by decide +kernel, Nat.mod_eq_of_lt ha, Nat.mod_eq_of_lt hb] at this
  · exact fun e => by rw [e]
end Go.Proofs.Ytjanbpchedgoiaa

/- Objects as bytes, and back: the plain laws. No conditions. -/
namespace Go.Proofs.Ytjanbpchedgoiaa
set_option linter.unusedVariables false

/-- So many bytes of a number, the higher first. -/
def numL (n : Nat) : Nat → List UInt8
  | 0 => []
  | k + 1 => UInt8.ofNat (n / 256 ^ k % 256) :: numL n k
theorem numL_len (n : Nat) : ∀ k, (numL n k).length = k
  | 0 => rfl
  | k + 1 => by rw [numL, List.length_cons, numL_len n k]
def truL (b : Bool) : List UInt8 := if b then [1] else [0]
def textL (s : ByteArray) : List UInt8 := numL s.size 1 ++ s.data.toList
def prcL (p : PrcD) : List UInt8 := numL p.at_.toNat 2 ++ numL p.params.toNat 2 ++ numL p.locals.toNat 2 ++ numL p.depth.toNat 2 ++ numL p.level.toNat 1 ++ truL p.func
def packL (m : ModD) : List UInt8 :=
  numL m.code.size 2 ++ m.code.data.toList ++ numL m.procs.length 2 ++ m.procs.flatMap prcL ++ numL m.imports.length 1 ++ m.imports.flatMap (fun i => numL i.toNat 1) ++ numL m.data.toNat 2 ++ numL m.init.length 2 ++ m.init.flatMap (fun i => numL i.toNat 2)
def useL (u : UseD) : List UInt8 := textL u.module ++ numL u.key.toNat 8
def bodyL (o : ObjD) : List UInt8 := textL o.module ++ truL o.main ++ numL o.key.toNat 8 ++ numL o.uses.length 1 ++ o.uses.flatMap useL ++ packL o.mod
def keyL (l : List UInt8) : Nat := ofN (moreN 14695981039346656037 (l.map UInt8.toNat))
def fileL (kind : List UInt8) (l : List UInt8) : List UInt8 := kind ++ numL (keyL l) 8 ++ l

/-- What is left of bytes. -/
structure Rd where
  s : List UInt8
  bad : Bool
def valN (l : List UInt8) : Nat := l.foldl (fun n c => 256 * n + c.toNat) 0
def Rd.raw (r : Rd) (n : Nat) : List UInt8 × Rd := if r.bad = true ∨ r.s.length < n then ([], ⟨r.s, true⟩) else (r.s.take n, ⟨r.s.drop n, false⟩)
def Rd.num (r : Rd) (size : Nat) : Nat × Rd := (valN (r.raw size).1, (r.raw size).2)
def Rd.truth (r : Rd) : Bool × Rd := (decide ((r.num 1).1 = 1), ⟨(r.num 1).2.s, (r.num 1).2.bad || decide (1 < (r.num 1).1)⟩)
def Rd.text (r : Rd) : ByteArray × Rd := (⟨(((r.num 1).2.raw (r.num 1).1).1).toArray⟩, ((r.num 1).2.raw (r.num 1).1).2)
def Rd.list {α : Type} (one : Rd → α × Rd) : Nat → Rd → List α × Rd
  | 0, r => ([], r)
  | n + 1, r => if r.bad = true then ([], r) else ((one r).1 :: (Rd.list one n (one r).2).1, (Rd.list one n (one r).2).2)
def Rd.two (r : Rd) : Int × Rd := (((r.num 2).1 : Int), (r.num 2).2)
def Rd.one (r : Rd) : Int × Rd := (((r.num 1).1 : Int), (r.num 1).2)
def Rd.proc (r : Rd) : PrcD × Rd :=
  let a := r.two
  let b := a.2.two
  let c := b.2.two
  let d := c.2.two
  let e := d.2.one
  let f := e.2.truth
  (⟨a.1, b.1, c.1, d.1, e.1, f.1⟩, f.2)
def Rd.use (r : Rd) : UseD × Rd :=
  let a := r.text
  let b := a.2.num 8
  (⟨a.1, (b.1 : Int)⟩, b.2)
def Rd.module (r : Rd) : ModD × Rd :=
  let a := r.num 2
  let b := a.2.raw a.1
  let c := b.2.num 2
  let d := c.2.list Rd.proc c.1
  let e := d.2.num 1
  let f := e.2.list Rd.one e.1
  let g := f.2.two
  let h := g.2.num 2
  let i := h.2.list Rd.two h.1
  let m : ModD := ⟨⟨b.1.toArray⟩, d.1, f.1, g.1, i.1⟩
  (m, ⟨i.2.s, i.2.bad || !omodB m⟩)
def zeroMod : ModD := ⟨⟨#[]⟩, [], [], 0, []⟩
/-- Which module bytes are, and what stands behind. -/
def unpackP (l : List UInt8) : ModD × List UInt8 × Int := if (Rd.module ⟨l, false⟩).2.bad then (zeroMod, [], 7) else ((Rd.module ⟨l, false⟩).1, (Rd.module ⟨l, false⟩).2.s, 0)
def Rd.obj (r : Rd) : ObjD × Rd :=
  let a := r.text
  let b := a.2.truth
  let c := b.2.num 8
  let d := c.2.num 1
  let e := d.2.list Rd.use d.1
  let f := e.2.module
  (⟨a.1, b.1, (c.1 : Int), e.1, f.1⟩, f.2)
def noObj : ObjD := ⟨⟨#[]⟩, false, 0, [], zeroMod⟩
/-- What stands behind a head, and its key. -/
def headP (kind l : List UInt8) : Option (Nat × List UInt8) := if l.length < 12 ∨ l.take 4 ≠ kind then none else some (valN ((l.drop 4).take 8), l.drop 12)
def objKind : List UInt8 := [83, 69, 80, 79]
def decodeP (l : List UInt8) : ObjD × Int :=
  match headP objKind l with
  | none => (noObj, 7)
  | some (k, s) => if k ≠ keyL s then (noObj, 210) else if (Rd.obj ⟨s, false⟩).2.bad || !((Rd.obj ⟨s, false⟩).2.s).isEmpty || !objB (Rd.obj ⟨s, false⟩).1 then (noObj, 7) else ((Rd.obj ⟨s, false⟩).1, 0)
def encodeP (o : ObjD) : List UInt8 × Int := if objB o then (fileL objKind (bodyL o), 0) else ([], 2)

theorem raw_app (a b : List UInt8) : (Rd.mk (a ++ b) false).raw a.length = (a, ⟨b, false⟩) := by
  unfold Rd.raw
  rw [if_neg (by simp)]
  simp
theorem valN_snoc (l : List UInt8) (c : UInt8) : valN (l ++ [c]) = 256 * valN l + c.toNat := by simp [valN, List.foldl_append]
theorem numL_snoc (n : Nat) : ∀ k, numL n (k + 1) = numL (n / 256) k ++ [UInt8.ofNat (n % 256)]
  | 0 => by simp [numL]
  | k + 1 => by
    rw [numL, numL_snoc n k]
    conv => rhs; rw [numL]
    rw [List.cons_append]
    congr 2
    rw [Nat.div_div_eq_div_mul, Nat.pow_succ, Nat.mul_comm]
theorem toNat_ofNat (n : Nat) (h : n < 256) : (UInt8.ofNat n).toNat = n := by
  rw [UInt8.toNat_ofNat']
  exact Nat.mod_eq_of_lt h
theorem valN_numL : ∀ (k n : Nat), n < 256 ^ k → valN (numL n k) = n
  | 0, n, h => by simp at h; simp [numL, valN, h]
  | k + 1, n, h => by
    rw [numL_snoc, valN_snoc, valN_numL k (n / 256) (by rw [Nat.div_lt_iff_lt_mul (by decide), ← Nat.pow_succ]; exact h), toNat_ofNat _ (Nat.mod_lt _ (by decide))]
    omega
theorem num_app (n k : Nat) (h : n < 256 ^ k) (rest : List UInt8) : (Rd.mk (numL n k ++ rest) false).num k = (n, ⟨rest, false⟩) := by
  unfold Rd.num
  have := raw_app (numL n k) rest
  rw [numL_len] at this
  rw [this]
  simp only [valN_numL k n h]
theorem truth_app (b : Bool) (rest : List UInt8) : (Rd.mk (truL b ++ rest) false).truth = (b, ⟨rest, false⟩) := by
  cases b
  · have := num_app 0 1 (by decide) rest
    have e : truL false = numL 0 1 := rfl
    unfold Rd.truth
    rw [e, this]
    rfl
  · have := num_app 1 1 (by decide) rest
    have e : truL true = numL 1 1 := rfl
    unfold Rd.truth
    rw [e, this]
    rfl
theorem text_app (s : ByteArray) (h : s.size ≤ 255) (rest : List UInt8) : (Rd.mk (textL s ++ rest) false).text = (s, ⟨rest, false⟩) := by
  unfold Rd.text textL
  rw [List.append_assoc, num_app s.size 1 (by omega)]
  have hl : s.data.toList.length = s.size := rfl
  have := raw_app s.data.toList rest
  rw [hl] at this
  rw [this]
theorem list_app {α : Type} {one : Rd → α × Rd} {enc : α → List UInt8} : ∀ (l : List α) (rest : List UInt8), (∀ x ∈ l, ∀ r, one ⟨enc x ++ r, false⟩ = (x, ⟨r, false⟩)) → Rd.list one l.length ⟨l.flatMap enc ++ rest, false⟩ = (l, ⟨rest, false⟩)
  | [], rest, _ => rfl
  | x :: l, rest, h => by
    rw [List.length_cons, Rd.list, if_neg (by simp), List.flatMap_cons, List.append_assoc, h x (by simp)]
    simp only
    rw [list_app l rest (fun y hy => h y (by simp [hy]))]
theorem two_app (n : Int) (h : 0 ≤ n) (h2 : n ≤ 65535) (rest : List UInt8) : (Rd.mk (numL n.toNat 2 ++ rest) false).two = (n, ⟨rest, false⟩) := by
  unfold Rd.two
  rw [num_app n.toNat 2 (by omega)]
  simp only [Int.toNat_of_nonneg h]
theorem one_app (n : Int) (h : 0 ≤ n) (h2 : n ≤ 255) (rest : List UInt8) : (Rd.mk (numL n.toNat 1 ++ rest) false).one = (n, ⟨rest, false⟩) := by
  unfold Rd.one
  rw [num_app n.toNat 1 (by omega)]
  simp only [Int.toNat_of_nonneg h]
theorem inB_iff {n a b : Int} : inB n a b = true ↔ a ≤ n ∧ n ≤ b := by simp [inB]
theorem proc_app (p : PrcD) (m : ModD) (hm : m.code.size ≤ 65535) (h : prcB p m = true) (rest : List UInt8) : (Rd.mk (prcL p ++ rest) false).proc = (p, ⟨rest, false⟩) := by
  unfold prcB at h
  simp only [Bool.and_eq_true, inB_iff] at h
  obtain ⟨⟨⟨⟨h1, h2⟩, h3⟩, h4⟩, h5⟩ := h
  unfold Rd.proc prcL
  simp only [List.append_assoc]
  rw [two_app p.at_ h4.1 (by omega)]
  simp only
  rw [two_app p.params h1.1 h1.2]
  simp only
  rw [two_app p.locals h2.1 h2.2]
  simp only
  rw [two_app p.depth h3.1 h3.2]
  simp only
  rw [one_app p.level (by omega) (by omega)]
  simp only
  rw [truth_app]
/-- Numbers of one word each. -/
def wordsB (m : ModD) : Prop := ∀ i ∈ m.init, 0 ≤ i ∧ i ≤ 65535
theorem module_app (m : ModD) (hw : wordsB m) (h : omodB m = true) (rest : List UInt8) : (Rd.mk (packL m ++ rest) false).module = (m, ⟨rest, false⟩) := by
  have h0 := h
  unfold omodB modB at h
  simp only [Bool.and_eq_true, decide_eq_true_eq, List.all_eq_true, inB_iff] at h
  obtain ⟨⟨a1, a2⟩, ⟨⟨⟨⟨⟨⟨⟨b1, b2⟩, b3⟩, b4⟩, b5⟩, b6⟩, b7⟩, b8⟩⟩ := h
  unfold Rd.module packL
  simp only [List.append_assoc]
  rw [num_app m.code.size 2 (by omega)]
  simp only
  have hl : m.code.data.toList.length = m.code.size := rfl
  have hr := raw_app m.code.data.toList
  simp only [hl] at hr
  rw [hr]
  simp only
  rw [num_app m.procs.length 2 (by omega)]
  simp only
  rw [list_app m.procs _ (fun p hp r => proc_app p _ b1 (b6 p hp) r)]
  simp only
  rw [num_app m.imports.length 1 (by omega)]
  simp only
  rw [list_app (enc := fun i : Int => numL i.toNat 1) m.imports _ (fun i hi r => one_app i (a2 i hi).1 (by have := (a2 i hi).2; omega) r)]
  simp only
  rw [two_app m.data (by omega) b5.2]
  simp only
  rw [num_app m.init.length 2 (by have := b5.1; have := b5.2; omega)]
  simp only
  rw [list_app (enc := fun i : Int => numL i.toNat 2) m.init _ (fun i hi r => two_app i (hw i hi).1 (hw i hi).2 r)]
  simp only [h0]
  rfl
theorem unpack_pack (m : ModD) (hw : wordsB m) (h : omodB m = true) (rest : List UInt8) : unpackP (packL m ++ rest) = (m, rest, 0) := by
  unfold unpackP
  rw [module_app m hw h rest]
  simp
theorem use_app (u : UseD) (hm : u.module.size ≤ 255) (hk : 0 ≤ u.key ∧ u.key < 18446744073709551616) (rest : List UInt8) : (Rd.mk (useL u ++ rest) false).use = (u, ⟨rest, false⟩) := by
  unfold Rd.use useL
  simp only [List.append_assoc]
  rw [text_app u.module hm]
  simp only
  rw [num_app u.key.toNat 8 (by omega)]
  simp only [Int.toNat_of_nonneg hk.1]
/-- Keys of 64 bits, words of 16. -/
structure objW (o : ObjD) : Prop where
  key : 0 ≤ o.key ∧ o.key < 18446744073709551616
  keys : ∀ u ∈ o.uses, 0 ≤ u.key ∧ u.key < 18446744073709551616
  words : wordsB o.mod
theorem usesB_names : ∀ (l : List UseD) (seen : List ByteArray), usesB seen l = true → ∀ u ∈ l, u.module.size ≤ 255
  | [], _, _, u, hu => by cases hu
  | x :: l, seen, h, u, hu => by
    unfold usesB at h
    simp only [Bool.and_eq_true] at h
    rcases List.mem_cons.1 hu with e | e
    · rw [e]
      have := h.1.1
      unfold nameB at this
      simp at this
      exact this.2
    · exact usesB_names l _ h.2 u e
theorem obj_app (o : ObjD) (hw : objW o) (h : objB o = true) : (Rd.mk (bodyL o) false).obj = (o, ⟨[], false⟩) := by
  unfold objB nameB at h
  simp only [Bool.and_eq_true, decide_eq_true_eq] at h
  obtain ⟨⟨⟨⟨⟨n1, n2⟩, u1⟩, i1⟩, u2⟩, m1⟩ := h
  unfold Rd.obj bodyL
  simp only [List.append_assoc]
  rw [text_app o.module n2]
  simp only
  rw [truth_app]
  simp only
  rw [num_app o.key.toNat 8 (by have := hw.key; omega)]
  simp only
  rw [num_app o.uses.length 1 (by omega)]
  simp only
  rw [list_app o.uses _ (fun u hu r => use_app u (usesB_names _ _ u2 u hu) (hw.keys u hu) r)]
  simp only
  have := module_app o.mod hw.words m1 []
  rw [List.append_nil] at this
  rw [this]
  simp only [Int.toNat_of_nonneg hw.key.1]
theorem keyL_lt (l : List UInt8) : keyL l < 256 ^ 8 := by
  unfold keyL ofN
  have h1 := moreN_lt (h := 14695981039346656037) (by decide) (l.map UInt8.toNat)
  refine Nat.xor_lt_two_pow (n := 64) h1 ?_
  rw [Nat.shiftRight_eq_div_pow]
  omega
theorem head_file (kind l : List UInt8) (hk : kind.length = 4) : headP kind (fileL kind l) = some (keyL l, l) := by
  unfold headP fileL
  have h1 : (kind ++ numL (keyL l) 8 ++ l).length = 12 + l.length := by rw [List.length_append, List.length_append, hk, numL_len]
  have h2 : (kind ++ numL (keyL l) 8 ++ l).take 4 = kind := by rw [List.append_assoc, List.take_append, hk, Nat.sub_self, List.take_zero, List.append_nil, ← hk, List.take_length]
  have h3 : (kind ++ numL (keyL l) 8 ++ l).drop 4 = numL (keyL l) 8 ++ l := by rw [List.append_assoc, List.drop_append, hk, Nat.sub_self, List.drop_zero, ← hk, List.drop_length, List.nil_append]
  have h4 : (numL (keyL l) 8 ++ l).take 8 = numL (keyL l) 8 := by
    have := numL_len (keyL l) 8
    rw [List.take_append, this, Nat.sub_self, List.take_zero, List.append_nil, List.take_of_length_le (by omega)]
  have h5 : (kind ++ numL (keyL l) 8 ++ l).drop 12 = l := by
    rw [List.drop_append, List.length_append, hk, numL_len, List.drop_eq_nil_of_le (by rw [List.length_append, hk, numL_len]; omega)]
    simp
  rw [if_neg (by rw [h1, h2]; simp), h3, h4, h5, valN_numL 8 _ (keyL_lt l)]
/-- An object that was written is read. -/
theorem decode_encode (o : ObjD) (hw : objW o) (h : objB o = true) : decodeP (fileL objKind (bodyL o)) = (o, 0) := by
  unfold decodeP
  rw [head_file _ _ rfl]
  simp only
  rw [obj_app o hw h, h]
  simp
/-- Unlike ones have unlike bytes. -/
theorem encode_inj (a b : ObjD) (ha : objW a) (hb : objW b) (ka : objB a = true) (kb : objB b = true) (h : fileL objKind (bodyL a) = fileL objKind (bodyL b)) : a = b := by
  have h1 := decode_encode a ha ka
  rw [h, decode_encode b hb kb] at h1
  injection h1 with h1 _
  exact h1.symm
theorem valN_inj : ∀ (l m : List UInt8), l.length = m.length → valN l = valN m → l = m := by
  have key : ∀ (n : Nat) (l m : List UInt8), l.length = n → m.length = n → valN l = valN m → l = m := by
    intro n
    induction n with
    | zero =>
      intro l m hl hm _
      rw [List.eq_nil_of_length_eq_zero hl, List.eq_nil_of_length_eq_zero hm]
    | succ n ih =>
      intro l m hl hm h
      have dl : l = l.dropLast ++ [l.getLast (by intro e; rw [e] at hl; cases hl)] := (List.dropLast_concat_getLast _).symm
      have dm : m = m.dropLast ++ [m.getLast (by intro e; rw [e] at hm; cases hm)] := (List.dropLast_concat_getLast _).symm
      generalize l.getLast (by intro e; rw [e] at hl; cases hl) = x at dl
      generalize m.getLast (by intro e; rw [e] at hm; cases hm) = y at dm
      rw [dl, dm, valN_snoc, valN_snoc] at h
      have hx := x.toNat_lt
      have hy := y.toNat_lt
      have e1 : valN l.dropLast = valN m.dropLast := by omega
      have e2 : x.toNat = y.toNat := by omega
      rw [dl, dm, ih l.dropLast m.dropLast (by simp [hl]) (by simp [hm]) e1, UInt8.toNat_inj.1 e2]
  exact fun l m hl => key m.length l m hl rfl
theorem set_keyL (l : List UInt8) (k : Nat) (hk : k < l.length) (c : UInt8) : keyL (l.set k c) = keyL l ↔ c = l[k] := by
  unfold keyL
  have hlt := fun m : List UInt8 => moreN_lt (h := 14695981039346656037) (by decide) (m.map UInt8.toNat)
  rw [ofN_inj (hlt _) (hlt _), List.map_set, moreN_set (l := l.map UInt8.toNat) (fun x hx => by obtain ⟨b, _, rfl⟩ := List.mem_map.1 hx; exact b.toNat_lt) (by decide) c.toNat_lt (by simpa using hk), List.getElem_map]
  exact UInt8.toNat_inj
/-- A file in which one byte is another one. -/
theorem head_set (kind l : List UInt8) (hk : kind.length = 4) (at_ : Nat) (c : UInt8) (hat : at_ < (fileL kind l).length) (hc : c ≠ (fileL kind l)[at_]) : headP kind ((fileL kind l).set at_ c) = none ∨ ∃ k s, headP kind ((fileL kind l).set at_ c) = some (k, s) ∧ k ≠ keyL s := by
  have hh := head_file kind l hk
  generalize hf : fileL kind l = f at *
  unfold headP at hh ⊢
  rw [List.length_set]
  by_cases h1 : f.length < 12 ∨ f.take 4 ≠ kind
  · rw [if_pos h1] at hh; cases hh
  · rw [if_neg h1] at hh
    have h12 : ¬ f.length < 12 := fun h => h1 (.inl h)
    have htk : f.take 4 = kind := Classical.byContradiction fun h => h1 (.inr h)
    simp only [Option.some.injEq, Prod.mk.injEq] at hh
    obtain ⟨hv, hd⟩ := hh
    by_cases c4 : at_ < 4
    · left
      rw [if_pos]
      right
      rw [List.take_set, htk]
      intro e
      have := congrArg (fun x : List UInt8 => x[at_]?) e
      simp only [List.getElem?_set_self (show at_ < kind.length by omega)] at this
      have e2 : kind[at_]? = some f[at_] := by rw [← htk, List.getElem?_take, if_pos c4, List.getElem?_eq_getElem hat]
      rw [e2] at this
      injection this with this
      exact hc this
    · right
      have htk' : (f.set at_ c).take 4 = kind := by
        rw [List.take_set, htk, List.set_eq_of_length_le (by omega)]
      rw [if_neg (by rw [htk']; simp; omega)]
      refine ⟨_, _, rfl, ?_⟩
      by_cases c12 : at_ < 12
      · have e1 : (f.set at_ c).drop 12 = l := by rw [List.drop_set, if_pos c12]; exact hd
        rw [e1, ← hv]
        intro e
        rw [List.drop_set, if_neg c4, List.take_set] at e
        have e3 := valN_inj _ _ (by simp) e
        have := congrArg (fun x : List UInt8 => x[at_ - 4]?) e3
        have hlen : at_ - 4 < ((f.drop 4).take 8).length := by rw [List.length_take, List.length_drop]; omega
        simp only [List.getElem?_set_self hlen] at this
        have e2 : ((f.drop 4).take 8)[at_ - 4]? = some f[at_] := by rw [List.getElem?_take, if_pos (by omega), List.getElem?_drop, show 4 + (at_ - 4) = at_ by omega, List.getElem?_eq_getElem hat]
        rw [e2] at this
        injection this with this
        exact hc this
      · have e1 : (f.set at_ c).drop 12 = l.set (at_ - 12) c := by rw [List.drop_set, if_neg c12, hd]
        have e2 : ((f.set at_ c).drop 4).take 8 = (f.drop 4).take 8 := by
          rw [List.drop_set, if_neg c4, List.take_set, List.set_eq_of_length_le (by rw [List.length_take, List.length_drop]; omega)]
        rw [e1, e2, hv]
        have hl : at_ - 12 < l.length := by rw [← hd, List.length_drop]; omega
        intro e
        have := (set_keyL l (at_ - 12) hl c).1 e.symm
        have e3 : l[at_ - 12]? = some f[at_] := by rw [← hd, List.getElem?_drop, show 12 + (at_ - 12) = at_ by omega, List.getElem?_eq_getElem hat]
        rw [List.getElem?_eq_getElem hl] at e3
        injection e3 with e3
        exact hc (this.trans e3)
theorem decode_set (l : List UInt8) (at_ : Nat) (c : UInt8) (hat : at_ < (fileL objKind l).length) (hc : c ≠ (fileL objKind l)[at_]) : (decodeP ((fileL objKind l).set at_ c)).2 ≠ 0 := by
  unfold decodeP
  rcases head_set objKind l rfl at_ c hat hc with h | ⟨k, s, h, hk⟩
  · rw [h]; exact (by decide : (7 : Int) ≠ 0)
  · rw [h]
    simp only
    rw [if_pos hk]
    exact (by decide : (210 : Int) ≠ 0)
end Go.Proofs.Ytjanbpchedgoiaa

/- Slices that read as lists, and a type as it lies in memory. No conditions. -/
namespace Go.Proofs.Ytjanbpchedgoiaa
open Go.RowKit
set_option linter.unusedVariables false

/-- A slice of n things of some cells each that reads xs; it lies in blocks that P lets in. -/
def Sl (w : World) (P : Nat → Prop) (size : Nat) (v : Value) (n : Nat) (xs : List Value) : Prop :=
  ∃ (A : Option Addr) (c : Nat), v = .slice A n c ∧ n ≤ c ∧ c ≤ maxLen ∧ xs.length = n * size ∧ ∀ (j : Nat) (u : Value), xs[j]? = some u → ∃ b off, A = some ⟨b, off, none⟩ ∧ P b ∧ w.cell? ⟨b, off + j, none⟩ = some u

section
variable {w w' : World} {P Q : Nat → Prop} {size n : Nat} {v : Value} {xs : List Value}
theorem Sl.nil (w : World) (P : Nat → Prop) (size : Nat) : Sl w P size (.slice none 0 0) 0 [] := ⟨none, 0, rfl, Nat.le_refl _, by simp, by simp, fun j u h => by simp at h⟩
theorem Sl.keep {l : List Nat} (h : Sl w P size v n xs) (hw : Wr l w w') (hP : ∀ b, P b → b ∉ l) : Sl w' P size v n xs := by
  obtain ⟨A, c, hv, h1, h2, h3, h4⟩ := h
  refine ⟨A, c, hv, h1, h2, h3, fun j u hj => ?_⟩
  obtain ⟨b, off, hA, hb, hc⟩ := h4 j u hj
  exact ⟨b, off, hA, hb, hw.cellOf hc (hP b hb)⟩
theorem Sl.wr0 (h : Sl w P size v n xs) (hw : Wr [] w w') : Sl w' P size v n xs := h.keep hw (fun _ _ => by simp)
theorem Sl.into (h : Sl w P size v n xs) (hP : ∀ b, P b → b < w.heap.size → Q b) : Sl w Q size v n xs := by
  obtain ⟨A, c, hv, h1, h2, h3, h4⟩ := h
  refine ⟨A, c, hv, h1, h2, h3, fun j u hj => ?_⟩
  obtain ⟨b, off, hA, hb, hc⟩ := h4 j u hj
  exact ⟨b, off, hA, hP b hb (World.block_lt_of_cell? w _ hc), hc⟩
theorem Sl.mono (h : Sl w P size v n xs) (hP : ∀ b, P b → Q b) : Sl w Q size v n xs := h.into fun b hb _ => hP b hb
theorem Sl.ofOwn {base : Nat} {e : TypeId} (h : w.ownsRow base e size v n xs) (hP : ∀ b, v.ownBlock = some b → P b) : Sl w P size v n xs := by
  have hl := h.1
  rcases h.2 with ⟨rfl, rfl⟩ | ⟨b, cap, cur, rfl, hb, hh, hn, hc, hs, ht⟩
  · have hx : xs = [] := List.eq_nil_of_length_eq_zero (by simpa using hl)
    subst hx
    exact ⟨none, 0, rfl, Nat.le_refl _, by simp, hl, fun j u h => by simp at h⟩
  · refine ⟨_, cap, rfl, hn, hc, hl, fun j u hj => ⟨b, 0, rfl, hP b rfl, ?_⟩⟩
    have := h.cells (g := b) rfl j u hj
    rw [Addr.add_lit] at this
    exact this
/-- The cell of a thing's field. -/
theorem Sl.at_ (h : Sl w P size v n xs) {j : Nat} {u : Value} (hj : xs[j]? = some u) : ∃ b off c, v = .slice (some ⟨b, off, none⟩) n c ∧ n ≤ c ∧ c ≤ maxLen ∧ P b ∧ w.cell? ⟨b, off + j, none⟩ = some u := by
  obtain ⟨A, c, hv, h1, h2, h3, h4⟩ := h
  obtain ⟨b, off, rfl, hb, hc⟩ := h4 j u hj
  exact ⟨b, off, c, hv, h1, h2, hb, hc⟩
theorem Sl.len (h : Sl w P size v n xs) : xs.length = n * size := by
  obtain ⟨A, c, hv, h1, h2, h3, h4⟩ := h
  exact h3
theorem Sl.form (h : Sl w P size v n xs) : ∃ A c, v = .slice A n c ∧ n ≤ c ∧ c ≤ maxLen := by
  obtain ⟨A, c, hv, h1, h2, h3, h4⟩ := h
  exact ⟨A, c, hv, h1, h2⟩
/-- A thing's cells, all at one address. -/
theorem Sl.thing (h : Sl w P size v n xs) (hs : 0 < size) {i : Nat} (hi : i < n) : ∃ b off c, v = .slice (some ⟨b, off, none⟩) n c ∧ n ≤ c ∧ c ≤ maxLen ∧ P b ∧
    ∀ j u, j < size → xs[i * size + j]? = some u → w.cell? ⟨b, off + (i * size + j), none⟩ = some u := by
  have hl := h.len
  obtain ⟨A, c, hv, h1, h2, h3, h4⟩ := h
  have h0 : 0 < xs.length := by rw [hl]; exact Nat.mul_pos (by omega) hs
  obtain ⟨b, off, rfl, hb, hc⟩ := h4 0 xs[0] (List.getElem?_eq_getElem h0)
  refine ⟨b, off, c, hv, h1, h2, hb, fun j u hj hu => ?_⟩
  obtain ⟨b', off', e, hb', hc'⟩ := h4 _ u hu
  injection e with e
  injection e with e1 e2
  subst e1 e2
  exact hc'
end

/-- 'append' of a slice behind a row of the call's own. -/
theorem run_append_sl {P : Program} (w : World) (base : Nat) (t ty e : TypeId) (i : TypeInfo) (z : Value) (size bytes : Nat) (ht : P.underlying t = some (.slice e)) (hi : P.info? e = some i) (hz : i.zero = some z)
    (hsize : i.size = size) (hby : i.bytes = bytes) (hzs : z.cells.size = size) (hsz : 0 < size)
    (v : Value) (n : Nat) (xs : List Value) (hown : w.ownsRow base e size v n xs) (Q : Nat → Prop) (vs : Value) (m : Nat) (news : List Value) (hr : Sl w Q size vs m news) (h1 : ∀ u ∈ news, u.oneCell' = true)
    (h63 : n + m ≤ maxLen) (hbytes : (n + m) * bytes ≤ 140737488355328) (hbase : base ≤ w.heap.size) :
    ∃ v' w', (Builtin.append_ #[t, t] ty #[v, vs]).run P w = .ok v' w' ∧ w'.ownsRow base e size v' (n + m) (xs ++ news) ∧ w.grownBy w' v.ownBlock ∧ (v'.ownBlock = v.ownBlock ∨ v'.ownBlock = some w.heap.size) := by
  obtain ⟨A, c, rfl, _, _, hl, hc⟩ := hr
  rcases Nat.eq_zero_or_pos m with h0 | h0
  · subst h0
    have hn : news = [] := List.eq_nil_of_length_eq_zero (by simpa using hl)
    subst hn
    have hrun : (Builtin.append_ #[t, t] ty #[v, .slice A 0 c]).run P w = .ok v w := by
      rcases hown.2 with ⟨rfl, rfl⟩ | ⟨g, cap, cur, rfl, _, _, hnc, _⟩
      · cases A <;> simp [Builtin.append_, run_underlying ht, sizeOf, typeInfo, hi, Builtin.lenOf, Builtin.firstCells, loadCells, loadCellsFrom, storeCells]
      · cases A <;> simp [Builtin.append_, run_underlying ht, sizeOf, typeInfo, hi, Builtin.lenOf, Builtin.firstCells, hnc, loadCells, loadCellsFrom, storeCells]
    exact ⟨v, w, hrun, by simpa using hown, World.grownBy.refl w _, .inl rfl⟩
  · have hnl : 0 < news.length := by rw [hl]; exact Nat.mul_pos h0 hsz
    obtain ⟨b, off, rfl, _, _⟩ := hc 0 news[0] (List.getElem?_eq_getElem hnl)
    have hcells : ∀ j u, news[j]? = some u → w.cell? ((⟨b, off, none⟩ : Addr).add j) = some u := by
      intro j u hu
      obtain ⟨b', off', e', _, hc'⟩ := hc j u hu
      injection e' with e'
      injection e' with e1 e2
      subst e1 e2
      rw [Addr.add_lit]
      exact hc'
    obtain ⟨v', w', hrun, h2, h3, _, h5⟩ := run_append_own_at (P := P) w base t ty e i z size bytes ht hi hz hsize hby hzs hsz v n xs hown ⟨b, off, none⟩ m c news hl hcells h1 h63 hbytes hbase
    exact ⟨v', w', hrun, h2, h3, h5⟩

section
variable {P : Program} {a : Act} {Q : Exit → Act → World → Prop} {w : World} {o : Oper}
/-- 'append' in a walk, by its run. -/
theorem wp_append_run {K : Act → World → Prop} (s x : Operand) (t : TypeId) (ho : o.op = .call { callee := .builtin .append, args := #[s, x], argTypes := #[t, t] }) (vs vx : Value) (hs : a.eval s = vs) (hx : a.eval x = vx) (v' : Value) (w' : World)
    (hrun : (Builtin.append_ #[t, t] o.type #[vs, vx]).run P w = .ok v' w') (h : K (a.put o.dst v') w') : o.wp P a w K Q := by
  unfold Oper.wp execOp
  simp only [ho, resolve, invoke, builtin, Sem.run_bind, Sem.run_pure, Result.andThen_ok, List.map_toArray, List.map_cons, List.map_nil, hs, hx, hrun]
  exact h
theorem wpList_append_run {ops : Array Oper} {rest : List Oper} (hgd : o.guard = none) (s x : Operand) (t : TypeId) (ho : o.op = .call { callee := .builtin .append, args := #[s, x], argTypes := #[t, t] }) (vs vx : Value) (hs : a.eval s = vs) (hx : a.eval x = vx) (v' : Value) (w' : World)
    (hrun : (Builtin.append_ #[t, t] o.type #[vs, vx]).run P w = .ok v' w') (h : wpList P ops Q rest (a.put o.dst v') w') : wpList P ops Q (o :: rest) a w :=
  wpList_plain hgd fun _ hK => wp_append_run s x t ho vs vx hs hx v' w' hrun (hK _ _ h)
theorem step_append_run {ops : Array Oper} {K : Act → World → Prop} {E : Prop} (hgd : o.guard = none) (s x : Operand) (t : TypeId) (ho : o.op = .call { callee := .builtin .append, args := #[s, x], argTypes := #[t, t] }) (vs vx : Value) (hs : a.eval s = vs) (hx : a.eval x = vx) (v' : Value) (w' : World)
    (hrun : (Builtin.append_ #[t, t] o.type #[vs, vx]).run P w = .ok v' w') (h : K (a.put o.dst v') w') : if Region.wanted o (yielded ops a.tmps) = true then Oper.wp P o a w K Q else E := by
  have hw : Region.wanted o (yielded ops a.tmps) = true := by simp [Region.wanted, hgd]
  rw [if_pos hw]
  exact wp_append_run s x t ho vs vx hs hx v' w' hrun h
end

/-- The row's own block, as a list. -/
def ownL (v : Value) : List Nat := match v.ownBlock with | some k => [k] | none => []
theorem mem_ownL {v : Value} {k : Nat} : k ∈ ownL v ↔ v.ownBlock = some k := by
  unfold ownL
  cases h : v.ownBlock with
  | none => simp
  | some g => simp; exact ⟨fun e => e.symm, fun e => e.symm⟩
theorem Wr.ofGrownOwn {w w' : World} {v : Value} (h : w.grownBy w' v.ownBlock) : Wr (ownL v) w w' := Wr.ofGrown h fun k hk => mem_ownL.2 hk
end Go.Proofs.Ytjanbpchedgoiaa

/- slices.Clone, walked at five kinds of lists. Conditions: what is copied takes no more room than an address can reach. -/
namespace Go.Proofs.Ytjanbpchedgoiaa
open Go.RowKit
set_option linter.unusedVariables false
set_option linter.unusedSimpArgs false

/-- A copy, in memory of its own. -/
def CloneP (w : World) (size n : Nat) (xs : List Value) (e : Ending) (w' : World) : Prop := ∃ v', e = .returned v' ∧ Wr [] w w' ∧ Sl w' (fun b => w.heap.size ≤ b) size v' n xs
/-- The same, of a row of the call's own. -/
def CloneO (w : World) (t : TypeId) (size n : Nat) (xs : List Value) (e : Ending) (w' : World) : Prop := ∃ v', e = .returned v' ∧ Wr [] w w' ∧ w'.ownsRow w.heap.size t size v' n xs
theorem CloneO.toP {w w' : World} {t : TypeId} {size n : Nat} {xs : List Value} {e : Ending} (h : CloneO w t size n xs e w') : CloneP w size n xs e w' := by
  obtain ⟨v', he, r, ho⟩ := h
  exact ⟨v', he, r, Sl.ofOwn ho fun b hb => (ho.lt b hb).1⟩

theorem info_str : (Try.prog.info? 9).map (fun i => (i.zero, i.size, i.bytes)) = some (some (.string ⟨#[]⟩), 1, 16) := by kernel_rfl
set_option maxHeartbeats 400000 in
theorem cloneO_str (w : World) (P : Nat → Prop) (v : Value) (n : Nat) (xs : List Value) (h : Sl w P 1 v n xs) (h1 : ∀ u ∈ xs, u.oneCell' = true) (hb : n * 16 ≤ 140737488355328) :
    Calls Try.prog 35 #[v] w (CloneO w 9 1 n xs) := by
  obtain ⟨i0, hi0, hz0, hz1, hz2⟩ := info_parts info_str
  have hm : 0 + n ≤ maxLen := by obtain ⟨A, c, _, k1, k2⟩ := h.form; omega
  have H := Lib.hid h
  have hl := Lib.hid h.len
  obtain ⟨A, c, rfl, k1, k2⟩ := h.form
  clear h k1 k2
  cases A with
  | none =>
    clear hi0 hz0 hz1 hz2 hb hm h1
    have he := fun (w : World) => Lib.run_eql_slice_nil (P := Try.prog) w 50 9 none n c 0 0 Try.underlying50
    go_enter Try.func35, Try.ntmps35
    go_wp2_with fail
    go_ret
    have h0 : xs = [] := by
      obtain ⟨A, c, e, _, _, _, hc⟩ := H.out
      cases xs with
      | nil => rfl
      | cons x l =>
        obtain ⟨b, off, e', _, _⟩ := hc 0 x rfl
        subst e'
        injection e with e
        cases e
    subst h0
    have hn : n = 0 := by have := hl.out; simp at this; omega
    subst hn
    exact ⟨_, rfl, Wr.refl _ _, World.ownsRow_nil w _ _ _⟩
  | some ad =>
    obtain ⟨v1, w1, hrun, hown, hg, hat⟩ := run_append_sl (P := Try.prog) (w.alloc (.cells #[] 9)) w.heap.size 50 50 9 i0 _ 1 16 Try.underlying50 hi0 hz0 hz1 hz2 rfl (by omega)
      (.slice (some ⟨w.heap.size, 0, none⟩) 0 0) 0 [] (World.ownsRow_made w #[] 0 (Nat.le_refl _) (by simp) rfl) P (.slice (some ad) n c) n xs (H.out.wr0 ((Wr.refl _ _).alloc _)) h1 hm (by omega) (by simp)
    simp only [Nat.zero_add, List.nil_append] at hown
    have HG := Lib.hid hg
    have HO := Lib.hid hown
    clear hi0 hz0 hz1 hz2 hm hb h1 hg hat hown
    have he := fun (w : World) => Lib.run_eql_slice_nil (P := Try.prog) w 50 9 (some ad) n c 0 0 Try.underlying50
    go_enter Try.func35, Try.ntmps35
    go_wp2_with (at_builtin; refine wpList_append_run rfl _ _ _ rfl _ _ rfl rfl _ _ hrun ?_)
    go_ret
    refine ⟨_, rfl, ?_, HO.out⟩
    exact ((Wr.refl [] w).alloc _).trans' (Wr.ofGrown HG.out (l := [w.heap.size]) (fun k hk => by simp [Value.ownBlock] at hk; simp [hk])) (fun x hx => .inr (by simp at hx; omega))
theorem clone_str (w : World) (P : Nat → Prop) (v : Value) (n : Nat) (xs : List Value) (h : Sl w P 1 v n xs) (h1 : ∀ u ∈ xs, u.oneCell' = true) (hb : n * 16 ≤ 140737488355328) :
    Calls Try.prog 35 #[v] w (CloneP w 1 n xs) := (cloneO_str w P v n xs h h1 hb).mono fun _ _ k => k.toP

theorem info_fld : (Try.prog.info? 75).map (fun i => (i.zero, i.size, i.bytes)) = some (some (.agg #[.string ⟨#[]⟩, .int .i64 0, .int .i64 0]), 3, 32) := by kernel_rfl
set_option maxHeartbeats 400000 in
theorem cloneO_fld (w : World) (P : Nat → Prop) (v : Value) (n : Nat) (xs : List Value) (h : Sl w P 3 v n xs) (h1 : ∀ u ∈ xs, u.oneCell' = true) (hb : n * 32 ≤ 140737488355328) :
    Calls Try.prog 36 #[v] w (CloneO w 75 3 n xs) := by
  obtain ⟨i0, hi0, hz0, hz1, hz2⟩ := info_parts info_fld
  have hm : 0 + n ≤ maxLen := by obtain ⟨A, c, _, k1, k2⟩ := h.form; omega
  have H := Lib.hid h
  have hl := Lib.hid h.len
  obtain ⟨A, c, rfl, k1, k2⟩ := h.form
  clear h k1 k2
  cases A with
  | none =>
    clear hi0 hz0 hz1 hz2 hb hm h1
    have he := fun (w : World) => Lib.run_eql_slice_nil (P := Try.prog) w 51 75 none n c 0 0 Try.underlying51
    go_enter Try.func36, Try.ntmps36
    go_wp2_with fail
    go_ret
    have h0 : xs = [] := by
      obtain ⟨A, c, e, _, _, _, hc⟩ := H.out
      cases xs with
      | nil => rfl
      | cons x l =>
        obtain ⟨b, off, e', _, _⟩ := hc 0 x rfl
        subst e'
        injection e with e
        cases e
    subst h0
    have hn : n = 0 := by have := hl.out; simp at this; omega
    subst hn
    exact ⟨_, rfl, Wr.refl _ _, World.ownsRow_nil w _ _ _⟩
  | some ad =>
    obtain ⟨v1, w1, hrun, hown, hg, hat⟩ := run_append_sl (P := Try.prog) (w.alloc (.cells #[] 75)) w.heap.size 51 51 75 i0 _ 3 32 Try.underlying51 hi0 hz0 hz1 hz2 rfl (by omega)
      (.slice (some ⟨w.heap.size, 0, none⟩) 0 0) 0 [] (World.ownsRow_made w #[] 0 (Nat.le_refl _) (by simp) rfl) P (.slice (some ad) n c) n xs (H.out.wr0 ((Wr.refl _ _).alloc _)) h1 hm (by omega) (by simp)
    simp only [Nat.zero_add, List.nil_append] at hown
    have HG := Lib.hid hg
    have HO := Lib.hid hown
    clear hi0 hz0 hz1 hz2 hm hb h1 hg hat hown
    have he := fun (w : World) => Lib.run_eql_slice_nil (P := Try.prog) w 51 75 (some ad) n c 0 0 Try.underlying51
    go_enter Try.func36, Try.ntmps36
    go_wp2_with (at_builtin; refine wpList_append_run rfl _ _ _ rfl _ _ rfl rfl _ _ hrun ?_)
    go_ret
    refine ⟨_, rfl, ?_, HO.out⟩
    exact ((Wr.refl [] w).alloc _).trans' (Wr.ofGrown HG.out (l := [w.heap.size]) (fun k hk => by simp [Value.ownBlock] at hk; simp [hk])) (fun x hx => .inr (by simp at hx; omega))
theorem clone_fld (w : World) (P : Nat → Prop) (v : Value) (n : Nat) (xs : List Value) (h : Sl w P 3 v n xs) (h1 : ∀ u ∈ xs, u.oneCell' = true) (hb : n * 32 ≤ 140737488355328) :
    Calls Try.prog 36 #[v] w (CloneP w 3 n xs) := (cloneO_fld w P v n xs h h1 hb).mono fun _ _ k => k.toP

theorem info_par : (Try.prog.info? 77).map (fun i => (i.zero, i.size, i.bytes)) = some (some (.agg #[.bool false, .int .i64 0]), 2, 16) := by kernel_rfl
set_option maxHeartbeats 400000 in
theorem cloneO_par (w : World) (P : Nat → Prop) (v : Value) (n : Nat) (xs : List Value) (h : Sl w P 2 v n xs) (h1 : ∀ u ∈ xs, u.oneCell' = true) (hb : n * 16 ≤ 140737488355328) :
    Calls Try.prog 38 #[v] w (CloneO w 77 2 n xs) := by
  obtain ⟨i0, hi0, hz0, hz1, hz2⟩ := info_parts info_par
  have hm : 0 + n ≤ maxLen := by obtain ⟨A, c, _, k1, k2⟩ := h.form; omega
  have H := Lib.hid h
  have hl := Lib.hid h.len
  obtain ⟨A, c, rfl, k1, k2⟩ := h.form
  clear h k1 k2
  cases A with
  | none =>
    clear hi0 hz0 hz1 hz2 hb hm h1
    have he := fun (w : World) => Lib.run_eql_slice_nil (P := Try.prog) w 53 77 none n c 0 0 Try.underlying53
    go_enter Try.func38, Try.ntmps38
    go_wp2_with fail
    go_ret
    have h0 : xs = [] := by
      obtain ⟨A, c, e, _, _, _, hc⟩ := H.out
      cases xs with
      | nil => rfl
      | cons x l =>
        obtain ⟨b, off, e', _, _⟩ := hc 0 x rfl
        subst e'
        injection e with e
        cases e
    subst h0
    have hn : n = 0 := by have := hl.out; simp at this; omega
    subst hn
    exact ⟨_, rfl, Wr.refl _ _, World.ownsRow_nil w _ _ _⟩
  | some ad =>
    obtain ⟨v1, w1, hrun, hown, hg, hat⟩ := run_append_sl (P := Try.prog) (w.alloc (.cells #[] 77)) w.heap.size 53 53 77 i0 _ 2 16 Try.underlying53 hi0 hz0 hz1 hz2 rfl (by omega)
      (.slice (some ⟨w.heap.size, 0, none⟩) 0 0) 0 [] (World.ownsRow_made w #[] 0 (Nat.le_refl _) (by simp) rfl) P (.slice (some ad) n c) n xs (H.out.wr0 ((Wr.refl _ _).alloc _)) h1 hm (by omega) (by simp)
    simp only [Nat.zero_add, List.nil_append] at hown
    have HG := Lib.hid hg
    have HO := Lib.hid hown
    clear hi0 hz0 hz1 hz2 hm hb h1 hg hat hown
    have he := fun (w : World) => Lib.run_eql_slice_nil (P := Try.prog) w 53 77 (some ad) n c 0 0 Try.underlying53
    go_enter Try.func38, Try.ntmps38
    go_wp2_with (at_builtin; refine wpList_append_run rfl _ _ _ rfl _ _ rfl rfl _ _ hrun ?_)
    go_ret
    refine ⟨_, rfl, ?_, HO.out⟩
    exact ((Wr.refl [] w).alloc _).trans' (Wr.ofGrown HG.out (l := [w.heap.size]) (fun k hk => by simp [Value.ownBlock] at hk; simp [hk])) (fun x hx => .inr (by simp at hx; omega))
theorem clone_par (w : World) (P : Nat → Prop) (v : Value) (n : Nat) (xs : List Value) (h : Sl w P 2 v n xs) (h1 : ∀ u ∈ xs, u.oneCell' = true) (hb : n * 16 ≤ 140737488355328) :
    Calls Try.prog 38 #[v] w (CloneP w 2 n xs) := (cloneO_par w P v n xs h h1 hb).mono fun _ _ k => k.toP

theorem info_i64 : (Try.prog.info? 2).map (fun i => (i.zero, i.size, i.bytes)) = some (some (.int .i64 0), 1, 8) := by kernel_rfl
set_option maxHeartbeats 400000 in
theorem cloneO_i64 (w : World) (P : Nat → Prop) (v : Value) (n : Nat) (xs : List Value) (h : Sl w P 1 v n xs) (h1 : ∀ u ∈ xs, u.oneCell' = true) (hb : n * 8 ≤ 140737488355328) :
    Calls Try.prog 39 #[v] w (CloneO w 2 1 n xs) := by
  obtain ⟨i0, hi0, hz0, hz1, hz2⟩ := info_parts info_i64
  have hm : 0 + n ≤ maxLen := by obtain ⟨A, c, _, k1, k2⟩ := h.form; omega
  have H := Lib.hid h
  have hl := Lib.hid h.len
  obtain ⟨A, c, rfl, k1, k2⟩ := h.form
  clear h k1 k2
  cases A with
  | none =>
    clear hi0 hz0 hz1 hz2 hb hm h1
    have he := fun (w : World) => Lib.run_eql_slice_nil (P := Try.prog) w 91 2 none n c 0 0 Try.underlying91
    go_enter Try.func39, Try.ntmps39
    go_wp2_with fail
    go_ret
    have h0 : xs = [] := by
      obtain ⟨A, c, e, _, _, _, hc⟩ := H.out
      cases xs with
      | nil => rfl
      | cons x l =>
        obtain ⟨b, off, e', _, _⟩ := hc 0 x rfl
        subst e'
        injection e with e
        cases e
    subst h0
    have hn : n = 0 := by have := hl.out; simp at this; omega
    subst hn
    exact ⟨_, rfl, Wr.refl _ _, World.ownsRow_nil w _ _ _⟩
  | some ad =>
    obtain ⟨v1, w1, hrun, hown, hg, hat⟩ := run_append_sl (P := Try.prog) (w.alloc (.cells #[] 2)) w.heap.size 91 91 2 i0 _ 1 8 Try.underlying91 hi0 hz0 hz1 hz2 rfl (by omega)
      (.slice (some ⟨w.heap.size, 0, none⟩) 0 0) 0 [] (World.ownsRow_made w #[] 0 (Nat.le_refl _) (by simp) rfl) P (.slice (some ad) n c) n xs (H.out.wr0 ((Wr.refl _ _).alloc _)) h1 hm (by omega) (by simp)
    simp only [Nat.zero_add, List.nil_append] at hown
    have HG := Lib.hid hg
    have HO := Lib.hid hown
    clear hi0 hz0 hz1 hz2 hm hb h1 hg hat hown
    have he := fun (w : World) => Lib.run_eql_slice_nil (P := Try.prog) w 91 2 (some ad) n c 0 0 Try.underlying91
    go_enter Try.func39, Try.ntmps39
    go_wp2_with (at_builtin; refine wpList_append_run rfl _ _ _ rfl _ _ rfl rfl _ _ hrun ?_)
    go_ret
    refine ⟨_, rfl, ?_, HO.out⟩
    exact ((Wr.refl [] w).alloc _).trans' (Wr.ofGrown HG.out (l := [w.heap.size]) (fun k hk => by simp [Value.ownBlock] at hk; simp [hk])) (fun x hx => .inr (by simp at hx; omega))
theorem clone_i64 (w : World) (P : Nat → Prop) (v : Value) (n : Nat) (xs : List Value) (h : Sl w P 1 v n xs) (h1 : ∀ u ∈ xs, u.oneCell' = true) (hb : n * 8 ≤ 140737488355328) :
    Calls Try.prog 39 #[v] w (CloneP w 1 n xs) := (cloneO_i64 w P v n xs h h1 hb).mono fun _ _ k => k.toP

theorem info_arm : (Try.prog.info? 93).map (fun i => (i.zero, i.size, i.bytes)) = some (some (.agg #[.slice none 0 0, .slice none 0 0, .bool false]), 3, 56) := by kernel_rfl
set_option maxHeartbeats 400000 in
theorem cloneO_arm (w : World) (P : Nat → Prop) (v : Value) (n : Nat) (xs : List Value) (h : Sl w P 3 v n xs) (h1 : ∀ u ∈ xs, u.oneCell' = true) (hb : n * 56 ≤ 140737488355328) :
    Calls Try.prog 37 #[v] w (CloneO w 93 3 n xs) := by
  obtain ⟨i0, hi0, hz0, hz1, hz2⟩ := info_parts info_arm
  have hm : 0 + n ≤ maxLen := by obtain ⟨A, c, _, k1, k2⟩ := h.form; omega
  have H := Lib.hid h
  have hl := Lib.hid h.len
  obtain ⟨A, c, rfl, k1, k2⟩ := h.form
  clear h k1 k2
  cases A with
  | none =>
    clear hi0 hz0 hz1 hz2 hb hm h1
    have he := fun (w : World) => Lib.run_eql_slice_nil (P := Try.prog) w 52 93 none n c 0 0 Try.underlying52
    go_enter Try.func37, Try.ntmps37
    go_wp2_with fail
    go_ret
    have h0 : xs = [] := by
      obtain ⟨A, c, e, _, _, _, hc⟩ := H.out
      cases xs with
      | nil => rfl
      | cons x l =>
        obtain ⟨b, off, e', _, _⟩ := hc 0 x rfl
        subst e'
        injection e with e
        cases e
    subst h0
    have hn : n = 0 := by have := hl.out; simp at this; omega
    subst hn
    exact ⟨_, rfl, Wr.refl _ _, World.ownsRow_nil w _ _ _⟩
  | some ad =>
    obtain ⟨v1, w1, hrun, hown, hg, hat⟩ := run_append_sl (P := Try.prog) (w.alloc (.cells #[] 93)) w.heap.size 52 52 93 i0 _ 3 56 Try.underlying52 hi0 hz0 hz1 hz2 rfl (by omega)
      (.slice (some ⟨w.heap.size, 0, none⟩) 0 0) 0 [] (World.ownsRow_made w #[] 0 (Nat.le_refl _) (by simp) rfl) P (.slice (some ad) n c) n xs (H.out.wr0 ((Wr.refl _ _).alloc _)) h1 hm (by omega) (by simp)
    simp only [Nat.zero_add, List.nil_append] at hown
    have HG := Lib.hid hg
    have HO := Lib.hid hown
    clear hi0 hz0 hz1 hz2 hm hb h1 hg hat hown
    have he := fun (w : World) => Lib.run_eql_slice_nil (P := Try.prog) w 52 93 (some ad) n c 0 0 Try.underlying52
    go_enter Try.func37, Try.ntmps37
    go_wp2_with (at_builtin; refine wpList_append_run rfl _ _ _ rfl _ _ rfl rfl _ _ hrun ?_)
    go_ret
    refine ⟨_, rfl, ?_, HO.out⟩
    exact ((Wr.refl [] w).alloc _).trans' (Wr.ofGrown HG.out (l := [w.heap.size]) (fun k hk => by simp [Value.ownBlock] at hk; simp [hk])) (fun x hx => .inr (by simp at hx; omega))
theorem clone_arm (w : World) (P : Nat → Prop) (v : Value) (n : Nat) (xs : List Value) (h : Sl w P 3 v n xs) (h1 : ∀ u ∈ xs, u.oneCell' = true) (hb : n * 56 ≤ 140737488355328) :
    Calls Try.prog 37 #[v] w (CloneP w 3 n xs) := (cloneO_arm w P v n xs h h1 hb).mono fun _ _ k => k.toP

end Go.Proofs.Ytjanbpchedgoiaa

/- A type, as plain data, and as it lies in memory. No conditions. -/
namespace Go.Proofs.Ytjanbpchedgoiaa
open Go.RowKit
set_option linter.unusedVariables false
set_option linter.unusedSimpArgs false

/-- A record's field. -/
structure Fld where
  name : ByteArray
  type : Int
  arm : Int
/-- An arm of a record. -/
structure ArmD where
  frm : List Int
  to : List Int
  els : Bool
/-- A parameter. -/
structure Par where
  var : Bool
  type : Int
/-- A type. -/
structure Ty where
  kind : Int
  module : ByteArray
  name : ByteArray
  base : Int
  index : Int
  low : Int
  high : Int
  names : List ByteArray
  fields : List Fld
  arms : List ArmD
  params : List Par
  result : Int

def Fld.cells (x : Fld) : List Value := [.string x.name, .int .i64 x.type, .int .i64 x.arm]
def Par.cells (x : Par) : List Value := [.bool x.var, .int .i64 x.type]

def SlInts (w : World) (P : Nat → Prop) (v : Value) (l : List Int) : Prop := Sl w P 1 v l.length (l.map (Value.int .i64))
def SlStrs (w : World) (P : Nat → Prop) (v : Value) (l : List ByteArray) : Prop := Sl w P 1 v l.length (l.map Value.string)
def SlFlds (w : World) (P : Nat → Prop) (v : Value) (l : List Fld) : Prop := Sl w P 3 v l.length (l.flatMap Fld.cells)
def SlPars (w : World) (P : Nat → Prop) (v : Value) (l : List Par) : Prop := Sl w P 2 v l.length (l.flatMap Par.cells)
/-- An arm's three cells, in a list of cells. -/
def ArmAt (w : World) (P : Nat → Prop) (xs : List Value) (i : Nat) (x : ArmD) : Prop :=
  ∃ va vb, xs[i * 3]? = some va ∧ xs[i * 3 + 1]? = some vb ∧ xs[i * 3 + 2]? = some (.bool x.els) ∧ SlInts w P va x.frm ∧ SlInts w P vb x.to
def SlArms (w : World) (P : Nat → Prop) (v : Value) (l : List ArmD) : Prop := ∃ xs, Sl w P 3 v l.length xs ∧ (∀ u ∈ xs, u.oneCell' = true) ∧ ∀ i x, l[i]? = some x → ArmAt w P xs i x

/-- A type's four lists. -/
structure Lists (w : World) (P : Nat → Prop) (vn vf va vp : Value) (t : Ty) : Prop where
  names : SlStrs w P vn t.names
  fields : SlFlds w P vf t.fields
  arms : SlArms w P va t.arms
  params : SlPars w P vp t.params
/-- A type's twelve cells. -/
def Ty.cells (t : Ty) (vn vf va vp : Value) : List Value :=
  [.int .u8 t.kind, .string t.module, .string t.name, .int .i64 t.base, .int .i64 t.index, .int .i64 t.low, .int .i64 t.high, vn, vf, va, vp, .int .i64 t.result]
def Ty.val (t : Ty) (vn vf va vp : Value) : Value := .agg (t.cells vn vf va vp).toArray
/-- Its lists take no more room than there is. -/
structure Ty.room (t : Ty) : Prop where
  names : t.names.length ≤ 1099511627776
  fields : t.fields.length ≤ 1099511627776
  arms : t.arms.length ≤ 1099511627776
  params : t.params.length ≤ 1099511627776
  ints : ∀ x ∈ t.arms, x.frm.length ≤ 1099511627776 ∧ x.to.length ≤ 1099511627776

theorem one_ints (l : List Int) : ∀ u ∈ l.map (Value.int .i64), u.oneCell' = true := by simp [Value.oneCell']
theorem one_strs (l : List ByteArray) : ∀ u ∈ l.map Value.string, u.oneCell' = true := by simp [Value.oneCell']
theorem one_flds (l : List Fld) : ∀ u ∈ l.flatMap Fld.cells, u.oneCell' = true := by
  intro u hu
  simp only [List.mem_flatMap, Fld.cells] at hu
  obtain ⟨x, _, hx⟩ := hu
  simp at hx
  rcases hx with rfl | rfl | rfl <;> rfl
theorem one_pars (l : List Par) : ∀ u ∈ l.flatMap Par.cells, u.oneCell' = true := by
  intro u hu
  simp only [List.mem_flatMap, Par.cells] at hu
  obtain ⟨x, _, hx⟩ := hu
  simp at hx
  rcases hx with rfl | rfl <;> rfl

section
variable {w w' : World} {P Q : Nat → Prop} {v : Value}
theorem SlArms.keep {l : List Nat} {ams : List ArmD} (h : SlArms w P v ams) (hw : Wr l w w') (hP : ∀ b, P b → b ∉ l) : SlArms w' P v ams := by
  obtain ⟨xs, hs, h1, ha⟩ := h
  refine ⟨xs, hs.keep hw hP, h1, fun i x hi => ?_⟩
  obtain ⟨va, vb, e1, e2, e3, ka, kb⟩ := ha i x hi
  exact ⟨va, vb, e1, e2, e3, Sl.keep ka hw hP, Sl.keep kb hw hP⟩
theorem SlArms.into {ams : List ArmD} (h : SlArms w P v ams) (hP : ∀ b, P b → b < w.heap.size → Q b) : SlArms w Q v ams := by
  obtain ⟨xs, hs, h1, ha⟩ := h
  refine ⟨xs, hs.into hP, h1, fun i x hi => ?_⟩
  obtain ⟨va, vb, e1, e2, e3, ka, kb⟩ := ha i x hi
  exact ⟨va, vb, e1, e2, e3, Sl.into ka hP, Sl.into kb hP⟩
theorem SlArms.nil (w : World) (P : Nat → Prop) : SlArms w P (.slice none 0 0) [] := ⟨[], Sl.nil w P 3, by simp, fun i x h => by simp at h⟩
variable {vn vf va vp : Value} {t : Ty}
theorem Lists.keep {l : List Nat} (h : Lists w P vn vf va vp t) (hw : Wr l w w') (hP : ∀ b, P b → b ∉ l) : Lists w' P vn vf va vp t :=
  ⟨Sl.keep h.names hw hP, Sl.keep h.fields hw hP, SlArms.keep h.arms hw hP, Sl.keep h.params hw hP⟩
theorem Lists.wr0 (h : Lists w P vn vf va vp t) (hw : Wr [] w w') : Lists w' P vn vf va vp t := h.keep hw (fun _ _ => by simp)
theorem Lists.into (h : Lists w P vn vf va vp t) (hP : ∀ b, P b → b < w.heap.size → Q b) : Lists w Q vn vf va vp t :=
  ⟨Sl.into h.names hP, Sl.into h.fields hP, SlArms.into h.arms hP, Sl.into h.params hP⟩
theorem Lists.mono (h : Lists w P vn vf va vp t) (hP : ∀ b, P b → Q b) : Lists w Q vn vf va vp t := h.into fun b hb _ => hP b hb
end
end Go.Proofs.Ytjanbpchedgoiaa

/- Interfaces as plain data: which may be, as bytes, and back. No conditions. -/
namespace Go.Proofs.Ytjanbpchedgoiaa
set_option linter.unusedVariables false

/-- A constant's value. -/
inductive AnyD where
  | nil
  | whole (n : Int)
  | letter (n : Int)
  | truth (b : Bool)
  | bits (n : Int)
  | str (s : ByteArray)
  | item (t n : Int)
  | null
  | other
/-- An item. -/
structure ItmD where
  name : ByteArray
  kind : Int
  type : Int
  at_ : Int
  v : AnyD
/-- An interface. -/
structure FaceD where
  module : ByteArray
  uses : List UseD
  types : List Ty
  items : List ItmD

def shB (s : ByteArray) : Bool := decide (s.size ≤ 255)
def fwB (n : Nat) : Bool := decide (n ≤ 65535)
def smB (n : Int) : Bool := inB n (-2147483648) 2147483647
def tyB (nt : Nat) (n : Int) : Bool := inB n 0 (9 + (nt : Int))
def armFit (a : ArmD) : Bool := fwB a.frm.length && fwB a.to.length
def tyFit (t : Ty) : Bool :=
  shB t.module && shB t.name && fwB t.names.length && fwB t.fields.length && fwB t.arms.length && fwB t.params.length && t.names.all shB && t.fields.all (fun f => shB f.name) && t.arms.all armFit
def anyFit : AnyD → Bool
  | .str s => fwB s.size
  | _ => true
def itmFit (x : ItmD) : Bool := shB x.name && anyFit x.v
def faceFit (f : FaceD) : Bool :=
  decide (f.uses.length ≤ 64) && decide (f.items.length ≤ 512) && decide (f.types.length ≤ 1024) && shB f.module && f.uses.all (fun u => shB u.module) && f.types.all tyFit && f.items.all itmFit
/-- Is each there once? -/
def onceB : List ByteArray → List ByteArray → Bool
  | _, [] => true
  | seen, s :: l => !(inL s seen) && onceB (seen ++ [s]) l
def armForm (a : ArmD) : Bool := decide (a.frm.length = a.to.length) && a.frm.all smB && a.to.all smB
def tyForm (nt : Nat) (t : Ty) : Bool :=
  tyB nt t.base && tyB nt t.index && tyB nt t.result && smB t.low && smB t.high && t.fields.all (fun f => tyB nt f.type && smB f.arm) && t.arms.all armForm && t.params.all (fun p => tyB nt p.type)
def anyForm (nt : Nat) : AnyD → Bool
  | .whole n => smB n
  | .item t n => tyB nt t && smB n
  | .other => false
  | _ => true
def itmForm (nt : Nat) (x : ItmD) : Bool := tyB nt x.type && smB x.at_ && anyForm nt x.v
def faceForm (f : FaceD) : Bool := f.types.all (tyForm f.types.length) && f.items.all (itmForm f.types.length)
/-- May an interface be? -/
def mayP (f : FaceD) : Int :=
  if faceFit f then if onceB [] (f.uses.map UseD.module) && onceB [] (f.items.map ItmD.name) then if faceForm f then 0 else 7 else 6 else 5

/-- Four bytes of a number. -/
def fourL (n : Int) : List UInt8 := numL (n % 4294967296).toNat 4
def fldL (f : Fld) : List UInt8 := textL f.name ++ fourL f.type ++ fourL f.arm
def pairL (p : Int × Int) : List UInt8 := fourL p.1 ++ fourL p.2
def armL (a : ArmD) : List UInt8 := numL a.frm.length 2 ++ (a.frm.zip a.to).flatMap pairL ++ truL a.els
def parL (p : Par) : List UInt8 := truL p.var ++ fourL p.type
def tyL (t : Ty) : List UInt8 :=
  numL t.kind.toNat 1 ++ textL t.module ++ textL t.name ++ fourL t.base ++ fourL t.index ++ fourL t.low ++ fourL t.high ++ numL t.names.length 2 ++ t.names.flatMap textL ++ numL t.fields.length 2 ++ t.fields.flatMap fldL ++
    numL t.arms.length 2 ++ t.arms.flatMap armL ++ numL t.params.length 2 ++ t.params.flatMap parL ++ fourL t.result
def anyL : AnyD → List UInt8
  | .nil => numL 0 1
  | .whole n => numL 1 1 ++ fourL n
  | .letter n => numL 2 1 ++ numL n.toNat 1
  | .truth b => numL 3 1 ++ truL b
  | .bits n => numL 4 1 ++ numL n.toNat 2
  | .str s => numL 5 1 ++ (numL s.size 2 ++ s.data.toList)
  | .item t n => numL 6 1 ++ (fourL t ++ fourL n)
  | .null => numL 7 1
  | .other => numL 0 1
def itmL (x : ItmD) : List UInt8 := textL x.name ++ numL x.kind.toNat 1 ++ fourL x.type ++ fourL x.at_ ++ anyL x.v
def faceL (f : FaceD) : List UInt8 :=
  textL f.module ++ numL f.uses.length 2 ++ f.uses.flatMap useL ++ numL f.types.length 2 ++ f.types.flatMap tyL ++ numL f.items.length 2 ++ f.items.flatMap itmL
def encFaceP (f : FaceD) : List UInt8 × Int := if mayP f = 0 then (faceL f, 0) else ([], mayP f)

/-- A number of four bytes, with its sign. -/
def signN (n : Nat) : Int := if n < 2147483648 then (n : Int) else (n : Int) - 4294967296
def Rd.four (r : Rd) : Int × Rd := (signN (r.num 4).1, (r.num 4).2)
def Rd.fld (r : Rd) : Fld × Rd :=
  let a := r.text
  let b := a.2.four
  let c := b.2.four
  (⟨a.1, b.1, c.1⟩, c.2)
def Rd.pair (r : Rd) : (Int × Int) × Rd :=
  let a := r.four
  let b := a.2.four
  ((a.1, b.1), b.2)
def Rd.arm (r : Rd) : ArmD × Rd :=
  let a := r.num 2
  let b := a.2.list Rd.pair a.1
  let c := b.2.truth
  (⟨b.1.map Prod.fst, b.1.map Prod.snd, c.1⟩, c.2)
def Rd.par (r : Rd) : Par × Rd :=
  let a := r.truth
  let b := a.2.four
  (⟨a.1, b.1⟩, b.2)
/-- A list, behind its length. -/
def Rd.lst {α : Type} (one : Rd → α × Rd) (r : Rd) : List α × Rd := (r.num 2).2.list one (r.num 2).1
def Rd.ty (r : Rd) : Ty × Rd :=
  let k := r.one
  let a := k.2.text
  let b := a.2.text
  let c := b.2.four
  let d := c.2.four
  let e := d.2.four
  let f := e.2.four
  let g := f.2.lst Rd.text
  let h := g.2.lst Rd.fld
  let i := h.2.lst Rd.arm
  let j := i.2.lst Rd.par
  let l := j.2.four
  (⟨k.1, a.1, b.1, c.1, d.1, e.1, f.1, g.1, h.1, i.1, j.1, l.1⟩, l.2)
def Rd.any (r : Rd) : AnyD × Rd :=
  let k := r.num 1
  match k.1 with
  | 0 => (.nil, k.2)
  | 1 => (.whole k.2.four.1, k.2.four.2)
  | 2 => (.letter k.2.one.1, k.2.one.2)
  | 3 => (.truth k.2.truth.1, k.2.truth.2)
  | 4 => (.bits k.2.two.1, k.2.two.2)
  | 5 => (.str ⟨((k.2.num 2).2.raw (k.2.num 2).1).1.toArray⟩, ((k.2.num 2).2.raw (k.2.num 2).1).2)
  | 6 => (.item k.2.four.1 k.2.four.2.four.1, k.2.four.2.four.2)
  | 7 => (.null, k.2)
  | _ => (.nil, ⟨k.2.s, true⟩)
def Rd.itm (r : Rd) : ItmD × Rd :=
  let a := r.text
  let b := a.2.one
  let c := b.2.four
  let d := c.2.four
  let e := d.2.any
  (⟨a.1, b.1, c.1, d.1, e.1⟩, e.2)
def Rd.face (r : Rd) : FaceD × Rd :=
  let a := r.text
  let b := a.2.lst Rd.use
  let c := b.2.lst Rd.ty
  let d := c.2.lst Rd.itm
  (⟨a.1, b.1, c.1, d.1⟩, d.2)
def noFace : FaceD := ⟨⟨#[]⟩, [], [], []⟩
/-- Which interface bytes are. -/
def decFaceP (l : List UInt8) : FaceD × Int :=
  if (Rd.face ⟨l, false⟩).2.bad || !((Rd.face ⟨l, false⟩).2.s).isEmpty || !decide (mayP (Rd.face ⟨l, false⟩).1 = 0) then (noFace, 7) else ((Rd.face ⟨l, false⟩).1, 0)

theorem smB_iff {n : Int} : smB n = true ↔ -2147483648 ≤ n ∧ n ≤ 2147483647 := inB_iff
theorem four_app (n : Int) (h : smB n = true) (rest : List UInt8) : (Rd.mk (fourL n ++ rest) false).four = (n, ⟨rest, false⟩) := by
  obtain ⟨h1, h2⟩ := smB_iff.1 h
  unfold Rd.four fourL
  rw [num_app _ 4 (by omega)]
  simp only [signN]
  congr 1
  split <;> omega
theorem lst_app {α : Type} {one : Rd → α × Rd} {enc : α → List UInt8} (l : List α) (hl : l.length ≤ 65535) (rest : List UInt8) (h : ∀ x ∈ l, ∀ r, one ⟨enc x ++ r, false⟩ = (x, ⟨r, false⟩)) :
    Rd.lst one ⟨numL l.length 2 ++ (l.flatMap enc ++ rest), false⟩ = (l, ⟨rest, false⟩) := by
  unfold Rd.lst
  rw [num_app l.length 2 (by omega)]
  exact list_app l rest h
theorem tyB_sm {nt : Nat} (hn : nt ≤ 1024) {n : Int} (h : tyB nt n = true) : smB n = true := by
  obtain ⟨h1, h2⟩ := inB_iff.1 h
  exact smB_iff.2 ⟨by omega, by omega⟩
theorem fld_app (f : Fld) (h1 : f.name.size ≤ 255) (h2 : smB f.type = true) (h3 : smB f.arm = true) (rest : List UInt8) : (Rd.mk (fldL f ++ rest) false).fld = (f, ⟨rest, false⟩) := by
  unfold Rd.fld fldL
  simp only [List.append_assoc]
  rw [text_app f.name h1]
  simp only
  rw [four_app f.type h2]
  simp only
  rw [four_app f.arm h3]
theorem pair_app (p : Int × Int) (h2 : smB p.1 = true) (h3 : smB p.2 = true) (rest : List UInt8) : (Rd.mk (pairL p ++ rest) false).pair = (p, ⟨rest, false⟩) := by
  unfold Rd.pair pairL
  simp only [List.append_assoc]
  rw [four_app p.1 h2]
  simp only
  rw [four_app p.2 h3]
theorem arm_app (a : ArmD) (hf : armFit a = true) (h : armForm a = true) (rest : List UInt8) : (Rd.mk (armL a ++ rest) false).arm = (a, ⟨rest, false⟩) := by
  unfold armForm at h
  unfold armFit fwB at hf
  simp only [Bool.and_eq_true, decide_eq_true_eq, List.all_eq_true] at h hf
  obtain ⟨⟨h1, h2⟩, h3⟩ := h
  unfold Rd.arm armL
  simp only [List.append_assoc]
  rw [num_app a.frm.length 2 (by omega)]
  simp only
  have hz : (a.frm.zip a.to).length = a.frm.length := by rw [List.length_zip]; omega
  have := list_app (one := Rd.pair) (enc := pairL) (a.frm.zip a.to) (truL a.els ++ rest) (fun p hp r => pair_app p (h2 _ (List.of_mem_zip hp).1) (h3 _ (List.of_mem_zip hp).2) r)
  rw [hz] at this
  rw [this]
  simp only
  rw [truth_app]
  simp only
  rw [List.map_fst_zip (by omega), List.map_snd_zip (by omega)]
theorem par_app (p : Par) (h : smB p.type = true) (rest : List UInt8) : (Rd.mk (parL p ++ rest) false).par = (p, ⟨rest, false⟩) := by
  unfold Rd.par parL
  simp only [List.append_assoc]
  rw [truth_app]
  simp only
  rw [four_app p.type h]
theorem ty_app (t : Ty) (nt : Nat) (hn : nt ≤ 1024) (hk : 0 ≤ t.kind ∧ t.kind ≤ 255) (hf : tyFit t = true) (h : tyForm nt t = true) (rest : List UInt8) : (Rd.mk (tyL t ++ rest) false).ty = (t, ⟨rest, false⟩) := by
  unfold tyForm at h
  unfold tyFit fwB shB at hf
  simp only [Bool.and_eq_true, decide_eq_true_eq, List.all_eq_true] at h hf
  obtain ⟨⟨⟨⟨⟨⟨⟨a1, a2⟩, a3⟩, a4⟩, a5⟩, a6⟩, a7⟩, a8⟩ := h
  obtain ⟨⟨⟨⟨⟨⟨⟨⟨b1, b2⟩, b3⟩, b4⟩, b5⟩, b6⟩, b7⟩, b8⟩, b9⟩ := hf
  unfold Rd.ty tyL
  simp only [List.append_assoc]
  rw [one_app t.kind hk.1 hk.2]
  simp only
  rw [text_app t.module b1]
  simp only
  rw [text_app t.name b2]
  simp only
  rw [four_app t.base (tyB_sm hn a1)]
  simp only
  rw [four_app t.index (tyB_sm hn a2)]
  simp only
  rw [four_app t.low a4]
  simp only
  rw [four_app t.high a5]
  simp only
  rw [lst_app t.names b3 _ (fun s hs r => text_app s (b7 s hs) r)]
  simp only
  rw [lst_app t.fields b4 _ (fun f hf r => fld_app f (b8 f hf) (tyB_sm hn (a6 f hf).1) (a6 f hf).2 r)]
  simp only
  rw [lst_app t.arms b5 _ (fun a ha r => arm_app a (b9 a ha) (a7 a ha) r)]
  simp only
  rw [lst_app t.params b6 _ (fun p hp r => par_app p (tyB_sm hn (a8 p hp)) r)]
  simp only
  rw [four_app t.result (tyB_sm hn a3)]
/-- Numbers within their kinds. -/
def anyW : AnyD → Prop
  | .letter n => 0 ≤ n ∧ n ≤ 255
  | .bits n => 0 ≤ n ∧ n ≤ 65535
  | _ => True
structure faceW (f : FaceD) : Prop where
  keys : ∀ u ∈ f.uses, 0 ≤ u.key ∧ u.key < 18446744073709551616
  kinds : ∀ t ∈ f.types, 0 ≤ t.kind ∧ t.kind ≤ 255
  sorts : ∀ x ∈ f.items, 0 ≤ x.kind ∧ x.kind ≤ 255
  vals : ∀ x ∈ f.items, anyW x.v
theorem any_app (v : AnyD) (nt : Nat) (hn : nt ≤ 1024) (hw : anyW v) (hf : anyFit v = true) (h : anyForm nt v = true) (rest : List UInt8) : (Rd.mk (anyL v ++ rest) false).any = (v, ⟨rest, false⟩) := by
  have n1 := fun k (hk : k < 256) rest => num_app k 1 (by simpa using hk) rest
  cases v with
  | nil =>
    unfold Rd.any anyL
    rw [n1 0 (by decide)]
    simp only
  | whole n =>
    unfold Rd.any anyL
    rw [List.append_assoc, n1 1 (by decide)]
    simp only
    rw [four_app n h]
  | letter n =>
    unfold Rd.any anyL
    rw [List.append_assoc, n1 2 (by decide)]
    simp only
    rw [one_app n hw.1 hw.2]
  | truth b =>
    unfold Rd.any anyL
    rw [List.append_assoc, n1 3 (by decide)]
    simp only
    rw [truth_app]
  | bits n =>
    unfold Rd.any anyL
    rw [List.append_assoc, n1 4 (by decide)]
    simp only
    rw [two_app n hw.1 hw.2]
  | str s =>
    unfold Rd.any anyL
    rw [List.append_assoc, n1 5 (by decide)]
    simp only
    have hs : s.size ≤ 65535 := of_decide_eq_true hf
    rw [List.append_assoc, num_app s.size 2 (by omega)]
    simp only
    have hl : s.data.toList.length = s.size := rfl
    have := raw_app s.data.toList rest
    rw [hl] at this
    rw [this]
  | item t n =>
    unfold anyForm at h
    simp only [Bool.and_eq_true] at h
    unfold Rd.any anyL
    rw [List.append_assoc, n1 6 (by decide)]
    simp only
    rw [List.append_assoc, four_app t (tyB_sm hn h.1)]
    simp only
    rw [four_app n h.2]
  | null =>
    unfold Rd.any anyL
    rw [n1 7 (by decide)]
    simp only
  | other => cases h
theorem itm_app (x : ItmD) (nt : Nat) (hn : nt ≤ 1024) (hk : 0 ≤ x.kind ∧ x.kind ≤ 255) (hw : anyW x.v) (hf : itmFit x = true) (h : itmForm nt x = true) (rest : List UInt8) : (Rd.mk (itmL x ++ rest) false).itm = (x, ⟨rest, false⟩) := by
  unfold itmForm at h
  unfold itmFit shB at hf
  simp only [Bool.and_eq_true, decide_eq_true_eq] at h hf
  unfold Rd.itm itmL
  simp only [List.append_assoc]
  rw [text_app x.name hf.1]
  simp only
  rw [one_app x.kind hk.1 hk.2]
  simp only
  rw [four_app x.type (tyB_sm hn h.1.1)]
  simp only
  rw [four_app x.at_ h.1.2]
  simp only
  rw [any_app x.v nt hn hw hf.2 h.2]
theorem face_parts {f : FaceD} (h : mayP f = 0) : faceFit f = true ∧ onceB [] (f.uses.map UseD.module) = true ∧ onceB [] (f.items.map ItmD.name) = true ∧ faceForm f = true := by
  unfold mayP at h
  by_cases h1 : faceFit f = true
  · rw [if_pos h1] at h
    by_cases h2 : (onceB [] (f.uses.map UseD.module) && onceB [] (f.items.map ItmD.name)) = true
    · rw [if_pos h2] at h
      by_cases h3 : faceForm f = true
      · rw [Bool.and_eq_true] at h2
        exact ⟨h1, h2.1, h2.2, h3⟩
      · rw [if_neg h3] at h; exact absurd h (by decide)
    · rw [if_neg h2] at h; exact absurd h (by decide)
  · rw [if_neg h1] at h; exact absurd h (by decide)
/-- An interface that was written is read. -/
theorem face_app (f : FaceD) (hw : faceW f) (hm : mayP f = 0) (rest : List UInt8) : (Rd.mk (faceL f ++ rest) false).face = (f, ⟨rest, false⟩) := by
  obtain ⟨h1, _, _, h2⟩ := face_parts hm
  unfold faceFit shB at h1
  unfold faceForm at h2
  simp only [Bool.and_eq_true, decide_eq_true_eq, List.all_eq_true] at h1 h2
  obtain ⟨⟨⟨⟨⟨⟨a1, a2⟩, a3⟩, a4⟩, a5⟩, a6⟩, a7⟩ := h1
  unfold Rd.face faceL
  simp only [List.append_assoc]
  rw [text_app f.module a4]
  simp only
  rw [lst_app f.uses (by omega) _ (fun u hu r => use_app u (a5 u hu) (hw.keys u hu) r)]
  simp only
  rw [lst_app f.types (by omega) _ (fun t ht r => ty_app t _ a3 (hw.kinds t ht) (a6 t ht) (h2.1 t ht) r)]
  simp only
  rw [lst_app f.items (by omega) _ (fun x hx r => itm_app x _ a3 (hw.sorts x hx) (hw.vals x hx) (a7 x hx) (h2.2 x hx) r)]
theorem dec_enc (f : FaceD) (hw : faceW f) (hm : mayP f = 0) : decFaceP (faceL f) = (f, 0) := by
  have := face_app f hw hm []
  rw [List.append_nil] at this
  unfold decFaceP
  rw [this]
  simp [hm]
/-- None's bytes are the beginning of another one's. -/
theorem face_prefix (a b : FaceD) (ha : faceW a) (hb : faceW b) (ma : mayP a = 0) (mb : mayP b = 0) (rest : List UInt8) (h : faceL a ++ rest = faceL b) : rest = [] ∧ a = b := by
  have h1 := face_app a ha ma rest
  have h2 := face_app b hb mb []
  rw [List.append_nil, ← h, h1] at h2
  simp only [Prod.mk.injEq, Rd.mk.injEq] at h2
  exact ⟨h2.2.1, h2.1⟩
end Go.Proofs.Ytjanbpchedgoiaa
