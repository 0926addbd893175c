/- Linking, as plain data: modules, objects, in which order they begin, what is linked. The plain law of the order. No conditions. -/
import Derived.Test.YtildcdgobdfieaaGreatRows
import Derived.Test.YtildcdgobdfieaaGreatSY01
set_option linter.unusedVariables false
set_option linter.unusedSimpArgs false
set_option maxRecDepth 100000
set_option maxHeartbeats 32000000
namespace Go.Proofs.YtildcdgobdfieaaGreat
structure PrcD where
 at_ : Int
 params : Int
 locals : Int
 depth : Int
 level : Int
 func : Bool
structure ModD where
 code : ByteArray
 procs : List PrcD
 imports : List Int
 data : Int
 init : List Int
structure UseD where
 module : ByteArray
 key : Int
structure ObjD where
 module : ByteArray
 main : Bool
 key : Int
 uses : List UseD
 mod : ModD
structure NeedD where
 module : ByteArray
 needs : List ByteArray
def inL (m : ByteArray) (l : List ByteArray) : Bool := l.any (fun x => decide (x = m))
def inB (n low high : Int) : Bool := decide (low ≤ n) && decide (n ≤ high)
def prcB (p : PrcD) (m : ModD) : Bool := inB p.params 0 65535 && inB p.locals 0 65535 && inB p.depth 0 65535 && inB p.at_ 0 (m.code.size : Int) && inB p.level 1 16
def bodyB : List PrcD → Bool
 | [] => false
 | p :: _ => decide (p.level = 1) && decide (p.params = 0) && !p.func
def modB (m : ModD) (n : Int) : Bool :=
 decide (m.code.size ≤ 65535) && decide (1 ≤ m.procs.length) && decide (m.procs.length ≤ 1024) && decide (m.imports.length ≤ 255) && inB m.data (m.init.length : Int) 65535 &&
  m.procs.all (fun p => prcB p m) && m.imports.all (fun i => inB i 0 (n - 1)) && bodyB m.procs
def ordB (n : Int) : List Int → List Int → Bool
 | _, [] => true
 | seen, i :: l => inB i 0 (n - 1) && !(seen.contains i) && ordB n (seen ++ [i]) l
def modsAt (n : Int) : Nat → List ModD → Option Nat
 | _, [] => none
 | i, m :: l => if modB m n then modsAt n (i + 1) l else some i
def checkP (ms : List ModD) (order : List Int) : Int × Int :=
 if inB (ms.length : Int) 1 64 then
  match modsAt ms.length 0 ms with
  | some i => (i, 200)
  | none => if ordB ms.length [] order then (0, 0) else (ms.length, 200)
 else (ms.length, 200)
def omodB (m : ModD) : Bool := decide (m.imports.length ≤ 255) && m.imports.all (fun i => inB i 0 63) && modB { m with imports := [] } 1
def nameB (s : ByteArray) : Bool := decide (1 ≤ s.size) && decide (s.size ≤ 255)
def usesB : List ByteArray → List UseD → Bool
 | _, [] => true
 | seen, u :: l => nameB u.module && !(inL u.module seen) && usesB (seen ++ [u.module]) l
def objB (o : ObjD) : Bool := nameB o.module && decide (o.uses.length ≤ 255) && decide (o.mod.imports.length = 0) && usesB [o.module] o.uses && omodB o.mod
structure Tr where
 st : ByteArray → Nat
 ord : List ByteArray
inductive Res where
 | ok (t : Tr)
 | err (who : ByteArray) (e : Int)
def Tr.set (t : Tr) (m : ByteArray) (n : Nat) : Tr := ⟨fun x => if x = m then n else t.st x, t.ord⟩
def Tr.done (t : Tr) (m : ByteArray) : Tr := ⟨fun x => if x = m then 2 else t.st x, t.ord ++ [m]⟩
def each (f : ByteArray → Tr → Res) : List ByteArray → Tr → Res
 | [], t => .ok t
 | n :: l, t => if t.st n = 1 then .err n 220 else if t.st n = 0 then match f n t with | .ok t' => each f l t' | .err who e => .err who e else each f l t
def thr (all : ByteArray → Option (List ByteArray)) : Nat → ByteArray → Tr → Res
 | 0, _, _ => .err ⟨#[]⟩ 1
 | k + 1, m, t => match all m with
  | none => .err m 3
  | some l => match each (thr all k) l (t.set m 1) with
   | .ok t' => .ok (t'.done m)
   | .err who e => .err who e
def allOf (l : List NeedD) (m : ByteArray) : Option (List ByteArray) := (l.find? (fun x => decide (x.module = m))).map NeedD.needs
def twiceOf : List ByteArray → List NeedD → Option ByteArray
 | _, [] => none
 | seen, x :: l => if inL x.module seen then some x.module else twiceOf (seen ++ [x.module]) l
def orderP (l : List NeedD) (first : ByteArray) : List ByteArray × ByteArray × Int :=
 match twiceOf [] l with
 | some d => ([], d, 6)
 | none => match thr (allOf l) (l.length + 1) first ⟨fun _ => 0, []⟩ with
  | .ok t => (t.ord, ⟨#[]⟩, 0)
  | .err who e => ([], who, e)
def Le (t t' : Tr) : Prop := ∀ m, t'.st m = 0 → t.st m = 0
theorem Le.refl (t : Tr) : Le t t := fun _ h => h
theorem Le.trans {a b c : Tr} (h : Le a b) (k : Le b c) : Le a c := fun m hm => h m (k m hm)
theorem filter_len {α : Type} (p q : α → Bool) (h : ∀ x, p x = true → q x = true) : ∀ l : List α, (l.filter p).length ≤ (l.filter q).length
 | [] => Nat.le_refl _
 | x :: l => by
  have := filter_len p q h l
  cases hp : p x with
  | true => rw [List.filter_cons_of_pos hp, List.filter_cons_of_pos (h x hp)]; simpa using this
  | false =>
   rw [List.filter_cons_of_neg (by simp [hp])]
   cases hq : q x with
   | true => rw [List.filter_cons_of_pos hq, List.length_cons]; omega
   | false => rw [List.filter_cons_of_neg (by simp [hq])]; exact this
theorem filter_len_lt {α : Type} (p q : α → Bool) (h : ∀ x, p x = true → q x = true) (y : α) (hy : p y = false) (hz : q y = true) : ∀ l : List α, y ∈ l → (l.filter p).length < (l.filter q).length
 | [], hm => by cases hm
 | x :: l, hm => by
  rcases List.mem_cons.1 hm with e | e
  ·subst e
   rw [List.filter_cons_of_neg (by simp [hy]), List.filter_cons_of_pos hz, List.length_cons]
   have := filter_len p q h l
   omega
  ·have ih := filter_len_lt p q h y hy hz l e
   cases hp : p x with
   | true => rw [List.filter_cons_of_pos hp, List.filter_cons_of_pos (h x hp)]; simpa using ih
   | false =>
    rw [List.filter_cons_of_neg (by simp [hp])]
    cases hq : q x with
    | true => rw [List.filter_cons_of_pos hq, List.length_cons]; omega
    | false => rw [List.filter_cons_of_neg (by simp [hq])]; exact ih
theorem Le.set (t : Tr) (m : ByteArray) (n : Nat) (hn : n ≠ 0) : Le t (t.set m n) := fun x hx => by
 have hx' : (if x = m then n else t.st x) = 0 := hx
 by_cases e : x = m
 ·rw [if_pos e] at hx'; exact absurd hx' hn
 ·rwa [if_neg e] at hx'
theorem Le.done (t : Tr) (m : ByteArray) : Le t (t.done m) := fun x hx => by
 have hx' : (if x = m then 2 else t.st x) = 0 := hx
 by_cases e : x = m
 ·rw [if_pos e] at hx'; cases hx'
 ·rwa [if_neg e] at hx'
structure Inv (all : ByteArray → Option (List ByteArray)) (t : Tr) : Prop where
 le2 : ∀ m, t.st m ≤ 2
 two : ∀ m, t.st m = 2 ↔ m ∈ t.ord
 nodup : t.ord.Nodup
 ahead : ∀ (i : Nat) (m : ByteArray), t.ord[i]? = some m → ∃ l, all m = some l ∧ ∀ n ∈ l, ∃ j, j < i ∧ t.ord[j]? = some n
structure Gone (t t' : Tr) : Prop where
 one : ∀ m, t'.st m = 1 ↔ t.st m = 1
 more : ∃ x, t'.ord = t.ord ++ x
theorem Gone.refl (t : Tr) : Gone t t := ⟨fun _ => Iff.rfl, [], by simp⟩
theorem Gone.trans {a b c : Tr} (h : Gone a b) (k : Gone b c) : Gone a c :=
 ⟨fun m => (k.one m).trans (h.one m), by
  obtain ⟨x, hx⟩ := h.more
  obtain ⟨y, hy⟩ := k.more
  exact ⟨x ++ y, by rw [hy, hx, List.append_assoc]⟩⟩
end Go.Proofs.YtildcdgobdfieaaGreat

namespace Go.Proofs.YtildcdgobdfieaaGreat
open Go
def stepN (h c : Nat) : Nat := ((h ^^^ c) * 1099511628211) % 18446744073709551616
def moreN (h : Nat) (l : List Nat) : Nat := l.foldl stepN h
def ofN (h : Nat) : Nat := h ^^^ (h >>> 32)
theorem stepN_lt (h c : Nat) : stepN h c < 18446744073709551616 := Nat.mod_lt _ (by decide)
theorem odd_inj {x y : Nat} (hx : x < 18446744073709551616) (hy : y < 18446744073709551616) (h : (x * 1099511628211) % 18446744073709551616 = (y * 1099511628211) % 18446744073709551616) : x = y := by
 have key : ∀ z, z < 18446744073709551616 → ((z * 1099511628211) % 18446744073709551616 * 14886173955864302971) % 18446744073709551616 = z := by
  intro z hz
  rw [Nat.mod_mul_mod, Nat.mul_assoc, show 1099511628211 * 14886173955864302971 = 1 + 887285111055 * 18446744073709551616 by decide +kernel, Nat.mul_add, Nat.mul_one, ← Nat.mul_assoc, Nat.add_mul_mod_self_right, Nat.mod_eq_of_lt hz]
 rw [← key x hx, ← key y hy, h]
theorem xor_inj_r {a b c : Nat} (h : a ^^^ c = b ^^^ c) : a = b := by
 have := congrArg (fun x => x ^^^ c) h
 simpa [Nat.xor_assoc] using this
theorem xor_inj_l {a b c : Nat} (h : c ^^^ a = c ^^^ b) : a = b := by
 rw [Nat.xor_comm c a, Nat.xor_comm c b] at h
 exact xor_inj_r h
theorem xor_lt {a c : Nat} (ha : a < 18446744073709551616) (hc : c < 256) : a ^^^ c < 18446744073709551616 :=
 Nat.xor_lt_two_pow (n := 64) ha (by omega)
theorem step_h {h h' c : Nat} (a : h < 18446744073709551616) (b : h' < 18446744073709551616) (hc : c < 256) (e : stepN h c = stepN h' c) : h = h' :=
 xor_inj_r (odd_inj (xor_lt a hc) (xor_lt b hc) e)
theorem step_c {h c c' : Nat} (a : h < 18446744073709551616) (hc : c < 256) (hc' : c' < 256) (e : stepN h c = stepN h c') : c = c' :=
 xor_inj_l (odd_inj (xor_lt a hc) (xor_lt a hc') e)
theorem moreN_lt {h : Nat} (hh : h < 18446744073709551616) (l : List Nat) : moreN h l < 18446744073709551616 := by
 induction l generalizing h with
 | nil => exact hh
 | cons c l ih => exact ih (stepN_lt h c)
theorem moreN_append (h : Nat) (l m : List Nat) : moreN h (l ++ m) = moreN (moreN h l) m := by simp [moreN, List.foldl_append]
theorem moreN_inj {l : List Nat} (hl : ∀ c ∈ l, c < 256) {h h' : Nat} (a : h < 18446744073709551616) (b : h' < 18446744073709551616) : moreN h l = moreN h' l ↔ h = h' := by
 constructor
 ·induction l generalizing h h' with
  | nil => exact id
  | cons c l ih =>
   intro e
   exact step_h a b (hl c (by simp)) (ih (fun x hx => hl x (by simp [hx])) (stepN_lt h c) (stepN_lt h' c) e)
 ·exact fun e => by rw [e]
theorem moreN_set {l : List Nat} (hl : ∀ c ∈ l, c < 256) {h : Nat} (a : h < 18446744073709551616) {k c : Nat} (hc : c < 256) (hk : k < l.length) : moreN h (l.set k c) = moreN h l ↔ c = l[k] := by
 induction l generalizing h k with
 | nil => exact absurd hk (by simp)
 | cons x l ih =>
  cases k with
  | zero =>
   rw [qszq]
   show moreN (stepN h c) l = moreN (stepN h x) l ↔ _
   rw [moreN_inj (fun y hy => hl y (by simp [hy])) (stepN_lt h c) (stepN_lt h x)]
   constructor
   ·exact fun e => step_c a hc (hl x (by simp)) e
   ·intro e
    have e' : c = x := e
    rw [e']
  | succ k =>
   rw [qssq]
   show moreN (stepN h x) (l.set k c) = moreN (stepN h x) l ↔ _
   have := ih (fun y hy => hl y (by simp [hy])) (stepN_lt h x) (by simpa using hk)
   simpa using this
theorem ofN_inj {a b : Nat} (ha : a < 18446744073709551616) (hb : b < 18446744073709551616) : ofN a = ofN b ↔ a = b := by
 have back : ∀ z, z < 18446744073709551616 → ofN z ^^^ (ofN z >>> 32) = z := by
  intro z hz
  have h64 : z >>> 32 >>> 32 = 0 := by
   rw [Nat.shiftRight_eq_div_pow, Nat.shiftRight_eq_div_pow]
   omega
  unfold ofN
  rw [Nat.shiftRight_xor_distrib, h64, Nat.xor_zero, Nat.xor_assoc, Nat.xor_self, Nat.xor_zero]
 constructor
 ·intro e
  rw [← back a ha, ← back b hb, e]
 ·exact fun e => by rw [e]
end Go.Proofs.YtildcdgobdfieaaGreat

namespace Go.Proofs.YtildcdgobdfieaaGreat
def numL (n : Nat) : Nat → List UInt8
 | 0 => []
 | k + 1 => UInt8.ofNat (n / 256 ^ k % 256) :: numL n k
theorem numL_len (n : Nat) : ∀ k, (numL n k).length = k
 | 0 => rfl
 | k + 1 => by rw [numL, List.length_cons, numL_len n k]
def truL (b : Bool) : List UInt8 := if b then [1] else [0]
def textL (s : ByteArray) : List UInt8 := numL s.size 1 ++ s.data.toList
def prcL (p : PrcD) : List UInt8 := numL p.at_.toNat 2 ++ numL p.params.toNat 2 ++ numL p.locals.toNat 2 ++ numL p.depth.toNat 2 ++ numL p.level.toNat 1 ++ truL p.func
def packL (m : ModD) : List UInt8 :=
 numL m.code.size 2 ++ m.code.data.toList ++ numL m.procs.length 2 ++ m.procs.flatMap prcL ++ numL m.imports.length 1 ++ m.imports.flatMap (fun i => numL i.toNat 1) ++ numL m.data.toNat 2 ++ numL m.init.length 2 ++ m.init.flatMap (fun i => numL i.toNat 2)
def useL (u : UseD) : List UInt8 := textL u.module ++ numL u.key.toNat 8
def bodyL (o : ObjD) : List UInt8 := textL o.module ++ truL o.main ++ numL o.key.toNat 8 ++ numL o.uses.length 1 ++ o.uses.flatMap useL ++ packL o.mod
def keyL (l : List UInt8) : Nat := ofN (moreN 14695981039346656037 (l.map UInt8.toNat))
def fileL (kind : List UInt8) (l : List UInt8) : List UInt8 := kind ++ numL (keyL l) 8 ++ l
structure Rd where
 s : List UInt8
 bad : Bool
def valN (l : List UInt8) : Nat := l.foldl (fun n c => 256 * n + c.toNat) 0
def Rd.raw (r : Rd) (n : Nat) : List UInt8 × Rd := if r.bad = true ∨ r.s.length < n then ([], ⟨r.s, true⟩) else (r.s.take n, ⟨r.s.drop n, false⟩)
def Rd.num (r : Rd) (size : Nat) : Nat × Rd := (valN (r.raw size).1, (r.raw size).2)
def Rd.truth (r : Rd) : Bool × Rd := (decide ((r.num 1).1 = 1), ⟨(r.num 1).2.s, (r.num 1).2.bad || decide (1 < (r.num 1).1)⟩)
def Rd.text (r : Rd) : ByteArray × Rd := (⟨(((r.num 1).2.raw (r.num 1).1).1).toArray⟩, ((r.num 1).2.raw (r.num 1).1).2)
def Rd.list {α : Type} (one : Rd → α × Rd) : Nat → Rd → List α × Rd
 | 0, r => ([], r)
 | n + 1, r => if r.bad = true then ([], r) else ((one r).1 :: (Rd.list one n (one r).2).1, (Rd.list one n (one r).2).2)
def Rd.two (r : Rd) : Int × Rd := (((r.num 2).1 : Int), (r.num 2).2)
def Rd.one (r : Rd) : Int × Rd := (((r.num 1).1 : Int), (r.num 1).2)
def Rd.proc (r : Rd) : PrcD × Rd :=
 let a := r.two
 let b := a.2.two
 let c := b.2.two
 let d := c.2.two
 let e := d.2.one
 let f := e.2.truth
 (⟨a.1, b.1, c.1, d.1, e.1, f.1⟩, f.2)
def Rd.use (r : Rd) : UseD × Rd :=
 let a := r.text
 let b := a.2.num 8
 (⟨a.1, (b.1 : Int)⟩, b.2)
def Rd.module (r : Rd) : ModD × Rd :=
 let a := r.num 2
 let b := a.2.raw a.1
 let c := b.2.num 2
 let d := c.2.list Rd.proc c.1
 let e := d.2.num 1
 let f := e.2.list Rd.one e.1
 let g := f.2.two
 let h := g.2.num 2
 let i := h.2.list Rd.two h.1
 let m : ModD := ⟨⟨b.1.toArray⟩, d.1, f.1, g.1, i.1⟩
 (m, ⟨i.2.s, i.2.bad || !omodB m⟩)
def zeroMod : ModD := ⟨⟨#[]⟩, [], [], 0, []⟩
def unpackP (l : List UInt8) : ModD × List UInt8 × Int := if (Rd.module ⟨l, false⟩).2.bad then (zeroMod, [], 7) else ((Rd.module ⟨l, false⟩).1, (Rd.module ⟨l, false⟩).2.s, 0)
def Rd.obj (r : Rd) : ObjD × Rd :=
 let a := r.text
 let b := a.2.truth
 let c := b.2.num 8
 let d := c.2.num 1
 let e := d.2.list Rd.use d.1
 let f := e.2.module
 (⟨a.1, b.1, (c.1 : Int), e.1, f.1⟩, f.2)
def noObj : ObjD := ⟨⟨#[]⟩, false, 0, [], zeroMod⟩
def headP (kind l : List UInt8) : Option (Nat × List UInt8) := if l.length < 12 ∨ l.take 4 ≠ kind then none else some (valN ((l.drop 4).take 8), l.drop 12)
def objKind : List UInt8 := [83, 69, 80, 79]
def decodeP (l : List UInt8) : ObjD × Int :=
 match headP objKind l with
 | none => (noObj, 7)
 | some (k, s) => if k ≠ keyL s then (noObj, 210) else if (Rd.obj ⟨s, false⟩).2.bad || !((Rd.obj ⟨s, false⟩).2.s).isEmpty || !objB (Rd.obj ⟨s, false⟩).1 then (noObj, 7) else ((Rd.obj ⟨s, false⟩).1, 0)
def encodeP (o : ObjD) : List UInt8 × Int := if objB o then (fileL objKind (bodyL o), 0) else ([], 2)
theorem raw_app (a b : List UInt8) : (Rd.mk (a ++ b) false).raw a.length = (a, ⟨b, false⟩) := by
 unfold Rd.raw
 rw [if_neg (by simp)]
 simp
theorem valN_snoc (l : List UInt8) (c : UInt8) : valN (l ++ [c]) = 256 * valN l + c.toNat := by simp [valN, List.foldl_append]
theorem numL_snoc (n : Nat) : ∀ k, numL n (k + 1) = numL (n / 256) k ++ [UInt8.ofNat (n % 256)]
 | 0 => by simp [numL]
 | k + 1 => by
  rw [numL, numL_snoc n k]
  conv => rhs; rw [numL]
  rw [List.cons_append]
  congr 2
  rw [Nat.div_div_eq_div_mul, Nat.pow_succ, Nat.mul_comm]
theorem toNat_ofNat (n : Nat) (h : n < 256) : (UInt8.ofNat n).toNat = n := by
 rw [UInt8.toNat_ofNat']
 exact Nat.mod_eq_of_lt h
theorem valN_numL : ∀ (k n : Nat), n < 256 ^ k → valN (numL n k) = n
 | 0, n, h => by simp at h; simp [numL, valN, h]
 | k + 1, n, h => by
  rw [numL_snoc, valN_snoc, valN_numL k (n / 256) (by rw [Nat.div_lt_iff_lt_mul (by decide), ← Nat.pow_succ]; exact h), toNat_ofNat _ (Nat.mod_lt _ (by decide))]
  omega
theorem num_app (n k : Nat) (h : n < 256 ^ k) (rest : List UInt8) : (Rd.mk (numL n k ++ rest) false).num k = (n, ⟨rest, false⟩) := by
 unfold Rd.num
 have := raw_app (numL n k) rest
 rw [numL_len] at this
 rw [this]
 simp only [valN_numL k n h]
theorem truth_app (b : Bool) (rest : List UInt8) : (Rd.mk (truL b ++ rest) false).truth = (b, ⟨rest, false⟩) := by
 cases b
 ·have := num_app 0 1 (by decide) rest
  have e : truL false = numL 0 1 := rfl
  unfold Rd.truth
  rw [e, this]
  rfl
 ·have := num_app 1 1 (by decide) rest
  have e : truL true = numL 1 1 := rfl
  unfold Rd.truth
  rw [e, this]
  rfl
theorem text_app (s : ByteArray) (h : s.size ≤ 255) (rest : List UInt8) : (Rd.mk (textL s ++ rest) false).text = (s, ⟨rest, false⟩) := by
 unfold Rd.text textL
 rw [List.append_assoc, num_app s.size 1 (by omega)]
 have hl : s.data.toList.length = s.size := rfl
 have := raw_app s.data.toList rest
 rw [hl] at this
 rw [this]
theorem list_app {α : Type} {one : Rd → α × Rd} {enc : α → List UInt8} : ∀ (l : List α) (rest : List UInt8), (∀ x ∈ l, ∀ r, one ⟨enc x ++ r, false⟩ = (x, ⟨r, false⟩)) → Rd.list one l.length ⟨l.flatMap enc ++ rest, false⟩ = (l, ⟨rest, false⟩)
 | [], rest, _ => rfl
 | x :: l, rest, h => by
  rw [List.length_cons, Rd.list, if_neg (by simp), List.flatMap_cons, List.append_assoc, h x (by simp)]
  simp only
  rw [list_app l rest (fun y hy => h y (by simp [hy]))]
theorem two_app (n : Int) (h : 0 ≤ n) (h2 : n ≤ 65535) (rest : List UInt8) : (Rd.mk (numL n.toNat 2 ++ rest) false).two = (n, ⟨rest, false⟩) := by
 unfold Rd.two
 rw [num_app n.toNat 2 (by omega)]
 simp only [Int.toNat_of_nonneg h]
theorem one_app (n : Int) (h : 0 ≤ n) (h2 : n ≤ 255) (rest : List UInt8) : (Rd.mk (numL n.toNat 1 ++ rest) false).one = (n, ⟨rest, false⟩) := by
 unfold Rd.one
 rw [num_app n.toNat 1 (by omega)]
 simp only [Int.toNat_of_nonneg h]
theorem inB_iff {n a b : Int} : inB n a b = true ↔ a ≤ n ∧ n ≤ b := by simp [inB]
theorem proc_app (p : PrcD) (m : ModD) (hm : m.code.size ≤ 65535) (h : prcB p m = true) (rest : List UInt8) : (Rd.mk (prcL p ++ rest) false).proc = (p, ⟨rest, false⟩) := by
 unfold prcB at h
 simp only [Bool.and_eq_true, inB_iff] at h
 obtain ⟨⟨⟨⟨h1, h2⟩, h3⟩, h4⟩, h5⟩ := h
 unfold Rd.proc prcL
 simp only [List.append_assoc]
 rw [two_app p.at_ h4.1 (by omega)]
 simp only
 rw [two_app p.params h1.1 h1.2]
 simp only
 rw [two_app p.locals h2.1 h2.2]
 simp only
 rw [two_app p.depth h3.1 h3.2]
 simp only
 rw [one_app p.level (by omega) (by omega)]
 simp only
 rw [truth_app]
def wordsB (m : ModD) : Prop := ∀ i ∈ m.init, 0 ≤ i ∧ i ≤ 65535
theorem module_app (m : ModD) (hw : wordsB m) (h : omodB m = true) (rest : List UInt8) : (Rd.mk (packL m ++ rest) false).module = (m, ⟨rest, false⟩) := by
 have h0 := h
 unfold omodB modB at h
 simp only [Bool.and_eq_true, decide_eq_true_eq, List.all_eq_true, inB_iff] at h
 obtain ⟨⟨a1, a2⟩, ⟨⟨⟨⟨⟨⟨⟨b1, b2⟩, b3⟩, b4⟩, b5⟩, b6⟩, b7⟩, b8⟩⟩ := h
 unfold Rd.module packL
 simp only [List.append_assoc]
 rw [num_app m.code.size 2 (by omega)]
 simp only
 have hl : m.code.data.toList.length = m.code.size := rfl
 have hr := raw_app m.code.data.toList
 simp only [hl] at hr
 rw [hr]
 simp only
 rw [num_app m.procs.length 2 (by omega)]
 simp only
 rw [list_app m.procs _ (fun p hp r => proc_app p _ b1 (b6 p hp) r)]
 simp only
 rw [num_app m.imports.length 1 (by omega)]
 simp only
 rw [list_app (enc := fun i : Int => numL i.toNat 1) m.imports _ (fun i hi r => one_app i (a2 i hi).1 (by have := (a2 i hi).2; omega) r)]
 simp only
 rw [two_app m.data (by omega) b5.2]
 simp only
 rw [num_app m.init.length 2 (by have := b5.1; have := b5.2; omega)]
 simp only
 rw [list_app (enc := fun i : Int => numL i.toNat 2) m.init _ (fun i hi r => two_app i (hw i hi).1 (hw i hi).2 r)]
 simp only [h0]
 rfl
theorem use_app (u : UseD) (hm : u.module.size ≤ 255) (hk : 0 ≤ u.key ∧ u.key < 18446744073709551616) (rest : List UInt8) : (Rd.mk (useL u ++ rest) false).use = (u, ⟨rest, false⟩) := by
 unfold Rd.use useL
 simp only [List.append_assoc]
 rw [text_app u.module hm]
 simp only
 rw [num_app u.key.toNat 8 (by omega)]
 simp only [Int.toNat_of_nonneg hk.1]
structure objW (o : ObjD) : Prop where
 key : 0 ≤ o.key ∧ o.key < 18446744073709551616
 keys : ∀ u ∈ o.uses, 0 ≤ u.key ∧ u.key < 18446744073709551616
 words : wordsB o.mod
theorem usesB_names : ∀ (l : List UseD) (seen : List ByteArray), usesB seen l = true → ∀ u ∈ l, u.module.size ≤ 255
 | [], _, _, u, hu => by cases hu
 | x :: l, seen, h, u, hu => by
  unfold usesB at h
  simp only [Bool.and_eq_true] at h
  rcases List.mem_cons.1 hu with e | e
  ·rw [e]
   have := h.1.1
   unfold nameB at this
   simp at this
   exact this.2
  ·exact usesB_names l _ h.2 u e
theorem obj_app (o : ObjD) (hw : objW o) (h : objB o = true) : (Rd.mk (bodyL o) false).obj = (o, ⟨[], false⟩) := by
 unfold objB nameB at h
 simp only [Bool.and_eq_true, decide_eq_true_eq] at h
 obtain ⟨⟨⟨⟨⟨n1, n2⟩, u1⟩, i1⟩, u2⟩, m1⟩ := h
 unfold Rd.obj bodyL
 simp only [List.append_assoc]
 rw [text_app o.module n2]
 simp only
 rw [truth_app]
 simp only
 rw [num_app o.key.toNat 8 (by have := hw.key; omega)]
 simp only
 rw [num_app o.uses.length 1 (by omega)]
 simp only
 rw [list_app o.uses _ (fun u hu r => use_app u (usesB_names _ _ u2 u hu) (hw.keys u hu) r)]
 simp only
 have := module_app o.mod hw.words m1 []
 rw [List.append_nil] at this
 rw [this]
 simp only [Int.toNat_of_nonneg hw.key.1]
theorem keyL_lt (l : List UInt8) : keyL l < 256 ^ 8 := by
 unfold keyL ofN
 have h1 := moreN_lt (h := 14695981039346656037) (by decide) (l.map UInt8.toNat)
 refine Nat.xor_lt_two_pow (n := 64) h1 ?_
 rw [Nat.shiftRight_eq_div_pow]
 omega
theorem head_file (kind l : List UInt8) (hk : kind.length = 4) : headP kind (fileL kind l) = some (keyL l, l) := by
 unfold headP fileL
 have h1 : (kind ++ numL (keyL l) 8 ++ l).length = 12 + l.length := by rw [List.length_append, List.length_append, hk, numL_len]
 have h2 : (kind ++ numL (keyL l) 8 ++ l).take 4 = kind := by rw [List.append_assoc, List.take_append, hk, Nat.sub_self, List.take_zero, List.append_nil, ← hk, List.take_length]
 have h3 : (kind ++ numL (keyL l) 8 ++ l).drop 4 = numL (keyL l) 8 ++ l := by rw [List.append_assoc, List.drop_append, hk, Nat.sub_self, List.drop_zero, ← hk, List.drop_length, List.nil_append]
 have h4 : (numL (keyL l) 8 ++ l).take 8 = numL (keyL l) 8 := by
  have := numL_len (keyL l) 8
  rw [List.take_append, this, Nat.sub_self, List.take_zero, List.append_nil, List.take_of_length_le (by omega)]
 have h5 : (kind ++ numL (keyL l) 8 ++ l).drop 12 = l := by
  rw [List.drop_append, List.length_append, hk, numL_len, List.drop_eq_nil_of_le (by rw [List.length_append, hk, numL_len]; omega)]
  simp
 rw [if_neg (by rw [h1, h2]; simp), h3, h4, h5, valN_numL 8 _ (keyL_lt l)]
theorem decode_encode (o : ObjD) (hw : objW o) (h : objB o = true) : decodeP (fileL objKind (bodyL o)) = (o, 0) := by
 unfold decodeP
 rw [head_file _ _ rfl]
 simp only
 rw [obj_app o hw h, h]
 simp
theorem valN_inj : ∀ (l m : List UInt8), l.length = m.length → valN l = valN m → l = m := by
 have key : ∀ (n : Nat) (l m : List UInt8), l.length = n → m.length = n → valN l = valN m → l = m := by
  intro n
  induction n with
  | zero =>
   intro l m hl hm _
   rw [List.eq_nil_of_length_eq_zero hl, List.eq_nil_of_length_eq_zero hm]
  | succ n ih =>
   intro l m hl hm h
   have dl : l = l.dropLast ++ [l.getLast (by intro e; rw [e] at hl; cases hl)] := (List.dropLast_concat_getLast _).symm
   have dm : m = m.dropLast ++ [m.getLast (by intro e; rw [e] at hm; cases hm)] := (List.dropLast_concat_getLast _).symm
   generalize l.getLast (by intro e; rw [e] at hl; cases hl) = x at dl
   generalize m.getLast (by intro e; rw [e] at hm; cases hm) = y at dm
   rw [dl, dm, valN_snoc, valN_snoc] at h
   have hx := x.toNat_lt
   have hy := y.toNat_lt
   have e1 : valN l.dropLast = valN m.dropLast := by omega
   have e2 : x.toNat = y.toNat := by omega
   rw [dl, dm, ih l.dropLast m.dropLast (by simp [hl]) (by simp [hm]) e1, UInt8.toNat_inj.1 e2]
 exact fun l m hl => key m.length l m hl rfl
theorem set_keyL (l : List UInt8) (k : Nat) (hk : k < l.length) (c : UInt8) : keyL (l.set k c) = keyL l ↔ c = l[k] := by
 unfold keyL
 have hlt := fun m : List UInt8 => moreN_lt (h := 14695981039346656037) (by decide) (m.map UInt8.toNat)
 rw [ofN_inj (hlt _) (hlt _), List.map_set, moreN_set (l := l.map UInt8.toNat) (fun x hx => by obtain ⟨b, _, rfl⟩ := List.mem_map.1 hx; exact b.toNat_lt) (by decide) c.toNat_lt (by simpa using hk), List.getElem_map]
 exact UInt8.toNat_inj
theorem head_set (kind l : List UInt8) (hk : kind.length = 4) (at_ : Nat) (c : UInt8) (hat : at_ < (fileL kind l).length) (hc : c ≠ (fileL kind l)[at_]) : headP kind ((fileL kind l).set at_ c) = none ∨ ∃ k s, headP kind ((fileL kind l).set at_ c) = some (k, s) ∧ k ≠ keyL s := by
 have hh := head_file kind l hk
 generalize hf : fileL kind l = f at *
 unfold headP at hh ⊢
 rw [List.length_set]
 by_cases h1 : f.length < 12 ∨ f.take 4 ≠ kind
 ·rw [if_pos h1] at hh; cases hh
 ·rw [if_neg h1] at hh
  have h12 : ¬ f.length < 12 := fun h => h1 (.inl h)
  have htk : f.take 4 = kind := Classical.byContradiction fun h => h1 (.inr h)
  simp only [Option.some.injEq, Prod.mk.injEq] at hh
  obtain ⟨hv, hd⟩ := hh
  by_cases c4 : at_ < 4
  ·left
   rw [if_pos]
   right
   rw [List.take_set, htk]
   intro e
   have := congrArg (fun x : List UInt8 => x[at_]?) e
   simp only [List.getElem?_set_self (show at_ < kind.length by omega)] at this
   have e2 : kind[at_]? = some f[at_] := by rw [← htk, List.getElem?_take, if_pos c4, List.getElem?_eq_getElem hat]
   rw [e2] at this
   injection this with this
   exact hc this
  ·right
   have htk' : (f.set at_ c).take 4 = kind := by
    rw [List.take_set, htk, List.set_eq_of_length_le (by omega)]
   rw [if_neg (by rw [htk']; simp; omega)]
   refine ⟨_, _, rfl, ?_⟩
   by_cases c12 : at_ < 12
   ·have e1 : (f.set at_ c).drop 12 = l := by rw [List.drop_set, if_pos c12]; exact hd
    rw [e1, ← hv]
    intro e
    rw [List.drop_set, if_neg c4, List.take_set] at e
    have e3 := valN_inj _ _ (by simp) e
    have := congrArg (fun x : List UInt8 => x[at_ - 4]?) e3
    have hlen : at_ - 4 < ((f.drop 4).take 8).length := by rw [List.length_take, List.length_drop]; omega
    simp only [List.getElem?_set_self hlen] at this
    have e2 : ((f.drop 4).take 8)[at_ - 4]? = some f[at_] := by rw [List.getElem?_take, if_pos (by omega), List.getElem?_drop, show 4 + (at_ - 4) = at_ by omega, List.getElem?_eq_getElem hat]
    rw [e2] at this
    injection this with this
    exact hc this
   ·have e1 : (f.set at_ c).drop 12 = l.set (at_ - 12) c := by rw [List.drop_set, if_neg c12, hd]
    have e2 : ((f.set at_ c).drop 4).take 8 = (f.drop 4).take 8 := by
     rw [List.drop_set, if_neg c4, List.take_set, List.set_eq_of_length_le (by rw [List.length_take, List.length_drop]; omega)]
    rw [e1, e2, hv]
    have hl : at_ - 12 < l.length := by rw [← hd, List.length_drop]; omega
    intro e
    have := (set_keyL l (at_ - 12) hl c).1 e.symm
    have e3 : l[at_ - 12]? = some f[at_] := by rw [← hd, List.getElem?_drop, show 12 + (at_ - 12) = at_ by omega, List.getElem?_eq_getElem hat]
    rw [List.getElem?_eq_getElem hl] at e3
    injection e3 with e3
    exact hc (this.trans e3)
end Go.Proofs.YtildcdgobdfieaaGreat
