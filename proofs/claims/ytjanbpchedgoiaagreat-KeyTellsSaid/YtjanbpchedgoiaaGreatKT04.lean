/- Linking, as plain data: modules, objects, in which order they begin, what is linked. The plain law of the order. No conditions. -/
import Derived.Test.YtjanbpchedgoiaaGreatKT02
set_option linter.unusedVariables false
set_option linter.unusedSimpArgs false
set_option maxRecDepth 100000
set_option maxHeartbeats 32000000
namespace Go.Proofs.YtjanbpchedgoiaaGreat
structure PrcD where
 at_ : Int
 params : Int
 locals : Int
 depth : Int
 level : Int
 func : Bool
structure ModD where
 code : ByteArray
 procs : List PrcD
 imports : List Int
 data : Int
 init : List Int
structure UseD where
 module : ByteArray
 key : Int
structure ObjD where
 module : ByteArray
 main : Bool
 key : Int
 uses : List UseD
 mod : ModD
structure NeedD where
 module : ByteArray
 needs : List ByteArray
def inL (m : ByteArray) (l : List ByteArray) : Bool := l.any (fun x => decide (x = m))
theorem inL_iff {m : ByteArray} {l : List ByteArray} : inL m l = true ↔ m ∈ l := by
 unfold inL
 rw [List.any_eq_true]
 constructor
 ·rintro ⟨x, hx, e⟩
  rw [← of_decide_eq_true e]; exact hx
 ·exact fun h => ⟨m, h, qdtq rfl⟩
def inB (n low high : Int) : Bool := decide (low ≤ n) && decide (n ≤ high)
def prcB (p : PrcD) (m : ModD) : Bool := inB p.params 0 65535 && inB p.locals 0 65535 && inB p.depth 0 65535 && inB p.at_ 0 (m.code.size : Int) && inB p.level 1 16
def bodyB : List PrcD → Bool
 | [] => false
 | p :: _ => decide (p.level = 1) && decide (p.params = 0) && !p.func
def modB (m : ModD) (n : Int) : Bool :=
 decide (m.code.size ≤ 65535) && decide (1 ≤ m.procs.length) && decide (m.procs.length ≤ 1024) && decide (m.imports.length ≤ 255) && inB m.data (m.init.length : Int) 65535 &&
  m.procs.all (fun p => prcB p m) && m.imports.all (fun i => inB i 0 (n - 1)) && bodyB m.procs
def omodB (m : ModD) : Bool := decide (m.imports.length ≤ 255) && m.imports.all (fun i => inB i 0 63) && modB { m with imports := [] } 1
structure Tr where
 st : ByteArray → Nat
 ord : List ByteArray
inductive Res where
 | ok (t : Tr)
 | err (who : ByteArray) (e : Int)
def Tr.set (t : Tr) (m : ByteArray) (n : Nat) : Tr := ⟨fun x => if x = m then n else t.st x, t.ord⟩
def Tr.done (t : Tr) (m : ByteArray) : Tr := ⟨fun x => if x = m then 2 else t.st x, t.ord ++ [m]⟩
def Le (t t' : Tr) : Prop := ∀ m, t'.st m = 0 → t.st m = 0
theorem Le.refl (t : Tr) : Le t t := fun _ h => h
theorem Le.trans {a b c : Tr} (h : Le a b) (k : Le b c) : Le a c := fun m hm => h m (k m hm)
theorem filter_len {α : Type} (p q : α → Bool) (h : ∀ x, p x = true → q x = true) : ∀ l : List α, (l.filter p).length ≤ (l.filter q).length
 | [] => Nat.le_refl _
 | x :: l => by
  have := filter_len p q h l
  cases hp : p x with
  | true => rw [List.filter_cons_of_pos hp, List.filter_cons_of_pos (h x hp)]; simpa using this
  | false =>
   rw [List.filter_cons_of_neg (by simp [hp])]
   cases hq : q x with
   | true => rw [List.filter_cons_of_pos hq, List.length_cons]; omega
   | false => rw [List.filter_cons_of_neg (by simp [hq])]; exact this
theorem filter_len_lt {α : Type} (p q : α → Bool) (h : ∀ x, p x = true → q x = true) (y : α) (hy : p y = false) (hz : q y = true) : ∀ l : List α, y ∈ l → (l.filter p).length < (l.filter q).length
 | [], hm => by cases hm
 | x :: l, hm => by
  rcases List.mem_cons.1 hm with e | e
  ·subst e
   rw [List.filter_cons_of_neg (by simp [hy]), List.filter_cons_of_pos hz, List.length_cons]
   have := filter_len p q h l
   omega
  ·have ih := filter_len_lt p q h y hy hz l e
   cases hp : p x with
   | true => rw [List.filter_cons_of_pos hp, List.filter_cons_of_pos (h x hp)]; simpa using ih
   | false =>
    rw [List.filter_cons_of_neg (by simp [hp])]
    cases hq : q x with
    | true => rw [List.filter_cons_of_pos hq, List.length_cons]; omega
    | false => rw [List.filter_cons_of_neg (by simp [hq])]; exact ih
theorem Le.set (t : Tr) (m : ByteArray) (n : Nat) (hn : n ≠ 0) : Le t (t.set m n) := fun x hx => by
 have hx' : (if x = m then n else t.st x) = 0 := hx
 by_cases e : x = m
 ·rw [if_pos e] at hx'; exact absurd hx' hn
 ·rwa [if_neg e] at hx'
theorem Le.done (t : Tr) (m : ByteArray) : Le t (t.done m) := fun x hx => by
 have hx' : (if x = m then 2 else t.st x) = 0 := hx
 by_cases e : x = m
 ·rw [if_pos e] at hx'; cases hx'
 ·rwa [if_neg e] at hx'
structure Inv (all : ByteArray → Option (List ByteArray)) (t : Tr) : Prop where
 le2 : ∀ m, t.st m ≤ 2
 two : ∀ m, t.st m = 2 ↔ m ∈ t.ord
 nodup : t.ord.Nodup
 ahead : ∀ (i : Nat) (m : ByteArray), t.ord[i]? = some m → ∃ l, all m = some l ∧ ∀ n ∈ l, ∃ j, j < i ∧ t.ord[j]? = some n
structure Gone (t t' : Tr) : Prop where
 one : ∀ m, t'.st m = 1 ↔ t.st m = 1
 more : ∃ x, t'.ord = t.ord ++ x
theorem Gone.refl (t : Tr) : Gone t t := ⟨fun _ => Iff.rfl, [], by simp⟩
theorem Gone.trans {a b c : Tr} (h : Gone a b) (k : Gone b c) : Gone a c :=
 ⟨fun m => (k.one m).trans (h.one m), by
  obtain ⟨x, hx⟩ := h.more
  obtain ⟨y, hy⟩ := k.more
  exact ⟨x ++ y, by rw [hy, hx, qapq]⟩⟩
def numL (n : Nat) : Nat → List UInt8
 | 0 => []
 | k + 1 => UInt8.ofNat (n / 256 ^ k % 256) :: numL n k
theorem numL_len (n : Nat) : ∀ k, (numL n k).length = k
 | 0 => rfl
 | k + 1 => by rw [numL, List.length_cons, numL_len n k]
def truL (b : Bool) : List UInt8 := if b then [1] else [0]
def textL (s : ByteArray) : List UInt8 := numL s.size 1 ++ s.data.toList
def useL (u : UseD) : List UInt8 := textL u.module ++ numL u.key.toNat 8
structure Rd where
 s : List UInt8
 bad : Bool
def valN (l : List UInt8) : Nat := l.foldl (fun n c => 256 * n + c.toNat) 0
def Rd.raw (r : Rd) (n : Nat) : List UInt8 × Rd := if r.bad = true ∨ r.s.length < n then ([], ⟨r.s, true⟩) else (r.s.take n, ⟨r.s.drop n, false⟩)
def Rd.num (r : Rd) (size : Nat) : Nat × Rd := (valN (r.raw size).1, (r.raw size).2)
def Rd.truth (r : Rd) : Bool × Rd := (decide ((r.num 1).1 = 1), ⟨(r.num 1).2.s, (r.num 1).2.bad || decide (1 < (r.num 1).1)⟩)
def Rd.text (r : Rd) : ByteArray × Rd := (⟨(((r.num 1).2.raw (r.num 1).1).1).toArray⟩, ((r.num 1).2.raw (r.num 1).1).2)
def Rd.list {α : Type} (one : Rd → α × Rd) : Nat → Rd → List α × Rd
 | 0, r => ([], r)
 | n + 1, r => if r.bad = true then ([], r) else ((one r).1 :: (Rd.list one n (one r).2).1, (Rd.list one n (one r).2).2)
def Rd.two (r : Rd) : Int × Rd := (((r.num 2).1 : Int), (r.num 2).2)
def Rd.one (r : Rd) : Int × Rd := (((r.num 1).1 : Int), (r.num 1).2)
def Rd.proc (r : Rd) : PrcD × Rd :=
 let a := r.two
 let b := a.2.two
 let c := b.2.two
 let d := c.2.two
 let e := d.2.one
 let f := e.2.truth
 (⟨a.1, b.1, c.1, d.1, e.1, f.1⟩, f.2)
def Rd.module (r : Rd) : ModD × Rd :=
 let a := r.num 2
 let b := a.2.raw a.1
 let c := b.2.num 2
 let d := c.2.list Rd.proc c.1
 let e := d.2.num 1
 let f := e.2.list Rd.one e.1
 let g := f.2.two
 let h := g.2.num 2
 let i := h.2.list Rd.two h.1
 let m : ModD := ⟨⟨b.1.toArray⟩, d.1, f.1, g.1, i.1⟩
 (m, ⟨i.2.s, i.2.bad || !omodB m⟩)
theorem toNat_ofNat (n : Nat) (h : n < 256) : (UInt8.ofNat n).toNat = n := by
 rw [UInt8.toNat_ofNat']
 exact Nat.mod_eq_of_lt h
theorem inB_iff {n a b : Int} : inB n a b = true ↔ a ≤ n ∧ n ≤ b := by simp [inB]
def wordsB (m : ModD) : Prop := ∀ i ∈ m.init, 0 ≤ i ∧ i ≤ 65535
structure objW (o : ObjD) : Prop where
 key : 0 ≤ o.key ∧ o.key < 18446744073709551616
 keys : ∀ u ∈ o.uses, 0 ≤ u.key ∧ u.key < 18446744073709551616
 words : wordsB o.mod
inductive AnyD where
 | nil
 | whole (n : Int)
 | letter (n : Int)
 | truth (b : Bool)
 | bits (n : Int)
 | str (s : ByteArray)
 | item (t n : Int)
 | null
 | other
structure ItmD where
 name : ByteArray
 kind : Int
 type : Int
 at_ : Int
 v : AnyD
structure FaceD where
 module : ByteArray
 uses : List UseD
 types : List Ty
 items : List ItmD
def shB (s : ByteArray) : Bool := decide (s.size ≤ 255)
def fwB (n : Nat) : Bool := decide (n ≤ 65535)
def smB (n : Int) : Bool := inB n (-2147483648) 2147483647
def tyB (nt : Nat) (n : Int) : Bool := inB n 0 (9 + (nt : Int))
def armFit (a : ArmD) : Bool := fwB a.frm.length && fwB a.to.length
def tyFit (t : Ty) : Bool :=
 shB t.module && shB t.name && fwB t.names.length && fwB t.fields.length && fwB t.arms.length && fwB t.params.length && t.names.all shB && t.fields.all (fun f => shB f.name) && t.arms.all armFit
def anyFit : AnyD → Bool
 | .str s => fwB s.size
 | _ => true
def itmFit (x : ItmD) : Bool := shB x.name && anyFit x.v
def faceFit (f : FaceD) : Bool :=
 decide (f.uses.length ≤ 64) && decide (f.items.length ≤ 512) && decide (f.types.length ≤ 1024) && shB f.module && f.uses.all (fun u => shB u.module) && f.types.all tyFit && f.items.all itmFit
def onceB : List ByteArray → List ByteArray → Bool
 | _, [] => true
 | seen, s :: l => !(inL s seen) && onceB (seen ++ [s]) l
def armForm (a : ArmD) : Bool := decide (a.frm.length = a.to.length) && a.frm.all smB && a.to.all smB
def tyForm (nt : Nat) (t : Ty) : Bool :=
 tyB nt t.base && tyB nt t.index && tyB nt t.result && smB t.low && smB t.high && t.fields.all (fun f => tyB nt f.type && smB f.arm) && t.arms.all armForm && t.params.all (fun p => tyB nt p.type)
def anyForm (nt : Nat) : AnyD → Bool
 | .whole n => smB n
 | .item t n => tyB nt t && smB n
 | .other => false
 | _ => true
def itmForm (nt : Nat) (x : ItmD) : Bool := tyB nt x.type && smB x.at_ && anyForm nt x.v
def faceForm (f : FaceD) : Bool := f.types.all (tyForm f.types.length) && f.items.all (itmForm f.types.length)
def mayP (f : FaceD) : Int :=
 if faceFit f then if onceB [] (f.uses.map UseD.module) && onceB [] (f.items.map ItmD.name) then if faceForm f then 0 else 7 else 6 else 5
def fourL (n : Int) : List UInt8 := numL (n % 4294967296).toNat 4
def fldL (f : Fld) : List UInt8 := textL f.name ++ fourL f.type ++ fourL f.arm
def pairL (p : Int × Int) : List UInt8 := fourL p.1 ++ fourL p.2
def armL (a : ArmD) : List UInt8 := numL a.frm.length 2 ++ (a.frm.zip a.to).flatMap pairL ++ truL a.els
def parL (p : Par) : List UInt8 := truL p.var ++ fourL p.type
def tyL (t : Ty) : List UInt8 :=
 numL t.kind.toNat 1 ++ textL t.module ++ textL t.name ++ fourL t.base ++ fourL t.index ++ fourL t.low ++ fourL t.high ++ numL t.names.length 2 ++ t.names.flatMap textL ++ numL t.fields.length 2 ++ t.fields.flatMap fldL ++
  numL t.arms.length 2 ++ t.arms.flatMap armL ++ numL t.params.length 2 ++ t.params.flatMap parL ++ fourL t.result
def anyL : AnyD → List UInt8
 | .nil => numL 0 1
 | .whole n => numL 1 1 ++ fourL n
 | .letter n => numL 2 1 ++ numL n.toNat 1
 | .truth b => numL 3 1 ++ truL b
 | .bits n => numL 4 1 ++ numL n.toNat 2
 | .str s => numL 5 1 ++ (numL s.size 2 ++ s.data.toList)
 | .item t n => numL 6 1 ++ (fourL t ++ fourL n)
 | .null => numL 7 1
 | .other => numL 0 1
def itmL (x : ItmD) : List UInt8 := textL x.name ++ numL x.kind.toNat 1 ++ fourL x.type ++ fourL x.at_ ++ anyL x.v
def faceL (f : FaceD) : List UInt8 :=
 textL f.module ++ numL f.uses.length 2 ++ f.uses.flatMap useL ++ numL f.types.length 2 ++ f.types.flatMap tyL ++ numL f.items.length 2 ++ f.items.flatMap itmL
def encFaceP (f : FaceD) : List UInt8 × Int := if mayP f = 0 then (faceL f, 0) else ([], mayP f)
def signN (n : Nat) : Int := if n < 2147483648 then (n : Int) else (n : Int) - 4294967296
def Rd.four (r : Rd) : Int × Rd := (signN (r.num 4).1, (r.num 4).2)
def Rd.fld (r : Rd) : Fld × Rd :=
 let a := r.text
 let b := a.2.four
 let c := b.2.four
 (⟨a.1, b.1, c.1⟩, c.2)
def Rd.pair (r : Rd) : (Int × Int) × Rd :=
 let a := r.four
 let b := a.2.four
 ((a.1, b.1), b.2)
def Rd.arm (r : Rd) : ArmD × Rd :=
 let a := r.num 2
 let b := a.2.list Rd.pair a.1
 let c := b.2.truth
 (⟨b.1.map Prod.fst, b.1.map Prod.snd, c.1⟩, c.2)
def Rd.par (r : Rd) : Par × Rd :=
 let a := r.truth
 let b := a.2.four
 (⟨a.1, b.1⟩, b.2)
def Rd.lst {α : Type} (one : Rd → α × Rd) (r : Rd) : List α × Rd := (r.num 2).2.list one (r.num 2).1
def Rd.ty (r : Rd) : Ty × Rd :=
 let k := r.one
 let a := k.2.text
 let b := a.2.text
 let c := b.2.four
 let d := c.2.four
 let e := d.2.four
 let f := e.2.four
 let g := f.2.lst Rd.text
 let h := g.2.lst Rd.fld
 let i := h.2.lst Rd.arm
 let j := i.2.lst Rd.par
 let l := j.2.four
 (⟨k.1, a.1, b.1, c.1, d.1, e.1, f.1, g.1, h.1, i.1, j.1, l.1⟩, l.2)
def Rd.any (r : Rd) : AnyD × Rd :=
 let k := r.num 1
 match k.1 with
 | 0 => (.nil, k.2)
 | 1 => (.whole k.2.four.1, k.2.four.2)
 | 2 => (.letter k.2.one.1, k.2.one.2)
 | 3 => (.truth k.2.truth.1, k.2.truth.2)
 | 4 => (.bits k.2.two.1, k.2.two.2)
 | 5 => (.str ⟨((k.2.num 2).2.raw (k.2.num 2).1).1.toArray⟩, ((k.2.num 2).2.raw (k.2.num 2).1).2)
 | 6 => (.item k.2.four.1 k.2.four.2.four.1, k.2.four.2.four.2)
 | 7 => (.null, k.2)
 | _ => (.nil, ⟨k.2.s, true⟩)
def noFace : FaceD := ⟨⟨#[]⟩, [], [], []⟩
theorem smB_iff {n : Int} : smB n = true ↔ -2147483648 ≤ n ∧ n ≤ 2147483647 := inB_iff
theorem tyB_sm {nt : Nat} (hn : nt ≤ 1024) {n : Int} (h : tyB nt n = true) : smB n = true := by
 obtain ⟨h1, h2⟩ := inB_iff.1 h
 exact smB_iff.2 ⟨by omega, by omega⟩
def anyW : AnyD → Prop
 | .letter n => 0 ≤ n ∧ n ≤ 255
 | .bits n => 0 ≤ n ∧ n ≤ 65535
 | _ => True
structure faceW (f : FaceD) : Prop where
 keys : ∀ u ∈ f.uses, 0 ≤ u.key ∧ u.key < 18446744073709551616
 kinds : ∀ t ∈ f.types, 0 ≤ t.kind ∧ t.kind ≤ 255
 sorts : ∀ x ∈ f.items, 0 ≤ x.kind ∧ x.kind ≤ 255
 vals : ∀ x ∈ f.items, anyW x.v
theorem face_parts {f : FaceD} (h : mayP f = 0) : faceFit f = true ∧ onceB [] (f.uses.map UseD.module) = true ∧ onceB [] (f.items.map ItmD.name) = true ∧ faceForm f = true := by
 unfold mayP at h
 by_cases h1 : faceFit f = true
 ·rw [if_pos h1] at h
  by_cases h2 : (onceB [] (f.uses.map UseD.module) && onceB [] (f.items.map ItmD.name)) = true
  ·rw [if_pos h2] at h
   by_cases h3 : faceForm f = true
   ·rw [Bool.and_eq_true] at h2
    exact ⟨h1, h2.1, h2.2, h3⟩
   ·rw [if_neg h3] at h; exact absurd h (by decide)
  ·rw [if_neg h2] at h; exact absurd h (by decide)
 ·rw [if_neg h1] at h; exact absurd h (by decide)
end Go.Proofs.YtjanbpchedgoiaaGreat
namespace Go.Proofs.YtjanbpchedgoiaaGreat
open Go.RowKit
structure KV where
 sort : Nat
 n : Int
 t : Int
 s : ByteArray
def KV.is (x : KV) (k : Nat) : Bool := x.sort == k
def KV.num (x : KV) (k : Nat) : Int := if x.sort = k then x.n else 0
def KV.str (x : KV) : ByteArray := if x.sort = 5 then x.s else ⟨#[]⟩
def KV.val (x : KV) : Value :=
 if x.sort = 1 then .iface 96 (.int .i64 x.n) else if x.sort = 2 then .iface 97 (.int .u8 x.n) else if x.sort = 3 then .iface 98 (.bool (x.n == 1))
 else if x.sort = 4 then .iface 100 (.int .u16 x.n) else if x.sort = 5 then .iface 101 (.string x.s) else if x.sort = 6 then .iface 86 (.agg #[.int .i64 x.t, .int .i64 x.n])
 else if x.sort = 7 then .iface 103 (.agg #[]) else if x.sort = 8 then .iface 2 (.int .i64 x.n) else .nilIface
theorem as_self {T xT : TypeId} {u : TypeDesc} (hu : Tryz.prog.underlying T = some u) (hi : (match u with | .interface _ => true | _ => false) = false) (v : Value) (w : World) :
  (Instr.typeAssert (.iface T v) xT T true).run Tryz.prog w = .ok (.tuple #[v, .bool true]) w := by
 cases u <;> first | (cases hi; done) | simp [Instr.typeAssert, run_underlying hu]
theorem as_other {T xT t : TypeId} {u : TypeDesc} {z : Value} (hu : Tryz.prog.underlying T = some u) (hi : (match u with | .interface _ => true | _ => false) = false) (hz : ∀ w, (zeroValue T).run Tryz.prog w = .ok z w) (ht : t ≠ T) (v : Value) (w : World) :
  (Instr.typeAssert (.iface t v) xT T true).run Tryz.prog w = .ok (.tuple #[z, .bool false]) w := by
 cases u <;> first | (cases hi; done) | simp [Instr.typeAssert, run_underlying hu, ht, hz]
theorem as_nil {T xT : TypeId} {u : TypeDesc} {z : Value} (hu : Tryz.prog.underlying T = some u) (hi : (match u with | .interface _ => true | _ => false) = false) (hz : ∀ w, (zeroValue T).run Tryz.prog w = .ok z w) (w : World) :
  (Instr.typeAssert .nilIface xT T true).run Tryz.prog w = .ok (.tuple #[z, .bool false]) w := by
 cases u <;> first | (cases hi; done) | simp [Instr.typeAssert, run_underlying hu, hz]
theorem flatF_at {α : Type} {g : α → List Value} {size : Nat} (hg : ∀ x, (g x).length = size) : ∀ (l : List α) (i j : Nat) (x : α), l[i]? = some x → j < size → (l.flatMap g)[i * size + j]? = (g x)[j]?
 | [], i, j, x, h, _ => by simp at h
 | y :: l, 0, j, x, h, hj => by
  simp only [qgzq, Option.some.injEq] at h
  subst h
  rw [qfcq, Nat.zero_mul, Nat.zero_add, qglq (by rw [hg]; exact hj)]
 | y :: l, i + 1, j, x, h, hj => by
  rw [qgsq] at h
  rw [qfcq, qgrq (by rw [hg, Nat.succ_mul]; omega), hg, show (i + 1) * size + j - size = i * size + j by rw [Nat.succ_mul]; omega]
  exact flatF_at hg l i j x h hj
def AnyD.val : AnyD → Value
 | .nil => .nilIface
 | .whole n => .iface 96 (.int .i64 n)
 | .letter n => .iface 97 (.int .u8 n)
 | .truth b => .iface 98 (.bool b)
 | .bits n => .iface 100 (.int .u16 n)
 | .str s => .iface 101 (.string s)
 | .item t n => .iface 86 (.agg #[.int .i64 t, .int .i64 n])
 | .null => .iface 103 (.agg #[])
 | .other => .iface 9 (.string ⟨#[110, 111, 110, 101]⟩)
def AnyD.sort : AnyD → Nat
 | .nil => 0 | .whole _ => 1 | .letter _ => 2 | .truth _ => 3 | .bits _ => 4 | .str _ => 5 | .item _ _ => 6 | .null => 7 | .other => 8
def AnyD.wholeV : AnyD → Int | .whole n => n | _ => 0
def AnyD.letterV : AnyD → Int | .letter n => n | _ => 0
def AnyD.truthV : AnyD → Bool | .truth b => b | _ => false
def AnyD.bitsV : AnyD → Int | .bits n => n | _ => 0
def AnyD.strV : AnyD → ByteArray | .str s => s | _ => ⟨#[]⟩
def AnyD.itemT : AnyD → Int | .item t _ => t | _ => 0
def AnyD.itemN : AnyD → Int | .item _ n => n | _ => 0
theorem AnyD.val_one (v : AnyD) : v.val.oneCell' = true := by cases v <;> rfl
section
variable (v : AnyD) (w : World)
theorem anyAs_whole : (Instr.typeAssert v.val 20 96 true).run Tryz.prog w = .ok (.tuple #[.int .i64 v.wholeV, .bool (v.sort == 1)]) w := by
 cases v <;> simp only [AnyD.val, AnyD.wholeV, AnyD.sort] <;> first
  | (rw [as_self Tryz.underlying96 rfl]; rfl)
  | (rw [as_nil Tryz.underlying96 rfl Tryz.zeroValue96]; rfl)
  | (rw [as_other Tryz.underlying96 rfl Tryz.zeroValue96 (by decide)]; rfl)
theorem anyAs_letter : (Instr.typeAssert v.val 20 97 true).run Tryz.prog w = .ok (.tuple #[.int .u8 v.letterV, .bool (v.sort == 2)]) w := by
 cases v <;> simp only [AnyD.val, AnyD.letterV, AnyD.sort] <;> first
  | (rw [as_self Tryz.underlying97 rfl]; rfl)
  | (rw [as_nil Tryz.underlying97 rfl Tryz.zeroValue97]; rfl)
  | (rw [as_other Tryz.underlying97 rfl Tryz.zeroValue97 (by decide)]; rfl)
theorem anyAs_truth : (Instr.typeAssert v.val 20 98 true).run Tryz.prog w = .ok (.tuple #[.bool v.truthV, .bool (v.sort == 3)]) w := by
 cases v <;> simp only [AnyD.val, AnyD.truthV, AnyD.sort] <;> first
  | (rw [as_self Tryz.underlying98 rfl]; rfl)
  | (rw [as_nil Tryz.underlying98 rfl Tryz.zeroValue98]; rfl)
  | (rw [as_other Tryz.underlying98 rfl Tryz.zeroValue98 (by decide)]; rfl)
theorem anyAs_bits : (Instr.typeAssert v.val 20 100 true).run Tryz.prog w = .ok (.tuple #[.int .u16 v.bitsV, .bool (v.sort == 4)]) w := by
 cases v <;> simp only [AnyD.val, AnyD.bitsV, AnyD.sort] <;> first
  | (rw [as_self Tryz.underlying100 rfl]; rfl)
  | (rw [as_nil Tryz.underlying100 rfl Tryz.zeroValue100]; rfl)
  | (rw [as_other Tryz.underlying100 rfl Tryz.zeroValue100 (by decide)]; rfl)
theorem anyAs_string : (Instr.typeAssert v.val 20 101 true).run Tryz.prog w = .ok (.tuple #[.string v.strV, .bool (v.sort == 5)]) w := by
 cases v <;> simp only [AnyD.val, AnyD.strV, AnyD.sort] <;> first
  | (rw [as_self Tryz.underlying101 rfl]; rfl)
  | (rw [as_nil Tryz.underlying101 rfl Tryz.zeroValue101]; rfl)
  | (rw [as_other Tryz.underlying101 rfl Tryz.zeroValue101 (by decide)]; rfl)
theorem anyAs_item : (Instr.typeAssert v.val 20 86 true).run Tryz.prog w = .ok (.tuple #[.agg #[.int .i64 v.itemT, .int .i64 v.itemN], .bool (v.sort == 6)]) w := by
 cases v <;> simp only [AnyD.val, AnyD.itemT, AnyD.itemN, AnyD.sort] <;> first
  | (rw [as_self Tryz.underlying86 rfl]; rfl)
  | (rw [as_nil Tryz.underlying86 rfl Tryz.zeroValue86]; rfl)
  | (rw [as_other Tryz.underlying86 rfl Tryz.zeroValue86 (by decide)]; rfl)
theorem anyAs_null : (Instr.typeAssert v.val 20 103 true).run Tryz.prog w = .ok (.tuple #[.agg #[], .bool (v.sort == 7)]) w := by
 cases v <;> simp only [AnyD.val, AnyD.sort, AnyD.sort] <;> first
  | (rw [as_self Tryz.underlying103 rfl]; rfl)
  | (rw [as_nil Tryz.underlying103 rfl Tryz.zeroValue103]; rfl)
  | (rw [as_other Tryz.underlying103 rfl Tryz.zeroValue103 (by decide)]; rfl)
end
def ItmD.cells (x : ItmD) : List Value := [.string x.name, .int .u8 x.kind, .int .i64 x.type, x.v.val, .int .i64 x.at_]
theorem itm_len (x : ItmD) : x.cells.length = 5 := rfl
def UseD.cellsF (u : UseD) : List Value := [.string u.module, .int .u64 u.key]
theorem useF_len (x : UseD) : x.cellsF.length = 2 := rfl
def SlItms (w : World) (P : Nat → Prop) (v : Value) (l : List ItmD) : Prop := Sl w P 5 v l.length (l.flatMap ItmD.cells)
def SlUsesF (w : World) (P : Nat → Prop) (v : Value) (l : List UseD) : Prop := Sl w P 2 v l.length (l.flatMap UseD.cellsF)
def SlTys (w : World) (P : Nat → Prop) (v : Value) (l : List Ty) : Prop :=
 ∃ xs, Sl w P 12 v l.length xs ∧ (∀ u ∈ xs, u.oneCell' = true) ∧ ∀ i t, l[i]? = some t → ∃ vn vf va vp, (∀ j u, (t.cells vn vf va vp)[j]? = some u → xs[i * 12 + j]? = some u) ∧ Lists w P vn vf va vp t
structure FaceL (w : World) (P : Nat → Prop) (vu vt vi : Value) (f : FaceD) : Prop where
 uses : SlUsesF w P vu f.uses
 types : SlTys w P vt f.types
 items : SlItms w P vi f.items
def FaceD.val (f : FaceD) (vu vt vi : Value) : Value := .agg #[.string f.module, vu, vt, vi]
section
variable {w w' : World} {P Q : Nat → Prop} {v vu vt vi : Value}
theorem SlTys.keep {ls : List Nat} {l : List Ty} (h : SlTys w P v l) (hw : Wr ls w w') (hP : ∀ b, P b → b ∉ ls) : SlTys w' P v l := by
 obtain ⟨xs, h1, h2, h3⟩ := h
 refine ⟨xs, h1.keep hw hP, h2, fun i o hi => ?_⟩
 obtain ⟨vn, vf, va, vp, e1, e2⟩ := h3 i o hi
 exact ⟨vn, vf, va, vp, e1, e2.keep hw hP⟩
theorem SlTys.wr0 {l : List Ty} (h : SlTys w P v l) (hw : Wr [] w w') : SlTys w' P v l := h.keep hw (fun _ _ => by simp)
theorem SlTys.into {l : List Ty} (h : SlTys w P v l) (hP : ∀ b, P b → b < w.heap.size → Q b) : SlTys w Q v l := by
 obtain ⟨xs, h1, h2, h3⟩ := h
 refine ⟨xs, h1.into hP, h2, fun i o hi => ?_⟩
 obtain ⟨vn, vf, va, vp, e1, e2⟩ := h3 i o hi
 exact ⟨vn, vf, va, vp, e1, e2.into hP⟩
theorem SlTys.form {l : List Ty} (h : SlTys w P v l) : ∃ A c, v = .slice A l.length c ∧ l.length ≤ c ∧ c ≤ maxLen := by
 obtain ⟨xs, h1, h2, h3⟩ := h
 exact h1.form
theorem SlTys.nil (w : World) (P : Nat → Prop) : SlTys w P (.slice none 0 0) [] := ⟨[], Sl.nil _ _ _, by simp, fun i t h => by simp at h⟩
theorem ty_at {l : List Ty} (h : SlTys w P v l) {i : Nat} {t : Ty} (hi : l[i]? = some t) : ∃ b off c vn vf va vp, v = .slice (some ⟨b, off, none⟩) l.length c ∧ P b ∧ (∀ j u, (t.cells vn vf va vp)[j]? = some u → w.cell? ⟨b, off + i * 12 + j, none⟩ = some u) ∧ Lists w P vn vf va vp t := by
 obtain ⟨xs, h1, h2, h3⟩ := h
 obtain ⟨vn, vf, va, vp, e1, e2⟩ := h3 i t hi
 obtain ⟨b, off, c, e, _, _, hP, h4⟩ := Sl.thing h1 (by decide) (List.getElem?_eq_some_iff.1 hi).1
 refine ⟨b, off, c, vn, vf, va, vp, e, hP, fun j u hj => ?_, e2⟩
 have hj9 : j < 12 := (List.getElem?_eq_some_iff.1 hj).1
 rw [Nat.add_assoc]
 exact h4 j u hj9 (e1 j u hj)
theorem itm_at {l : List ItmD} (h : SlItms w P v l) {i : Nat} {x : ItmD} (hi : l[i]? = some x) : ∃ b off c, v = .slice (some ⟨b, off, none⟩) l.length c ∧ P b ∧ ∀ j u, x.cells[j]? = some u → w.cell? ⟨b, off + i * 5 + j, none⟩ = some u := by
 obtain ⟨b, off, c, e, _, _, hP, h4⟩ := Sl.thing h (by decide) (List.getElem?_eq_some_iff.1 hi).1
 refine ⟨b, off, c, e, hP, fun j u hj => ?_⟩
 have hj5 : j < 5 := (List.getElem?_eq_some_iff.1 hj).1
 rw [Nat.add_assoc]
 exact h4 j u hj5 (by rw [flatF_at itm_len l i j x hi hj5]; exact hj)
theorem useF_at {l : List UseD} (h : SlUsesF w P v l) {i : Nat} {x : UseD} (hi : l[i]? = some x) : ∃ b off c, v = .slice (some ⟨b, off, none⟩) l.length c ∧ P b ∧ ∀ j u, x.cellsF[j]? = some u → w.cell? ⟨b, off + i * 2 + j, none⟩ = some u := by
 obtain ⟨b, off, c, e, _, _, hP, h4⟩ := Sl.thing h (by decide) (List.getElem?_eq_some_iff.1 hi).1
 refine ⟨b, off, c, e, hP, fun j u hj => ?_⟩
 have hj5 : j < 2 := (List.getElem?_eq_some_iff.1 hj).1
 rw [Nat.add_assoc]
 exact h4 j u hj5 (by rw [flatF_at useF_len l i j x hi hj5]; exact hj)
theorem FaceL.keep {ls : List Nat} {f : FaceD} (h : FaceL w P vu vt vi f) (hw : Wr ls w w') (hP : ∀ b, P b → b ∉ ls) : FaceL w' P vu vt vi f := ⟨Sl.keep h.uses hw hP, h.types.keep hw hP, Sl.keep h.items hw hP⟩
theorem FaceL.wr0 {f : FaceD} (h : FaceL w P vu vt vi f) (hw : Wr [] w w') : FaceL w' P vu vt vi f := h.keep hw (fun _ _ => by simp)
theorem FaceL.into {f : FaceD} (h : FaceL w P vu vt vi f) (hP : ∀ b, P b → b < w.heap.size → Q b) : FaceL w Q vu vt vi f := ⟨Sl.into h.uses hP, h.types.into hP, Sl.into h.items hP⟩
end
theorem short_list {l : List ByteArray} {ev : Nat → ByteArray} (h : ∀ (i : Nat) (s : ByteArray), l[i]? = some s → ev i = s) : (!anyB l.length fun i => decide (((ev i).size : Int) > 255)) = l.all shB := by
 unfold anyB shB
 rw [Bool.eq_iff_iff]
 simp only [Bool.not_eq_true', List.any_eq_false, List.all_eq_true, List.mem_range, decide_eq_true_eq]
 constructor
 ·intro h1 s hs
  obtain ⟨i, hi⟩ := List.getElem?_of_mem hs
  have := h1 i (List.getElem?_eq_some_iff.1 hi).1
  rw [h i s hi] at this
  omega
 ·intro h1 i hi
  have := h1 _ (List.getElem_mem hi)
  rw [h i _ (qgeq hi)]
  omega
theorem SlStrs.cellsAt {w : World} {P : Nat → Prop} {A : Option Addr} {c : Nat} {l : List ByteArray} (h : SlStrs w P (.slice A l.length c) l) : CellsAt w A l.length (fun i => .string ((l[i]?).getD ⟨#[]⟩)) := by
 intro i hi
 obtain ⟨b, off, c', e, _, _, _, hc⟩ := Sl.at_ h (j := i) (u := .string l[i]) (by rw [qgmq, qgeq hi]; rfl)
 injection e with e1 _ _
 exact ⟨b, off, e1, by rw [hc]; simp [qgeq hi]⟩
theorem SlInts.cellsAt {w : World} {P : Nat → Prop} {A : Option Addr} {c : Nat} {l : List Int} (h : SlInts w P (.slice A l.length c) l) : CellsAt w A l.length (fun i => .int .i64 ((l[i]?).getD 0)) := by
 intro i hi
 obtain ⟨b, off, c', e, _, _, _, hc⟩ := Sl.at_ h (j := i) (u := .int .i64 l[i]) (by rw [qgmq, qgeq hi]; rfl)
 injection e with e1 _ _
 exact ⟨b, off, e1, by rw [hc]; simp [qgeq hi]⟩
theorem blk_cells {w : World} {g : Nat} {t : TypeId} {cs : Array Value} {n : Nat} {ev : Nat → Value} (h : Blk w g t cs) (hn : ∀ i, i < n → cs[i]? = some (ev i)) : CellsAt w (some ⟨g, 0, none⟩) n ev := fun i hi => ⟨g, 0, rfl, by rw [Nat.zero_add, h.cell]; exact hn i hi⟩
end Go.Proofs.YtjanbpchedgoiaaGreat
