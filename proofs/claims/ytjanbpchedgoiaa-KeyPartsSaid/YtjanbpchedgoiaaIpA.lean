/- Interfaces as plain data: which may be, as bytes, and back. No conditions. -/
import Derived.Test.YtjanbpchedgoiaaObA
import Derived.Test.YtjanbpchedgoiaaTyD
namespace Go.Proofs.Ytjanbpchedgoiaa
set_option linter.unusedVariables false

/-- A constant's value. -/
inductive AnyD where
  | nil
  | whole (n : Int)
  | letter (n : Int)
  | truth (b : Bool)
  | bits (n : Int)
  | str (s : ByteArray)
  | item (t n : Int)
  | null
  | other
/-- An item. -/
structure ItmD where
  name : ByteArray
  kind : Int
  type : Int
  at_ : Int
  v : AnyD
/-- An interface. -/
structure FaceD where
  module : ByteArray
  uses : List UseD
  types : List Ty
  items : List ItmD

def shB (s : ByteArray) : Bool := decide (s.size ≤ 255)
def fwB (n : Nat) : Bool := decide (n ≤ 65535)
def smB (n : Int) : Bool := inB n (-2147483648) 2147483647
def tyB (nt : Nat) (n : Int) : Bool := inB n 0 (9 + (nt : Int))
def armFit (a : ArmD) : Bool := fwB a.frm.length && fwB a.to.length
def tyFit (t : Ty) : Bool :=
  shB t.module && shB t.name && fwB t.names.length && fwB t.fields.length && fwB t.arms.length && fwB t.params.length && t.names.all shB && t.fields.all (fun f => shB f.name) && t.arms.all armFit
def anyFit : AnyD → Bool
  | .str s => fwB s.size
  | _ => true
def itmFit (x : ItmD) : Bool := shB x.name && anyFit x.v
def faceFit (f : FaceD) : Bool :=
  decide (f.uses.length ≤ 64) && decide (f.items.length ≤ 512) && decide (f.types.length ≤ 1024) && shB f.module && f.uses.all (fun u => shB u.module) && f.types.all tyFit && f.items.all itmFit
/-- Is each there once? -/
def onceB : List ByteArray → List ByteArray → Bool
  | _, [] => true
  | seen, s :: l => !(inL s seen) && onceB (seen ++ [s]) l
def armForm (a : ArmD) : Bool := decide (a.frm.length = a.to.length) && a.frm.all smB && a.to.all smB
def tyForm (nt : Nat) (t : Ty) : Bool :=
  tyB nt t.base && tyB nt t.index && tyB nt t.result && smB t.low && smB t.high && t.fields.all (fun f => tyB nt f.type && smB f.arm) && t.arms.all armForm && t.params.all (fun p => tyB nt p.type)
def anyForm (nt : Nat) : AnyD → Bool
  | .whole n => smB n
  | .item t n => tyB nt t && smB n
  | .other => false
  | _ => true
def itmForm (nt : Nat) (x : ItmD) : Bool := tyB nt x.type && smB x.at_ && anyForm nt x.v
def faceForm (f : FaceD) : Bool := f.types.all (tyForm f.types.length) && f.items.all (itmForm f.types.length)
/-- May an interface be? -/
def mayP (f : FaceD) : Int :=
  if faceFit f then if onceB [] (f.uses.map UseD.module) && onceB [] (f.items.map ItmD.name) then if faceForm f then 0 else 7 else 6 else 5

/-- Four bytes of a number. -/
def fourL (n : Int) : List UInt8 := numL (n % 4294967296).toNat 4
def fldL (f : Fld) : List UInt8 := textL f.name ++ fourL f.type ++ fourL f.arm
def pairL (p : Int × Int) : List UInt8 := fourL p.1 ++ fourL p.2
def armL (a : ArmD) : List UInt8 := numL a.frm.length 2 ++ (a.frm.zip a.to).flatMap pairL ++ truL a.els
def parL (p : Par) : List UInt8 := truL p.var ++ fourL p.type
def tyL (t : Ty) : List UInt8 :=
  numL t.kind.toNat 1 ++ textL t.module ++ textL t.name ++ fourL t.base ++ fourL t.index ++ fourL t.low ++ fourL t.high ++ numL t.names.length 2 ++ t.names.flatMap textL ++ numL t.fields.length 2 ++ t.fields.flatMap fldL ++
    numL t.arms.length 2 ++ t.arms.flatMap armL ++ numL t.params.length 2 ++ t.params.flatMap parL ++ fourL t.result
def anyL : AnyD → List UInt8
  | .nil => numL 0 1
  | .whole n => numL 1 1 ++ fourL n
  | .letter n => numL 2 1 ++ numL n.toNat 1
  | .truth b => numL 3 1 ++ truL b
  | .bits n => numL 4 1 ++ numL n.toNat 2
  | .str s => numL 5 1 ++ (numL s.size 2 ++ s.data.toList)
  | .item t n => numL 6 1 ++ (fourL t ++ fourL n)
  | .null => numL 7 1
  | .other => numL 0 1
def itmL (x : ItmD) : List UInt8 := textL x.name ++ numL x.kind.toNat 1 ++ fourL x.type ++ fourL x.at_ ++ anyL x.v
def faceL (f : FaceD) : List UInt8 :=
  textL f.module ++ numL f.uses.length 2 ++ f.uses.flatMap useL ++ numL f.types.length 2 ++ f.types.flatMap tyL ++ numL f.items.length 2 ++ f.items.flatMap itmL
def encFaceP (f : FaceD) : List UInt8 × Int := if mayP f = 0 then (faceL f, 0) else ([], mayP f)

/-- A number of four bytes, with its sign. -/
def signN (n : Nat) : Int := if n < 2147483648 then (n : Int) else (n : Int) - 4294967296
def Rd.four (r : Rd) : Int × Rd := (signN (r.num 4).1, (r.num 4).2)
def Rd.fld (r : Rd) : Fld × Rd :=
  let a := r.text
  let b := a.2.four
  let c := b.2.four
  (⟨a.1, b.1, c.1⟩, c.2)
def Rd.pair (r : Rd) : (Int × Int) × Rd :=
  let a := r.four
  let b := a.2.four
  ((a.1, b.1), b.2)
def Rd.arm (r : Rd) : ArmD × Rd :=
  let a := r.num 2
  let b := a.2.list Rd.pair a.1
  let c := b.2.truth
  (⟨b.1.map Prod.fst, b.1.map Prod.snd, c.1⟩, c.2)
def Rd.par (r : Rd) : Par × Rd :=
  let a := r.truth
  let b := a.2.four
  (⟨a.1, b.1⟩, b.2)
/-- A list, behind its length. -/
def Rd.lst {α : Type} (one : Rd → α × Rd) (r : Rd) : List α × Rd := (r.num 2).2.list one (r.num 2).1
def Rd.ty (r : Rd) : Ty × Rd :=
  let k := r.one
  let a := k.2.text
  let b := a.2.text
  let c := b.2.four
  let d := c.2.four
  let e := d.2.four
  let f := e.2.four
  let g := f.2.lst Rd.text
  let h := g.2.lst Rd.fld
  let i := h.2.lst Rd.arm
  let j := i.2.lst Rd.par
  let l := j.2.four
  (⟨k.1, a.1, b.1, c.1, d.1, e.1, f.1, g.1, h.1, i.1, j.1, l.1⟩, l.2)
def Rd.any (r : Rd) : AnyD × Rd :=
  let k := r.num 1
  match k.1 with
  | 0 => (.nil, k.2)
  | 1 => (.whole k.2.four.1, k.2.four.2)
  | 2 => (.letter k.2.one.1, k.2.one.2)
  | 3 => (.truth k.2.truth.1, k.2.truth.2)
  | 4 => (.bits k.2.two.1, k.2.two.2)
  | 5 => (.str ⟨((k.2.num 2).2.raw (k.2.num 2).1).1.toArray⟩, ((k.2.num 2).2.raw (k.2.num 2).1).2)
  | 6 => (.item k.2.four.1 k.2.four.2.four.1, k.2.four.2.four.2)
  | 7 => (.null, k.2)
  | _ => (.nil, ⟨k.2.s, true⟩)
def Rd.itm (r : Rd) : ItmD × Rd :=
  let a := r.text
  let b := a.2.one
  let c := b.2.four
  let d := c.2.four
  let e := d.2.any
  (⟨a.1, b.1, c.1, d.1, e.1⟩, e.2)
def Rd.face (r : Rd) : FaceD × Rd :=
  let a := r.text
  let b := a.2.lst Rd.use
  let c := b.2.lst Rd.ty
  let d := c.2.lst Rd.itm
  (⟨a.1, b.1, c.1, d.1⟩, d.2)
def noFace : FaceD := ⟨⟨#[]⟩, [], [], []⟩
/-- Which interface bytes are. -/
def decFaceP (l : List UInt8) : FaceD × Int :=
  if (Rd.face ⟨l, false⟩).2.bad || !((Rd.face ⟨l, false⟩).2.s).isEmpty || !decide (mayP (Rd.face ⟨l, false⟩).1 = 0) then (noFace, 7) else ((Rd.face ⟨l, false⟩).1, 0)

theorem smB_iff {n : Int} : smB n = true ↔ -2147483648 ≤ n ∧ n ≤ 2147483647 := inB_iff
theorem four_app (n : Int) (h : smB n = true) (rest : List UInt8) : (Rd.mk (fourL n ++ rest) false).four = (n, ⟨rest, false⟩) := by
  obtain ⟨h1, h2⟩ := smB_iff.1 h
  unfold Rd.four fourL
  rw [num_app _ 4 (by omega)]
  simp only [signN]
  congr 1
  split <;> omega
theorem lst_app {α : Type} {one : Rd → α × Rd} {enc : α → List UInt8} (l : List α) (hl : l.length ≤ 65535) (rest : List UInt8) (h : ∀ x ∈ l, ∀ r, one ⟨enc x ++ r, false⟩ = (x, ⟨r, false⟩)) :
    Rd.lst one ⟨numL l.length 2 ++ (l.flatMap enc ++ rest), false⟩ = (l, ⟨rest, false⟩) := by
  unfold Rd.lst
  rw [num_app l.length 2 (by omega)]
  exact list_app l rest h
theorem tyB_sm {nt : Nat} (hn : nt ≤ 1024) {n : Int} (h : tyB nt n = true) : smB n = true := by
  obtain ⟨h1, h2⟩ := inB_iff.1 h
  exact smB_iff.2 ⟨by omega, by omega⟩
theorem fld_app (f : Fld) (h1 : f.name.size ≤ 255) (h2 : smB f.type = true) (h3 : smB f.arm = true) (rest : List UInt8) : (Rd.mk (fldL f ++ rest) false).fld = (f, ⟨rest, false⟩) := by
  unfold Rd.fld fldL
  simp only [List.append_assoc]
  rw [text_app f.name h1]
  simp only
  rw [four_app f.type h2]
  simp only
  rw [four_app f.arm h3]
theorem pair_app (p : Int × Int) (h2 : smB p.1 = true) (h3 : smB p.2 = true) (rest : List UInt8) : (Rd.mk (pairL p ++ rest) false).pair = (p, ⟨rest, false⟩) := by
  unfold Rd.pair pairL
  simp only [List.append_assoc]
  rw [four_app p.1 h2]
  simp only
  rw [four_app p.2 h3]
theorem arm_app (a : ArmD) (hf : armFit a = true) (h : armForm a = true) (rest : List UInt8) : (Rd.mk (armL a ++ rest) false).arm = (a, ⟨rest, false⟩) := by
  unfold armForm at h
  unfold armFit fwB at hf
  simp only [Bool.and_eq_true, decide_eq_true_eq, List.all_eq_true] at h hf
  obtain ⟨⟨h1, h2⟩, h3⟩ := h
  unfold Rd.arm armL
  simp only [List.append_assoc]
  rw [num_app a.frm.length 2 (by omega)]
  simp only
  have hz : (a.frm.zip a.to).length = a.frm.length := by rw [List.length_zip]; omega
  have := list_app (one := Rd.pair) (enc := pairL) (a.frm.zip a.to) (truL a.els ++ rest) (fun p hp r => pair_app p (h2 _ (List.of_mem_zip hp).1) (h3 _ (List.of_mem_zip hp).2) r)
  rw [hz] at this
  rw [this]
  simp only
  rw [truth_app]
  simp only
  rw [List.map_fst_zip (by omega), List.map_snd_zip (by omega)]
theorem par_app (p : Par) (h : smB p.type = true) (rest : List UInt8) : (Rd.mk (parL p ++ rest) false).par = (p, ⟨rest, false⟩) := by
  unfold Rd.par parL
  simp only [List.append_assoc]
  rw [truth_app]
  simp only
  rw [four_app p.type h]
theorem ty_app (t : Ty) (nt : Nat) (hn : nt ≤ 1024) (hk : 0 ≤ t.kind ∧ t.kind ≤ 255) (hf : tyFit t = true) (h : tyForm nt t = true) (rest : List UInt8) : (Rd.mk (tyL t ++ rest) false).ty = (t, ⟨rest, false⟩) := by
  unfold tyForm at h
  unfold tyFit fwB shB at hf
  simp only [Bool.and_eq_true, decide_eq_true_eq, List.all_eq_true] at h hf
  obtain ⟨⟨⟨⟨⟨⟨⟨a1, a2⟩, a3⟩, a4⟩, a5⟩, a6⟩, a7⟩, a8⟩ := h
  obtain ⟨⟨⟨⟨⟨⟨⟨⟨b1, b2⟩, b3⟩, b4⟩, b5⟩, b6⟩, b7⟩, b8⟩, b9⟩ := hf
  unfold Rd.ty tyL
  simp only [List.append_assoc]
  rw [one_app t.kind hk.1 hk.2]
  simp only
  rw [text_app t.module b1]
  simp only
  rw [text_app t.name b2]
  simp only
  rw [four_app t.base (tyB_sm hn a1)]
  simp only
  rw [four_app t.index (tyB_sm hn a2)]
  simp only
  rw [four_app t.low a4]
  simp only
  rw [four_app t.high a5]
  simp only
  rw [lst_app t.names b3 _ (fun s hs r => text_app s (b7 s hs) r)]
  simp only
  rw [lst_app t.fields b4 _ (fun f hf r => fld_app f (b8 f hf) (tyB_sm hn (a6 f hf).1) (a6 f hf).2 r)]
  simp only
  rw [lst_app t.arms b5 _ (fun a ha r => arm_app a (b9 a ha) (a7 a ha) r)]
  simp only
  rw [lst_app t.params b6 _ (fun p hp r => par_app p (tyB_sm hn (a8 p hp)) r)]
  simp only
  rw [four_app t.result (tyB_sm hn a3)]
/-- Numbers within their kinds. -/
def anyW : AnyD → Prop
  | .letter n => 0 ≤ n ∧ n ≤ 255
  | .bits n => 0 ≤ n ∧ n ≤ 65535
  | _ => True
structure faceW (f : FaceD) : Prop where
  keys : ∀ u ∈ f.uses, 0 ≤ u.key ∧ u.key < 18446744073709551616
  kinds : ∀ t ∈ f.types, 0 ≤ t.kind ∧ t.kind ≤ 255
  sorts : ∀ x ∈ f.items, 0 ≤ x.kind ∧ x.kind ≤ 255
  vals : ∀ x ∈ f.items, anyW x.v
theorem any_app (v : AnyD) (nt : Nat) (hn : nt ≤ 1024) (hw : anyW v) (hf : anyFit v = true) (h : anyForm nt v = true) (rest : List UInt8) : (Rd.mk (anyL v ++ rest) false).any = (v, ⟨rest, false⟩) := by
  have n1 := fun k (hk : k < 256) rest => num_app k 1 (by simpa using hk) rest
  cases v with
  | nil =>
    unfold Rd.any anyL
    rw [n1 0 (by decide)]
    simp only
  | whole n =>
    unfold Rd.any anyL
    rw [List.append_assoc, n1 1 (by decide)]
    simp only
    rw [four_app n h]
  | letter n =>
    unfold Rd.any anyL
    rw [List.append_assoc, n1 2 (by decide)]
    simp only
    rw [one_app n hw.1 hw.2]
  | truth b =>
    unfold Rd.any anyL
    rw [List.append_assoc, n1 3 (by decide)]
    simp only
    rw [truth_app]
  | bits n =>
    unfold Rd.any anyL
    rw [List.append_assoc, n1 4 (by decide)]
    simp only
    rw [two_app n hw.1 hw.2]
  | str s =>
    unfold Rd.any anyL
    rw [List.append_assoc, n1 5 (by decide)]
    simp only
    have hs : s.size ≤ 65535 := of_decide_eq_true hf
    rw [List.append_assoc, num_app s.size 2 (by omega)]
    simp only
    have hl : s.data.toList.length = s.size := rfl
    have := raw_app s.data.toList rest
    rw [hl] at this
    rw [this]
  | item t n =>
    unfold anyForm at h
    simp only [Bool.and_eq_true] at h
    unfold Rd.any anyL
    rw [List.append_assoc, n1 6 (by decide)]
    simp only
    rw [List.append_assoc, four_app t (tyB_sm hn h.1)]
    simp only
    rw [four_app n h.2]
  | null =>
    unfold Rd.any anyL
    rw [n1 7 (by decide)]
    simp only
  | other => cases h
theorem itm_app (x : ItmD) (nt : Nat) (hn : nt ≤ 1024) (hk : 0 ≤ x.kind ∧ x.kind ≤ 255) (hw : anyW x.v) (hf : itmFit x = true) (h : itmForm nt x = true) (rest : List UInt8) : (Rd.mk (itmL x ++ rest) false).itm = (x, ⟨rest, false⟩) := by
  unfold itmForm at h
  unfold itmFit shB at hf
  simp only [Bool.and_eq_true, decide_eq_true_eq] at h hf
  unfold Rd.itm itmL
  simp only [List.append_assoc]
  rw [text_app x.name hf.1]
  simp only
  rw [one_app x.kind hk.1 hk.2]
  simp only
  rw [four_app x.type (tyB_sm hn h.1.1)]
  simp only
  rw [four_app x.at_ h.1.2]
  simp only
  rw [any_app x.v nt hn hw hf.2 h.2]
theorem face_parts {f : FaceD} (h : mayP f = 0) : faceFit f = true ∧ onceB [] (f.uses.map UseD.module) = true ∧ onceB [] (f.items.map ItmD.name) = true ∧ faceForm f = true := by
  unfold mayP at h
  by_cases h1 : faceFit f = true
  · rw [if_pos h1] at h
    by_cases h2 : (onceB [] (f.uses.map UseD.module) && onceB [] (f.items.map ItmD.name)) = true
    · rw [if_pos h2] at h
      by_cases h3 : faceForm f = true
      · rw [Bool.and_eq_true] at h2
        exact ⟨h1, h2.1, h2.2, h3⟩
      · rw [if_neg h3] at h; exact absurd h (by decide)
    · rw [if_neg h2] at h; exact absurd h (by decide)
  · rw [if_neg h1] at h; exact absurd h (by decide)
/-- An interface that was written is read. -/
theorem face_app (f : FaceD) (hw : faceW f) (hm : mayP f = 0) (rest : List UInt8) : (Rd.mk (faceL f ++ rest) false).face = (f, ⟨rest, false⟩) := by
  obtain ⟨h1, _, _, h2⟩ := face_parts hm
  unfold faceFit shB at h1
  unfold faceForm at h2
  simp only [Bool.and_eq_true, decide_eq_true_eq, List.all_eq_true] at h1 h2
  obtain ⟨⟨⟨⟨⟨⟨a1, a2⟩, a3⟩, a4⟩, a5⟩, a6⟩, a7⟩ := h1
  unfold Rd.face faceL
  simp only [List.append_assoc]
  rw [text_app f.module a4]
  simp only
  rw [lst_app f.uses (by omega) _ (fun u hu r => use_app u (a5 u hu) (hw.keys u hu) r)]
  simp only
  rw [lst_app f.types (by omega) _ (fun t ht r => ty_app t _ a3 (hw.kinds t ht) (a6 t ht) (h2.1 t ht) r)]
  simp only
  rw [lst_app f.items (by omega) _ (fun x hx r => itm_app x _ a3 (hw.sorts x hx) (hw.vals x hx) (a7 x hx) (h2.2 x hx) r)]
theorem dec_enc (f : FaceD) (hw : faceW f) (hm : mayP f = 0) : decFaceP (faceL f) = (f, 0) := by
  have := face_app f hw hm []
  rw [List.append_nil] at this
  unfold decFaceP
  rw [this]
  simp [hm]
/-- None's bytes are the beginning of another one's. -/
theorem face_prefix (a b : FaceD) (ha : faceW a) (hb : faceW b) (ma : mayP a = 0) (mb : mayP b = 0) (rest : List UInt8) (h : faceL a ++ rest = faceL b) : rest = [] ∧ a = b := by
  have h1 := face_app a ha ma rest
  have h2 := face_app b hb mb []
  rw [List.append_nil, ← h, h1] at h2
  simp only [Prod.mk.injEq, Rd.mk.injEq] at h2
  exact ⟨h2.2.1, h2.1⟩
end Go.Proofs.Ytjanbpchedgoiaa
