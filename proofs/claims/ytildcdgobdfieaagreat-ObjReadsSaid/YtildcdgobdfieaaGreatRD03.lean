/- Interfaces as plain data: which may be, as bytes, and back. No conditions. -/
import Derived.Test.YtildcdgobdfieaaGreatRD02
set_option linter.unusedVariables false
set_option linter.unusedSimpArgs false
set_option maxRecDepth 100000
set_option maxHeartbeats 32000000
namespace Go.Proofs.YtildcdgobdfieaaGreat
inductive AnyD where
 | nil
 | whole (n : Int)
 | letter (n : Int)
 | truth (b : Bool)
 | bits (n : Int)
 | str (s : ByteArray)
 | item (t n : Int)
 | null
 | other
structure ItmD where
 name : ByteArray
 kind : Int
 type : Int
 at_ : Int
 v : AnyD
structure FaceD where
 module : ByteArray
 uses : List UseD
 types : List Ty
 items : List ItmD
def shB (s : ByteArray) : Bool := decide (s.size ≤ 255)
def fwB (n : Nat) : Bool := decide (n ≤ 65535)
def smB (n : Int) : Bool := inB n (-2147483648) 2147483647
def tyB (nt : Nat) (n : Int) : Bool := inB n 0 (9 + (nt : Int))
def armFit (a : ArmD) : Bool := fwB a.frm.length && fwB a.to.length
def tyFit (t : Ty) : Bool :=
 shB t.module && shB t.name && fwB t.names.length && fwB t.fields.length && fwB t.arms.length && fwB t.params.length && t.names.all shB && t.fields.all (fun f => shB f.name) && t.arms.all armFit
def anyFit : AnyD → Bool
 | .str s => fwB s.size
 | _ => true
def itmFit (x : ItmD) : Bool := shB x.name && anyFit x.v
def faceFit (f : FaceD) : Bool :=
 decide (f.uses.length ≤ 64) && decide (f.items.length ≤ 512) && decide (f.types.length ≤ 1024) && shB f.module && f.uses.all (fun u => shB u.module) && f.types.all tyFit && f.items.all itmFit
def onceB : List ByteArray → List ByteArray → Bool
 | _, [] => true
 | seen, s :: l => !(inL s seen) && onceB (seen ++ [s]) l
def armForm (a : ArmD) : Bool := decide (a.frm.length = a.to.length) && a.frm.all smB && a.to.all smB
def tyForm (nt : Nat) (t : Ty) : Bool :=
 tyB nt t.base && tyB nt t.index && tyB nt t.result && smB t.low && smB t.high && t.fields.all (fun f => tyB nt f.type && smB f.arm) && t.arms.all armForm && t.params.all (fun p => tyB nt p.type)
def anyForm (nt : Nat) : AnyD → Bool
 | .whole n => smB n
 | .item t n => tyB nt t && smB n
 | .other => false
 | _ => true
def itmForm (nt : Nat) (x : ItmD) : Bool := tyB nt x.type && smB x.at_ && anyForm nt x.v
def faceForm (f : FaceD) : Bool := f.types.all (tyForm f.types.length) && f.items.all (itmForm f.types.length)
def mayP (f : FaceD) : Int :=
 if faceFit f then if onceB [] (f.uses.map UseD.module) && onceB [] (f.items.map ItmD.name) then if faceForm f then 0 else 7 else 6 else 5
def fourL (n : Int) : List UInt8 := numL (n % 4294967296).toNat 4
def fldL (f : Fld) : List UInt8 := textL f.name ++ fourL f.type ++ fourL f.arm
def pairL (p : Int × Int) : List UInt8 := fourL p.1 ++ fourL p.2
def armL (a : ArmD) : List UInt8 := numL a.frm.length 2 ++ (a.frm.zip a.to).flatMap pairL ++ truL a.els
def parL (p : Par) : List UInt8 := truL p.var ++ fourL p.type
def tyL (t : Ty) : List UInt8 :=
 numL t.kind.toNat 1 ++ textL t.module ++ textL t.name ++ fourL t.base ++ fourL t.index ++ fourL t.low ++ fourL t.high ++ numL t.names.length 2 ++ t.names.flatMap textL ++ numL t.fields.length 2 ++ t.fields.flatMap fldL ++
  numL t.arms.length 2 ++ t.arms.flatMap armL ++ numL t.params.length 2 ++ t.params.flatMap parL ++ fourL t.result
def anyL : AnyD → List UInt8
 | .nil => numL 0 1
 | .whole n => numL 1 1 ++ fourL n
 | .letter n => numL 2 1 ++ numL n.toNat 1
 | .truth b => numL 3 1 ++ truL b
 | .bits n => numL 4 1 ++ numL n.toNat 2
 | .str s => numL 5 1 ++ (numL s.size 2 ++ s.data.toList)
 | .item t n => numL 6 1 ++ (fourL t ++ fourL n)
 | .null => numL 7 1
 | .other => numL 0 1
def itmL (x : ItmD) : List UInt8 := textL x.name ++ numL x.kind.toNat 1 ++ fourL x.type ++ fourL x.at_ ++ anyL x.v
def faceL (f : FaceD) : List UInt8 :=
 textL f.module ++ numL f.uses.length 2 ++ f.uses.flatMap useL ++ numL f.types.length 2 ++ f.types.flatMap tyL ++ numL f.items.length 2 ++ f.items.flatMap itmL
def signN (n : Nat) : Int := if n < 2147483648 then (n : Int) else (n : Int) - 4294967296
def Rd.four (r : Rd) : Int × Rd := (signN (r.num 4).1, (r.num 4).2)
def Rd.fld (r : Rd) : Fld × Rd :=
 let a := r.text
 let b := a.2.four
 let c := b.2.four
 (⟨a.1, b.1, c.1⟩, c.2)
def Rd.pair (r : Rd) : (Int × Int) × Rd :=
 let a := r.four
 let b := a.2.four
 ((a.1, b.1), b.2)
def Rd.arm (r : Rd) : ArmD × Rd :=
 let a := r.num 2
 let b := a.2.list Rd.pair a.1
 let c := b.2.truth
 (⟨b.1.map Prod.fst, b.1.map Prod.snd, c.1⟩, c.2)
def Rd.par (r : Rd) : Par × Rd :=
 let a := r.truth
 let b := a.2.four
 (⟨a.1, b.1⟩, b.2)
def Rd.lst {α : Type} (one : Rd → α × Rd) (r : Rd) : List α × Rd := (r.num 2).2.list one (r.num 2).1
def Rd.ty (r : Rd) : Ty × Rd :=
 let k := r.one
 let a := k.2.text
 let b := a.2.text
 let c := b.2.four
 let d := c.2.four
 let e := d.2.four
 let f := e.2.four
 let g := f.2.lst Rd.text
 let h := g.2.lst Rd.fld
 let i := h.2.lst Rd.arm
 let j := i.2.lst Rd.par
 let l := j.2.four
 (⟨k.1, a.1, b.1, c.1, d.1, e.1, f.1, g.1, h.1, i.1, j.1, l.1⟩, l.2)
def Rd.any (r : Rd) : AnyD × Rd :=
 let k := r.num 1
 match k.1 with
 | 0 => (.nil, k.2)
 | 1 => (.whole k.2.four.1, k.2.four.2)
 | 2 => (.letter k.2.one.1, k.2.one.2)
 | 3 => (.truth k.2.truth.1, k.2.truth.2)
 | 4 => (.bits k.2.two.1, k.2.two.2)
 | 5 => (.str ⟨((k.2.num 2).2.raw (k.2.num 2).1).1.toArray⟩, ((k.2.num 2).2.raw (k.2.num 2).1).2)
 | 6 => (.item k.2.four.1 k.2.four.2.four.1, k.2.four.2.four.2)
 | 7 => (.null, k.2)
 | _ => (.nil, ⟨k.2.s, true⟩)
def Rd.itm (r : Rd) : ItmD × Rd :=
 let a := r.text
 let b := a.2.one
 let c := b.2.four
 let d := c.2.four
 let e := d.2.any
 (⟨a.1, b.1, c.1, d.1, e.1⟩, e.2)
def Rd.face (r : Rd) : FaceD × Rd :=
 let a := r.text
 let b := a.2.lst Rd.use
 let c := b.2.lst Rd.ty
 let d := c.2.lst Rd.itm
 (⟨a.1, b.1, c.1, d.1⟩, d.2)
def noFace : FaceD := ⟨⟨#[]⟩, [], [], []⟩
def decFaceP (l : List UInt8) : FaceD × Int :=
 if (Rd.face ⟨l, false⟩).2.bad || !((Rd.face ⟨l, false⟩).2.s).isEmpty || !decide (mayP (Rd.face ⟨l, false⟩).1 = 0) then (noFace, 7) else ((Rd.face ⟨l, false⟩).1, 0)
theorem smB_iff {n : Int} : smB n = true ↔ -2147483648 ≤ n ∧ n ≤ 2147483647 := inB_iff
theorem four_app (n : Int) (h : smB n = true) (rest : List UInt8) : (Rd.mk (fourL n ++ rest) false).four = (n, ⟨rest, false⟩) := by
 obtain ⟨h1, h2⟩ := smB_iff.1 h
 unfold Rd.four fourL
 rw [num_app _ 4 (by omega)]
 simp only [signN]
 congr 1
 split <;> omega
theorem lst_app {α : Type} {one : Rd → α × Rd} {enc : α → List UInt8} (l : List α) (hl : l.length ≤ 65535) (rest : List UInt8) (h : ∀ x ∈ l, ∀ r, one ⟨enc x ++ r, false⟩ = (x, ⟨r, false⟩)) :
  Rd.lst one ⟨numL l.length 2 ++ (l.flatMap enc ++ rest), false⟩ = (l, ⟨rest, false⟩) := by
 unfold Rd.lst
 rw [num_app l.length 2 (by omega)]
 exact list_app l rest h
theorem tyB_sm {nt : Nat} (hn : nt ≤ 1024) {n : Int} (h : tyB nt n = true) : smB n = true := by
 obtain ⟨h1, h2⟩ := inB_iff.1 h
 exact smB_iff.2 ⟨by omega, by omega⟩
theorem fld_app (f : Fld) (h1 : f.name.size ≤ 255) (h2 : smB f.type = true) (h3 : smB f.arm = true) (rest : List UInt8) : (Rd.mk (fldL f ++ rest) false).fld = (f, ⟨rest, false⟩) := by
 unfold Rd.fld fldL
 simp only [qapq]
 rw [text_app f.name h1]
 simp only
 rw [four_app f.type h2]
 simp only
 rw [four_app f.arm h3]
theorem pair_app (p : Int × Int) (h2 : smB p.1 = true) (h3 : smB p.2 = true) (rest : List UInt8) : (Rd.mk (pairL p ++ rest) false).pair = (p, ⟨rest, false⟩) := by
 unfold Rd.pair pairL
 simp only [qapq]
 rw [four_app p.1 h2]
 simp only
 rw [four_app p.2 h3]
theorem arm_app (a : ArmD) (hf : armFit a = true) (h : armForm a = true) (rest : List UInt8) : (Rd.mk (armL a ++ rest) false).arm = (a, ⟨rest, false⟩) := by
 unfold armForm at h
 unfold armFit fwB at hf
 simp only [Bool.and_eq_true, decide_eq_true_eq, List.all_eq_true] at h hf
 obtain ⟨⟨h1, h2⟩, h3⟩ := h
 unfold Rd.arm armL
 simp only [qapq]
 rw [num_app a.frm.length 2 (by omega)]
 simp only
 have hz : (a.frm.zip a.to).length = a.frm.length := by rw [List.length_zip]; omega
 have := list_app (one := Rd.pair) (enc := pairL) (a.frm.zip a.to) (truL a.els ++ rest) (fun p hp r => pair_app p (h2 _ (List.of_mem_zip hp).1) (h3 _ (List.of_mem_zip hp).2) r)
 rw [hz] at this
 rw [this]
 simp only
 rw [truth_app]
 simp only
 rw [List.map_fst_zip (by omega), List.map_snd_zip (by omega)]
theorem par_app (p : Par) (h : smB p.type = true) (rest : List UInt8) : (Rd.mk (parL p ++ rest) false).par = (p, ⟨rest, false⟩) := by
 unfold Rd.par parL
 simp only [qapq]
 rw [truth_app]
 simp only
 rw [four_app p.type h]
theorem ty_app (t : Ty) (nt : Nat) (hn : nt ≤ 1024) (hk : 0 ≤ t.kind ∧ t.kind ≤ 255) (hf : tyFit t = true) (h : tyForm nt t = true) (rest : List UInt8) : (Rd.mk (tyL t ++ rest) false).ty = (t, ⟨rest, false⟩) := by
 unfold tyForm at h
 unfold tyFit fwB shB at hf
 simp only [Bool.and_eq_true, decide_eq_true_eq, List.all_eq_true] at h hf
 obtain ⟨⟨⟨⟨⟨⟨⟨a1, a2⟩, a3⟩, a4⟩, a5⟩, a6⟩, a7⟩, a8⟩ := h
 obtain ⟨⟨⟨⟨⟨⟨⟨⟨b1, b2⟩, b3⟩, b4⟩, b5⟩, b6⟩, b7⟩, b8⟩, b9⟩ := hf
 unfold Rd.ty tyL
 simp only [qapq]
 rw [one_app t.kind hk.1 hk.2]
 simp only
 rw [text_app t.module b1]
 simp only
 rw [text_app t.name b2]
 simp only
 rw [four_app t.base (tyB_sm hn a1)]
 simp only
 rw [four_app t.index (tyB_sm hn a2)]
 simp only
 rw [four_app t.low a4]
 simp only
 rw [four_app t.high a5]
 simp only
 rw [lst_app t.names b3 _ (fun s hs r => text_app s (b7 s hs) r)]
 simp only
 rw [lst_app t.fields b4 _ (fun f hf r => fld_app f (b8 f hf) (tyB_sm hn (a6 f hf).1) (a6 f hf).2 r)]
 simp only
 rw [lst_app t.arms b5 _ (fun a ha r => arm_app a (b9 a ha) (a7 a ha) r)]
 simp only
 rw [lst_app t.params b6 _ (fun p hp r => par_app p (tyB_sm hn (a8 p hp)) r)]
 simp only
 rw [four_app t.result (tyB_sm hn a3)]
def anyW : AnyD → Prop
 | .letter n => 0 ≤ n ∧ n ≤ 255
 | .bits n => 0 ≤ n ∧ n ≤ 65535
 | _ => True
structure faceW (f : FaceD) : Prop where
 keys : ∀ u ∈ f.uses, 0 ≤ u.key ∧ u.key < 18446744073709551616
 kinds : ∀ t ∈ f.types, 0 ≤ t.kind ∧ t.kind ≤ 255
 sorts : ∀ x ∈ f.items, 0 ≤ x.kind ∧ x.kind ≤ 255
 vals : ∀ x ∈ f.items, anyW x.v
theorem any_app (v : AnyD) (nt : Nat) (hn : nt ≤ 1024) (hw : anyW v) (hf : anyFit v = true) (h : anyForm nt v = true) (rest : List UInt8) : (Rd.mk (anyL v ++ rest) false).any = (v, ⟨rest, false⟩) := by
 have n1 := fun k (hk : k < 256) rest => num_app k 1 (by simpa using hk) rest
 cases v with
 | nil =>
  unfold Rd.any anyL
  rw [n1 0 (by decide)]
  simp only
 | whole n =>
  unfold Rd.any anyL
  rw [qapq, n1 1 (by decide)]
  simp only
  rw [four_app n h]
 | letter n =>
  unfold Rd.any anyL
  rw [qapq, n1 2 (by decide)]
  simp only
  rw [one_app n hw.1 hw.2]
 | truth b =>
  unfold Rd.any anyL
  rw [qapq, n1 3 (by decide)]
  simp only
  rw [truth_app]
 | bits n =>
  unfold Rd.any anyL
  rw [qapq, n1 4 (by decide)]
  simp only
  rw [two_app n hw.1 hw.2]
 | str s =>
  unfold Rd.any anyL
  rw [qapq, n1 5 (by decide)]
  simp only
  have hs : s.size ≤ 65535 := of_decide_eq_true hf
  rw [qapq, num_app s.size 2 (by omega)]
  simp only
  have hl : s.data.toList.length = s.size := rfl
  have := raw_app s.data.toList rest
  rw [hl] at this
  rw [this]
 | item t n =>
  unfold anyForm at h
  simp only [Bool.and_eq_true] at h
  unfold Rd.any anyL
  rw [qapq, n1 6 (by decide)]
  simp only
  rw [qapq, four_app t (tyB_sm hn h.1)]
  simp only
  rw [four_app n h.2]
 | null =>
  unfold Rd.any anyL
  rw [n1 7 (by decide)]
  simp only
 | other => cases h
theorem itm_app (x : ItmD) (nt : Nat) (hn : nt ≤ 1024) (hk : 0 ≤ x.kind ∧ x.kind ≤ 255) (hw : anyW x.v) (hf : itmFit x = true) (h : itmForm nt x = true) (rest : List UInt8) : (Rd.mk (itmL x ++ rest) false).itm = (x, ⟨rest, false⟩) := by
 unfold itmForm at h
 unfold itmFit shB at hf
 simp only [Bool.and_eq_true, decide_eq_true_eq] at h hf
 unfold Rd.itm itmL
 simp only [qapq]
 rw [text_app x.name hf.1]
 simp only
 rw [one_app x.kind hk.1 hk.2]
 simp only
 rw [four_app x.type (tyB_sm hn h.1.1)]
 simp only
 rw [four_app x.at_ h.1.2]
 simp only
 rw [any_app x.v nt hn hw hf.2 h.2]
theorem face_parts {f : FaceD} (h : mayP f = 0) : faceFit f = true ∧ onceB [] (f.uses.map UseD.module) = true ∧ onceB [] (f.items.map ItmD.name) = true ∧ faceForm f = true := by
 unfold mayP at h
 by_cases h1 : faceFit f = true
 ·rw [if_pos h1] at h
  by_cases h2 : (onceB [] (f.uses.map UseD.module) && onceB [] (f.items.map ItmD.name)) = true
  ·rw [if_pos h2] at h
   by_cases h3 : faceForm f = true
   ·rw [Bool.and_eq_true] at h2
    exact ⟨h1, h2.1, h2.2, h3⟩
   ·rw [if_neg h3] at h; exact absurd h (by decide)
  ·rw [if_neg h2] at h; exact absurd h (by decide)
 ·rw [if_neg h1] at h; exact absurd h (by decide)
theorem face_app (f : FaceD) (hw : faceW f) (hm : mayP f = 0) (rest : List UInt8) : (Rd.mk (faceL f ++ rest) false).face = (f, ⟨rest, false⟩) := by
 obtain ⟨h1, _, _, h2⟩ := face_parts hm
 unfold faceFit shB at h1
 unfold faceForm at h2
 simp only [Bool.and_eq_true, decide_eq_true_eq, List.all_eq_true] at h1 h2
 obtain ⟨⟨⟨⟨⟨⟨a1, a2⟩, a3⟩, a4⟩, a5⟩, a6⟩, a7⟩ := h1
 unfold Rd.face faceL
 simp only [qapq]
 rw [text_app f.module a4]
 simp only
 rw [lst_app f.uses (by omega) _ (fun u hu r => use_app u (a5 u hu) (hw.keys u hu) r)]
 simp only
 rw [lst_app f.types (by omega) _ (fun t ht r => ty_app t _ a3 (hw.kinds t ht) (a6 t ht) (h2.1 t ht) r)]
 simp only
 rw [lst_app f.items (by omega) _ (fun x hx r => itm_app x _ a3 (hw.sorts x hx) (hw.vals x hx) (a7 x hx) (h2.2 x hx) r)]
theorem dec_enc (f : FaceD) (hw : faceW f) (hm : mayP f = 0) : decFaceP (faceL f) = (f, 0) := by
 have := face_app f hw hm []
 rw [List.append_nil] at this
 unfold decFaceP
 rw [this]
 simp [hm]
structure Back {α : Type} (f : Rd → α × Rd) (enc : α → List UInt8) : Prop where
 keeps : ∀ r : Rd, r.bad = true → (f r).2.bad = true
 back : ∀ (s : List UInt8) (x : α) (r : List UInt8), f ⟨s, false⟩ = (x, ⟨r, false⟩) → s = enc x ++ r
theorem Back.map {α β : Type} {f : Rd → α × Rd} {e : α → List UInt8} (hf : Back f e) (g : α → β) {k : β → List UInt8} (hk : ∀ x, k (g x) = e x) : Back (fun r => (g (f r).1, (f r).2)) k := by
 refine ⟨fun r h => hf.keeps r h, fun s x r h => ?_⟩
 injection h with h1 h2
 rw [← h1, hk]
 exact hf.back s _ r (by rw [← h2])
theorem numL_valN : ∀ (k : Nat) (l : List UInt8), l.length = k → numL (valN l) k = l ∧ valN l < 256 ^ k := by
 intro k
 induction k with
 | zero =>
  intro l hl
  rw [List.eq_nil_of_length_eq_zero hl]
  exact ⟨rfl, by decide⟩
 | succ k ih =>
  intro l hl
  have hne : l ≠ [] := by intro e; rw [e] at hl; cases hl
  have dl : l = l.dropLast ++ [l.getLast hne] := (List.dropLast_concat_getLast hne).symm
  generalize l.getLast hne = x at dl
  obtain ⟨h1, h2⟩ := ih l.dropLast (by simp [hl])
  have hx := x.toNat_lt
  generalize l.dropLast = m at dl h1 h2
  subst dl
  rw [valN_snoc, numL_snoc, show (256 * valN m + x.toNat) / 256 = valN m by omega, show (256 * valN m + x.toNat) % 256 = x.toNat by omega, h1]
  refine ⟨by rw [UInt8.ofNat_toNat], by rw [Nat.pow_succ]; omega⟩
def Rd.str (k : Nat) (r : Rd) : ByteArray × Rd := (⟨(((r.num k).2.raw (r.num k).1).1).toArray⟩, ((r.num k).2.raw (r.num k).1).2)
end Go.Proofs.YtildcdgobdfieaaGreat
namespace Go.Proofs.YtildcdgobdfieaaGreat
open Go.RowKit
def RdO (w : World) (b : Nat) (r : Rd) : Prop := Blk w b 109 #[.string ⟨r.s.toArray⟩, .bool r.bad]
theorem RdO.lt {w : World} {b : Nat} {r : Rd} (h : RdO w b r) : b < w.heap.size := Blk.lt h
def ansS (l : List UInt8) : ByteArray := ⟨l.toArray⟩
theorem ansS_size (l : List UInt8) : (ansS l).size = l.length := by
 show l.toArray.size = _
 simp
theorem or_stepO (n c : Nat) (hn : n < 72057594037927936) (hc : c < 256) : bits .or .u64 (((256 * n : Nat) : Int)) (c : Int) = ((256 * n + c : Nat) : Int) := by
 rw [bits_or_u64_nat _ _ (by omega) (by omega)]
 congr 1
 rw [show 256 * n = n <<< 8 by rw [Nat.shiftLeft_eq]; omega]
 rw [← Nat.shiftLeft_add_eq_or_of_lt (show c < 2 ^ 8 from hc)]
theorem valN_lt (l : List UInt8) : valN l < 256 ^ l.length := (numL_valN l.length l rfl).2
theorem raw_len (r : Rd) (n : Nat) : (r.raw n).1.length ≤ n := by
 unfold Rd.raw
 split
 ·simp
 ·rw [List.length_take]; omega
theorem num_ltO {k : Nat} (hk : k ≤ 8) (r : Rd) : (r.num k).1 < 256 ^ k :=
 Nat.lt_of_lt_of_le (valN_lt _) (Nat.pow_le_pow_right (by decide) (raw_len r k))
theorem raw_o (b n : Nat) (r : Rd) (hn : n ≤ 1000000) (w : World) (hb : RdO w b r) :
  Calls Tryz.prog 82 #[.pointer (some ⟨b, 0, none⟩), .int .i64 (n : Int)] w fun e w' => e = .returned (.string (ansS (r.raw n).1)) ∧ Wr [b] w w' ∧ RdO w' b (r.raw n).2 := by
 obtain ⟨l, bad⟩ := r
 obtain ⟨S, hS⟩ : ∃ S : ByteArray, ⟨l.toArray⟩ = S := ⟨_, rfl⟩
 have hsz : S.size = l.length := by rw [← hS]; show l.toArray.size = _; simp
 have hb' : Blk w b 109 #[.string S, .bool bad] := by rw [← hS]; exact hb
 obtain ⟨c0, c1⟩ := c2q hb'
 obtain ⟨z0, z1⟩ := z2q hb'
 cases bad with
 | true =>
  have hr : (Rd.mk l true).raw n = ([], ⟨l, true⟩) := by unfold Rd.raw; simp
  rw [hr]
  have HB := qh hb'
  clear hb hb' hr
  go_in
  go_wp2_with fail
  go_ret
  exact ⟨rfl, (Wr.refl _ _).setOn (by simp) _, by have := HB.out.set_ 1 (.bool true); rw [← hS] at this; exact this⟩
 | false =>
  by_cases hlt : l.length < n
  ·have hr : (Rd.mk l false).raw n = ([], ⟨l, true⟩) := by unfold Rd.raw; simp [hlt]
   rw [hr]
   have HB := qh hb'
   have e0 : decide ((n : Int) > (S.size : Int)) = true := qdtq (by omega)
   have e1 : decide (S.size < n) = true := qdtq (by omega)
   clear hb hb' hr
   go_in
   go_wp2_with fail
   go_ret
   exact ⟨rfl, (Wr.refl _ _).setOn (by simp) _, by have := HB.out.set_ 1 (.bool true); rw [← hS] at this; exact this⟩
  ·have hr : (Rd.mk l false).raw n = (l.take n, ⟨l.drop n, false⟩) := by unfold Rd.raw; simp [hlt]
   rw [hr]
   have HB := qh hb'
   have e0 : decide ((n : Int) > (S.size : Int)) = false := qdfq (by omega)
   have e1 : decide (S.size < n) = false := qdfq (by omega)
   have n0 : (0 : Int) ≤ (n : Int) := by omega
   have n1 : (n : Int) ≤ (S.size : Int) := by omega
   have hT : S.extract 0 n = ansS (l.take n) := by
    rw [← hS]
    apply ByteArray.ext
    rw [ByteArray.data_extract]
    simp [ansS]
   have hD : S.extract n S.size = ansS (l.drop n) := by
    rw [← hS]
    apply ByteArray.ext
    rw [ByteArray.data_extract]
    simp [ansS]
    exact List.take_of_length_le (by rw [List.length_drop]; show l.length - n ≤ l.toArray.size - n; simp)
   have HT := qh hT
   have HD := qh hD
   clear hb hb' hr hlt hT hD hsz
   go_in
   go_wp2_with fail
   go_ret
   refine ⟨by rw [HT.out]; rfl, ((Wr.refl _ _).setOn (by simp) _).setOn (by simp) _, ?_⟩
   have := (HB.out.set_ 1 (.bool false)).set_ 0 (.string (S.extract n S.size))
   rw [HD.out] at this ⊢
   exact this
theorem number_o (b size : Nat) (r : Rd) (hs : size ≤ 8) (w : World) (hb : RdO w b r) :
  Calls Tryz.prog 57 #[.pointer (some ⟨b, 0, none⟩), .int .i64 (size : Int)] w fun e w' => e = .returned (.int .u64 ((r.num size).1 : Int)) ∧ Wr [b] w w' ∧ RdO w' b (r.num size).2 := by
 have h := raw_o b size r (by omega) w hb
 unfold Rd.num
 have hlen := raw_len r size
 generalize r.raw size = rr at *
 obtain ⟨T, r'⟩ := rr
 simp only at h hlen ⊢
 have hTs := ansS_size T
 have H := qh h
 clear h hb
 go_in
 go_wp2_with fail
 refine H.out.mono ?_
 rintro e w1 ⟨rfl, r1, b1⟩
 have hconv := run_bytes_of_string (P := Tryz.prog) w1 9 42 5 (ansS T) Tryz.underlying9 Tryz.underlying42 Tryz.underlying5
 obtain ⟨cap, hcap⟩ : ∃ cap, grownCap w1 (ansS T).size 0 5 = cap := ⟨_, rfl⟩
 rw [hcap] at hconv
 obtain ⟨w2, hw2⟩ : ∃ q, (w1.drew.alloc (.cells (bytesRow (ansS T) cap) 5 ((bytesRow (ansS T) cap).size, (bytesRow (ansS T) cap).size + 1))) = q := ⟨_, rfl⟩
 rw [hw2] at hconv
 obtain ⟨g, hg⟩ : ∃ q, w1.heap.size = q := ⟨_, rfl⟩
 have hcell : ∀ j (hj : j < (ansS T).data.size), w2.cell? ⟨g, j, none⟩ = some (.int .u8 (((ansS T).data[j]'hj).toNat : Int)) := fun j hj => by
  rw [← hw2, ← hg]
  exact (World.cell?_alloc_mark w1.drew _ _ _ j).trans (bytesRow_at (ansS T) cap j hj)
 rw [hg, hTs] at hconv
 have r2 : Wr [] w1 w2 := by rw [← hw2]; exact ((Wr.refl [] w1).drew).alloc _
 have b2 := Blk.wr0 b1 r2
 have acc : Wr [b] w w2 := r1.trans r2.nil
 obtain ⟨S, hS⟩ : ∃ q, ansS T = q := ⟨_, rfl⟩
 have hcell2 : ∀ j (hj : j < T.length), w2.cell? ⟨g, j, none⟩ = some (.int .u8 ((T[j]'hj).toNat : Int)) := fun j hj => by
  have := hcell j (by show j < (ansS T).size; rw [hTs]; exact hj)
  exact this
 rw [hS] at hconv
 have HCELL := qh hcell2
 have B2 := qh b2
 have ACC := qh acc
 have HLEN : T.length ≤ 8 := by omega
 rw [hS]
 clear hcell hcell2 r1 b1 hTs hcap hw2 hg r2 b2 acc hS hlen
 go_wp2_with fail
 clear hconv
 go_loop [4, 12] (fun v i => ∃ k : Nat, k ≤ T.length ∧ i = .int .i64 k ∧ v = .int .u64 ((valN (T.take k) : Nat) : Int)) (fun _ i => T.length - (intOf i).toNat)
 case atStart => exact ⟨0, by omega, rfl, rfl⟩
 case round =>
  obtain ⟨k, hk, rfl, rfl⟩ := hrel
  by_cases hkl : k < T.length
  ·have hi0 : (0 : Int) ≤ (k : Int) := by omega
   have hi1 : (k : Int) < (T.length : Int) := by omega
   have hc := HCELL.out k hkl
   have hv : valN (T.take (k + 1)) = 256 * valN (T.take k) + (T[k]'hkl).toNat := by
    rw [List.take_succ_eq_append_getElem hkl, valN_snoc]
   have hn : valN (T.take k) < 72057594037927936 := by
    have h1 := valN_lt (T.take k)
    have h2 : 256 ^ (T.take k).length ≤ 256 ^ 7 := Nat.pow_le_pow_right (by decide) (by rw [List.length_take]; omega)
    have h3 : (256 : Nat) ^ 7 = 72057594037927936 := by decide
    omega
   have hor := or_stepO _ _ hn (T[k]'hkl).toNat_lt
   rw [← hv] at hor
   have hcw : IntKind.u64.wrap (((T[k]'hkl).toNat : Nat) : Int) = (((T[k]'hkl).toNat : Nat) : Int) := by have := (T[k]'hkl).toNat_lt; rw [IntKind.wrap_u64]; omega
   generalize (T[k]'hkl).toNat = c at *
   obtain ⟨N2, hN2⟩ : ∃ q, valN (T.take (k + 1)) = q := ⟨_, rfl⟩
   rw [hN2] at hor hv
   have HN2 := qh hN2
   clear hN2
   generalize valN (T.take k) = N1 at *
   rw [show ((256 * N1 : Nat) : Int) = (N1 : Int) * 256 by omega] at hor
   go_wp2_with fail
   refine ⟨⟨k + 1, by omega, by push_cast; rfl, ?_⟩, by simp only [intOf]; omega⟩
   rw [HN2.out]
   congr 1
   omega
  ·obtain rfl : k = T.length := by omega
   rw [List.take_length]
   go_wp2_with fail
   go_ret
   exact ⟨rfl, ACC.out, B2.out⟩
theorem two_o (b : Nat) (r : Rd) (w : World) (hb : RdO w b r) :
  Calls Tryz.prog 83 #[.pointer (some ⟨b, 0, none⟩)] w fun e w' => e = .returned (.int .i64 r.two.1) ∧ Wr [b] w w' ∧ RdO w' b r.two.2 := by
 have h := number_o b 2 r (by decide) w hb
 have hl := num_ltO (k := 2) (by omega) r
 unfold Rd.two
 generalize r.num 2 = rr at *
 obtain ⟨v, r'⟩ := rr
 simp only at hl h ⊢
 have e1 : IntKind.i64.wrap (v : Int) = (v : Int) := by rw [IntKind.wrap_i64]; omega
 have e2 : wrap64 (v : Int) = (v : Int) := by unfold wrap64; omega
 have H := qh h
 clear hb h
 go_in
 go_wp2_with fail
 refine H.out.mono ?_
 rintro e w1 ⟨rfl, r1, b1⟩
 go_wp2_with fail
 go_ret
 exact ⟨rfl, r1, b1⟩
theorem one_o (b : Nat) (r : Rd) (w : World) (hb : RdO w b r) :
  Calls Tryz.prog 59 #[.pointer (some ⟨b, 0, none⟩)] w fun e w' => e = .returned (.int .i64 r.one.1) ∧ Wr [b] w w' ∧ RdO w' b r.one.2 := by
 have h := number_o b 1 r (by decide) w hb
 have hl := num_ltO (k := 1) (by omega) r
 unfold Rd.one
 generalize r.num 1 = rr at *
 obtain ⟨v, r'⟩ := rr
 simp only at hl h ⊢
 have e1 : IntKind.i64.wrap (v : Int) = (v : Int) := by rw [IntKind.wrap_i64]; omega
 have e2 : wrap64 (v : Int) = (v : Int) := by unfold wrap64; omega
 have H := qh h
 clear hb h
 go_in
 go_wp2_with fail
 refine H.out.mono ?_
 rintro e w1 ⟨rfl, r1, b1⟩
 go_wp2_with fail
 go_ret
 exact ⟨rfl, r1, b1⟩
theorem word_o (b : Nat) (r : Rd) (w : World) (hb : RdO w b r) :
  Calls Tryz.prog 88 #[.pointer (some ⟨b, 0, none⟩)] w fun e w' => e = .returned (.int .u16 r.two.1) ∧ Wr [b] w w' ∧ RdO w' b r.two.2 := by
 have h := number_o b 2 r (by decide) w hb
 have hl := num_ltO (k := 2) (by omega) r
 unfold Rd.two
 generalize r.num 2 = rr at *
 obtain ⟨v, r'⟩ := rr
 simp only at hl h ⊢
 have e1 : IntKind.u16.wrap (v : Int) = (v : Int) := by rw [IntKind.wrap_u16]; omega
 have e2 : wrap64 (v : Int) = (v : Int) := by unfold wrap64; omega
 have H := qh h
 clear hb h
 go_in
 go_wp2_with fail
 refine H.out.mono ?_
 rintro e w1 ⟨rfl, r1, b1⟩
 go_wp2_with fail
 go_ret
 exact ⟨rfl, r1, b1⟩
theorem text_o (b : Nat) (r : Rd) (w : World) (hb : RdO w b r) :
  Calls Tryz.prog 55 #[.pointer (some ⟨b, 0, none⟩)] w fun e w' => e = .returned (.string r.text.1) ∧ Wr [b] w w' ∧ RdO w' b r.text.2 := by
 have h := one_o b r w hb
 have hl := num_ltO (k := 1) (by omega) r
 unfold Rd.one at h
 unfold Rd.text
 generalize r.num 1 = rr at *
 obtain ⟨v, r'⟩ := rr
 simp only at hl h ⊢
 have h2 := fun W hW => raw_o b v r' (by omega) W hW
 generalize r'.raw v = qq at *
 obtain ⟨T, r''⟩ := qq
 simp only at h2 ⊢
 have H := qh h
 have H2 := qh h2
 clear hb h h2
 go_in
 go_wp2_with fail
 refine H.out.mono ?_
 rintro e w1 ⟨rfl, r1, b1⟩
 have h3 := H2.out _ b1
 have H3 := qh h3
 clear h3
 go_wp2_with fail
 refine H3.out.mono ?_
 rintro e w2 ⟨rfl, r2, b2⟩
 go_wp2_with fail
 go_ret
 exact ⟨rfl, r1.trans r2, b2⟩
theorem truth_o (b : Nat) (r : Rd) (w : World) (hb : RdO w b r) :
  Calls Tryz.prog 56 #[.pointer (some ⟨b, 0, none⟩)] w fun e w' => e = .returned (.bool r.truth.1) ∧ Wr [b] w w' ∧ RdO w' b r.truth.2 := by
 have h := one_o b r w hb
 unfold Rd.one at h
 unfold Rd.truth
 generalize r.num 1 = rr at *
 obtain ⟨v, l, bad⟩ := rr
 simp only at h ⊢
 have e1 : ((v : Int) == 1) = decide (v = 1) := by rw [Bool.eq_iff_iff]; simp only [beq_iff_eq, decide_eq_true_eq]; omega
 have e2 : decide ((v : Int) > 1) = decide (1 < v) := decide_eq_decide.2 (by omega)
 obtain ⟨d1, hd1⟩ : ∃ q, decide (v = 1) = q := ⟨_, rfl⟩
 obtain ⟨d2, hd2⟩ : ∃ q, decide (1 < v) = q := ⟨_, rfl⟩
 rw [hd1] at e1
 rw [hd2] at e2
 rw [hd1, hd2]
 have H := qh h
 clear hb h
 cases bad with
 | true =>
  rw [Bool.true_or]
  clear hd1 hd2 e2
  go_in
  go_wp2_with fail
  refine H.out.mono ?_
  rintro e w1 ⟨rfl, r1, b1⟩
  have c1 := b1.cell 1
  have z1 := b1.frozen 1
  simp only [qgaq, qgzq, qgsq] at c1
  have B1 := qh b1
  clear b1
  go_wp2_with fail
  go_ret
  exact ⟨rfl, r1.setOn (by simp) _, B1.out.set_ 1 _⟩
 | false =>
  rw [Bool.false_or]
  cases d2 with
  | true =>
   have e4 : 1 < v := of_decide_eq_true hd2
   clear hd1 hd2
   go_in
   go_wp2_with fail
   refine H.out.mono ?_
   rintro e w1 ⟨rfl, r1, b1⟩
   have c1 := b1.cell 1
   have z1 := b1.frozen 1
   simp only [qgaq, qgzq, qgsq] at c1
   have B1 := qh b1
   clear b1
   go_wp2_with fail
   go_ret
   exact ⟨rfl, r1.setOn (by simp) _, B1.out.set_ 1 _⟩
  | false =>
   have e4 : ¬ 1 < v := of_decide_eq_false hd2
   clear hd1 hd2
   go_in
   go_wp2_with fail
   refine H.out.mono ?_
   rintro e w1 ⟨rfl, r1, b1⟩
   have c1 := b1.cell 1
   have z1 := b1.frozen 1
   simp only [qgaq, qgzq, qgsq] at c1
   have B1 := qh b1
   clear b1
   go_wp2_with fail
   go_ret
   exact ⟨rfl, r1.setOn (by simp) _, B1.out.set_ 1 _⟩
def RdG (w : World) (b : Nat) (r : Rd) : Prop := Blk w b 166 #[.string ⟨r.s.toArray⟩, .bool r.bad]
theorem raw_g (b n : Nat) (r : Rd) (hn : n ≤ 1000000) (w : World) (hb : RdG w b r) :
  Calls Tryz.prog 123 #[.pointer (some ⟨b, 0, none⟩), .int .i64 (n : Int)] w fun e w' => e = .returned (.string (ansS (r.raw n).1)) ∧ Wr [b] w w' ∧ RdG w' b (r.raw n).2 := by
 obtain ⟨l, bad⟩ := r
 obtain ⟨S, hS⟩ : ∃ S : ByteArray, ⟨l.toArray⟩ = S := ⟨_, rfl⟩
 have hsz : S.size = l.length := by rw [← hS]; show l.toArray.size = _; simp
 have hb' : Blk w b 166 #[.string S, .bool bad] := by rw [← hS]; exact hb
 obtain ⟨c0, c1⟩ := c2q hb'
 obtain ⟨z0, z1⟩ := z2q hb'
 cases bad with
 | true =>
  have hr : (Rd.mk l true).raw n = ([], ⟨l, true⟩) := by unfold Rd.raw; simp
  rw [hr]
  have HB := qh hb'
  clear hb hb' hr
  go_in
  go_wp2_with fail
  go_ret
  exact ⟨rfl, (Wr.refl _ _).setOn (by simp) _, by have := HB.out.set_ 1 (.bool true); rw [← hS] at this; exact this⟩
 | false =>
  by_cases hlt : l.length < n
  ·have hr : (Rd.mk l false).raw n = ([], ⟨l, true⟩) := by unfold Rd.raw; simp [hlt]
   rw [hr]
   have HB := qh hb'
   have e0 : decide ((S.size : Int) < (n : Int)) = true := qdtq (by omega)
   have e1 : decide (S.size < n) = true := qdtq (by omega)
   clear hb hb' hr
   go_in
   go_wp2_with fail
   go_ret
   exact ⟨rfl, (Wr.refl _ _).setOn (by simp) _, by have := HB.out.set_ 1 (.bool true); rw [← hS] at this; exact this⟩
  ·have hr : (Rd.mk l false).raw n = (l.take n, ⟨l.drop n, false⟩) := by unfold Rd.raw; simp [hlt]
   rw [hr]
   have HB := qh hb'
   have e0 : decide ((S.size : Int) < (n : Int)) = false := qdfq (by omega)
   have e1 : decide (S.size < n) = false := qdfq (by omega)
   have n0 : (0 : Int) ≤ (n : Int) := by omega
   have n1 : (n : Int) ≤ (S.size : Int) := by omega
   have hT : S.extract 0 n = ansS (l.take n) := by
    rw [← hS]
    apply ByteArray.ext
    rw [ByteArray.data_extract]
    simp [ansS]
   have hD : S.extract n S.size = ansS (l.drop n) := by
    rw [← hS]
    apply ByteArray.ext
    rw [ByteArray.data_extract]
    simp [ansS]
    exact List.take_of_length_le (by rw [List.length_drop]; show l.length - n ≤ l.toArray.size - n; simp)
   have HT := qh hT
   have HD := qh hD
   clear hb hb' hr hlt hT hD hsz
   go_in
   go_wp2_with fail
   go_ret
   refine ⟨by rw [HT.out]; rfl, (Wr.refl _ _).setOn (by simp) _, ?_⟩
   have := HB.out.set_ 0 (.string (S.extract n S.size))
   rw [HD.out] at this ⊢
   exact this
theorem number_g (b size : Nat) (r : Rd) (hs : size ≤ 8) (w : World) (hb : RdG w b r) :
  Calls Tryz.prog 92 #[.pointer (some ⟨b, 0, none⟩), .int .i64 (size : Int)] w fun e w' => e = .returned (.int .u64 ((r.num size).1 : Int)) ∧ Wr [b] w w' ∧ RdG w' b (r.num size).2 := by
 obtain ⟨l, bad⟩ := r
 obtain ⟨S, hS⟩ : ∃ S : ByteArray, ⟨l.toArray⟩ = S := ⟨_, rfl⟩
 have hsz : S.size = l.length := by rw [← hS]; show l.toArray.size = _; simp
 have hSl : S.data.toList = l := by rw [← hS]
 have hb' : Blk w b 166 #[.string S, .bool bad] := by rw [← hS]; exact hb
 obtain ⟨c0, c1⟩ := c2q hb'
 obtain ⟨z0, z1⟩ := z2q hb'
 cases bad with
 | true =>
  have hr : (Rd.mk l true).num size = (0, ⟨l, true⟩) := by unfold Rd.num Rd.raw; simp; rfl
  rw [hr]
  have HB := qh hb'
  clear hb hb' hr
  go_in
  go_wp2_with fail
  go_ret
  exact ⟨rfl, (Wr.refl _ _).setOn (by simp) _, by have := HB.out.set_ 1 (.bool true); rw [← hS] at this; exact this⟩
 | false =>
  by_cases hlt : l.length < size
  ·have hr : (Rd.mk l false).num size = (0, ⟨l, true⟩) := by unfold Rd.num Rd.raw; simp [hlt]; rfl
   rw [hr]
   have HB := qh hb'
   have e0 : decide ((S.size : Int) < (size : Int)) = true := qdtq (by omega)
   have e1 : decide (S.size < size) = true := qdtq (by omega)
   clear hb hb' hr
   go_in
   go_wp2_with fail
   go_ret
   exact ⟨rfl, (Wr.refl _ _).setOn (by simp) _, by have := HB.out.set_ 1 (.bool true); rw [← hS] at this; exact this⟩
  ·have hr : (Rd.mk l false).num size = (valN (l.take size), ⟨l.drop size, false⟩) := by unfold Rd.num Rd.raw; simp [hlt]
   rw [hr]
   have HB := qh hb'
   have e0 : decide ((S.size : Int) < (size : Int)) = false := qdfq (by omega)
   have e1 : decide (S.size < size) = false := qdfq (by omega)
   have n0 : (0 : Int) ≤ (size : Int) := by omega
   have n1 : (size : Int) ≤ (S.size : Int) := by omega
   have hD : S.extract size S.size = ansS (l.drop size) := by
    rw [← hS]
    apply ByteArray.ext
    rw [ByteArray.data_extract]
    simp [ansS]
    exact List.take_of_length_le (by rw [List.length_drop]; show l.length - size ≤ l.toArray.size - size; simp)
   have HD := qh hD
   have HSZ := qh hsz
   have HS := qh hS
   have HLT := qh hlt
   clear hb hb' hr hlt hD hsz hSl hS
   go_in
   go_wp2_with fail
   go_loopw [5, 6] (fun v i wr => ∃ k N : Nat, k ≤ size ∧ i = .int .i64 k ∧ v = .int .u64 (N : Int) ∧ valN (l.take k) = N ∧ w = wr) (fun _ i _ => size - (intOf i).toNat)
   case atStart => exact ⟨0, 0, by omega, rfl, rfl, rfl, rfl⟩
   case round =>
    obtain ⟨k, N, hk, rfl, rfl, hN, rfl⟩ := hrel
    by_cases hkl : k < size
    ·have hi0 : (0 : Int) ≤ (k : Int) := by omega
     have hi1 : (k : Int) < (size : Int) := by omega
     have hi2 : (k : Int) < (S.size : Int) := by have := HLT.out; have := HSZ.out; omega
     have hkS : k < S.size := by omega
     have hkl2 : k < l.length := by have := HSZ.out; omega
     have hel : S[k]'hkS = l[k]'hkl2 := by have := HS.out; subst this; rfl
     have hv : valN (l.take (k + 1)) = 256 * N + (S[k]'hkS).toNat := by
      rw [List.take_succ_eq_append_getElem hkl2, valN_snoc, hN, hel]
     have hn : N < 72057594037927936 := by
      have h1 := valN_lt (l.take k)
      have h2 : 256 ^ (l.take k).length ≤ 256 ^ 7 := Nat.pow_le_pow_right (by decide) (by rw [List.length_take]; omega)
      have h3 : (256 : Nat) ^ 7 = 72057594037927936 := by decide
      omega
     have hc8 := (S[k]'hkS).toNat_lt
     have hm : IntKind.u64.wrap (256 * (N : Int)) = 256 * (N : Int) := by rw [IntKind.wrap_u64]; omega
     have hcw : IntKind.u64.wrap ((S[k]'hkS).toNat : Int) = ((S[k]'hkS).toNat : Int) := by rw [IntKind.wrap_u64]; omega
     have ha : IntKind.u64.wrap (256 * (N : Int) + ((S[k]'hkS).toNat : Int)) = 256 * (N : Int) + ((S[k]'hkS).toNat : Int) := by rw [IntKind.wrap_u64]; omega
     have HVV := qh hv
     clear hv hN hel
     go_wp2_with fail
     go_roundw
     case rel => exact ⟨k + 1, 256 * N + (S[k]'hkS).toNat, by omega, by go_num, by push_cast; rfl, HVV.out, trivial⟩
     case measure => simp [intOf]; omega
    ·have hks : k = size := by omega
     subst hks
     go_wp2_with fail
     go_ret
     refine ⟨by rw [hN]; rfl, (Wr.refl _ _).setOn (by simp) _, ?_⟩
     have := HB.out.set_ 0 (.string (S.extract k S.size))
     rw [HD.out] at this ⊢
     exact this
end Go.Proofs.YtildcdgobdfieaaGreat
