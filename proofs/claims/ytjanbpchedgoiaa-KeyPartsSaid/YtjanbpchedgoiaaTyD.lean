/- A type, as plain data, and as it lies in memory. No conditions. -/
import Derived.Test.YtjanbpchedgoiaaTyB
namespace Go.Proofs.Ytjanbpchedgoiaa
open Go.RowKit
set_option linter.unusedVariables false
set_option linter.unusedSimpArgs false

/-- A record's field. -/
structure Fld where
  name : ByteArray
  type : Int
  arm : Int
/-- An arm of a record. -/
structure ArmD where
  frm : List Int
  to : List Int
  els : Bool
/-- A parameter. -/
structure Par where
  var : Bool
  type : Int
/-- A type. -/
structure Ty where
  kind : Int
  module : ByteArray
  name : ByteArray
  base : Int
  index : Int
  low : Int
  high : Int
  names : List ByteArray
  fields : List Fld
  arms : List ArmD
  params : List Par
  result : Int

def Fld.cells (x : Fld) : List Value := [.string x.name, .int .i64 x.type, .int .i64 x.arm]
def Par.cells (x : Par) : List Value := [.bool x.var, .int .i64 x.type]

def SlInts (w : World) (P : Nat → Prop) (v : Value) (l : List Int) : Prop := Sl w P 1 v l.length (l.map (Value.int .i64))
def SlStrs (w : World) (P : Nat → Prop) (v : Value) (l : List ByteArray) : Prop := Sl w P 1 v l.length (l.map Value.string)
def SlFlds (w : World) (P : Nat → Prop) (v : Value) (l : List Fld) : Prop := Sl w P 3 v l.length (l.flatMap Fld.cells)
def SlPars (w : World) (P : Nat → Prop) (v : Value) (l : List Par) : Prop := Sl w P 2 v l.length (l.flatMap Par.cells)
/-- An arm's three cells, in a list of cells. -/
def ArmAt (w : World) (P : Nat → Prop) (xs : List Value) (i : Nat) (x : ArmD) : Prop :=
  ∃ va vb, xs[i * 3]? = some va ∧ xs[i * 3 + 1]? = some vb ∧ xs[i * 3 + 2]? = some (.bool x.els) ∧ SlInts w P va x.frm ∧ SlInts w P vb x.to
def SlArms (w : World) (P : Nat → Prop) (v : Value) (l : List ArmD) : Prop := ∃ xs, Sl w P 3 v l.length xs ∧ (∀ u ∈ xs, u.oneCell' = true) ∧ ∀ i x, l[i]? = some x → ArmAt w P xs i x

/-- A type's four lists. -/
structure Lists (w : World) (P : Nat → Prop) (vn vf va vp : Value) (t : Ty) : Prop where
  names : SlStrs w P vn t.names
  fields : SlFlds w P vf t.fields
  arms : SlArms w P va t.arms
  params : SlPars w P vp t.params
/-- A type's twelve cells. -/
def Ty.cells (t : Ty) (vn vf va vp : Value) : List Value :=
  [.int .u8 t.kind, .string t.module, .string t.name, .int .i64 t.base, .int .i64 t.index, .int .i64 t.low, .int .i64 t.high, vn, vf, va, vp, .int .i64 t.result]
def Ty.val (t : Ty) (vn vf va vp : Value) : Value := .agg (t.cells vn vf va vp).toArray
/-- Its lists take no more room than there is. -/
structure Ty.room (t : Ty) : Prop where
  names : t.names.length ≤ 1099511627776
  fields : t.fields.length ≤ 1099511627776
  arms : t.arms.length ≤ 1099511627776
  params : t.params.length ≤ 1099511627776
  ints : ∀ x ∈ t.arms, x.frm.length ≤ 1099511627776 ∧ x.to.length ≤ 1099511627776

theorem one_ints (l : List Int) : ∀ u ∈ l.map (Value.int .i64), u.oneCell' = true := by simp [Value.oneCell']
theorem one_strs (l : List ByteArray) : ∀ u ∈ l.map Value.string, u.oneCell' = true := by simp [Value.oneCell']
theorem one_flds (l : List Fld) : ∀ u ∈ l.flatMap Fld.cells, u.oneCell' = true := by
  intro u hu
  simp only [List.mem_flatMap, Fld.cells] at hu
  obtain ⟨x, _, hx⟩ := hu
  simp at hx
  rcases hx with rfl | rfl | rfl <;> rfl
theorem one_pars (l : List Par) : ∀ u ∈ l.flatMap Par.cells, u.oneCell' = true := by
  intro u hu
  simp only [List.mem_flatMap, Par.cells] at hu
  obtain ⟨x, _, hx⟩ := hu
  simp at hx
  rcases hx with rfl | rfl <;> rfl

section
variable {w w' : World} {P Q : Nat → Prop} {v : Value}
theorem SlArms.keep {l : List Nat} {ams : List ArmD} (h : SlArms w P v ams) (hw : Wr l w w') (hP : ∀ b, P b → b ∉ l) : SlArms w' P v ams := by
  obtain ⟨xs, hs, h1, ha⟩ := h
  refine ⟨xs, hs.keep hw hP, h1, fun i x hi => ?_⟩
  obtain ⟨va, vb, e1, e2, e3, ka, kb⟩ := ha i x hi
  exact ⟨va, vb, e1, e2, e3, Sl.keep ka hw hP, Sl.keep kb hw hP⟩
theorem SlArms.into {ams : List ArmD} (h : SlArms w P v ams) (hP : ∀ b, P b → b < w.heap.size → Q b) : SlArms w Q v ams := by
  obtain ⟨xs, hs, h1, ha⟩ := h
  refine ⟨xs, hs.into hP, h1, fun i x hi => ?_⟩
  obtain ⟨va, vb, e1, e2, e3, ka, kb⟩ := ha i x hi
  exact ⟨va, vb, e1, e2, e3, Sl.into ka hP, Sl.into kb hP⟩
theorem SlArms.nil (w : World) (P : Nat → Prop) : SlArms w P (.slice none 0 0) [] := ⟨[], Sl.nil w P 3, by simp, fun i x h => by simp at h⟩
variable {vn vf va vp : Value} {t : Ty}
theorem Lists.keep {l : List Nat} (h : Lists w P vn vf va vp t) (hw : Wr l w w') (hP : ∀ b, P b → b ∉ l) : Lists w' P vn vf va vp t :=
  ⟨Sl.keep h.names hw hP, Sl.keep h.fields hw hP, SlArms.keep h.arms hw hP, Sl.keep h.params hw hP⟩
theorem Lists.wr0 (h : Lists w P vn vf va vp t) (hw : Wr [] w w') : Lists w' P vn vf va vp t := h.keep hw (fun _ _ => by simp)
theorem Lists.into (h : Lists w P vn vf va vp t) (hP : ∀ b, P b → b < w.heap.size → Q b) : Lists w Q vn vf va vp t :=
  ⟨Sl.into h.names hP, Sl.into h.fields hP, SlArms.into h.arms hP, Sl.into h.params hP⟩
theorem Lists.mono (h : Lists w P vn vf va vp t) (hP : ∀ b, P b → Q b) : Lists w Q vn vf va vp t := h.into fun b hb _ => hP b hb
end
end Go.Proofs.Ytjanbpchedgoiaa
