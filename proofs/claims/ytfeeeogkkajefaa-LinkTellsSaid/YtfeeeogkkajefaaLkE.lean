/- Modules and objects as they lie in memory. No conditions. -/
import Derived.Test.YtfeeeogkkajefaaTyA
import Derived.Test.YtfeeeogkkajefaaLkB
namespace Go.Proofs.Ytfeeeogkkajefaa
open Go.RowKit
set_option linter.unusedVariables false
set_option linter.unusedSimpArgs false

def PrcD.cells (p : PrcD) : List Value := [.int .i64 p.at_, .int .i64 p.params, .int .i64 p.locals, .int .i64 p.depth, .int .i64 p.level, .bool p.func]
def UseD.cells (u : UseD) : List Value := [.string u.module, .int .u64 u.key]
def SlPrcs (w : World) (P : Nat → Prop) (v : Value) (l : List PrcD) : Prop := Sl w P 6 v l.length (l.flatMap PrcD.cells)
def SlUses (w : World) (P : Nat → Prop) (v : Value) (l : List UseD) : Prop := Sl w P 2 v l.length (l.flatMap UseD.cells)
def SlI64 (w : World) (P : Nat → Prop) (v : Value) (l : List Int) : Prop := Sl w P 1 v l.length (l.map (Value.int .i64))
def SlU16 (w : World) (P : Nat → Prop) (v : Value) (l : List Int) : Prop := Sl w P 1 v l.length (l.map (Value.int .u16))
def SlStr (w : World) (P : Nat → Prop) (v : Value) (l : List ByteArray) : Prop := Sl w P 1 v l.length (l.map Value.string)
/-- A module's three lists. -/
structure ModL (w : World) (P : Nat → Prop) (vp vi vn : Value) (m : ModD) : Prop where
  procs : SlPrcs w P vp m.procs
  imports : SlI64 w P vi m.imports
  init : SlU16 w P vn m.init
def ModD.cells (m : ModD) (vp vi vn : Value) : List Value := [.string m.code, vp, vi, .int .i64 m.data, vn]
def ModD.val (m : ModD) (vp vi vn : Value) : Value := .agg (m.cells vp vi vn).toArray
structure ObjL (w : World) (P : Nat → Prop) (vu vp vi vn : Value) (o : ObjD) : Prop where
  uses : SlUses w P vu o.uses
  mod : ModL w P vp vi vn o.mod
def ObjD.cells (o : ObjD) (vu vp vi vn : Value) : List Value := [.string o.module, .bool o.main, .int .u64 o.key, vu, .string o.mod.code, vp, vi, .int .i64 o.mod.data, vn]
def SlObjs (w : World) (P : Nat → Prop) (v : Value) (l : List ObjD) : Prop :=
  ∃ xs, Sl w P 9 v l.length xs ∧ (∀ u ∈ xs, u.oneCell' = true) ∧ ∀ i o, l[i]? = some o → ∃ vu vp vi vn, (∀ j u, (o.cells vu vp vi vn)[j]? = some u → xs[i * 9 + j]? = some u) ∧ ObjL w P vu vp vi vn o
section
variable {w w' : World} {P Q : Nat → Prop} {v vu vp vi vn : Value}
theorem ModL.keep {l : List Nat} {m : ModD} (h : ModL w P vp vi vn m) (hw : Wr l w w') (hP : ∀ b, P b → b ∉ l) : ModL w' P vp vi vn m :=
  ⟨Sl.keep h.procs hw hP, Sl.keep h.imports hw hP, Sl.keep h.init hw hP⟩
theorem ModL.wr0 {m : ModD} (h : ModL w P vp vi vn m) (hw : Wr [] w w') : ModL w' P vp vi vn m := h.keep hw (fun _ _ => by simp)
theorem ModL.into {m : ModD} (h : ModL w P vp vi vn m) (hP : ∀ b, P b → b < w.heap.size → Q b) : ModL w Q vp vi vn m :=
  ⟨Sl.into h.procs hP, Sl.into h.imports hP, Sl.into h.init hP⟩
theorem ObjL.keep {l : List Nat} {o : ObjD} (h : ObjL w P vu vp vi vn o) (hw : Wr l w w') (hP : ∀ b, P b → b ∉ l) : ObjL w' P vu vp vi vn o := ⟨Sl.keep h.uses hw hP, h.mod.keep hw hP⟩
theorem ObjL.wr0 {o : ObjD} (h : ObjL w P vu vp vi vn o) (hw : Wr [] w w') : ObjL w' P vu vp vi vn o := h.keep hw (fun _ _ => by simp)
theorem ObjL.into {o : ObjD} (h : ObjL w P vu vp vi vn o) (hP : ∀ b, P b → b < w.heap.size → Q b) : ObjL w Q vu vp vi vn o := ⟨Sl.into h.uses hP, h.mod.into hP⟩
theorem SlObjs.keep {ls : List Nat} {l : List ObjD} (h : SlObjs w P v l) (hw : Wr ls w w') (hP : ∀ b, P b → b ∉ ls) : SlObjs w' P v l := by
  obtain ⟨xs, h1, h2, h3⟩ := h
  refine ⟨xs, h1.keep hw hP, h2, fun i o hi => ?_⟩
  obtain ⟨vu, vp, vi, vn, e1, e2⟩ := h3 i o hi
  exact ⟨vu, vp, vi, vn, e1, e2.keep hw hP⟩
theorem SlObjs.wr0 {l : List ObjD} (h : SlObjs w P v l) (hw : Wr [] w w') : SlObjs w' P v l := h.keep hw (fun _ _ => by simp)
theorem SlObjs.into {l : List ObjD} (h : SlObjs w P v l) (hP : ∀ b, P b → b < w.heap.size → Q b) : SlObjs w Q v l := by
  obtain ⟨xs, h1, h2, h3⟩ := h
  refine ⟨xs, h1.into hP, h2, fun i o hi => ?_⟩
  obtain ⟨vu, vp, vi, vn, e1, e2⟩ := h3 i o hi
  exact ⟨vu, vp, vi, vn, e1, e2.into hP⟩
theorem SlObjs.form {l : List ObjD} (h : SlObjs w P v l) : ∃ A c, v = .slice A l.length c ∧ l.length ≤ c ∧ c ≤ maxLen := by
  obtain ⟨xs, h1, h2, h3⟩ := h
  exact h1.form
end
/-- The j-th cell of the i-th thing, in the list of all cells. -/
theorem flat_at {α : Type} {g : α → List Value} {size : Nat} (hg : ∀ x, (g x).length = size) : ∀ (l : List α) (i j : Nat) (x : α), l[i]? = some x → j < size → (l.flatMap g)[i * size + j]? = (g x)[j]?
  | [], i, j, x, h, _ => by simp at h
  | y :: l, 0, j, x, h, hj => by
    simp only [List.getElem?_cons_zero, Option.some.injEq] at h
    subst h
    rw [List.flatMap_cons, Nat.zero_mul, Nat.zero_add, List.getElem?_append_left (by rw [hg]; exact hj)]
  | y :: l, i + 1, j, x, h, hj => by
    rw [List.getElem?_cons_succ] at h
    rw [List.flatMap_cons, List.getElem?_append_right (by rw [hg, Nat.succ_mul]; omega), hg, show (i + 1) * size + j - size = i * size + j by rw [Nat.succ_mul]; omega]
    exact flat_at hg l i j x h hj
end Go.Proofs.Ytfeeeogkkajefaa
