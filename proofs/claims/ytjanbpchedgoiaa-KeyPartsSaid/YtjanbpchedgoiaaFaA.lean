/- Interfaces as they lie in memory: values, items, types, the whole. No conditions. -/
import Derived.Test.YtjanbpchedgoiaaIpA
import Derived.Test.YtjanbpchedgoiaaIfB
import Derived.Test.YtjanbpchedgoiaaKoV
namespace Go.Proofs.Ytjanbpchedgoiaa
open Go.RowKit
set_option linter.unusedVariables false
set_option linter.unusedSimpArgs false

/-- The j-th cell of the i-th thing, in the list of all cells. -/
theorem flatF_at {α : Type} {g : α → List Value} {size : Nat} (hg : ∀ x, (g x).length = size) : ∀ (l : List α) (i j : Nat) (x : α), l[i]? = some x → j < size → (l.flatMap g)[i * size + j]? = (g x)[j]?
  | [], i, j, x, h, _ => by simp at h
  | y :: l, 0, j, x, h, hj => by
    simp only [List.getElem?_cons_zero, Option.some.injEq] at h
    subst h
    rw [List.flatMap_cons, Nat.zero_mul, Nat.zero_add, List.getElem?_append_left (by rw [hg]; exact hj)]
  | y :: l, i + 1, j, x, h, hj => by
    rw [List.getElem?_cons_succ] at h
    rw [List.flatMap_cons, List.getElem?_append_right (by rw [hg, Nat.succ_mul]; omega), hg, show (i + 1) * size + j - size = i * size + j by rw [Nat.succ_mul]; omega]
    exact flatF_at hg l i j x h hj
/-- A value, as what lies in an interface value. -/
def AnyD.val : AnyD → Value
  | .nil => .nilIface
  | .whole n => .iface 94 (.int .i64 n)
  | .letter n => .iface 95 (.int .u8 n)
  | .truth b => .iface 96 (.bool b)
  | .bits n => .iface 97 (.int .u16 n)
  | .str s => .iface 98 (.string s)
  | .item t n => .iface 79 (.agg #[.int .i64 t, .int .i64 n])
  | .null => .iface 100 (.agg #[])
  | .other => .iface 9 (.string ⟨#[110, 111, 110, 101]⟩)
def AnyD.sort : AnyD → Nat
  | .nil => 0 | .whole _ => 1 | .letter _ => 2 | .truth _ => 3 | .bits _ => 4 | .str _ => 5 | .item _ _ => 6 | .null => 7 | .other => 8
def AnyD.wholeV : AnyD → Int | .whole n => n | _ => 0
def AnyD.letterV : AnyD → Int | .letter n => n | _ => 0
def AnyD.truthV : AnyD → Bool | .truth b => b | _ => false
def AnyD.bitsV : AnyD → Int | .bits n => n | _ => 0
def AnyD.strV : AnyD → ByteArray | .str s => s | _ => ⟨#[]⟩
def AnyD.itemT : AnyD → Int | .item t _ => t | _ => 0
def AnyD.itemN : AnyD → Int | .item _ n => n | _ => 0
theorem AnyD.val_one (v : AnyD) : v.val.oneCell' = true := by cases v <;> rfl
section
variable (v : AnyD) (w : World)
set_option maxRecDepth 100000 in
theorem anyAs_whole : (Instr.typeAssert v.val 20 94 true).run Try.prog w = .ok (.tuple #[.int .i64 v.wholeV, .bool (v.sort == 1)]) w := by
  cases v <;> simp only [AnyD.val, AnyD.wholeV, AnyD.sort] <;> first
    | (rw [as_self Try.underlying94 rfl]; rfl)
    | (rw [as_nil Try.underlying94 rfl Try.zeroValue94]; rfl)
    | (rw [as_other Try.underlying94 rfl Try.zeroValue94 (by decide)]; rfl)
set_option maxRecDepth 100000 in
theorem anyAs_letter : (Instr.typeAssert v.val 20 95 true).run Try.prog w = .ok (.tuple #[.int .u8 v.letterV, .bool (v.sort == 2)]) w := by
  cases v <;> simp only [AnyD.val, AnyD.letterV, AnyD.sort] <;> first
    | (rw [as_self Try.underlying95 rfl]; rfl)
    | (rw [as_nil Try.underlying95 rfl Try.zeroValue95]; rfl)
    | (rw [as_other Try.underlying95 rfl Try.zeroValue95 (by decide)]; rfl)
set_option maxRecDepth 100000 in
theorem anyAs_truth : (Instr.typeAssert v.val 20 96 true).run Try.prog w = .ok (.tuple #[.bool v.truthV, .bool (v.sort == 3)]) w := by
  cases v <;> simp only [AnyD.val, AnyD.truthV, AnyD.sort] <;> first
    | (rw [as_self Try.underlying96 rfl]; rfl)
    | (rw [as_nil Try.underlying96 rfl Try.zeroValue96]; rfl)
    | (rw [as_other Try.underlying96 rfl Try.zeroValue96 (by decide)]; rfl)
set_option maxRecDepth 100000 in
theorem anyAs_bits : (Instr.typeAssert v.val 20 97 true).run Try.prog w = .ok (.tuple #[.int .u16 v.bitsV, .bool (v.sort == 4)]) w := by
  cases v <;> simp only [AnyD.val, AnyD.bitsV, AnyD.sort] <;> first
    | (rw [as_self Try.underlying97 rfl]; rfl)
    | (rw [as_nil Try.underlying97 rfl Try.zeroValue97]; rfl)
    | (rw [as_other Try.underlying97 rfl Try.zeroValue97 (by decide)]; rfl)
set_option maxRecDepth 100000 in
theorem anyAs_string : (Instr.typeAssert v.val 20 98 true).run Try.prog w = .ok (.tuple #[.string v.strV, .bool (v.sort == 5)]) w := by
  cases v <;> simp only [AnyD.val, AnyD.strV, AnyD.sort] <;> first
    | (rw [as_self Try.underlying98 rfl]; rfl)
    | (rw [as_nil Try.underlying98 rfl Try.zeroValue98]; rfl)
    | (rw [as_other Try.underlying98 rfl Try.zeroValue98 (by decide)]; rfl)
set_option maxRecDepth 100000 in
theorem anyAs_item : (Instr.typeAssert v.val 20 79 true).run Try.prog w = .ok (.tuple #[.agg #[.int .i64 v.itemT, .int .i64 v.itemN], .bool (v.sort == 6)]) w := by
  cases v <;> simp only [AnyD.val, AnyD.itemT, AnyD.itemN, AnyD.sort] <;> first
    | (rw [as_self Try.underlying79 rfl]; rfl)
    | (rw [as_nil Try.underlying79 rfl Try.zeroValue79]; rfl)
    | (rw [as_other Try.underlying79 rfl Try.zeroValue79 (by decide)]; rfl)
set_option maxRecDepth 100000 in
theorem anyAs_null : (Instr.typeAssert v.val 20 100 true).run Try.prog w = .ok (.tuple #[.agg #[], .bool (v.sort == 7)]) w := by
  cases v <;> simp only [AnyD.val, AnyD.sort, AnyD.sort] <;> first
    | (rw [as_self Try.underlying100 rfl]; rfl)
    | (rw [as_nil Try.underlying100 rfl Try.zeroValue100]; rfl)
    | (rw [as_other Try.underlying100 rfl Try.zeroValue100 (by decide)]; rfl)
end
def ItmD.cells (x : ItmD) : List Value := [.string x.name, .int .u8 x.kind, .int .i64 x.type, x.v.val, .int .i64 x.at_]
theorem itm_len (x : ItmD) : x.cells.length = 5 := rfl
def UseD.cellsF (u : UseD) : List Value := [.string u.module, .int .u64 u.key]
theorem useF_len (x : UseD) : x.cellsF.length = 2 := rfl
def SlItms (w : World) (P : Nat → Prop) (v : Value) (l : List ItmD) : Prop := Sl w P 5 v l.length (l.flatMap ItmD.cells)
def SlUsesF (w : World) (P : Nat → Prop) (v : Value) (l : List UseD) : Prop := Sl w P 2 v l.length (l.flatMap UseD.cellsF)
def SlTys (w : World) (P : Nat → Prop) (v : Value) (l : List Ty) : Prop :=
  ∃ xs, Sl w P 12 v l.length xs ∧ (∀ u ∈ xs, u.oneCell' = true) ∧ ∀ i t, l[i]? = some t → ∃ vn vf va vp, (∀ j u, (t.cells vn vf va vp)[j]? = some u → xs[i * 12 + j]? = some u) ∧ Lists w P vn vf va vp t
/-- An interface's three lists. -/
structure FaceL (w : World) (P : Nat → Prop) (vu vt vi : Value) (f : FaceD) : Prop where
  uses : SlUsesF w P vu f.uses
  types : SlTys w P vt f.types
  items : SlItms w P vi f.items
def FaceD.val (f : FaceD) (vu vt vi : Value) : Value := .agg #[.string f.module, vu, vt, vi]
section
variable {w w' : World} {P Q : Nat → Prop} {v vu vt vi : Value}
theorem SlTys.keep {ls : List Nat} {l : List Ty} (h : SlTys w P v l) (hw : Wr ls w w') (hP : ∀ b, P b → b ∉ ls) : SlTys w' P v l := by
  obtain ⟨xs, h1, h2, h3⟩ := h
  refine ⟨xs, h1.keep hw hP, h2, fun i o hi => ?_⟩
  obtain ⟨vn, vf, va, vp, e1, e2⟩ := h3 i o hi
  exact ⟨vn, vf, va, vp, e1, e2.keep hw hP⟩
theorem SlTys.wr0 {l : List Ty} (h : SlTys w P v l) (hw : Wr [] w w') : SlTys w' P v l := h.keep hw (fun _ _ => by simp)
theorem SlTys.into {l : List Ty} (h : SlTys w P v l) (hP : ∀ b, P b → b < w.heap.size → Q b) : SlTys w Q v l := by
  obtain ⟨xs, h1, h2, h3⟩ := h
  refine ⟨xs, h1.into hP, h2, fun i o hi => ?_⟩
  obtain ⟨vn, vf, va, vp, e1, e2⟩ := h3 i o hi
  exact ⟨vn, vf, va, vp, e1, e2.into hP⟩
theorem SlTys.form {l : List Ty} (h : SlTys w P v l) : ∃ A c, v = .slice A l.length c ∧ l.length ≤ c ∧ c ≤ maxLen := by
  obtain ⟨xs, h1, h2, h3⟩ := h
  exact h1.form
theorem SlTys.nil (w : World) (P : Nat → Prop) : SlTys w P (.slice none 0 0) [] := ⟨[], Sl.nil _ _ _, by simp, fun i t h => by simp at h⟩
theorem ty_at {l : List Ty} (h : SlTys w P v l) {i : Nat} {t : Ty} (hi : l[i]? = some t) : ∃ b off c vn vf va vp, v = .slice (some ⟨b, off, none⟩) l.length c ∧ P b ∧ (∀ j u, (t.cells vn vf va vp)[j]? = some u → w.cell? ⟨b, off + i * 12 + j, none⟩ = some u) ∧ Lists w P vn vf va vp t := by
  obtain ⟨xs, h1, h2, h3⟩ := h
  obtain ⟨vn, vf, va, vp, e1, e2⟩ := h3 i t hi
  obtain ⟨b, off, c, e, _, _, hP, h4⟩ := Sl.thing h1 (by decide) (List.getElem?_eq_some_iff.1 hi).1
  refine ⟨b, off, c, vn, vf, va, vp, e, hP, fun j u hj => ?_, e2⟩
  have hj9 : j < 12 := (List.getElem?_eq_some_iff.1 hj).1
  rw [Nat.add_assoc]
  exact h4 j u hj9 (e1 j u hj)
theorem itm_at {l : List ItmD} (h : SlItms w P v l) {i : Nat} {x : ItmD} (hi : l[i]? = some x) : ∃ b off c, v = .slice (some ⟨b, off, none⟩) l.length c ∧ P b ∧ ∀ j u, x.cells[j]? = some u → w.cell? ⟨b, off + i * 5 + j, none⟩ = some u := by
  obtain ⟨b, off, c, e, _, _, hP, h4⟩ := Sl.thing h (by decide) (List.getElem?_eq_some_iff.1 hi).1
  refine ⟨b, off, c, e, hP, fun j u hj => ?_⟩
  have hj5 : j < 5 := (List.getElem?_eq_some_iff.1 hj).1
  rw [Nat.add_assoc]
  exact h4 j u hj5 (by rw [flatF_at itm_len l i j x hi hj5]; exact hj)
theorem useF_at {l : List UseD} (h : SlUsesF w P v l) {i : Nat} {x : UseD} (hi : l[i]? = some x) : ∃ b off c, v = .slice (some ⟨b, off, none⟩) l.length c ∧ P b ∧ ∀ j u, x.cellsF[j]? = some u → w.cell? ⟨b, off + i * 2 + j, none⟩ = some u := by
  obtain ⟨b, off, c, e, _, _, hP, h4⟩ := Sl.thing h (by decide) (List.getElem?_eq_some_iff.1 hi).1
  refine ⟨b, off, c, e, hP, fun j u hj => ?_⟩
  have hj5 : j < 2 := (List.getElem?_eq_some_iff.1 hj).1
  rw [Nat.add_assoc]
  exact h4 j u hj5 (by rw [flatF_at useF_len l i j x hi hj5]; exact hj)
theorem FaceL.keep {ls : List Nat} {f : FaceD} (h : FaceL w P vu vt vi f) (hw : Wr ls w w') (hP : ∀ b, P b → b ∉ ls) : FaceL w' P vu vt vi f := ⟨Sl.keep h.uses hw hP, h.types.keep hw hP, Sl.keep h.items hw hP⟩
theorem FaceL.wr0 {f : FaceD} (h : FaceL w P vu vt vi f) (hw : Wr [] w w') : FaceL w' P vu vt vi f := h.keep hw (fun _ _ => by simp)
theorem FaceL.into {f : FaceD} (h : FaceL w P vu vt vi f) (hP : ∀ b, P b → b < w.heap.size → Q b) : FaceL w Q vu vt vi f := ⟨Sl.into h.uses hP, h.types.into hP, Sl.into h.items hP⟩
end
/-- What short answers of a list. -/
theorem short_list {l : List ByteArray} {ev : Nat → ByteArray} (h : ∀ (i : Nat) (s : ByteArray), l[i]? = some s → ev i = s) : (!anyB l.length fun i => decide (((ev i).size : Int) > 255)) = l.all shB := by
  unfold anyB shB
  rw [Bool.eq_iff_iff]
  simp only [Bool.not_eq_true', List.any_eq_false, List.all_eq_true, List.mem_range, decide_eq_true_eq]
  constructor
  · intro h1 s hs
    obtain ⟨i, hi⟩ := List.getElem?_of_mem hs
    have := h1 i (List.getElem?_eq_some_iff.1 hi).1
    rw [h i s hi] at this
    omega
  · intro h1 i hi
    have := h1 _ (List.getElem_mem hi)
    rw [h i _ (List.getElem?_eq_getElem hi)]
    omega
theorem SlStrs.cellsAt {w : World} {P : Nat → Prop} {A : Option Addr} {c : Nat} {l : List ByteArray} (h : SlStrs w P (.slice A l.length c) l) : CellsAt w A l.length (fun i => .string ((l[i]?).getD ⟨#[]⟩)) := by
  intro i hi
  obtain ⟨b, off, c', e, _, _, _, hc⟩ := Sl.at_ h (j := i) (u := .string l[i]) (by rw [List.getElem?_map, List.getElem?_eq_getElem hi]; rfl)
  injection e with e1 _ _
  exact ⟨b, off, e1, by rw [hc]; simp [List.getElem?_eq_getElem hi]⟩
theorem SlInts.cellsAt {w : World} {P : Nat → Prop} {A : Option Addr} {c : Nat} {l : List Int} (h : SlInts w P (.slice A l.length c) l) : CellsAt w A l.length (fun i => .int .i64 ((l[i]?).getD 0)) := by
  intro i hi
  obtain ⟨b, off, c', e, _, _, _, hc⟩ := Sl.at_ h (j := i) (u := .int .i64 l[i]) (by rw [List.getElem?_map, List.getElem?_eq_getElem hi]; rfl)
  injection e with e1 _ _
  exact ⟨b, off, e1, by rw [hc]; simp [List.getElem?_eq_getElem hi]⟩
/-- A block whose cells are known: what the questions on lists ask. -/
theorem blk_cells {w : World} {g : Nat} {t : TypeId} {cs : Array Value} {n : Nat} {ev : Nat → Value} (h : Blk w g t cs) (hn : ∀ i, i < n → cs[i]? = some (ev i)) : CellsAt w (some ⟨g, 0, none⟩) n ev := fun i hi => ⟨g, 0, rfl, by rw [Nat.zero_add, h.cell]; exact hn i hi⟩
end Go.Proofs.Ytjanbpchedgoiaa
