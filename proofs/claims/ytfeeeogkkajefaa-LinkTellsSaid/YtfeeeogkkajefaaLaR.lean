/- A row of objects, as it grows by append. No conditions. -/
import Derived.Test.YtfeeeogkkajefaaLkW
namespace Go.Proofs.Ytfeeeogkkajefaa
open Go.RowKit
set_option linter.unusedVariables false
set_option linter.unusedSimpArgs false

/-- A row of objects, as it grows; their own lists lie below B. -/
def RowO (w wr : World) (l : List ObjD) (vo : Value) : Prop :=
  ∃ xs, wr.ownsRow w.heap.size 52 9 vo l.length xs ∧ (∀ u ∈ xs, u.oneCell' = true) ∧ ∀ i o, l[i]? = some o → ∃ vu vp vi vn, (∀ j u, (o.cells vu vp vi vn)[j]? = some u → xs[i * 9 + j]? = some u) ∧ ObjL wr (fun b => b < w.heap.size) vu vp vi vn o
theorem RowO.nil (w wr : World) : RowO w wr [] (.slice none 0 0) := ⟨[], World.ownsRow_nil _ _ _ _, by simp, fun i o h => by simp at h⟩
theorem RowO.wr0 {w wr W : World} {l : List ObjD} {vo : Value} (h : RowO w wr l vo) (hw : Wr [] wr W) : RowO w W l vo := by
  obtain ⟨xs, h1, h2, h3⟩ := h
  refine ⟨xs, own_keep h1 hw (fun _ _ => by simp), h2, fun i o hi => ?_⟩
  obtain ⟨vu, vp, vi, vn, e1, e2⟩ := h3 i o hi
  exact ⟨vu, vp, vi, vn, e1, e2.wr0 hw⟩
theorem RowO.push {w wr W : World} {l : List ObjD} {vo v' vu vp vi vn : Value} {x : ObjD} {xs : List Value} (h1 : wr.ownsRow w.heap.size 52 9 vo l.length xs) (h2 : ∀ u ∈ xs, u.oneCell' = true)
    (h3 : ∀ (i : Nat) (o : ObjD), l[i]? = some o → ∃ vu vp vi vn, (∀ (j : Nat) (u : Value), (o.cells vu vp vi vn)[j]? = some u → xs[i * 9 + j]? = some u) ∧ ObjL wr (fun b => b < w.heap.size) vu vp vi vn o)
    (hx : ObjL wr (fun b => b < w.heap.size) vu vp vi vn x) (hone : ∀ u ∈ x.cells vu vp vi vn, u.oneCell' = true)
    (hown : W.ownsRow w.heap.size 52 9 v' (l.length + 1) (xs ++ x.cells vu vp vi vn)) (hg : wr.grownBy W vo.ownBlock) : RowO w W (l ++ [x]) v' := by
  have hw : Wr (ownL vo) wr W := Wr.ofGrownOwn hg
  have hnot : ∀ b, b < w.heap.size → b ∉ ownL vo := fun b hb hm => by
    have := (h1.lt b (mem_ownL.1 hm)).1
    omega
  have hxl := h1.1
  refine ⟨xs ++ x.cells vu vp vi vn, by rw [List.length_append]; exact hown, ?_, fun i y hi => ?_⟩
  · intro u hu
    rcases List.mem_append.1 hu with hu | hu
    · exact h2 u hu
    · exact hone u hu
  · rcases Nat.lt_or_ge i l.length with hlt | hge
    · rw [List.getElem?_append_left hlt] at hi
      obtain ⟨vu', vp', vi', vn', e1, e2⟩ := h3 i y hi
      refine ⟨vu', vp', vi', vn', fun j u hj => ?_, e2.keep hw hnot⟩
      have := e1 j u hj
      rw [List.getElem?_append_left (List.getElem?_eq_some_iff.1 this).1]
      exact this
    · rw [List.getElem?_append_right hge] at hi
      have hil : i = l.length := by
        rcases Nat.eq_zero_or_pos (i - l.length) with h | h
        · omega
        · rw [List.getElem?_eq_none (by simp; omega)] at hi; cases hi
      subst hil
      rw [Nat.sub_self] at hi
      simp only [List.getElem?_cons_zero, Option.some.injEq] at hi
      subst hi
      refine ⟨vu, vp, vi, vn, fun j u hj => ?_, hx.keep hw hnot⟩
      rw [List.getElem?_append_right (by rw [hxl]; omega), hxl, Nat.add_sub_cancel_left]
      exact hj
theorem RowO.sl {w wr : World} {l : List ObjD} {vo : Value} (h : RowO w wr l vo) : SlObjs wr (fun _ => True) vo l := by
  obtain ⟨xs, h1, h2, h3⟩ := h
  refine ⟨xs, Sl.ofOwn h1 (fun b hb => trivial), h2, fun i o hi => ?_⟩
  obtain ⟨vu, vp, vi, vn, e1, e2⟩ := h3 i o hi
  exact ⟨vu, vp, vi, vn, e1, e2.into (fun _ _ _ => trivial)⟩
theorem RowO.form {w wr : World} {l : List ObjD} {vo : Value} (h : RowO w wr l vo) : ∃ A c, vo = .slice A l.length c := by
  obtain ⟨A, c, e, _⟩ := h.sl.form
  exact ⟨A, c, e⟩
theorem info_obj : (Try.prog.info? 52).map (fun i => (i.zero, i.size, i.bytes)) = some (some (.agg #[.string ⟨#[]⟩, .bool false, .int .u64 0, .slice none 0 0, .string ⟨#[]⟩, .slice none 0 0, .slice none 0 0, .int .i64 0, .slice none 0 0]), 9, 152) := by kernel_rfl
/-- Has it been used? As the loops of LinkKeys find it. -/
def usedAt (l : List ObjD) (img : ImgD) (m : ByteArray) (i : Nat) : Bool := (l.drop i).any fun o => inL o.module img.names && o.uses.any fun u => decide (u.module = m)
theorem usedAt_len (l : List ObjD) (img : ImgD) (m : ByteArray) : usedAt l img m l.length = false := by simp [usedAt]
theorem usedAt_step {l : List ObjD} {i : Nat} {o : ObjD} (h : l[i]? = some o) (img : ImgD) (m : ByteArray) : usedAt l img m i = (usedAt l img m (i + 1) || (inL o.module img.names && o.uses.any fun u => decide (u.module = m))) := by
  unfold usedAt
  have hi := (List.getElem?_eq_some_iff.1 h).1
  have e : l[i] = o := (List.getElem?_eq_some_iff.1 h).2
  rw [List.drop_eq_getElem_cons hi, e, List.any_cons, Bool.or_comm]
theorem usedAt_iff (l : List ObjD) (img : ImgD) (m : ByteArray) : usedAt l img m 0 = true ↔ ∃ o ∈ l, o.module ∈ img.names ∧ ∃ u ∈ o.uses, u.module = m := by
  unfold usedAt
  rw [List.drop_zero, List.any_eq_true]
  constructor
  · rintro ⟨o, ho, h⟩
    rw [Bool.and_eq_true, inL_iff, List.any_eq_true] at h
    obtain ⟨h1, u, hu, h2⟩ := h
    exact ⟨o, ho, h1, u, hu, of_decide_eq_true h2⟩
  · rintro ⟨o, ho, h1, u, hu, h2⟩
    refine ⟨o, ho, ?_⟩
    rw [Bool.and_eq_true, inL_iff, List.any_eq_true]
    exact ⟨h1, u, hu, decide_eq_true h2⟩
/-- The list from the end on, turned: what 'back' holds when i things are yet to come. -/
def backAt (l : List ObjD) (i : Nat) : List ObjD := (l.drop i).reverse
theorem backAt_len (l : List ObjD) : backAt l l.length = [] := by simp [backAt]
theorem backAt_step {l : List ObjD} {i : Nat} {o : ObjD} (h : l[i]? = some o) : backAt l i = backAt l (i + 1) ++ [o] := by
  unfold backAt
  have hi := (List.getElem?_eq_some_iff.1 h).1
  have e : l[i] = o := (List.getElem?_eq_some_iff.1 h).2
  rw [List.drop_eq_getElem_cons hi, e, List.reverse_cons]
theorem backAt_size (l : List ObjD) (i : Nat) : (backAt l i).length = l.length - i := by simp [backAt]
theorem backAt_zero (l : List ObjD) : backAt l 0 = l.reverse := by simp [backAt]
end Go.Proofs.Ytfeeeogkkajefaa
