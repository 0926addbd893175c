/- LayoutPlaces: what it says of plain sums; tables that were made hang on what is ahead of them. No conditions. -/
import Derived.Test.YtloihffdolehhaaLyW
import Derived.Test.YtloihffdolehhaaTyR
namespace Go.Proofs.Ytloihffdolehhaa
open Go.RowKit
set_option linter.unusedVariables false

/-- The words of the first k variables. -/
def sumK (tys : List Ty) (v : List Int) : Nat → Int
  | 0 => 0
  | k + 1 => sumK tys v k + (sz tys (v.getD k 0)).1
theorem sumK_bd (tys : List Ty) (v : List Int) : ∀ k, 0 ≤ sumK tys v k ∧ sumK tys v k ≤ 32767 * k
  | 0 => by simp [sumK]
  | k + 1 => by
    have := sumK_bd tys v k
    have := sz_bd tys (v.getD k 0)
    rw [sumK]
    omega
theorem plK_step (tys : List Ty) (v : List Int) : ∀ k, k ≤ v.length → (∀ j, j < k → (sz tys (v.getD j 0)).2 = 0) → plK tys v 0 [] = plK tys (v.drop k) (sumK tys v k) ((List.range k).map (sumK tys v))
  | 0, _, _ => by simp [sumK]
  | k + 1, hk, h => by
    have hd : v.drop k = v.getD k 0 :: v.drop (k + 1) := by
      rw [List.drop_eq_getElem_cons (by omega), List.getD_eq_getElem?_getD, List.getElem?_eq_getElem (by omega)]
      rfl
    rw [plK_step tys v k (by omega) (fun j hj => h j (by omega)), hd, plK, if_neg (fun e => e (h k (by omega))), List.range_succ, List.map_append, sumK]
    rfl
theorem plK_bad (tys : List Ty) (v : List Int) (k : Nat) (hk : k < v.length) (h : ∀ j, j < k → (sz tys (v.getD j 0)).2 = 0) (he : (sz tys (v.getD k 0)).2 ≠ 0) : plK tys v 0 [] = ([], 0, (sz tys (v.getD k 0)).2) := by
  have hd : v.drop k = v.getD k 0 :: v.drop (k + 1) := by
    rw [List.drop_eq_getElem_cons (by omega), List.getD_eq_getElem?_getD, List.getElem?_eq_getElem (by omega)]
    rfl
  rw [plK_step tys v k (by omega) h, hd, plK, if_pos he]
theorem plK_fine (tys : List Ty) : ∀ (l : List Int) (all : Int) (out : List Int), (plK tys l all out).2.2 = 0 → ∀ i ∈ l, (sz tys i).2 = 0
  | [], _, _, _ => by simp
  | i :: l, all, out, h => by
    rw [plK] at h
    by_cases c : (sz tys i).2 ≠ 0
    · rw [if_pos c] at h
      exact absurd h c
    · rw [if_neg c] at h
      intro j hj
      rcases List.mem_cons.1 hj with e | e
      · rw [e]; omega
      · exact plK_fine tys l _ _ h j e
theorem plK_end (tys : List Ty) (v : List Int) (h : ∀ j, j < v.length → (sz tys (v.getD j 0)).2 = 0) :
    plK tys v 0 [] = if 32767 < sumK tys v v.length then ([], 0, 120) else ((List.range v.length).map (sumK tys v), sumK tys v v.length, 0) := by
  rw [plK_step tys v v.length (Nat.le_refl _) h, List.drop_length, plK]
  unfold fitsK
  by_cases c : 32767 < sumK tys v v.length
  · rw [if_pos c, if_pos c]; rfl
  · rw [if_neg c, if_neg c]; rfl
theorem plK_list (tys : List Ty) (v : List Int) (h : (plK tys v 0 []).2.2 = 0) : (plK tys v 0 []).1 = (List.range v.length).map (sumK tys v) := by
  have hall := plK_fine tys v 0 [] h
  have e := plK_end tys v (fun j hj => hall _ (by rw [List.getD_eq_getElem?_getD, List.getElem?_eq_getElem hj]; exact List.getElem_mem hj))
  rw [e] at h ⊢
  by_cases c : 32767 < sumK tys v v.length
  · rw [if_pos c] at h; exact absurd h (by decide)
  · rw [if_neg c]

theorem low_app {tys : List Ty} (h : Low tys) {ty : Ty} (ht : lowTy tys.length ty) : Low (tys ++ [ty]) := by
  intro i y hi
  by_cases hlt : i < tys.length
  · rw [List.getElem?_append_left hlt] at hi
    exact h i y hi
  · rw [List.getElem?_append_right (by omega)] at hi
    have hi0 : i - tys.length = 0 := by
      have := (List.getElem?_eq_some_iff.1 hi).1
      simp at this
      omega
    rw [hi0] at hi
    simp only [List.getElem?_cons_zero, Option.some.injEq] at hi
    subst hi
    rw [show i = tys.length by omega]
    exact ht
theorem low_add {tys : List Ty} (h : Low tys) (h0 : 0 < tys.length) (m : MadeD) (hm : m.ok) : Low (addT tys m) := by
  unfold addT
  split
  · refine low_app h ⟨fun _ => ?_, fun _ f hf => ?_, ?_⟩
    · show m.b % (tys.length : Int) < tys.length
      exact Int.emod_lt_of_pos _ (by omega)
    · exact absurd hf (by simp [MadeD.ty, madeTy])
    · obtain ⟨q1, q2, q3, q4, q5, q6⟩ := hm
      exact ⟨q4.1, q4.2, q5.1, q5.2⟩
  · exact h
theorem low_foldl : ∀ (l : List MadeD) (tys : List Ty), Low tys → 0 < tys.length → (∀ m ∈ l, m.ok) → Low (l.foldl addT tys)
  | [], _, h, _, _ => h
  | m :: l, tys, h, h0, hm => by
    have := addT_len tys m
    exact low_foldl l _ (low_add h h0 m (hm m (.head _))) (by omega) (fun x hx => hm x (.tail _ hx))
theorem low_tabL (l : List MadeD) (h : ∀ m ∈ l, m.ok) : Low (tabL l) := low_foldl l tys0 low0 (by decide) h
end Go.Proofs.Ytloihffdolehhaa
