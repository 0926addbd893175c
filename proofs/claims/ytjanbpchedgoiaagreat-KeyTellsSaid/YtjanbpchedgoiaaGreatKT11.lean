/- How far clone's loops have come. No conditions. -/
import Derived.Test.YtjanbpchedgoiaaGreatKT10
set_option linter.unusedVariables false
set_option linter.unusedSimpArgs false
set_option maxRecDepth 100000
set_option maxHeartbeats 32000000
namespace Go.Proofs.YtjanbpchedgoiaaGreat
open Go.RowKit
def TysTo (w : World) (S : Nat) (lab : Nat → Nat × Nat) (xs : List Value) (l : List Ty) (k : Nat) : Prop :=
 ∀ (i : Nat) (t : Ty), i < k → l[i]? = some t → ∃ vn vf va vp, (∀ j u, (t.cells vn vf va vp)[j]? = some u → xs[i * 12 + j]? = some u) ∧ TyO w S lab i vn vf va vp t
def ArmsTo (w : World) (S : Nat) (lab : Nat → Nat × Nat) (i : Nat) (xs : List Value) (l : List ArmD) (k : Nat) : Prop :=
 ∀ (j : Nat) (x : ArmD), j < k → l[j]? = some x → ArmO w S lab i xs j x
section
variable {w w' : World} {S i k : Nat} {lab lab' : Nat → Nat × Nat} {xs xs' : List Value} {l : List Ty} {al : List ArmD} {ls : List Nat}
theorem TysTo.keep (h : TysTo w S lab xs l k) (r : Wr ls w w') (hl : ∀ x ∈ ls, S ≤ x → k ≤ (lab x).1) : TysTo w' S lab xs l k := fun i t hi ht => by
 obtain ⟨vn, vf, va, vp, e, o⟩ := h i t hi ht
 exact ⟨vn, vf, va, vp, e, o.keep r (fun x hx hs => by have := hl x hx hs; omega)⟩
theorem TysTo.relab (h : TysTo w S lab xs l k) (hl : ∀ b, b < w.heap.size → lab' b = lab b) : TysTo w S lab' xs l k := fun i t hi ht => by
 obtain ⟨vn, vf, va, vp, e, o⟩ := h i t hi ht
 exact ⟨vn, vf, va, vp, e, o.relab hl⟩
theorem TysTo.row (h : TysTo w S lab xs l k) (hx : ∀ j, j < k * 12 → xs'[j]? = xs[j]?) : TysTo w S lab xs' l k := fun i t hi ht => by
 obtain ⟨vn, vf, va, vp, e, o⟩ := h i t hi ht
 refine ⟨vn, vf, va, vp, fun j u hu => ?_, o⟩
 have hj : j < 12 := (List.getElem?_eq_some_iff.1 hu).1
 rw [hx (i * 12 + j) (by omega)]
 exact e j u hu
theorem TysTo.zero : TysTo w S lab xs l 0 := fun i t hi => absurd hi (by omega)
theorem TysTo.next (h : TysTo w S lab xs l k) {t : Ty} (ht : l[k]? = some t) {vn vf va vp : Value} (e : ∀ j u, (t.cells vn vf va vp)[j]? = some u → xs[k * 12 + j]? = some u) (o : TyO w S lab k vn vf va vp t) : TysTo w S lab xs l (k + 1) := fun i t' hi ht' => by
 rcases Nat.lt_or_ge i k with hik | hik
 ·exact h i t' hik ht'
 ·obtain rfl : i = k := by omega
  rw [ht] at ht'
  injection ht' with ht'
  subst ht'
  exact ⟨vn, vf, va, vp, e, o⟩
theorem ArmsTo.keep (h : ArmsTo w S lab i xs al k) (r : Wr ls w w') (hl : ∀ x ∈ ls, S ≤ x → lab x ≠ (i, 4)) : ArmsTo w' S lab i xs al k := fun j x hj hx => (h j x hj hx).keep r hl
theorem ArmsTo.relab (h : ArmsTo w S lab i xs al k) (hl : ∀ b, b < w.heap.size → lab' b = lab b) : ArmsTo w S lab' i xs al k := fun j x hj hx => (h j x hj hx).relab hl
theorem ArmsTo.row (h : ArmsTo w S lab i xs al k) (hx : ∀ j, j < k * 3 → xs'[j]? = xs[j]?) : ArmsTo w S lab i xs' al k := fun j x hj hjx => by
 obtain ⟨va, vb, e1, e2, e3, ka, kb⟩ := h j x hj hjx
 exact ⟨va, vb, by rw [hx _ (by omega)]; exact e1, by rw [hx _ (by omega)]; exact e2, by rw [hx _ (by omega)]; exact e3, ka, kb⟩
theorem ArmsTo.zero : ArmsTo w S lab i xs al 0 := fun j x hj => absurd hj (by omega)
theorem ArmsTo.next (h : ArmsTo w S lab i xs al k) {x : ArmD} (hx : al[k]? = some x) (ha : ArmO w S lab i xs k x) : ArmsTo w S lab i xs al (k + 1) := fun j y hj hy => by
 rcases Nat.lt_or_ge j k with hjk | hjk
 ·exact h j y hjk hy
 ·obtain rfl : j = k := by omega
  rw [hx] at hy
  injection hy with hy
  subst hy
  exact ha
theorem ArmsTo.all {v : Value} (h : ArmsTo w S lab i xs al al.length) (ho : OwnL w S lab i 2 76 3 v al.length xs) (h1 : ∀ u ∈ xs, u.oneCell' = true) : ArmsO w S lab i v al :=
 ⟨xs, ho, h1, fun j x hx => h j x (List.getElem?_eq_some_iff.1 hx).1 hx⟩
end
def ClAt (w0 w : World) (l : List Ty) (v : Value) (B S : Nat) (xt : List Value) (k : Nat) : Prop :=
 ∃ lab xs, Wr v.ownBlock.toList w0 w ∧ w.ownsRow B 52 12 v l.length xs ∧ TysTo w S lab xs l k ∧ (∀ j, k * 12 ≤ j → xs[j]? = xt[j]?) ∧ ∀ u ∈ xs, u.oneCell' = true
def CloneR (w : World) (f : FaceD) (e : Ending) (w' : World) : Prop :=
 ∃ (vu vt vi : Value) (S : Nat) (lab : Nat → Nat × Nat) (xs : List Value), e = .returned (f.val vu vt vi) ∧ Wr [] w w' ∧ w.heap.size ≤ S ∧ S ≤ w'.heap.size ∧
  CbpR w.heap.size f xs 0 w' vu ∧ CbpR w.heap.size f xs 1 w' vt ∧ CbpR w.heap.size f xs 2 w' vi ∧
  (∀ a, vu.ownBlock = some a → a < S ∧ vt.ownBlock ≠ some a ∧ vi.ownBlock ≠ some a) ∧ (∀ a, vt.ownBlock = some a → a < S ∧ vi.ownBlock ≠ some a) ∧ (∀ a, vi.ownBlock = some a → a < S) ∧
  TysTo w' S lab xs f.types f.types.length ∧ ∀ u ∈ xs, u.oneCell' = true
theorem coX_one {ys : List Value} {o : Nat} {g : Nat → Value} (h : ∀ u ∈ ys, u.oneCell' = true) (hg : ∀ c, c < 4 → (g c).oneCell' = true) : ∀ u ∈ coX ys o g, u.oneCell' = true := by
 intro u hu
 unfold coX at hu
 rcases List.mem_or_eq_of_mem_set hu with hu | rfl
 ·rcases List.mem_or_eq_of_mem_set hu with hu | rfl
  ·rcases List.mem_or_eq_of_mem_set hu with hu | rfl
   ·rcases List.mem_or_eq_of_mem_set hu with hu | rfl
    ·exact h u hu
    ·exact hg 0 (by decide)
   ·exact hg 1 (by decide)
  ·exact hg 2 (by decide)
 ·exact hg 3 (by decide)
theorem coX_out {ys : List Value} {o : Nat} {g : Nat → Value} (j : Nat) (h : j < o + 7 ∨ o + 10 < j) : (coX ys o g)[j]? = ys[j]? := by
 unfold coX
 rw [List.getElem?_set_ne (by omega), List.getElem?_set_ne (by omega), List.getElem?_set_ne (by omega), List.getElem?_set_ne (by omega)]
theorem coX_in {ys : List Value} {o : Nat} {g : Nat → Value} (hl : o + 10 < ys.length) (c : Nat) (hc : c < 4) : (coX ys o g)[o + 7 + c]? = some (g c) := by
 unfold coX
 match c, hc with
 | 0, _ => rw [List.getElem?_set_ne (by omega), List.getElem?_set_ne (by omega), List.getElem?_set_ne (by omega)]; exact List.getElem?_set_self (by omega)
 | 1, _ => rw [List.getElem?_set_ne (by omega), List.getElem?_set_ne (by omega)]; exact List.getElem?_set_self (by simp; omega)
 | 2, _ => rw [List.getElem?_set_ne (by omega)]; exact List.getElem?_set_self (by simp; omega)
 | 3, _ => exact List.getElem?_set_self (by simp; omega)
theorem coX_same {ys : List Value} {o : Nat} {g : Nat → Value} (hl : o + 10 < ys.length) (h : ∀ c, c < 4 → ys[o + 7 + c]? = some (g c)) : coX ys o g = ys := by
 apply List.ext_getElem?
 intro j
 by_cases hj : j < o + 7 ∨ o + 10 < j
 ·exact coX_out j hj
 ·have hc : j = o + 7 + (j - (o + 7)) := by omega
  rw [hc, coX_in hl _ (by omega), h _ (by omega)]
theorem caX_out {ys : List Value} {o : Nat} {g : Nat → Value} (j : Nat) (h : j < o ∨ o + 1 < j) : (caX ys o g)[j]? = ys[j]? := by
 unfold caX
 rw [List.getElem?_set_ne (by omega), List.getElem?_set_ne (by omega)]
theorem caX_in {ys : List Value} {o : Nat} {g : Nat → Value} (hl : o + 1 < ys.length) (c : Nat) (hc : c < 2) : (caX ys o g)[o + c]? = some (g c) := by
 unfold caX
 match c, hc with
 | 0, _ => rw [List.getElem?_set_ne (by omega)]; exact List.getElem?_set_self (by omega)
 | 1, _ => exact List.getElem?_set_self (by simp; omega)
theorem caX_same {ys : List Value} {o : Nat} {g : Nat → Value} (hl : o + 1 < ys.length) (h : ∀ c, c < 2 → ys[o + c]? = some (g c)) : caX ys o g = ys := by
 apply List.ext_getElem?
 intro j
 by_cases hj : j < o ∨ o + 1 < j
 ·exact caX_out j hj
 ·have hc : j = o + (j - o) := by omega
  rw [hc, caX_in hl _ (by omega), h _ (by omega)]
theorem caX_one {ys : List Value} {o : Nat} {g : Nat → Value} (h : ∀ u ∈ ys, u.oneCell' = true) (hg : ∀ c, c < 2 → (g c).oneCell' = true) : ∀ u ∈ caX ys o g, u.oneCell' = true := by
 intro u hu
 unfold caX at hu
 rcases List.mem_or_eq_of_mem_set hu with hu | rfl
 ·rcases List.mem_or_eq_of_mem_set hu with hu | rfl
  ·exact h u hu
  ·exact hg 0 (by decide)
 ·exact hg 1 (by decide)
theorem CopR.form {S : Nat} {t : Ty} {xa : List Value} {i : Nat} {lab : Nat → Nat × Nat} {c : Nat} {w : World} {u : Value} (h : CopR S t xa i lab c w u) : ∃ A n k, u = .slice A n k ∧ k ≤ maxLen := by
 match c, h with
 | 0, h =>
  obtain ⟨A, k, e, _, hk⟩ := Sl.form (show SlStrs w (Lb S lab i 0) u t.names from h)
  exact ⟨A, _, k, e, hk⟩
 | 1, h =>
  obtain ⟨A, k, e, _, hk⟩ := (OwnL.sl (show OwnL w S lab i 1 _ 3 u _ _ from h)).form
  exact ⟨A, _, k, e, hk⟩
 | 2, h =>
  obtain ⟨A, k, e, _, hk⟩ := (OwnL.sl (show OwnL w S lab i 2 _ 3 u _ _ from h)).form
  exact ⟨A, _, k, e, hk⟩
 | _ + 3, h =>
  obtain ⟨A, k, e, _, hk⟩ := (OwnL.sl (show OwnL w S lab i 3 _ 2 u _ _ from h)).form
  exact ⟨A, _, k, e, hk⟩
theorem CapR.form {S : Nat} {x : ArmD} {i : Nat} {lab : Nat → Nat × Nat} {c : Nat} {w : World} {u : Value} (h : CapR S x i lab c w u) : ∃ A n k, u = .slice A n k ∧ k ≤ maxLen := by
 match c, h with
 | 0, h =>
  obtain ⟨A, k, e, _, hk⟩ := (OwnL.sl (show OwnL w S lab i 4 2 1 u x.frm.length (x.frm.map (Value.int .i64)) from h)).form
  exact ⟨A, _, k, e, hk⟩
 | _ + 1, h =>
  obtain ⟨A, k, e, _, hk⟩ := (OwnL.sl (show OwnL w S lab i 4 2 1 u x.to.length (x.to.map (Value.int .i64)) from h)).form
  exact ⟨A, _, k, e, hk⟩
end Go.Proofs.YtjanbpchedgoiaaGreat
