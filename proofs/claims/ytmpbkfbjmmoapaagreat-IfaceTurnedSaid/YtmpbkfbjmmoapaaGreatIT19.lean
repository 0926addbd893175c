/- The turned interface, plain; rows of things of which one is set. No conditions. -/
import Derived.Test.YtmpbkfbjmmoapaaGreatIT03
import Derived.Test.YtmpbkfbjmmoapaaGreatIT05
import Derived.Test.YtmpbkfbjmmoapaaGreatIT18
import Derived.Test.YtmpbkfbjmmoapaaGreatIT01
import Derived.Test.YtmpbkfbjmmoapaaGreatIT14
namespace Go.Proofs.YtmpbkfbjmmoapaaGreat
open Go.RowKit
set_option linter.unusedVariables false
set_option linter.unusedSimpArgs false
def renPV (ρ : Int → Int) (v : PVal) : PVal := if v.sort = 6 then { v with type := ρ v.type } else v
def renP (ρ : Int → Int) (x : PItm) : PItm := { x with type := ρ x.type, v := renPV ρ x.v }
def turnT (ord : List Nat) (ts : List Ty) : Nat → List Ty
 | 0 => List.replicate ts.length zeroTy
 | i + 1 => (turnT ord ts i).set (ord.getD i 0) (renT (movedN ord) (ts.getD i zeroTy))
def turnP (f : FaceP) (ord : List Nat) : FaceP := ⟨f.module, f.uses, turnT ord f.types f.types.length, f.items.map (renP (movedN ord))⟩
theorem turnT_len (ord : List Nat) (ts : List Ty) : ∀ i, (turnT ord ts i).length = ts.length
 | 0 => by simp [turnT]
 | i + 1 => by rw [turnT, List.length_set, turnT_len ord ts i]
theorem anyOf_ren (ρ : Int → Int) (v : PVal) : anyOf (renPV ρ v) = renV ρ (anyOf v) := by
 unfold renPV
 by_cases h : v.sort = 6
 ·rw [if_pos h]
  have e1 : anyOf v = .item v.type v.n := by unfold anyOf; simp [h]
  have e2 : anyOf { v with type := ρ v.type } = .item (ρ v.type) v.n := by unfold anyOf; simp [h]
  rw [e1, e2]
  rfl
 ·rw [if_neg h]
  unfold anyOf
  repeat' split
  all_goals first | rfl | (exfalso; omega)
theorem itmOf_ren (ρ : Int → Int) (x : PItm) : itmOf (renP ρ x) = renI ρ (itmOf x) := by
 unfold itmOf renP renI
 simp only [anyOf_ren]
theorem turnT_at {ord : List Nat} {ts : List Ty} (hn : ord.Nodup) (hl : ord.length = ts.length) (hlt : ∀ i ∈ ord, i < ts.length) : ∀ (m : Nat), m ≤ ts.length → ∀ (i k : Nat) (t : Ty), i < m → ts[i]? = some t → ord[i]? = some k → (turnT ord ts m)[k]? = some (renT (movedN ord) t)
 | 0, _, _, _, _, h, _, _ => absurd h (by omega)
 | m + 1, hm, i, k, t, hi, ht, hk => by
  rw [turnT]
  have hml : m < ord.length := by omega
  by_cases him : i = m
  ·subst him
   rw [List.getD_eq_getElem?_getD, hk, List.getD_eq_getElem?_getD, ht]
   simp only [Option.getD_some]
   rw [List.getElem?_set_self (by rw [turnT_len]; exact hlt k (List.mem_of_getElem? hk))]
  ·have hne : ord.getD m 0 ≠ k := by
    intro e
    have hm2 := List.getElem?_eq_getElem hml
    rw [List.getD_eq_getElem?_getD, hm2] at e
    simp only [Option.getD_some] at e
    obtain ⟨hil, he⟩ := List.getElem?_eq_some_iff.1 hk
    exact (List.pairwise_iff_getElem.1 hn) i m hil hml (by omega) (he.trans e.symm)
   rw [List.getElem?_set_ne hne]
   exact turnT_at hn hl hlt m (by omega) i k t (by omega) ht hk
theorem turned_of {f : FaceP} {ord : List Nat} (hn : ord.Nodup) (hl : ord.length = f.types.length) (hlt : ∀ i ∈ ord, i < f.types.length) : Turned (faceOf f) (faceOf (turnP f ord)) ord where
 len := hl
 lt := hlt
 nodup := hn
 module := rfl
 uses := rfl
 items := by
  show (f.items.map (renP (movedN ord))).map itmOf = (f.items.map itmOf).map (renI (movedN ord))
  rw [List.map_map, List.map_map]
  exact List.map_congr_left (fun x _ => itmOf_ren _ x)
 tlen := turnT_len _ _ _
 types := fun i k t ht hk => turnT_at hn hl hlt _ (Nat.le_refl _) i k t ((List.getElem?_eq_some_iff.1 ht).1) ht hk
def stW (g : Nat) : Nat → List Value → World → World
 | _, [], w => w
 | p, u :: us, w => stW g (p + 1) us (w.setCell ⟨g, p, none⟩ u)
def stL : Nat → List Value → List Value → List Value
 | _, [], xs => xs
 | p, u :: us, xs => stL (p + 1) us (xs.set p u)
theorem stL_len : ∀ (us : List Value) (p : Nat) (xs : List Value), (stL p us xs).length = xs.length
 | [], _, _ => rfl
 | u :: us, p, xs => by rw [stL, stL_len us, List.length_set]
theorem stL_out : ∀ (us : List Value) (p : Nat) (xs : List Value) (i : Nat), (i < p ∨ p + us.length ≤ i) → (stL p us xs)[i]? = xs[i]?
 | [], _, _, _, _ => rfl
 | u :: us, p, xs, i, h => by
  rw [stL, stL_out us (p + 1) _ i (by simp only [List.length_cons] at h; omega), List.getElem?_set_ne (by simp only [List.length_cons] at h; omega)]
theorem stL_in : ∀ (us : List Value) (p : Nat) (xs : List Value) (j : Nat), j < us.length → p + us.length ≤ xs.length → (stL p us xs)[p + j]? = us[j]?
 | [], _, _, _, h, _ => by simp at h
 | u :: us, p, xs, 0, _, hx => by
  rw [stL, stL_out us (p + 1) _ _ (by omega), Nat.add_zero, List.getElem?_set_self (by simp only [List.length_cons] at hx; omega)]
  rfl
 | u :: us, p, xs, j + 1, h, hx => by
  rw [stL, show p + (j + 1) = p + 1 + j by omega, stL_in us (p + 1) _ j (by simpa using h) (by rw [List.length_set]; simp only [List.length_cons] at hx; omega)]
  rfl
theorem stL_all {Q : Value → Prop} : ∀ (us : List Value) (p : Nat) (xs : List Value), (∀ u ∈ xs, Q u) → (∀ u ∈ us, Q u) → ∀ u ∈ stL p us xs, Q u
 | [], _, _, h, _ => h
 | u :: us, p, xs, h, h2 => by
  refine stL_all us (p + 1) _ (fun x hx => ?_) (fun x hx => h2 x (.tail _ hx))
  rcases List.mem_or_eq_of_mem_set hx with e | e
  ·exact h x e
  ·rw [e]; exact h2 u (.head _)
theorem row_st1 {w : World} {base size n g j : Nat} {e : TypeId} {v : Value} {xs : List Value} (h : w.ownsRow base e size v n xs) (hg : v.ownBlock = some g) (u : Value) : (w.setCell ⟨g, j, none⟩ u).ownsRow base e size v n (xs.set j u) := by
 have hl := h.1
 rcases h.2 with ⟨rfl, rfl⟩ | ⟨b, cap, cur, rfl, hb, hh, hn, hc, hs, ht⟩
 ·simp [Value.ownBlock] at hg
 ·injection hg with hg
  subst hg
  exact (h.stored j u).1
theorem row_stW {base size n g : Nat} {e : TypeId} {v : Value} : ∀ (us : List Value) (p : Nat) (w : World) (xs : List Value), w.ownsRow base e size v n xs → v.ownBlock = some g → (stW g p us w).ownsRow base e size v n (stL p us xs)
 | [], _, _, _, h, _ => h
 | u :: us, p, w, xs, h, hg => row_stW us (p + 1) _ _ (row_st1 h hg u) hg
theorem wr_stW (g : Nat) : ∀ (us : List Value) (p : Nat) (w : World), Wr [g] w (stW g p us w)
 | [], _, w => Wr.refl _ w
 | u :: us, p, w => ((Wr.refl [g] w).setOn (by simp) u).trans (wr_stW g us (p + 1) _)
def RowP {α : Type} (Rel : World → (Nat → Prop) → List Value → α → Prop) (size base : Nat) (T : TypeId) (v : Value) (acc : List α) (P : Nat → Prop) (w : World) : Prop :=
 ∃ xs, w.ownsRow base T size v acc.length xs ∧ (∀ u ∈ xs, u.oneCell' = true) ∧ ∀ i x, acc[i]? = some x → ∃ ys, ys.length = size ∧ (∀ (j : Nat) u, ys[j]? = some u → xs[i * size + j]? = some u) ∧ Rel w (fun bl => P bl ∧ v.ownBlock ≠ some bl) ys x
section
variable {α : Type} {Rel : World → (Nat → Prop) → List Value → α → Prop} (ok : RelOk Rel) {size base : Nat} {T : TypeId} {v : Value} {acc : List α} {P : Nat → Prop} {w w' : World}
include ok
theorem RowP.keep (h : RowP Rel size base T v acc P w) {l : List Nat} (r : Wr l w w') (hv : ∀ q, v.ownBlock = some q → q ∉ l) (hl : ∀ b, P b → b < w.heap.size → b ∉ l) : RowP Rel size base T v acc P w' := by
 obtain ⟨xs, ho, h1, h2⟩ := h
 refine ⟨xs, own_keep ho r hv, h1, fun i x hi => ?_⟩
 obtain ⟨ys, e1, e2, e3⟩ := h2 i x hi
 exact ⟨ys, e1, e2, ok.keep' e3 r (fun b hb hlt => hl b hb.1 hlt)⟩
theorem RowP.set (h : RowP Rel size base T v acc P w) {g : Nat} (hg : v.ownBlock = some g) {k : Nat} (hk : k < acc.length) {ys : List Value} (hy : ys.length = size) (hy1 : ∀ u ∈ ys, u.oneCell' = true) {x : α} (hx : Rel w (fun bl => P bl ∧ v.ownBlock ≠ some bl) ys x) : RowP Rel size base T v (acc.set k x) P (stW g (k * size) ys w) := by
 obtain ⟨xs, ho, h1, h2⟩ := h
 have hsz := ho.1
 have rw := wr_stW g ys (k * size) w
 have kp : ∀ {zs : List Value} {z : α}, Rel w (fun bl => P bl ∧ v.ownBlock ≠ some bl) zs z → Rel (stW g (k * size) ys w) (fun bl => P bl ∧ v.ownBlock ≠ some bl) zs z := fun hr => ok.keep hr rw (fun b hb hm => by
  rw [List.mem_singleton] at hm
  subst hm
  exact hb.2 hg)
 have hroom : k * size + ys.length ≤ xs.length := by
  rw [hy, hsz]
  have := Nat.mul_le_mul_right size (show k + 1 ≤ acc.length by omega)
  rw [Nat.add_mul] at this
  omega
 refine ⟨stL (k * size) ys xs, by rw [List.length_set]; exact row_stW ys _ w xs ho hg, stL_all _ _ _ h1 hy1, fun i z hi => ?_⟩
 by_cases hik : k = i
 ·subst hik
  rw [List.getElem?_set_self hk] at hi
  obtain rfl : x = z := by simpa using hi
  refine ⟨ys, hy, fun j u hj => ?_, kp hx⟩
  have hjl := (List.getElem?_eq_some_iff.1 hj).1
  rw [stL_in ys _ xs j hjl hroom]
  exact hj
 ·rw [List.getElem?_set_ne hik] at hi
  obtain ⟨zs, e1, e2, e3⟩ := h2 i z hi
  refine ⟨zs, e1, fun j u hj => ?_, kp e3⟩
  have hjl := (List.getElem?_eq_some_iff.1 hj).1
  rw [stL_out ys _ xs _ ?_]
  ·exact e2 j u hj
  ·rw [hy]
   rcases Nat.lt_or_ge i k with h | h
   ·left
    have := Nat.mul_le_mul_right size (show i + 1 ≤ k by omega)
    rw [Nat.add_mul] at this
    omega
   ·right
    have := Nat.mul_le_mul_right size (show k + 1 ≤ i by omega)
    rw [Nat.add_mul] at this
    omega
theorem RowP.rel (h : RowP Rel size base T v acc P w) (hv : ∀ b, v.ownBlock = some b → P b) : SlRel Rel w P size v acc := by
 obtain ⟨xs, ho, h1, h2⟩ := h
 refine ⟨xs, Sl.ofOwn ho hv, h1, fun i x hi => ?_⟩
 obtain ⟨ys, e1, e2, e3⟩ := h2 i x hi
 exact ⟨ys, e2, ok.into e3 (fun b hb _ => hb.1)⟩
end
end Go.Proofs.YtmpbkfbjmmoapaaGreat

/- Lists of which the first are changed; cells set in a flat list. No conditions. -/
namespace Go.Proofs.YtmpbkfbjmmoapaaGreat
open Go.RowKit
set_option linter.unusedVariables false
set_option linter.unusedSimpArgs false
def mixL {α : Type} (ρ : α → α) (l : List α) (k : Nat) : List α := (l.take k).map ρ ++ l.drop k
section
variable {α : Type} {ρ : α → α} {l : List α} {k : Nat} {x : α}
theorem mix_len : (mixL ρ l k).length = l.length := by
 unfold mixL
 rw [List.length_append, List.length_map, List.length_take, List.length_drop]
 omega
theorem mix_zero : mixL ρ l 0 = l := by simp [mixL]
theorem mix_all : mixL ρ l l.length = l.map ρ := by simp [mixL]
theorem mix_at (h : l[k]? = some x) : (mixL ρ l k)[k]? = some x := by
 obtain ⟨hk, rfl⟩ := List.getElem?_eq_some_iff.1 h
 unfold mixL
 rw [List.getElem?_append_right (by rw [List.length_map, List.length_take]; omega), List.length_map, List.length_take, show k - min k l.length = 0 by omega, List.getElem?_drop, Nat.add_zero]
 exact h
theorem mix_set (h : l[k]? = some x) : (mixL ρ l k).set k (ρ x) = mixL ρ l (k + 1) := by
 obtain ⟨hk, rfl⟩ := List.getElem?_eq_some_iff.1 h
 unfold mixL
 rw [List.set_append_right _ _ (by rw [List.length_map, List.length_take]; omega), List.length_map, List.length_take, show k - min k l.length = 0 by omega, List.drop_eq_getElem_cons hk, qszq, List.take_succ_eq_append_getElem hk, List.map_append, List.append_assoc]
 rfl
end
theorem flat_len2 {α : Type} {c : α → List Value} {size : Nat} (hc : ∀ x, (c x).length = size) : ∀ l : List α, (l.flatMap c).length = l.length * size
 | [] => by simp
 | x :: l => by rw [List.flatMap_cons, List.length_append, hc, flat_len2 hc l, List.length_cons, Nat.add_mul]; omega
theorem stL_flat {α : Type} (c : α → List Value) {size : Nat} (hc : ∀ x, (c x).length = size) (hs : 0 < size) (L : List α) (k : Nat) (hk : k < L.length) (x : α) : stL (k * size) (c x) (L.flatMap c) = (L.set k x).flatMap c := by
 have hroom : k * size + (c x).length ≤ (L.flatMap c).length := by
  rw [hc, flat_len2 hc]
  have := Nat.mul_le_mul_right size (show k + 1 ≤ L.length by omega)
  rw [Nat.add_mul] at this
  omega
 apply List.ext_getElem?
 intro i
 by_cases hi : i < L.length * size
 ·obtain ⟨q, r, hr, rfl⟩ : ∃ q r, r < size ∧ i = q * size + r := ⟨i / size, i % size, Nat.mod_lt _ hs, by rw [Nat.mul_comm]; exact (Nat.div_add_mod i size).symm⟩
  have hq : q < L.length := by
   rcases Nat.lt_or_ge q L.length with h | h
   ·exact h
   ·have := Nat.mul_le_mul_right size h
    omega
  by_cases hqk : q = k
  ·subst hqk
   rw [stL_in (c x) _ _ r (by rw [hc]; exact hr) hroom, flatF_at hc (L.set q x) q r x (List.getElem?_set_self hq) hr]
  ·rw [stL_out (c x) _ _ _ ?_, flatF_at hc L q r _ (List.getElem?_eq_getElem hq) hr, flatF_at hc (L.set k x) q r L[q] (by rw [List.getElem?_set_ne (fun e => hqk e.symm)]; exact List.getElem?_eq_getElem hq) hr]
   rw [hc]
   rcases Nat.lt_or_ge q k with h | h
   ·left
    have := Nat.mul_le_mul_right size (show q + 1 ≤ k by omega)
    rw [Nat.add_mul] at this
    omega
   ·right
    have := Nat.mul_le_mul_right size (show k + 1 ≤ q by omega)
    rw [Nat.add_mul] at this
    omega
 ·rw [List.getElem?_eq_none (by rw [stL_len, flat_len2 hc]; omega), List.getElem?_eq_none (by rw [flat_len2 hc, List.length_set]; omega)]
def renF (ρ : Int → Int) (f : Fld) : Fld := { f with type := ρ f.type }
def renPar (ρ : Int → Int) (p : Par) : Par := { p with type := ρ p.type }
theorem row_mix {α : Type} (c : α → List Value) {size : Nat} (hc : ∀ x, (c x).length = size) (hs : 0 < size) {ρ : α → α} {l : List α} {k : Nat} {x : α} (h : l[k]? = some x) {w : World} {base gf cf n : Nat} {T : TypeId}
  (ho : w.ownsRow base T size (.slice (some ⟨gf, 0, none⟩) n cf) n ((mixL ρ l k).flatMap c)) : (stW gf (k * size) (c (ρ x)) w).ownsRow base T size (.slice (some ⟨gf, 0, none⟩) n cf) n ((mixL ρ l (k + 1)).flatMap c) := by
 have h1 := row_stW (c (ρ x)) (k * size) w _ ho rfl
 rw [stL_flat c hc hs _ k (by rw [mix_len]; exact (List.getElem?_eq_some_iff.1 h).1), mix_set h] at h1
 exact h1
theorem own_blk0 {w : World} {base g size : Nat} {T : TypeId} (h : Blk w g T #[]) (hb : base ≤ g) : w.ownsRow base T size (.slice (some ⟨g, 0, none⟩) 0 0) 0 [] :=
 ⟨by simp, .inr ⟨g, 0, #[], rfl, hb, h, Nat.le_refl _, by decide, by simp, by simp⟩⟩
end Go.Proofs.YtmpbkfbjmmoapaaGreat

/- The turned interface's items, as far as they are appended; its end. No conditions. -/
namespace Go.Proofs.YtmpbkfbjmmoapaaGreat
open Go.RowKit
set_option linter.unusedVariables false
set_option linter.unusedSimpArgs false
theorem push_one {w : World} {base k size bytes : Nat} {t T : TypeId} {i0 : TypeInfo} {z v : Value} {xs ys : List Value} (hu : Tryz.prog.underlying t = some (.slice T)) (hi : Tryz.prog.info? T = some i0) (hz0 : i0.zero = some z) (hz1 : i0.size = size) (hz2 : i0.bytes = bytes) (hzs : z.cells.size = size) (hsz : 0 < size)
  (h : w.ownsRow base T size v k xs) {B : Nat} (hB : Blk w B T ys.toArray) (hys : ys.length = size) (h1 : ∀ u ∈ ys, u.oneCell' = true) (hk : k ≤ 65535) (hby : bytes ≤ 1000) (hbase : base ≤ w.heap.size) :
  ∃ A c w', (Builtin.append_ #[t, t] t #[v, .slice (some ⟨B, 0, none⟩) 1 1]).run Tryz.prog w = .ok (.slice A (k + 1) c) w' ∧ w'.ownsRow base T size (.slice A (k + 1) c) (k + 1) (xs ++ ys) ∧ Wr (ownL v) w w' := by
 have hbb : (k + 1) * bytes ≤ 140737488355328 := by
  have : (k + 1) * bytes ≤ 65536 * 1000 := Nat.mul_le_mul (by omega) hby
  omega
 obtain ⟨v', w', hrun, hown, hgrow, _, hbk⟩ := run_append_own_at (P := Tryz.prog) w base t t T i0 z size bytes hu hi hz0 hz1 hz2 hzs hsz v k _ h ⟨B, 0, none⟩ 1 1 ys (by rw [hys]; omega) (fun jj u hu => by
  rw [Addr.add_lit, Nat.zero_add, hB.cell, qgaq]
  exact hu) h1 (by unfold maxLen; omega) hbb hbase
 obtain ⟨A7, c7, hv7⟩ : ∃ A c, v' = .slice A (k + 1) c := by
  rcases hown.2 with ⟨_, h0⟩ | ⟨gg, cap, cur, e, _⟩
  ·omega
  ·exact ⟨_, _, e⟩
 subst hv7
 exact ⟨A7, c7, w', hrun, hown, Wr.ofGrownOwn hgrow⟩
theorem RowP.into {α : Type} {Rel : World → (Nat → Prop) → List Value → α → Prop} (ok : RelOk Rel) {size base : Nat} {T : TypeId} {v : Value} {acc : List α} {P Q : Nat → Prop} {w : World} (h : RowP Rel size base T v acc P w) (hP : ∀ b, P b → b < w.heap.size → Q b) : RowP Rel size base T v acc Q w := by
 obtain ⟨xs, ho, h1, h2⟩ := h
 refine ⟨xs, ho, h1, fun i x hi => ?_⟩
 obtain ⟨ys, e1, e2, e3⟩ := h2 i x hi
 exact ⟨ys, e1, e2, ok.into e3 (fun b hb hlt => ⟨hP b hb.1 hlt, hb.2⟩)⟩
def ItRow (w wr : World) (f : FaceP) (ord : List Nat) (g tb TB e : Nat) : Prop :=
 RowP TyRel 12 w.heap.size 50 (.slice (some ⟨TB, 0, none⟩) f.types.length f.types.length) (turnT ord f.types f.types.length) (fun bl => (bl ≠ tb ∧ bl ≠ g + 1) ∧ bl < e) wr
structure ItP (w : World) (e : Nat) (f : FaceP) (ord : List Nat) (g tb TB : Nat) (fc : Array Value) (vu v : Value) (j : Nat) (wr : World) : Prop where
 wr_ : Wr [] w wr
 bA : Blk wr g 26 fc
 bR : Blk wr (g + 1) 26 #[.string ⟨#[]⟩, .slice none 0 0, .slice none 0 0, .slice none 0 0]
 bT : Blk wr tb 26 #[.string f.module, vu, .slice (some ⟨TB, 0, none⟩) f.types.length f.types.length, v]
 own : wr.ownsRow e 54 8 v j (((f.items.take j).map (renP (movedN ord))).flatMap PItm.cells)
 row : ItRow w wr f ord g tb TB e
def ItAt (w : World) (e : Nat) (f : FaceP) (ord : List Nat) (g tb TB : Nat) (fc : Array Value) (vu : Value) (j : Nat) (wr : World) : Prop := ∃ v, ItP w e f ord g tb TB fc vu v j wr
theorem it_step {w wo wE w7 : World} {e j g tb TB c7 : Nat} {f : FaceP} {ord : List Nat} {fc : Array Value} {vu v : Value} {A7 : Option Addr} {x : PItm} {ys : List Value} (h : ItP w e f ord g tb TB fc vu v j wo) (rE : Wr [] wo wE) (hx : f.items[j]? = some x) (hy : ys = (renP (movedN ord) x).cells)
  (hown : w7.ownsRow e 54 8 (.slice A7 (j + 1) c7) (j + 1) (((f.items.take j).map (renP (movedN ord))).flatMap PItm.cells ++ ys)) (hw7 : Wr (ownL v) wE w7) (hg : w.heap.size = g) (h1 : g + 1 < tb) (h2 : g + 1 < TB) (hne : tb ≠ TB) (he1 : tb < e) (he2 : TB < e) :
  ItAt w e f ord g tb TB fc vu (j + 1) (w7.setCell ⟨tb, 3, none⟩ (.slice A7 (j + 1) c7)) := by
 have hlow : ∀ q, q ∈ ownL v → e ≤ q := fun q hq => (h.own.lt q (mem_ownL.1 hq)).1
 have hew : e ≤ wo.heap.size ∨ e ≤ wE.heap.size ∨ True := .inr (.inr trivial)
 have r8 : Wr [tb] w7 (w7.setCell ⟨tb, 3, none⟩ (.slice A7 (j + 1) c7)) := (Wr.refl _ _).setOn (by simp) _
 have nn : ∀ b, b < e → b ∉ ownL v := fun b hb hm => by have := hlow _ hm; omega
 have b7 := (h.bT.wr0 rE).wr hw7 (nn _ he1)
 refine ⟨.slice A7 (j + 1) c7, ⟨?_, ((h.bA.wr0 rE).wr hw7 (nn _ (by omega))).wr r8 (by simp; omega), ((h.bR.wr0 rE).wr hw7 (nn _ (by omega))).wr r8 (by simp; omega), ?_, ?_, ?_⟩⟩
 ·exact ((h.wr_.trans rE).trans' hw7 (fun q hq => .inr (by have := hlow q hq; omega))).new r8 (by omega)
 ·have := b7.set_ 3 (.slice A7 (j + 1) c7)
  simpa using this
 ·obtain ⟨hj, hxe⟩ := List.getElem?_eq_some_iff.1 hx
  have e1 : ((f.items.take (j + 1)).map (renP (movedN ord))).flatMap PItm.cells = ((f.items.take j).map (renP (movedN ord))).flatMap PItm.cells ++ ys := by
   rw [List.take_succ_eq_append_getElem hj, hxe, List.map_append, List.flatMap_append, hy]
   simp
  rw [e1]
  exact own_keep hown r8 (fun q hq hm => by
   rw [List.mem_singleton] at hm
   have := (hown.lt q hq).1
   omega)
 ·refine RowP.keep tyOk (RowP.keep tyOk (RowP.keep tyOk h.row rE (fun _ _ => by simp) (fun _ _ _ => by simp)) hw7 (fun q hq => ?_) (fun b hb _ => nn b hb.2)) r8 (fun q hq => ?_) (fun b hb _ => by simp; exact hb.1.1)
  ·have hq : TB = q := by simpa [Value.ownBlock] using hq
   exact nn q (by omega)
  ·have hq : TB = q := by simpa [Value.ownBlock] using hq
   simp
   omega
theorem it_end {w wq : World} {P : Nat → Prop} {e g tb TB : Nat} {f : FaceP} {ord : List Nat} {fc : Array Value} {vu v : Value} (h : ItP w e f ord g tb TB fc vu v f.items.length wq) (hu : SlUsesF w P vu f.uses) (hg : w.heap.size = g) (h1 : g + 1 < tb) (h2 : g + 1 < TB) (hne : tb ≠ TB) (he1 : tb < e) (he2 : TB < e) {wf : World}
  (hf : (((wq.setCell ⟨g + 1, 0, none⟩ (.string f.module)).setCell ⟨g + 1, 1, none⟩ vu).setCell ⟨g + 1, 2, none⟩ (.slice (some ⟨TB, 0, none⟩) f.types.length f.types.length)).setCell ⟨g + 1, 3, none⟩ v = wf) :
  Wr [] w wf ∧ Blk wf (g + 1) 26 #[.string f.module, vu, .slice (some ⟨TB, 0, none⟩) f.types.length f.types.length, v] ∧ FacePL wf (fun _ => True) vu (.slice (some ⟨TB, 0, none⟩) f.types.length f.types.length) v (turnP f ord) := by
 have r4 : Wr [g + 1] wq wf := by rw [← hf]; exact wr4 _ _ _ _ _ _
 have rw_ : Wr [] w wf := h.wr_.new r4 (by omega)
 refine ⟨rw_, by rw [← hf]; exact blk4 _ _ _ _ _ _ _ _ _ _ _ h.bR, ⟨(Sl.wr0 hu rw_).into (fun _ _ _ => trivial), ?_, ?_⟩⟩
 ·have hr := RowP.keep tyOk h.row r4 (fun q hq => by
   have hq : TB = q := by simpa [Value.ownBlock] using hq
   simp
   omega) (fun b hb _ => by simp; exact hb.1.2)
  obtain ⟨xs, s1, s2, s3⟩ := RowP.rel tyOk hr (fun b hb => by
   have hb : TB = b := by simpa [Value.ownBlock] using hb
   exact ⟨⟨by omega, by omega⟩, by omega⟩)
  refine ⟨xs, s1.into (fun _ _ _ => trivial), s2, fun i t hi => ?_⟩
  obtain ⟨ys, e1, vn, vf, va, vp, rfl, e2⟩ := s3 i t hi
  exact ⟨vn, vf, va, vp, e1, e2.into (fun _ _ _ => trivial)⟩
 ·have ho := own_keep h.own r4 (fun q hq hm => by
   rw [List.mem_singleton] at hm
   have := (h.own.lt q hq).1
   omega)
  rw [List.take_length] at ho
  show Sl wf _ 8 v (f.items.map (renP (movedN ord))).length _
  rw [List.length_map]
  exact Sl.ofOwn ho (fun _ _ => trivial)
theorem info_itmT : (Tryz.prog.info? 54).map (fun i => (i.zero, i.size, i.bytes)) = some (some (.agg #[.string ⟨#[]⟩, .int .u8 0, .int .i64 0, .int .i64 0, .int .u8 0, .int .i64 0, .int .i64 0, .string ⟨#[]⟩]), 8, 80) := by kernel_rfl
theorem renP_six {ρ : Int → Int} {x : PItm} (h : x.v.sort = 6) : (renP ρ x).cells = [.string x.name, .int .u8 x.kind, .int .i64 (ρ x.type), .int .i64 x.at_, .int .u8 x.v.sort, .int .i64 x.v.n, .int .i64 (ρ x.v.type), .string x.v.text] := by
 unfold renP renPV
 rw [if_pos h]
 rfl
theorem renP_not {ρ : Int → Int} {x : PItm} (h : ¬ x.v.sort = 6) : (renP ρ x).cells = [.string x.name, .int .u8 x.kind, .int .i64 (ρ x.type), .int .i64 x.at_, .int .u8 x.v.sort, .int .i64 x.v.n, .int .i64 x.v.type, .string x.v.text] := by
 unfold renP renPV
 rw [if_neg h]
 rfl
end Go.Proofs.YtmpbkfbjmmoapaaGreat
