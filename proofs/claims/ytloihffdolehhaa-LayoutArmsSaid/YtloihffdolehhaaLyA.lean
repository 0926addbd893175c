/- How many words a type has, as plain mathematics. No conditions. -/
import Derived.Test.YtloihffdolehhaaTyL
namespace Go.Proofs.Ytloihffdolehhaa
open Go.RowKit
set_option linter.unusedVariables false

def fitsK (n : Int) : Int × Int := if n > 32767 then (0, 120) else (n, 0)
def arrK (lo hi : Int) (is : Bool) (s : Int × Int) : Int × Int := if is = false then (0, 2) else if s.2 ≠ 0 then (0, s.2) else fitsK (max (hi - lo + 1) 0 * s.1)
def recK (sz : Int → Int × Int) : List Fld → Int → Int × Int
  | [], all => (all, 0)
  | f :: l, all => if (sz f.type).2 ≠ 0 then (0, (sz f.type).2) else if (fitsK (all + (sz f.type).1)).2 ≠ 0 then (0, (fitsK (all + (sz f.type).1)).2) else recK sz l (fitsK (all + (sz f.type).1)).1
/-- What a type of this kind has; sz: what those have that are within it. -/
def reckK (tys : List Ty) (sz : Int → Int × Int) (i : Int) : Int × Int :=
  if ordB tys i = true ∧ (tyOf tys i).kind ≠ 5 then (1, 0)
  else if (tyOf tys i).kind = 13 ∨ (tyOf tys i).kind = 14 ∨ (tyOf tys i).kind = 15 ∨ (tyOf tys i).kind = 16 then (1, 0)
  else if (tyOf tys i).kind = 11 then (2, 0)
  else if (tyOf tys i).kind = 10 then arrK (loB tys (tyOf tys i).index) (hiB tys (tyOf tys i).index) (ordB tys (tyOf tys i).index) (sz (tyOf tys i).base)
  else if (tyOf tys i).kind = 12 then recK sz (tyOf tys i).fields 0
  else (0, 2)
def szF (tys : List Ty) : Nat → Int → Int × Int
  | 0, _ => (0, 2)
  | f + 1, i => reckK tys (szF tys f) i
/-- How many words, and which error. -/
def sz (tys : List Ty) (i : Int) : Int × Int := szF tys (i.toNat + 1) i

/-- Such as hangs on those ahead of it alone. -/
def lowTy (i : Nat) (ty : Ty) : Prop :=
  (ty.kind = 10 → ty.base < i) ∧ (ty.kind = 12 → ∀ f ∈ ty.fields, f.type < i) ∧ -2147483648 ≤ ty.low ∧ ty.low ≤ 2147483647 ∧ -2147483648 ≤ ty.high ∧ ty.high ≤ 2147483647
def Low (tys : List Ty) : Prop := ∀ i ty, tys[i]? = some ty → lowTy i ty

theorem tyOf_cases (tys : List Ty) (i : Int) : tyOf tys i = Ty.none ∨ ∃ k : Nat, i = k ∧ tys[k]? = some (tyOf tys i) := by
  unfold tyOf
  by_cases h0 : 0 ≤ i
  · rw [if_pos h0, List.getD_eq_getElem?_getD]
    by_cases hi : i.toNat < tys.length
    · exact .inr ⟨i.toNat, by omega, by rw [List.getElem?_eq_getElem hi]; rfl⟩
    · exact .inl (by rw [List.getElem?_eq_none (by omega)]; rfl)
  · exact .inl (if_neg h0)
theorem tyOf_low {tys : List Ty} (h : Low tys) (i : Int) : ((tyOf tys i).kind = 10 → (tyOf tys i).base < i) ∧ ((tyOf tys i).kind = 12 → ∀ f ∈ (tyOf tys i).fields, f.type < i) ∧
    -2147483648 ≤ (tyOf tys i).low ∧ (tyOf tys i).low ≤ 2147483647 ∧ -2147483648 ≤ (tyOf tys i).high ∧ (tyOf tys i).high ≤ 2147483647 := by
  rcases tyOf_cases tys i with e | ⟨k, rfl, hk⟩
  · rw [e]
    exact ⟨fun h => by simp [Ty.none] at h, fun h => by simp [Ty.none] at h, by simp [Ty.none], by simp [Ty.none], by simp [Ty.none], by simp [Ty.none]⟩
  · exact h k _ hk
theorem tyOf_neg (tys : List Ty) {i : Int} (h : i < 0) : tyOf tys i = Ty.none := if_neg (by omega)
theorem baseOf_none {tys : List Ty} {i : Int} (h : tyOf tys i = Ty.none) : baseOf tys i = i := by simp [baseOf, h, Ty.none]
theorem ord_none {tys : List Ty} {i : Int} (h : tyOf tys i = Ty.none) : ordB tys i = false := by
  have : kindOf tys i = 0 := by rw [kindOf, baseOf_none h, h]; rfl
  rw [ordB, this]
  rfl
theorem reck_none {tys : List Ty} {i : Int} (h : tyOf tys i = Ty.none) (s : Int → Int × Int) : reckK tys s i = (0, 2) := by
  rw [reckK, ord_none h, h]
  simp [Ty.none]
theorem szF_neg (tys : List Ty) (f : Nat) {i : Int} (h : i < 0) : szF tys f i = (0, 2) := by
  cases f with
  | zero => rfl
  | succ f => exact reck_none (tyOf_neg tys h) _
theorem recK_congr {s s' : Int → Int × Int} : ∀ (l : List Fld) (all : Int), (∀ f ∈ l, s f.type = s' f.type) → recK s l all = recK s' l all
  | [], _, _ => rfl
  | f :: l, all, h => by
    rw [recK, recK, h f (.head _), recK_congr l _ (fun f hf => h f (.tail _ hf))]
theorem reck_congr {tys : List Ty} (h : Low tys) {s s' : Int → Int × Int} (i : Int) (he : ∀ j, j < i → s j = s' j) : reckK tys s i = reckK tys s' i := by
  obtain ⟨h1, h2, _⟩ := tyOf_low h i
  unfold reckK
  by_cases c0 : ordB tys i = true ∧ (tyOf tys i).kind ≠ 5
  · rw [if_pos c0, if_pos c0]
  rw [if_neg c0, if_neg c0]
  by_cases c1 : (tyOf tys i).kind = 13 ∨ (tyOf tys i).kind = 14 ∨ (tyOf tys i).kind = 15 ∨ (tyOf tys i).kind = 16
  · rw [if_pos c1, if_pos c1]
  rw [if_neg c1, if_neg c1]
  by_cases c2 : (tyOf tys i).kind = 11
  · rw [if_pos c2, if_pos c2]
  rw [if_neg c2, if_neg c2]
  by_cases c3 : (tyOf tys i).kind = 10
  · rw [if_pos c3, if_pos c3, he _ (h1 c3)]
  rw [if_neg c3, if_neg c3]
  by_cases c4 : (tyOf tys i).kind = 12
  · rw [if_pos c4, if_pos c4]
    exact recK_congr _ _ (fun f hf => he _ (h2 c4 f hf))
  rw [if_neg c4, if_neg c4]
theorem szF_stable {tys : List Ty} (h : Low tys) : ∀ (f f' : Nat) (i : Int), i.toNat < f → i.toNat < f' → szF tys f i = szF tys f' i
  | 0, _, _, h1, _ => absurd h1 (by omega)
  | _ + 1, 0, _, _, h2 => absurd h2 (by omega)
  | f + 1, f' + 1, i, h1, h2 => by
    show reckK tys (szF tys f) i = reckK tys (szF tys f') i
    refine reck_congr h i (fun j hj => ?_)
    by_cases hn : j < 0
    · rw [szF_neg tys f hn, szF_neg tys f' hn]
    · exact szF_stable h f f' j (by omega) (by omega)
/-- The words of a type by those of the types within it. -/
theorem sz_eq {tys : List Ty} (h : Low tys) (i : Int) : sz tys i = reckK tys (sz tys) i := by
  show reckK tys (szF tys i.toNat) i = _
  refine reck_congr h i (fun j hj => ?_)
  by_cases hn : j < 0
  · rw [szF_neg tys _ hn]
    exact (szF_neg tys _ hn).symm
  · exact szF_stable h _ _ j (by omega) (by omega)

theorem fitsK_bd {n : Int} (h : 0 ≤ n) : 0 ≤ (fitsK n).1 ∧ (fitsK n).1 ≤ 32767 ∧ ((fitsK n).2 ≠ 0 → (fitsK n).1 = 0) := by
  unfold fitsK
  by_cases c : n > 32767
  · rw [if_pos c]; simp
  · rw [if_neg c]; simp; omega
theorem recK_bd {s : Int → Int × Int} (hs : ∀ j, 0 ≤ (s j).1) : ∀ (l : List Fld) (all : Int), 0 ≤ all → all ≤ 32767 → 0 ≤ (recK s l all).1 ∧ (recK s l all).1 ≤ 32767 ∧ ((recK s l all).2 ≠ 0 → (recK s l all).1 = 0)
  | [], all, h0, h1 => ⟨h0, h1, fun h => absurd rfl h⟩
  | f :: l, all, h0, h1 => by
    have hf := fitsK_bd (n := all + (s f.type).1) (by have := hs f.type; omega)
    rw [recK]
    by_cases c1 : (s f.type).2 ≠ 0
    · rw [if_pos c1]; simp
    · rw [if_neg c1]
      by_cases c2 : (fitsK (all + (s f.type).1)).2 ≠ 0
      · rw [if_pos c2]; simp
      · rw [if_neg c2]
        exact recK_bd hs l _ hf.1 hf.2.1
theorem reckK_bd (tys : List Ty) {s : Int → Int × Int} (hs : ∀ j, 0 ≤ (s j).1) (i : Int) : 0 ≤ (reckK tys s i).1 ∧ (reckK tys s i).1 ≤ 32767 ∧ ((reckK tys s i).2 ≠ 0 → (reckK tys s i).1 = 0) := by
  unfold reckK
  split
  · simp
  split
  · simp
  split
  · simp
  split
  · unfold arrK
    split
    · simp
    split
    · simp
    · exact fitsK_bd (Int.mul_nonneg (by omega) (hs _))
  split
  · exact recK_bd hs _ 0 (by omega) (by omega)
  · simp
theorem szF_bd (tys : List Ty) : ∀ (f : Nat) (i : Int), 0 ≤ (szF tys f i).1 ∧ (szF tys f i).1 ≤ 32767 ∧ ((szF tys f i).2 ≠ 0 → (szF tys f i).1 = 0)
  | 0, _ => by simp [szF]
  | f + 1, i => reckK_bd tys (fun j => (szF_bd tys f j).1) i
theorem sz_bd (tys : List Ty) (i : Int) : 0 ≤ (sz tys i).1 ∧ (sz tys i).1 ≤ 32767 ∧ ((sz tys i).2 ≠ 0 → (sz tys i).1 = 0) := szF_bd tys _ i
theorem rng_bd (k : Int) : -2147483648 ≤ rngLo k ∧ rngLo k ≤ 2147483647 ∧ -2147483648 ≤ rngHi k ∧ rngHi k ≤ 2147483647 := by
  unfold rngLo rngHi rngOf
  by_cases h1 : k = 1
  · subst h1; decide
  by_cases h2 : k = 2
  · subst h2; decide
  by_cases h3 : k = 3
  · subst h3; decide
  by_cases h4 : k = 4
  · subst h4; decide
  by_cases h5 : k = 5
  · subst h5; decide
  simp [h1, h2, h3, h4, h5]
theorem loB_bd {tys : List Ty} (h : Low tys) (i : Int) : -2147483648 ≤ loB tys i ∧ loB tys i ≤ 2147483647 ∧ -2147483648 ≤ hiB tys i ∧ hiB tys i ≤ 2147483647 := by
  obtain ⟨_, _, h3, h4, h5, h6⟩ := tyOf_low h i
  have hr := rng_bd (tyOf tys i).kind
  unfold loB hiB
  by_cases c : ordB tys i = true
  · rw [if_pos c, if_pos c]
    by_cases d : rngIs (tyOf tys i).kind = true
    · rw [if_pos d, if_pos d]; exact hr
    · rw [if_neg d, if_neg d]; exact ⟨h3, h4, h5, h6⟩
  · rw [if_neg c, if_neg c]; omega
end Go.Proofs.Ytloihffdolehhaa
