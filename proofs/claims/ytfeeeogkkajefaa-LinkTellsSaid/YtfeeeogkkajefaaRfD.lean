/- ref 22's Order: the plain part: frames, states, names that stand twice. No conditions. -/
import Derived.Test.YtfeeeogkkajefaaRfC
import Derived.Test.YtfeeeogkkajefaaLkD
import Derived.Test.YtfeeeogkkajefaaLaR
namespace Go.Proofs.Ytfeeeogkkajefaa
open Go.RowKit
set_option linter.unusedVariables false
set_option linter.unusedSimpArgs false

def zeroNeed : NeedD := ⟨⟨#[]⟩, []⟩
/-- A module that is under way: who, and what is left of its needs. -/
def frOf (l : List NeedD) (p : Nat × Nat) : ByteArray × List ByteArray := ((l.getD p.1 zeroNeed).module, (l.getD p.1 zeroNeed).needs.drop p.2)
def stepC (p : Nat × Nat) : List Value := [.int .i64 (p.1 : Int), .int .i64 (p.2 : Int)]
/-- The row of those under way, the top at the end. -/
def wayC (ks : List (Nat × Nat)) : List Value := ks.reverse.flatMap stepC
theorem wayC_cons (p : Nat × Nat) (ks : List (Nat × Nat)) : wayC (p :: ks) = wayC ks ++ stepC p := by simp [wayC]
theorem wayC_len (ks : List (Nat × Nat)) : (wayC ks).length = ks.length * 2 := by
  induction ks with
  | nil => rfl
  | cons p ks ih => rw [wayC_cons, List.length_append, ih, List.length_cons]; simp [stepC]; omega
theorem getD_at {α : Type} {l : List α} {k : Nat} {x d : α} (h : l[k]? = some x) : l.getD k d = x := by simp [List.getD, h]
theorem frOf_at {l : List NeedD} {k nx : Nat} {x : NeedD} (h : l[k]? = some x) : frOf l (k, nx) = (x.module, x.needs.drop nx) := by unfold frOf; rw [getD_at h]
/-- A row that is made shorter. -/
theorem own_less {w : World} {base size n m : Nat} {e : TypeId} {A : Option Addr} {c : Nat} {xs : List Value} (h : w.ownsRow base e size (.slice A n c) n xs) (hm : m ≤ n) (hn : 0 < n) : w.ownsRow base e size (.slice A m c) m (xs.take (m * size)) := by
  have hl := h.1
  have hms := Nat.mul_le_mul_right size hm
  refine ⟨by rw [List.length_take, hl]; omega, ?_⟩
  rcases h.2 with ⟨e1, e2⟩ | ⟨g, cap, cur, e1, e2, e3, e4, e5, e6, e7⟩
  · omega
  · injection e1 with a1 a2 a3
    subst a1 a3
    refine .inr ⟨g, c, cur, rfl, e2, e3, by omega, e5, e6, ?_⟩
    rw [← e7, List.take_take]
    congr 1
    omega
theorem wayC_take (p : Nat × Nat) (ks : List (Nat × Nat)) : (wayC (p :: ks)).take (ks.length * 2) = wayC ks := by
  rw [wayC_cons, ← wayC_len ks, List.take_left']
  rfl
theorem wayC_set (p q : Nat × Nat) (ks : List (Nat × Nat)) : ((wayC (p :: ks)).set (ks.length * 2) (.int .i64 (q.1 : Int))).set (ks.length * 2 + 1) (.int .i64 (q.2 : Int)) = wayC (q :: ks) := by
  rw [wayC_cons, wayC_cons, ← wayC_len ks, List.set_append_right _ _ (Nat.le_refl _), Nat.sub_self, List.set_append_right _ _ (by omega), Nat.add_sub_cancel_left]
  rfl
theorem wayC_at (p : Nat × Nat) (ks : List (Nat × Nat)) : (wayC (p :: ks))[ks.length * 2]? = some (.int .i64 (p.1 : Int)) ∧ (wayC (p :: ks))[ks.length * 2 + 1]? = some (.int .i64 (p.2 : Int)) := by
  rw [wayC_cons, ← wayC_len ks]
  refine ⟨?_, ?_⟩
  · rw [List.getElem?_append_right (Nat.le_refl _), Nat.sub_self]; rfl
  · rw [List.getElem?_append_right (by omega), Nat.add_sub_cancel_left]; rfl
/-- The states, by place. -/
def stC (l : List NeedD) (t : Tr) : Array Value := (l.map fun x => Value.int .i64 (t.st x.module : Int)).toArray
section
variable {l : List NeedD} (hn : (l.map NeedD.module).Nodup)
include hn
theorem nodup_at {i j : Nat} {x y : NeedD} (hi : l[i]? = some x) (hj : l[j]? = some y) (e : x.module = y.module) : i = j := by
  obtain ⟨h1, e1⟩ := List.getElem?_eq_some_iff.1 hi
  obtain ⟨h2, e2⟩ := List.getElem?_eq_some_iff.1 hj
  refine (List.getElem_inj (xs := l.map NeedD.module) (h₀ := by simpa using h1) (h₁ := by simpa using h2) hn).1 ?_
  rw [List.getElem_map, List.getElem_map, e1, e2, e]
theorem stC_set {k : Nat} {x : NeedD} (hk : l[k]? = some x) (t : Tr) (n : Nat) : (stC l t).setIfInBounds k (.int .i64 (n : Int)) = stC l (t.set x.module n) := by
  apply Array.ext'
  rw [Array.toList_setIfInBounds]
  unfold stC
  simp only
  apply List.ext_getElem?
  intro i
  have hkl := (List.getElem?_eq_some_iff.1 hk).1
  rw [List.getElem?_set, List.getElem?_map, List.getElem?_map]
  by_cases e : k = i
  · subst e
    rw [if_pos rfl, if_pos (by simpa using hkl), hk]
    show _ = some (Value.int .i64 ((if x.module = x.module then n else t.st x.module : Nat) : Int))
    rw [if_pos rfl]
  · rw [if_neg e]
    cases hi : l[i]? with
    | none => rfl
    | some y =>
      show _ = some (Value.int .i64 ((if y.module = x.module then n else t.st y.module : Nat) : Int))
      rw [if_neg (fun h => e (nodup_at hn hk hi h.symm))]
      rfl
theorem allOf_at {k : Nat} {x : NeedD} (hk : l[k]? = some x) : allOf l x.module = some x.needs := (allOf_iff hn _ _).2 ⟨x, List.mem_of_getElem? hk, rfl, rfl⟩
theorem idx_cases (m : ByteArray) : (idxP NeedD.module l m = -1 ∧ allOf l m = none ∧ m ∉ l.map NeedD.module) ∨ ∃ (k : Nat) (x : NeedD), idxP NeedD.module l m = (k : Int) ∧ l[k]? = some x ∧ x.module = m ∧ allOf l m = some x.needs := by
  by_cases hm : m ∈ l.map NeedD.module
  · obtain ⟨x, hx, e⟩ := List.mem_map.1 hm
    obtain ⟨k, hk⟩ := List.getElem?_of_mem hx
    refine .inr ⟨k, x, idxP_some hk e (fun i y hi hy e2 => ?_), hk, e, by rw [← e]; exact allOf_at hn hk⟩
    have := nodup_at hn hk hy (by rw [e, e2])
    omega
  · refine .inl ⟨idxP_none (fun i y hy e => hm (List.mem_map.2 ⟨y, List.mem_of_getElem? hy, e⟩)), ?_, hm⟩
    cases ha : allOf l m with
    | none => rfl
    | some s =>
      obtain ⟨x, hx, e, _⟩ := (allOf_iff hn m s).1 ha
      exact absurd (List.mem_map.2 ⟨x, hx, e⟩) hm
end
/-- Up to here each is told first where it stands. -/
def FirstOk (l : List NeedD) (k : Nat) : Prop := ∀ (i : Nat) (x : NeedD), i < k → l[i]? = some x → idxP NeedD.module l x.module = (i : Int)
theorem FirstOk.zero (l : List NeedD) : FirstOk l 0 := fun i x h => absurd h (by omega)
theorem FirstOk.succ {l : List NeedD} {k : Nat} {x : NeedD} (h : FirstOk l k) (hk : l[k]? = some x) (e : idxP NeedD.module l x.module = (k : Int)) : FirstOk l (k + 1) := fun i y hi hy => by
  rcases Nat.lt_or_ge i k with hlt | hge
  · exact h i y hlt hy
  · obtain rfl : i = k := by omega
    rw [hk] at hy
    injection hy with hy
    rw [← hy]
    exact e
theorem FirstOk.nodup {l : List NeedD} {k : Nat} (h : FirstOk l k) : ((l.take k).map NeedD.module).Nodup := by
  rw [List.nodup_iff_pairwise_ne, List.pairwise_iff_getElem]
  intro i j hi hj hij
  rw [List.getElem_map, List.getElem_map]
  intro e
  have hi' : i < (l.take k).length := by simpa using hi
  have hj' : j < (l.take k).length := by simpa using hj
  have hik : i < k ∧ i < l.length := by rw [List.length_take] at hi'; omega
  have hjk : j < k ∧ j < l.length := by rw [List.length_take] at hj'; omega
  rw [List.getElem_take, List.getElem_take] at e
  have a := h i _ hik.1 (List.getElem?_eq_getElem hik.2)
  have b := h j _ hjk.1 (List.getElem?_eq_getElem hjk.2)
  rw [e, b] at a
  omega
theorem twice_at : ∀ (a b : List NeedD) (x : NeedD) (seen : List ByteArray), (a.map NeedD.module).Nodup → (∀ y ∈ a, y.module ∉ seen) → (x.module ∈ seen ∨ x.module ∈ a.map NeedD.module) → twiceOf seen (a ++ x :: b) = some x.module
  | [], b, x, seen, _, _, h => by
    rw [List.nil_append]
    unfold twiceOf
    rw [if_pos (inL_iff.2 (by simpa using h))]
  | y :: a, b, x, seen, h1, h2, h3 => by
    rw [List.map_cons, List.nodup_cons] at h1
    rw [List.cons_append]
    unfold twiceOf
    rw [if_neg (fun hc => h2 y (by simp) (inL_iff.1 hc))]
    refine twice_at a b x _ h1.2 (fun z hz hm => ?_) ?_
    · rcases List.mem_append.1 hm with hm | hm
      · exact h2 z (by simp [hz]) hm
      · rw [List.mem_singleton] at hm
        exact h1.1 (List.mem_map.2 ⟨z, hz, hm⟩)
    · rcases h3 with h3 | h3
      · exact .inl (List.mem_append_left _ h3)
      · rw [List.map_cons] at h3
        rcases List.mem_cons.1 h3 with h3 | h3
        · exact .inl (by rw [h3]; simp)
        · exact .inr h3
theorem FirstOk.twice {l : List NeedD} {k : Nat} {x : NeedD} (h : FirstOk l k) (hk : l[k]? = some x) (e : idxP NeedD.module l x.module ≠ (k : Int)) : twiceOf [] l = some x.module := by
  have hkl := (List.getElem?_eq_some_iff.1 hk).1
  have hx : l[k] = x := (List.getElem?_eq_some_iff.1 hk).2
  have hl : l = l.take k ++ x :: l.drop (k + 1) := by
    rw [← hx, ← List.drop_eq_getElem_cons hkl, List.take_append_drop]
  rw [hl]
  refine twice_at _ _ _ _ h.nodup (fun y hy hm => by cases hm) (.inr ?_)
  apply Classical.byContradiction
  intro hno
  refine e (idxP_some hk rfl (fun i y hi hy e2 => hno (List.mem_map.2 ⟨y, ?_, e2⟩)))
  refine List.mem_of_getElem? (i := i) ?_
  rw [List.getElem?_take, if_pos hi]
  exact hy
theorem FirstOk.all {l : List NeedD} (h : FirstOk l l.length) : (l.map NeedD.module).Nodup ∧ twiceOf [] l = none := by
  have := h.nodup
  rw [List.take_length] at this
  exact ⟨this, twiceOf_of l [] this (fun x hx hm => by cases hm)⟩
def resT : Res → List ByteArray × ByteArray × Int
  | .ok t => (t.ord, ⟨#[]⟩, 0)
  | .err who e => ([], who, e)
theorem orderP_res {l : List NeedD} (h : twiceOf [] l = none) (first : ByteArray) : orderP l first = resT (thr (allOf l) (l.length + 1) first ⟨fun _ => 0, []⟩) := by
  unfold orderP
  rw [h]
  simp only
  cases thr (allOf l) (l.length + 1) first ⟨fun _ => 0, []⟩ <;> rfl
theorem cnt_all (T : List ByteArray) (t : Tr) : cnt T t ≤ T.length := List.length_filter_le _ _
theorem sum_filter_le {α : Type} (p q : α → Bool) (g : α → Nat) (h : ∀ x, p x = true → q x = true) : ∀ l : List α, ((l.filter p).map g).sum ≤ ((l.filter q).map g).sum := by
  intro l
  induction l with
  | nil => exact Nat.le_refl _
  | cons x l ih =>
    cases hp : p x with
    | true => rw [List.filter_cons_of_pos hp, List.filter_cons_of_pos (h x hp)]; simp only [List.map_cons, List.sum_cons]; omega
    | false =>
      rw [List.filter_cons_of_neg (by simp [hp])]
      cases hq : q x with
      | true => rw [List.filter_cons_of_pos hq]; simp only [List.map_cons, List.sum_cons]; omega
      | false => rw [List.filter_cons_of_neg (by simp [hq])]; exact ih
theorem left_pop (all : ByteArray → Option (List ByteArray)) (T : List ByteArray) (m : ByteArray) (fs : List (ByteArray × List ByteArray)) (t : Tr) : left all T fs (t.done m) + 1 ≤ left all T ((m, []) :: fs) t := by
  have := sum_filter_le (fun x => decide ((t.done m).st x = 0)) (fun x => decide (t.st x = 0)) (fun m => ((all m).getD []).length + 2) (fun x hx => decide_eq_true (Le.done t m x (of_decide_eq_true hx))) T
  unfold left
  simp only [List.map_cons, List.sum_cons, List.length_nil]
  omega
theorem left_skip (all : ByteArray → Option (List ByteArray)) (T : List ByteArray) (m n : ByteArray) (rest : List ByteArray) (fs : List (ByteArray × List ByteArray)) (t : Tr) : left all T ((m, rest) :: fs) t + 1 = left all T ((m, n :: rest) :: fs) t := by
  unfold left
  simp only [List.map_cons, List.sum_cons, List.length_cons]
  omega
theorem left_len (all : ByteArray → Option (List ByteArray)) (T : List ByteArray) : ∀ (fs : List (ByteArray × List ByteArray)) (t : Tr), fs.length ≤ left all T fs t := by
  intro fs t
  have : ∀ fs : List (ByteArray × List ByteArray), fs.length ≤ (fs.map (fun x => x.2.length + 1)).sum := by
    intro fs
    induction fs with
    | nil => exact Nat.le_refl _
    | cons x fs ih => simp only [List.length_cons, List.map_cons, List.sum_cons]; omega
  have := this fs
  unfold left
  omega
theorem left_bound {l : List NeedD} (hn : (l.map NeedD.module).Nodup) {B : Nat} (hB : ∀ x ∈ l, x.needs.length ≤ B) (fs : List (ByteArray × List ByteArray)) (t : Tr) : left (allOf l) (l.map NeedD.module) fs t ≤ l.length * (B + 2) + (fs.map (fun x => x.2.length + 1)).sum := by
  have : ∀ T : List ByteArray, (∀ m ∈ T, ((allOf l m).getD []).length ≤ B) → (((T.filter (fun m => decide (t.st m = 0))).map (fun m => ((allOf l m).getD []).length + 2)).sum) ≤ T.length * (B + 2) := by
    intro T
    induction T with
    | nil => intro _; simp
    | cons m T ih =>
      intro h
      have i1 := ih (fun x hx => h x (by simp [hx]))
      have i2 := h m (by simp)
      rw [List.length_cons, Nat.succ_mul]
      by_cases hm : t.st m = 0
      · rw [List.filter_cons_of_pos (by simpa using hm), List.map_cons, List.sum_cons]
        omega
      · rw [List.filter_cons_of_neg (by simpa using hm)]
        omega
  have h2 := this (l.map NeedD.module) (fun m hm => by
    obtain ⟨x, hx, e⟩ := List.mem_map.1 hm
    have : allOf l m = some x.needs := (allOf_iff hn m _).2 ⟨x, hx, e, rfl⟩
    rw [this]
    exact hB x hx)
  rw [List.length_map] at h2
  unfold left
  omega
theorem stC_zero (l : List NeedD) : stC l ⟨fun _ => 0, []⟩ = madeCells #[.int .i64 0] l.length := by
  apply Array.ext'
  apply List.ext_getElem?
  intro i
  simp [stC, madeCells, List.getElem?_map, List.getElem?_ofFn, Nat.mod_one]
  by_cases h : i < l.length
  · rw [List.getElem?_eq_getElem h]
    simp [h]
  · rw [List.getElem?_eq_none (by omega)]
    simp [h]
end Go.Proofs.Ytfeeeogkkajefaa
