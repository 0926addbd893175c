/- The order, with a row of those that are under way in the place of calls: the same answers. No conditions. -/
import Derived.Test.YtfeeeogkkajefaaLkB
namespace Go.Proofs.Ytfeeeogkkajefaa
set_option linter.unusedVariables false

/-- T: all that are told. -/
def Told (all : ByteArray → Option (List ByteArray)) (T : List ByteArray) : Prop := ∀ m, (all m).isSome = true ↔ m ∈ T
theorem each_congr {f g : ByteArray → Tr → Res} {T : List ByteArray} {B : Nat} (hfg : ∀ m t, t.st m = 0 → cnt T t ≤ B → f m t = g m t) (hle : ∀ m t t', f m t = .ok t' → Le t t') :
    ∀ l t, cnt T t ≤ B → each f l t = each g l t
  | [], t, _ => rfl
  | n :: l, t, hB => by
    unfold each
    by_cases h1 : t.st n = 1
    · rw [if_pos h1, if_pos h1]
    · rw [if_neg h1, if_neg h1]
      by_cases h0 : t.st n = 0
      · rw [if_pos h0, if_pos h0, ← hfg n t h0 hB]
        cases hr : f n t with
        | ok t1 => exact each_congr hfg hle l t1 (Nat.le_trans (cnt_le (hle n t t1 hr)) hB)
        | err w e => rfl
      · rw [if_neg h0, if_neg h0]
        exact each_congr hfg hle l t hB
/-- More fuel than there are fresh ones changes nothing. -/
theorem thr_fuel {all : ByteArray → Option (List ByteArray)} {T : List ByteArray} (hT : Told all T) : ∀ (k k' : Nat) (m : ByteArray) (t : Tr), t.st m = 0 → cnt T t < k → cnt T t < k' → thr all k m t = thr all k' m t
  | 0, k', m, t, _, h, _ => absurd h (by omega)
  | k + 1, 0, m, t, _, _, h => absurd h (by omega)
  | k + 1, k' + 1, m, t, h0, h1, h2 => by
    unfold thr
    cases ha : all m with
    | none => rfl
    | some l =>
      have hm : m ∈ T := (hT m).1 (by rw [ha]; rfl)
      have hlt : cnt T (t.set m 1) < cnt T t := cnt_lt (Le.set t m 1 (by decide)) hm h0 (by show (if m = m then 1 else t.st m) ≠ 0; rw [if_pos rfl]; decide)
      have : each (thr all k) l (t.set m 1) = each (thr all k') l (t.set m 1) :=
        each_congr (T := T) (B := cnt T (t.set m 1)) (fun n t' hn hc => thr_fuel hT k k' n t' hn (by omega) (by omega)) (fun n t' t'' => thr_le k n t' t'') l _ (Nat.le_refl _)
      simp only [this]
/-- Those under way, with what is left of their needs: how it ends. -/
def fin (f : ByteArray → Tr → Res) : List (ByteArray × List ByteArray) → Tr → Res
  | [], t => .ok t
  | (m, rest) :: fs, t => match each f rest t with
    | .ok t' => fin f fs (t'.done m)
    | .err who e => .err who e
section
variable {all : ByteArray → Option (List ByteArray)} {T : List ByteArray} {K : Nat}
theorem fin_pop (f : ByteArray → Tr → Res) (m : ByteArray) (fs : List (ByteArray × List ByteArray)) (t : Tr) : fin f ((m, []) :: fs) t = fin f fs (t.done m) := rfl
theorem fin_skip {f : ByteArray → Tr → Res} {m n : ByteArray} {rest : List ByteArray} {fs : List (ByteArray × List ByteArray)} {t : Tr} (h1 : t.st n ≠ 1) (h0 : t.st n ≠ 0) :
    fin f ((m, n :: rest) :: fs) t = fin f ((m, rest) :: fs) t := by
  have : each f (n :: rest) t = each f rest t := by
    rw [each, if_neg h1, if_neg h0]
  unfold fin
  rw [this]
theorem fin_cycle {f : ByteArray → Tr → Res} {m n : ByteArray} {rest : List ByteArray} {fs : List (ByteArray × List ByteArray)} {t : Tr} (h1 : t.st n = 1) :
    fin f ((m, n :: rest) :: fs) t = .err n 220 := by
  have : each f (n :: rest) t = .err n 220 := by
    rw [each, if_pos h1]
  unfold fin
  rw [this]
theorem fin_gone {m n : ByteArray} {rest : List ByteArray} {fs : List (ByteArray × List ByteArray)} {t : Tr} (h0 : t.st n = 0) (ha : all n = none) :
    fin (thr all (K + 1)) ((m, n :: rest) :: fs) t = .err n 3 := by
  have : each (thr all (K + 1)) (n :: rest) t = .err n 3 := by
    rw [each, if_neg (by omega), if_pos h0]
    try rfl
    unfold thr
    rw [ha]
  unfold fin
  rw [this]
theorem fin_push (hT : Told all T) {m n : ByteArray} {rest l : List ByteArray} {fs : List (ByteArray × List ByteArray)} {t : Tr} (h0 : t.st n = 0) (ha : all n = some l) (hK : cnt T t < K + 1) :
    fin (thr all (K + 1)) ((m, n :: rest) :: fs) t = fin (thr all (K + 1)) ((n, l) :: (m, rest) :: fs) (t.set n 1) := by
  have hm : n ∈ T := (hT n).1 (by rw [ha]; rfl)
  have hlt : cnt T (t.set n 1) < cnt T t := cnt_lt (Le.set t n 1 (by decide)) hm h0 (by show (if n = n then 1 else t.st n) ≠ 0; rw [if_pos rfl]; decide)
  have e1 : each (thr all (K + 1)) (n :: rest) t = match thr all (K + 1) n t with | .ok t' => each (thr all (K + 1)) rest t' | .err who e => .err who e := by
    rw [each, if_neg (by omega), if_pos h0]
    try rfl
  have e2 : each (thr all K) l (t.set n 1) = each (thr all (K + 1)) l (t.set n 1) :=
    each_congr (T := T) (B := cnt T (t.set n 1)) (fun x t' hx hc => thr_fuel hT K (K + 1) x t' hx (by omega) (by omega)) (fun x t' t'' => thr_le K x t' t'') l _ (Nat.le_refl _)
  have e3 : thr all (K + 1) n t = match each (thr all (K + 1)) l (t.set n 1) with | .ok t' => .ok (t'.done n) | .err who e => .err who e := by
    conv => lhs; unfold thr
    rw [ha]
    simp only [e2]
    try rfl
  conv => lhs; unfold fin
  conv => rhs; unfold fin
  rw [e1, e3]
  cases each (thr all (K + 1)) l (t.set n 1) with
  | err w e => rfl
  | ok t1 =>
    simp only
    conv => rhs; unfold fin
theorem fin_start (hT : Told all T) {first : ByteArray} {l : List ByteArray} {t : Tr} (h0 : t.st first = 0) (ha : all first = some l) (hK : cnt T t < K + 1) :
    thr all (K + 1) first t = fin (thr all (K + 1)) [(first, l)] (t.set first 1) := by
  have hm : first ∈ T := (hT first).1 (by rw [ha]; rfl)
  have hlt : cnt T (t.set first 1) < cnt T t := cnt_lt (Le.set t first 1 (by decide)) hm h0 (by show (if first = first then 1 else t.st first) ≠ 0; rw [if_pos rfl]; decide)
  have e2 : each (thr all K) l (t.set first 1) = each (thr all (K + 1)) l (t.set first 1) :=
    each_congr (T := T) (B := cnt T (t.set first 1)) (fun x t' hx hc => thr_fuel hT K (K + 1) x t' hx (by omega) (by omega)) (fun x t' t'' => thr_le K x t' t'') l _ (Nat.le_refl _)
  conv => lhs; unfold thr
  rw [ha]
  simp only [e2]
  unfold fin
  cases each (thr all (K + 1)) l (t.set first 1) with
  | err w e => rfl
  | ok t1 => rfl
end
/-- How much is left to do. -/
def left (all : ByteArray → Option (List ByteArray)) (T : List ByteArray) (fs : List (ByteArray × List ByteArray)) (t : Tr) : Nat :=
  ((T.filter (fun m => decide (t.st m = 0))).map (fun m => ((all m).getD []).length + 2)).sum + (fs.map (fun x => x.2.length + 1)).sum
theorem sum_filter_lt {α : Type} (p q : α → Bool) (g : α → Nat) (h : ∀ x, p x = true → q x = true) (y : α) (hy : p y = false) (hz : q y = true) : ∀ l : List α, y ∈ l → ((l.filter p).map g).sum + g y ≤ ((l.filter q).map g).sum := by
  have base : ∀ l : List α, ((l.filter p).map g).sum ≤ ((l.filter q).map g).sum := by
    intro l
    induction l with
    | nil => exact Nat.le_refl _
    | cons x l ih =>
      cases hp : p x with
      | true => rw [List.filter_cons_of_pos hp, List.filter_cons_of_pos (h x hp)]; simp only [List.map_cons, List.sum_cons]; omega
      | false =>
        rw [List.filter_cons_of_neg (by simp [hp])]
        cases hq : q x with
        | true => rw [List.filter_cons_of_pos hq]; simp only [List.map_cons, List.sum_cons]; omega
        | false => rw [List.filter_cons_of_neg (by simp [hq])]; exact ih
  intro l
  induction l with
  | nil => intro hm; cases hm
  | cons x l ih =>
    intro hm
    rcases List.mem_cons.1 hm with e | e
    · subst e
      rw [List.filter_cons_of_neg (by simp [hy]), List.filter_cons_of_pos hz]
      have := base l
      simp only [List.map_cons, List.sum_cons]
      omega
    · have ih := ih e
      cases hp : p x with
      | true => rw [List.filter_cons_of_pos hp, List.filter_cons_of_pos (h x hp)]; simp only [List.map_cons, List.sum_cons]; omega
      | false =>
        rw [List.filter_cons_of_neg (by simp [hp])]
        cases hq : q x with
        | true => rw [List.filter_cons_of_pos hq]; simp only [List.map_cons, List.sum_cons]; omega
        | false => rw [List.filter_cons_of_neg (by simp [hq])]; exact ih
theorem left_push {all : ByteArray → Option (List ByteArray)} {T : List ByteArray} {n m : ByteArray} {l rest : List ByteArray} {fs : List (ByteArray × List ByteArray)} {t : Tr} (hn : n ∈ T) (h0 : t.st n = 0) (ha : all n = some l) :
    left all T ((n, l) :: (m, rest) :: fs) (t.set n 1) < left all T ((m, n :: rest) :: fs) t := by
  have hs : (t.set n 1).st n = 1 := if_pos rfl
  have := sum_filter_lt (fun m => decide ((t.set n 1).st m = 0)) (fun m => decide (t.st m = 0)) (fun m => ((all m).getD []).length + 2) (fun x hx => decide_eq_true (Le.set t n 1 (by decide) x (of_decide_eq_true hx))) n
    (decide_eq_false (by omega)) (decide_eq_true h0) T hn
  rw [ha] at this
  unfold left
  simp only [List.map_cons, List.sum_cons, List.length_cons, Option.getD_some] at this ⊢
  omega
end Go.Proofs.Ytfeeeogkkajefaa
