/- What konst.Does answers: a plain function; konst.Does, of any operator and any two values. No conditions but that the values are such as Go has. -/
import Derived.Test.YtpfidbpbomamjaaKoP0
import Derived.Test.YtpfidbpbomamjaaKoP1
import Derived.Test.YtpfidbpbomamjaaKoP2
import Derived.Test.YtpfidbpbomamjaaKoP3
import Derived.Test.YtpfidbpbomamjaaKoP4
import Derived.Test.YtpfidbpbomamjaaKoP5
import Derived.Test.YtpfidbpbomamjaaKoP6
import Derived.Test.YtpfidbpbomamjaaKoP7
import Derived.Test.YtpfidbpbomamjaaKoP8
namespace Go.Proofs.Ytpfidbpbomamjaa
open Go.RowKit
set_option linter.unusedVariables false

theorem KV.letter_ok {x : KV} (hx : x.ok) : x.letter.ok := by
  by_cases h : x.sort = 5 ∧ x.s.size = 1
  · rw [KV.letter, if_pos h]
    have := byte0_range x.s
    exact ⟨fun k => by simp at k, fun _ => this, fun k => by simp at k, fun k => by simp at k, fun k => by simp at k, fun k => by simp at k⟩
  · rw [KV.letter, if_neg h]
    exact hx
theorem has_mid {x : KV} (hb : x.isB = true) (h : x.letter.sort = 1 ∨ x.letter.sort = 2 ∨ x.letter.sort = 3 ∨ x.letter.sort = 6) : x.has = true := by
  by_cases hc : x.sort = 5 ∧ x.s.size = 1
  · simp [KV.has, KV.is, hc]
  · rw [KV.letter, if_neg hc] at h
    rcases h with h | h | h | h
    · simpa [KV.has, KV.isB, KV.is, h] using hb
    all_goals simp [KV.has, KV.is, h]
theorem has_letter {x : KV} (hb : x.isB = true) (h : x.letter.sort = 1 ∨ x.letter.sort = 2 ∨ x.letter.sort = 3 ∨ x.letter.sort = 6) : x.letter.has = true := by
  by_cases hc : x.sort = 5 ∧ x.s.size = 1
  · simp [KV.has, KV.is, KV.letter, hc]
  · rw [KV.letter, if_neg hc] at h ⊢
    rcases h with h | h | h | h
    · simpa [KV.has, KV.isB, KV.is, h] using hb
    all_goals simp [KV.has, KV.is, h]
theorem has_null {x : KV} (h : x.letter.sort = 7) : x.has = false ∧ x.letter.has = false := by
  by_cases hc : x.sort = 5 ∧ x.s.size = 1
  · rw [KV.letter, if_pos hc] at h
    simp at h
  · rw [KV.letter, if_neg hc] at h ⊢
    simp [KV.has, KV.is, h]
theorem alike_sort {x y : KV} (h : alikeB x y = true) : y.sort = x.sort ∧ (x.sort = 1 ∨ x.sort = 2 ∨ x.sort = 3 ∨ x.sort = 6 ∨ x.sort = 7) := by
  unfold alikeB at h
  by_cases h6 : x.sort = 6
  · simp [h6, KV.is] at h
    omega
  by_cases h1 : x.sort = 1
  · simp [h1, KV.is] at h
    omega
  by_cases h2 : x.sort = 2
  · simp [h2, KV.is] at h
    omega
  by_cases h3 : x.sort = 3
  · simp [h3, KV.is] at h
    omega
  by_cases h7 : x.sort = 7
  · simp [h7, KV.is] at h
    omega
  simp [h1, h2, h3, h6, h7] at h

/-- The operators, in the order of the list of all. -/
def opS : Nat → ByteArray
  | 0 => ⟨#[43]⟩
  | 1 => ⟨#[45]⟩
  | 2 => ⟨#[42]⟩
  | 3 => ⟨#[47]⟩
  | 4 => ⟨#[68, 73, 86]⟩
  | 5 => ⟨#[77, 79, 68]⟩
  | 6 => ⟨#[65, 78, 68]⟩
  | 7 => ⟨#[79, 82]⟩
  | 8 => ⟨#[61]⟩
  | 9 => ⟨#[35]⟩
  | 10 => ⟨#[60]⟩
  | 11 => ⟨#[60, 61]⟩
  | 12 => ⟨#[62]⟩
  | 13 => ⟨#[62, 61]⟩
  | 14 => ⟨#[73, 78]⟩
  | 15 => ⟨#[78, 79, 84]⟩
  | 16 => ⟨#[]⟩
  | _ => ⟨#[100, 105, 118]⟩
def askQ (k : Nat) (n m : Int) : Bool :=
  if k = 8 then n == m else if k = 9 then n != m else if k = 10 then decide (n < m) else if k = 11 then decide (n ≤ m) else if k = 12 then decide (n > m) else decide (n ≥ m)
def reckK (k : Nat) (n m : Int) : KV × Int :=
  if k = 0 then wholeK (wrap64 (n + m)) else if k = 1 then wholeK (wrap64 (n - m)) else if k = 2 then wholeK (wrap64 (n * m)) else if k = 4 then divK (fun a b => wrap64 (a.tdiv b)) n m else divK (fun a b => a.tmod b) n m
def setK (k : Nat) (a b : Int) : KV :=
  if k = 0 then KV.bits (bits .or .u16 a b) else if k = 1 then KV.bits (bits .andNot .u16 a b) else if k = 2 then KV.bits (bits .and .u16 a b) else if k = 3 then KV.bits (bits .xor .u16 a b)
  else if k = 11 then KV.truth (bits .andNot .u16 a b == 0) else if k = 13 then KV.truth (bits .andNot .u16 b a == 0) else if k = 8 then KV.truth (a == b) else KV.truth (a != b)
def isOf (k : Nat) : Prop := k < 4 ∨ k = 8 ∨ k = 9 ∨ k = 11 ∨ k = 13
instance (k : Nat) : Decidable (isOf k) := inferInstanceAs (Decidable (k < 4 ∨ k = 8 ∨ k = 9 ∨ k = 11 ∨ k = 13))
def isReck (k : Nat) : Prop := k < 3 ∨ k = 4 ∨ k = 5
instance (k : Nat) : Decidable (isReck k) := inferInstanceAs (Decidable (k < 3 ∨ k = 4 ∨ k = 5))
def isAsk (k : Nat) : Prop := 8 ≤ k ∧ k ≤ 13
instance (k : Nat) : Decidable (isAsk k) := inferInstanceAs (Decidable (8 ≤ k ∧ k ≤ 13))

/-- What two values that are letters already become, where both are values, by an operator that is none of IN's. -/
def goesK (k : Nat) (x y : KV) (n : Int) : KV × Int :=
  if x.sort = 4 ∧ isOf k then (if y.sort = 4 then (setK k (x.num 4) (y.num 4), 0) else (KV.none_, 100))
  else if alikeB x y = false then (KV.none_, 100)
  else if x.sort = 7 then (if k = 8 then (KV.truth true, 0) else if k = 9 then (KV.truth false, 0) else (KV.none_, 100))
  else if x.sort = 1 ∧ isReck k then reckK k n y.number
  else if x.sort = 3 ∧ k = 6 then (KV.truth (wrap64 (n + y.number) == 2), 0)
  else if x.sort = 3 ∧ k = 7 then (KV.truth (decide (wrap64 (n + y.number) > 0)), 0)
  else if isAsk k then (KV.truth (askQ k n y.number), 0) else (KV.none_, 100)
def inOf (n b : Int) : Bool := decide (n ≥ 0) && (decide (n < 16) && inK n b)
/-- What two values become by an operator. -/
def doesK (k : Nat) (x y : KV) : KV × Int :=
  if 15 ≤ k then (KV.none_, 103)
  else if x.isB = false then (KV.none_, 100)
  else if y.isB = false then (KV.none_, 100)
  else if k = 14 then (if y.sort = 4 ∧ x.has = true then (KV.truth (inOf x.number (y.num 4)), 0) else (KV.none_, 100))
  else goesK k x.letter y.letter x.number

theorem does_op0 (x y : KV) (hx : x.ok) (hy : y.ok) (w : World) :
    Calls Try.prog 11 #[.string ⟨#[43]⟩, x.val, y.val] w fun e w' => e = .returned (.tuple #[(doesK 0 x y).1.val, .int .i64 (doesK 0 x y).2]) ∧ Wr [] w w' := by
  have hly := KV.letter_ok hy
  by_cases ix : x.isB = false
  · have hv : doesK 0 x y = (KV.none_, 100) := by simp [doesK, ix]
    rw [hv]
    exact does_A_N1 x y hx hy hly  op0 (by decide +kernel) (by kernel_rfl) (by decide +kernel) (by kernel_rfl) (by decide +kernel) (by kernel_rfl) (by decide +kernel) (by kernel_rfl) (by decide +kernel) (by kernel_rfl) ix w
  have ix' : x.isB = true := by simpa using ix
  by_cases iy : y.isB = false
  · have hv : doesK 0 x y = (KV.none_, 100) := by simp [doesK, iy]
    rw [hv]
    exact does_A_N2 x y hx hy hly  op0 (by decide +kernel) (by kernel_rfl) (by decide +kernel) (by kernel_rfl) (by decide +kernel) (by kernel_rfl) (by decide +kernel) (by kernel_rfl) (by decide +kernel) (by kernel_rfl) ix' iy w
  have iy' : y.isB = true := by simpa using iy
  have hg : doesK 0 x y = goesK 0 x.letter y.letter x.number := by simp [doesK, ix', iy']
  rw [hg]
  clear hg
  by_cases l4 : x.letter.sort = 4
  · have lx4 : x.letter.is 4 = true := by simp [KV.is, l4]
    by_cases m4 : y.letter.sort = 4
    · have hv : goesK 0 x.letter y.letter x.number = (setK 0 (x.letter.num 4) (y.letter.num 4), 0) := by simp [goesK, l4, m4, isOf]
      rw [hv]
      exact does_A_B1 x y hx hy hly 53 (fun _ _ => rfl) (setK 0 (x.letter.num 4) (y.letter.num 4)) (fun w => set1_any _ _ w) op0 (by decide +kernel) (by kernel_rfl) (by decide +kernel) (by kernel_rfl) (by decide +kernel) (by kernel_rfl) (by decide +kernel) (by kernel_rfl) (by decide +kernel) (by kernel_rfl) ix' iy' lx4 (by simp [KV.is, m4]) w
    · have hv : goesK 0 x.letter y.letter x.number = (KV.none_, 100) := by simp [goesK, l4, m4, isOf]
      rw [hv]
      exact does_A_B2 x y hx hy hly  op0 (by decide +kernel) (by kernel_rfl) (by decide +kernel) (by kernel_rfl) (by decide +kernel) (by kernel_rfl) (by decide +kernel) (by kernel_rfl) (by decide +kernel) (by kernel_rfl) ix' iy' lx4 (by simp [KV.is, m4]) w
  have lx4 : x.letter.is 4 = false := by simp [KV.is, l4]
  by_cases al : alikeB x.letter y.letter = false
  · have hv : goesK 0 x.letter y.letter x.number = (KV.none_, 100) := by simp [goesK, l4, al]
    rw [hv]
    exact does_A_L0 x y hx hy hly  op0 (by decide +kernel) (by kernel_rfl) (by decide +kernel) (by kernel_rfl) (by decide +kernel) (by kernel_rfl) (by decide +kernel) (by kernel_rfl) (by decide +kernel) (by kernel_rfl) ix' iy' lx4 al w
  have al' : alikeB x.letter y.letter = true := by simpa using al
  obtain ⟨hs, hc⟩ := alike_sort al'

  by_cases h7 : x.letter.sort = 7
  · have hv : goesK 0 x.letter y.letter x.number = (KV.none_, 100) := by simp [goesK, l4, al', h7]
    rw [hv]
    exact does_A_Z2 x y hx hy hly  op0 (by decide +kernel) (by kernel_rfl) (by decide +kernel) (by kernel_rfl) (by decide +kernel) (by kernel_rfl) (by decide +kernel) (by kernel_rfl) (by decide +kernel) (by kernel_rfl) ix' iy' lx4 al' (by simp [KV.is, h7]) (by simp [KV.is, h7]) (by simp [KV.is, h7]) (has_null h7).1 (has_null (hs.trans h7)).2 w
  have lx7 : x.letter.is 7 = false := by simp [KV.is, h7]
  have hxn : x.has = true := has_mid ix' (by omega)
  have hyn : y.letter.has = true := has_letter iy' (by omega)
  by_cases h1 : x.letter.sort = 1
  · have hv : goesK 0 x.letter y.letter x.number = reckK 0 x.number y.letter.number := by simp [goesK, al', h1, isReck, isAsk]
    rw [hv]
    exact does_A_W x y hx hy hly 48 (fun _ _ => rfl) (reckK 0 x.number y.letter.number) (fun w => wh2_any _ _ w) op0 (by decide +kernel) (by kernel_rfl) (by decide +kernel) (by kernel_rfl) (by decide +kernel) (by kernel_rfl) (by decide +kernel) (by kernel_rfl) (by decide +kernel) (by kernel_rfl) ix' iy' lx4 al' lx7 (by simp [KV.is, h1]) (by simp [KV.is, h1]) hxn hyn w
  have lx1 : x.letter.is 1 = false := by simp [KV.is, h1]
  by_cases h3 : x.letter.sort = 3
  · have hv : goesK 0 x.letter y.letter x.number = (KV.none_, 100) := by simp [goesK, al', h3, isAsk]
    rw [hv]
    exact does_A_T x y hx hy hly  op0 (by decide +kernel) (by kernel_rfl) (by decide +kernel) (by kernel_rfl) (by decide +kernel) (by kernel_rfl) (by decide +kernel) (by kernel_rfl) (by decide +kernel) (by kernel_rfl) ix' iy' lx4 al' lx7 lx1 (by simp [KV.is, h3]) hxn hyn w
  have hv : goesK 0 x.letter y.letter x.number = (KV.none_, 100) := by simp [goesK, l4, al', h7, h1, h3, isAsk]
  rw [hv]
  exact does_A_O x y hx hy hly  op0 (by decide +kernel) (by kernel_rfl) (by decide +kernel) (by kernel_rfl) (by decide +kernel) (by kernel_rfl) (by decide +kernel) (by kernel_rfl) (by decide +kernel) (by kernel_rfl) ix' iy' lx4 al' lx7 lx1 (by simp [KV.is, h3]) hxn hyn w
theorem does_op1 (x y : KV) (hx : x.ok) (hy : y.ok) (w : World) :
    Calls Try.prog 11 #[.string ⟨#[45]⟩, x.val, y.val] w fun e w' => e = .returned (.tuple #[(doesK 1 x y).1.val, .int .i64 (doesK 1 x y).2]) ∧ Wr [] w w' := by
  have hly := KV.letter_ok hy
  by_cases ix : x.isB = false
  · have hv : doesK 1 x y = (KV.none_, 100) := by simp [doesK, ix]
    rw [hv]
    exact does_A_N1 x y hx hy hly  op1 (by decide +kernel) (by kernel_rfl) (by decide +kernel) (by kernel_rfl) (by decide +kernel) (by kernel_rfl) (by decide +kernel) (by kernel_rfl) (by decide +kernel) (by kernel_rfl) ix w
  have ix' : x.isB = true := by simpa using ix
  by_cases iy : y.isB = false
  · have hv : doesK 1 x y = (KV.none_, 100) := by simp [doesK, iy]
    rw [hv]
    exact does_A_N2 x y hx hy hly  op1 (by decide +kernel) (by kernel_rfl) (by decide +kernel) (by kernel_rfl) (by decide +kernel) (by kernel_rfl) (by decide +kernel) (by kernel_rfl) (by decide +kernel) (by kernel_rfl) ix' iy w
  have iy' : y.isB = true := by simpa using iy
  have hg : doesK 1 x y = goesK 1 x.letter y.letter x.number := by simp [doesK, ix', iy']
  rw [hg]
  clear hg
  by_cases l4 : x.letter.sort = 4
  · have lx4 : x.letter.is 4 = true := by simp [KV.is, l4]
    by_cases m4 : y.letter.sort = 4
    · have hv : goesK 1 x.letter y.letter x.number = (setK 1 (x.letter.num 4) (y.letter.num 4), 0) := by simp [goesK, l4, m4, isOf]
      rw [hv]
      exact does_A_B1 x y hx hy hly 54 (fun _ _ => rfl) (setK 1 (x.letter.num 4) (y.letter.num 4)) (fun w => set2_any _ _ w) op1 (by decide +kernel) (by kernel_rfl) (by decide +kernel) (by kernel_rfl) (by decide +kernel) (by kernel_rfl) (by decide +kernel) (by kernel_rfl) (by decide +kernel) (by kernel_rfl) ix' iy' lx4 (by simp [KV.is, m4]) w
    · have hv : goesK 1 x.letter y.letter x.number = (KV.none_, 100) := by simp [goesK, l4, m4, isOf]
      rw [hv]
      exact does_A_B2 x y hx hy hly  op1 (by decide +kernel) (by kernel_rfl) (by decide +kernel) (by kernel_rfl) (by decide +kernel) (by kernel_rfl) (by decide +kernel) (by kernel_rfl) (by decide +kernel) (by kernel_rfl) ix' iy' lx4 (by simp [KV.is, m4]) w
  have lx4 : x.letter.is 4 = false := by simp [KV.is, l4]
  by_cases al : alikeB x.letter y.letter = false
  · have hv : goesK 1 x.letter y.letter x.number = (KV.none_, 100) := by simp [goesK, l4, al]
    rw [hv]
    exact does_A_L0 x y hx hy hly  op1 (by decide +kernel) (by kernel_rfl) (by decide +kernel) (by kernel_rfl) (by decide +kernel) (by kernel_rfl) (by decide +kernel) (by kernel_rfl) (by decide +kernel) (by kernel_rfl) ix' iy' lx4 al w
  have al' : alikeB x.letter y.letter = true := by simpa using al
  obtain ⟨hs, hc⟩ := alike_sort al'

  by_cases h7 : x.letter.sort = 7
  · have hv : goesK 1 x.letter y.letter x.number = (KV.none_, 100) := by simp [goesK, l4, al', h7]
    rw [hv]
    exact does_A_Z2 x y hx hy hly  op1 (by decide +kernel) (by kernel_rfl) (by decide +kernel) (by kernel_rfl) (by decide +kernel) (by kernel_rfl) (by decide +kernel) (by kernel_rfl) (by decide +kernel) (by kernel_rfl) ix' iy' lx4 al' (by simp [KV.is, h7]) (by simp [KV.is, h7]) (by simp [KV.is, h7]) (has_null h7).1 (has_null (hs.trans h7)).2 w
  have lx7 : x.letter.is 7 = false := by simp [KV.is, h7]
  have hxn : x.has = true := has_mid ix' (by omega)
  have hyn : y.letter.has = true := has_letter iy' (by omega)
  by_cases h1 : x.letter.sort = 1
  · have hv : goesK 1 x.letter y.letter x.number = reckK 1 x.number y.letter.number := by simp [goesK, al', h1, isReck, isAsk]
    rw [hv]
    exact does_A_W x y hx hy hly 49 (fun _ _ => rfl) (reckK 1 x.number y.letter.number) (fun w => wh3_any _ _ w) op1 (by decide +kernel) (by kernel_rfl) (by decide +kernel) (by kernel_rfl) (by decide +kernel) (by kernel_rfl) (by decide +kernel) (by kernel_rfl) (by decide +kernel) (by kernel_rfl) ix' iy' lx4 al' lx7 (by simp [KV.is, h1]) (by simp [KV.is, h1]) hxn hyn w
  have lx1 : x.letter.is 1 = false := by simp [KV.is, h1]
  by_cases h3 : x.letter.sort = 3
  · have hv : goesK 1 x.letter y.letter x.number = (KV.none_, 100) := by simp [goesK, al', h3, isAsk]
    rw [hv]
    exact does_A_T x y hx hy hly  op1 (by decide +kernel) (by kernel_rfl) (by decide +kernel) (by kernel_rfl) (by decide +kernel) (by kernel_rfl) (by decide +kernel) (by kernel_rfl) (by decide +kernel) (by kernel_rfl) ix' iy' lx4 al' lx7 lx1 (by simp [KV.is, h3]) hxn hyn w
  have hv : goesK 1 x.letter y.letter x.number = (KV.none_, 100) := by simp [goesK, l4, al', h7, h1, h3, isAsk]
  rw [hv]
  exact does_A_O x y hx hy hly  op1 (by decide +kernel) (by kernel_rfl) (by decide +kernel) (by kernel_rfl) (by decide +kernel) (by kernel_rfl) (by decide +kernel) (by kernel_rfl) (by decide +kernel) (by kernel_rfl) ix' iy' lx4 al' lx7 lx1 (by simp [KV.is, h3]) hxn hyn w
theorem does_op2 (x y : KV) (hx : x.ok) (hy : y.ok) (w : World) :
    Calls Try.prog 11 #[.string ⟨#[42]⟩, x.val, y.val] w fun e w' => e = .returned (.tuple #[(doesK 2 x y).1.val, .int .i64 (doesK 2 x y).2]) ∧ Wr [] w w' := by
  have hly := KV.letter_ok hy
  by_cases ix : x.isB = false
  · have hv : doesK 2 x y = (KV.none_, 100) := by simp [doesK, ix]
    rw [hv]
    exact does_A_N1 x y hx hy hly  op2 (by decide +kernel) (by kernel_rfl) (by decide +kernel) (by kernel_rfl) (by decide +kernel) (by kernel_rfl) (by decide +kernel) (by kernel_rfl) (by decide +kernel) (by kernel_rfl) ix w
  have ix' : x.isB = true := by simpa using ix
  by_cases iy : y.isB = false
  · have hv : doesK 2 x y = (KV.none_, 100) := by simp [doesK, iy]
    rw [hv]
    exact does_A_N2 x y hx hy hly  op2 (by decide +kernel) (by kernel_rfl) (by decide +kernel) (by kernel_rfl) (by decide +kernel) (by kernel_rfl) (by decide +kernel) (by kernel_rfl) (by decide +kernel) (by kernel_rfl) ix' iy w
  have iy' : y.isB = true := by simpa using iy
  have hg : doesK 2 x y = goesK 2 x.letter y.letter x.number := by simp [doesK, ix', iy']
  rw [hg]
  clear hg
  by_cases l4 : x.letter.sort = 4
  · have lx4 : x.letter.is 4 = true := by simp [KV.is, l4]
    by_cases m4 : y.letter.sort = 4
    · have hv : goesK 2 x.letter y.letter x.number = (setK 2 (x.letter.num 4) (y.letter.num 4), 0) := by simp [goesK, l4, m4, isOf]
      rw [hv]
      exact does_A_B1 x y hx hy hly 55 (fun _ _ => rfl) (setK 2 (x.letter.num 4) (y.letter.num 4)) (fun w => set3_any _ _ w) op2 (by decide +kernel) (by kernel_rfl) (by decide +kernel) (by kernel_rfl) (by decide +kernel) (by kernel_rfl) (by decide +kernel) (by kernel_rfl) (by decide +kernel) (by kernel_rfl) ix' iy' lx4 (by simp [KV.is, m4]) w
    · have hv : goesK 2 x.letter y.letter x.number = (KV.none_, 100) := by simp [goesK, l4, m4, isOf]
      rw [hv]
      exact does_A_B2 x y hx hy hly  op2 (by decide +kernel) (by kernel_rfl) (by decide +kernel) (by kernel_rfl) (by decide +kernel) (by kernel_rfl) (by decide +kernel) (by kernel_rfl) (by decide +kernel) (by kernel_rfl) ix' iy' lx4 (by simp [KV.is, m4]) w
  have lx4 : x.letter.is 4 = false := by simp [KV.is, l4]
  by_cases al : alikeB x.letter y.letter = false
  · have hv : goesK 2 x.letter y.letter x.number = (KV.none_, 100) := by simp [goesK, l4, al]
    rw [hv]
    exact does_A_L0 x y hx hy hly  op2 (by decide +kernel) (by kernel_rfl) (by decide +kernel) (by kernel_rfl) (by decide +kernel) (by kernel_rfl) (by decide +kernel) (by kernel_rfl) (by decide +kernel) (by kernel_rfl) ix' iy' lx4 al w
  have al' : alikeB x.letter y.letter = true := by simpa using al
  obtain ⟨hs, hc⟩ := alike_sort al'

  by_cases h7 : x.letter.sort = 7
  · have hv : goesK 2 x.letter y.letter x.number = (KV.none_, 100) := by simp [goesK, l4, al', h7]
    rw [hv]
    exact does_A_Z2 x y hx hy hly  op2 (by decide +kernel) (by kernel_rfl) (by decide +kernel) (by kernel_rfl) (by decide +kernel) (by kernel_rfl) (by decide +kernel) (by kernel_rfl) (by decide +kernel) (by kernel_rfl) ix' iy' lx4 al' (by simp [KV.is, h7]) (by simp [KV.is, h7]) (by simp [KV.is, h7]) (has_null h7).1 (has_null (hs.trans h7)).2 w
  have lx7 : x.letter.is 7 = false := by simp [KV.is, h7]
  have hxn : x.has = true := has_mid ix' (by omega)
  have hyn : y.letter.has = true := has_letter iy' (by omega)
  by_cases h1 : x.letter.sort = 1
  · have hv : goesK 2 x.letter y.letter x.number = reckK 2 x.number y.letter.number := by simp [goesK, al', h1, isReck, isAsk]
    rw [hv]
    exact does_A_W x y hx hy hly 50 (fun _ _ => rfl) (reckK 2 x.number y.letter.number) (fun w => wh4_any _ _ w) op2 (by decide +kernel) (by kernel_rfl) (by decide +kernel) (by kernel_rfl) (by decide +kernel) (by kernel_rfl) (by decide +kernel) (by kernel_rfl) (by decide +kernel) (by kernel_rfl) ix' iy' lx4 al' lx7 (by simp [KV.is, h1]) (by simp [KV.is, h1]) hxn hyn w
  have lx1 : x.letter.is 1 = false := by simp [KV.is, h1]
  by_cases h3 : x.letter.sort = 3
  · have hv : goesK 2 x.letter y.letter x.number = (KV.none_, 100) := by simp [goesK, al', h3, isAsk]
    rw [hv]
    exact does_A_T x y hx hy hly  op2 (by decide +kernel) (by kernel_rfl) (by decide +kernel) (by kernel_rfl) (by decide +kernel) (by kernel_rfl) (by decide +kernel) (by kernel_rfl) (by decide +kernel) (by kernel_rfl) ix' iy' lx4 al' lx7 lx1 (by simp [KV.is, h3]) hxn hyn w
  have hv : goesK 2 x.letter y.letter x.number = (KV.none_, 100) := by simp [goesK, l4, al', h7, h1, h3, isAsk]
  rw [hv]
  exact does_A_O x y hx hy hly  op2 (by decide +kernel) (by kernel_rfl) (by decide +kernel) (by kernel_rfl) (by decide +kernel) (by kernel_rfl) (by decide +kernel) (by kernel_rfl) (by decide +kernel) (by kernel_rfl) ix' iy' lx4 al' lx7 lx1 (by simp [KV.is, h3]) hxn hyn w
theorem does_op3 (x y : KV) (hx : x.ok) (hy : y.ok) (w : World) :
    Calls Try.prog 11 #[.string ⟨#[47]⟩, x.val, y.val] w fun e w' => e = .returned (.tuple #[(doesK 3 x y).1.val, .int .i64 (doesK 3 x y).2]) ∧ Wr [] w w' := by
  have hly := KV.letter_ok hy
  by_cases ix : x.isB = false
  · have hv : doesK 3 x y = (KV.none_, 100) := by simp [doesK, ix]
    rw [hv]
    exact does_B_N1 x y hx hy hly  op3 (by decide +kernel) (by kernel_rfl) (by decide +kernel) (by kernel_rfl) (by decide +kernel) (by kernel_rfl) (by decide +kernel) (by kernel_rfl) (by decide +kernel) (by kernel_rfl) ix w
  have ix' : x.isB = true := by simpa using ix
  by_cases iy : y.isB = false
  · have hv : doesK 3 x y = (KV.none_, 100) := by simp [doesK, iy]
    rw [hv]
    exact does_B_N2 x y hx hy hly  op3 (by decide +kernel) (by kernel_rfl) (by decide +kernel) (by kernel_rfl) (by decide +kernel) (by kernel_rfl) (by decide +kernel) (by kernel_rfl) (by decide +kernel) (by kernel_rfl) ix' iy w
  have iy' : y.isB = true := by simpa using iy
  have hg : doesK 3 x y = goesK 3 x.letter y.letter x.number := by simp [doesK, ix', iy']
  rw [hg]
  clear hg
  by_cases l4 : x.letter.sort = 4
  · have lx4 : x.letter.is 4 = true := by simp [KV.is, l4]
    by_cases m4 : y.letter.sort = 4
    · have hv : goesK 3 x.letter y.letter x.number = (setK 3 (x.letter.num 4) (y.letter.num 4), 0) := by simp [goesK, l4, m4, isOf]
      rw [hv]
      exact does_B_B1 x y hx hy hly 56 (fun _ _ => rfl) (setK 3 (x.letter.num 4) (y.letter.num 4)) (fun w => set4_any _ _ w) op3 (by decide +kernel) (by kernel_rfl) (by decide +kernel) (by kernel_rfl) (by decide +kernel) (by kernel_rfl) (by decide +kernel) (by kernel_rfl) (by decide +kernel) (by kernel_rfl) ix' iy' lx4 (by simp [KV.is, m4]) w
    · have hv : goesK 3 x.letter y.letter x.number = (KV.none_, 100) := by simp [goesK, l4, m4, isOf]
      rw [hv]
      exact does_B_B2 x y hx hy hly  op3 (by decide +kernel) (by kernel_rfl) (by decide +kernel) (by kernel_rfl) (by decide +kernel) (by kernel_rfl) (by decide +kernel) (by kernel_rfl) (by decide +kernel) (by kernel_rfl) ix' iy' lx4 (by simp [KV.is, m4]) w
  have lx4 : x.letter.is 4 = false := by simp [KV.is, l4]
  by_cases al : alikeB x.letter y.letter = false
  · have hv : goesK 3 x.letter y.letter x.number = (KV.none_, 100) := by simp [goesK, l4, al]
    rw [hv]
    exact does_B_L0 x y hx hy hly  op3 (by decide +kernel) (by kernel_rfl) (by decide +kernel) (by kernel_rfl) (by decide +kernel) (by kernel_rfl) (by decide +kernel) (by kernel_rfl) (by decide +kernel) (by kernel_rfl) ix' iy' lx4 al w
  have al' : alikeB x.letter y.letter = true := by simpa using al
  obtain ⟨hs, hc⟩ := alike_sort al'

  by_cases h7 : x.letter.sort = 7
  · have hv : goesK 3 x.letter y.letter x.number = (KV.none_, 100) := by simp [goesK, l4, al', h7]
    rw [hv]
    exact does_B_Z2 x y hx hy hly  op3 (by decide +kernel) (by kernel_rfl) (by decide +kernel) (by kernel_rfl) (by decide +kernel) (by kernel_rfl) (by decide +kernel) (by kernel_rfl) (by decide +kernel) (by kernel_rfl) ix' iy' lx4 al' (by simp [KV.is, h7]) (by simp [KV.is, h7]) (by simp [KV.is, h7]) (has_null h7).1 (has_null (hs.trans h7)).2 w
  have lx7 : x.letter.is 7 = false := by simp [KV.is, h7]
  have hxn : x.has = true := has_mid ix' (by omega)
  have hyn : y.letter.has = true := has_letter iy' (by omega)
  by_cases h1 : x.letter.sort = 1
  · have hv : goesK 3 x.letter y.letter x.number = (KV.none_, 100) := by simp [goesK, al', h1, isReck, isAsk]
    rw [hv]
    exact does_B_W x y hx hy hly  op3 (by decide +kernel) (by kernel_rfl) (by decide +kernel) (by kernel_rfl) (by decide +kernel) (by kernel_rfl) (by decide +kernel) (by kernel_rfl) (by decide +kernel) (by kernel_rfl) ix' iy' lx4 al' lx7 (by simp [KV.is, h1]) (by simp [KV.is, h1]) hxn hyn w
  have lx1 : x.letter.is 1 = false := by simp [KV.is, h1]
  by_cases h3 : x.letter.sort = 3
  · have hv : goesK 3 x.letter y.letter x.number = (KV.none_, 100) := by simp [goesK, al', h3, isAsk]
    rw [hv]
    exact does_B_T x y hx hy hly  op3 (by decide +kernel) (by kernel_rfl) (by decide +kernel) (by kernel_rfl) (by decide +kernel) (by kernel_rfl) (by decide +kernel) (by kernel_rfl) (by decide +kernel) (by kernel_rfl) ix' iy' lx4 al' lx7 lx1 (by simp [KV.is, h3]) hxn hyn w
  have hv : goesK 3 x.letter y.letter x.number = (KV.none_, 100) := by simp [goesK, l4, al', h7, h1, h3, isAsk]
  rw [hv]
  exact does_B_O x y hx hy hly  op3 (by decide +kernel) (by kernel_rfl) (by decide +kernel) (by kernel_rfl) (by decide +kernel) (by kernel_rfl) (by decide +kernel) (by kernel_rfl) (by decide +kernel) (by kernel_rfl) ix' iy' lx4 al' lx7 lx1 (by simp [KV.is, h3]) hxn hyn w
theorem does_op4 (x y : KV) (hx : x.ok) (hy : y.ok) (w : World) :
    Calls Try.prog 11 #[.string ⟨#[68, 73, 86]⟩, x.val, y.val] w fun e w' => e = .returned (.tuple #[(doesK 4 x y).1.val, .int .i64 (doesK 4 x y).2]) ∧ Wr [] w w' := by
  have hly := KV.letter_ok hy
  by_cases ix : x.isB = false
  · have hv : doesK 4 x y = (KV.none_, 100) := by simp [doesK, ix]
    rw [hv]
    exact does_C_N1 x y hx hy hly  op4 (by decide +kernel) (by kernel_rfl) (by decide +kernel) (by kernel_rfl) (by decide +kernel) (by kernel_rfl) (by decide +kernel) (by kernel_rfl) (by decide +kernel) (by kernel_rfl) ix w
  have ix' : x.isB = true := by simpa using ix
  by_cases iy : y.isB = false
  · have hv : doesK 4 x y = (KV.none_, 100) := by simp [doesK, iy]
    rw [hv]
    exact does_C_N2 x y hx hy hly  op4 (by decide +kernel) (by kernel_rfl) (by decide +kernel) (by kernel_rfl) (by decide +kernel) (by kernel_rfl) (by decide +kernel) (by kernel_rfl) (by decide +kernel) (by kernel_rfl) ix' iy w
  have iy' : y.isB = true := by simpa using iy
  have hg : doesK 4 x y = goesK 4 x.letter y.letter x.number := by simp [doesK, ix', iy']
  rw [hg]
  clear hg
  by_cases al : alikeB x.letter y.letter = false
  · have hv : goesK 4 x.letter y.letter x.number = (KV.none_, 100) := by simp [goesK, al, isOf]
    rw [hv]
    by_cases l4 : x.letter.sort = 4
    · exact does_C_L1 x y hx hy hly  op4 (by decide +kernel) (by kernel_rfl) (by decide +kernel) (by kernel_rfl) (by decide +kernel) (by kernel_rfl) (by decide +kernel) (by kernel_rfl) (by decide +kernel) (by kernel_rfl) ix' iy' (by simp [KV.is, l4]) al w
    · exact does_C_L0 x y hx hy hly  op4 (by decide +kernel) (by kernel_rfl) (by decide +kernel) (by kernel_rfl) (by decide +kernel) (by kernel_rfl) (by decide +kernel) (by kernel_rfl) (by decide +kernel) (by kernel_rfl) ix' iy' (by simp [KV.is, l4]) al w
  have al' : alikeB x.letter y.letter = true := by simpa using al
  obtain ⟨hs, hc⟩ := alike_sort al'

  have l4 : x.letter.sort ≠ 4 := by omega
  have lx4 : x.letter.is 4 = false := by simp [KV.is, l4]
  by_cases h7 : x.letter.sort = 7
  · have hv : goesK 4 x.letter y.letter x.number = (KV.none_, 100) := by simp [goesK, l4, al', h7]
    rw [hv]
    exact does_C_Z2 x y hx hy hly  op4 (by decide +kernel) (by kernel_rfl) (by decide +kernel) (by kernel_rfl) (by decide +kernel) (by kernel_rfl) (by decide +kernel) (by kernel_rfl) (by decide +kernel) (by kernel_rfl) ix' iy' lx4 al' (by simp [KV.is, h7]) (by simp [KV.is, h7]) (by simp [KV.is, h7]) (has_null h7).1 (has_null (hs.trans h7)).2 w
  have lx7 : x.letter.is 7 = false := by simp [KV.is, h7]
  have hxn : x.has = true := has_mid ix' (by omega)
  have hyn : y.letter.has = true := has_letter iy' (by omega)
  by_cases h1 : x.letter.sort = 1
  · have hv : goesK 4 x.letter y.letter x.number = reckK 4 x.number y.letter.number := by simp [goesK, al', h1, isReck, isAsk]
    rw [hv]
    exact does_C_W x y hx hy hly 47 (fun _ _ => rfl) 1 (reckK 4 x.number y.letter.number) (fun r w h1 h2 => div5_any _ _ _ w h1) op4 (by decide +kernel) (by kernel_rfl) (by decide +kernel) (by kernel_rfl) (by decide +kernel) (by kernel_rfl) (by decide +kernel) (by kernel_rfl) (by decide +kernel) (by kernel_rfl) ix' iy' lx4 al' lx7 (by simp [KV.is, h1]) (by simp [KV.is, h1]) hxn hyn w
  have lx1 : x.letter.is 1 = false := by simp [KV.is, h1]
  by_cases h3 : x.letter.sort = 3
  · have hv : goesK 4 x.letter y.letter x.number = (KV.none_, 100) := by simp [goesK, al', h3, isAsk]
    rw [hv]
    exact does_C_T x y hx hy hly  op4 (by decide +kernel) (by kernel_rfl) (by decide +kernel) (by kernel_rfl) (by decide +kernel) (by kernel_rfl) (by decide +kernel) (by kernel_rfl) (by decide +kernel) (by kernel_rfl) ix' iy' lx4 al' lx7 lx1 (by simp [KV.is, h3]) hxn hyn w
  have hv : goesK 4 x.letter y.letter x.number = (KV.none_, 100) := by simp [goesK, l4, al', h7, h1, h3, isAsk]
  rw [hv]
  exact does_C_O x y hx hy hly  op4 (by decide +kernel) (by kernel_rfl) (by decide +kernel) (by kernel_rfl) (by decide +kernel) (by kernel_rfl) (by decide +kernel) (by kernel_rfl) (by decide +kernel) (by kernel_rfl) ix' iy' lx4 al' lx7 lx1 (by simp [KV.is, h3]) hxn hyn w
theorem does_op5 (x y : KV) (hx : x.ok) (hy : y.ok) (w : World) :
    Calls Try.prog 11 #[.string ⟨#[77, 79, 68]⟩, x.val, y.val] w fun e w' => e = .returned (.tuple #[(doesK 5 x y).1.val, .int .i64 (doesK 5 x y).2]) ∧ Wr [] w w' := by
  have hly := KV.letter_ok hy
  by_cases ix : x.isB = false
  · have hv : doesK 5 x y = (KV.none_, 100) := by simp [doesK, ix]
    rw [hv]
    exact does_C_N1 x y hx hy hly  op5 (by decide +kernel) (by kernel_rfl) (by decide +kernel) (by kernel_rfl) (by decide +kernel) (by kernel_rfl) (by decide +kernel) (by kernel_rfl) (by decide +kernel) (by kernel_rfl) ix w
  have ix' : x.isB = true := by simpa using ix
  by_cases iy : y.isB = false
  · have hv : doesK 5 x y = (KV.none_, 100) := by simp [doesK, iy]
    rw [hv]
    exact does_C_N2 x y hx hy hly  op5 (by decide +kernel) (by kernel_rfl) (by decide +kernel) (by kernel_rfl) (by decide +kernel) (by kernel_rfl) (by decide +kernel) (by kernel_rfl) (by decide +kernel) (by kernel_rfl) ix' iy w
  have iy' : y.isB = true := by simpa using iy
  have hg : doesK 5 x y = goesK 5 x.letter y.letter x.number := by simp [doesK, ix', iy']
  rw [hg]
  clear hg
  by_cases al : alikeB x.letter y.letter = false
  · have hv : goesK 5 x.letter y.letter x.number = (KV.none_, 100) := by simp [goesK, al, isOf]
    rw [hv]
    by_cases l4 : x.letter.sort = 4
    · exact does_C_L1 x y hx hy hly  op5 (by decide +kernel) (by kernel_rfl) (by decide +kernel) (by kernel_rfl) (by decide +kernel) (by kernel_rfl) (by decide +kernel) (by kernel_rfl) (by decide +kernel) (by kernel_rfl) ix' iy' (by simp [KV.is, l4]) al w
    · exact does_C_L0 x y hx hy hly  op5 (by decide +kernel) (by kernel_rfl) (by decide +kernel) (by kernel_rfl) (by decide +kernel) (by kernel_rfl) (by decide +kernel) (by kernel_rfl) (by decide +kernel) (by kernel_rfl) ix' iy' (by simp [KV.is, l4]) al w
  have al' : alikeB x.letter y.letter = true := by simpa using al
  obtain ⟨hs, hc⟩ := alike_sort al'

  have l4 : x.letter.sort ≠ 4 := by omega
  have lx4 : x.letter.is 4 = false := by simp [KV.is, l4]
  by_cases h7 : x.letter.sort = 7
  · have hv : goesK 5 x.letter y.letter x.number = (KV.none_, 100) := by simp [goesK, l4, al', h7]
    rw [hv]
    exact does_C_Z2 x y hx hy hly  op5 (by decide +kernel) (by kernel_rfl) (by decide +kernel) (by kernel_rfl) (by decide +kernel) (by kernel_rfl) (by decide +kernel) (by kernel_rfl) (by decide +kernel) (by kernel_rfl) ix' iy' lx4 al' (by simp [KV.is, h7]) (by simp [KV.is, h7]) (by simp [KV.is, h7]) (has_null h7).1 (has_null (hs.trans h7)).2 w
  have lx7 : x.letter.is 7 = false := by simp [KV.is, h7]
  have hxn : x.has = true := has_mid ix' (by omega)
  have hyn : y.letter.has = true := has_letter iy' (by omega)
  by_cases h1 : x.letter.sort = 1
  · have hv : goesK 5 x.letter y.letter x.number = reckK 5 x.number y.letter.number := by simp [goesK, al', h1, isReck, isAsk]
    rw [hv]
    exact does_C_W x y hx hy hly 47 (fun _ _ => rfl) 2 (reckK 5 x.number y.letter.number) (fun r w h1 h2 => div6_any _ _ _ w h2) op5 (by decide +kernel) (by kernel_rfl) (by decide +kernel) (by kernel_rfl) (by decide +kernel) (by kernel_rfl) (by decide +kernel) (by kernel_rfl) (by decide +kernel) (by kernel_rfl) ix' iy' lx4 al' lx7 (by simp [KV.is, h1]) (by simp [KV.is, h1]) hxn hyn w
  have lx1 : x.letter.is 1 = false := by simp [KV.is, h1]
  by_cases h3 : x.letter.sort = 3
  · have hv : goesK 5 x.letter y.letter x.number = (KV.none_, 100) := by simp [goesK, al', h3, isAsk]
    rw [hv]
    exact does_C_T x y hx hy hly  op5 (by decide +kernel) (by kernel_rfl) (by decide +kernel) (by kernel_rfl) (by decide +kernel) (by kernel_rfl) (by decide +kernel) (by kernel_rfl) (by decide +kernel) (by kernel_rfl) ix' iy' lx4 al' lx7 lx1 (by simp [KV.is, h3]) hxn hyn w
  have hv : goesK 5 x.letter y.letter x.number = (KV.none_, 100) := by simp [goesK, l4, al', h7, h1, h3, isAsk]
  rw [hv]
  exact does_C_O x y hx hy hly  op5 (by decide +kernel) (by kernel_rfl) (by decide +kernel) (by kernel_rfl) (by decide +kernel) (by kernel_rfl) (by decide +kernel) (by kernel_rfl) (by decide +kernel) (by kernel_rfl) ix' iy' lx4 al' lx7 lx1 (by simp [KV.is, h3]) hxn hyn w
theorem does_op6 (x y : KV) (hx : x.ok) (hy : y.ok) (w : World) :
    Calls Try.prog 11 #[.string ⟨#[65, 78, 68]⟩, x.val, y.val] w fun e w' => e = .returned (.tuple #[(doesK 6 x y).1.val, .int .i64 (doesK 6 x y).2]) ∧ Wr [] w w' := by
  have hly := KV.letter_ok hy
  by_cases ix : x.isB = false
  · have hv : doesK 6 x y = (KV.none_, 100) := by simp [doesK, ix]
    rw [hv]
    exact does_D_N1 x y hx hy hly  op6 (by kernel_rfl) ix w
  have ix' : x.isB = true := by simpa using ix
  by_cases iy : y.isB = false
  · have hv : doesK 6 x y = (KV.none_, 100) := by simp [doesK, iy]
    rw [hv]
    exact does_D_N2 x y hx hy hly  op6 (by kernel_rfl) ix' iy w
  have iy' : y.isB = true := by simpa using iy
  have hg : doesK 6 x y = goesK 6 x.letter y.letter x.number := by simp [doesK, ix', iy']
  rw [hg]
  clear hg
  by_cases al : alikeB x.letter y.letter = false
  · have hv : goesK 6 x.letter y.letter x.number = (KV.none_, 100) := by simp [goesK, al, isOf]
    rw [hv]
    by_cases l4 : x.letter.sort = 4
    · exact does_D_L1 x y hx hy hly  op6 (by kernel_rfl) ix' iy' (by simp [KV.is, l4]) al w
    · exact does_D_L0 x y hx hy hly  op6 (by kernel_rfl) ix' iy' (by simp [KV.is, l4]) al w
  have al' : alikeB x.letter y.letter = true := by simpa using al
  obtain ⟨hs, hc⟩ := alike_sort al'

  have l4 : x.letter.sort ≠ 4 := by omega
  have lx4 : x.letter.is 4 = false := by simp [KV.is, l4]
  by_cases h7 : x.letter.sort = 7
  · have hv : goesK 6 x.letter y.letter x.number = (KV.none_, 100) := by simp [goesK, l4, al', h7]
    rw [hv]
    exact does_D_Z2 x y hx hy hly  op6 (by kernel_rfl) ix' iy' lx4 al' (by simp [KV.is, h7]) (by simp [KV.is, h7]) (by simp [KV.is, h7]) (has_null h7).1 (has_null (hs.trans h7)).2 w
  have lx7 : x.letter.is 7 = false := by simp [KV.is, h7]
  have hxn : x.has = true := has_mid ix' (by omega)
  have hyn : y.letter.has = true := has_letter iy' (by omega)
  by_cases h1 : x.letter.sort = 1
  · have hv : goesK 6 x.letter y.letter x.number = (KV.none_, 100) := by simp [goesK, al', h1, isReck, isAsk]
    rw [hv]
    exact does_D_W x y hx hy hly  op6 (by kernel_rfl) ix' iy' lx4 al' lx7 (by simp [KV.is, h1]) (by simp [KV.is, h1]) hxn hyn w
  have lx1 : x.letter.is 1 = false := by simp [KV.is, h1]
  by_cases h3 : x.letter.sort = 3
  · have hv : goesK 6 x.letter y.letter x.number = (KV.truth (wrap64 (x.number + y.letter.number) == 2), 0) := by simp [goesK, al', h3]
    rw [hv]
    by_cases g : wrap64 (x.number + y.letter.number) = 2
    · have hq : (wrap64 (x.number + y.letter.number) == 2) = true := by simp [g]
      rw [hq]
      exact does_D_T1 x y hx hy hly  op6 (by kernel_rfl) ix' iy' lx4 al' lx7 lx1 (by simp [KV.is, h3]) hxn hyn g hq w
    · have hq : (wrap64 (x.number + y.letter.number) == 2) = false := by simp [g]
      rw [hq]
      exact does_D_T0 x y hx hy hly  op6 (by kernel_rfl) ix' iy' lx4 al' lx7 lx1 (by simp [KV.is, h3]) hxn hyn g hq w
  have hv : goesK 6 x.letter y.letter x.number = (KV.none_, 100) := by simp [goesK, l4, al', h7, h1, h3, isAsk]
  rw [hv]
  exact does_D_O x y hx hy hly  op6 (by kernel_rfl) ix' iy' lx4 al' lx7 lx1 (by simp [KV.is, h3]) hxn hyn w
theorem does_op7 (x y : KV) (hx : x.ok) (hy : y.ok) (w : World) :
    Calls Try.prog 11 #[.string ⟨#[79, 82]⟩, x.val, y.val] w fun e w' => e = .returned (.tuple #[(doesK 7 x y).1.val, .int .i64 (doesK 7 x y).2]) ∧ Wr [] w w' := by
  have hly := KV.letter_ok hy
  by_cases ix : x.isB = false
  · have hv : doesK 7 x y = (KV.none_, 100) := by simp [doesK, ix]
    rw [hv]
    exact does_E_N1 x y hx hy hly  op7 (by kernel_rfl) ix w
  have ix' : x.isB = true := by simpa using ix
  by_cases iy : y.isB = false
  · have hv : doesK 7 x y = (KV.none_, 100) := by simp [doesK, iy]
    rw [hv]
    exact does_E_N2 x y hx hy hly  op7 (by kernel_rfl) ix' iy w
  have iy' : y.isB = true := by simpa using iy
  have hg : doesK 7 x y = goesK 7 x.letter y.letter x.number := by simp [doesK, ix', iy']
  rw [hg]
  clear hg
  by_cases al : alikeB x.letter y.letter = false
  · have hv : goesK 7 x.letter y.letter x.number = (KV.none_, 100) := by simp [goesK, al, isOf]
    rw [hv]
    by_cases l4 : x.letter.sort = 4
    · exact does_E_L1 x y hx hy hly  op7 (by kernel_rfl) ix' iy' (by simp [KV.is, l4]) al w
    · exact does_E_L0 x y hx hy hly  op7 (by kernel_rfl) ix' iy' (by simp [KV.is, l4]) al w
  have al' : alikeB x.letter y.letter = true := by simpa using al
  obtain ⟨hs, hc⟩ := alike_sort al'

  have l4 : x.letter.sort ≠ 4 := by omega
  have lx4 : x.letter.is 4 = false := by simp [KV.is, l4]
  by_cases h7 : x.letter.sort = 7
  · have hv : goesK 7 x.letter y.letter x.number = (KV.none_, 100) := by simp [goesK, l4, al', h7]
    rw [hv]
    exact does_E_Z2 x y hx hy hly  op7 (by kernel_rfl) ix' iy' lx4 al' (by simp [KV.is, h7]) (by simp [KV.is, h7]) (by simp [KV.is, h7]) (has_null h7).1 (has_null (hs.trans h7)).2 w
  have lx7 : x.letter.is 7 = false := by simp [KV.is, h7]
  have hxn : x.has = true := has_mid ix' (by omega)
  have hyn : y.letter.has = true := has_letter iy' (by omega)
  by_cases h1 : x.letter.sort = 1
  · have hv : goesK 7 x.letter y.letter x.number = (KV.none_, 100) := by simp [goesK, al', h1, isReck, isAsk]
    rw [hv]
    exact does_E_W x y hx hy hly  op7 (by kernel_rfl) ix' iy' lx4 al' lx7 (by simp [KV.is, h1]) (by simp [KV.is, h1]) hxn hyn w
  have lx1 : x.letter.is 1 = false := by simp [KV.is, h1]
  by_cases h3 : x.letter.sort = 3
  · have hv : goesK 7 x.letter y.letter x.number = (KV.truth (decide (wrap64 (x.number + y.letter.number) > 0)), 0) := by simp [goesK, al', h3, isAsk]
    rw [hv]
    exact does_E_T x y hx hy hly  op7 (by kernel_rfl) ix' iy' lx4 al' lx7 lx1 (by simp [KV.is, h3]) hxn hyn w
  have hv : goesK 7 x.letter y.letter x.number = (KV.none_, 100) := by simp [goesK, l4, al', h7, h1, h3, isAsk]
  rw [hv]
  exact does_E_O x y hx hy hly  op7 (by kernel_rfl) ix' iy' lx4 al' lx7 lx1 (by simp [KV.is, h3]) hxn hyn w
theorem does_op8 (x y : KV) (hx : x.ok) (hy : y.ok) (w : World) :
    Calls Try.prog 11 #[.string ⟨#[61]⟩, x.val, y.val] w fun e w' => e = .returned (.tuple #[(doesK 8 x y).1.val, .int .i64 (doesK 8 x y).2]) ∧ Wr [] w w' := by
  have hly := KV.letter_ok hy
  by_cases ix : x.isB = false
  · have hv : doesK 8 x y = (KV.none_, 100) := by simp [doesK, ix]
    rw [hv]
    exact does_F_N1 x y hx hy hly  op8 (by kernel_rfl) ix w
  have ix' : x.isB = true := by simpa using ix
  by_cases iy : y.isB = false
  · have hv : doesK 8 x y = (KV.none_, 100) := by simp [doesK, iy]
    rw [hv]
    exact does_F_N2 x y hx hy hly  op8 (by kernel_rfl) ix' iy w
  have iy' : y.isB = true := by simpa using iy
  have hg : doesK 8 x y = goesK 8 x.letter y.letter x.number := by simp [doesK, ix', iy']
  rw [hg]
  clear hg
  by_cases l4 : x.letter.sort = 4
  · have lx4 : x.letter.is 4 = true := by simp [KV.is, l4]
    by_cases m4 : y.letter.sort = 4
    · have hv : goesK 8 x.letter y.letter x.number = (setK 8 (x.letter.num 4) (y.letter.num 4), 0) := by simp [goesK, l4, m4, isOf]
      rw [hv]
      exact does_F_B1 x y hx hy hly 59 (fun _ _ => rfl) (setK 8 (x.letter.num 4) (y.letter.num 4)) (fun w => set7_any _ _ w) op8 (by kernel_rfl) ix' iy' lx4 (by simp [KV.is, m4]) w
    · have hv : goesK 8 x.letter y.letter x.number = (KV.none_, 100) := by simp [goesK, l4, m4, isOf]
      rw [hv]
      exact does_F_B2 x y hx hy hly  op8 (by kernel_rfl) ix' iy' lx4 (by simp [KV.is, m4]) w
  have lx4 : x.letter.is 4 = false := by simp [KV.is, l4]
  by_cases al : alikeB x.letter y.letter = false
  · have hv : goesK 8 x.letter y.letter x.number = (KV.none_, 100) := by simp [goesK, l4, al]
    rw [hv]
    exact does_F_L0 x y hx hy hly  op8 (by kernel_rfl) ix' iy' lx4 al w
  have al' : alikeB x.letter y.letter = true := by simpa using al
  obtain ⟨hs, hc⟩ := alike_sort al'

  by_cases h7 : x.letter.sort = 7
  · have hv : goesK 8 x.letter y.letter x.number = (KV.truth true, 0) := by simp [goesK, l4, al', h7]
    rw [hv]
    exact does_F_Z1 x y hx hy hly  op8 (by kernel_rfl) ix' iy' lx4 al' (by simp [KV.is, h7]) (by simp [KV.is, h7]) (by simp [KV.is, h7]) (has_null h7).1 (has_null (hs.trans h7)).2 w
  have lx7 : x.letter.is 7 = false := by simp [KV.is, h7]
  have hxn : x.has = true := has_mid ix' (by omega)
  have hyn : y.letter.has = true := has_letter iy' (by omega)
  by_cases h1 : x.letter.sort = 1
  · have hv : goesK 8 x.letter y.letter x.number = (KV.truth (askQ 8 x.number y.letter.number), 0) := by simp [goesK, al', h1, isReck, isAsk]
    rw [hv]
    exact does_F_W x y hx hy hly 40 (fun _ _ => rfl) (askQ 8 x.number y.letter.number) (fun w => ask1_any _ _ w) op8 (by kernel_rfl) ix' iy' lx4 al' lx7 (by simp [KV.is, h1]) (by simp [KV.is, h1]) hxn hyn w
  have lx1 : x.letter.is 1 = false := by simp [KV.is, h1]
  by_cases h3 : x.letter.sort = 3
  · have hv : goesK 8 x.letter y.letter x.number = (KV.truth (askQ 8 x.number y.letter.number), 0) := by simp [goesK, al', h3, isAsk]
    rw [hv]
    exact does_F_T x y hx hy hly 40 (fun _ _ => rfl) (askQ 8 x.number y.letter.number) (fun w => ask1_any _ _ w) op8 (by kernel_rfl) ix' iy' lx4 al' lx7 lx1 (by simp [KV.is, h3]) hxn hyn w
  have hv : goesK 8 x.letter y.letter x.number = (KV.truth (askQ 8 x.number y.letter.number), 0) := by simp [goesK, l4, al', h7, h1, h3, isAsk]
  rw [hv]
  exact does_F_O x y hx hy hly 40 (fun _ _ => rfl) (askQ 8 x.number y.letter.number) (fun w => ask1_any _ _ w) op8 (by kernel_rfl) ix' iy' lx4 al' lx7 lx1 (by simp [KV.is, h3]) hxn hyn w
theorem does_op9 (x y : KV) (hx : x.ok) (hy : y.ok) (w : World) :
    Calls Try.prog 11 #[.string ⟨#[35]⟩, x.val, y.val] w fun e w' => e = .returned (.tuple #[(doesK 9 x y).1.val, .int .i64 (doesK 9 x y).2]) ∧ Wr [] w w' := by
  have hly := KV.letter_ok hy
  by_cases ix : x.isB = false
  · have hv : doesK 9 x y = (KV.none_, 100) := by simp [doesK, ix]
    rw [hv]
    exact does_G_N1 x y hx hy hly  op9 (by kernel_rfl) ix w
  have ix' : x.isB = true := by simpa using ix
  by_cases iy : y.isB = false
  · have hv : doesK 9 x y = (KV.none_, 100) := by simp [doesK, iy]
    rw [hv]
    exact does_G_N2 x y hx hy hly  op9 (by kernel_rfl) ix' iy w
  have iy' : y.isB = true := by simpa using iy
  have hg : doesK 9 x y = goesK 9 x.letter y.letter x.number := by simp [doesK, ix', iy']
  rw [hg]
  clear hg
  by_cases l4 : x.letter.sort = 4
  · have lx4 : x.letter.is 4 = true := by simp [KV.is, l4]
    by_cases m4 : y.letter.sort = 4
    · have hv : goesK 9 x.letter y.letter x.number = (setK 9 (x.letter.num 4) (y.letter.num 4), 0) := by simp [goesK, l4, m4, isOf]
      rw [hv]
      exact does_G_B1 x y hx hy hly 60 (fun _ _ => rfl) (setK 9 (x.letter.num 4) (y.letter.num 4)) (fun w => set8_any _ _ w) op9 (by kernel_rfl) ix' iy' lx4 (by simp [KV.is, m4]) w
    · have hv : goesK 9 x.letter y.letter x.number = (KV.none_, 100) := by simp [goesK, l4, m4, isOf]
      rw [hv]
      exact does_G_B2 x y hx hy hly  op9 (by kernel_rfl) ix' iy' lx4 (by simp [KV.is, m4]) w
  have lx4 : x.letter.is 4 = false := by simp [KV.is, l4]
  by_cases al : alikeB x.letter y.letter = false
  · have hv : goesK 9 x.letter y.letter x.number = (KV.none_, 100) := by simp [goesK, l4, al]
    rw [hv]
    exact does_G_L0 x y hx hy hly  op9 (by kernel_rfl) ix' iy' lx4 al w
  have al' : alikeB x.letter y.letter = true := by simpa using al
  obtain ⟨hs, hc⟩ := alike_sort al'

  by_cases h7 : x.letter.sort = 7
  · have hv : goesK 9 x.letter y.letter x.number = (KV.truth false, 0) := by simp [goesK, l4, al', h7]
    rw [hv]
    exact does_G_Z1 x y hx hy hly  op9 (by kernel_rfl) ix' iy' lx4 al' (by simp [KV.is, h7]) (by simp [KV.is, h7]) (by simp [KV.is, h7]) (has_null h7).1 (has_null (hs.trans h7)).2 w
  have lx7 : x.letter.is 7 = false := by simp [KV.is, h7]
  have hxn : x.has = true := has_mid ix' (by omega)
  have hyn : y.letter.has = true := has_letter iy' (by omega)
  by_cases h1 : x.letter.sort = 1
  · have hv : goesK 9 x.letter y.letter x.number = (KV.truth (askQ 9 x.number y.letter.number), 0) := by simp [goesK, al', h1, isReck, isAsk]
    rw [hv]
    exact does_G_W x y hx hy hly 41 (fun _ _ => rfl) (askQ 9 x.number y.letter.number) (fun w => ask2_any _ _ w) op9 (by kernel_rfl) ix' iy' lx4 al' lx7 (by simp [KV.is, h1]) (by simp [KV.is, h1]) hxn hyn w
  have lx1 : x.letter.is 1 = false := by simp [KV.is, h1]
  by_cases h3 : x.letter.sort = 3
  · have hv : goesK 9 x.letter y.letter x.number = (KV.truth (askQ 9 x.number y.letter.number), 0) := by simp [goesK, al', h3, isAsk]
    rw [hv]
    exact does_G_T x y hx hy hly 41 (fun _ _ => rfl) (askQ 9 x.number y.letter.number) (fun w => ask2_any _ _ w) op9 (by kernel_rfl) ix' iy' lx4 al' lx7 lx1 (by simp [KV.is, h3]) hxn hyn w
  have hv : goesK 9 x.letter y.letter x.number = (KV.truth (askQ 9 x.number y.letter.number), 0) := by simp [goesK, l4, al', h7, h1, h3, isAsk]
  rw [hv]
  exact does_G_O x y hx hy hly 41 (fun _ _ => rfl) (askQ 9 x.number y.letter.number) (fun w => ask2_any _ _ w) op9 (by kernel_rfl) ix' iy' lx4 al' lx7 lx1 (by simp [KV.is, h3]) hxn hyn w
theorem does_op10 (x y : KV) (hx : x.ok) (hy : y.ok) (w : World) :
    Calls Try.prog 11 #[.string ⟨#[60]⟩, x.val, y.val] w fun e w' => e = .returned (.tuple #[(doesK 10 x y).1.val, .int .i64 (doesK 10 x y).2]) ∧ Wr [] w w' := by
  have hly := KV.letter_ok hy
  by_cases ix : x.isB = false
  · have hv : doesK 10 x y = (KV.none_, 100) := by simp [doesK, ix]
    rw [hv]
    exact does_I_N1 x y hx hy hly  op10 (by decide +kernel) (by kernel_rfl) (by decide +kernel) (by kernel_rfl) (by decide +kernel) (by kernel_rfl) (by decide +kernel) (by kernel_rfl) (by decide +kernel) (by kernel_rfl) ix w
  have ix' : x.isB = true := by simpa using ix
  by_cases iy : y.isB = false
  · have hv : doesK 10 x y = (KV.none_, 100) := by simp [doesK, iy]
    rw [hv]
    exact does_I_N2 x y hx hy hly  op10 (by decide +kernel) (by kernel_rfl) (by decide +kernel) (by kernel_rfl) (by decide +kernel) (by kernel_rfl) (by decide +kernel) (by kernel_rfl) (by decide +kernel) (by kernel_rfl) ix' iy w
  have iy' : y.isB = true := by simpa using iy
  have hg : doesK 10 x y = goesK 10 x.letter y.letter x.number := by simp [doesK, ix', iy']
  rw [hg]
  clear hg
  by_cases al : alikeB x.letter y.letter = false
  · have hv : goesK 10 x.letter y.letter x.number = (KV.none_, 100) := by simp [goesK, al, isOf]
    rw [hv]
    by_cases l4 : x.letter.sort = 4
    · exact does_I_L1 x y hx hy hly  op10 (by decide +kernel) (by kernel_rfl) (by decide +kernel) (by kernel_rfl) (by decide +kernel) (by kernel_rfl) (by decide +kernel) (by kernel_rfl) (by decide +kernel) (by kernel_rfl) ix' iy' (by simp [KV.is, l4]) al w
    · exact does_I_L0 x y hx hy hly  op10 (by decide +kernel) (by kernel_rfl) (by decide +kernel) (by kernel_rfl) (by decide +kernel) (by kernel_rfl) (by decide +kernel) (by kernel_rfl) (by decide +kernel) (by kernel_rfl) ix' iy' (by simp [KV.is, l4]) al w
  have al' : alikeB x.letter y.letter = true := by simpa using al
  obtain ⟨hs, hc⟩ := alike_sort al'

  have l4 : x.letter.sort ≠ 4 := by omega
  have lx4 : x.letter.is 4 = false := by simp [KV.is, l4]
  by_cases h7 : x.letter.sort = 7
  · have hv : goesK 10 x.letter y.letter x.number = (KV.none_, 100) := by simp [goesK, l4, al', h7]
    rw [hv]
    exact does_I_Z2 x y hx hy hly  op10 (by decide +kernel) (by kernel_rfl) (by decide +kernel) (by kernel_rfl) (by decide +kernel) (by kernel_rfl) (by decide +kernel) (by kernel_rfl) (by decide +kernel) (by kernel_rfl) ix' iy' lx4 al' (by simp [KV.is, h7]) (by simp [KV.is, h7]) (by simp [KV.is, h7]) (has_null h7).1 (has_null (hs.trans h7)).2 w
  have lx7 : x.letter.is 7 = false := by simp [KV.is, h7]
  have hxn : x.has = true := has_mid ix' (by omega)
  have hyn : y.letter.has = true := has_letter iy' (by omega)
  by_cases h1 : x.letter.sort = 1
  · have hv : goesK 10 x.letter y.letter x.number = (KV.truth (askQ 10 x.number y.letter.number), 0) := by simp [goesK, al', h1, isReck, isAsk]
    rw [hv]
    exact does_I_W x y hx hy hly 42 (fun _ _ => rfl) (askQ 10 x.number y.letter.number) (fun w => ask3_any _ _ w) op10 (by decide +kernel) (by kernel_rfl) (by decide +kernel) (by kernel_rfl) (by decide +kernel) (by kernel_rfl) (by decide +kernel) (by kernel_rfl) (by decide +kernel) (by kernel_rfl) ix' iy' lx4 al' lx7 (by simp [KV.is, h1]) (by simp [KV.is, h1]) hxn hyn w
  have lx1 : x.letter.is 1 = false := by simp [KV.is, h1]
  by_cases h3 : x.letter.sort = 3
  · have hv : goesK 10 x.letter y.letter x.number = (KV.truth (askQ 10 x.number y.letter.number), 0) := by simp [goesK, al', h3, isAsk]
    rw [hv]
    exact does_I_T x y hx hy hly 42 (fun _ _ => rfl) (askQ 10 x.number y.letter.number) (fun w => ask3_any _ _ w) op10 (by decide +kernel) (by kernel_rfl) (by decide +kernel) (by kernel_rfl) (by decide +kernel) (by kernel_rfl) (by decide +kernel) (by kernel_rfl) (by decide +kernel) (by kernel_rfl) ix' iy' lx4 al' lx7 lx1 (by simp [KV.is, h3]) hxn hyn w
  have hv : goesK 10 x.letter y.letter x.number = (KV.truth (askQ 10 x.number y.letter.number), 0) := by simp [goesK, l4, al', h7, h1, h3, isAsk]
  rw [hv]
  exact does_I_O x y hx hy hly 42 (fun _ _ => rfl) (askQ 10 x.number y.letter.number) (fun w => ask3_any _ _ w) op10 (by decide +kernel) (by kernel_rfl) (by decide +kernel) (by kernel_rfl) (by decide +kernel) (by kernel_rfl) (by decide +kernel) (by kernel_rfl) (by decide +kernel) (by kernel_rfl) ix' iy' lx4 al' lx7 lx1 (by simp [KV.is, h3]) hxn hyn w
theorem does_op11 (x y : KV) (hx : x.ok) (hy : y.ok) (w : World) :
    Calls Try.prog 11 #[.string ⟨#[60, 61]⟩, x.val, y.val] w fun e w' => e = .returned (.tuple #[(doesK 11 x y).1.val, .int .i64 (doesK 11 x y).2]) ∧ Wr [] w w' := by
  have hly := KV.letter_ok hy
  by_cases ix : x.isB = false
  · have hv : doesK 11 x y = (KV.none_, 100) := by simp [doesK, ix]
    rw [hv]
    exact does_H_N1 x y hx hy hly  op11 (by decide +kernel) (by kernel_rfl) (by decide +kernel) (by kernel_rfl) (by decide +kernel) (by kernel_rfl) (by decide +kernel) (by kernel_rfl) (by decide +kernel) (by kernel_rfl) ix w
  have ix' : x.isB = true := by simpa using ix
  by_cases iy : y.isB = false
  · have hv : doesK 11 x y = (KV.none_, 100) := by simp [doesK, iy]
    rw [hv]
    exact does_H_N2 x y hx hy hly  op11 (by decide +kernel) (by kernel_rfl) (by decide +kernel) (by kernel_rfl) (by decide +kernel) (by kernel_rfl) (by decide +kernel) (by kernel_rfl) (by decide +kernel) (by kernel_rfl) ix' iy w
  have iy' : y.isB = true := by simpa using iy
  have hg : doesK 11 x y = goesK 11 x.letter y.letter x.number := by simp [doesK, ix', iy']
  rw [hg]
  clear hg
  by_cases l4 : x.letter.sort = 4
  · have lx4 : x.letter.is 4 = true := by simp [KV.is, l4]
    by_cases m4 : y.letter.sort = 4
    · have hv : goesK 11 x.letter y.letter x.number = (setK 11 (x.letter.num 4) (y.letter.num 4), 0) := by simp [goesK, l4, m4, isOf]
      rw [hv]
      exact does_H_B1 x y hx hy hly 57 (fun _ _ => rfl) (setK 11 (x.letter.num 4) (y.letter.num 4)) (fun w => set5_any _ _ w) op11 (by decide +kernel) (by kernel_rfl) (by decide +kernel) (by kernel_rfl) (by decide +kernel) (by kernel_rfl) (by decide +kernel) (by kernel_rfl) (by decide +kernel) (by kernel_rfl) ix' iy' lx4 (by simp [KV.is, m4]) w
    · have hv : goesK 11 x.letter y.letter x.number = (KV.none_, 100) := by simp [goesK, l4, m4, isOf]
      rw [hv]
      exact does_H_B2 x y hx hy hly  op11 (by decide +kernel) (by kernel_rfl) (by decide +kernel) (by kernel_rfl) (by decide +kernel) (by kernel_rfl) (by decide +kernel) (by kernel_rfl) (by decide +kernel) (by kernel_rfl) ix' iy' lx4 (by simp [KV.is, m4]) w
  have lx4 : x.letter.is 4 = false := by simp [KV.is, l4]
  by_cases al : alikeB x.letter y.letter = false
  · have hv : goesK 11 x.letter y.letter x.number = (KV.none_, 100) := by simp [goesK, l4, al]
    rw [hv]
    exact does_H_L0 x y hx hy hly  op11 (by decide +kernel) (by kernel_rfl) (by decide +kernel) (by kernel_rfl) (by decide +kernel) (by kernel_rfl) (by decide +kernel) (by kernel_rfl) (by decide +kernel) (by kernel_rfl) ix' iy' lx4 al w
  have al' : alikeB x.letter y.letter = true := by simpa using al
  obtain ⟨hs, hc⟩ := alike_sort al'

  by_cases h7 : x.letter.sort = 7
  · have hv : goesK 11 x.letter y.letter x.number = (KV.none_, 100) := by simp [goesK, l4, al', h7]
    rw [hv]
    exact does_H_Z2 x y hx hy hly  op11 (by decide +kernel) (by kernel_rfl) (by decide +kernel) (by kernel_rfl) (by decide +kernel) (by kernel_rfl) (by decide +kernel) (by kernel_rfl) (by decide +kernel) (by kernel_rfl) ix' iy' lx4 al' (by simp [KV.is, h7]) (by simp [KV.is, h7]) (by simp [KV.is, h7]) (has_null h7).1 (has_null (hs.trans h7)).2 w
  have lx7 : x.letter.is 7 = false := by simp [KV.is, h7]
  have hxn : x.has = true := has_mid ix' (by omega)
  have hyn : y.letter.has = true := has_letter iy' (by omega)
  by_cases h1 : x.letter.sort = 1
  · have hv : goesK 11 x.letter y.letter x.number = (KV.truth (askQ 11 x.number y.letter.number), 0) := by simp [goesK, al', h1, isReck, isAsk]
    rw [hv]
    exact does_H_W x y hx hy hly 43 (fun _ _ => rfl) (askQ 11 x.number y.letter.number) (fun w => ask4_any _ _ w) op11 (by decide +kernel) (by kernel_rfl) (by decide +kernel) (by kernel_rfl) (by decide +kernel) (by kernel_rfl) (by decide +kernel) (by kernel_rfl) (by decide +kernel) (by kernel_rfl) ix' iy' lx4 al' lx7 (by simp [KV.is, h1]) (by simp [KV.is, h1]) hxn hyn w
  have lx1 : x.letter.is 1 = false := by simp [KV.is, h1]
  by_cases h3 : x.letter.sort = 3
  · have hv : goesK 11 x.letter y.letter x.number = (KV.truth (askQ 11 x.number y.letter.number), 0) := by simp [goesK, al', h3, isAsk]
    rw [hv]
    exact does_H_T x y hx hy hly 43 (fun _ _ => rfl) (askQ 11 x.number y.letter.number) (fun w => ask4_any _ _ w) op11 (by decide +kernel) (by kernel_rfl) (by decide +kernel) (by kernel_rfl) (by decide +kernel) (by kernel_rfl) (by decide +kernel) (by kernel_rfl) (by decide +kernel) (by kernel_rfl) ix' iy' lx4 al' lx7 lx1 (by simp [KV.is, h3]) hxn hyn w
  have hv : goesK 11 x.letter y.letter x.number = (KV.truth (askQ 11 x.number y.letter.number), 0) := by simp [goesK, l4, al', h7, h1, h3, isAsk]
  rw [hv]
  exact does_H_O x y hx hy hly 43 (fun _ _ => rfl) (askQ 11 x.number y.letter.number) (fun w => ask4_any _ _ w) op11 (by decide +kernel) (by kernel_rfl) (by decide +kernel) (by kernel_rfl) (by decide +kernel) (by kernel_rfl) (by decide +kernel) (by kernel_rfl) (by decide +kernel) (by kernel_rfl) ix' iy' lx4 al' lx7 lx1 (by simp [KV.is, h3]) hxn hyn w
theorem does_op12 (x y : KV) (hx : x.ok) (hy : y.ok) (w : World) :
    Calls Try.prog 11 #[.string ⟨#[62]⟩, x.val, y.val] w fun e w' => e = .returned (.tuple #[(doesK 12 x y).1.val, .int .i64 (doesK 12 x y).2]) ∧ Wr [] w w' := by
  have hly := KV.letter_ok hy
  by_cases ix : x.isB = false
  · have hv : doesK 12 x y = (KV.none_, 100) := by simp [doesK, ix]
    rw [hv]
    exact does_I_N1 x y hx hy hly  op12 (by decide +kernel) (by kernel_rfl) (by decide +kernel) (by kernel_rfl) (by decide +kernel) (by kernel_rfl) (by decide +kernel) (by kernel_rfl) (by decide +kernel) (by kernel_rfl) ix w
  have ix' : x.isB = true := by simpa using ix
  by_cases iy : y.isB = false
  · have hv : doesK 12 x y = (KV.none_, 100) := by simp [doesK, iy]
    rw [hv]
    exact does_I_N2 x y hx hy hly  op12 (by decide +kernel) (by kernel_rfl) (by decide +kernel) (by kernel_rfl) (by decide +kernel) (by kernel_rfl) (by decide +kernel) (by kernel_rfl) (by decide +kernel) (by kernel_rfl) ix' iy w
  have iy' : y.isB = true := by simpa using iy
  have hg : doesK 12 x y = goesK 12 x.letter y.letter x.number := by simp [doesK, ix', iy']
  rw [hg]
  clear hg
  by_cases al : alikeB x.letter y.letter = false
  · have hv : goesK 12 x.letter y.letter x.number = (KV.none_, 100) := by simp [goesK, al, isOf]
    rw [hv]
    by_cases l4 : x.letter.sort = 4
    · exact does_I_L1 x y hx hy hly  op12 (by decide +kernel) (by kernel_rfl) (by decide +kernel) (by kernel_rfl) (by decide +kernel) (by kernel_rfl) (by decide +kernel) (by kernel_rfl) (by decide +kernel) (by kernel_rfl) ix' iy' (by simp [KV.is, l4]) al w
    · exact does_I_L0 x y hx hy hly  op12 (by decide +kernel) (by kernel_rfl) (by decide +kernel) (by kernel_rfl) (by decide +kernel) (by kernel_rfl) (by decide +kernel) (by kernel_rfl) (by decide +kernel) (by kernel_rfl) ix' iy' (by simp [KV.is, l4]) al w
  have al' : alikeB x.letter y.letter = true := by simpa using al
  obtain ⟨hs, hc⟩ := alike_sort al'

  have l4 : x.letter.sort ≠ 4 := by omega
  have lx4 : x.letter.is 4 = false := by simp [KV.is, l4]
  by_cases h7 : x.letter.sort = 7
  · have hv : goesK 12 x.letter y.letter x.number = (KV.none_, 100) := by simp [goesK, l4, al', h7]
    rw [hv]
    exact does_I_Z2 x y hx hy hly  op12 (by decide +kernel) (by kernel_rfl) (by decide +kernel) (by kernel_rfl) (by decide +kernel) (by kernel_rfl) (by decide +kernel) (by kernel_rfl) (by decide +kernel) (by kernel_rfl) ix' iy' lx4 al' (by simp [KV.is, h7]) (by simp [KV.is, h7]) (by simp [KV.is, h7]) (has_null h7).1 (has_null (hs.trans h7)).2 w
  have lx7 : x.letter.is 7 = false := by simp [KV.is, h7]
  have hxn : x.has = true := has_mid ix' (by omega)
  have hyn : y.letter.has = true := has_letter iy' (by omega)
  by_cases h1 : x.letter.sort = 1
  · have hv : goesK 12 x.letter y.letter x.number = (KV.truth (askQ 12 x.number y.letter.number), 0) := by simp [goesK, al', h1, isReck, isAsk]
    rw [hv]
    exact does_I_W x y hx hy hly 44 (fun _ _ => rfl) (askQ 12 x.number y.letter.number) (fun w => ask5_any _ _ w) op12 (by decide +kernel) (by kernel_rfl) (by decide +kernel) (by kernel_rfl) (by decide +kernel) (by kernel_rfl) (by decide +kernel) (by kernel_rfl) (by decide +kernel) (by kernel_rfl) ix' iy' lx4 al' lx7 (by simp [KV.is, h1]) (by simp [KV.is, h1]) hxn hyn w
  have lx1 : x.letter.is 1 = false := by simp [KV.is, h1]
  by_cases h3 : x.letter.sort = 3
  · have hv : goesK 12 x.letter y.letter x.number = (KV.truth (askQ 12 x.number y.letter.number), 0) := by simp [goesK, al', h3, isAsk]
    rw [hv]
    exact does_I_T x y hx hy hly 44 (fun _ _ => rfl) (askQ 12 x.number y.letter.number) (fun w => ask5_any _ _ w) op12 (by decide +kernel) (by kernel_rfl) (by decide +kernel) (by kernel_rfl) (by decide +kernel) (by kernel_rfl) (by decide +kernel) (by kernel_rfl) (by decide +kernel) (by kernel_rfl) ix' iy' lx4 al' lx7 lx1 (by simp [KV.is, h3]) hxn hyn w
  have hv : goesK 12 x.letter y.letter x.number = (KV.truth (askQ 12 x.number y.letter.number), 0) := by simp [goesK, l4, al', h7, h1, h3, isAsk]
  rw [hv]
  exact does_I_O x y hx hy hly 44 (fun _ _ => rfl) (askQ 12 x.number y.letter.number) (fun w => ask5_any _ _ w) op12 (by decide +kernel) (by kernel_rfl) (by decide +kernel) (by kernel_rfl) (by decide +kernel) (by kernel_rfl) (by decide +kernel) (by kernel_rfl) (by decide +kernel) (by kernel_rfl) ix' iy' lx4 al' lx7 lx1 (by simp [KV.is, h3]) hxn hyn w
theorem does_op13 (x y : KV) (hx : x.ok) (hy : y.ok) (w : World) :
    Calls Try.prog 11 #[.string ⟨#[62, 61]⟩, x.val, y.val] w fun e w' => e = .returned (.tuple #[(doesK 13 x y).1.val, .int .i64 (doesK 13 x y).2]) ∧ Wr [] w w' := by
  have hly := KV.letter_ok hy
  by_cases ix : x.isB = false
  · have hv : doesK 13 x y = (KV.none_, 100) := by simp [doesK, ix]
    rw [hv]
    exact does_H_N1 x y hx hy hly  op13 (by decide +kernel) (by kernel_rfl) (by decide +kernel) (by kernel_rfl) (by decide +kernel) (by kernel_rfl) (by decide +kernel) (by kernel_rfl) (by decide +kernel) (by kernel_rfl) ix w
  have ix' : x.isB = true := by simpa using ix
  by_cases iy : y.isB = false
  · have hv : doesK 13 x y = (KV.none_, 100) := by simp [doesK, iy]
    rw [hv]
    exact does_H_N2 x y hx hy hly  op13 (by decide +kernel) (by kernel_rfl) (by decide +kernel) (by kernel_rfl) (by decide +kernel) (by kernel_rfl) (by decide +kernel) (by kernel_rfl) (by decide +kernel) (by kernel_rfl) ix' iy w
  have iy' : y.isB = true := by simpa using iy
  have hg : doesK 13 x y = goesK 13 x.letter y.letter x.number := by simp [doesK, ix', iy']
  rw [hg]
  clear hg
  by_cases l4 : x.letter.sort = 4
  · have lx4 : x.letter.is 4 = true := by simp [KV.is, l4]
    by_cases m4 : y.letter.sort = 4
    · have hv : goesK 13 x.letter y.letter x.number = (setK 13 (x.letter.num 4) (y.letter.num 4), 0) := by simp [goesK, l4, m4, isOf]
      rw [hv]
      exact does_H_B1 x y hx hy hly 58 (fun _ _ => rfl) (setK 13 (x.letter.num 4) (y.letter.num 4)) (fun w => set6_any _ _ w) op13 (by decide +kernel) (by kernel_rfl) (by decide +kernel) (by kernel_rfl) (by decide +kernel) (by kernel_rfl) (by decide +kernel) (by kernel_rfl) (by decide +kernel) (by kernel_rfl) ix' iy' lx4 (by simp [KV.is, m4]) w
    · have hv : goesK 13 x.letter y.letter x.number = (KV.none_, 100) := by simp [goesK, l4, m4, isOf]
      rw [hv]
      exact does_H_B2 x y hx hy hly  op13 (by decide +kernel) (by kernel_rfl) (by decide +kernel) (by kernel_rfl) (by decide +kernel) (by kernel_rfl) (by decide +kernel) (by kernel_rfl) (by decide +kernel) (by kernel_rfl) ix' iy' lx4 (by simp [KV.is, m4]) w
  have lx4 : x.letter.is 4 = false := by simp [KV.is, l4]
  by_cases al : alikeB x.letter y.letter = false
  · have hv : goesK 13 x.letter y.letter x.number = (KV.none_, 100) := by simp [goesK, l4, al]
    rw [hv]
    exact does_H_L0 x y hx hy hly  op13 (by decide +kernel) (by kernel_rfl) (by decide +kernel) (by kernel_rfl) (by decide +kernel) (by kernel_rfl) (by decide +kernel) (by kernel_rfl) (by decide +kernel) (by kernel_rfl) ix' iy' lx4 al w
  have al' : alikeB x.letter y.letter = true := by simpa using al
  obtain ⟨hs, hc⟩ := alike_sort al'

  by_cases h7 : x.letter.sort = 7
  · have hv : goesK 13 x.letter y.letter x.number = (KV.none_, 100) := by simp [goesK, l4, al', h7]
    rw [hv]
    exact does_H_Z2 x y hx hy hly  op13 (by decide +kernel) (by kernel_rfl) (by decide +kernel) (by kernel_rfl) (by decide +kernel) (by kernel_rfl) (by decide +kernel) (by kernel_rfl) (by decide +kernel) (by kernel_rfl) ix' iy' lx4 al' (by simp [KV.is, h7]) (by simp [KV.is, h7]) (by simp [KV.is, h7]) (has_null h7).1 (has_null (hs.trans h7)).2 w
  have lx7 : x.letter.is 7 = false := by simp [KV.is, h7]
  have hxn : x.has = true := has_mid ix' (by omega)
  have hyn : y.letter.has = true := has_letter iy' (by omega)
  by_cases h1 : x.letter.sort = 1
  · have hv : goesK 13 x.letter y.letter x.number = (KV.truth (askQ 13 x.number y.letter.number), 0) := by simp [goesK, al', h1, isReck, isAsk]
    rw [hv]
    exact does_H_W x y hx hy hly 45 (fun _ _ => rfl) (askQ 13 x.number y.letter.number) (fun w => ask6_any _ _ w) op13 (by decide +kernel) (by kernel_rfl) (by decide +kernel) (by kernel_rfl) (by decide +kernel) (by kernel_rfl) (by decide +kernel) (by kernel_rfl) (by decide +kernel) (by kernel_rfl) ix' iy' lx4 al' lx7 (by simp [KV.is, h1]) (by simp [KV.is, h1]) hxn hyn w
  have lx1 : x.letter.is 1 = false := by simp [KV.is, h1]
  by_cases h3 : x.letter.sort = 3
  · have hv : goesK 13 x.letter y.letter x.number = (KV.truth (askQ 13 x.number y.letter.number), 0) := by simp [goesK, al', h3, isAsk]
    rw [hv]
    exact does_H_T x y hx hy hly 45 (fun _ _ => rfl) (askQ 13 x.number y.letter.number) (fun w => ask6_any _ _ w) op13 (by decide +kernel) (by kernel_rfl) (by decide +kernel) (by kernel_rfl) (by decide +kernel) (by kernel_rfl) (by decide +kernel) (by kernel_rfl) (by decide +kernel) (by kernel_rfl) ix' iy' lx4 al' lx7 lx1 (by simp [KV.is, h3]) hxn hyn w
  have hv : goesK 13 x.letter y.letter x.number = (KV.truth (askQ 13 x.number y.letter.number), 0) := by simp [goesK, l4, al', h7, h1, h3, isAsk]
  rw [hv]
  exact does_H_O x y hx hy hly 45 (fun _ _ => rfl) (askQ 13 x.number y.letter.number) (fun w => ask6_any _ _ w) op13 (by decide +kernel) (by kernel_rfl) (by decide +kernel) (by kernel_rfl) (by decide +kernel) (by kernel_rfl) (by decide +kernel) (by kernel_rfl) (by decide +kernel) (by kernel_rfl) ix' iy' lx4 al' lx7 lx1 (by simp [KV.is, h3]) hxn hyn w
theorem does_op14 (x y : KV) (hx : x.ok) (hy : y.ok) (w : World) :
    Calls Try.prog 11 #[.string ⟨#[73, 78]⟩, x.val, y.val] w fun e w' => e = .returned (.tuple #[(doesK 14 x y).1.val, .int .i64 (doesK 14 x y).2]) ∧ Wr [] w w' := by
  have hly := KV.letter_ok hy
  by_cases ix : x.isB = false
  · have hv : doesK 14 x y = (KV.none_, 100) := by simp [doesK, ix]
    rw [hv]
    exact does_J_N1 x y hx hy hly  op14 (by kernel_rfl) ix w
  have ix' : x.isB = true := by simpa using ix
  by_cases iy : y.isB = false
  · have hv : doesK 14 x y = (KV.none_, 100) := by simp [doesK, iy]
    rw [hv]
    exact does_J_N2 x y hx hy hly  op14 (by kernel_rfl) ix' iy w
  have iy' : y.isB = true := by simpa using iy
  by_cases b4 : y.sort = 4
  · have by4 : y.is 4 = true := by simp [KV.is, b4]
    by_cases hn : x.has = true
    · have hv : doesK 14 x y = (KV.truth (inOf x.number (y.num 4)), 0) := by simp [doesK, ix', iy', b4, hn]
      rw [hv]
      by_cases g0 : x.number ≥ 0
      · by_cases g1 : x.number < 16
        · have hi : inOf x.number (y.num 4) = inK x.number (y.num 4) := by simp only [inOf, g0, g1, decide_true, Bool.true_and]
          rw [hi]
          have hr : 0 ≤ y.num 4 ∧ y.num 4 ≤ 65535 := by
            simp only [KV.num, b4, if_true]
            exact hy.2.2.2.1 b4
          exact does_J_INe x y hx hy hly  op14 (by kernel_rfl) ix' iy' by4 hn (decide_eq_true g0) (decide_eq_true g1) ⟨g0, g1⟩ hr w
        · have hi : inOf x.number (y.num 4) = false := by simp only [inOf, decide_eq_false g1, Bool.false_and, Bool.and_false]
          rw [hi]
          exact does_J_INd x y hx hy hly  op14 (by kernel_rfl) ix' iy' by4 hn (decide_eq_true g0) (decide_eq_false g1) w
      · have hi : inOf x.number (y.num 4) = false := by simp only [inOf, decide_eq_false g0, Bool.false_and]
        rw [hi]
        exact does_J_INc x y hx hy hly  op14 (by kernel_rfl) ix' iy' by4 hn (decide_eq_false g0) w
    · have hv : doesK 14 x y = (KV.none_, 100) := by simp [doesK, ix', iy', hn]
      rw [hv]
      exact does_J_INb x y hx hy hly  op14 (by kernel_rfl) ix' iy' by4 (by simpa using hn) w
  · have hv : doesK 14 x y = (KV.none_, 100) := by simp [doesK, ix', iy', b4]
    rw [hv]
    exact does_J_INa x y hx hy hly  op14 (by kernel_rfl) ix' iy' (by simp [KV.is, b4]) w
theorem does_op15 (x y : KV) (hx : x.ok) (hy : y.ok) (w : World) :
    Calls Try.prog 11 #[.string ⟨#[78, 79, 84]⟩, x.val, y.val] w fun e w' => e = .returned (.tuple #[(doesK 15 x y).1.val, .int .i64 (doesK 15 x y).2]) ∧ Wr [] w w' := by
  have hly := KV.letter_ok hy
  have hv : doesK 15 x y = (KV.none_, 103) := by simp [doesK]
  rw [hv]
  exact does_K_K x y hx hy hly  op15 (by decide +kernel) (by kernel_rfl) (by decide +kernel) (by kernel_rfl) (by decide +kernel) (by kernel_rfl) (by decide +kernel) (by kernel_rfl) (by decide +kernel) (by kernel_rfl)  w
theorem does_op16 (x y : KV) (hx : x.ok) (hy : y.ok) (w : World) :
    Calls Try.prog 11 #[.string ⟨#[]⟩, x.val, y.val] w fun e w' => e = .returned (.tuple #[(doesK 16 x y).1.val, .int .i64 (doesK 16 x y).2]) ∧ Wr [] w w' := by
  have hly := KV.letter_ok hy
  have hv : doesK 16 x y = (KV.none_, 103) := by simp [doesK]
  rw [hv]
  exact does_K_K x y hx hy hly  op16 (by decide +kernel) (by kernel_rfl) (by decide +kernel) (by kernel_rfl) (by decide +kernel) (by kernel_rfl) (by decide +kernel) (by kernel_rfl) (by decide +kernel) (by kernel_rfl)  w
theorem does_op17 (x y : KV) (hx : x.ok) (hy : y.ok) (w : World) :
    Calls Try.prog 11 #[.string ⟨#[100, 105, 118]⟩, x.val, y.val] w fun e w' => e = .returned (.tuple #[(doesK 17 x y).1.val, .int .i64 (doesK 17 x y).2]) ∧ Wr [] w w' := by
  have hly := KV.letter_ok hy
  have hv : doesK 17 x y = (KV.none_, 103) := by simp [doesK]
  rw [hv]
  exact does_K_K x y hx hy hly  op17 (by decide +kernel) (by kernel_rfl) (by decide +kernel) (by kernel_rfl) (by decide +kernel) (by kernel_rfl) (by decide +kernel) (by kernel_rfl) (by decide +kernel) (by kernel_rfl)  w
/-- konst.Does. -/
theorem does_any (k : Nat) (hk : k < 18) (x y : KV) (hx : x.ok) (hy : y.ok) (w : World) :
    Calls Try.prog 11 #[.string (opS k), x.val, y.val] w fun e w' => e = .returned (.tuple #[(doesK k x y).1.val, .int .i64 (doesK k x y).2]) ∧ Wr [] w w' := by
  match k, hk with
  | 0, _ => exact does_op0 x y hx hy w
  | 1, _ => exact does_op1 x y hx hy w
  | 2, _ => exact does_op2 x y hx hy w
  | 3, _ => exact does_op3 x y hx hy w
  | 4, _ => exact does_op4 x y hx hy w
  | 5, _ => exact does_op5 x y hx hy w
  | 6, _ => exact does_op6 x y hx hy w
  | 7, _ => exact does_op7 x y hx hy w
  | 8, _ => exact does_op8 x y hx hy w
  | 9, _ => exact does_op9 x y hx hy w
  | 10, _ => exact does_op10 x y hx hy w
  | 11, _ => exact does_op11 x y hx hy w
  | 12, _ => exact does_op12 x y hx hy w
  | 13, _ => exact does_op13 x y hx hy w
  | 14, _ => exact does_op14 x y hx hy w
  | 15, _ => exact does_op15 x y hx hy w
  | 16, _ => exact does_op16 x y hx hy w
  | 17, _ => exact does_op17 x y hx hy w
  | n + 18, h => exact absurd h (by omega)
end Go.Proofs.Ytpfidbpbomamjaa
