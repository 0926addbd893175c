/- The document's Does and One, as plain functions; they answer as konst's do. No conditions but that the values are such as Go has. -/
import Derived.Test.YtpfidbpbomamjaaKoR
namespace Go.Proofs.Ytpfidbpbomamjaa
open Go.RowKit
set_option linter.unusedVariables false
set_option linter.unusedSimpArgs false

def hasR (x : KV) : Bool := x.letter.is 1 || x.letter.is 2 || x.letter.is 3 || x.letter.is 6
def numR (x : KV) : Int := bif hasR x then x.letter.n else 0
def setR (k : Nat) (a b : Int) : KV :=
  if k = 0 then KV.bits (bits .or .i64 a b) else if k = 1 then KV.bits (bits .andNot .i64 a b) else if k = 2 then KV.bits (bits .and .i64 a b) else if k = 3 then KV.bits (bits .xor .i64 a b)
  else if k = 11 then KV.truth (bits .andNot .i64 a b == 0) else if k = 13 then KV.truth (bits .andNot .i64 b a == 0) else if k = 8 then KV.truth (a == b) else KV.truth (a != b)
def setsR (k : Nat) (a b : Int) : KV × Int := if isOf k then (setR k a b, 0) else (KV.none_, 100)
def wholesR (k : Nat) (a b : Int) : KV × Int := if isReck k then reckK k a b else (KV.none_, 100)
def ordersR (k : Nat) (a b : Int) : KV × Int := if isAsk k then (KV.truth (askQ k a b), 0) else (KV.none_, 100)
def inR (n b : Int) : Bool := bits .and .i64 (b / 2 ^ min (IntKind.u64.wrap (bits .and .i64 n 15)).toNat 64) 1 == 1
def inOfR (n b : Int) : Bool := decide (n ≥ 0) && (decide (n < 16) && inR n b)
def goesR (k : Nat) (x y : KV) : KV × Int :=
  if x.sort ≠ y.sort then (KV.none_, 100)
  else if x.sort = 6 ∧ x.t ≠ y.t then (KV.none_, 100)
  else if x.sort = 4 then setsR k x.n y.n
  else if x.sort = 7 then (if k = 8 then (KV.truth true, 0) else if k = 9 then (KV.truth false, 0) else (KV.none_, 100))
  else if x.sort = 5 then (KV.none_, 100)
  else if x.sort = 3 ∧ k = 6 then (KV.truth (x.n == 1 && y.n == 1), 0)
  else if x.sort = 3 ∧ k = 7 then (KV.truth (x.n == 1 || y.n == 1), 0)
  else if x.sort = 1 ∧ isReck k then reckK k x.n y.n
  else ordersR k x.n y.n
/-- The document's Does. -/
def doesR (k : Nat) (x y : KV) : KV × Int :=
  if 15 ≤ k then (KV.none_, 103)
  else if x.sort = 0 then (KV.none_, 100)
  else if y.sort = 0 then (KV.none_, 100)
  else if k = 14 then (if hasR x = true ∧ y.sort = 4 then (KV.truth (inOfR (numR x) y.n), 0) else (KV.none_, 100))
  else goesR k x.letter y.letter

theorem wrap_i64_small (n : Int) (h0 : 0 ≤ n) (h1 : n < 2 ^ 16) : IntKind.i64.wrap n = n := by rw [IntKind.wrap_i64]; omega
theorem wrap_u16_small (n : Int) (h0 : 0 ≤ n) (h1 : n < 2 ^ 16) : IntKind.u16.wrap n = n := by
  simp [IntKind.wrap, IntKind.bits, IntKind.signed]
  omega
theorem bits16 (a b : Int) (ha : 0 ≤ a ∧ a ≤ 65535) (hb : 0 ≤ b ∧ b ≤ 65535) :
    bits .or .i64 a b = bits .or .u16 a b ∧ bits .and .i64 a b = bits .and .u16 a b ∧ bits .xor .i64 a b = bits .xor .u16 a b ∧ bits .andNot .i64 a b = bits .andNot .u16 a b := by
  obtain ⟨m, rfl⟩ := Int.eq_ofNat_of_zero_le ha.1
  obtain ⟨n, rfl⟩ := Int.eq_ofNat_of_zero_le hb.1
  have hm : m < 2 ^ 16 := by omega
  have hn : n < 2 ^ 16 := by omega
  have m1 : m % 2 ^ 64 = m := Nat.mod_eq_of_lt (by omega)
  have n1 : n % 2 ^ 64 = n := Nat.mod_eq_of_lt (by omega)
  have m2 : m % 2 ^ 16 = m := Nat.mod_eq_of_lt hm
  have n2 : n % 2 ^ 16 = n := Nat.mod_eq_of_lt hn
  have cast : ∀ q : Nat, q < 2 ^ 16 → IntKind.i64.wrap (q : Int) = IntKind.u16.wrap (q : Int) := fun q h => by
    rw [wrap_i64_small _ (by omega) (by omega), wrap_u16_small _ (by omega) (by omega)]
  refine ⟨?_, ?_, ?_, ?_⟩
  · show IntKind.i64.wrap ((BitVec.ofInt 64 (m : Int) ||| BitVec.ofInt 64 (n : Int)).toNat : Int) = IntKind.u16.wrap ((BitVec.ofInt 16 (m : Int) ||| BitVec.ofInt 16 (n : Int)).toNat : Int)
    simp only [BitVec.ofInt_natCast, BitVec.toNat_or, BitVec.toNat_ofNat, m1, n1, m2, n2]
    exact cast _ (Nat.or_lt_two_pow hm hn)
  · show IntKind.i64.wrap ((BitVec.ofInt 64 (m : Int) &&& BitVec.ofInt 64 (n : Int)).toNat : Int) = IntKind.u16.wrap ((BitVec.ofInt 16 (m : Int) &&& BitVec.ofInt 16 (n : Int)).toNat : Int)
    simp only [BitVec.ofInt_natCast, BitVec.toNat_and, BitVec.toNat_ofNat, m1, n1, m2, n2]
    exact cast _ (Nat.and_lt_two_pow _ hn)
  · show IntKind.i64.wrap ((BitVec.ofInt 64 (m : Int) ^^^ BitVec.ofInt 64 (n : Int)).toNat : Int) = IntKind.u16.wrap ((BitVec.ofInt 16 (m : Int) ^^^ BitVec.ofInt 16 (n : Int)).toNat : Int)
    simp only [BitVec.ofInt_natCast, BitVec.toNat_xor, BitVec.toNat_ofNat, m1, n1, m2, n2]
    exact cast _ (Nat.xor_lt_two_pow hm hn)
  · show IntKind.i64.wrap ((BitVec.ofInt 64 (m : Int) &&& ~~~BitVec.ofInt 64 (n : Int)).toNat : Int) = IntKind.u16.wrap ((BitVec.ofInt 16 (m : Int) &&& ~~~BitVec.ofInt 16 (n : Int)).toNat : Int)
    simp only [BitVec.ofInt_natCast, BitVec.toNat_and, BitVec.toNat_not, BitVec.toNat_ofNat, m1, n1, m2, n2]
    have e : m &&& (2 ^ 64 - 1 - n) = m &&& (2 ^ 16 - 1 - n) := by
      apply Nat.eq_of_testBit_eq
      intro i
      rw [Nat.testBit_and, Nat.testBit_and, show 2 ^ 64 - 1 - n = 2 ^ 64 - (n + 1) by omega, show 2 ^ 16 - 1 - n = 2 ^ 16 - (n + 1) by omega, Nat.testBit_two_pow_sub_succ (by omega), Nat.testBit_two_pow_sub_succ hn]
      by_cases hi : i < 16
      · have : i < 64 := by omega
        simp [hi, this]
      · have : m.testBit i = false := Nat.testBit_lt_two_pow (Nat.lt_of_lt_of_le hm (Nat.pow_le_pow_right (by decide) (by omega)))
        simp [this]
    rw [e]
    exact cast _ (Nat.lt_of_le_of_lt Nat.and_le_left hm)

theorem in_eq (n b : Int) (h0 : 0 ≤ n) (h1 : n < 16) (hb : 0 ≤ b ∧ b ≤ 65535) : inR n b = inK n b := by
  have hw : (IntKind.u64.wrap (bits .and .i64 n 15)).toNat ≤ 15 := by
    have : n = 0 ∨ n = 1 ∨ n = 2 ∨ n = 3 ∨ n = 4 ∨ n = 5 ∨ n = 6 ∨ n = 7 ∨ n = 8 ∨ n = 9 ∨ n = 10 ∨ n = 11 ∨ n = 12 ∨ n = 13 ∨ n = 14 ∨ n = 15 := by omega
    rcases this with h | h | h | h | h | h | h | h | h | h | h | h | h | h | h | h <;> subst h <;> decide +kernel
  unfold inR inK
  generalize (IntKind.u64.wrap (bits .and .i64 n 15)).toNat = q at hw
  rw [show min q 64 = q by omega, show min q 16 = q by omega]
  have hp : (0 : Int) < 2 ^ q := Int.pow_pos (by decide)
  have h2 : 0 ≤ b / 2 ^ q := Int.ediv_nonneg hb.1 (by omega)
  have h3 : b / 2 ^ q ≤ b := Int.ediv_le_self _ hb.1
  rw [(bits16 (b / 2 ^ q) 1 ⟨h2, by omega⟩ (by omega)).2.1]
theorem inOf_eq (n b : Int) (hb : 0 ≤ b ∧ b ≤ 65535) : inOfR n b = inOf n b := by
  unfold inOfR inOf
  by_cases h0 : n ≥ 0
  · by_cases h1 : n < 16
    · rw [in_eq n b h0 h1 hb]
    · simp [h1]
  · simp [h0]

theorem look_none : KV.none_.look = KV.none_ := rfl
theorem look_truth (b : Bool) : (KV.truth b).look = KV.truth b := by cases b <;> rfl
theorem look_bits (n : Int) : (KV.bits n).look = KV.bits n := rfl
theorem look_whole {n : Int} (h : inB n = true) : (KV.whole n).look = KV.whole n := by simp [KV.look, KV.whole, h, emptyS]
theorem look_wholeK (n : Int) : (wholeK n).1.look = (wholeK n).1 := by
  unfold wholeK
  cases h : inB n with
  | true => exact look_whole h
  | false => exact look_none
theorem look_reckK (k : Nat) (n m : Int) : (reckK k n m).1.look = (reckK k n m).1 := by
  unfold reckK divK
  repeat' split
  all_goals first | exact look_wholeK _ | exact look_none
theorem setR_eq (k : Nat) (a b : Int) (ha : 0 ≤ a ∧ a ≤ 65535) (hb : 0 ≤ b ∧ b ≤ 65535) : setR k a b = (setK k a b).look := by
  obtain ⟨e1, e2, e3, e4⟩ := bits16 a b ha hb
  obtain ⟨_, _, _, e5⟩ := bits16 b a hb ha
  unfold setR setK
  rw [e1, e2, e3, e4, e5]
  repeat' split
  all_goals first | exact (look_bits _).symm | exact (look_truth _).symm

theorem look_sort {x : KV} (hb : x.isB = true) : x.look.sort = x.sort := by
  unfold KV.look
  by_cases h1 : x.sort = 1
  · have : inB x.n = true := by simpa [KV.isB, KV.is, h1] using hb
    simp [h1, this]
  have hs : x.sort = 2 ∨ x.sort = 3 ∨ x.sort = 4 ∨ x.sort = 5 ∨ x.sort = 6 ∨ x.sort = 7 := by
    simp [KV.isB, KV.is, h1] at hb
    omega
  rcases hs with h | h | h | h | h | h <;> simp [h]
theorem look_no {x : KV} (hb : x.isB = false) : x.look.sort = 0 := by
  simp [KV.isB, KV.is] at hb
  unfold KV.look
  by_cases h1 : x.sort = 1
  · simp [h1] at hb ⊢
    simp [hb]
  · have h2 : ¬x.sort = 2 := by omega
    have h3 : ¬x.sort = 3 := by omega
    have h4 : ¬x.sort = 4 := by omega
    have h5 : ¬x.sort = 5 := by omega
    have h6 : ¬x.sort = 6 := by omega
    have h7 : ¬x.sort = 7 := by omega
    simp [h1, h2, h3, h4, h5, h6, h7]
theorem look_letter {x : KV} (hb : x.isB = true) : x.look.letter = x.letter.look := by
  by_cases h5 : x.sort = 5
  · by_cases hz : x.s.size = 1
    · simp [KV.look, KV.letter, h5, hz, emptyS]
    · simp [KV.look, KV.letter, h5, hz]
  · have e : x.letter = x := by simp [KV.letter, h5]
    rw [e]
    have := look_sort hb
    unfold KV.letter
    rw [this, if_neg (by simp [h5])]
theorem letter_isB {x : KV} (hb : x.isB = true) : x.letter.isB = true := by
  by_cases hc : x.sort = 5 ∧ x.s.size = 1
  · simp [KV.letter, hc, KV.isB, KV.is]
  · rw [KV.letter, if_neg hc]; exact hb
theorem look_n {x : KV} (hx : x.ok) (hb : x.isB = true) (h5 : x.sort ≠ 5) (h7 : x.sort ≠ 7) : x.look.n = x.n := by
  unfold KV.look
  by_cases h1 : x.sort = 1
  · have : inB x.n = true := by simpa [KV.isB, KV.is, h1] using hb
    simp [h1, this]
  by_cases h3 : x.sort = 3
  · rcases hx.2.2.1 h3 with h | h <;> simp [h3, h, KV.tru]
  have hs : x.sort = 2 ∨ x.sort = 4 ∨ x.sort = 6 := by
    simp [KV.isB, KV.is, h1] at hb
    omega
  rcases hs with h | h | h <;> simp [h]
theorem number_n {x : KV} (hb : x.isB = true) (h : x.sort = 1 ∨ x.sort = 2 ∨ x.sort = 3 ∨ x.sort = 6) : x.number = x.n := by
  rcases h with h | h | h | h
  · have : inB x.n = true := by simpa [KV.isB, KV.is, h] using hb
    simp [KV.number, h, this]
  all_goals simp [KV.number, h]
theorem letter_number (x : KV) : x.letter.number = x.number := by
  by_cases hc : x.sort = 5 ∧ x.s.size = 1
  · simp [KV.number, KV.letter, hc]
  · rw [KV.letter, if_neg hc]
theorem has_hasR {x : KV} (hb : x.isB = true) : hasR x.look = x.has := by
  unfold hasR
  rw [look_letter hb]
  simp only [KV.is, look_sort (letter_isB hb)]
  by_cases hc : x.sort = 5 ∧ x.s.size = 1
  · simp [KV.letter, hc, KV.has, KV.is]
  · rw [KV.letter, if_neg hc]
    by_cases h1 : x.sort = 1
    · have : inB x.n = true := by simpa [KV.isB, KV.is, h1] using hb
      simp [KV.has, KV.is, h1, this]
    · have h5 : (x.sort == 5 && x.s.size == 1) = false := by simpa using hc
      have h1' : (x.sort == 1) = false := by simpa using h1
      simp only [KV.has, KV.is]
      rw [h1', h5]
      simp
theorem num_numR {x : KV} (hx : x.ok) (hb : x.isB = true) (hh : x.has = true) : numR x.look = x.number := by
  have h := has_hasR hb
  rw [hh] at h
  unfold numR
  rw [h, cond_true, look_letter hb]
  have hl := KV.letter_ok hx
  have hlb := letter_isB hb
  rw [← letter_number]
  unfold hasR at h
  rw [look_letter hb] at h
  simp only [KV.is, look_sort hlb, Bool.or_eq_true, beq_iff_eq] at h
  rw [look_n hl hlb (by omega) (by omega), number_n hlb (by omega)]

theorem truth_sum {a b : Int} (ha : a = 0 ∨ a = 1) (hb : b = 0 ∨ b = 1) :
    (a == 1 && b == 1) = (wrap64 (a + b) == 2) ∧ (a == 1 || b == 1) = decide (wrap64 (a + b) > 0) := by
  rcases ha with h | h <;> rcases hb with g | g <;> subst h <;> subst g <;> decide +kernel

theorem goes_eq (k : Nat) (hk : k < 14) {x y : KV} (hx : x.ok) (hy : y.ok) (bx : x.isB = true) (by_ : y.isB = true) (n : Int) (hn : n = x.number) :
    goesR k x.look y.look = ((goesK k x y n).1.look, (goesK k x y n).2) := by
  subst hn
  unfold goesR goesK
  rw [look_sort bx, look_sort by_]
  by_cases hs : x.sort = y.sort
  · rw [if_neg (by simp [hs])]
    by_cases h4 : x.sort = 4
    · have g4 : y.sort = 4 := by omega
      have rx := hx.2.2.2.1 h4
      have ry := hy.2.2.2.1 g4
      rw [if_neg (by omega), if_pos h4, look_n hx bx (by omega) (by omega), look_n hy by_ (by omega) (by omega)]
      unfold setsR
      by_cases ho : isOf k
      · rw [if_pos ho, if_pos ⟨h4, ho⟩, if_pos g4, setR_eq k _ _ rx ry]
        simp [KV.num, h4, g4]
      · have al : alikeB x y = false := by simp [alikeB, h4]
        rw [if_neg ho, if_neg (by simp [ho]), if_pos al]
        rfl
    · rw [if_neg h4, if_neg (c := x.sort = 4 ∧ isOf k) (by simp [h4])]
      by_cases h6 : x.sort = 6
      · have g6 : y.sort = 6 := by omega
        have ex : x.look.t = x.t := by simp [KV.look, h6]
        have ey : y.look.t = y.t := by simp [KV.look, g6]
        rw [ex, ey]
        by_cases ht : x.t = y.t
        · have al : alikeB x y = true := by simp [alikeB, h6, g6, KV.is, KV.typ, ht]
          rw [if_neg (by simp [ht])]
          rw [look_n hx bx (by omega) (by omega), look_n hy by_ (by omega) (by omega), number_n bx (by omega), number_n by_ (by omega)]
          simp only [al, h6, ordersR]
          by_cases ha : isAsk k
          · simp [ha, look_truth]
          · simp [ha, look_none]
        · have al : alikeB x y = false := by simp [alikeB, h6, KV.typ, g6, ht]
          rw [if_pos ⟨h6, ht⟩, if_pos al]
          rfl
      · rw [if_neg (by simp [h6])]
        by_cases h7 : x.sort = 7
        · have g7 : y.sort = 7 := by omega
          have al : alikeB x y = true := by simp [alikeB, h7, g7, KV.is]
          rw [if_pos h7, if_pos h7, al]
          by_cases k8 : k = 8
          · subst k8; rfl
          · by_cases k9 : k = 9
            · subst k9; rfl
            · simp [k8, k9, look_none]
        · rw [if_neg h7]
          by_cases h5 : x.sort = 5
          · have al : alikeB x y = false := by simp [alikeB, h5]
            rw [if_pos h5, if_pos al]
            rfl
          · have hs' : x.sort = 1 ∨ x.sort = 2 ∨ x.sort = 3 := by
              simp [KV.isB, KV.is] at bx
              omega
            have al : alikeB x y = true := by
              rcases hs' with h | h | h
              · have g : y.sort = 1 := by omega
                simp [alikeB, h, g, KV.is]
              · have g : y.sort = 2 := by omega
                simp [alikeB, h, g, KV.is]
              · have g : y.sort = 3 := by omega
                simp [alikeB, h, g, KV.is]
            rw [if_neg h5, look_n hx bx (by omega) (by omega), look_n hy by_ (by omega) (by omega), number_n bx (by omega), number_n by_ (by omega)]
            rw [if_neg (c := alikeB x y = false) (by simp [al]), if_neg h7]
            by_cases h3 : x.sort = 3
            · have g3 : y.sort = 3 := by omega
              have n1 : ¬ x.sort = 1 := by omega
              obtain ⟨t1, t2⟩ := truth_sum (hx.2.2.1 h3) (hy.2.2.1 g3)
              rw [t1, t2]
              by_cases k6 : k = 6
              · simp [h3, k6, look_truth]
              · by_cases k7 : k = 7
                · simp [h3, k7, look_truth]
                · by_cases ha : isAsk k
                  · simp [h3, k6, k7, ordersR, ha, look_truth]
                  · simp [h3, k6, k7, ordersR, ha, look_none]
            · by_cases hr : x.sort = 1 ∧ isReck k
              · simp [h3, hr, look_reckK]
              · rw [if_neg (by simp [h3]), if_neg (by simp [h3]), if_neg hr, if_neg hr, if_neg (by simp [h3]), if_neg (by simp [h3])]
                by_cases ha : isAsk k
                · simp [ordersR, ha, look_truth]
                · simp [ordersR, ha, look_none]
  · rw [if_pos hs]
    have al : alikeB x y = false := by
      cases h : alikeB x y with
      | false => rfl
      | true => exact absurd (alike_sort h).1.symm hs
    by_cases h4 : x.sort = 4 ∧ isOf k
    · rw [if_pos h4, if_neg (by omega)]
      rfl
    · rw [if_neg h4, if_pos al]
      rfl

theorem does_eq (k : Nat) {x y : KV} (hx : x.ok) (hy : y.ok) : doesR k x.look y.look = ((doesK k x y).1.look, (doesK k x y).2) := by
  unfold doesR doesK
  by_cases hk : 15 ≤ k
  · rw [if_pos hk, if_pos hk]
    rfl
  rw [if_neg hk, if_neg hk]
  cases bx : x.isB with
  | false =>
    rw [if_pos (look_no bx)]
    rfl
  | true =>
    have sx : ¬ x.look.sort = 0 := by
      rw [look_sort bx]
      intro h
      simp [KV.isB, KV.is, h] at bx
    rw [if_neg sx]
    cases by_ : y.isB with
    | false =>
      rw [if_pos (look_no by_)]
      rfl
    | true =>
      have sy : ¬ y.look.sort = 0 := by
        rw [look_sort by_]
        intro h
        simp [KV.isB, KV.is, h] at by_
      rw [if_neg sy, if_neg (c := true = false) (by simp), if_neg (c := true = false) (by simp)]
      by_cases k14 : k = 14
      · rw [if_pos k14, if_pos k14, has_hasR bx, look_sort by_]
        by_cases hc : y.sort = 4 ∧ x.has = true
        · rw [if_pos ⟨hc.2, hc.1⟩, if_pos hc, num_numR hx bx hc.2, look_n hy by_ (by omega) (by omega), inOf_eq _ _ (hy.2.2.2.1 hc.1)]
          simp [look_truth, KV.num, hc.1]
        · rw [if_neg hc, if_neg (by intro h; exact hc ⟨h.2, h.1⟩)]
          rfl
      · rw [if_neg k14, if_neg k14, look_letter bx, look_letter by_]
        exact goes_eq k (by omega) (KV.letter_ok hx) (KV.letter_ok hy) (letter_isB bx) (letter_isB by_) _ (letter_number x).symm

/-- konst's One: by an operator's number: 0 '+', 1 '-', 15 'NOT'. -/
def oneK (k : Nat) (x : KV) : KV × Int :=
  if k = 0 then (if x.sort = 1 ∧ inB x.n = true then (x, 0) else (KV.none_, 100))
  else if k = 1 then (if x.sort = 1 ∧ inB x.n = true then wholeK (wrap64 (-x.n)) else (KV.none_, 100))
  else if k = 15 then (if x.sort = 3 then (KV.truth (!x.tru), 0) else (KV.none_, 100))
  else (KV.none_, 103)
def oneR (k : Nat) (x : KV) : KV × Int :=
  if k = 0 then (if x.sort = 1 then (x, 0) else (KV.none_, 100))
  else if k = 1 then (if x.sort = 1 then wholeK (wrap64 (-x.n)) else (KV.none_, 100))
  else if k = 15 then (if x.sort = 3 then (KV.truth (x.n == 0), 0) else (KV.none_, 100))
  else (KV.none_, 103)
theorem one_eq (k : Nat) {x : KV} (hx : x.ok) : oneR k x.look = ((oneK k x).1.look, (oneK k x).2) := by
  have h1 : x.look.sort = 1 ↔ (x.sort = 1 ∧ inB x.n = true) := by
    cases bx : x.isB with
    | false =>
      rw [look_no bx]
      simp [KV.isB, KV.is] at bx
      simp
      intro h
      simpa [h] using bx
    | true =>
      rw [look_sort bx]
      constructor
      · intro h
        exact ⟨h, by simpa [KV.isB, KV.is, h] using bx⟩
      · exact fun h => h.1
  have h3 : x.look.sort = 3 ↔ x.sort = 3 := by
    cases bx : x.isB with
    | false =>
      rw [look_no bx]
      simp [KV.isB, KV.is] at bx
      simp
      omega
    | true => rw [look_sort bx]
  unfold oneR oneK
  by_cases k0 : k = 0
  · rw [if_pos k0, if_pos k0]
    by_cases h : x.sort = 1 ∧ inB x.n = true
    · rw [if_pos h, if_pos (h1.2 h)]
    · rw [if_neg h, if_neg (fun g => h (h1.1 g))]
      rfl
  rw [if_neg k0, if_neg k0]
  by_cases k1 : k = 1
  · rw [if_pos k1, if_pos k1]
    by_cases h : x.sort = 1 ∧ inB x.n = true
    · rw [if_pos h, if_pos (h1.2 h), show x.look.n = x.n by simp [KV.look, h], look_wholeK]
    · rw [if_neg h, if_neg (fun g => h (h1.1 g))]
      rfl
  rw [if_neg k1, if_neg k1]
  by_cases k15 : k = 15
  · rw [if_pos k15, if_pos k15]
    by_cases h : x.sort = 3
    · rw [if_pos h, if_pos (h3.2 h), look_truth]
      rcases hx.2.2.1 h with g | g <;> simp [KV.look, h, KV.tru, KV.is, g]
    · rw [if_neg h, if_neg (fun g => h (h3.1 g))]
      rfl
  · rw [if_neg k15, if_neg k15]
    rfl
end Go.Proofs.Ytpfidbpbomamjaa
