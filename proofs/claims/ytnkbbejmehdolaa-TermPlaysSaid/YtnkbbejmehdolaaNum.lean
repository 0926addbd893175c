/- Whole numbers below 2 to the 53 as floats: their sums are exact. No conditions. -/
import Derived.Laws.FloatArith
import Derived.Laws.ComplexArith
namespace Go.Proofs.Ytnkbbejmehdolaa
open Ieee

theorem log2_mul_pow (n k : Nat) (h : n ≠ 0) : (n * 2 ^ k).log2 = n.log2 + k := by
  induction k with
  | zero => simp
  | succ k ih =>
    have e : n * 2 ^ (k + 1) = 2 * (n * 2 ^ k) := by rw [Nat.pow_succ, ← Nat.mul_assoc, Nat.mul_comm]
    rw [e, Nat.log2_two_mul (Nat.mul_ne_zero h (by have := Nat.two_pow_pos k; omega)), ih]; rfl

theorem cut_exact (s : Bool) (a d : Nat) : Toward.even.cut s (a * 2 ^ d) d = a := by
  unfold Toward.cut
  by_cases ha : a = 0
  · subst ha; simp
  have hl : (a * 2 ^ d).log2 = a.log2 + d := log2_mul_pow a d ha
  have hm : min d ((a * 2 ^ d).log2 + 2) = d := by rw [hl]; omega
  have hp : 0 < 2 ^ d := Nat.two_pow_pos d
  simp only [hm, Nat.shiftLeft_eq, Nat.one_mul, Nat.mul_mod_left, Nat.mul_div_cancel _ hp]
  have h1 : decide (2 ^ d < 2 * 0) = false := by simp
  have h2 : (2 ^ d == 2 * 0) = false := by simp
  rw [h1, h2]; rfl

/-- The float of a whole number. -/
def fl (n : Nat) : Nat := Format.nearest double false n 0

theorem log2_lt53 {n : Nat} (h : n < 2 ^ 53) (h0 : n ≠ 0) : n.log2 < 53 := (Nat.log2_lt h0).2 h

theorem nearest_scaled (n k : Nat) (h : n < 2 ^ 53) : Format.nearest double false (n * 2 ^ k) (-(k : Int)) = fl n := by
  unfold fl Format.nearest
  by_cases h0 : n = 0
  · subst h0; simp
  have hp : 0 < 2 ^ k := Nat.two_pow_pos k
  have hne : n * 2 ^ k ≠ 0 := Nat.mul_ne_zero h0 (by omega)
  rw [if_neg hne, if_neg h0]
  have hl := log2_lt53 h h0
  have hlk := log2_mul_pow n k h0
  have hfb : double.fractionBits = 52 := rfl
  have hlp : double.leastPlace = -1074 := by decide
  simp only [hlk, hfb, hlp]
  have e1 : max (-(k : Int) + ((n.log2 + k : Nat) : Int) - ((52 : Nat) : Int)) (-1074) = (n.log2 : Int) - 52 := by omega
  have e2 : max ((0 : Int) + (n.log2 : Int) - ((52 : Nat) : Int)) (-1074) = (n.log2 : Int) - 52 := by omega
  rw [e1, e2]
  congr 3
  have e3 : ((n.log2 : Int) - 52 - 0).toNat = 0 := by omega
  have e4 : ((0 : Int) - ((n.log2 : Int) - 52)).toNat = 52 - n.log2 := by omega
  rw [e3, e4]
  rw [Nat.shiftLeft_eq, Nat.shiftLeft_eq]
  have c0 := cut_exact false (n * 2 ^ (52 - n.log2)) 0
  rw [Nat.pow_zero, Nat.mul_one] at c0
  rw [c0]
  by_cases hc : k ≤ 52 - n.log2
  · have e5 : (-(k : Int) - ((n.log2 : Int) - 52)).toNat = 52 - n.log2 - k := by omega
    have e6 : ((n.log2 : Int) - 52 - -(k : Int)).toNat = 0 := by omega
    rw [e5, e6]
    have e7 : n * 2 ^ k * 2 ^ (52 - n.log2 - k) = n * 2 ^ (52 - n.log2) := by
      rw [Nat.mul_assoc, ← Nat.pow_add]; congr 2; omega
    rw [e7]; exact c0
  · have e5 : (-(k : Int) - ((n.log2 : Int) - 52)).toNat = 0 := by omega
    have e6 : ((n.log2 : Int) - 52 - -(k : Int)).toNat = k - (52 - n.log2) := by omega
    rw [e5, e6, Nat.pow_zero, Nat.mul_one]
    have e7 : n * 2 ^ k = n * 2 ^ (52 - n.log2) * 2 ^ (k - (52 - n.log2)) := by
      rw [Nat.mul_assoc, ← Nat.pow_add]; congr 2; omega
    rw [e7]; exact cut_exact _ _ _

theorem fl_zero : fl 0 = 0 := by decide

/-- What the float of a whole number stands for. -/
theorem fl_eq (n : Nat) (h : n < 2 ^ 53) (h0 : n ≠ 0) (B : Nat) (hB : 2 ^ 52 = B) : fl n = (n.log2 + 1022) * B + n * 2 ^ (52 - n.log2) ∧ B ≤ n * 2 ^ (52 - n.log2) ∧ n * 2 ^ (52 - n.log2) < 2 * B := by
  have hl := log2_lt53 h h0
  have hfb : double.fractionBits = 52 := rfl
  have hlp : double.leastPlace = -1074 := by decide
  have hbin : double.binade = B := hB ▸ rfl
  have hinf : double.infRung = 2047 * B := by rw [← hB]; rfl
  have hlo : B ≤ n * 2 ^ (52 - n.log2) := by
    have : B = 2 ^ n.log2 * 2 ^ (52 - n.log2) := by rw [← hB, ← Nat.pow_add]; congr 1; omega
    rw [this]
    exact Nat.mul_le_mul_right _ (Nat.log2_self_le h0)
  have hhi : n * 2 ^ (52 - n.log2) < 2 * B := by
    have hlt : n < 2 ^ (n.log2 + 1) := Nat.lt_log2_self
    have : 2 * B = 2 ^ (n.log2 + 1) * 2 ^ (52 - n.log2) := by rw [← hB, ← Nat.pow_add, ← Nat.pow_succ']; congr 1; omega
    rw [this]
    exact Nat.mul_lt_mul_of_pos_right hlt (Nat.two_pow_pos _)
  refine ⟨?_, hlo, hhi⟩
  unfold fl Format.nearest
  rw [if_neg h0]
  simp only [hfb, hlp, hbin, hinf]
  have e2 : max ((0 : Int) + (n.log2 : Int) - ((52 : Nat) : Int)) (-1074) = (n.log2 : Int) - 52 := by omega
  rw [e2]
  have e3 : ((n.log2 : Int) - 52 - 0).toNat = 0 := by omega
  have e4 : ((0 : Int) - ((n.log2 : Int) - 52)).toNat = 52 - n.log2 := by omega
  have e5 : ((n.log2 : Int) - 52 - -1074).toNat = n.log2 + 1022 := by omega
  rw [e3, e4, e5, Nat.shiftLeft_eq]
  have c0 := cut_exact false (n * 2 ^ (52 - n.log2)) 0
  rw [Nat.pow_zero, Nat.mul_one] at c0
  rw [c0]
  unfold Format.word
  simp only [Bool.false_eq_true, if_false]
  apply Nat.min_eq_left
  have : (n.log2 + 1022) * B ≤ 1074 * B := Nat.mul_le_mul_right _ (by omega)
  omega

theorem read_rung (B q m : Nat) (hB : 2 ^ 52 = B) (hq : 1 ≤ q) (hq2 : q < 2000) (hm : m < B) : double.read (q * B + m) = .number false (B + m) (-1074 + ((q - 1 : Nat) : Int)) := by
  have hlp : double.leastPlace = -1074 := by decide
  have hbin : double.binade = B := hB ▸ rfl
  have hinf : double.infRung = 2047 * B := by rw [← hB]; rfl
  have hsw : double.signWeight = 2048 * B := by rw [← hB]; rfl
  have hlt : q * B + m < 2047 * B := by
    have : q * B ≤ 1999 * B := Nat.mul_le_mul_right _ (by omega)
    omega
  have hd : (q * B + m) / B = q := by
    rw [Nat.mul_comm, Nat.mul_add_div (by omega), Nat.div_eq_of_lt hm, Nat.add_zero]
  have hmod : (q * B + m) % B = m := by
    rw [Nat.mul_comm, Nat.mul_add_mod, Nat.mod_eq_of_lt hm]
  have hge : ¬ q * B + m < B := by
    have : 1 * B ≤ q * B := Nat.mul_le_mul_right _ hq
    omega
  unfold Format.read
  simp only [hbin, hinf, hsw, hlp]
  have hr63 : (q * B + m) % (2048 * B) = q * B + m := Nat.mod_eq_of_lt (by omega)
  have hs0 : (q * B + m) / (2048 * B) = 0 := Nat.div_eq_of_lt (by omega)
  rw [hr63, hs0, hd, hmod, if_neg hge, if_pos hlt]
  rfl

theorem add_split (q v B : Nat) (h : B ≤ v) : (q + 1022) * B + v = (q + 1023) * B + (v - B) := by
  have : (q + 1023) * B = (q + 1022) * B + B := Nat.succ_mul _ _
  omega
theorem sub_lt' (v B : Nat) (h : B ≤ v) (h2 : v < 2 * B) : v - B < B := by omega
theorem sub_back (v B : Nat) (h : B ≤ v) : B + (v - B) = v := by omega
theorem place_eq (q : Nat) (h : q < 53) : (-1074 : Int) + ((q + 1023 - 1 : Nat) : Int) = -((52 - q : Nat) : Int) := by omega
theorem read_fl (n : Nat) (h : n < 2 ^ 53) : ∃ (m k : Nat), double.read (fl n) = .number false m (-(k : Int)) ∧ m = n * 2 ^ k := by
  by_cases h0 : n = 0
  · subst h0
    obtain ⟨k, hk⟩ : ∃ k, k = 1074 := ⟨_, rfl⟩
    exact ⟨0, k, by rw [fl_zero, hk]; decide, by rw [Nat.zero_mul]⟩
  obtain ⟨B, hB⟩ : ∃ B, 2 ^ 52 = B := ⟨_, rfl⟩
  have hl := log2_lt53 h h0
  obtain ⟨h1, h2, h3⟩ := fl_eq n h h0 B hB
  refine ⟨n * 2 ^ (52 - n.log2), 52 - n.log2, ?_, rfl⟩
  rw [h1, add_split _ _ _ h2, read_rung B (n.log2 + 1023) _ hB (by omega) (by omega) (sub_lt' _ _ h2 h3), sub_back _ _ h2, place_eq _ hl]

theorem shift_scaled (n k b : Nat) (hb : k ≤ b) : (n * 2 ^ k) <<< (-(k : Int) - -(b : Int)).toNat = n * 2 ^ b := by
  have : (-(k : Int) - -(b : Int)).toNat = b - k := by omega
  rw [this, Nat.shiftLeft_eq, Nat.mul_assoc, ← Nat.pow_add]
  congr 2; omega

theorem signed_pos (m up : Nat) : signed false m up = ((m <<< up : Nat) : Int) := rfl

/-- THE SUM OF TWO WHOLE NUMBERS IS EXACT. -/
theorem fl_add (a b : Nat) (h : a + b < 2 ^ 53) : double.add (fl a) (fl b) = some (fl (a + b)) := by
  obtain ⟨m, i, hm, hmi⟩ := read_fl a (by omega)
  obtain ⟨n, j, hn, hnj⟩ := read_fl b (by omega)
  unfold Format.add
  rw [hm, hn]
  simp only [Datum.sum, Option.map_some, Option.some.injEq]
  have hmin : min (-(i : Int)) (-(j : Int)) = -((max i j : Nat) : Int) := by omega
  rw [hmin, signed_pos, signed_pos, hmi, hnj, shift_scaled a i _ (by omega), shift_scaled b j _ (by omega)]
  generalize max i j = k
  have ht : ((a * 2 ^ k : Nat) : Int) + ((b * 2 ^ k : Nat) : Int) = (((a + b) * 2 ^ k : Nat) : Int) := by rw [Nat.add_mul]; rfl
  rw [ht]
  have hneg : (if (((a + b) * 2 ^ k : Nat) : Int) = 0 then (false && false) else decide ((((a + b) * 2 ^ k : Nat) : Int) < 0)) = false := by
    generalize (a + b) * 2 ^ k = t
    split
    · rfl
    · exact decide_eq_false (by omega)
  rw [hneg, Int.natAbs_natCast]
  exact nearest_scaled (a + b) k h

theorem fl_order (a : Nat) (h : a < 2 ^ 53) : double.order (fl a) (fl a) = some .eq := by
  obtain ⟨m, i, hm, _⟩ := read_fl a h
  unfold Format.order
  rw [hm]
  simp [Datum.order]

theorem fl_addBits (a b : Nat) (h : a + b < 2 ^ 53) : floatBits .add .f64 (fl a) (fl b) = some (fl (a + b)) := fl_add a b h

/-- The sum of two counts. -/
theorem fl_csum (a b c d : Nat) (h : a + c < 2 ^ 53) (h' : b + d < 2 ^ 53) : cSumBits .add .f64 (fl a) (fl b) (fl c) (fl d) = some (fl (a + c), fl (b + d)) := by
  unfold cSumBits
  rw [fl_addBits a c h, fl_addBits b d h']; rfl

theorem fl_one : fl 1 = 4607182418800017408 := by decide
theorem fl_two : fl 2 = 4611686018427387904 := by decide

/-- A whole number made a float. -/
theorem fl_ofInt (n : Nat) : floatOfInt .f64 (n : Int) = fl n := by
  unfold floatOfInt FloatKind.nearest
  have h : decide ((n : Int) < 0) = false := by simp
  rw [h, Int.natAbs_natCast]; rfl

end Go.Proofs.Ytnkbbejmehdolaa
