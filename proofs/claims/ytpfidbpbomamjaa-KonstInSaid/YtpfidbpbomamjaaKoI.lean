/- KonstIn, walked. No conditions. -/
import Derived.Test.YtpfidbpbomamjaaKoK
import Derived.Test.YtpfidbpbomamjaaArgs
namespace Go.Proofs.Ytpfidbpbomamjaa
open Go.RowKit
set_option linter.unusedVariables false
set_option linter.unusedSimpArgs false

/-- The set of the first k. -/
def setN (zs : List Int) : Nat → Nat
  | 0 => 0
  | k + 1 => setN zs k ||| 2 ^ ((zs.getD k 0).toNat % 16)
/-- Is n among the first k? -/
def hasN (zs : List Int) (n : Int) : Nat → Bool
  | 0 => false
  | k + 1 => hasN zs n k || zs.getD k 0 % 16 == n
theorem setN_lt (zs : List Int) : ∀ k, setN zs k < 2 ^ 16
  | 0 => by simp [setN]
  | k + 1 => Nat.or_lt_two_pow (setN_lt zs k) (Nat.pow_lt_pow_right (by decide) (Nat.mod_lt _ (by decide)))
theorem setN_test (zs : List Int) (n : Nat) : ∀ k, (∀ i, i < k → 0 ≤ zs.getD i 0) → (setN zs k).testBit n = hasN zs n k
  | 0, _ => by simp [setN, hasN]
  | k + 1, h => by
    have hz := h k (by omega)
    rw [setN, hasN, Nat.testBit_or, setN_test zs n k (fun i hi => h i (by omega)), Nat.testBit_two_pow]
    congr 1
    generalize zs.getD k 0 = z at hz ⊢
    rw [Bool.eq_iff_iff]
    simp
    omega
theorem hasN_small (zs : List Int) (n : Int) (hn : n < 0 ∨ 16 ≤ n) : ∀ k, (∀ i, i < k → 0 ≤ zs.getD i 0) → hasN zs n k = false
  | 0, _ => rfl
  | k + 1, h => by
    have hz := h k (by omega)
    rw [hasN, hasN_small zs n hn k (fun i hi => h i (by omega))]
    generalize zs.getD k 0 = z at hz ⊢
    simp
    omega
theorem put_16 (z : Int) (h0 : 0 ≤ z) : IntKind.u16.wrap (2 ^ (z % 16).toNat) = ((2 ^ (z.toNat % 16) : Nat) : Int) := by
  obtain ⟨m, rfl⟩ := Int.eq_ofNat_of_zero_le h0
  have e : ((m : Int) % 16).toNat = m % 16 := by omega
  have hlt : 2 ^ (m % 16) < 2 ^ 16 := Nat.pow_lt_pow_right (by decide) (Nat.mod_lt _ (by decide))
  rw [e, IntKind.wrap_u16, Int.toNat_natCast, show (2 : Int) ^ (m % 16) = ((2 ^ (m % 16) : Nat) : Int) from by simp]
  generalize 2 ^ (m % 16) = p at *
  omega
theorem inOf_test (v : Nat) (hv : v < 2 ^ 16) (n : Int) (h0 : 0 ≤ n) (h1 : n < 16) : inOf n v = v.testBit n.toNat := by
  obtain ⟨m, rfl⟩ := Int.eq_ofNat_of_zero_le h0
  have hm : m < 16 := by omega
  have e1 : bits .and .i64 (m : Int) 15 = m := by
    have : ∀ m : Nat, m < 16 → bits .and .i64 (m : Int) 15 = m := by decide +kernel
    exact this m hm
  have e2 : min (IntKind.u64.wrap (m : Int)).toNat 16 = m := by
    rw [IntKind.wrap_u64]
    omega
  have e3 : (v : Int) / 2 ^ m = ((v / 2 ^ m : Nat) : Int) := by simp
  have hq : v / 2 ^ m < 65536 := Nat.lt_of_le_of_lt (Nat.div_le_self _ _) hv
  have e4 : bits .and .u16 ((v / 2 ^ m : Nat) : Int) 1 = ((v / 2 ^ m % 2 : Nat) : Int) := by
    have := Go.u16_and_nat (v / 2 ^ m) 1 hq (by decide)
    rw [Nat.and_one_is_mod] at this
    exact this
  have e5 : decide ((m : Int) ≥ 0) = true := decide_eq_true h0
  have e6 : decide ((m : Int) < 16) = true := decide_eq_true h1
  rw [inOf, inK, e1, e2, e3, e4, e5, e6, Int.toNat_natCast, Nat.testBit_eq_decide_div_mod_eq]
  simp
  rw [Bool.eq_iff_iff]
  simp
  omega

def InAt (zs : List Int) (n : Int) (len : Nat) (w0 : World) (s b i : Value) (wr : World) : Prop :=
  ∃ k : Nat, k ≤ len ∧ s = .iface 39 (.int .u16 (setN zs k)) ∧ b = .bool (hasN zs n k) ∧ i = .int .i64 k ∧ Wr [] w0 wr

theorem in_last (n : Int) (hn : -32768 ≤ n ∧ n ≤ 32767) (zs : List Int) (k : Nat) (h : ∀ i, i < k → 0 ≤ zs.getD i 0) : inOf n (setN zs k) = hasN zs n k := by
  have hl := setN_lt zs k
  by_cases h0 : 0 ≤ n ∧ n < 16
  · rw [inOf_test _ hl n h0.1 h0.2, setN_test zs n.toNat k h]
    have : (n.toNat : Int) = n := by omega
    rw [this]
  · rw [hasN_small zs n (by omega) k h]
    unfold inOf
    by_cases h1 : 0 ≤ n
    · rw [show decide (n < 16) = false from by simp; omega]
      simp
    · rw [show decide (n ≥ 0) = false from by simp; omega]
      simp
theorem dIn (n : Int) (hn : -32768 ≤ n ∧ n ≤ 32767) (b : Int) (hb : 0 ≤ b ∧ b ≤ 65535) (v : Bool) (h : inOf n b = v) (w : World) : Calls Try.prog 11 #[.string ⟨#[73, 78]⟩, .iface 34 (.int .i64 n), .iface 39 (.int .u16 b)] w fun e w' => e = .returned (.tuple #[.iface 40 (.bool v), .int .i64 0]) ∧ Wr [] w w' := by
  have d := does_op14 (KV.whole n) (KV.bits b) (whole_ok (by omega)) (bits_ok hb) w
  have hi : inB n = true := inB_yes (by omega) (by omega)
  have hk : doesK 14 (KV.whole n) (KV.bits b) = (KV.truth v, 0) := by
    simp [doesK, KV.isB, KV.is, KV.whole, KV.bits, hi, KV.has, KV.number, KV.num, h]
  rw [hk] at d
  simp only [KV.truth_val] at d
  exact d

set_option maxHeartbeats 4000000 in
theorem in_walk (w : World) (v : Value) (g : IsInts .u8 w v) (n : Int) (wn : (Lit.int .i16 n).wf = true) :
    Calls Try.prog 5 #[v, .int .i16 n] w fun e w' => e = .returned (.bool true) ∧ Wr [] w w' := by
  obtain ⟨a, len, cap, zs, rfl, hlc, hcm, hzl, hwf, hcell⟩ := g
  have hn := Go.bounds_i16 wn
  have Hzl := Lib.hid hzl
  have HW := Lib.hid hwf
  clear hzl wn
  unfold maxLen at hcm
  have hw := fun w => works_any w
  have m1 := @mkIface 39 rfl
  have m2 := @mkIface 40 rfl
  have m3 := @mkIface 34 rfl
  by_cases h2 : 100 < len
  · go_enter Try.func5, Try.ntmps5
    go_wp2_with fail
    refine (hw _).mono ?_
    rintro e w2 ⟨rfl, k⟩
    go_wp2_with fail
    go_ret
    exact ⟨rfl, k⟩
  go_enter Try.func5, Try.ntmps5
  go_wp2_with fail
  go_loopw [5, 6, 7] (fun s b i wr => InAt zs n len w s b i wr) (fun _ _ i _ => len - (intOf i).toNat)
  case atStart =>
    exact ⟨0, by omega, rfl, rfl, rfl, Wr.refl _ _⟩
  case round =>
    obtain ⟨k, hk, rfl, rfl, rfl, hr⟩ := hrel
    by_cases hlt : k < len
    · obtain ⟨b, off, rfl, hc⟩ := hcell k hlt
      replace hc := hr.cellOf hc (by simp)
      obtain ⟨z0, z1⟩ := Go.bounds_u8 (hwf k hlt)
      have hs1 : setN zs (k + 1) = setN zs k ||| 2 ^ ((zs.getD k 0).toNat % 16) := rfl
      have hb1 : hasN zs n (k + 1) = (hasN zs n k || zs.getD k 0 % 16 == n) := rfl
      have hsl := setN_lt zs k
      have hsl1 := setN_lt zs (k + 1)
      clear hcell hwf
      have hp := put_16 (zs.getD k 0) z0
      have hpl : 2 ^ ((zs.getD k 0).toNat % 16) < 2 ^ 16 := Nat.pow_lt_pow_right (by decide) (Nat.mod_lt _ (by decide))
      have hor : bits .or .u16 (setN zs k : Int) ((2 ^ ((zs.getD k 0).toNat % 16) : Nat) : Int) = (setN zs (k + 1) : Nat) := by
        rw [hs1]
        exact Go.u16_or_nat _ _ hsl hpl
      obtain ⟨sk1, e1⟩ : ∃ x, x = setN zs (k + 1) := ⟨_, rfl⟩
      obtain ⟨bk1, e2⟩ : ∃ x, x = hasN zs n (k + 1) := ⟨_, rfl⟩
      rw [← e1] at hs1 hsl1 hor
      rw [← e2] at hb1
      have E1 := Lib.hid e1
      have E2 := Lib.hid e2
      clear e1 e2 hs1
      generalize 2 ^ ((zs.getD k 0).toNat % 16) = p at *
      generalize zs.getD k 0 = z at *
      generalize setN zs k = sk at *
      generalize hasN zs n k = bk at *
      have D := dB0 sk p (by omega) (by omega) sk1 hor
      clear hor hsl hsl1 hpl hw m1 m2 m3
      have m1 := @mkIface 39 rfl
      cases bk with
      | true =>
        rw [Bool.true_or] at hb1
        subst hb1
        go_wp2_with fail
        refine (D _).mono ?_
        clear D
        rintro e w2 ⟨rfl, r2⟩
        go_wp2_with fail
        go_roundw
        case rel => exact ⟨k + 1, by omega, by rw [E1.out], by rw [← E2.out], by go_num, hr.trans r2⟩
        case measure => simp [intOf]; omega
      | false =>
        rw [Bool.false_or] at hb1
        subst hb1
        go_wp2_with fail
        refine (D _).mono ?_
        clear D
        rintro e w2 ⟨rfl, r2⟩
        replace hc := r2.cellOf hc (by simp)
        go_wp2_with fail
        go_roundw
        case rel => exact ⟨k + 1, by omega, by rw [E1.out], by rw [← E2.out], by go_num, hr.trans r2⟩
        case measure => simp [intOf]; omega
    · have hkl : k = len := by omega
      have hz : ∀ i, i < len → 0 ≤ zs.getD i 0 := fun i hi => (Go.bounds_u8 (hwf i hi)).1
      have hlast := in_last n hn zs len hz
      have hsl := setN_lt zs len
      subst hkl
      clear hcell hwf hz Hzl HW
      generalize setN zs k = sk at *
      generalize hasN zs n k = bk at *
      have D := dIn n hn sk (by omega) bk hlast
      have S := sameT bk bk true (by simp)
      clear hlast hsl
      go_wp2_with fail
      refine (D _).mono ?_
      clear D
      rintro e w2 ⟨rfl, r2⟩
      go_wp2_with fail
      refine (S _).mono ?_
      clear S
      rintro e w3 ⟨rfl, r3⟩
      go_wp2_with fail
      refine (hw _).mono ?_
      rintro e w4 ⟨rfl, r4⟩
      go_wp2_with fail
      go_ret
      exact ⟨rfl, ((hr.trans r2).trans r3).trans r4⟩
end Go.Proofs.Ytpfidbpbomamjaa
