/- The document's Does and One, whole. No conditions but that the values are such as Go has. -/
import Derived.Test.YtpfidbpbomamjaaKoY1
import Derived.Test.YtpfidbpbomamjaaKoY2
import Derived.Test.YtpfidbpbomamjaaKoY3
namespace Go.Proofs.Ytpfidbpbomamjaa
open Go.RowKit
set_option linter.unusedVariables false
set_option linter.unusedSimpArgs false

theorem sets_refk (k : Nat) (hk : k < 14) (a b : Int) : ∀ w, Calls Try.prog 34 #[.string (opS k), .int .i64 a, .int .i64 b] w fun e w' => e = .returned (.tuple #[refV (setsR k a b).1, .int .i64 (setsR k a b).2]) ∧ Wr [] w w' := by
  intro w
  match k, hk with
  | 0, _ =>
    rw [show setsR 0 a b = (KV.bits (bits .or .i64 a b), 0) by simp [setsR, setR, isOf]]
    exact sets_ref0 (by kernel_rfl) a b w
  | 1, _ =>
    rw [show setsR 1 a b = (KV.bits (bits .andNot .i64 a b), 0) by simp [setsR, setR, isOf]]
    exact sets_ref1 (by kernel_rfl) a b w
  | 2, _ =>
    rw [show setsR 2 a b = (KV.bits (bits .and .i64 a b), 0) by simp [setsR, setR, isOf]]
    exact sets_ref2 (by kernel_rfl) a b w
  | 3, _ =>
    rw [show setsR 3 a b = (KV.bits (bits .xor .i64 a b), 0) by simp [setsR, setR, isOf]]
    exact sets_ref3 (by kernel_rfl) a b w
  | 4, _ =>
    rw [show setsR 4 a b = (KV.none_, 100) by simp [setsR, setR, isOf]]
    exact sets_ref4 (by kernel_rfl) a b w
  | 5, _ =>
    rw [show setsR 5 a b = (KV.none_, 100) by simp [setsR, setR, isOf]]
    exact sets_ref5 (by kernel_rfl) a b w
  | 6, _ =>
    rw [show setsR 6 a b = (KV.none_, 100) by simp [setsR, setR, isOf]]
    exact sets_ref6 (by kernel_rfl) a b w
  | 7, _ =>
    rw [show setsR 7 a b = (KV.none_, 100) by simp [setsR, setR, isOf]]
    exact sets_ref7 (by kernel_rfl) a b w
  | 8, _ =>
    rw [show setsR 8 a b = (KV.truth (a == b), 0) by simp [setsR, setR, isOf]]
    exact sets_ref8 (by kernel_rfl) a b w
  | 9, _ =>
    rw [show setsR 9 a b = (KV.truth (a != b), 0) by simp [setsR, setR, isOf]]
    exact sets_ref9 (by kernel_rfl) a b w
  | 10, _ =>
    rw [show setsR 10 a b = (KV.none_, 100) by simp [setsR, setR, isOf]]
    exact sets_ref10 (by kernel_rfl) a b w
  | 11, _ =>
    rw [show setsR 11 a b = (KV.truth (bits .andNot .i64 a b == 0), 0) by simp [setsR, setR, isOf]]
    exact sets_ref11 (by kernel_rfl) a b w
  | 12, _ =>
    rw [show setsR 12 a b = (KV.none_, 100) by simp [setsR, setR, isOf]]
    exact sets_ref12 (by kernel_rfl) a b w
  | 13, _ =>
    rw [show setsR 13 a b = (KV.truth (bits .andNot .i64 b a == 0), 0) by simp [setsR, setR, isOf]]
    exact sets_ref13 (by kernel_rfl) a b w
  | n + 14, h => exact absurd h (by omega)
theorem orders_refk (k : Nat) (hk : k < 14) (a b : Int) : ∀ w, Calls Try.prog 36 #[.string (opS k), .int .i64 a, .int .i64 b] w fun e w' => e = .returned (.tuple #[refV (ordersR k a b).1, .int .i64 (ordersR k a b).2]) ∧ Wr [] w w' := by
  intro w
  match k, hk with
  | 0, _ =>
    rw [show ordersR 0 a b = (KV.none_, 100) by simp [ordersR, isAsk, askQ]]
    exact orders_ref0 (by kernel_rfl) a b w
  | 1, _ =>
    rw [show ordersR 1 a b = (KV.none_, 100) by simp [ordersR, isAsk, askQ]]
    exact orders_ref1 (by kernel_rfl) a b w
  | 2, _ =>
    rw [show ordersR 2 a b = (KV.none_, 100) by simp [ordersR, isAsk, askQ]]
    exact orders_ref2 (by kernel_rfl) a b w
  | 3, _ =>
    rw [show ordersR 3 a b = (KV.none_, 100) by simp [ordersR, isAsk, askQ]]
    exact orders_ref3 (by kernel_rfl) a b w
  | 4, _ =>
    rw [show ordersR 4 a b = (KV.none_, 100) by simp [ordersR, isAsk, askQ]]
    exact orders_ref4 (by kernel_rfl) a b w
  | 5, _ =>
    rw [show ordersR 5 a b = (KV.none_, 100) by simp [ordersR, isAsk, askQ]]
    exact orders_ref5 (by kernel_rfl) a b w
  | 6, _ =>
    rw [show ordersR 6 a b = (KV.none_, 100) by simp [ordersR, isAsk, askQ]]
    exact orders_ref6 (by kernel_rfl) a b w
  | 7, _ =>
    rw [show ordersR 7 a b = (KV.none_, 100) by simp [ordersR, isAsk, askQ]]
    exact orders_ref7 (by kernel_rfl) a b w
  | 8, _ =>
    rw [show ordersR 8 a b = (KV.truth (a == b), 0) by simp [ordersR, isAsk, askQ]]
    exact orders_ref8 (by kernel_rfl) a b w
  | 9, _ =>
    rw [show ordersR 9 a b = (KV.truth (a != b), 0) by simp [ordersR, isAsk, askQ]]
    exact orders_ref9 (by kernel_rfl) a b w
  | 10, _ =>
    rw [show ordersR 10 a b = (KV.truth (decide (a < b)), 0) by simp [ordersR, isAsk, askQ]]
    exact orders_ref10 (by kernel_rfl) a b w
  | 11, _ =>
    rw [show ordersR 11 a b = (KV.truth (decide (a ≤ b)), 0) by simp [ordersR, isAsk, askQ]]
    exact orders_ref11 (by kernel_rfl) a b w
  | 12, _ =>
    rw [show ordersR 12 a b = (KV.truth (decide (a > b)), 0) by simp [ordersR, isAsk, askQ]]
    exact orders_ref12 (by kernel_rfl) a b w
  | 13, _ =>
    rw [show ordersR 13 a b = (KV.truth (decide (a ≥ b)), 0) by simp [ordersR, isAsk, askQ]]
    exact orders_ref13 (by kernel_rfl) a b w
  | n + 14, h => exact absurd h (by omega)
theorem wholes_refk (k : Nat) (hk : k < 14) (a b : Int) : ∀ w, Calls Try.prog 35 #[.string (opS k), .int .i64 a, .int .i64 b] w fun e w' => e = .returned (.tuple #[refV (wholesR k a b).1, .int .i64 (wholesR k a b).2]) ∧ Wr [] w w' := by
  intro w
  match k, hk with
  | 0, _ =>
    rw [show wholesR 0 a b = wholeK (wrap64 (a + b)) by simp [wholesR, isReck, reckK]]
    exact wholes_ref0 (by kernel_rfl) a b w
  | 1, _ =>
    rw [show wholesR 1 a b = wholeK (wrap64 (a - b)) by simp [wholesR, isReck, reckK]]
    exact wholes_ref1 (by kernel_rfl) a b w
  | 2, _ =>
    rw [show wholesR 2 a b = wholeK (wrap64 (a * b)) by simp [wholesR, isReck, reckK]]
    exact wholes_ref2 (by kernel_rfl) a b w
  | 3, _ =>
    rw [show wholesR 3 a b = (KV.none_, 100) by simp [wholesR, isReck, reckK]]
    exact wholes_ref3 (by kernel_rfl) a b w
  | 4, _ =>
    by_cases hb : b = 0
    · rw [show wholesR 4 a b = (KV.none_, 102) by simp [wholesR, isReck, reckK, divK, hb]]
      exact wholes_ref4z (by kernel_rfl) a b hb w
    · rw [show wholesR 4 a b = wholeK (wrap64 (a.tdiv b)) by simp [wholesR, isReck, reckK, divK, hb]]
      exact wholes_ref4n (by kernel_rfl) a b hb w
  | 5, _ =>
    by_cases hb : b = 0
    · rw [show wholesR 5 a b = (KV.none_, 102) by simp [wholesR, isReck, reckK, divK, hb]]
      exact wholes_ref5z (by kernel_rfl) a b hb w
    · rw [show wholesR 5 a b = wholeK (a.tmod b) by simp [wholesR, isReck, reckK, divK, hb]]
      exact wholes_ref5n (by kernel_rfl) a b hb w
  | 6, _ =>
    rw [show wholesR 6 a b = (KV.none_, 100) by simp [wholesR, isReck, reckK]]
    exact wholes_ref6 (by kernel_rfl) a b w
  | 7, _ =>
    rw [show wholesR 7 a b = (KV.none_, 100) by simp [wholesR, isReck, reckK]]
    exact wholes_ref7 (by kernel_rfl) a b w
  | 8, _ =>
    rw [show wholesR 8 a b = (KV.none_, 100) by simp [wholesR, isReck, reckK]]
    exact wholes_ref8 (by kernel_rfl) a b w
  | 9, _ =>
    rw [show wholesR 9 a b = (KV.none_, 100) by simp [wholesR, isReck, reckK]]
    exact wholes_ref9 (by kernel_rfl) a b w
  | 10, _ =>
    rw [show wholesR 10 a b = (KV.none_, 100) by simp [wholesR, isReck, reckK]]
    exact wholes_ref10 (by kernel_rfl) a b w
  | 11, _ =>
    rw [show wholesR 11 a b = (KV.none_, 100) by simp [wholesR, isReck, reckK]]
    exact wholes_ref11 (by kernel_rfl) a b w
  | 12, _ =>
    rw [show wholesR 12 a b = (KV.none_, 100) by simp [wholesR, isReck, reckK]]
    exact wholes_ref12 (by kernel_rfl) a b w
  | 13, _ =>
    rw [show wholesR 13 a b = (KV.none_, 100) by simp [wholesR, isReck, reckK]]
    exact wholes_ref13 (by kernel_rfl) a b w
  | n + 14, h => exact absurd h (by omega)

theorem hl_of (x : KV) (ox : okR x) {so : Int} (h : (x.letter.sort : Int) = so) : ∀ w, Calls Try.prog 33 #[.agg #[.int .i64 x.sort, .int .i64 x.n, .string x.s, .int .i64 x.t]] w fun e w' =>
    e = .returned (.agg #[.int .i64 so, .int .i64 x.letter.n, .string x.letter.s, .int .i64 x.letter.t]) ∧ Wr [] w w' := by
  subst h
  exact letter_ref x ox
theorem op_yes : ∀ k, k < 15 → opB (opS k) = true := by
  have : ∀ k : Fin 15, opB (opS k) = true := by decide +kernel
  exact fun k hk => this ⟨k, hk⟩
theorem op_no : ∀ k, 15 ≤ k → k < 18 → opB (opS k) = false := by
  have : ∀ k : Fin 3, opB (opS (15 + k)) = false := by decide +kernel
  intro k h1 h2
  have := this ⟨k - 15, by omega⟩
  rwa [show 15 + (k - 15) = k by omega] at this
theorem ne_in : ∀ k, k < 14 → ¬(opS k).toList = [73, 78] := by
  have : ∀ k : Fin 14, ¬(opS k).toList = [73, 78] := by decide +kernel
  exact fun k hk => this ⟨k, hk⟩
theorem ne_eq_ne : ∀ k, k < 14 → k ≠ 8 → k ≠ 9 → ¬(opS k).toList = [61] ∧ ¬(opS k).toList = [35] := by
  have : ∀ k : Fin 14, (k : Nat) ≠ 8 → (k : Nat) ≠ 9 → ¬(opS k).toList = [61] ∧ ¬(opS k).toList = [35] := by decide +kernel
  exact fun k hk h8 h9 => this ⟨k, hk⟩ h8 h9
theorem ne_and_or : ∀ k, k < 14 → k ≠ 6 → k ≠ 7 → ¬(opS k).toList = [65, 78, 68] ∧ ¬(opS k).toList = [79, 82] := by
  have : ∀ k : Fin 14, (k : Nat) ≠ 6 → (k : Nat) ≠ 7 → ¬(opS k).toList = [65, 78, 68] ∧ ¬(opS k).toList = [79, 82] := by decide +kernel
  exact fun k hk h8 h9 => this ⟨k, hk⟩ h8 h9
theorem beq_no {s : ByteArray} {l : List UInt8} (h : ¬s.toList = l) : (s.toList == l) = false := by simp [h]
theorem reck_err {k : Nat} {a b : Int} (h : isReck k) : ¬(reckK k a b).2 = 100 := by
  have key : ∀ n, ¬(wholeK n).2 = 100 := by
    intro n
    unfold wholeK
    cases inB n <;> simp
  unfold reckK divK
  repeat' split
  all_goals first | exact key _ | simp

theorem goes_ref (k : Nat) (hk : k < 14) (x y : KV) (ox : okR x) (oy : okR y) (na : ¬x.sort = 0) (nb : ¬y.sort = 0) (hs : x.letter.sort < 8) (w : World) :
    Calls Try.prog 18 #[.string (opS k), refV x, refV y] w fun e w' => e = .returned (.tuple #[refV (goesR k x.letter y.letter).1, .int .i64 (goesR k x.letter y.letter).2]) ∧ Wr [] w w' := by
  have hop := op_yes k (by omega)
  have na' : ¬(x.sort : Int) = 0 := by omega
  have nb' : ¬(y.sort : Int) = 0 := by omega
  have na_ : ((x.sort : Int) == 0) = false := by simp; omega
  have nb_ : ((y.sort : Int) == 0) = false := by simp; omega
  have qi := ne_in k hk
  have qi_ := beq_no qi
  have zx : ¬x.letter.sort = 0 := by
    unfold KV.letter
    split
    · simp
    · exact na
  unfold goesR
  by_cases hxy : x.letter.sort = y.letter.sort
  · rw [if_neg (by simp [hxy])]
    by_cases h6 : x.letter.sort = 6
    · have g6 : y.letter.sort = 6 := by omega
      have hA := hl_of x ox (so := 6) (by omega)
      have hB := hl_of y oy (so := 6) (by omega)
      by_cases ht : x.letter.t = y.letter.t
      · rw [if_neg (by simp [ht]), if_neg (by omega), if_neg (by omega), if_neg (by omega), if_neg (by omega), if_neg (by omega), if_neg (by omega)]
        exact dr_Go6 hop na' na_ nb' nb_ qi qi_ hA hB ht (orders_refk k hk _ _) w
      · rw [if_pos ⟨h6, ht⟩]
        exact dr_G2 hop na' na_ nb' nb_ qi qi_ hA hB ht (by simp [ht]) w
    · rw [if_neg (by simp [h6])]
      by_cases h4 : x.letter.sort = 4
      · rw [if_pos h4]
        exact dr_G4 hop na' na_ nb' nb_ qi qi_ (hl_of x ox (so := 4) (by omega)) (hl_of y oy (so := 4) (by omega)) (sets_refk k hk _ _) w
      rw [if_neg h4]
      by_cases h7 : x.letter.sort = 7
      · rw [if_pos h7]
        have hA := hl_of x ox (so := 7) (by omega)
        have hB := hl_of y oy (so := 7) (by omega)
        by_cases k8 : k = 8
        · subst k8
          exact dr_G7a hop na' na_ nb' nb_ (by kernel_rfl) hA hB w
        by_cases k9 : k = 9
        · subst k9
          exact dr_G7b hop na' na_ nb' nb_ (by kernel_rfl) hA hB w
        rw [if_neg k8, if_neg k9]
        obtain ⟨q1, q2⟩ := ne_eq_ne k hk k8 k9
        exact dr_G7c hop na' na_ nb' nb_ qi qi_ q1 (beq_no q1) q2 (beq_no q2) hA hB w
      rw [if_neg h7]
      by_cases h5 : x.letter.sort = 5
      · rw [if_pos h5]
        exact dr_G5 hop na' na_ nb' nb_ qi qi_ (hl_of x ox (so := 5) (by omega)) (hl_of y oy (so := 5) (by omega)) w
      rw [if_neg h5]
      by_cases h3 : x.letter.sort = 3
      · have hA := hl_of x ox (so := 3) (by omega)
        have hB := hl_of y oy (so := 3) (by omega)
        by_cases k6 : k = 6
        · subst k6
          rw [if_pos ⟨h3, rfl⟩]
          by_cases hx1 : x.letter.n = 1
          · rw [show (x.letter.n == 1 && y.letter.n == 1) = (y.letter.n == 1) by simp [hx1]]
            exact dr_G3a hop na' na_ nb' nb_ (by kernel_rfl) hx1 hA hB w
          · rw [show (x.letter.n == 1 && y.letter.n == 1) = false by simp [hx1]]
            exact dr_G3b hop na' na_ nb' nb_ (by kernel_rfl) (by simp [hx1]) hx1 hA hB w
        by_cases k7 : k = 7
        · subst k7
          rw [if_neg (by omega), if_pos ⟨h3, rfl⟩]
          by_cases hx1 : x.letter.n = 1
          · rw [show (x.letter.n == 1 || y.letter.n == 1) = true by simp [hx1]]
            exact dr_G3c hop na' na_ nb' nb_ (by kernel_rfl) hx1 hA hB w
          · rw [show (x.letter.n == 1 || y.letter.n == 1) = (y.letter.n == 1) by simp [hx1]]
            exact dr_G3d hop na' na_ nb' nb_ (by kernel_rfl) (by simp [hx1]) hx1 hA hB w
        rw [if_neg (by omega), if_neg (by omega), if_neg (by omega)]
        obtain ⟨q1, q2⟩ := ne_and_or k hk k6 k7
        exact dr_G3e hop na' na_ nb' nb_ qi qi_ q1 (beq_no q1) q2 (beq_no q2) hA hB (orders_refk k hk _ _) w
      rw [if_neg (by omega), if_neg (by omega)]
      by_cases h1 : x.letter.sort = 1
      · have hA := hl_of x ox (so := 1) (by omega)
        have hB := hl_of y oy (so := 1) (by omega)
        have hW := wholes_refk k hk x.letter.n y.letter.n
        unfold wholesR at hW
        by_cases hr : isReck k
        · rw [if_pos ⟨h1, hr⟩]
          simp only [if_pos hr] at hW
          have he := reck_err (a := x.letter.n) (b := y.letter.n) hr
          exact dr_Gw1 hop na' na_ nb' nb_ qi qi_ hA hB hW he (by simp [he]) w
        · rw [if_neg (by simp [hr])]
          simp only [if_neg hr] at hW
          exact dr_Gw2 hop na' na_ nb' nb_ qi qi_ hA hB hW (orders_refk k hk _ _) w
      rw [if_neg (by simp [h1])]
      exact dr_Go2 hop na' na_ nb' nb_ qi qi_ (hl_of x ox (so := 2) (by omega)) (hl_of y oy (so := 2) (by omega)) (orders_refk k hk _ _) w
  · rw [if_pos hxy]
    have hne : ¬(x.letter.sort : Int) = (y.letter.sort : Int) := by omega
    exact dr_G1 hop na' na_ nb' nb_ qi qi_ (hl_of x ox rfl) (hl_of y oy rfl) hne (by simp; omega) w

/-- The document's Does. -/
theorem does_ref (k : Nat) (hk : k < 18) (x y : KV) (ox : okR x) (oy : okR y) (hs : x.letter.sort < 8) (hy4 : y.sort = 4 → 0 ≤ y.n ∧ y.n ≤ 65535) (w : World) :
    Calls Try.prog 18 #[.string (opS k), refV x, refV y] w fun e w' => e = .returned (.tuple #[refV (doesR k x y).1, .int .i64 (doesR k x y).2]) ∧ Wr [] w w' := by
  unfold doesR
  by_cases hk15 : 15 ≤ k
  · rw [if_pos hk15]
    exact dr_N (op_no k hk15 hk) w
  rw [if_neg hk15]
  have hop := op_yes k (by omega)
  by_cases na : x.sort = 0
  · rw [if_pos na]
    exact dr_Z1 hop (by omega) w
  rw [if_neg na]
  have na' : ¬(x.sort : Int) = 0 := by omega
  have na_ : ((x.sort : Int) == 0) = false := by simp; omega
  by_cases nb : y.sort = 0
  · rw [if_pos nb]
    exact dr_Z2 hop na' na_ (by omega) w
  rw [if_neg nb]
  have nb' : ¬(y.sort : Int) = 0 := by omega
  have nb_ : ((y.sort : Int) == 0) = false := by simp; omega
  by_cases k14 : k = 14
  · subst k14
    rw [if_pos rfl]
    have q : (opS 14).toList = [73, 78] := by kernel_rfl
    have hh := fun w => has_ref x ox w
    have hn := fun w => number_ref x ox w
    cases hx : hasR x with
    | false =>
      simp only [hx] at hh
      rw [if_neg (by simp)]
      exact dr_I1 hop na' na_ nb' nb_ q hh w
    | true =>
      simp only [hx] at hh
      by_cases c4 : y.sort = 4
      · rw [if_pos ⟨rfl, c4⟩]
        have c4' : (y.sort : Int) = 4 := by omega
        by_cases g0 : numR x ≥ 0
        · by_cases g1 : numR x < 16
          · rw [show inOfR (numR x) y.n = inR (numR x) y.n by simp only [inOfR, g0, g1, decide_true, Bool.true_and]]
            exact dr_I5 hop na' na_ q hh hn c4' (decide_eq_true g0) (decide_eq_true g1) ⟨g0, g1⟩ (hy4 c4) w
          · rw [show inOfR (numR x) y.n = false by simp only [inOfR, decide_eq_false g1, Bool.false_and, Bool.and_false]]
            exact dr_I4 hop na' na_ q hh hn c4' (decide_eq_true g0) (decide_eq_false g1) w
        · rw [show inOfR (numR x) y.n = false by simp only [inOfR, decide_eq_false g0, Bool.false_and]]
          exact dr_I3 hop na' na_ q hh hn c4' (decide_eq_false g0) w
      · rw [if_neg (by simp [c4])]
        exact dr_I2 hop na' na_ nb' nb_ q hh (by omega) (by simp; omega) w
  · rw [if_neg k14]
    exact goes_ref k (by omega) x y ox oy na nb hs w

set_option maxHeartbeats 1000000 in
theorem or_0y {s : ByteArray} (q : s.toList = [43]) (xn : Int) (xs_ : ByteArray) (xt_ : Int) (w : World) :
    Calls Try.prog 20 #[.string s, .agg #[.int .i64 1, .int .i64 xn, .string xs_, .int .i64 xt_]] w fun e w' => e = .returned (.tuple #[refV ⟨1, xn, xt_, xs_⟩, .int .i64 0]) ∧ Wr [] w w' := by
  have r0 := ((Wr.refl [] w).alloc (.cells #[.int .i64 1, .int .i64 xn, .string xs_, .int .i64 xt_] 31)).alloc (.cells zeroR 31)
  have bR := Blk.new (w.alloc (.cells #[.int .i64 1, .int .i64 xn, .string xs_, .int .i64 xt_] 31)) 31 zeroR
  rw [show (w.alloc (.cells #[.int .i64 1, .int .i64 xn, .string xs_, .int .i64 xt_] 31)).heap.size = w.heap.size + 1 by simp] at bR
  go_enter Try.func20, Try.ntmps20
  go_wp2_with fail
  refine bodyPost_ret (v := .tuple #[refV ⟨1, xn, xt_, xs_⟩, .int .i64 0]) ?_ rfl ⟨rfl, ((Wr.refl [] w).alloc _).alloc _⟩
  simp [results, Try.results20, go_sem, refV, KV.none_]

set_option maxHeartbeats 1000000 in
theorem or_0n {s : ByteArray} (q : s.toList = [43]) {so : Nat} (h : ¬(so : Int) = 1) (h_ : ((so : Int) != 1) = true) (xn : Int) (xs_ : ByteArray) (xt_ : Int) (w : World) :
    Calls Try.prog 20 #[.string s, .agg #[.int .i64 so, .int .i64 xn, .string xs_, .int .i64 xt_]] w fun e w' => e = .returned (.tuple #[refV KV.none_, .int .i64 100]) ∧ Wr [] w w' := by
  have r0 := ((Wr.refl [] w).alloc (.cells #[.int .i64 so, .int .i64 xn, .string xs_, .int .i64 xt_] 31)).alloc (.cells zeroR 31)
  have bR := Blk.new (w.alloc (.cells #[.int .i64 so, .int .i64 xn, .string xs_, .int .i64 xt_] 31)) 31 zeroR
  rw [show (w.alloc (.cells #[.int .i64 so, .int .i64 xn, .string xs_, .int .i64 xt_] 31)).heap.size = w.heap.size + 1 by simp] at bR
  go_enter Try.func20, Try.ntmps20
  go_wp2_with fail
  refine bodyPost_ret (v := .tuple #[refV KV.none_, .int .i64 100]) ?_ rfl ⟨rfl, ((Wr.refl [] w).alloc _).alloc _⟩
  simp [results, Try.results20, go_sem, refV, KV.none_]

set_option maxHeartbeats 1000000 in
theorem or_1y {s : ByteArray} (q : s.toList = [45]) (xn : Int) (xs_ : ByteArray) (xt_ : Int) (w : World) :
    Calls Try.prog 20 #[.string s, .agg #[.int .i64 1, .int .i64 xn, .string xs_, .int .i64 xt_]] w fun e w' => e = .returned (.tuple #[refV (wholeK (wrap64 (-xn))).1, .int .i64 (wholeK (wrap64 (-xn))).2]) ∧ Wr [] w w' := by
  have r0 := ((Wr.refl [] w).alloc (.cells #[.int .i64 1, .int .i64 xn, .string xs_, .int .i64 xt_] 31)).alloc (.cells zeroR 31)
  have bR := Blk.new (w.alloc (.cells #[.int .i64 1, .int .i64 xn, .string xs_, .int .i64 xt_] 31)) 31 zeroR
  rw [show (w.alloc (.cells #[.int .i64 1, .int .i64 xn, .string xs_, .int .i64 xt_] 31)).heap.size = w.heap.size + 1 by simp] at bR
  go_enter Try.func20, Try.ntmps20
  go_wp2_with fail
  refine (whole_ref (wrap64 (-xn)) _).mono ?_
  rintro e w1 ⟨rfl, k1⟩
  have b1 := bR.wr0 k1
  have r1 := r0.trans k1
  have f0 := b1.cell 0
  have f1 := b1.cell 1
  have f2 := b1.cell 2
  have f3 := b1.cell 3
  simp [zeroR] at f0 f1 f2 f3
  have z0 := b1.frozen 0
  have z1 := b1.frozen 1
  have z2 := b1.frozen 2
  have z3 := b1.frozen 3
  unfold refV
  go_wp2_with fail
  clear f0 f1 f2 f3 z0 z1 z2 z3
  obtain ⟨y1, y2⟩ := end4 (x0 := .int .i64 0) (x1 := .int .i64 0) (x2 := .string ⟨#[]⟩) (x3 := .int .i64 0) r1 (by omega) b1 _ _ _ _
  have d0 := y2.cell 0
  have d1 := y2.cell 1
  have d2 := y2.cell 2
  have d3 := y2.cell 3
  simp at d0 d1 d2 d3
  refine bodyPost_ret (v := .tuple #[refV (wholeK (wrap64 (-xn))).1, .int .i64 (wholeK (wrap64 (-xn))).2]) ?_ rfl ⟨rfl, y1⟩
  simp [results, Try.results20, go_sem, d0, d1, d2, d3, refV]

set_option maxHeartbeats 1000000 in
theorem or_1n {s : ByteArray} (q : s.toList = [45]) {so : Nat} (h : ¬(so : Int) = 1) (h_ : ((so : Int) != 1) = true) (xn : Int) (xs_ : ByteArray) (xt_ : Int) (w : World) :
    Calls Try.prog 20 #[.string s, .agg #[.int .i64 so, .int .i64 xn, .string xs_, .int .i64 xt_]] w fun e w' => e = .returned (.tuple #[refV KV.none_, .int .i64 100]) ∧ Wr [] w w' := by
  have r0 := ((Wr.refl [] w).alloc (.cells #[.int .i64 so, .int .i64 xn, .string xs_, .int .i64 xt_] 31)).alloc (.cells zeroR 31)
  have bR := Blk.new (w.alloc (.cells #[.int .i64 so, .int .i64 xn, .string xs_, .int .i64 xt_] 31)) 31 zeroR
  rw [show (w.alloc (.cells #[.int .i64 so, .int .i64 xn, .string xs_, .int .i64 xt_] 31)).heap.size = w.heap.size + 1 by simp] at bR
  go_enter Try.func20, Try.ntmps20
  go_wp2_with fail
  refine bodyPost_ret (v := .tuple #[refV KV.none_, .int .i64 100]) ?_ rfl ⟨rfl, ((Wr.refl [] w).alloc _).alloc _⟩
  simp [results, Try.results20, go_sem, refV, KV.none_]

set_option maxHeartbeats 1000000 in
theorem or_15y {s : ByteArray} (q : s.toList = [78, 79, 84]) (xn : Int) (xs_ : ByteArray) (xt_ : Int) (w : World) :
    Calls Try.prog 20 #[.string s, .agg #[.int .i64 3, .int .i64 xn, .string xs_, .int .i64 xt_]] w fun e w' => e = .returned (.tuple #[refV (KV.truth (xn == 0)), .int .i64 0]) ∧ Wr [] w w' := by
  have r0 := ((Wr.refl [] w).alloc (.cells #[.int .i64 3, .int .i64 xn, .string xs_, .int .i64 xt_] 31)).alloc (.cells zeroR 31)
  have bR := Blk.new (w.alloc (.cells #[.int .i64 3, .int .i64 xn, .string xs_, .int .i64 xt_] 31)) 31 zeroR
  rw [show (w.alloc (.cells #[.int .i64 3, .int .i64 xn, .string xs_, .int .i64 xt_] 31)).heap.size = w.heap.size + 1 by simp] at bR
  go_enter Try.func20, Try.ntmps20
  go_wp2_with fail
  refine (truth_ref (xn == 0) _).mono ?_
  rintro e w1 ⟨rfl, k1⟩
  have b1 := bR.wr0 k1
  have r1 := r0.trans k1
  have f0 := b1.cell 0
  have f1 := b1.cell 1
  have f2 := b1.cell 2
  have f3 := b1.cell 3
  simp [zeroR] at f0 f1 f2 f3
  have z0 := b1.frozen 0
  have z1 := b1.frozen 1
  have z2 := b1.frozen 2
  have z3 := b1.frozen 3
  unfold refV
  go_wp2_with fail
  clear f0 f1 f2 f3 z0 z1 z2 z3
  obtain ⟨y1, y2⟩ := end4 (x0 := .int .i64 0) (x1 := .int .i64 0) (x2 := .string ⟨#[]⟩) (x3 := .int .i64 0) r1 (by omega) b1 _ _ _ _
  have d0 := y2.cell 0
  have d1 := y2.cell 1
  have d2 := y2.cell 2
  have d3 := y2.cell 3
  simp at d0 d1 d2 d3
  refine bodyPost_ret (v := .tuple #[refV (KV.truth (xn == 0)), .int .i64 0]) ?_ rfl ⟨rfl, y1⟩
  simp [results, Try.results20, go_sem, d0, d1, d2, d3, refV]

set_option maxHeartbeats 1000000 in
theorem or_15n {s : ByteArray} (q : s.toList = [78, 79, 84]) {so : Nat} (h : ¬(so : Int) = 3) (h_ : ((so : Int) != 3) = true) (xn : Int) (xs_ : ByteArray) (xt_ : Int) (w : World) :
    Calls Try.prog 20 #[.string s, .agg #[.int .i64 so, .int .i64 xn, .string xs_, .int .i64 xt_]] w fun e w' => e = .returned (.tuple #[refV KV.none_, .int .i64 100]) ∧ Wr [] w w' := by
  have r0 := ((Wr.refl [] w).alloc (.cells #[.int .i64 so, .int .i64 xn, .string xs_, .int .i64 xt_] 31)).alloc (.cells zeroR 31)
  have bR := Blk.new (w.alloc (.cells #[.int .i64 so, .int .i64 xn, .string xs_, .int .i64 xt_] 31)) 31 zeroR
  rw [show (w.alloc (.cells #[.int .i64 so, .int .i64 xn, .string xs_, .int .i64 xt_] 31)).heap.size = w.heap.size + 1 by simp] at bR
  go_enter Try.func20, Try.ntmps20
  go_wp2_with fail
  refine bodyPost_ret (v := .tuple #[refV KV.none_, .int .i64 100]) ?_ rfl ⟨rfl, ((Wr.refl [] w).alloc _).alloc _⟩
  simp [results, Try.results20, go_sem, refV, KV.none_]

set_option maxHeartbeats 1000000 in
theorem or_no {s : ByteArray} (q0 : ¬s.toList = [43]) (b0 : (s.toList == [43]) = false) (q1 : ¬s.toList = [45]) (b1_ : (s.toList == [45]) = false) (q2 : ¬s.toList = [78, 79, 84]) (b2 : (s.toList == [78, 79, 84]) = false) {so : Nat} (xn : Int) (xs_ : ByteArray) (xt_ : Int) (w : World) :
    Calls Try.prog 20 #[.string s, .agg #[.int .i64 so, .int .i64 xn, .string xs_, .int .i64 xt_]] w fun e w' => e = .returned (.tuple #[refV KV.none_, .int .i64 103]) ∧ Wr [] w w' := by
  have r0 := ((Wr.refl [] w).alloc (.cells #[.int .i64 so, .int .i64 xn, .string xs_, .int .i64 xt_] 31)).alloc (.cells zeroR 31)
  have bR := Blk.new (w.alloc (.cells #[.int .i64 so, .int .i64 xn, .string xs_, .int .i64 xt_] 31)) 31 zeroR
  rw [show (w.alloc (.cells #[.int .i64 so, .int .i64 xn, .string xs_, .int .i64 xt_] 31)).heap.size = w.heap.size + 1 by simp] at bR
  go_enter Try.func20, Try.ntmps20
  go_wp2_with fail
  refine bodyPost_ret (v := .tuple #[refV KV.none_, .int .i64 103]) ?_ rfl ⟨rfl, ((Wr.refl [] w).alloc _).alloc _⟩
  simp [results, Try.results20, go_sem, refV, KV.none_]

/-- The document's One. -/
theorem one_ref (k : Nat) (hk : k < 18) (x : KV) (w : World) : Calls Try.prog 20 #[.string (opS k), refV x] w fun e w' => e = .returned (.tuple #[refV (oneR k x).1, .int .i64 (oneR k x).2]) ∧ Wr [] w w' := by
  obtain ⟨so, xn, xt, xs⟩ := x
  unfold oneR
  by_cases k0 : k = 0
  · subst k0
    rw [if_pos rfl]
    by_cases h : so = 1
    · subst h
      rw [if_pos rfl]
      exact or_0y (by kernel_rfl) xn xs xt w
    · rw [if_neg h]
      exact or_0n (so := so) (by kernel_rfl) (by omega) (by simp; omega) xn xs xt w
  rw [if_neg k0]
  by_cases k1 : k = 1
  · subst k1
    rw [if_pos rfl]
    by_cases h : so = 1
    · subst h
      rw [if_pos rfl]
      exact or_1y (by kernel_rfl) xn xs xt w
    · rw [if_neg h]
      exact or_1n (so := so) (by kernel_rfl) (by omega) (by simp; omega) xn xs xt w
  rw [if_neg k1]
  by_cases k15 : k = 15
  · subst k15
    rw [if_pos rfl]
    by_cases h : so = 3
    · subst h
      rw [if_pos rfl]
      exact or_15y (by kernel_rfl) xn xs xt w
    · rw [if_neg h]
      exact or_15n (so := so) (by kernel_rfl) (by omega) (by simp; omega) xn xs xt w
  rw [if_neg k15]
  have hq : ¬(opS k).toList = [43] ∧ ¬(opS k).toList = [45] ∧ ¬(opS k).toList = [78, 79, 84] := by
    have : ∀ k : Fin 18, (k : Nat) ≠ 0 → (k : Nat) ≠ 1 → (k : Nat) ≠ 15 → ¬(opS k).toList = [43] ∧ ¬(opS k).toList = [45] ∧ ¬(opS k).toList = [78, 79, 84] := by decide +kernel
    exact this ⟨k, hk⟩ k0 k1 k15
  exact or_no hq.1 (beq_no hq.1) hq.2.1 (beq_no hq.2.1) hq.2.2 (beq_no hq.2.2) xn xs xt w
end Go.Proofs.Ytpfidbpbomamjaa
