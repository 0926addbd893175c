/- The document's Op, Has, Number, and One; konst's One: walked. No conditions but that the values are such as Go has. -/
import Derived.Test.YtpfidbpbomamjaaKoU
namespace Go.Proofs.Ytpfidbpbomamjaa
open Go.RowKit
set_option linter.unusedVariables false
set_option linter.unusedSimpArgs false

def opCells : Array Value := #[.string ⟨#[43]⟩, .string ⟨#[45]⟩, .string ⟨#[42]⟩, .string ⟨#[47]⟩, .string ⟨#[68, 73, 86]⟩, .string ⟨#[77, 79, 68]⟩, .string ⟨#[65, 78, 68]⟩, .string ⟨#[79, 82]⟩, .string ⟨#[61]⟩, .string ⟨#[35]⟩, .string ⟨#[60]⟩, .string ⟨#[60, 61]⟩, .string ⟨#[62]⟩, .string ⟨#[62, 61]⟩, .string ⟨#[73, 78]⟩]
theorem opCells_at : ∀ k, k < 15 → opCells[k]? = some (.string (opS k))
  | 0, _ => rfl
  | 1, _ => rfl
  | 2, _ => rfl
  | 3, _ => rfl
  | 4, _ => rfl
  | 5, _ => rfl
  | 6, _ => rfl
  | 7, _ => rfl
  | 8, _ => rfl
  | 9, _ => rfl
  | 10, _ => rfl
  | 11, _ => rfl
  | 12, _ => rfl
  | 13, _ => rfl
  | 14, _ => rfl
  | n + 15, h => absurd h (by omega)
def opB (s : ByteArray) : Bool := (List.range 15).any fun k => (opS k).toList == s.toList

set_option maxHeartbeats 2000000 in
theorem op_ref (s : ByteArray) (w : World) : Calls Try.prog 29 #[.string s] w fun e w' => e = .returned (.bool (opB s)) ∧ Wr [] w w' := by
  have hw0 : ∀ k, k < 15 → (w.alloc (.cells opCells 9)).cell? ⟨w.heap.size, k, none⟩ = some (.string (opS k)) := fun k hk => ((Blk.new w 9 opCells).cell k).trans (opCells_at k hk)
  have acc : Wr [] w (w.alloc (.cells opCells 9)) := (Wr.refl [] w).alloc _
  go_enter Try.func29, Try.ntmps29
  go_wp2_with fail
  change Code.wp _ _ _ _ (w.alloc (.cells opCells 9))
  generalize w.alloc (.cells opCells 9) = w0 at *
  generalize w.heap.size = g at *
  go_loop [4] (fun i => ∃ k : Nat, k ≤ 15 ∧ i = .int .i64 k ∧ ∀ j, j < k → ((opS j).toList == s.toList) = false) (fun i => 15 - (intOf i).toNat)
  case atStart => exact ⟨0, by omega, rfl, fun j h => absurd h (by omega)⟩
  case round =>
    obtain ⟨k, hk, rfl, hno⟩ := hrel
    by_cases hlt : k < 15
    · have hcell := hw0 k hlt
      clear hw0
      by_cases he : (opS k).toList = s.toList
      · have heb : ((opS k).toList == s.toList) = true := by simp [he]
        have hv : opB s = true := by
          unfold opB
          rw [List.any_eq_true]
          exact ⟨k, by simp [hlt], heb⟩
        clear hno
        generalize opS k = so at *
        go_wp2_with fail
        go_ret
        exact ⟨rfl, acc⟩
      · have heb : ((opS k).toList == s.toList) = false := by simp [he]
        have hno' : ∀ j, j < k + 1 → ((opS j).toList == s.toList) = false := fun j hj => by
          by_cases hjk : j = k
          · subst hjk; exact heb
          · exact hno j (by omega)
        clear hno
        generalize opS k = so at hcell he heb
        go_wp2_with fail
        exact ⟨⟨k + 1, by omega, by first | rfl | (simp; done) | (simp; omega), hno'⟩, by show 15 - ((k + 1 : Nat) : Int).toNat < 15 - (k : Int).toNat; omega⟩
    · have hk15 : k = 15 := by omega
      subst hk15
      have hv : opB s = false := by
        unfold opB
        rw [List.any_eq_false]
        intro j hj
        rw [hno j (by simpa using hj)]
        simp
      clear hno hw0
      go_wp2_with fail
      go_ret
      exact ⟨rfl, acc⟩

def okR (x : KV) : Prop := x.s.size ≤ 9223372036854775807
theorem okR_letter {x : KV} (h : okR x) : okR x.letter := by
  unfold KV.letter
  split
  · show (0 : Nat) ≤ _
    omega
  · exact h

theorem boxed4 {w w1 : World} {x0 x1 x2 x3 : Value} (k1 : Wr [] (w.alloc (.cells #[x0, x1, x2, x3] 31)) w1) (u0 u1 u2 u3 : Value) :
    Wr [] w ((((w1.setCell ⟨w.heap.size, 0, none⟩ u0).setCell ⟨w.heap.size, 1, none⟩ u1).setCell ⟨w.heap.size, 2, none⟩ u2).setCell ⟨w.heap.size, 3, none⟩ u3) :=
  (((Wr.refl [] w).alloc _).trans k1).new (wr4 w1 w.heap.size u0 u1 u2 u3) (Nat.le_refl _)
set_option maxHeartbeats 1000000 in
theorem has_ref (x : KV) (hx : okR x) (w : World) : Calls Try.prog 30 #[refV x] w fun e w' => e = .returned (.bool (hasR x)) ∧ Wr [] w w' := by
  have hl := letter_ref x hx
  have hv : hasR x = ((x.letter.sort : Int) == 1 || (x.letter.sort : Int) == 2 || (x.letter.sort : Int) == 3 || (x.letter.sort : Int) == 6) := by
    rw [Bool.eq_iff_iff]
    simp [hasR, KV.is]
    omega
  rw [hv]
  clear hv
  generalize x.letter = y at hl ⊢
  unfold refV at hl ⊢
  generalize (y.sort : Int) = so at hl ⊢
  generalize (x.sort : Int) = xo at hl ⊢
  have b0 := Blk.new w 31 #[.int .i64 xo, .int .i64 x.n, .string x.s, .int .i64 x.t]
  go_enter Try.func30, Try.ntmps30
  go_wp2_with fail
  refine (hl _).mono ?_
  rintro e w1 ⟨rfl, k1⟩
  have b1 := b0.wr0 k1
  have c0 := b1.cell 0
  have c1 := b1.cell 1
  have c2 := b1.cell 2
  have c3 := b1.cell 3
  simp at c0 c1 c2 c3
  have z0 := b1.frozen 0
  have z1 := b1.frozen 1
  have z2 := b1.frozen 2
  have z3 := b1.frozen 3
  have d0 := (blk4 w1 w.heap.size 31 _ _ _ _ (.int .i64 so) (.int .i64 y.n) (.string y.s) (.int .i64 y.t) b1).cell 0
  simp at d0
  clear b0 b1 hl
  go_wp2_with fail
  all_goals
    go_ret
    refine ⟨?_, boxed4 k1 _ _ _ _⟩
    simp [*]

set_option maxHeartbeats 1000000 in
theorem number_ref (x : KV) (hx : okR x) (w : World) : Calls Try.prog 31 #[refV x] w fun e w' => e = .returned (.int .i64 (numR x)) ∧ Wr [] w w' := by
  have hl := letter_ref x hx
  have hh := has_ref x.letter (okR_letter hx)
  have hb : hasR x.letter = hasR x := by
    have e : x.letter.letter = x.letter := by
      by_cases hc : x.sort = 5 ∧ x.s.size = 1
      · simp [KV.letter, hc]
      · rw [show x.letter = x by rw [KV.letter, if_neg hc]]
        rw [KV.letter, if_neg hc]
    simp [hasR, e]
  rw [hb] at hh
  unfold numR
  generalize hasR x = q at hh ⊢
  generalize x.letter = y at hl hh ⊢
  unfold refV at hl hh ⊢
  generalize (y.sort : Int) = so at hl hh ⊢
  generalize (x.sort : Int) = xo at hl ⊢
  have b0 := Blk.new w 31 #[.int .i64 xo, .int .i64 x.n, .string x.s, .int .i64 x.t]
  go_enter Try.func31, Try.ntmps31
  go_wp2_with fail
  refine (hl _).mono ?_
  rintro e w1 ⟨rfl, k1⟩
  have b1 := b0.wr0 k1
  have c0 := b1.cell 0
  have c1 := b1.cell 1
  have c2 := b1.cell 2
  have c3 := b1.cell 3
  simp at c0 c1 c2 c3
  have z0 := b1.frozen 0
  have z1 := b1.frozen 1
  have z2 := b1.frozen 2
  have z3 := b1.frozen 3
  have bz := blk4 w1 w.heap.size 31 _ _ _ _ (.int .i64 so) (.int .i64 y.n) (.string y.s) (.int .i64 y.t) b1
  have kz := boxed4 k1 (.int .i64 so) (.int .i64 y.n) (.string y.s) (.int .i64 y.t)
  obtain ⟨w2, hw2⟩ : ∃ w2, ((((w1.setCell ⟨w.heap.size, 0, none⟩ (.int .i64 so)).setCell ⟨w.heap.size, 1, none⟩ (.int .i64 y.n)).setCell ⟨w.heap.size, 2, none⟩ (.string y.s)).setCell ⟨w.heap.size, 3, none⟩ (.int .i64 y.t)) = w2 := ⟨_, rfl⟩
  rw [hw2] at bz kz
  have d0 := bz.cell 0
  have d1 := bz.cell 1
  have d2 := bz.cell 2
  have d3 := bz.cell 3
  simp at d0 d1 d2 d3
  clear b0 b1 hl
  have HW2 := Lib.hid hw2
  clear hw2
  go_wp2_with fail
  rw [HW2.out]
  clear HW2 c0 c1 c2 c3 z0 z1 z2 z3
  go_wp2_with fail
  refine (hh _).mono ?_
  rintro e w3 ⟨rfl, k3⟩
  have e1 := (bz.wr0 k3).cell 1
  simp at e1
  clear bz d0 d1 d2 d3 hh
  cases q with
  | true =>
    go_wp2_with fail
    go_ret
    exact ⟨rfl, kz.trans k3⟩
  | false =>
    go_wp2_with fail
    go_ret
    exact ⟨rfl, kz.trans k3⟩

set_option maxHeartbeats 1000000 in
theorem one_0 {s : ByteArray} (q : s.toList = [43]) (x : KV) (hx : x.ok) (w : World) : Calls Try.prog 19 #[.string s, x.val] w fun e w' => e = .returned (.tuple #[(oneK 0 x).1.val, .int .i64 (oneK 0 x).2]) ∧ Wr [] w w' := by
  have a1 := fun w => as_whole x w
  have a3 := fun w => as_truth x w
  have hi := fun w => is_any x hx w
  by_cases h1 : x.sort = 1
  · have i1 : x.is 1 = true := by simp [KV.is, h1]
    have ib : x.isB = inB x.n := by simp [KV.isB, KV.is, h1]
    rw [i1] at a1
    rw [ib] at hi
    cases hin : inB x.n with
    | true =>
      rw [hin] at hi
      rw [show oneK 0 x = (x, 0) by simp [oneK, h1, hin]]
      generalize x.val = V at *
      go_enter Try.func19, Try.ntmps19
      go_wp2_with fail
      refine (hi _).mono ?_
      rintro e w1 ⟨rfl, k1⟩
      go_wp2_with fail
      go_ret2
      exact ⟨rfl, k1⟩
    | false =>
      rw [hin] at hi
      rw [show oneK 0 x = (KV.none_, 100) by simp [oneK, h1, hin], KV.none_val]
      generalize x.val = V at *
      go_enter Try.func19, Try.ntmps19
      go_wp2_with fail
      refine (hi _).mono ?_
      rintro e w1 ⟨rfl, k1⟩
      go_wp2_with fail
      go_ret2
      exact ⟨rfl, k1⟩
  · have i1 : x.is 1 = false := by simp [KV.is, h1]
    rw [i1] at a1
    have hv : oneK 0 x = (KV.none_, 100) := by simp [oneK, h1]
    rw [hv, KV.none_val]
    clear hv
    generalize x.val = V at *
    go_enter Try.func19, Try.ntmps19
    go_wp2_with fail
    go_ret2
    exact ⟨rfl, Wr.refl [] w⟩
set_option maxHeartbeats 1000000 in
theorem one_1 {s : ByteArray} (q : s.toList = [45]) (x : KV) (hx : x.ok) (w : World) : Calls Try.prog 19 #[.string s, x.val] w fun e w' => e = .returned (.tuple #[(oneK 1 x).1.val, .int .i64 (oneK 1 x).2]) ∧ Wr [] w w' := by
  have a1 := fun w => as_whole x w
  have a3 := fun w => as_truth x w
  have hi := fun w => is_any x hx w
  by_cases h1 : x.sort = 1
  · have i1 : x.is 1 = true := by simp [KV.is, h1]
    have ib : x.isB = inB x.n := by simp [KV.isB, KV.is, h1]
    have e1 : x.num 1 = x.n := by simp [KV.num, h1]
    rw [i1, e1] at a1
    rw [ib] at hi
    have hw := whole_any (wrap64 (-x.n))
    cases hin : inB x.n with
    | true =>
      rw [hin] at hi
      rw [show oneK 1 x = wholeK (wrap64 (-x.n)) by simp [oneK, h1, hin]]
      generalize x.val = V at *
      go_enter Try.func19, Try.ntmps19
      go_wp2_with fail
      refine (hi _).mono ?_
      rintro e w1 ⟨rfl, k1⟩
      go_wp2_with fail
      refine (hw _).mono ?_
      rintro e w2 ⟨rfl, rfl⟩
      go_wp2_with fail
      go_ret2
      exact ⟨rfl, k1⟩
    | false =>
      rw [hin] at hi
      rw [show oneK 1 x = (KV.none_, 100) by simp [oneK, h1, hin], KV.none_val]
      generalize x.val = V at *
      go_enter Try.func19, Try.ntmps19
      go_wp2_with fail
      refine (hi _).mono ?_
      rintro e w1 ⟨rfl, k1⟩
      go_wp2_with fail
      go_ret2
      exact ⟨rfl, k1⟩
  · have i1 : x.is 1 = false := by simp [KV.is, h1]
    rw [i1] at a1
    have hv : oneK 1 x = (KV.none_, 100) := by simp [oneK, h1]
    rw [hv, KV.none_val]
    clear hv
    generalize x.val = V at *
    go_enter Try.func19, Try.ntmps19
    go_wp2_with fail
    go_ret2
    exact ⟨rfl, Wr.refl [] w⟩
set_option maxHeartbeats 1000000 in
theorem one_15 {s : ByteArray} (q : s.toList = [78, 79, 84]) (x : KV) (hx : x.ok) (w : World) : Calls Try.prog 19 #[.string s, x.val] w fun e w' => e = .returned (.tuple #[(oneK 15 x).1.val, .int .i64 (oneK 15 x).2]) ∧ Wr [] w w' := by
  have a1 := fun w => as_whole x w
  have a3 := fun w => as_truth x w
  have hmi := @mkIface 40 rfl
  cases h3 : x.is 3 with
  | true =>
    rw [h3] at a3
    have hv : oneK 15 x = (KV.truth (!x.tru), 0) := by simp [oneK, KV.is_eq.1 h3]
    rw [hv, KV.truth_val]
    clear hv h3
    generalize x.val = V at *
    generalize x.tru = t at *
    go_enter Try.func19, Try.ntmps19
    go_wp2_with fail
    go_ret2
    exact ⟨rfl, Wr.refl [] w⟩
  | false =>
    rw [h3] at a3
    have hv : oneK 15 x = (KV.none_, 100) := by
      have : ¬ x.sort = 3 := fun h => by simp [KV.is, h] at h3
      simp [oneK, this]
    rw [hv, KV.none_val]
    clear hv h3
    generalize x.val = V at *
    go_enter Try.func19, Try.ntmps19
    go_wp2_with fail
    go_ret2
    exact ⟨rfl, Wr.refl [] w⟩
set_option maxHeartbeats 1000000 in
theorem one_no {s : ByteArray} (q0 : ¬s.toList = [43]) (b0 : (s.toList == [43]) = false) (q1 : ¬s.toList = [45]) (b1 : (s.toList == [45]) = false) (q2 : ¬s.toList = [78, 79, 84]) (b2 : (s.toList == [78, 79, 84]) = false) (x : KV) (w : World) :
    Calls Try.prog 19 #[.string s, x.val] w fun e w' => e = .returned (.tuple #[KV.none_.val, .int .i64 103]) ∧ Wr [] w w' := by
  have a1 := fun w => as_whole x w
  have a3 := fun w => as_truth x w
  rw [KV.none_val]
  generalize x.val = V at *
  go_enter Try.func19, Try.ntmps19
  go_wp2_with fail
  go_ret2
  exact ⟨rfl, Wr.refl [] w⟩
/-- konst.One. -/
theorem one_any (k : Nat) (hk : k < 18) (x : KV) (hx : x.ok) (w : World) : Calls Try.prog 19 #[.string (opS k), x.val] w fun e w' => e = .returned (.tuple #[(oneK k x).1.val, .int .i64 (oneK k x).2]) ∧ Wr [] w w' := by
  match k, hk with
  | 0, _ => exact one_0 (by kernel_rfl) x hx w
  | 1, _ => exact one_1 (by kernel_rfl) x hx w
  | 15, _ => exact one_15 (by kernel_rfl) x hx w
  | 2, _ => exact one_no (by decide +kernel) (by decide +kernel) (by decide +kernel) (by decide +kernel) (by decide +kernel) (by decide +kernel) x w
  | 3, _ => exact one_no (by decide +kernel) (by decide +kernel) (by decide +kernel) (by decide +kernel) (by decide +kernel) (by decide +kernel) x w
  | 4, _ => exact one_no (by decide +kernel) (by decide +kernel) (by decide +kernel) (by decide +kernel) (by decide +kernel) (by decide +kernel) x w
  | 5, _ => exact one_no (by decide +kernel) (by decide +kernel) (by decide +kernel) (by decide +kernel) (by decide +kernel) (by decide +kernel) x w
  | 6, _ => exact one_no (by decide +kernel) (by decide +kernel) (by decide +kernel) (by decide +kernel) (by decide +kernel) (by decide +kernel) x w
  | 7, _ => exact one_no (by decide +kernel) (by decide +kernel) (by decide +kernel) (by decide +kernel) (by decide +kernel) (by decide +kernel) x w
  | 8, _ => exact one_no (by decide +kernel) (by decide +kernel) (by decide +kernel) (by decide +kernel) (by decide +kernel) (by decide +kernel) x w
  | 9, _ => exact one_no (by decide +kernel) (by decide +kernel) (by decide +kernel) (by decide +kernel) (by decide +kernel) (by decide +kernel) x w
  | 10, _ => exact one_no (by decide +kernel) (by decide +kernel) (by decide +kernel) (by decide +kernel) (by decide +kernel) (by decide +kernel) x w
  | 11, _ => exact one_no (by decide +kernel) (by decide +kernel) (by decide +kernel) (by decide +kernel) (by decide +kernel) (by decide +kernel) x w
  | 12, _ => exact one_no (by decide +kernel) (by decide +kernel) (by decide +kernel) (by decide +kernel) (by decide +kernel) (by decide +kernel) x w
  | 13, _ => exact one_no (by decide +kernel) (by decide +kernel) (by decide +kernel) (by decide +kernel) (by decide +kernel) (by decide +kernel) x w
  | 14, _ => exact one_no (by decide +kernel) (by decide +kernel) (by decide +kernel) (by decide +kernel) (by decide +kernel) (by decide +kernel) x w
  | 16, _ => exact one_no (by decide +kernel) (by decide +kernel) (by decide +kernel) (by decide +kernel) (by decide +kernel) (by decide +kernel) x w
  | 17, _ => exact one_no (by decide +kernel) (by decide +kernel) (by decide +kernel) (by decide +kernel) (by decide +kernel) (by decide +kernel) x w
  | n + 18, h => exact absurd h (by omega)
end Go.Proofs.Ytpfidbpbomamjaa
