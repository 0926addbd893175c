/- The law's own known answers ('alive'), and the law TermNil, walked. No conditions. -/
import Derived.Test.YtnkbbejmehdolaaTermF
namespace Go.Proofs.Ytnkbbejmehdolaa
open Go.RowKit
set_option linter.unusedVariables false

set_option maxHeartbeats 1000000 in
theorem term_alive (w : World) :
    Calls Try.prog 8 #[] w fun e w' => e = .returned (.bool true) ∧ Wr [] w w' := by
  go_enter Try.func8, Try.ntmps8
  go_wp2_with fail
  refine (term_new_ok ⟨#[97, 98]⟩ 3 _ (by decide) (by decide) (by decide)).mono ?_
  rintro e w1 ⟨rfl, r1, t1⟩
  go_wp2_with fail
  refine (term_read _ _ _ _ _ _ _ t1 (by decide) (by decide) (by decide) (by decide)).mono ?_
  rintro e w2 ⟨rfl, k, t2⟩
  have r2 := r1.new k (Nat.le_refl _)
  clear t1 r1 k
  go_wp2_with fail
  refine (term_write _ _ _ _ ⟨#[120, 121]⟩ _ _ _ t2 (by decide) (by decide) (by decide) (by decide)).mono ?_
  rintro e w3 ⟨rfl, k, t3⟩
  have r3 := r2.new k (Nat.le_refl _)
  clear t2 r2 k
  go_wp2_with fail
  refine (term_write_no _ _ _ _ ⟨#[122, 122]⟩ _ _ _ t3 (by decide) (by decide) (by decide) (by decide)).mono ?_
  rintro e w4 ⟨rfl, k, t4⟩
  have r4 := r3.trans k
  replace t4 : TermAt w4 w.heap.size ⟨#[98]⟩ ⟨#[120, 121]⟩ 3 1 2 := t4
  have hc := term_count _ _ _ _ _ _ _ t4
  rw [fl_one, fl_two] at hc
  clear t3 r3 k
  go_wp2_with fail
  refine hc.mono ?_
  clear hc
  rintro e w4 ⟨rfl, rfl⟩
  go_wp2_with fail
  refine (term_new_low ⟨#[]⟩ (-1) _ (by decide) (by decide)).mono ?_
  rintro e w4 ⟨rfl, rfl⟩
  go_wp2_with fail
  refine (term_out _ _ _ _ _ _ _ t4).mono ?_
  rintro e w4 ⟨rfl, rfl⟩
  have o1 : FloatKind.f64.format.order 4607182418800017408 4607182418800017408 = some .eq := by decide
  have o2 : FloatKind.f64.format.order 4611686018427387904 4611686018427387904 = some .eq := by decide
  go_wp2_with fail
  refine (term_read _ _ _ _ _ _ _ t4 (by decide) (by decide) (by decide) (by decide)).mono ?_
  rintro e w5 ⟨rfl, k, t5⟩
  have r5 := r4.new k (Nat.le_refl _)
  replace t5 : TermAt w5 w.heap.size ⟨#[]⟩ ⟨#[120, 121]⟩ 3 2 2 := t5
  clear t4 r4 k
  go_wp2_with fail
  refine (term_read_end _ _ _ _ _ _ t5).mono ?_
  rintro e w6 ⟨rfl, rfl⟩
  go_wp2_with fail
  go_ret
  exact ⟨rfl, r5⟩

set_option maxHeartbeats 400000 in
theorem term_nil_walk (w : World) (s : ByteArray) (hs : s.size ≤ maxLen) :
    Calls Try.prog 6 #[.string s] w fun e w' => e = .returned (.bool true) ∧ Wr [] w w' := by
  unfold maxLen at hs
  by_cases hl : s.size ≤ 4096
  · go_enter Try.func6, Try.ntmps6
    go_wp2_with fail
    refine (term_read_nil _).mono ?_
    rintro e w1 ⟨rfl, rfl⟩
    go_wp2_with fail
    refine (term_write_nil _ _).mono ?_
    rintro e w1 ⟨rfl, r1⟩
    go_wp2_with fail
    refine (term_out_nil _).mono ?_
    rintro e w1 ⟨rfl, rfl⟩
    go_wp2_with fail
    refine (term_count_nil _).mono ?_
    rintro e w1 ⟨rfl, rfl⟩
    go_wp2_with fail
    refine (term_alive _).mono ?_
    rintro e w2 ⟨rfl, r2⟩
    go_wp2_with fail
    go_ret
    exact ⟨rfl, r1.trans r2⟩
  · go_enter Try.func6, Try.ntmps6
    go_wp2_with fail
    refine (term_alive _).mono ?_
    rintro e w2 ⟨rfl, r2⟩
    go_wp2_with fail
    go_ret
    exact ⟨rfl, r2⟩
end Go.Proofs.Ytnkbbejmehdolaa
