/- mach's within, may: walked. No conditions. -/
import Derived.Test.YtfeeeogkkajefaaLkE
import Derived.Deep.DrawnRows
import Derived.Deep.Cut
import Derived.Deep.DeepCutAuto
namespace Go.Proofs.Ytfeeeogkkajefaa
open Go.RowKit
set_option linter.unusedVariables false
set_option linter.unusedSimpArgs false

theorem within_any (n a b : Int) (w : World) : Calls Try.prog 29 #[.int .i64 n, .int .i64 a, .int .i64 b] w fun e w' => e = .returned (.bool (inB n a b)) ∧ w = w' := by
  unfold inB
  by_cases h : a ≤ n
  · have hd : decide (a ≤ n) = true := decide_eq_true h
    rw [hd, Bool.true_and]
    go_enter Try.func29, Try.ntmps29
    go_wp2_with fail
    go_ret
    exact ⟨rfl, rfl⟩
  · have hd : decide (a ≤ n) = false := decide_eq_false h
    rw [hd, Bool.false_and]
    go_enter Try.func29, Try.ntmps29
    go_wp2_with fail
    go_ret
    exact ⟨rfl, rfl⟩
set_option maxRecDepth 100000 in
set_option maxHeartbeats 2000000 in
theorem mmay_any (p : PrcD) (m : ModD) (vp vi vn : Value) (w : World) :
    Calls Try.prog 39 #[.agg p.cells.toArray, m.val vp vi vn] w fun e w' => e = .returned (.bool (prcB p m)) ∧ Wr [] w w' := by
  have h1 := fun w => within_any p.params 0 65535 w
  have h2 := fun w => within_any p.locals 0 65535 w
  have h3 := fun w => within_any p.depth 0 65535 w
  have h4 := fun w => within_any p.at_ 0 (m.code.size : Int) w
  have h5 := fun w => within_any p.level 1 16 w
  unfold prcB ModD.val ModD.cells PrcD.cells
  generalize inB p.params 0 65535 = b1 at *
  generalize inB p.locals 0 65535 = b2 at *
  generalize inB p.depth 0 65535 = b3 at *
  generalize inB p.at_ 0 (m.code.size : Int) = b4 at *
  generalize inB p.level 1 16 = b5 at *
  have acc := ((Wr.refl [] w).alloc (.cells #[.int .i64 p.at_, .int .i64 p.params, .int .i64 p.locals, .int .i64 p.depth, .int .i64 p.level, .bool p.func] 59)).alloc (.cells #[.string m.code, vp, vi, .int .i64 m.data, vn] 50)
  have HACC := Lib.hid acc
  clear acc
  go_enter Try.func39, Try.ntmps39
  go_wp2_with fail
  refine (h1 _).mono ?_
  rintro e w1 ⟨rfl, rfl⟩
  cases b1
  · go_wp2_with fail
    go_ret
    exact ⟨rfl, HACC.out⟩
  go_wp2_with fail
  refine (h2 _).mono ?_
  rintro e w1 ⟨rfl, rfl⟩
  cases b2
  · go_wp2_with fail
    go_ret
    exact ⟨rfl, HACC.out⟩
  go_wp2_with fail
  refine (h3 _).mono ?_
  rintro e w1 ⟨rfl, rfl⟩
  cases b3
  · go_wp2_with fail
    go_ret
    exact ⟨rfl, HACC.out⟩
  go_wp2_with fail
  refine (h4 _).mono ?_
  rintro e w1 ⟨rfl, rfl⟩
  cases b4
  · go_wp2_with fail
    go_ret
    exact ⟨rfl, HACC.out⟩
  go_wp2_with fail
  refine (h5 _).mono ?_
  rintro e w1 ⟨rfl, rfl⟩
  go_wp2_with fail
  go_ret
  exact ⟨by simp, HACC.out⟩
end Go.Proofs.Ytfeeeogkkajefaa
