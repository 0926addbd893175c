/- iface's short of one text, once of nobody: walked. Conditions: the text is short. -/
import Derived.Test.YtjanbpchedgoiaaKeC
import Derived.LoopN
namespace Go.Proofs.Ytjanbpchedgoiaa
open Go.RowKit
set_option linter.unusedVariables false
set_option linter.unusedSimpArgs false

theorem short1_any (s : ByteArray) (hs : s.size ≤ 255) (w : World) : Calls Try.prog 75 #[.string s] w fun e w' => e = .returned (.bool false) ∧ w = w' := by
  have h : decide ((s.size : Int) > 255) = false := by simp; omega
  go_enter Try.func75, Try.ntmps75
  go_wp2_with fail
  go_ret
  exact ⟨rfl, rfl⟩
set_option maxHeartbeats 1000000 in
theorem index_one (g : Nat) (s : ByteArray) (hs : s.size ≤ 255) (w : World) (hc : w.cell? ⟨g, 0, none⟩ = some (.string s)) :
    Calls Try.prog 91 #[.slice (some ⟨g, 0, none⟩) 1 1, .func (.func 75) #[] #[]] w fun e w' => e = .returned (.int .i64 (-1)) ∧ w = w' := by
  have hf := fun w => short1_any s hs w
  have hen : ∀ args w, (callFunc 75 args).run Try.prog w = .ok (.enter 75 args) w := fun args w => rfl
  go_enter Try.func91, Try.ntmps91
  go_wp2_with fail
  refine wp_loop_rounds 2 ?_
  rw [rounds_succ]
  go_wp2_with fail
  refine (hf _).mono ?_
  rintro e w1 ⟨rfl, rfl⟩
  go_wp2_with fail
  rw [rounds_succ]
  go_wp2_with fail
  go_ret
  exact ⟨rfl, rfl⟩
theorem contains_one (g : Nat) (s : ByteArray) (hs : s.size ≤ 255) (w : World) (hc : w.cell? ⟨g, 0, none⟩ = some (.string s)) :
    Calls Try.prog 74 #[.slice (some ⟨g, 0, none⟩) 1 1, .func (.func 75) #[] #[]] w fun e w' => e = .returned (.bool false) ∧ w = w' := by
  have hf := index_one g s hs w hc
  go_enter Try.func74, Try.ntmps74
  go_wp2_with fail
  refine hf.mono ?_
  rintro e w1 ⟨rfl, rfl⟩
  go_wp2_with fail
  go_ret
  exact ⟨rfl, rfl⟩
theorem short_one (g : Nat) (s : ByteArray) (hs : s.size ≤ 255) (w : World) (hc : w.cell? ⟨g, 0, none⟩ = some (.string s)) :
    Calls Try.prog 54 #[.slice (some ⟨g, 0, none⟩) 1 1] w fun e w' => e = .returned (.bool true) ∧ w = w' := by
  have hf := contains_one g s hs w hc
  go_enter Try.func54, Try.ntmps54
  go_wp2_with fail
  refine hf.mono ?_
  rintro e w1 ⟨rfl, rfl⟩
  go_wp2_with fail
  go_ret
  exact ⟨rfl, rfl⟩
set_option maxHeartbeats 1000000 in
theorem onceU_nil (w : World) : Calls Try.prog 27 #[.slice none 0 0, .func (.func 28) #[] #[]] w fun e w' => e = .returned (.bool true) ∧ Wr [] w w' := by
  have hmm := @run_makeMap Try.prog
  go_enter Try.func27, Try.ntmps27
  go_wp2_with fail
  refine wp_loop_rounds 1 ?_
  rw [rounds_succ]
  go_wp2_with fail
  go_ret
  exact ⟨rfl, (Wr.refl [] w).alloc _⟩
set_option maxHeartbeats 1000000 in
theorem onceE_nil (w : World) : Calls Try.prog 29 #[.slice none 0 0, .func (.func 30) #[] #[]] w fun e w' => e = .returned (.bool true) ∧ Wr [] w w' := by
  have hmm := @run_makeMap Try.prog
  go_enter Try.func29, Try.ntmps29
  go_wp2_with fail
  refine wp_loop_rounds 1 ?_
  rw [rounds_succ]
  go_wp2_with fail
  go_ret
  exact ⟨rfl, (Wr.refl [] w).alloc _⟩
set_option maxHeartbeats 2000000 in
/-- fitting, of an interface without lists. -/
theorem fitting_bare (m : ByteArray) (hm : m.size ≤ 255) (w : World) : Calls Try.prog 26 #[.agg #[.string m, .slice none 0 0, .slice none 0 0, .slice none 0 0]] w fun e w' => e = .returned (.bool true) ∧ Wr [] w w' := by
  have hf := fun g w hc => short_one g m hm w hc
  go_enter Try.func26, Try.ntmps26
  go_wp2_with fail
  refine (hf _ _ (by simp [World.cell?_alloc_mark])).mono ?_
  rintro e w1 ⟨rfl, rfl⟩
  go_wp2_with fail
  refine wp_loop_rounds 1 ?_
  rw [rounds_succ]
  go_wp2_with fail
  refine wp_loop_rounds 1 ?_
  rw [rounds_succ]
  go_wp2_with fail
  refine wp_loop_rounds 1 ?_
  rw [rounds_succ]
  go_wp2_with fail
  go_ret
  exact ⟨rfl, ((Wr.refl [] w).alloc _).alloc _⟩
end Go.Proofs.Ytjanbpchedgoiaa
