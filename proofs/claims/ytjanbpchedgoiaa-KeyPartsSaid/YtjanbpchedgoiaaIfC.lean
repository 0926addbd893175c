/- iface's May, of an interface without lists: walked. Conditions: its name is short. -/
import Derived.Test.YtjanbpchedgoiaaKeD
import Derived.Test.YtjanbpchedgoiaaIfB
namespace Go.Proofs.Ytjanbpchedgoiaa
open Go.RowKit
set_option linter.unusedVariables false
set_option linter.unusedSimpArgs false

set_option maxRecDepth 100000 in
set_option maxHeartbeats 2000000 in
theorem formed_bare (m : ByteArray) (w : World) : Calls Try.prog 31 #[.agg #[.string m, .slice none 0 0, .slice none 0 0, .slice none 0 0]] w fun e w' => e = .returned (.bool true) ∧ Wr [] w w' := by
  have hmf : ∀ (fn : Fn) (first cap : Array Value) (w : World), (Instr.makeFunc fn first cap).run Try.prog w = .ok (.func fn first cap) w := fun _ _ _ _ => rfl
  go_enter Try.func31, Try.ntmps31
  go_wp2_with fail
  refine wp_loop_rounds 1 ?_
  rw [rounds_succ]
  go_wp2_with fail
  refine wp_loop_rounds 1 ?_
  rw [rounds_succ]
  go_wp2_with fail
  go_ret
  exact ⟨rfl, (Wr.refl [] w).alloc _⟩
set_option maxRecDepth 100000 in
set_option maxHeartbeats 2000000 in
theorem may_bare (m : ByteArray) (hm : m.size ≤ 255) (w : World) : Calls Try.prog 19 #[.agg #[.string m, .slice none 0 0, .slice none 0 0, .slice none 0 0]] w fun e w' => e = .returned (.int .i64 0) ∧ Wr [] w w' := by
  have h1 := fun w => fitting_bare m hm w
  have h2 := fun w => onceU_nil w
  have h3 := fun w => onceE_nil w
  have h4 := fun w => formed_bare m w
  have bb := Blk.new w 39 #[.string m, .slice none 0 0, .slice none 0 0, .slice none 0 0]
  have r0 := (Wr.refl [] w).alloc (.cells #[.string m, .slice none 0 0, .slice none 0 0, .slice none 0 0] 39)
  go_enter Try.func19, Try.ntmps19
  go_wp2_with fail
  refine (h1 _).mono ?_
  rintro e w1 ⟨rfl, k1⟩
  replace bb := bb.wr0 k1
  replace r0 := r0.trans k1
  have c0 := bb.cell 0
  have c1 := bb.cell 1
  have c2 := bb.cell 2
  have c3 := bb.cell 3
  simp only [List.getElem?_toArray, List.getElem?_cons_zero, List.getElem?_cons_succ] at c0 c1 c2 c3
  go_wp2_with fail
  refine (h2 _).mono ?_
  rintro e w2 ⟨rfl, k2⟩
  replace bb := bb.wr0 k2
  replace r0 := r0.trans k2
  clear c0 c1 c2 c3
  have c0 := bb.cell 0
  have c1 := bb.cell 1
  have c2 := bb.cell 2
  have c3 := bb.cell 3
  simp only [List.getElem?_toArray, List.getElem?_cons_zero, List.getElem?_cons_succ] at c0 c1 c2 c3
  go_wp2_with fail
  refine (h3 _).mono ?_
  rintro e w3 ⟨rfl, k3⟩
  replace bb := bb.wr0 k3
  replace r0 := r0.trans k3
  clear c0 c1 c2 c3
  have c0 := bb.cell 0
  have c1 := bb.cell 1
  have c2 := bb.cell 2
  have c3 := bb.cell 3
  simp only [List.getElem?_toArray, List.getElem?_cons_zero, List.getElem?_cons_succ] at c0 c1 c2 c3
  go_wp2_with fail
  refine (h4 _).mono ?_
  rintro e w4 ⟨rfl, k4⟩
  go_wp2_with fail
  go_ret
  exact ⟨rfl, r0.trans k4⟩
end Go.Proofs.Ytjanbpchedgoiaa
