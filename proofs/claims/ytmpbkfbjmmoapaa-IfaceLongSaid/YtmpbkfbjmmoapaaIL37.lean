/- IfaceLong, over the argument as it is opened. No conditions. -/
import Derived.Test.YtmpbkfbjmmoapaaIL36
namespace Go.Proofs.Ytmpbkfbjmmoapaa
open Go.RowKit
theorem ifaceLong_walk (w : World) (a : Int) (ha : (Lit.int .i8 a).wf = true) : Calls Try.prog 4 #[.int .i8 a] w fun e w' => e = .returned (.bool true) ∧ Wr [] w w' := by
  have hb : -128 ≤ a ∧ a ≤ 127 := by
    have := ha
    simp [Lit.wf, IntKind.min, IntKind.max, IntKind.bits, IntKind.signed] at this
    omega
  exact ifaceLong_any a hb w
end Go.Proofs.Ytmpbkfbjmmoapaa
