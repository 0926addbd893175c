/- LinkLong over any number. No conditions. -/
import Derived.Test.YtfeeeogkkajefaaLaL
import Derived.OpenShut
namespace Go.Proofs.Ytfeeeogkkajefaa
open Go.RowKit
theorem long_walk (w : World) (over : Int) (ho : (Lit.int .i8 over).wf = true) :
    Calls Try.prog 6 #[.int .i8 over] w fun e w' => e = .returned (.bool true) ∧ Wr [] w w' := by
  have hb := Go.bounds_i8 ho
  exact long_any over (by omega) w
end Go.Proofs.Ytfeeeogkkajefaa
