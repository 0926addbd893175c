/- LinkMay over any list of objects that can be read. No conditions. -/
import Derived.Test.YtfeeeogkkajefaaLaM
import Derived.Test.YtfeeeogkkajefaaLkO
namespace Go.Proofs.Ytfeeeogkkajefaa
open Go.RowKit
theorem linkmay_walk (w : World) (v : Value) (g : ∃ l, SlObjs w (fun _ => True) v l) (main : ByteArray) (hm : main.size ≤ maxLen) :
    Calls Try.prog 4 #[v, .string main] w fun e w' => e = .returned (.bool true) ∧ Wr [] w w' := by
  obtain ⟨l, hl⟩ := g
  exact linkmay_any l v main hm w hl
end Go.Proofs.Ytfeeeogkkajefaa
