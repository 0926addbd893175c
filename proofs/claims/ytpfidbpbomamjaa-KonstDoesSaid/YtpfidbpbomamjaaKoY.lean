/- The document's Does and One: walked. No conditions but that the values are such as Go has. -/
import Derived.Test.YtpfidbpbomamjaaKoX
namespace Go.Proofs.Ytpfidbpbomamjaa
open Go.RowKit
set_option linter.unusedVariables false
set_option linter.unusedSimpArgs false

theorem end4 {w w1 : World} {g : Nat} {x0 x1 x2 x3 : Value} (acc : Wr [] w w1) (hg : w.heap.size ≤ g) (bR : Blk w1 g 31 zeroR) (u0 u1 u2 u3 : Value) :
    Wr [] w ((((w1.setCell ⟨g, 0, none⟩ u0).setCell ⟨g, 1, none⟩ u1).setCell ⟨g, 2, none⟩ u2).setCell ⟨g, 3, none⟩ u3) ∧
    Blk ((((w1.setCell ⟨g, 0, none⟩ u0).setCell ⟨g, 1, none⟩ u1).setCell ⟨g, 2, none⟩ u2).setCell ⟨g, 3, none⟩ u3) g 31 #[u0, u1, u2, u3] :=
  ⟨acc.new (wr4 w1 g u0 u1 u2 u3) hg, blk4 _ _ _ _ _ _ _ _ _ _ _ bR⟩
def put4 (w : World) (g : Nat) (u0 u1 u2 u3 : Value) : World := (((w.setCell ⟨g, 0, none⟩ u0).setCell ⟨g, 1, none⟩ u1).setCell ⟨g, 2, none⟩ u2).setCell ⟨g, 3, none⟩ u3
theorem fold4 (w : World) (g : Nat) (u0 u1 u2 u3 : Value) : ((((w.setCell ⟨g, 0, none⟩ u0).setCell ⟨g, 1, none⟩ u1).setCell ⟨g, 2, none⟩ u2).setCell ⟨g, 3, none⟩ u3) = put4 w g u0 u1 u2 u3 := rfl
theorem put4_wr {w w1 : World} {g : Nat} (acc : Wr [] w w1) (hg : w.heap.size ≤ g) (u0 u1 u2 u3 : Value) : Wr [] w (put4 w1 g u0 u1 u2 u3) := acc.new (wr4 w1 g u0 u1 u2 u3) hg
theorem put4_blk {w1 : World} {g : Nat} {x0 x1 x2 x3 : Value} (b : Blk w1 g 31 #[x0, x1, x2, x3]) (u0 u1 u2 u3 : Value) : Blk (put4 w1 g u0 u1 u2 u3) g 31 #[u0, u1, u2, u3] := blk4 _ _ _ _ _ _ _ _ _ _ _ b
theorem put4_far {w1 : World} {g h : Nat} {cs : Array Value} (b : Blk w1 h 31 cs) (hne : h ≠ g) (u0 u1 u2 u3 : Value) : Blk (put4 w1 g u0 u1 u2 u3) h 31 cs := by
  unfold put4
  exact (((b.far hne u0).far hne u1).far hne u2).far hne u3

end Go.Proofs.Ytpfidbpbomamjaa
