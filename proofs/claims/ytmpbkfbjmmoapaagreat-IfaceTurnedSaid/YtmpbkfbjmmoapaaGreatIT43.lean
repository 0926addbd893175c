/- IfaceTurned, over the arguments as they are opened. No conditions. -/
import Derived.Test.YtmpbkfbjmmoapaaGreatIT42
import Derived.Test.YtmpbkfbjmmoapaaGreatIT05
namespace Go.Proofs.YtmpbkfbjmmoapaaGreat
open Go.RowKit
set_option maxRecDepth 100000 in
theorem open_u8sT {H : Type} {enc : TypeId × Value → H} {W : World} {r : Reach} {b0 : Nat} {v : Value} {d : DataW H} {p : List MemPlace}
  (hv : Value.okWide Tryz.prog W r b0 27 v) (h : DataW.Trod enc Tryz.prog W 0 (fun _ => true) true 27 v d p) : IsInts .u8 W v :=
 open_ints_arg Tryz.underlying27 Tryz.underlying5 (by kernel_rfl) hv h
theorem ifaceTurned_walk (w : World) (v : Value) (h : IsFaceB w v) (u : Value) (k : IsInts .u8 w u) : Calls Tryz.prog 3 #[v, u] w fun e w' => e = .returned (.bool true) ∧ Wr [] w w' := by
 obtain ⟨f, vu, vt, vi, rfl, h1, h2, h3, h4, h5, h6⟩ := h
 exact ifaceTurned_main f _ _ _ u _ w h1 k h2 h3 h5 h6
end Go.Proofs.YtmpbkfbjmmoapaaGreat
