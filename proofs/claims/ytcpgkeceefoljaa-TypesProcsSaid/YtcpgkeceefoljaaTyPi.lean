/- TypesProcs, walked whole. No conditions. -/
import Derived.Test.YtcpgkeceefoljaaTyPh
import Derived.Test.YtcpgkeceefoljaaArgs
namespace Go.Proofs.Ytcpgkeceefoljaa
open Go.RowKit
set_option linter.unusedVariables false
set_option linter.unusedSimpArgs false

set_option maxRecDepth 100000 in
set_option maxHeartbeats 2000000 in
theorem procs_many (w : World) (A : Option Addr) (n c : Nat) (o1 o2 : Int) (hcc : n ≤ c ∧ c ≤ maxLen) (hn : ¬n ≤ 20) :
    Calls Try.prog 3 #[.slice A n c, .int .u8 o1, .int .u8 o2] w fun e w' => e = .returned (.bool true) ∧ Wr [] w w' := by
  unfold maxLen at hcc
  have hn20 : (n : Int) > 20 := by omega
  go_enter Try.func3, Try.ntmps3
  go_wp2_with fail
  refine (works_any _).mono ?_
  rintro e w1 ⟨rfl, k1⟩
  go_wp2_with fail
  go_ret
  exact ⟨rfl, k1⟩

theorem procs_walk (w : World) (v : Value) (g : IsInts .u8 w v) (o1 : Int) (w1 : (Lit.int .u8 o1).wf = true) (o2 : Int) (w2 : (Lit.int .u8 o2).wf = true) :
    Calls Try.prog 3 #[v, .int .u8 o1, .int .u8 o2] w fun e w' => e = .returned (.bool true) ∧ Wr [] w w' := by
  obtain ⟨a, len, cap, zs, rfl, hlc, hcm, hzl, hwf, hcell⟩ := g
  by_cases hn : len ≤ 20
  · exact procs_main w a len cap zs ⟨hlc, hcm⟩ hcell (fun i hi => Go.bounds_u8 (hwf i hi)) o1 o2 (Go.bounds_u8 w1) (Go.bounds_u8 w2) hn
  · exact procs_many w a len cap o1 o2 ⟨hlc, hcm⟩ hn
end Go.Proofs.Ytcpgkeceefoljaa
