/- KeyParts over any arguments. No conditions. -/
import Derived.Test.YtjanbpchedgoiaaFaK
import Derived.OpenShut
namespace Go.Proofs.Ytjanbpchedgoiaa
open Go.RowKit
theorem lit_u64 {n : Int} (h : (Lit.int .u64 n).wf = true) : 0 ≤ n ∧ n < 18446744073709551616 := by
  have := Go.bounds_u64 h
  omega
theorem lit_u16 {n : Int} (h : (Lit.int .u16 n).wf = true) : 0 ≤ n ∧ n < 65536 := by
  have := Go.bounds_u16 h
  omega
theorem lit_u8 {n : Int} (h : (Lit.int .u8 n).wf = true) : 0 ≤ n ∧ n < 256 := by
  have := Go.bounds_u8 h
  omega
theorem parts_walk (w : World) (s : ByteArray) (hs : s.size ≤ maxLen) (t : ByteArray) (ht : t.size ≤ maxLen) (at_ : Int) (hat : (Lit.int .u16 at_).wf = true) (by_ : Int) (hby : (Lit.int .u8 by_).wf = true) (a : Int) (ha : (Lit.int .u64 a).wf = true) (b : Int) (hb : (Lit.int .u64 b).wf = true) :
    Calls Try.prog 3 #[.string s, .string t, .int .u16 at_, .int .u8 by_, .int .u64 a, .int .u64 b] w fun e w' => e = .returned (.bool true) ∧ Wr [] w w' := by
  have h1 := lit_u16 hat
  have h2 := lit_u8 hby
  have h3 := lit_u64 ha
  have h4 := lit_u64 hb
  by_cases h : s.size ≤ 4096 ∧ t.size ≤ 4096
  · have e := parts_main alive_ok s t h.1 h.2 at_.toNat by_.toNat a.toNat b.toNat (by omega) (by omega) (by omega) (by omega) w
    rw [Int.toNat_of_nonneg h1.1, Int.toNat_of_nonneg h2.1, Int.toNat_of_nonneg h3.1, Int.toNat_of_nonneg h4.1] at e
    exact e
  · exact parts_heavy alive_ok s t hs ht at_ by_ a b h w
end Go.Proofs.Ytjanbpchedgoiaa
