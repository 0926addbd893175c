/- LinkKeys over any list of objects that can be read. No conditions. -/
import Derived.Test.YtfeeeogkkajefaaLaK
import Derived.Test.YtfeeeogkkajefaaLkO
namespace Go.Proofs.Ytfeeeogkkajefaa
open Go.RowKit
theorem wf_u64 {n : Int} (h : (Lit.int .u64 n).wf = true) : 0 ≤ n ∧ n < 18446744073709551616 := by
  have := Go.bounds_u64 h
  omega
theorem wf_u8 {n : Int} (h : (Lit.int .u8 n).wf = true) : 0 ≤ n ∧ n ≤ 255 := by
  have := Go.bounds_u8 h
  omega
theorem linkkeys_walk (w : World) (v : Value) (g : ∃ l, SlObjs w (fun _ => True) v l ∧ ∀ o ∈ l, (Lit.int .u64 o.key).wf = true) (main : ByteArray) (hm : main.size ≤ maxLen) (which : Int) (hwh : (Lit.int .u8 which).wf = true) (key : Int) (hkey : (Lit.int .u64 key).wf = true) :
    Calls Try.prog 5 #[v, .string main, .int .u8 which, .int .u64 key] w fun e w' => e = .returned (.bool true) ∧ Wr [] w w' := by
  obtain ⟨l, hl, hk⟩ := g
  exact linkkeys_any l v main hm which (wf_u8 hwh) key (wf_u64 hkey) w hl (fun o ho => wf_u64 (hk o ho))
end Go.Proofs.Ytfeeeogkkajefaa
