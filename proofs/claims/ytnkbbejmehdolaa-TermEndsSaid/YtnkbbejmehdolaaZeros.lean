/- 'string(make([]byte, n))': a string of n zero bytes. No conditions but that n is below a million. -/
import Derived.Test.YtnkbbejmehdolaaCom
import Derived.Laws.IdiomStrings
namespace Go.Proofs.Ytnkbbejmehdolaa
open Go.RowKit
set_option linter.unusedVariables false

/-- n zero bytes. -/
def zeroBytes (n : Nat) : ByteArray := ⟨(List.replicate n (0 : UInt8)).toArray⟩
theorem zeroBytes_size (n : Nat) : (zeroBytes n).size = n := by simp [zeroBytes, ByteArray.size]
theorem infoU8 : (Try.prog.info? 5).map (fun i => (i.zero, i.size, i.bytes)) = some (some (.int .u8 0), 1, 1) := by kernel_rfl

theorem run_mkBytes (w : World) (n : Int) (h0 : 0 ≤ n) (h : n ≤ 1000000) :
    (Instr.makeSlice 38 (.int .i64 n) (.int .i64 n)).run Try.prog w = .ok (.slice (some ⟨w.heap.size, 0, none⟩) n.toNat n.toNat) (w.alloc (.cells (madeCells #[.int .u8 0] n.toNat) 5)) := by
  obtain ⟨i0, hi, hz0, hz1, hz2⟩ := info_parts infoU8
  have := run_make (P := Try.prog) w 38 5 i0 (.int .u8 0) Try.underlying38 hi hz0 .i64 .i64 n n h0 (Int.le_refl _) (by rw [hz2]; omega) (by omega)
  rwa [hz1, Nat.mul_one] at this

theorem run_cvBytes (w : World) (n : Nat) :
    (convert 38 9 (.slice (some ⟨w.heap.size, 0, none⟩) n n)).run Try.prog (w.alloc (.cells (madeCells #[.int .u8 0] n) 5)) = .ok (.string (zeroBytes n)) (w.alloc (.cells (madeCells #[.int .u8 0] n) 5)) := by
  have hl : (List.replicate n (0 : UInt8)).length = n := List.length_replicate
  have := run_convert_bytes_back (P := Try.prog) (w.alloc (.cells (madeCells #[.int .u8 0] n) 5)) 38 9 5 ⟨w.heap.size, 0, none⟩ n (List.replicate n 0) Try.underlying38 Try.underlying5 Try.underlying9 (fun j hj => by
    have hj' : j < n := by rwa [hl] at hj
    have e : (⟨w.heap.size, 0, none⟩ : Addr).add j = ⟨w.heap.size, j, none⟩ := by simp [Addr.add_lit]
    rw [e, World.cell?_alloc_new]
    simp [madeCells, hj', Nat.mod_one])
  rw [hl] at this
  exact this
end Go.Proofs.Ytnkbbejmehdolaa
