/- The memory's functions New, Len and 'there', walked. No conditions but that the memory has at most 65535 words. -/
import Derived.Test.YtofkjcdpnkfcnaaMemB
namespace Go.Proofs.Ytofkjcdpnkfcnaa
open Go.RowKit
set_option linter.unusedVariables false

/-- Block b is a memory of n words, the words f. -/
def MemAt (w : World) (b : Nat) (n : Int) (f : Nat → Int) : Prop := Blk w b 52 (memCells f n)
theorem MemAt.lt {w : World} {b : Nat} {n : Int} {f : Nat → Int} (h : MemAt w b n f) : b < w.heap.size := Blk.lt h
theorem MemAt.wr {w w' : World} {b : Nat} {n : Int} {f : Nat → Int} {l : List Nat} (h : MemAt w b n f) (hw : Wr l w w') (hb : b ∉ l) : MemAt w' b n f := Blk.wr h hw hb
theorem MemAt.wr0 {w w' : World} {b : Nat} {n : Int} {f : Nat → Int} (h : MemAt w b n f) (hw : Wr [] w w') : MemAt w' b n f := Blk.wr0 h hw
theorem MemAt.cn {w : World} {b : Nat} {n : Int} {f : Nat → Int} (h : MemAt w b n f) : w.cell? ⟨b, 65535, none⟩ = some (.int .i64 n) := (Blk.cell h _).trans (memCells_n f n)
theorem MemAt.cm {w : World} {b : Nat} {n : Int} {f : Nat → Int} (h : MemAt w b n f) : w.cell? ⟨b, 65536, none⟩ = some (.bool true) := (Blk.cell h _).trans (memCells_made f n)
theorem MemAt.cw {w : World} {b : Nat} {n : Int} {f : Nat → Int} (h : MemAt w b n f) (i : Nat) (hi : i < 65535) : w.cell? ⟨b, i, none⟩ = some (.int .u16 (f i)) := (Blk.cell h _).trans (memCells_word f n i hi)

set_option maxHeartbeats 400000 in
theorem mem_new_ok (n : Int) (w : World) (h0 : 0 ≤ n) (h1 : n ≤ 65535) :
    Calls Try.prog 8 #[.int .i64 n] w fun e w' => e = .returned (.tuple #[.pointer (some ⟨w.heap.size, 0, none⟩), .int .i64 0]) ∧ Wr [] w w' ∧ MemAt w' w.heap.size n (fun _ => 0) := by
  have hr := fun (w : World) => run_build_mem w n
  obtain ⟨C, hC⟩ : ∃ C, memCells (fun _ => 0) n = C := ⟨_, rfl⟩
  have HC := Lib.hid hC
  rw [hC] at hr
  clear hC
  go_enter Try.func8, Try.ntmps8
  go_wp2_with (refine wpList_build rfl 52 #[(1, .tmp 10), (2, .const (.bool true))] rfl #[(1, .int .i64 n), (2, .bool true)] (by simp [Act.eval]) (.agg C) (hr _) ?_)
  go_ret2
  refine ⟨rfl, (Wr.refl _ _).alloc _, ?_⟩
  unfold MemAt; rw [HC.out]; exact Blk.new _ _ _

set_option maxHeartbeats 400000 in
theorem mem_new_no (n : Int) (w : World) (h : n < 0 ∨ 65535 < n) :
    Calls Try.prog 8 #[.int .i64 n] w fun e w' => e = .returned (.tuple #[.pointer none, .int .i64 2]) ∧ w = w' := by
  rcases h with h | h
  · go_enter Try.func8, Try.ntmps8
    go_wp2
    go_ret2
    exact ⟨rfl, rfl⟩
  · have h0 : ¬ n < 0 := by omega
    go_enter Try.func8, Try.ntmps8
    go_wp2
    go_ret2
    exact ⟨rfl, rfl⟩

set_option maxHeartbeats 400000 in
theorem mem_len_nil (w : World) :
    Calls Try.prog 10 #[.pointer none] w fun e w' => e = .returned (.int .i64 0) ∧ w = w' := by
  go_enter Try.func10, Try.ntmps10
  go_wp2
  go_ret
  exact ⟨rfl, rfl⟩

set_option maxHeartbeats 400000 in
theorem mem_len (w : World) (b : Nat) (n : Int) (f : Nat → Int) (h : MemAt w b n f) :
    Calls Try.prog 10 #[.pointer (some ⟨b, 0, none⟩)] w fun e w' => e = .returned (.int .i64 n) ∧ w = w' := by
  have c := h.cn
  go_enter Try.func10, Try.ntmps10
  go_wp2
  go_ret
  exact ⟨rfl, rfl⟩

/-- Is a row of n words there, at a place? -/
def hasB (at_ n m : Int) : Bool := decide (1 ≤ at_ ∧ at_ ≤ m + 1 ∧ n ≤ m + 1 - at_)

set_option maxHeartbeats 1000000 in
theorem mem_has (w : World) (b p q : Nat) (m : Int) (f : Nat → Int) (h : MemAt w b m f) (m0 : 0 ≤ m) (m1 : m ≤ 65535) (at_ n : Int) (a0 : -9223372036854775808 ≤ at_) (a1 : at_ ≤ 9223372036854775807)
    (cp : w.cell? ⟨p, 0, none⟩ = some (.pointer (some ⟨b, 0, none⟩))) (cq : w.cell? ⟨q, 0, none⟩ = some (.int .i64 n)) :
    Calls Try.prog 25 #[.int .i64 at_, .pointer (some ⟨p, 0, none⟩), .pointer (some ⟨q, 0, none⟩)] w fun e w' => e = .returned (.bool (hasB at_ n m)) ∧ Wr [] w w' := by
  have c := h.cn
  by_cases h1 : 1 ≤ at_
  · by_cases h2 : at_ ≤ m + 1
    · by_cases h3 : n ≤ m + 1 - at_
      · have hv : hasB at_ n m = true := by simp [hasB, h1, h2, h3]
        rw [hv]
        clear hv
        go_enter Try.func25, Try.ntmps25
        go_wp2
        go_quiet (fail)
        go_wp2
        go_ret
        exact ⟨rfl, (Wr.refl _ _).drewN _⟩
      · have hv : hasB at_ n m = false := by simp [hasB, h1, h2, h3]
        have hd : decide (n ≤ m + 1 - at_) = false := by simpa using h3
        rw [hv]
        clear hv
        go_enter Try.func25, Try.ntmps25
        go_wp2
        go_quiet (fail)
        go_wp2
        go_ret
        exact ⟨rfl, (Wr.refl _ _).drewN _⟩
    · have hv : hasB at_ n m = false := by simp [hasB, h1, h2]
      have hd : decide (at_ ≤ m + 1) = false := by simpa using h2
      rw [hv]
      clear hv
      go_enter Try.func25, Try.ntmps25
      go_wp2
      go_quiet (fail)
      go_wp2
      go_ret
      exact ⟨rfl, (Wr.refl _ _).drewN _⟩
  · have hv : hasB at_ n m = false := by simp [hasB, h1]
    have hd : decide (1 ≤ at_) = false := by simpa using h1
    rw [hv]
    clear hv
    go_enter Try.func25, Try.ntmps25
    go_wp2
    go_quiet (fail)
    go_wp2
    go_ret
    exact ⟨rfl, (Wr.refl _ _).drewN _⟩
end Go.Proofs.Ytofkjcdpnkfcnaa
