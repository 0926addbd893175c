/- The terminal's functions, walked: what each call answers, and what becomes of the terminal's block. No conditions but that the counts are below 2 to the 53. -/
import Derived.Test.YtnkbbejmehdolaaCom
import Derived.Test.YtnkbbejmehdolaaNum
namespace Go.Proofs.Ytnkbbejmehdolaa
open Go.RowKit
set_option linter.unusedVariables false

/-- The block of a terminal. -/
def TermAt (w : World) (b : Nat) (s out : ByteArray) (most : Int) (r i : Nat) : Prop :=
  Blk w b 43 #[.string s, .string out, .int .i64 most, .complex .f64 (fl r) (fl i), .bool true]

theorem TermAt.lt {w : World} {b : Nat} {s out : ByteArray} {most : Int} {r i : Nat} (h : TermAt w b s out most r i) : b < w.heap.size := Blk.lt h
theorem TermAt.wr {w w' : World} {b : Nat} {s out : ByteArray} {most : Int} {r i : Nat} {l : List Nat} (h : TermAt w b s out most r i) (hw : Wr l w w') (hb : b ∉ l) : TermAt w' b s out most r i := Blk.wr h hw hb
theorem TermAt.wr0 {w w' : World} {b : Nat} {s out : ByteArray} {most : Int} {r i : Nat} (h : TermAt w b s out most r i) (hw : Wr [] w w') : TermAt w' b s out most r i := Blk.wr0 h hw

set_option maxHeartbeats 400000 in
theorem term_new_ok (s : ByteArray) (most : Int) (w : World) (hs : s.size ≤ 16384) (h0 : 0 ≤ most) (h1 : most ≤ 16384) :
    Calls Try.prog 9 #[.string s, .int .i64 most] w fun e w' => e = .returned (.tuple #[.pointer (some ⟨w.heap.size, 0, none⟩), .int .i64 0]) ∧
      Wr [] w w' ∧ TermAt w' w.heap.size s ⟨#[]⟩ most 0 0 := by
  go_enter Try.func9, Try.ntmps9
  go_wp2
  go_ret2
  refine ⟨rfl, (Wr.refl _ _).alloc _, ?_⟩
  unfold TermAt; rw [fl_zero]; exact Blk.new _ _ _

set_option maxHeartbeats 400000 in
theorem term_new_long (s : ByteArray) (most : Int) (w : World) (hm : s.size ≤ maxLen) (hs : 16384 < s.size) :
    Calls Try.prog 9 #[.string s, .int .i64 most] w fun e w' => e = .returned (.tuple #[.pointer none, .int .i64 5]) ∧ w = w' := by
  unfold maxLen at hm
  go_enter Try.func9, Try.ntmps9
  go_wp2
  go_ret2
  exact ⟨rfl, rfl⟩

set_option maxHeartbeats 400000 in
theorem term_new_low (s : ByteArray) (most : Int) (w : World) (hs : s.size ≤ 16384) (h0 : most < 0) :
    Calls Try.prog 9 #[.string s, .int .i64 most] w fun e w' => e = .returned (.tuple #[.pointer none, .int .i64 2]) ∧ w = w' := by
  go_enter Try.func9, Try.ntmps9
  go_wp2
  go_ret2
  exact ⟨rfl, rfl⟩

set_option maxHeartbeats 400000 in
theorem term_new_high (s : ByteArray) (most : Int) (w : World) (hs : s.size ≤ 16384) (h0 : 16384 < most) :
    Calls Try.prog 9 #[.string s, .int .i64 most] w fun e w' => e = .returned (.tuple #[.pointer none, .int .i64 2]) ∧ w = w' := by
  have h0' : ¬ most < 0 := by omega
  go_enter Try.func9, Try.ntmps9
  go_wp2
  go_ret2
  exact ⟨rfl, rfl⟩

set_option maxHeartbeats 400000 in
theorem term_read_nil (w : World) :
    Calls Try.prog 10 #[.pointer none] w fun e w' => e = .returned (.int .u8 0) ∧ w = w' := by
  go_enter Try.func10, Try.ntmps10
  go_wp2
  go_ret
  exact ⟨rfl, rfl⟩

set_option maxHeartbeats 400000 in
theorem term_out_nil (w : World) :
    Calls Try.prog 13 #[.pointer none] w fun e w' => e = .returned (.string ⟨#[]⟩) ∧ w = w' := by
  go_enter Try.func13, Try.ntmps13
  go_wp2
  go_ret
  exact ⟨rfl, rfl⟩

set_option maxHeartbeats 400000 in
theorem term_count_nil (w : World) :
    Calls Try.prog 12 #[.pointer none] w fun e w' => e = .returned (.complex .f64 0 0) ∧ w = w' := by
  go_enter Try.func12, Try.ntmps12
  go_wp2
  go_ret
  exact ⟨rfl, rfl⟩

set_option maxHeartbeats 400000 in
theorem term_write_nil (s : ByteArray) (w : World) :
    Calls Try.prog 11 #[.pointer none, .string s] w fun e w' => e = .returned (.bool false) ∧ Wr [] w w' := by
  go_enter Try.func11, Try.ntmps11
  go_wp2
  go_quiet (fail)
  go_wp2
  go_ret
  exact ⟨rfl, (Wr.refl _ _).drewN _⟩

set_option maxHeartbeats 400000 in
theorem term_out (w : World) (b : Nat) (s out : ByteArray) (most : Int) (r i : Nat) (h : TermAt w b s out most r i) :
    Calls Try.prog 13 #[.pointer (some ⟨b, 0, none⟩)] w fun e w' => e = .returned (.string out) ∧ w = w' := by
  have c := h.cell 1
  simp at c
  go_enter Try.func13, Try.ntmps13
  go_wp2
  go_ret
  exact ⟨rfl, rfl⟩

set_option maxHeartbeats 400000 in
theorem term_count (w : World) (b : Nat) (s out : ByteArray) (most : Int) (r i : Nat) (h : TermAt w b s out most r i) :
    Calls Try.prog 12 #[.pointer (some ⟨b, 0, none⟩)] w fun e w' => e = .returned (.complex .f64 (fl r) (fl i)) ∧ w = w' := by
  have c := h.cell 3
  simp at c
  go_enter Try.func12, Try.ntmps12
  go_wp2
  go_ret
  exact ⟨rfl, rfl⟩

set_option maxHeartbeats 400000 in
theorem term_read_end (w : World) (b : Nat) (out : ByteArray) (most : Int) (r i : Nat) (h : TermAt w b ⟨#[]⟩ out most r i) :
    Calls Try.prog 10 #[.pointer (some ⟨b, 0, none⟩)] w fun e w' => e = .returned (.int .u8 0) ∧ w = w' := by
  have c := h.cell 0
  simp at c
  go_enter Try.func10, Try.ntmps10
  go_wp2
  go_ret
  exact ⟨rfl, rfl⟩

set_option maxHeartbeats 400000 in
theorem term_read (w : World) (b : Nat) (s out : ByteArray) (most : Int) (r i : Nat) (h : TermAt w b s out most r i) (hs : 0 < s.size) (hm : s.size ≤ maxLen) (hr : r < 1000000) (hi : i < 1000000) :
    Calls Try.prog 10 #[.pointer (some ⟨b, 0, none⟩)] w fun e w' => e = .returned (.int .u8 s[0].toNat) ∧ Wr [b] w w' ∧ TermAt w' b (s.extract 1 s.size) out most (r + 1) i := by
  have c0 := h.cell 0
  have c3 := h.cell 3
  have f0 := h.frozen 0
  have f3 := h.frozen 3
  simp at c0 c3
  have hse := bytes_some s hs
  have hadd' := fun (w : World) => run_complex_sum (P := Try.prog) (w := w) .add (.inl rfl) 33 .f64 (fl r) (fl i) 4607182418800017408 0 (fl (r + 1)) (fl i) (by
    have := fl_csum r i 1 0 (by omega) (by omega)
    rwa [fl_one, fl_zero, Nat.add_zero] at this)
  unfold maxLen at hm
  go_enter Try.func10, Try.ntmps10
  go_wp2
  go_region
  go_wp2
  go_ret
  refine ⟨rfl, ?_, ?_⟩
  · exact (((Wr.refl _ _).setOn (by simp) _).setOn (by simp) _).drew
  · exact ((h.set_ 0 _).set_ 3 _).drew

set_option maxHeartbeats 400000 in
theorem term_write_no (w : World) (b : Nat) (s out t : ByteArray) (most : Int) (r i : Nat) (h : TermAt w b s out most r i) (h0 : (out.size : Int) ≤ most) (h1 : most ≤ 16384) (hm : t.size ≤ maxLen) (hn : most - (out.size : Int) < (t.size : Int)) :
    Calls Try.prog 11 #[.pointer (some ⟨b, 0, none⟩), .string t] w fun e w' => e = .returned (.bool false) ∧ Wr [] w w' ∧ TermAt w' b s out most r i := by
  have c1 := h.cell 1
  have c2 := h.cell 2
  have c4 := h.cell 4
  simp at c1 c2 c4
  unfold maxLen at hm
  go_enter Try.func11, Try.ntmps11
  go_wp2
  go_quiet (fail)
  go_wp2
  go_ret
  exact ⟨rfl, (Wr.refl _ _).drewN _, h.drewN _⟩

set_option maxHeartbeats 400000 in
theorem term_write (w : World) (b : Nat) (s out t : ByteArray) (most : Int) (r i : Nat) (h : TermAt w b s out most r i) (h1 : most ≤ 16384) (hn : (t.size : Int) ≤ most - (out.size : Int)) (hr : r < 1000000) (hi : i < 1000000) :
    Calls Try.prog 11 #[.pointer (some ⟨b, 0, none⟩), .string t] w fun e w' => e = .returned (.bool true) ∧ Wr [b] w w' ∧ TermAt w' b s (out ++ t) most r (i + t.size) := by
  have c1 := h.cell 1
  have c2 := h.cell 2
  have c3 := h.cell 3
  have c4 := h.cell 4
  have f1 := h.frozen 1
  have f3 := h.frozen 3
  simp at c1 c2 c3 c4
  have hadd' := fun (w : World) => run_complex_sum (P := Try.prog) (w := w) .add (.inl rfl) 33 .f64 (fl r) (fl i) 0 (floatOfInt .f64 (t.size : Int)) (fl r) (fl (i + t.size)) (by
    rw [fl_ofInt]
    have := fl_csum r i 0 t.size (by omega) (by omega)
    rwa [fl_zero, Nat.add_zero] at this)
  go_enter Try.func11, Try.ntmps11
  go_wp2
  go_quiet (fail)
  go_wp2
  go_ret
  refine ⟨rfl, ?_, ?_⟩
  · exact (((Wr.refl _ _).drewN _).setOn (by simp) _).setOn (by simp) _
  · exact ((h.drewN _).set_ 1 _).set_ 3 _
end Go.Proofs.Ytnkbbejmehdolaa
