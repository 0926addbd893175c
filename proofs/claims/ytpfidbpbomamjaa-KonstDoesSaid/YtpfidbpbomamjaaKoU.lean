/- The document's Does and One: walked, part by part. No conditions but that the values are such as Go has. -/
import Derived.Test.YtpfidbpbomamjaaKoT
namespace Go.Proofs.Ytpfidbpbomamjaa
open Go.RowKit
set_option linter.unusedVariables false
set_option linter.unusedSimpArgs false

theorem wr4 (w : World) (g : Nat) (u0 u1 u2 u3 : Value) : Wr [g] w ((((w.setCell ⟨g, 0, none⟩ u0).setCell ⟨g, 1, none⟩ u1).setCell ⟨g, 2, none⟩ u2).setCell ⟨g, 3, none⟩ u3) :=
  ((((Wr.refl [g] w).setOn (by simp) u0).setOn (by simp) u1).setOn (by simp) u2).setOn (by simp) u3
theorem blk4 (w : World) (g : Nat) (T : TypeId) (x0 x1 x2 x3 u0 u1 u2 u3 : Value) (h : Blk w g T #[x0, x1, x2, x3]) : Blk ((((w.setCell ⟨g, 0, none⟩ u0).setCell ⟨g, 1, none⟩ u1).setCell ⟨g, 2, none⟩ u2).setCell ⟨g, 3, none⟩ u3) g T #[u0, u1, u2, u3] := by
  have := (((h.set_ 0 u0).set_ 1 u1).set_ 2 u2).set_ 3 u3
  simpa using this
def zeroR : Array Value := #[.int .i64 0, .int .i64 0, .string ⟨#[]⟩, .int .i64 0]
/-- The result's block, stored behind a call. -/
theorem done4 {w w1 : World} {x0 x1 x2 x3 : Value} (k1 : Wr [] (w.alloc (.cells zeroR 31)) w1) :
    Wr [] w ((((w1.setCell ⟨w.heap.size, 0, none⟩ x0).setCell ⟨w.heap.size, 1, none⟩ x1).setCell ⟨w.heap.size, 2, none⟩ x2).setCell ⟨w.heap.size, 3, none⟩ x3) ∧
    Blk ((((w1.setCell ⟨w.heap.size, 0, none⟩ x0).setCell ⟨w.heap.size, 1, none⟩ x1).setCell ⟨w.heap.size, 2, none⟩ x2).setCell ⟨w.heap.size, 3, none⟩ x3) w.heap.size 31 #[x0, x1, x2, x3] :=
  ⟨(((Wr.refl [] w).alloc _).trans k1).new (wr4 w1 w.heap.size x0 x1 x2 x3) (Nat.le_refl _), blk4 _ _ _ _ _ _ _ _ _ _ _ ((Blk.new w 31 zeroR).wr0 k1)⟩

set_option maxHeartbeats 1000000 in
theorem truth_ref (b : Bool) (w : World) : Calls Try.prog 32 #[.bool b] w fun e w' => e = .returned (refV (KV.truth b)) ∧ Wr [] w w' := by
  cases b
  all_goals
    go_enter Try.func32, Try.ntmps32
    go_wp2_with fail
    refine bodyPost_ret (v := refV (KV.truth _)) ?_ rfl ⟨rfl, (Wr.refl [] w).alloc _⟩
    simp [results, Try.results32, go_sem, refV, KV.truth]

set_option maxHeartbeats 1000000 in
theorem whole_ref (n : Int) (w : World) : Calls Try.prog 38 #[.int .i64 n] w fun e w' => e = .returned (.tuple #[refV (wholeK n).1, .int .i64 (wholeK n).2]) ∧ Wr [] w w' := by
  by_cases h0 : n < -32768
  · have hv : wholeK n = (KV.none_, 101) := by
      have : inB n = false := by simp only [inB, Bool.and_eq_false_iff, decide_eq_false_iff_not]; omega
      simp [wholeK, this]
    rw [hv]
    go_enter Try.func38, Try.ntmps38
    go_wp2_with fail
    refine bodyPost_ret (v := .tuple #[refV KV.none_, .int .i64 101]) ?_ rfl ⟨rfl, (Wr.refl [] w).alloc _⟩
    simp [results, Try.results38, go_sem, refV, KV.none_]
  by_cases h1 : 65535 < n
  · have hv : wholeK n = (KV.none_, 101) := by
      have : inB n = false := by simp only [inB, Bool.and_eq_false_iff, decide_eq_false_iff_not]; omega
      simp [wholeK, this]
    rw [hv]
    go_enter Try.func38, Try.ntmps38
    go_wp2_with fail
    refine bodyPost_ret (v := .tuple #[refV KV.none_, .int .i64 101]) ?_ rfl ⟨rfl, (Wr.refl [] w).alloc _⟩
    simp [results, Try.results38, go_sem, refV, KV.none_]
  · have hv : wholeK n = (KV.whole n, 0) := by
      have : inB n = true := inB_yes (by omega) (by omega)
      simp [wholeK, this]
    rw [hv]
    go_enter Try.func38, Try.ntmps38
    go_wp2_with fail
    refine bodyPost_ret (v := .tuple #[refV (KV.whole n), .int .i64 0]) ?_ rfl ⟨rfl, (Wr.refl [] w).alloc _⟩
    simp [results, Try.results38, go_sem, refV, KV.whole]

set_option maxHeartbeats 1000000 in
theorem letter_ref (x : KV) (hx : x.s.size ≤ 9223372036854775807) (w : World) : Calls Try.prog 33 #[refV x] w fun e w' => e = .returned (refV x.letter) ∧ Wr [] w w' := by
  by_cases h5 : x.sort = 5
  · have s5 : ((x.sort : Int) == 5) = true := by simp; omega
    by_cases h1 : x.s.size = 1
    · have hlen : ((x.s.size : Int) == 1) = true := by simp [h1]
      have h0 : 0 < x.s.size := by omega
      have hb0 : (0 : Int) ≤ ((x.s[0]'h0).toNat : Int) := by omega
      have hb1 : ((x.s[0]'h0).toNat : Int) ≤ 255 := by have := (x.s[0]'h0).toNat_lt; omega
      have hv : refV x.letter = .agg #[.int .i64 2, .int .i64 ((x.s[0]'h0).toNat : Int), .string ⟨#[]⟩, .int .i64 0] := by
        rw [byte0_eq]
        simp [refV, KV.letter, h5, h1]
      rw [hv]
      unfold refV
      generalize (x.sort : Int) = so at s5 ⊢
      clear hv h5 h1
      go_enter Try.func33, Try.ntmps33
      go_wp2_with fail
      refine bodyPost_ret (v := .agg #[.int .i64 2, .int .i64 ((x.s[0]'h0).toNat : Int), .string ⟨#[]⟩, .int .i64 0]) ?_ rfl ⟨rfl, ((Wr.refl [] w).alloc _).alloc _⟩
      simp [results, Try.results33, go_sem]
    · have hlen : ((x.s.size : Int) == 1) = false := by simp; omega
      have hv : x.letter = x := by simp [KV.letter, h1]
      rw [hv]
      unfold refV
      generalize (x.sort : Int) = so at s5 ⊢
      clear hv h5 h1
      go_enter Try.func33, Try.ntmps33
      go_wp2_with fail
      refine bodyPost_ret (v := .agg #[.int .i64 so, .int .i64 x.n, .string x.s, .int .i64 x.t]) ?_ rfl ⟨rfl, ((Wr.refl [] w).alloc _).alloc _⟩
      simp [results, Try.results33, go_sem]
  · have s5 : ((x.sort : Int) == 5) = false := by simp; omega
    have hv : x.letter = x := by simp [KV.letter, h5]
    rw [hv]
    unfold refV
    generalize (x.sort : Int) = so at s5 ⊢
    clear hv h5
    go_enter Try.func33, Try.ntmps33
    go_wp2_with fail
    refine bodyPost_ret (v := .agg #[.int .i64 so, .int .i64 x.n, .string x.s, .int .i64 x.t]) ?_ rfl ⟨rfl, ((Wr.refl [] w).alloc _).alloc _⟩
    simp [results, Try.results33, go_sem]

set_option maxHeartbeats 1000000 in
theorem sets_ref0 {s : ByteArray} (q : s.toList = [43]) (a b : Int) (w : World) :
    Calls Try.prog 34 #[.string s, .int .i64 a, .int .i64 b] w fun e w' => e = .returned (.tuple #[refV (KV.bits (bits .or .i64 a b)), .int .i64 0]) ∧ Wr [] w w' := by
  go_enter Try.func34, Try.ntmps34
  go_wp2_with fail
  refine bodyPost_ret (v := .tuple #[refV (KV.bits (bits .or .i64 a b)), .int .i64 0]) ?_ rfl ⟨rfl, (Wr.refl [] w).alloc _⟩
  simp [results, Try.results34, go_sem, refV, KV.bits, KV.none_]

set_option maxHeartbeats 1000000 in
theorem sets_ref1 {s : ByteArray} (q : s.toList = [45]) (a b : Int) (w : World) :
    Calls Try.prog 34 #[.string s, .int .i64 a, .int .i64 b] w fun e w' => e = .returned (.tuple #[refV (KV.bits (bits .andNot .i64 a b)), .int .i64 0]) ∧ Wr [] w w' := by
  go_enter Try.func34, Try.ntmps34
  go_wp2_with fail
  refine bodyPost_ret (v := .tuple #[refV (KV.bits (bits .andNot .i64 a b)), .int .i64 0]) ?_ rfl ⟨rfl, (Wr.refl [] w).alloc _⟩
  simp [results, Try.results34, go_sem, refV, KV.bits, KV.none_]

set_option maxHeartbeats 1000000 in
theorem sets_ref2 {s : ByteArray} (q : s.toList = [42]) (a b : Int) (w : World) :
    Calls Try.prog 34 #[.string s, .int .i64 a, .int .i64 b] w fun e w' => e = .returned (.tuple #[refV (KV.bits (bits .and .i64 a b)), .int .i64 0]) ∧ Wr [] w w' := by
  go_enter Try.func34, Try.ntmps34
  go_wp2_with fail
  refine bodyPost_ret (v := .tuple #[refV (KV.bits (bits .and .i64 a b)), .int .i64 0]) ?_ rfl ⟨rfl, (Wr.refl [] w).alloc _⟩
  simp [results, Try.results34, go_sem, refV, KV.bits, KV.none_]

set_option maxHeartbeats 1000000 in
theorem sets_ref3 {s : ByteArray} (q : s.toList = [47]) (a b : Int) (w : World) :
    Calls Try.prog 34 #[.string s, .int .i64 a, .int .i64 b] w fun e w' => e = .returned (.tuple #[refV (KV.bits (bits .xor .i64 a b)), .int .i64 0]) ∧ Wr [] w w' := by
  go_enter Try.func34, Try.ntmps34
  go_wp2_with fail
  refine bodyPost_ret (v := .tuple #[refV (KV.bits (bits .xor .i64 a b)), .int .i64 0]) ?_ rfl ⟨rfl, (Wr.refl [] w).alloc _⟩
  simp [results, Try.results34, go_sem, refV, KV.bits, KV.none_]

set_option maxHeartbeats 1000000 in
theorem sets_ref4 {s : ByteArray} (q : s.toList = [68, 73, 86]) (a b : Int) (w : World) :
    Calls Try.prog 34 #[.string s, .int .i64 a, .int .i64 b] w fun e w' => e = .returned (.tuple #[refV KV.none_, .int .i64 100]) ∧ Wr [] w w' := by
  go_enter Try.func34, Try.ntmps34
  go_wp2_with fail
  refine bodyPost_ret (v := .tuple #[refV KV.none_, .int .i64 100]) ?_ rfl ⟨rfl, (Wr.refl [] w).alloc _⟩
  simp [results, Try.results34, go_sem, refV, KV.bits, KV.none_]

set_option maxHeartbeats 1000000 in
theorem sets_ref5 {s : ByteArray} (q : s.toList = [77, 79, 68]) (a b : Int) (w : World) :
    Calls Try.prog 34 #[.string s, .int .i64 a, .int .i64 b] w fun e w' => e = .returned (.tuple #[refV KV.none_, .int .i64 100]) ∧ Wr [] w w' := by
  go_enter Try.func34, Try.ntmps34
  go_wp2_with fail
  refine bodyPost_ret (v := .tuple #[refV KV.none_, .int .i64 100]) ?_ rfl ⟨rfl, (Wr.refl [] w).alloc _⟩
  simp [results, Try.results34, go_sem, refV, KV.bits, KV.none_]

set_option maxHeartbeats 1000000 in
theorem sets_ref6 {s : ByteArray} (q : s.toList = [65, 78, 68]) (a b : Int) (w : World) :
    Calls Try.prog 34 #[.string s, .int .i64 a, .int .i64 b] w fun e w' => e = .returned (.tuple #[refV KV.none_, .int .i64 100]) ∧ Wr [] w w' := by
  go_enter Try.func34, Try.ntmps34
  go_wp2_with fail
  refine bodyPost_ret (v := .tuple #[refV KV.none_, .int .i64 100]) ?_ rfl ⟨rfl, (Wr.refl [] w).alloc _⟩
  simp [results, Try.results34, go_sem, refV, KV.bits, KV.none_]

set_option maxHeartbeats 1000000 in
theorem sets_ref7 {s : ByteArray} (q : s.toList = [79, 82]) (a b : Int) (w : World) :
    Calls Try.prog 34 #[.string s, .int .i64 a, .int .i64 b] w fun e w' => e = .returned (.tuple #[refV KV.none_, .int .i64 100]) ∧ Wr [] w w' := by
  go_enter Try.func34, Try.ntmps34
  go_wp2_with fail
  refine bodyPost_ret (v := .tuple #[refV KV.none_, .int .i64 100]) ?_ rfl ⟨rfl, (Wr.refl [] w).alloc _⟩
  simp [results, Try.results34, go_sem, refV, KV.bits, KV.none_]

set_option maxHeartbeats 1000000 in
theorem sets_ref8 {s : ByteArray} (q : s.toList = [61]) (a b : Int) (w : World) :
    Calls Try.prog 34 #[.string s, .int .i64 a, .int .i64 b] w fun e w' => e = .returned (.tuple #[refV (KV.truth (a == b)), .int .i64 0]) ∧ Wr [] w w' := by
  go_enter Try.func34, Try.ntmps34
  go_wp2_with fail
  refine (truth_ref _ _).mono ?_
  rintro e w1 ⟨rfl, k1⟩
  have b1 := (Blk.new w 31 zeroR).wr0 k1
  have f0 := b1.cell 0
  have f1 := b1.cell 1
  have f2 := b1.cell 2
  have f3 := b1.cell 3
  simp [zeroR] at f0 f1 f2 f3
  have z0 := b1.frozen 0
  have z1 := b1.frozen 1
  have z2 := b1.frozen 2
  have z3 := b1.frozen 3
  clear b1
  unfold refV
  go_wp2_with fail
  clear f0 f1 f2 f3 z0 z1 z2 z3
  obtain ⟨r1, r2⟩ := done4 (x0 := _) (x1 := _) (x2 := _) (x3 := _) k1
  have c0 := r2.cell 0
  have c1 := r2.cell 1
  have c2 := r2.cell 2
  have c3 := r2.cell 3
  simp at c0 c1 c2 c3
  refine bodyPost_ret (v := .tuple #[refV (KV.truth (a == b)), .int .i64 0]) ?_ rfl ⟨rfl, r1⟩
  simp [results, Try.results34, go_sem, c0, c1, c2, c3, refV]

set_option maxHeartbeats 1000000 in
theorem sets_ref9 {s : ByteArray} (q : s.toList = [35]) (a b : Int) (w : World) :
    Calls Try.prog 34 #[.string s, .int .i64 a, .int .i64 b] w fun e w' => e = .returned (.tuple #[refV (KV.truth (a != b)), .int .i64 0]) ∧ Wr [] w w' := by
  go_enter Try.func34, Try.ntmps34
  go_wp2_with fail
  refine (truth_ref _ _).mono ?_
  rintro e w1 ⟨rfl, k1⟩
  have b1 := (Blk.new w 31 zeroR).wr0 k1
  have f0 := b1.cell 0
  have f1 := b1.cell 1
  have f2 := b1.cell 2
  have f3 := b1.cell 3
  simp [zeroR] at f0 f1 f2 f3
  have z0 := b1.frozen 0
  have z1 := b1.frozen 1
  have z2 := b1.frozen 2
  have z3 := b1.frozen 3
  clear b1
  unfold refV
  go_wp2_with fail
  clear f0 f1 f2 f3 z0 z1 z2 z3
  obtain ⟨r1, r2⟩ := done4 (x0 := _) (x1 := _) (x2 := _) (x3 := _) k1
  have c0 := r2.cell 0
  have c1 := r2.cell 1
  have c2 := r2.cell 2
  have c3 := r2.cell 3
  simp at c0 c1 c2 c3
  refine bodyPost_ret (v := .tuple #[refV (KV.truth (a != b)), .int .i64 0]) ?_ rfl ⟨rfl, r1⟩
  simp [results, Try.results34, go_sem, c0, c1, c2, c3, refV]

set_option maxHeartbeats 1000000 in
theorem sets_ref10 {s : ByteArray} (q : s.toList = [60]) (a b : Int) (w : World) :
    Calls Try.prog 34 #[.string s, .int .i64 a, .int .i64 b] w fun e w' => e = .returned (.tuple #[refV KV.none_, .int .i64 100]) ∧ Wr [] w w' := by
  go_enter Try.func34, Try.ntmps34
  go_wp2_with fail
  refine bodyPost_ret (v := .tuple #[refV KV.none_, .int .i64 100]) ?_ rfl ⟨rfl, (Wr.refl [] w).alloc _⟩
  simp [results, Try.results34, go_sem, refV, KV.bits, KV.none_]

set_option maxHeartbeats 1000000 in
theorem sets_ref11 {s : ByteArray} (q : s.toList = [60, 61]) (a b : Int) (w : World) :
    Calls Try.prog 34 #[.string s, .int .i64 a, .int .i64 b] w fun e w' => e = .returned (.tuple #[refV (KV.truth (bits .andNot .i64 a b == 0)), .int .i64 0]) ∧ Wr [] w w' := by
  go_enter Try.func34, Try.ntmps34
  go_wp2_with fail
  refine (truth_ref _ _).mono ?_
  rintro e w1 ⟨rfl, k1⟩
  have b1 := (Blk.new w 31 zeroR).wr0 k1
  have f0 := b1.cell 0
  have f1 := b1.cell 1
  have f2 := b1.cell 2
  have f3 := b1.cell 3
  simp [zeroR] at f0 f1 f2 f3
  have z0 := b1.frozen 0
  have z1 := b1.frozen 1
  have z2 := b1.frozen 2
  have z3 := b1.frozen 3
  clear b1
  unfold refV
  go_wp2_with fail
  clear f0 f1 f2 f3 z0 z1 z2 z3
  obtain ⟨r1, r2⟩ := done4 (x0 := _) (x1 := _) (x2 := _) (x3 := _) k1
  have c0 := r2.cell 0
  have c1 := r2.cell 1
  have c2 := r2.cell 2
  have c3 := r2.cell 3
  simp at c0 c1 c2 c3
  refine bodyPost_ret (v := .tuple #[refV (KV.truth (bits .andNot .i64 a b == 0)), .int .i64 0]) ?_ rfl ⟨rfl, r1⟩
  simp [results, Try.results34, go_sem, c0, c1, c2, c3, refV]

set_option maxHeartbeats 1000000 in
theorem sets_ref12 {s : ByteArray} (q : s.toList = [62]) (a b : Int) (w : World) :
    Calls Try.prog 34 #[.string s, .int .i64 a, .int .i64 b] w fun e w' => e = .returned (.tuple #[refV KV.none_, .int .i64 100]) ∧ Wr [] w w' := by
  go_enter Try.func34, Try.ntmps34
  go_wp2_with fail
  refine bodyPost_ret (v := .tuple #[refV KV.none_, .int .i64 100]) ?_ rfl ⟨rfl, (Wr.refl [] w).alloc _⟩
  simp [results, Try.results34, go_sem, refV, KV.bits, KV.none_]

set_option maxHeartbeats 1000000 in
theorem sets_ref13 {s : ByteArray} (q : s.toList = [62, 61]) (a b : Int) (w : World) :
    Calls Try.prog 34 #[.string s, .int .i64 a, .int .i64 b] w fun e w' => e = .returned (.tuple #[refV (KV.truth (bits .andNot .i64 b a == 0)), .int .i64 0]) ∧ Wr [] w w' := by
  go_enter Try.func34, Try.ntmps34
  go_wp2_with fail
  refine (truth_ref _ _).mono ?_
  rintro e w1 ⟨rfl, k1⟩
  have b1 := (Blk.new w 31 zeroR).wr0 k1
  have f0 := b1.cell 0
  have f1 := b1.cell 1
  have f2 := b1.cell 2
  have f3 := b1.cell 3
  simp [zeroR] at f0 f1 f2 f3
  have z0 := b1.frozen 0
  have z1 := b1.frozen 1
  have z2 := b1.frozen 2
  have z3 := b1.frozen 3
  clear b1
  unfold refV
  go_wp2_with fail
  clear f0 f1 f2 f3 z0 z1 z2 z3
  obtain ⟨r1, r2⟩ := done4 (x0 := _) (x1 := _) (x2 := _) (x3 := _) k1
  have c0 := r2.cell 0
  have c1 := r2.cell 1
  have c2 := r2.cell 2
  have c3 := r2.cell 3
  simp at c0 c1 c2 c3
  refine bodyPost_ret (v := .tuple #[refV (KV.truth (bits .andNot .i64 b a == 0)), .int .i64 0]) ?_ rfl ⟨rfl, r1⟩
  simp [results, Try.results34, go_sem, c0, c1, c2, c3, refV]

set_option maxHeartbeats 1000000 in
theorem orders_ref0 {s : ByteArray} (q : s.toList = [43]) (a b : Int) (w : World) :
    Calls Try.prog 36 #[.string s, .int .i64 a, .int .i64 b] w fun e w' => e = .returned (.tuple #[refV KV.none_, .int .i64 100]) ∧ Wr [] w w' := by
  go_enter Try.func36, Try.ntmps36
  go_wp2_with fail
  refine bodyPost_ret (v := .tuple #[refV KV.none_, .int .i64 100]) ?_ rfl ⟨rfl, (Wr.refl [] w).alloc _⟩
  simp [results, Try.results36, go_sem, refV, KV.bits, KV.none_]

set_option maxHeartbeats 1000000 in
theorem orders_ref1 {s : ByteArray} (q : s.toList = [45]) (a b : Int) (w : World) :
    Calls Try.prog 36 #[.string s, .int .i64 a, .int .i64 b] w fun e w' => e = .returned (.tuple #[refV KV.none_, .int .i64 100]) ∧ Wr [] w w' := by
  go_enter Try.func36, Try.ntmps36
  go_wp2_with fail
  refine bodyPost_ret (v := .tuple #[refV KV.none_, .int .i64 100]) ?_ rfl ⟨rfl, (Wr.refl [] w).alloc _⟩
  simp [results, Try.results36, go_sem, refV, KV.bits, KV.none_]

set_option maxHeartbeats 1000000 in
theorem orders_ref2 {s : ByteArray} (q : s.toList = [42]) (a b : Int) (w : World) :
    Calls Try.prog 36 #[.string s, .int .i64 a, .int .i64 b] w fun e w' => e = .returned (.tuple #[refV KV.none_, .int .i64 100]) ∧ Wr [] w w' := by
  go_enter Try.func36, Try.ntmps36
  go_wp2_with fail
  refine bodyPost_ret (v := .tuple #[refV KV.none_, .int .i64 100]) ?_ rfl ⟨rfl, (Wr.refl [] w).alloc _⟩
  simp [results, Try.results36, go_sem, refV, KV.bits, KV.none_]

set_option maxHeartbeats 1000000 in
theorem orders_ref3 {s : ByteArray} (q : s.toList = [47]) (a b : Int) (w : World) :
    Calls Try.prog 36 #[.string s, .int .i64 a, .int .i64 b] w fun e w' => e = .returned (.tuple #[refV KV.none_, .int .i64 100]) ∧ Wr [] w w' := by
  go_enter Try.func36, Try.ntmps36
  go_wp2_with fail
  refine bodyPost_ret (v := .tuple #[refV KV.none_, .int .i64 100]) ?_ rfl ⟨rfl, (Wr.refl [] w).alloc _⟩
  simp [results, Try.results36, go_sem, refV, KV.bits, KV.none_]

set_option maxHeartbeats 1000000 in
theorem orders_ref4 {s : ByteArray} (q : s.toList = [68, 73, 86]) (a b : Int) (w : World) :
    Calls Try.prog 36 #[.string s, .int .i64 a, .int .i64 b] w fun e w' => e = .returned (.tuple #[refV KV.none_, .int .i64 100]) ∧ Wr [] w w' := by
  go_enter Try.func36, Try.ntmps36
  go_wp2_with fail
  refine bodyPost_ret (v := .tuple #[refV KV.none_, .int .i64 100]) ?_ rfl ⟨rfl, (Wr.refl [] w).alloc _⟩
  simp [results, Try.results36, go_sem, refV, KV.bits, KV.none_]

set_option maxHeartbeats 1000000 in
theorem orders_ref5 {s : ByteArray} (q : s.toList = [77, 79, 68]) (a b : Int) (w : World) :
    Calls Try.prog 36 #[.string s, .int .i64 a, .int .i64 b] w fun e w' => e = .returned (.tuple #[refV KV.none_, .int .i64 100]) ∧ Wr [] w w' := by
  go_enter Try.func36, Try.ntmps36
  go_wp2_with fail
  refine bodyPost_ret (v := .tuple #[refV KV.none_, .int .i64 100]) ?_ rfl ⟨rfl, (Wr.refl [] w).alloc _⟩
  simp [results, Try.results36, go_sem, refV, KV.bits, KV.none_]

set_option maxHeartbeats 1000000 in
theorem orders_ref6 {s : ByteArray} (q : s.toList = [65, 78, 68]) (a b : Int) (w : World) :
    Calls Try.prog 36 #[.string s, .int .i64 a, .int .i64 b] w fun e w' => e = .returned (.tuple #[refV KV.none_, .int .i64 100]) ∧ Wr [] w w' := by
  go_enter Try.func36, Try.ntmps36
  go_wp2_with fail
  refine bodyPost_ret (v := .tuple #[refV KV.none_, .int .i64 100]) ?_ rfl ⟨rfl, (Wr.refl [] w).alloc _⟩
  simp [results, Try.results36, go_sem, refV, KV.bits, KV.none_]

set_option maxHeartbeats 1000000 in
theorem orders_ref7 {s : ByteArray} (q : s.toList = [79, 82]) (a b : Int) (w : World) :
    Calls Try.prog 36 #[.string s, .int .i64 a, .int .i64 b] w fun e w' => e = .returned (.tuple #[refV KV.none_, .int .i64 100]) ∧ Wr [] w w' := by
  go_enter Try.func36, Try.ntmps36
  go_wp2_with fail
  refine bodyPost_ret (v := .tuple #[refV KV.none_, .int .i64 100]) ?_ rfl ⟨rfl, (Wr.refl [] w).alloc _⟩
  simp [results, Try.results36, go_sem, refV, KV.bits, KV.none_]

set_option maxHeartbeats 1000000 in
theorem orders_ref8 {s : ByteArray} (q : s.toList = [61]) (a b : Int) (w : World) :
    Calls Try.prog 36 #[.string s, .int .i64 a, .int .i64 b] w fun e w' => e = .returned (.tuple #[refV (KV.truth (a == b)), .int .i64 0]) ∧ Wr [] w w' := by
  go_enter Try.func36, Try.ntmps36
  go_wp2_with fail
  refine (truth_ref _ _).mono ?_
  rintro e w1 ⟨rfl, k1⟩
  have b1 := (Blk.new w 31 zeroR).wr0 k1
  have f0 := b1.cell 0
  have f1 := b1.cell 1
  have f2 := b1.cell 2
  have f3 := b1.cell 3
  simp [zeroR] at f0 f1 f2 f3
  have z0 := b1.frozen 0
  have z1 := b1.frozen 1
  have z2 := b1.frozen 2
  have z3 := b1.frozen 3
  clear b1
  unfold refV
  go_wp2_with fail
  clear f0 f1 f2 f3 z0 z1 z2 z3
  obtain ⟨r1, r2⟩ := done4 (x0 := _) (x1 := _) (x2 := _) (x3 := _) k1
  have c0 := r2.cell 0
  have c1 := r2.cell 1
  have c2 := r2.cell 2
  have c3 := r2.cell 3
  simp at c0 c1 c2 c3
  refine bodyPost_ret (v := .tuple #[refV (KV.truth (a == b)), .int .i64 0]) ?_ rfl ⟨rfl, r1⟩
  simp [results, Try.results36, go_sem, c0, c1, c2, c3, refV]

set_option maxHeartbeats 1000000 in
theorem orders_ref9 {s : ByteArray} (q : s.toList = [35]) (a b : Int) (w : World) :
    Calls Try.prog 36 #[.string s, .int .i64 a, .int .i64 b] w fun e w' => e = .returned (.tuple #[refV (KV.truth (a != b)), .int .i64 0]) ∧ Wr [] w w' := by
  go_enter Try.func36, Try.ntmps36
  go_wp2_with fail
  refine (truth_ref _ _).mono ?_
  rintro e w1 ⟨rfl, k1⟩
  have b1 := (Blk.new w 31 zeroR).wr0 k1
  have f0 := b1.cell 0
  have f1 := b1.cell 1
  have f2 := b1.cell 2
  have f3 := b1.cell 3
  simp [zeroR] at f0 f1 f2 f3
  have z0 := b1.frozen 0
  have z1 := b1.frozen 1
  have z2 := b1.frozen 2
  have z3 := b1.frozen 3
  clear b1
  unfold refV
  go_wp2_with fail
  clear f0 f1 f2 f3 z0 z1 z2 z3
  obtain ⟨r1, r2⟩ := done4 (x0 := _) (x1 := _) (x2 := _) (x3 := _) k1
  have c0 := r2.cell 0
  have c1 := r2.cell 1
  have c2 := r2.cell 2
  have c3 := r2.cell 3
  simp at c0 c1 c2 c3
  refine bodyPost_ret (v := .tuple #[refV (KV.truth (a != b)), .int .i64 0]) ?_ rfl ⟨rfl, r1⟩
  simp [results, Try.results36, go_sem, c0, c1, c2, c3, refV]

set_option maxHeartbeats 1000000 in
theorem orders_ref10 {s : ByteArray} (q : s.toList = [60]) (a b : Int) (w : World) :
    Calls Try.prog 36 #[.string s, .int .i64 a, .int .i64 b] w fun e w' => e = .returned (.tuple #[refV (KV.truth (decide (a < b))), .int .i64 0]) ∧ Wr [] w w' := by
  go_enter Try.func36, Try.ntmps36
  go_wp2_with fail
  refine (truth_ref _ _).mono ?_
  rintro e w1 ⟨rfl, k1⟩
  have b1 := (Blk.new w 31 zeroR).wr0 k1
  have f0 := b1.cell 0
  have f1 := b1.cell 1
  have f2 := b1.cell 2
  have f3 := b1.cell 3
  simp [zeroR] at f0 f1 f2 f3
  have z0 := b1.frozen 0
  have z1 := b1.frozen 1
  have z2 := b1.frozen 2
  have z3 := b1.frozen 3
  clear b1
  unfold refV
  go_wp2_with fail
  clear f0 f1 f2 f3 z0 z1 z2 z3
  obtain ⟨r1, r2⟩ := done4 (x0 := _) (x1 := _) (x2 := _) (x3 := _) k1
  have c0 := r2.cell 0
  have c1 := r2.cell 1
  have c2 := r2.cell 2
  have c3 := r2.cell 3
  simp at c0 c1 c2 c3
  refine bodyPost_ret (v := .tuple #[refV (KV.truth (decide (a < b))), .int .i64 0]) ?_ rfl ⟨rfl, r1⟩
  simp [results, Try.results36, go_sem, c0, c1, c2, c3, refV]

set_option maxHeartbeats 1000000 in
theorem orders_ref11 {s : ByteArray} (q : s.toList = [60, 61]) (a b : Int) (w : World) :
    Calls Try.prog 36 #[.string s, .int .i64 a, .int .i64 b] w fun e w' => e = .returned (.tuple #[refV (KV.truth (decide (a ≤ b))), .int .i64 0]) ∧ Wr [] w w' := by
  go_enter Try.func36, Try.ntmps36
  go_wp2_with fail
  refine (truth_ref _ _).mono ?_
  rintro e w1 ⟨rfl, k1⟩
  have b1 := (Blk.new w 31 zeroR).wr0 k1
  have f0 := b1.cell 0
  have f1 := b1.cell 1
  have f2 := b1.cell 2
  have f3 := b1.cell 3
  simp [zeroR] at f0 f1 f2 f3
  have z0 := b1.frozen 0
  have z1 := b1.frozen 1
  have z2 := b1.frozen 2
  have z3 := b1.frozen 3
  clear b1
  unfold refV
  go_wp2_with fail
  clear f0 f1 f2 f3 z0 z1 z2 z3
  obtain ⟨r1, r2⟩ := done4 (x0 := _) (x1 := _) (x2 := _) (x3 := _) k1
  have c0 := r2.cell 0
  have c1 := r2.cell 1
  have c2 := r2.cell 2
  have c3 := r2.cell 3
  simp at c0 c1 c2 c3
  refine bodyPost_ret (v := .tuple #[refV (KV.truth (decide (a ≤ b))), .int .i64 0]) ?_ rfl ⟨rfl, r1⟩
  simp [results, Try.results36, go_sem, c0, c1, c2, c3, refV]

set_option maxHeartbeats 1000000 in
theorem orders_ref12 {s : ByteArray} (q : s.toList = [62]) (a b : Int) (w : World) :
    Calls Try.prog 36 #[.string s, .int .i64 a, .int .i64 b] w fun e w' => e = .returned (.tuple #[refV (KV.truth (decide (a > b))), .int .i64 0]) ∧ Wr [] w w' := by
  go_enter Try.func36, Try.ntmps36
  go_wp2_with fail
  refine (truth_ref _ _).mono ?_
  rintro e w1 ⟨rfl, k1⟩
  have b1 := (Blk.new w 31 zeroR).wr0 k1
  have f0 := b1.cell 0
  have f1 := b1.cell 1
  have f2 := b1.cell 2
  have f3 := b1.cell 3
  simp [zeroR] at f0 f1 f2 f3
  have z0 := b1.frozen 0
  have z1 := b1.frozen 1
  have z2 := b1.frozen 2
  have z3 := b1.frozen 3
  clear b1
  unfold refV
  go_wp2_with fail
  clear f0 f1 f2 f3 z0 z1 z2 z3
  obtain ⟨r1, r2⟩ := done4 (x0 := _) (x1 := _) (x2 := _) (x3 := _) k1
  have c0 := r2.cell 0
  have c1 := r2.cell 1
  have c2 := r2.cell 2
  have c3 := r2.cell 3
  simp at c0 c1 c2 c3
  refine bodyPost_ret (v := .tuple #[refV (KV.truth (decide (a > b))), .int .i64 0]) ?_ rfl ⟨rfl, r1⟩
  simp [results, Try.results36, go_sem, c0, c1, c2, c3, refV]

set_option maxHeartbeats 1000000 in
theorem orders_ref13 {s : ByteArray} (q : s.toList = [62, 61]) (a b : Int) (w : World) :
    Calls Try.prog 36 #[.string s, .int .i64 a, .int .i64 b] w fun e w' => e = .returned (.tuple #[refV (KV.truth (decide (a ≥ b))), .int .i64 0]) ∧ Wr [] w w' := by
  go_enter Try.func36, Try.ntmps36
  go_wp2_with fail
  refine (truth_ref _ _).mono ?_
  rintro e w1 ⟨rfl, k1⟩
  have b1 := (Blk.new w 31 zeroR).wr0 k1
  have f0 := b1.cell 0
  have f1 := b1.cell 1
  have f2 := b1.cell 2
  have f3 := b1.cell 3
  simp [zeroR] at f0 f1 f2 f3
  have z0 := b1.frozen 0
  have z1 := b1.frozen 1
  have z2 := b1.frozen 2
  have z3 := b1.frozen 3
  clear b1
  unfold refV
  go_wp2_with fail
  clear f0 f1 f2 f3 z0 z1 z2 z3
  obtain ⟨r1, r2⟩ := done4 (x0 := _) (x1 := _) (x2 := _) (x3 := _) k1
  have c0 := r2.cell 0
  have c1 := r2.cell 1
  have c2 := r2.cell 2
  have c3 := r2.cell 3
  simp at c0 c1 c2 c3
  refine bodyPost_ret (v := .tuple #[refV (KV.truth (decide (a ≥ b))), .int .i64 0]) ?_ rfl ⟨rfl, r1⟩
  simp [results, Try.results36, go_sem, c0, c1, c2, c3, refV]

set_option maxHeartbeats 1000000 in
theorem wholes_ref0 {s : ByteArray} (q : s.toList = [43]) (a b : Int) (w : World) :
    Calls Try.prog 35 #[.string s, .int .i64 a, .int .i64 b] w fun e w' => e = .returned (.tuple #[refV (wholeK (wrap64 (a + b))).1, .int .i64 (wholeK (wrap64 (a + b))).2]) ∧ Wr [] w w' := by
  go_enter Try.func35, Try.ntmps35
  go_wp2_with fail
  refine (whole_ref _ _).mono ?_
  rintro e w1 ⟨rfl, k1⟩
  have b1 := (Blk.new w 31 zeroR).wr0 k1
  have f0 := b1.cell 0
  have f1 := b1.cell 1
  have f2 := b1.cell 2
  have f3 := b1.cell 3
  simp [zeroR] at f0 f1 f2 f3
  have z0 := b1.frozen 0
  have z1 := b1.frozen 1
  have z2 := b1.frozen 2
  have z3 := b1.frozen 3
  clear b1
  unfold refV
  go_wp2_with fail
  clear f0 f1 f2 f3 z0 z1 z2 z3
  obtain ⟨r1, r2⟩ := done4 (x0 := _) (x1 := _) (x2 := _) (x3 := _) k1
  have c0 := r2.cell 0
  have c1 := r2.cell 1
  have c2 := r2.cell 2
  have c3 := r2.cell 3
  simp at c0 c1 c2 c3
  refine bodyPost_ret (v := .tuple #[refV (wholeK (wrap64 (a + b))).1, .int .i64 (wholeK (wrap64 (a + b))).2]) ?_ rfl ⟨rfl, r1⟩
  simp [results, Try.results35, go_sem, c0, c1, c2, c3, refV]

set_option maxHeartbeats 1000000 in
theorem wholes_ref1 {s : ByteArray} (q : s.toList = [45]) (a b : Int) (w : World) :
    Calls Try.prog 35 #[.string s, .int .i64 a, .int .i64 b] w fun e w' => e = .returned (.tuple #[refV (wholeK (wrap64 (a - b))).1, .int .i64 (wholeK (wrap64 (a - b))).2]) ∧ Wr [] w w' := by
  go_enter Try.func35, Try.ntmps35
  go_wp2_with fail
  refine (whole_ref _ _).mono ?_
  rintro e w1 ⟨rfl, k1⟩
  have b1 := (Blk.new w 31 zeroR).wr0 k1
  have f0 := b1.cell 0
  have f1 := b1.cell 1
  have f2 := b1.cell 2
  have f3 := b1.cell 3
  simp [zeroR] at f0 f1 f2 f3
  have z0 := b1.frozen 0
  have z1 := b1.frozen 1
  have z2 := b1.frozen 2
  have z3 := b1.frozen 3
  clear b1
  unfold refV
  go_wp2_with fail
  clear f0 f1 f2 f3 z0 z1 z2 z3
  obtain ⟨r1, r2⟩ := done4 (x0 := _) (x1 := _) (x2 := _) (x3 := _) k1
  have c0 := r2.cell 0
  have c1 := r2.cell 1
  have c2 := r2.cell 2
  have c3 := r2.cell 3
  simp at c0 c1 c2 c3
  refine bodyPost_ret (v := .tuple #[refV (wholeK (wrap64 (a - b))).1, .int .i64 (wholeK (wrap64 (a - b))).2]) ?_ rfl ⟨rfl, r1⟩
  simp [results, Try.results35, go_sem, c0, c1, c2, c3, refV]

set_option maxHeartbeats 1000000 in
theorem wholes_ref2 {s : ByteArray} (q : s.toList = [42]) (a b : Int) (w : World) :
    Calls Try.prog 35 #[.string s, .int .i64 a, .int .i64 b] w fun e w' => e = .returned (.tuple #[refV (wholeK (wrap64 (a * b))).1, .int .i64 (wholeK (wrap64 (a * b))).2]) ∧ Wr [] w w' := by
  go_enter Try.func35, Try.ntmps35
  go_wp2_with fail
  refine (whole_ref _ _).mono ?_
  rintro e w1 ⟨rfl, k1⟩
  have b1 := (Blk.new w 31 zeroR).wr0 k1
  have f0 := b1.cell 0
  have f1 := b1.cell 1
  have f2 := b1.cell 2
  have f3 := b1.cell 3
  simp [zeroR] at f0 f1 f2 f3
  have z0 := b1.frozen 0
  have z1 := b1.frozen 1
  have z2 := b1.frozen 2
  have z3 := b1.frozen 3
  clear b1
  unfold refV
  go_wp2_with fail
  clear f0 f1 f2 f3 z0 z1 z2 z3
  obtain ⟨r1, r2⟩ := done4 (x0 := _) (x1 := _) (x2 := _) (x3 := _) k1
  have c0 := r2.cell 0
  have c1 := r2.cell 1
  have c2 := r2.cell 2
  have c3 := r2.cell 3
  simp at c0 c1 c2 c3
  refine bodyPost_ret (v := .tuple #[refV (wholeK (wrap64 (a * b))).1, .int .i64 (wholeK (wrap64 (a * b))).2]) ?_ rfl ⟨rfl, r1⟩
  simp [results, Try.results35, go_sem, c0, c1, c2, c3, refV]

set_option maxHeartbeats 1000000 in
theorem wholes_ref3 {s : ByteArray} (q : s.toList = [47]) (a b : Int) (w : World) :
    Calls Try.prog 35 #[.string s, .int .i64 a, .int .i64 b] w fun e w' => e = .returned (.tuple #[refV KV.none_, .int .i64 100]) ∧ Wr [] w w' := by
  go_enter Try.func35, Try.ntmps35
  go_wp2_with fail
  refine bodyPost_ret (v := .tuple #[refV KV.none_, .int .i64 100]) ?_ rfl ⟨rfl, (Wr.refl [] w).alloc _⟩
  simp [results, Try.results35, go_sem, refV, KV.bits, KV.none_]

set_option maxHeartbeats 1000000 in
theorem wholes_ref4z {s : ByteArray} (q : s.toList = [68, 73, 86]) (a b : Int) (hb : b = 0) (w : World) :
    Calls Try.prog 35 #[.string s, .int .i64 a, .int .i64 b] w fun e w' => e = .returned (.tuple #[refV KV.none_, .int .i64 102]) ∧ Wr [] w w' := by
  subst hb
  go_enter Try.func35, Try.ntmps35
  go_wp2_with fail
  refine bodyPost_ret (v := .tuple #[refV KV.none_, .int .i64 102]) ?_ rfl ⟨rfl, (Wr.refl [] w).alloc _⟩
  simp [results, Try.results35, go_sem, refV, KV.bits, KV.none_]

set_option maxHeartbeats 1000000 in
theorem wholes_ref4n {s : ByteArray} (q : s.toList = [68, 73, 86]) (a b : Int) (hb : ¬b = 0) (w : World) :
    Calls Try.prog 35 #[.string s, .int .i64 a, .int .i64 b] w fun e w' => e = .returned (.tuple #[refV (wholeK (wrap64 (a.tdiv b))).1, .int .i64 (wholeK (wrap64 (a.tdiv b))).2]) ∧ Wr [] w w' := by
  go_enter Try.func35, Try.ntmps35
  go_wp2_with fail
  refine (whole_ref _ _).mono ?_
  rintro e w1 ⟨rfl, k1⟩
  have b1 := (Blk.new w 31 zeroR).wr0 k1
  have f0 := b1.cell 0
  have f1 := b1.cell 1
  have f2 := b1.cell 2
  have f3 := b1.cell 3
  simp [zeroR] at f0 f1 f2 f3
  have z0 := b1.frozen 0
  have z1 := b1.frozen 1
  have z2 := b1.frozen 2
  have z3 := b1.frozen 3
  clear b1
  unfold refV
  go_wp2_with fail
  clear f0 f1 f2 f3 z0 z1 z2 z3
  obtain ⟨r1, r2⟩ := done4 (x0 := _) (x1 := _) (x2 := _) (x3 := _) k1
  have c0 := r2.cell 0
  have c1 := r2.cell 1
  have c2 := r2.cell 2
  have c3 := r2.cell 3
  simp at c0 c1 c2 c3
  refine bodyPost_ret (v := .tuple #[refV (wholeK (wrap64 (a.tdiv b))).1, .int .i64 (wholeK (wrap64 (a.tdiv b))).2]) ?_ rfl ⟨rfl, r1⟩
  simp [results, Try.results35, go_sem, c0, c1, c2, c3, refV]

set_option maxHeartbeats 1000000 in
theorem wholes_ref5z {s : ByteArray} (q : s.toList = [77, 79, 68]) (a b : Int) (hb : b = 0) (w : World) :
    Calls Try.prog 35 #[.string s, .int .i64 a, .int .i64 b] w fun e w' => e = .returned (.tuple #[refV KV.none_, .int .i64 102]) ∧ Wr [] w w' := by
  subst hb
  go_enter Try.func35, Try.ntmps35
  go_wp2_with fail
  refine bodyPost_ret (v := .tuple #[refV KV.none_, .int .i64 102]) ?_ rfl ⟨rfl, (Wr.refl [] w).alloc _⟩
  simp [results, Try.results35, go_sem, refV, KV.bits, KV.none_]

set_option maxHeartbeats 1000000 in
theorem wholes_ref5n {s : ByteArray} (q : s.toList = [77, 79, 68]) (a b : Int) (hb : ¬b = 0) (w : World) :
    Calls Try.prog 35 #[.string s, .int .i64 a, .int .i64 b] w fun e w' => e = .returned (.tuple #[refV (wholeK (a.tmod b)).1, .int .i64 (wholeK (a.tmod b)).2]) ∧ Wr [] w w' := by
  go_enter Try.func35, Try.ntmps35
  go_wp2_with fail
  refine (whole_ref _ _).mono ?_
  rintro e w1 ⟨rfl, k1⟩
  have b1 := (Blk.new w 31 zeroR).wr0 k1
  have f0 := b1.cell 0
  have f1 := b1.cell 1
  have f2 := b1.cell 2
  have f3 := b1.cell 3
  simp [zeroR] at f0 f1 f2 f3
  have z0 := b1.frozen 0
  have z1 := b1.frozen 1
  have z2 := b1.frozen 2
  have z3 := b1.frozen 3
  clear b1
  unfold refV
  go_wp2_with fail
  clear f0 f1 f2 f3 z0 z1 z2 z3
  obtain ⟨r1, r2⟩ := done4 (x0 := _) (x1 := _) (x2 := _) (x3 := _) k1
  have c0 := r2.cell 0
  have c1 := r2.cell 1
  have c2 := r2.cell 2
  have c3 := r2.cell 3
  simp at c0 c1 c2 c3
  refine bodyPost_ret (v := .tuple #[refV (wholeK (a.tmod b)).1, .int .i64 (wholeK (a.tmod b)).2]) ?_ rfl ⟨rfl, r1⟩
  simp [results, Try.results35, go_sem, c0, c1, c2, c3, refV]

set_option maxHeartbeats 1000000 in
theorem wholes_ref6 {s : ByteArray} (q : s.toList = [65, 78, 68]) (a b : Int) (w : World) :
    Calls Try.prog 35 #[.string s, .int .i64 a, .int .i64 b] w fun e w' => e = .returned (.tuple #[refV KV.none_, .int .i64 100]) ∧ Wr [] w w' := by
  go_enter Try.func35, Try.ntmps35
  go_wp2_with fail
  refine bodyPost_ret (v := .tuple #[refV KV.none_, .int .i64 100]) ?_ rfl ⟨rfl, (Wr.refl [] w).alloc _⟩
  simp [results, Try.results35, go_sem, refV, KV.bits, KV.none_]

set_option maxHeartbeats 1000000 in
theorem wholes_ref7 {s : ByteArray} (q : s.toList = [79, 82]) (a b : Int) (w : World) :
    Calls Try.prog 35 #[.string s, .int .i64 a, .int .i64 b] w fun e w' => e = .returned (.tuple #[refV KV.none_, .int .i64 100]) ∧ Wr [] w w' := by
  go_enter Try.func35, Try.ntmps35
  go_wp2_with fail
  refine bodyPost_ret (v := .tuple #[refV KV.none_, .int .i64 100]) ?_ rfl ⟨rfl, (Wr.refl [] w).alloc _⟩
  simp [results, Try.results35, go_sem, refV, KV.bits, KV.none_]

set_option maxHeartbeats 1000000 in
theorem wholes_ref8 {s : ByteArray} (q : s.toList = [61]) (a b : Int) (w : World) :
    Calls Try.prog 35 #[.string s, .int .i64 a, .int .i64 b] w fun e w' => e = .returned (.tuple #[refV KV.none_, .int .i64 100]) ∧ Wr [] w w' := by
  go_enter Try.func35, Try.ntmps35
  go_wp2_with fail
  refine bodyPost_ret (v := .tuple #[refV KV.none_, .int .i64 100]) ?_ rfl ⟨rfl, (Wr.refl [] w).alloc _⟩
  simp [results, Try.results35, go_sem, refV, KV.bits, KV.none_]

set_option maxHeartbeats 1000000 in
theorem wholes_ref9 {s : ByteArray} (q : s.toList = [35]) (a b : Int) (w : World) :
    Calls Try.prog 35 #[.string s, .int .i64 a, .int .i64 b] w fun e w' => e = .returned (.tuple #[refV KV.none_, .int .i64 100]) ∧ Wr [] w w' := by
  go_enter Try.func35, Try.ntmps35
  go_wp2_with fail
  refine bodyPost_ret (v := .tuple #[refV KV.none_, .int .i64 100]) ?_ rfl ⟨rfl, (Wr.refl [] w).alloc _⟩
  simp [results, Try.results35, go_sem, refV, KV.bits, KV.none_]

set_option maxHeartbeats 1000000 in
theorem wholes_ref10 {s : ByteArray} (q : s.toList = [60]) (a b : Int) (w : World) :
    Calls Try.prog 35 #[.string s, .int .i64 a, .int .i64 b] w fun e w' => e = .returned (.tuple #[refV KV.none_, .int .i64 100]) ∧ Wr [] w w' := by
  go_enter Try.func35, Try.ntmps35
  go_wp2_with fail
  refine bodyPost_ret (v := .tuple #[refV KV.none_, .int .i64 100]) ?_ rfl ⟨rfl, (Wr.refl [] w).alloc _⟩
  simp [results, Try.results35, go_sem, refV, KV.bits, KV.none_]

set_option maxHeartbeats 1000000 in
theorem wholes_ref11 {s : ByteArray} (q : s.toList = [60, 61]) (a b : Int) (w : World) :
    Calls Try.prog 35 #[.string s, .int .i64 a, .int .i64 b] w fun e w' => e = .returned (.tuple #[refV KV.none_, .int .i64 100]) ∧ Wr [] w w' := by
  go_enter Try.func35, Try.ntmps35
  go_wp2_with fail
  refine bodyPost_ret (v := .tuple #[refV KV.none_, .int .i64 100]) ?_ rfl ⟨rfl, (Wr.refl [] w).alloc _⟩
  simp [results, Try.results35, go_sem, refV, KV.bits, KV.none_]

set_option maxHeartbeats 1000000 in
theorem wholes_ref12 {s : ByteArray} (q : s.toList = [62]) (a b : Int) (w : World) :
    Calls Try.prog 35 #[.string s, .int .i64 a, .int .i64 b] w fun e w' => e = .returned (.tuple #[refV KV.none_, .int .i64 100]) ∧ Wr [] w w' := by
  go_enter Try.func35, Try.ntmps35
  go_wp2_with fail
  refine bodyPost_ret (v := .tuple #[refV KV.none_, .int .i64 100]) ?_ rfl ⟨rfl, (Wr.refl [] w).alloc _⟩
  simp [results, Try.results35, go_sem, refV, KV.bits, KV.none_]

set_option maxHeartbeats 1000000 in
theorem wholes_ref13 {s : ByteArray} (q : s.toList = [62, 61]) (a b : Int) (w : World) :
    Calls Try.prog 35 #[.string s, .int .i64 a, .int .i64 b] w fun e w' => e = .returned (.tuple #[refV KV.none_, .int .i64 100]) ∧ Wr [] w w' := by
  go_enter Try.func35, Try.ntmps35
  go_wp2_with fail
  refine bodyPost_ret (v := .tuple #[refV KV.none_, .int .i64 100]) ?_ rfl ⟨rfl, (Wr.refl [] w).alloc _⟩
  simp [results, Try.results35, go_sem, refV, KV.bits, KV.none_]

end Go.Proofs.Ytpfidbpbomamjaa
