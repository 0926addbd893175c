/- The law MemEnds, walked. No conditions. -/
import Derived.Test.YtofkjcdpnkfcnaaMemA
namespace Go.Proofs.Ytofkjcdpnkfcnaa
open Go.RowKit
set_option linter.unusedVariables false

/-- What is asked of the row from a place on. -/
theorem mem_row_zero (w : World) (b : Nat) (m : Int) (f : Nat → Int) (h : MemAt w b m f) (m0 : 0 ≤ m) (m1 : m ≤ 65535) (x : Int) (x0 : -9223372036854775808 ≤ x) (x1 : x ≤ 9223372036854775807) (q : Bool) (hq : hasB x 0 m = q) :
    Calls Try.prog 12 #[.pointer (some ⟨b, 0, none⟩), .int .i64 x, .int .i64 0] w fun e w' => (∃ v, e = .returned (.tuple #[v, .bool q])) ∧ Wr [] w w' := by
  cases q with
  | true => exact (mem_row_ok w b m f h m0 m1 x 0 (by omega) hq).mono fun e w' ⟨v, he, hr, _⟩ => ⟨⟨v, he⟩, hr⟩
  | false => exact (mem_row_no w b m f h m0 m1 x 0 (by omega) x0 x1 hq).mono fun e w' ⟨he, hr⟩ => ⟨⟨_, he⟩, hr⟩

theorem mem_load_any (w : World) (b : Nat) (m : Int) (f : Nat → Int) (h : MemAt w b m f) (m0 : 0 ≤ m) (m1 : m ≤ 65535) (x : Int) (x0 : -9223372036854775808 ≤ x) (x1 : x ≤ 9223372036854775807) (q : Bool) (hq : hasB x 1 m = q) :
    Calls Try.prog 14 #[.pointer (some ⟨b, 0, none⟩), .int .i64 x] w fun e w' => e = .returned (.tuple #[.int .u16 (bif q then f (x.toNat - 1) else 0), .bool q]) ∧ Wr [] w w' := by
  cases q with
  | true =>
    obtain ⟨h1, h2, h3⟩ := hasB_yes hq
    exact mem_load_yes w b m f h m0 m1 x h1 (by omega)
  | false => exact mem_load_no w b m f h m0 m1 x x0 x1 hq

theorem mem_store_any (w : World) (b : Nat) (m : Int) (f : Nat → Int) (h : MemAt w b m f) (m0 : 0 ≤ m) (m1 : m ≤ 65535) (x v : Int) (x0 : -9223372036854775808 ≤ x) (x1 : x ≤ 9223372036854775807) (q : Bool) (hq : hasB x 1 m = q) :
    Calls Try.prog 15 #[.pointer (some ⟨b, 0, none⟩), .int .i64 x, .int .u16 v] w fun e w' => e = .returned (.bool q) ∧ Wr [b] w w' ∧ MemAt w' b m (bif q then upd f (x.toNat - 1) v else f) := by
  cases q with
  | true =>
    obtain ⟨h1, h2, h3⟩ := hasB_yes hq
    exact mem_store_yes w b m f h m0 m1 x v h1 (by omega)
  | false => exact (mem_store_no w b m f h m0 m1 x v x0 x1 hq).mono fun e w' ⟨he, hr⟩ => ⟨he, hr.nil, h.wr0 hr⟩

set_option maxHeartbeats 1000000 in
set_option maxRecDepth 100000 in
theorem mem_ends_lo (w : World) (n : Int) (o : Int) (n0 : 0 ≤ n) (n1 : n ≤ 255) (o0 : -128 ≤ o) (o1 : o ≤ 127) (h : n + o < 1) :
    Calls Try.prog 5 #[.int .u8 n, .int .i8 o] w fun e w' => e = .returned (.bool true) ∧ Wr [] w w' := by
  have hd : decide (1 ≤ n + o) = false := by simp; omega
  have hq : hasB (n + o) 1 n = false := by simp [hasB] <;> omega
  have hq0 : hasB (n + o) 0 n = false := by simp [hasB] <;> omega
  have hb1 : hasB 1 n n = true := by simp [hasB] <;> omega
  have hb2 : hasB 1 (n + 1) n = false := by simp [hasB] <;> omega
  have Hq := Lib.hid hq
  have Hq0 := Lib.hid hq0
  have Hb1 := Lib.hid hb1
  have Hb2 := Lib.hid hb2
  clear hq hq0 hb1 hb2
  go_enter Try.func5, Try.ntmps5
  go_wp2_with fail
  refine (mem_new_ok n _ (by omega) (by omega)).mono ?_
  rintro e w1 ⟨rfl, r1, m1⟩
  go_wp2_with fail
  refine (mem_load_any _ _ _ _ m1 (by omega) (by omega) (n + o) (by omega) (by omega) false Hq.out).mono ?_
  rintro e w2 ⟨rfl, k⟩
  have r2 := r1.trans k
  replace m1 := m1.wr0 k
  clear r1 k
  go_wp2_with fail
  refine (mem_row_zero _ _ _ _ m1 (by omega) (by omega) (n + o) (by omega) (by omega) false Hq0.out).mono ?_
  rintro e w3 ⟨⟨v, rfl⟩, k⟩
  have r3 := r2.trans k
  replace m1 := m1.wr0 k
  clear r2 k
  go_wp2_with fail
  refine (mem_store_any _ _ _ _ m1 (by omega) (by omega) (n + o) 1 (by omega) (by omega) false Hq.out).mono ?_
  rintro e w4 ⟨rfl, k, m2⟩
  have r4 := r3.new k (Nat.le_refl _)
  clear r3 k m1
  generalize (bif false then upd (fun _ => 0) ((n + o).toNat - 1) 1 else fun _ => 0) = f2 at m2
  go_wp2_with fail
  refine (mem_clear_ok _ _ _ _ m2 (by omega) (by omega) 1 n (by omega) Hb1.out).mono ?_
  rintro e w5 ⟨rfl, k, m3⟩
  have r5 := r4.new k (Nat.le_refl _)
  clear r4 k m2
  go_wp2_with fail
  refine (mem_clear_no _ _ _ _ m3 (by omega) (by omega) 1 (n + 1) (by omega) (by omega) (by omega) Hb2.out).mono ?_
  rintro e w6 ⟨rfl, k⟩
  have r6 := r5.trans k
  replace m3 := m3.wr0 k
  clear r5 k
  go_wp2_with fail
  refine (mem_move_ok _ _ _ _ m3 (by omega) (by omega) 1 1 n (by omega) (by rw [Hb1.out]; rfl)).mono ?_
  rintro e w7 ⟨rfl, k, m4⟩
  have r7 := r6.new k (Nat.le_refl _)
  clear r6 k m3
  go_wp2_with fail
  refine (mem_clear_neg _ _ _ _ m4 1 (-1) (by omega)).mono ?_
  rintro e w8 ⟨rfl, k⟩
  have r8 := r7.trans k
  clear r7 k m4
  go_wp2_with fail
  refine (mem_alive _).mono ?_
  rintro e w9 ⟨rfl, k⟩
  go_wp2_with fail
  go_ret
  exact ⟨rfl, r8.trans k⟩

set_option maxHeartbeats 1000000 in
set_option maxRecDepth 100000 in
theorem mem_ends_in (w : World) (n : Int) (o : Int) (n0 : 0 ≤ n) (n1 : n ≤ 255) (o0 : -128 ≤ o) (o1 : o ≤ 127) (h : 1 ≤ n + o) (h2 : n + o ≤ n) :
    Calls Try.prog 5 #[.int .u8 n, .int .i8 o] w fun e w' => e = .returned (.bool true) ∧ Wr [] w w' := by
  have hq : hasB (n + o) 1 n = true := by simp [hasB] <;> omega
  have hq0 : hasB (n + o) 0 n = true := by simp [hasB] <;> omega
  have hb1 : hasB 1 n n = true := by simp [hasB] <;> omega
  have hb2 : hasB 1 (n + 1) n = false := by simp [hasB] <;> omega
  have Hq := Lib.hid hq
  have Hq0 := Lib.hid hq0
  have Hb1 := Lib.hid hb1
  have Hb2 := Lib.hid hb2
  clear hq hq0 hb1 hb2
  go_enter Try.func5, Try.ntmps5
  go_wp2_with fail
  refine (mem_new_ok n _ (by omega) (by omega)).mono ?_
  rintro e w1 ⟨rfl, r1, m1⟩
  go_wp2_with fail
  refine (mem_load_any _ _ _ _ m1 (by omega) (by omega) (n + o) (by omega) (by omega) true Hq.out).mono ?_
  rintro e w2 ⟨rfl, k⟩
  have r2 := r1.trans k
  replace m1 := m1.wr0 k
  clear r1 k
  go_wp2_with fail
  refine (mem_row_zero _ _ _ _ m1 (by omega) (by omega) (n + o) (by omega) (by omega) true Hq0.out).mono ?_
  rintro e w3 ⟨⟨v, rfl⟩, k⟩
  have r3 := r2.trans k
  replace m1 := m1.wr0 k
  clear r2 k
  go_wp2_with fail
  refine (mem_store_any _ _ _ _ m1 (by omega) (by omega) (n + o) 1 (by omega) (by omega) true Hq.out).mono ?_
  rintro e w4 ⟨rfl, k, m2⟩
  have r4 := r3.new k (Nat.le_refl _)
  clear r3 k m1
  generalize (bif true then upd (fun _ => 0) ((n + o).toNat - 1) 1 else fun _ => 0) = f2 at m2
  go_wp2_with fail
  refine (mem_clear_ok _ _ _ _ m2 (by omega) (by omega) 1 n (by omega) Hb1.out).mono ?_
  rintro e w5 ⟨rfl, k, m3⟩
  have r5 := r4.new k (Nat.le_refl _)
  clear r4 k m2
  go_wp2_with fail
  refine (mem_clear_no _ _ _ _ m3 (by omega) (by omega) 1 (n + 1) (by omega) (by omega) (by omega) Hb2.out).mono ?_
  rintro e w6 ⟨rfl, k⟩
  have r6 := r5.trans k
  replace m3 := m3.wr0 k
  clear r5 k
  go_wp2_with fail
  refine (mem_move_ok _ _ _ _ m3 (by omega) (by omega) 1 1 n (by omega) (by rw [Hb1.out]; rfl)).mono ?_
  rintro e w7 ⟨rfl, k, m4⟩
  have r7 := r6.new k (Nat.le_refl _)
  clear r6 k m3
  go_wp2_with fail
  refine (mem_clear_neg _ _ _ _ m4 1 (-1) (by omega)).mono ?_
  rintro e w8 ⟨rfl, k⟩
  have r8 := r7.trans k
  clear r7 k m4
  go_wp2_with fail
  refine (mem_alive _).mono ?_
  rintro e w9 ⟨rfl, k⟩
  go_wp2_with fail
  go_ret
  exact ⟨rfl, r8.trans k⟩

set_option maxHeartbeats 1000000 in
set_option maxRecDepth 100000 in
theorem mem_ends_at (w : World) (n : Int) (o : Int) (n0 : 0 ≤ n) (n1 : n ≤ 255) (o0 : -128 ≤ o) (o1 : o ≤ 127) (h : n + o = n + 1) :
    Calls Try.prog 5 #[.int .u8 n, .int .i8 o] w fun e w' => e = .returned (.bool true) ∧ Wr [] w w' := by
  obtain rfl : o = 1 := by omega
  clear h
  have hd : decide (n + 1 ≤ n) = false := by simp; omega
  have hq : hasB (n + 1) 1 n = false := by simp [hasB] <;> omega
  have hq0 : hasB (n + 1) 0 n = true := by simp [hasB] <;> omega
  have hb1 : hasB 1 n n = true := by simp [hasB] <;> omega
  have hb2 : hasB 1 (n + 1) n = false := by simp [hasB] <;> omega
  have Hq := Lib.hid hq
  have Hq0 := Lib.hid hq0
  have Hb1 := Lib.hid hb1
  have Hb2 := Lib.hid hb2
  clear hq hq0 hb1 hb2
  go_enter Try.func5, Try.ntmps5
  go_wp2_with fail
  refine (mem_new_ok n _ (by omega) (by omega)).mono ?_
  rintro e w1 ⟨rfl, r1, m1⟩
  go_wp2_with fail
  refine (mem_load_any _ _ _ _ m1 (by omega) (by omega) (n + 1) (by omega) (by omega) false Hq.out).mono ?_
  rintro e w2 ⟨rfl, k⟩
  have r2 := r1.trans k
  replace m1 := m1.wr0 k
  clear r1 k
  go_wp2_with fail
  refine (mem_row_zero _ _ _ _ m1 (by omega) (by omega) (n + 1) (by omega) (by omega) true Hq0.out).mono ?_
  rintro e w3 ⟨⟨v, rfl⟩, k⟩
  have r3 := r2.trans k
  replace m1 := m1.wr0 k
  clear r2 k
  go_wp2_with fail
  refine (mem_store_any _ _ _ _ m1 (by omega) (by omega) (n + 1) 1 (by omega) (by omega) false Hq.out).mono ?_
  rintro e w4 ⟨rfl, k, m2⟩
  have r4 := r3.new k (Nat.le_refl _)
  clear r3 k m1
  generalize (bif false then upd (fun _ => 0) ((n + 1).toNat - 1) 1 else fun _ => 0) = f2 at m2
  go_wp2_with fail
  refine (mem_clear_ok _ _ _ _ m2 (by omega) (by omega) 1 n (by omega) Hb1.out).mono ?_
  rintro e w5 ⟨rfl, k, m3⟩
  have r5 := r4.new k (Nat.le_refl _)
  clear r4 k m2
  go_wp2_with fail
  refine (mem_clear_no _ _ _ _ m3 (by omega) (by omega) 1 (n + 1) (by omega) (by omega) (by omega) Hb2.out).mono ?_
  rintro e w6 ⟨rfl, k⟩
  have r6 := r5.trans k
  replace m3 := m3.wr0 k
  clear r5 k
  go_wp2_with fail
  refine (mem_move_ok _ _ _ _ m3 (by omega) (by omega) 1 1 n (by omega) (by rw [Hb1.out]; rfl)).mono ?_
  rintro e w7 ⟨rfl, k, m4⟩
  have r7 := r6.new k (Nat.le_refl _)
  clear r6 k m3
  go_wp2_with fail
  refine (mem_clear_neg _ _ _ _ m4 1 (-1) (by omega)).mono ?_
  rintro e w8 ⟨rfl, k⟩
  have r8 := r7.trans k
  clear r7 k m4
  go_wp2_with fail
  refine (mem_alive _).mono ?_
  rintro e w9 ⟨rfl, k⟩
  go_wp2_with fail
  go_ret
  exact ⟨rfl, r8.trans k⟩

set_option maxHeartbeats 1000000 in
set_option maxRecDepth 100000 in
theorem mem_ends_hi (w : World) (n : Int) (o : Int) (n0 : 0 ≤ n) (n1 : n ≤ 255) (o0 : -128 ≤ o) (o1 : o ≤ 127) (h : n + 1 < n + o) :
    Calls Try.prog 5 #[.int .u8 n, .int .i8 o] w fun e w' => e = .returned (.bool true) ∧ Wr [] w w' := by
  have hd : decide (n + o ≤ n) = false := by simp; omega
  have hd2 : decide (o ≤ 1) = false := by simp; omega
  have hq : hasB (n + o) 1 n = false := by simp [hasB] <;> omega
  have hq0 : hasB (n + o) 0 n = false := by simp [hasB] <;> omega
  have hb1 : hasB 1 n n = true := by simp [hasB] <;> omega
  have hb2 : hasB 1 (n + 1) n = false := by simp [hasB] <;> omega
  have Hq := Lib.hid hq
  have Hq0 := Lib.hid hq0
  have Hb1 := Lib.hid hb1
  have Hb2 := Lib.hid hb2
  clear hq hq0 hb1 hb2
  go_enter Try.func5, Try.ntmps5
  go_wp2_with fail
  refine (mem_new_ok n _ (by omega) (by omega)).mono ?_
  rintro e w1 ⟨rfl, r1, m1⟩
  go_wp2_with fail
  refine (mem_load_any _ _ _ _ m1 (by omega) (by omega) (n + o) (by omega) (by omega) false Hq.out).mono ?_
  rintro e w2 ⟨rfl, k⟩
  have r2 := r1.trans k
  replace m1 := m1.wr0 k
  clear r1 k
  go_wp2_with fail
  refine (mem_row_zero _ _ _ _ m1 (by omega) (by omega) (n + o) (by omega) (by omega) false Hq0.out).mono ?_
  rintro e w3 ⟨⟨v, rfl⟩, k⟩
  have r3 := r2.trans k
  replace m1 := m1.wr0 k
  clear r2 k
  go_wp2_with fail
  refine (mem_store_any _ _ _ _ m1 (by omega) (by omega) (n + o) 1 (by omega) (by omega) false Hq.out).mono ?_
  rintro e w4 ⟨rfl, k, m2⟩
  have r4 := r3.new k (Nat.le_refl _)
  clear r3 k m1
  generalize (bif false then upd (fun _ => 0) ((n + o).toNat - 1) 1 else fun _ => 0) = f2 at m2
  go_wp2_with fail
  refine (mem_clear_ok _ _ _ _ m2 (by omega) (by omega) 1 n (by omega) Hb1.out).mono ?_
  rintro e w5 ⟨rfl, k, m3⟩
  have r5 := r4.new k (Nat.le_refl _)
  clear r4 k m2
  go_wp2_with fail
  refine (mem_clear_no _ _ _ _ m3 (by omega) (by omega) 1 (n + 1) (by omega) (by omega) (by omega) Hb2.out).mono ?_
  rintro e w6 ⟨rfl, k⟩
  have r6 := r5.trans k
  replace m3 := m3.wr0 k
  clear r5 k
  go_wp2_with fail
  refine (mem_move_ok _ _ _ _ m3 (by omega) (by omega) 1 1 n (by omega) (by rw [Hb1.out]; rfl)).mono ?_
  rintro e w7 ⟨rfl, k, m4⟩
  have r7 := r6.new k (Nat.le_refl _)
  clear r6 k m3
  go_wp2_with fail
  refine (mem_clear_neg _ _ _ _ m4 1 (-1) (by omega)).mono ?_
  rintro e w8 ⟨rfl, k⟩
  have r8 := r7.trans k
  clear r7 k m4
  go_wp2_with fail
  refine (mem_alive _).mono ?_
  rintro e w9 ⟨rfl, k⟩
  go_wp2_with fail
  go_ret
  exact ⟨rfl, r8.trans k⟩

theorem mem_ends_walk (w : World) (n : Int) (wn : (Lit.int .u8 n).wf = true) (o : Int) (wo : (Lit.int .i8 o).wf = true) :
    Calls Try.prog 5 #[.int .u8 n, .int .i8 o] w fun e w' => e = .returned (.bool true) ∧ Wr [] w w' := by
  obtain ⟨n0, n1⟩ := Go.bounds_u8 wn
  obtain ⟨o0, o1⟩ := Go.bounds_i8 wo
  by_cases h1 : n + o < 1
  · exact mem_ends_lo w n o n0 n1 o0 o1 h1
  · by_cases h2 : n + o ≤ n
    · exact mem_ends_in w n o n0 n1 o0 o1 (by omega) h2
    · by_cases h3 : n + o = n + 1
      · exact mem_ends_at w n o n0 n1 o0 o1 h3
      · exact mem_ends_hi w n o n0 n1 o0 o1 (by omega)
end Go.Proofs.Ytofkjcdpnkfcnaa
