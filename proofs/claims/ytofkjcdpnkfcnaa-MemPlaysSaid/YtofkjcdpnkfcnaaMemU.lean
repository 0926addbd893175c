/- The document's memory (separatumref17), walked: Row, Move, Same. No conditions but that it has at most 65535 words. -/
import Derived.Test.YtofkjcdpnkfcnaaMemS
import Derived.StillTailTactics
namespace Go.Proofs.Ytofkjcdpnkfcnaa
open Go.RowKit
set_option linter.unusedVariables false

theorem refCells_congr {f g : Nat → Int} {m : Nat} (h : ∀ j, j < m → f j = g j) : refCells f m = refCells g m := by
  unfold refCells
  congr 1
  apply List.map_congr_left
  intro j hj
  rw [h j (List.mem_range.1 hj)]

theorem Row1.ofRef {w : World} {g : Nat} {n : Nat} {f : Nat → Int} (hn : n ≤ maxLen) (h : Blk w g 32 (refCells f n)) : Row1 w (.slice (some ⟨g, 0, none⟩) n n) n (fun j => .int .u16 (f j)) :=
  ⟨_, n, rfl, Nat.le_refl _, hn, fun j hj => ⟨g, 0, rfl, by rw [Nat.zero_add]; exact (h.cell j).trans (refCells_get f n j hj)⟩⟩

set_option maxHeartbeats 1000000 in
theorem ref_row_yes (w : World) (b r : Nat) (m : Nat) (f : Nat → Int) (h : RefAt w b r m f) (m1 : m ≤ 65535) (x n : Int) (hx : -9223372036854775808 ≤ x ∧ x ≤ 9223372036854775807) (hq : thereB x n m = true) :
    Calls Try.prog 21 #[.pointer (some ⟨b, 0, none⟩), .int .i64 x, .int .i64 n] w fun e w' => e = .returned (.tuple #[.slice (some ⟨w.heap.size, 0, none⟩) n.toNat n.toNat, .bool true]) ∧ Wr [] w w' ∧ Blk w' w.heap.size 32 (refCells (fun j => f (x.toNat - 1 + j)) n.toNat) := by
  have hth := ref_there w b r m f h m1 x n hx true hq
  have hq' : 0 ≤ n ∧ 1 ≤ x ∧ x + n ≤ m + 1 := by simp [thereB, hasB] at hq; omega
  obtain ⟨n0, h1, h2⟩ := hq'
  clear hq
  obtain ⟨i0, hi, hz0, hz1, hz2⟩ := info_parts infoU16
  have hmk : ∀ w : World, (Instr.makeSlice 35 (.int .i64 n) (.int .i64 n)).run Try.prog w = .ok (.slice (some ⟨w.heap.size, 0, none⟩) n.toNat n.toNat) (w.alloc (.cells (madeCells #[.int .u16 0] n.toNat) 32)) := by
    intro w
    have := run_make (P := Try.prog) w 35 32 i0 (.int .u16 0) Try.underlying35 hi hz0 .i64 .i64 n n n0 (Int.le_refl _) (by rw [hz2]; omega) (by omega)
    rwa [hz1, Nat.mul_one] at this
  go_enter Try.func21, Try.ntmps21
  go_wp2_with fail
  refine hth.mono ?_
  clear hth
  rintro e w1 ⟨rfl, rfl⟩
  have hlt := h.ltr
  have hltb := h.lt
  go_wp2_with fail
  obtain ⟨g, hg⟩ : ∃ g, w.heap.size = g := ⟨_, rfl⟩
  obtain ⟨w1, hw1⟩ : ∃ w1, w.alloc (.cells (madeCells #[.int .u16 0] n.toNat) 32) = w1 := ⟨_, rfl⟩
  have r1 : Wr [] w w1 := by rw [← hw1]; exact (Wr.refl _ _).alloc _
  have b1 : Blk w1 g 32 (refCells (upds (fun _ => 0) 0 0 (fun j => f (x.toNat - 1 + j))) n.toNat) := by
    rw [← hw1, ← hg, upds_zero, ← madeCells_ref]; exact Blk.new _ _ _
  have h1' := h.wr0 r1
  have hge : w.heap.size ≤ g := by omega
  rw [hw1, hg]
  rw [hg] at hlt hltb
  have Hg := Lib.hid hg
  clear hw1 hmk hg
  go_loopw [9] (fun iv wr => ∃ k : Nat, k ≤ n.toNat ∧ iv = .int .i64 k ∧ Wr [g] w1 wr ∧ Blk wr g 32 (refCells (upds (fun _ => 0) 0 k (fun j => f (x.toNat - 1 + j))) n.toNat)) (fun iv _ => n.toNat - (intOf iv).toNat)
  case atStart => exact ⟨0, by omega, rfl, Wr.refl _ _, b1⟩
  case round =>
    obtain ⟨k, hk, rfl, hw, hb⟩ := hrel
    by_cases hlt2 : (k : Int) < n
    · have hr := h1'.wr hw (by simp; omega) (by simp; omega)
      have c := hr.cs
      have cx := hr.cw (x.toNat - 1 + k) (by omega)
      have e : x.toNat - 1 + k = (x - 1 + (k : Int)).toNat := by omega
      have cg := (hb.cell k).trans (refCells_get _ _ k (by omega))
      have fg := hb.frozen k
      have hs := hb.set_ k (.int .u16 (f (x.toNat - 1 + k)))
      rw [refCells_set _ _ _ _ (by omega)] at hs
      have e2 := upds_step (fun _ => 0) 0 k (fun j => f (x.toNat - 1 + j))
      rw [Nat.zero_add] at e2
      rw [e2] at hs
      rw [e] at cx hs
      generalize f (x - 1 + (k : Int)).toNat = z at *
      have Hs := Lib.hid hs
      clear hs e e2
      go_wp2_with fail
      go_roundw
      case rel => exact ⟨k + 1, by omega, by go_num, hw.setOn (by simp) _, Hs.out⟩
      case measure => simp [intOf]; omega
    · have hkn : k = n.toNat := by omega
      subst hkn
      go_wp2_with fail
      go_ret2
      refine ⟨by rw [Hg.out]; rfl, r1.new hw hge, ?_⟩
      rw [Hg.out]
      have : refCells (upds (fun _ => 0) 0 n.toNat (fun j => f (x.toNat - 1 + j))) n.toNat = refCells (fun j => f (x.toNat - 1 + j)) n.toNat := refCells_congr (fun j hj => by rw [upds_in _ _ _ _ _ (by omega) (by omega)]; rfl)
      rw [← this]
      exact hb

set_option maxHeartbeats 400000 in
theorem ref_row_no (w : World) (b r : Nat) (m : Nat) (f : Nat → Int) (h : RefAt w b r m f) (m1 : m ≤ 65535) (x n : Int) (hx : -9223372036854775808 ≤ x ∧ x ≤ 9223372036854775807) (hq : thereB x n m = false) :
    Calls Try.prog 21 #[.pointer (some ⟨b, 0, none⟩), .int .i64 x, .int .i64 n] w fun e w' => e = .returned (.tuple #[.slice none 0 0, .bool false]) ∧ w = w' := by
  have hth := ref_there w b r m f h m1 x n hx false hq
  go_enter Try.func21, Try.ntmps21
  go_wp2_with fail
  refine hth.mono ?_
  clear hth
  rintro e w1 ⟨rfl, rfl⟩
  go_wp2_with fail
  go_ret2
  exact ⟨rfl, rfl⟩

set_option maxHeartbeats 1000000 in
theorem ref_same (w : World) (u v : Value) (n : Nat) (g : Nat → Int) (hu : Row1 w u n (fun j => .int .u16 (g j))) (hv : Row1 w v n (fun j => .int .u16 (g j))) :
    Calls Try.prog 13 #[u, v] w fun e w' => e = .returned (.bool true) ∧ Wr [] w w' := by
  obtain ⟨A, c, rfl, a1, a2, a3⟩ := hu
  obtain ⟨B, d, rfl, b1, b2, b3⟩ := hv
  unfold maxLen at a2 b2
  have hnn : ((n : Int) != (n : Int)) = false := by simp
  have A3 := Lib.hid a3
  have B3 := Lib.hid b3
  clear a3 b3
  go_enter Try.func13, Try.ntmps13
  go_wp2_with fail
  go_loopw [5] (fun iv wr => ∃ k : Nat, k ≤ n ∧ iv = .int .i64 k ∧ Wr [] w wr) (fun iv _ => n - (intOf iv).toNat)
  case atStart => exact ⟨0, by omega, rfl, Wr.refl _ _⟩
  case round =>
    obtain ⟨k, hk, rfl, hw⟩ := hrel
    by_cases hlt : k < n
    · obtain ⟨p, o, rfl, ca⟩ := A3.out k hlt
      obtain ⟨q, s, rfl, cb⟩ := B3.out k hlt
      replace ca := hw.cellOf ca (by simp)
      replace cb := hw.cellOf cb (by simp)
      have i0 : (0 : Int) ≤ (k : Int) := by omega
      have i1 : (k : Int) < (n : Int) := by omega
      go_wp2_with fail
      go_quiet (fail)
      go_wp2_with fail
      go_roundw
      case rel => exact ⟨k + 1, by omega, by go_num, hw.drewN _⟩
      case measure => simp [intOf]; omega
    · go_wp2_with fail
      go_ret
      exact ⟨rfl, hw⟩

set_option maxHeartbeats 400000 in
theorem ref_move_from (w : World) (b r : Nat) (m : Nat) (f : Nat → Int) (h : RefAt w b r m f) (m1 : m ≤ 65535) (y x n : Int) (hx : -9223372036854775808 ≤ x ∧ x ≤ 9223372036854775807) (hq : thereB x n m = false) :
    Calls Try.prog 19 #[.pointer (some ⟨b, 0, none⟩), .int .i64 y, .int .i64 x, .int .i64 n] w fun e w' => e = .returned (.bool false) ∧ Wr [r] w w' ∧ RefAt w' b r m f := by
  have hrow := ref_row_no w b r m f h m1 x n hx hq
  go_enter Try.func19, Try.ntmps19
  go_wp2_with fail
  refine hrow.mono ?_
  clear hrow
  rintro e w1 ⟨rfl, rfl⟩
  go_wp2_with fail
  go_ret
  exact ⟨rfl, Wr.refl _ _, h⟩

set_option maxHeartbeats 400000 in
theorem ref_move_to (w : World) (b r : Nat) (m : Nat) (f : Nat → Int) (h : RefAt w b r m f) (m1 : m ≤ 65535) (y x n : Int) (hy : -9223372036854775808 ≤ y ∧ y ≤ 9223372036854775807) (hx : -9223372036854775808 ≤ x ∧ x ≤ 9223372036854775807) (hq : thereB x n m = true) (hq2 : thereB y n m = false) :
    Calls Try.prog 19 #[.pointer (some ⟨b, 0, none⟩), .int .i64 y, .int .i64 x, .int .i64 n] w fun e w' => e = .returned (.bool false) ∧ Wr [r] w w' ∧ RefAt w' b r m f := by
  have hrow := ref_row_yes w b r m f h m1 x n hx hq
  go_enter Try.func19, Try.ntmps19
  go_wp2_with fail
  refine hrow.mono ?_
  clear hrow
  rintro e w1 ⟨rfl, r1, _⟩
  have h1 := h.wr0 r1
  go_wp2_with fail
  refine (ref_there w1 b r m f h1 m1 y n hy false hq2).mono ?_
  rintro e w2 ⟨rfl, rfl⟩
  go_wp2_with fail
  go_ret
  exact ⟨rfl, r1.nil, h1⟩

set_option maxHeartbeats 1000000 in
theorem ref_move_yes (w : World) (b r : Nat) (m : Nat) (f : Nat → Int) (h : RefAt w b r m f) (m1 : m ≤ 65535) (y x n : Int) (hy : -9223372036854775808 ≤ y ∧ y ≤ 9223372036854775807) (hx : -9223372036854775808 ≤ x ∧ x ≤ 9223372036854775807) (hq : thereB x n m = true) (hq2 : thereB y n m = true) :
    Calls Try.prog 19 #[.pointer (some ⟨b, 0, none⟩), .int .i64 y, .int .i64 x, .int .i64 n] w fun e w' => e = .returned (.bool true) ∧ Wr [r] w w' ∧ RefAt w' b r m (upds f (y.toNat - 1) n.toNat (fun j => f (x.toNat - 1 + j))) := by
  have hrow := ref_row_yes w b r m f h m1 x n hx hq
  have hqx : 0 ≤ n ∧ 1 ≤ x ∧ x + n ≤ m + 1 := by simp [thereB, hasB] at hq; omega
  have hqy : 0 ≤ n ∧ 1 ≤ y ∧ y + n ≤ m + 1 := by simp [thereB, hasB] at hq2; omega
  obtain ⟨n0, x1, x2⟩ := hqx
  obtain ⟨_, y1, y2⟩ := hqy
  obtain ⟨N, rfl⟩ := Int.eq_ofNat_of_zero_le n0
  rw [Int.toNat_natCast] at hrow ⊢
  go_enter Try.func19, Try.ntmps19
  go_wp2_with fail
  refine hrow.mono ?_
  clear hrow hq
  rintro e w1 ⟨rfl, r1, bl⟩
  have hltr := h.ltr
  have h1 := h.wr0 r1
  obtain ⟨g, hg⟩ : ∃ g, w.heap.size = g := ⟨_, rfl⟩
  rw [hg] at bl hltr ⊢
  clear hg
  go_wp2_with fail
  refine (ref_there w1 b r m f h1 m1 y N hy true hq2).mono ?_
  clear hq2
  rintro e w2 ⟨rfl, rfl⟩
  go_wp2_with fail
  go_loopw [11] (fun iv wr => ∃ k : Nat, k ≤ N ∧ iv = .int .i64 k ∧ Wr [r] w1 wr ∧ RefAt wr b r m (upds f (y.toNat - 1) k (fun j => f (x.toNat - 1 + j)))) (fun iv _ => N - (intOf iv).toNat)
  case atStart => exact ⟨0, by omega, rfl, Wr.refl _ _, by rw [upds_zero]; exact h1⟩
  case round =>
    obtain ⟨k, hk, rfl, hw, hr⟩ := hrel
    by_cases hlt : k < N
    · have c := hr.cs
      have cg := ((bl.wr hw (by simp; omega)).cell k).trans (refCells_get _ _ k (by omega))
      have e : y.toNat - 1 + k = (y - 1 + (k : Int)).toNat := by omega
      have cx := hr.cw (y.toNat - 1 + k) (by omega)
      have fx := hr.fw (y.toNat - 1 + k)
      have hs := RefAt.store (hr.wr0 ((Wr.refl _ _).drew)) (y.toNat - 1 + k) (by omega) (f (x.toNat - 1 + k))
      rw [upds_step f (y.toNat - 1) k (fun j => f (x.toNat - 1 + j))] at hs
      rw [e] at cx fx hs
      generalize f (x.toNat - 1 + k) = z at *
      generalize upds f (y.toNat - 1) k (fun j => f (x.toNat - 1 + j)) (y - 1 + (k : Int)).toNat = zz at *
      have Hs := Lib.hid hs
      clear hs e
      have i0 : (0 : Int) ≤ (k : Int) := by omega
      have i1 : (k : Int) < (N : Int) := by omega
      have i2 : (0 : Int) ≤ y - 1 + (k : Int) := by omega
      have i3 : y - 1 + (k : Int) < (m : Int) := by omega
      go_wp2_with fail
      have q1 : IntKind.i64.wrap (y - 1) = y - 1 := by rw [IntKind.wrap_i64]; omega
      have q2 : IntKind.i64.wrap (y - 1 + (k : Int)) = y - 1 + (k : Int) := by rw [IntKind.wrap_i64]; omega
      go_still_tail 13, (by kernel_rfl)
      clear q1 q2
      change wpList _ _ _ _ _ wr.drew
      go_wp2_with fail
      go_roundw
      case rel => exact ⟨k + 1, by omega, by go_num, hw.drew.setOn (by simp) _, Hs.out⟩
      case measure => simp [intOf]; omega
    · have hkn : k = N := by omega
      subst hkn
      go_wp2_with fail
      go_ret
      exact ⟨rfl, r1.nil.trans hw, hr⟩

/-- Move, whatever is asked. -/
theorem ref_move (w : World) (b r : Nat) (m : Nat) (f : Nat → Int) (h : RefAt w b r m f) (m1 : m ≤ 65535) (y x n : Int) (hy : -9223372036854775808 ≤ y ∧ y ≤ 9223372036854775807) (hx : -9223372036854775808 ≤ x ∧ x ≤ 9223372036854775807) (q : Bool) (hq : moveB y x n m = q) :
    Calls Try.prog 19 #[.pointer (some ⟨b, 0, none⟩), .int .i64 y, .int .i64 x, .int .i64 n] w fun e w' => e = .returned (.bool q) ∧ Wr [r] w w' ∧ RefAt w' b r m (bif q then upds f (y.toNat - 1) n.toNat (fun j => f (x.toNat - 1 + j)) else f) := by
  have hmq : (thereB x n m && thereB y n m) = q := by
    rw [← hq]; unfold thereB moveB
    cases decide (0 ≤ n) <;> cases hasB x n m <;> cases hasB y n m <;> rfl
  cases hx1 : thereB x n m with
  | false =>
    rw [hx1] at hmq
    have : q = false := by rw [← hmq]; rfl
    subst this
    exact ref_move_from w b r m f h m1 y x n hx hx1
  | true =>
    cases hy1 : thereB y n m with
    | false =>
      rw [hx1, hy1] at hmq
      have : q = false := by rw [← hmq]; rfl
      subst this
      exact ref_move_to w b r m f h m1 y x n hy hx hx1 hy1
    | true =>
      rw [hx1, hy1] at hmq
      have : q = true := by rw [← hmq]; rfl
      subst this
      exact ref_move_yes w b r m f h m1 y x n hy hx hx1 hy1
end Go.Proofs.Ytofkjcdpnkfcnaa
