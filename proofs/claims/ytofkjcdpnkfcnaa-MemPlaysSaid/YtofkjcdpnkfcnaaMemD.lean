/- The law's 'does', walked: one call, of both memories. No conditions but that both have the same words, at most 65535. -/
import Derived.Test.YtofkjcdpnkfcnaaMemU
import Derived.Deep.RegionHeld3
namespace Go.Proofs.Ytofkjcdpnkfcnaa
open Go.RowKit
set_option linter.unusedVariables false

/-- The program's memory in block b and the document's in b2 (its row in r) have the same words f. -/
structure Both (w : World) (b b2 r M : Nat) (f : Nat → Int) : Prop where
  mem : MemAt w b M f
  ref : RefAt w b2 r M f
  h1 : b ≠ b2
  h2 : b ≠ r
  le : M ≤ 65535

theorem Both.wr0 {w w' : World} {b b2 r M : Nat} {f : Nat → Int} (h : Both w b b2 r M f) (hw : Wr [] w w') : Both w' b b2 r M f := ⟨h.mem.wr0 hw, h.ref.wr0 hw, h.h1, h.h2, h.le⟩
theorem Both.alloc {w : World} {b b2 r M : Nat} {f : Nat → Int} (h : Both w b b2 r M f) (o : Obj) : Both (w.alloc o) b b2 r M f := h.wr0 ((Wr.refl _ _).alloc o)

def DoesPost (w : World) (b b2 r M : Nat) (e : Ending) (w' : World) : Prop := e = .returned (.bool true) ∧ Wr [b, r] w w' ∧ ∃ f, Both w' b b2 r M f

set_option maxHeartbeats 2000000 in
set_option maxRecDepth 100000 in
theorem does_store (w : World) (b b2 r M : Nat) (f : Nat → Int) (h : Both w b b2 r M f) (d x y n v : Int) (hd0 : 0 ≤ d) (hd1 : d ≤ 255) (hx : -9223372036854775808 ≤ x ∧ x ≤ 9223372036854775807) (hy : -9223372036854775808 ≤ y ∧ y ≤ 9223372036854775807) (hr : d % 8 = 0 ∨ d % 8 = 1 ∨ d % 8 = 2) :
    Calls Try.prog 11 #[.pointer (some ⟨b, 0, none⟩), .pointer (some ⟨b2, 0, none⟩), .agg #[.int .u8 d, .int .i64 x, .int .i64 y, .int .i64 n, .int .u16 v]] w (DoesPost w b b2 r M) := by
  obtain ⟨w0, hw0⟩ : ∃ w0, w.alloc (.cells #[.int .u8 d, .int .i64 x, .int .i64 y, .int .i64 n, .int .u16 v] 34) = w0 := ⟨_, rfl⟩
  have r0 : Wr [b, r] w w0 := by rw [← hw0]; exact (Wr.refl _ _).alloc _
  have hB := Blk.new w 34 #[.int .u8 d, .int .i64 x, .int .i64 y, .int .i64 n, .int .u16 v]
  have h0 : Both w0 b b2 r M f := by rw [← hw0]; exact h.alloc _
  have hlt := h.mem.lt
  have hltr := h.ref.ltr
  rw [hw0] at hB
  obtain ⟨g, hg⟩ : ∃ g, w.heap.size = g := ⟨_, rfl⟩
  rw [hg] at hB hlt hltr
  have c1 : w0.cell? ⟨g, 1, none⟩ = some (.int .i64 x) := hB.cell 1
  have c2 : w0.cell? ⟨g, 2, none⟩ = some (.int .i64 y) := hB.cell 2
  have c3 : w0.cell? ⟨g, 3, none⟩ = some (.int .i64 n) := hB.cell 3
  have c4 : w0.cell? ⟨g, 4, none⟩ = some (.int .u16 v) := hB.cell 4
  have hd : Both w0.drew b b2 r M f := h0.wr0 ((Wr.refl _ _).drew)
  have Hw0 := Lib.hid hw0
  have Hg := Lib.hid hg
  have n1 := h.h1
  have n2 := h.h2
  have hle := h.le
  clear hw0 hg hB
  obtain ⟨q, hq⟩ : ∃ q, hasB x 1 M = q := ⟨_, rfl⟩
  have Hq := Lib.hid hq
  clear hq h
  rcases hr with hr | hr | hr
  all_goals
    go_enter Try.func11, Try.ntmps11
    go_wp2_with fail
    rw [Hw0.out, Hg.out]
    go_region_held3 (fun w' => w'.cell? ⟨g, 1, none⟩ = some (.int .i64 x) ∧ w'.cell? ⟨g, 4, none⟩ = some (.int .u16 v)) (first | go_keep | (go_split_ands; refine ⟨?_, ?_⟩ <;> exact Wr.cellOf (by assumption) (by assumption) (by simp; omega))) (first | (go_at_call 15; refine (mem_store_any _ _ _ _ hd.mem (by omega) (by omega) x v hx.1 hx.2 q Hq.out).mono ?_; rintro e w1 ⟨rfl, k1, m1⟩) | (go_at_call 18; refine (ref_store _ _ _ _ _ (hd.ref.wr (by assumption : Wr [b] w0.drew _) (by simp; omega) (by simp; omega)) hle x v hx q Hq.out).mono ?_; rintro e w2 ⟨rfl, k2, q2⟩))
    have hfin : DoesPost w b b2 r M (.returned (.bool true)) w2 := ⟨rfl, ((r0.drew).on k1 (by simp)).on k2 (by simp), _, m1.wr k2 (by simp; omega), q2, n1, n2, hle⟩
    have Hfin := Lib.hid hfin
    clear hfin
    have hqq : (q == q) = true := by cases q <;> rfl
    go_wp2_with fail
    go_ret
    exact Hfin.out

set_option maxHeartbeats 2000000 in
set_option maxRecDepth 100000 in
theorem does_move (w : World) (b b2 r M : Nat) (f : Nat → Int) (h : Both w b b2 r M f) (d x y n v : Int) (hd0 : 0 ≤ d) (hd1 : d ≤ 255) (hx : -9223372036854775808 ≤ x ∧ x ≤ 9223372036854775807) (hy : -9223372036854775808 ≤ y ∧ y ≤ 9223372036854775807) (hr : d % 8 = 3 ∨ d % 8 = 4) :
    Calls Try.prog 11 #[.pointer (some ⟨b, 0, none⟩), .pointer (some ⟨b2, 0, none⟩), .agg #[.int .u8 d, .int .i64 x, .int .i64 y, .int .i64 n, .int .u16 v]] w (DoesPost w b b2 r M) := by
  obtain ⟨w0, hw0⟩ : ∃ w0, w.alloc (.cells #[.int .u8 d, .int .i64 x, .int .i64 y, .int .i64 n, .int .u16 v] 34) = w0 := ⟨_, rfl⟩
  have r0 : Wr [b, r] w w0 := by rw [← hw0]; exact (Wr.refl _ _).alloc _
  have hB := Blk.new w 34 #[.int .u8 d, .int .i64 x, .int .i64 y, .int .i64 n, .int .u16 v]
  have h0 : Both w0 b b2 r M f := by rw [← hw0]; exact h.alloc _
  have hlt := h.mem.lt
  have hltr := h.ref.ltr
  rw [hw0] at hB
  obtain ⟨g, hg⟩ : ∃ g, w.heap.size = g := ⟨_, rfl⟩
  rw [hg] at hB hlt hltr
  have c1 : w0.cell? ⟨g, 1, none⟩ = some (.int .i64 x) := hB.cell 1
  have c2 : w0.cell? ⟨g, 2, none⟩ = some (.int .i64 y) := hB.cell 2
  have c3 : w0.cell? ⟨g, 3, none⟩ = some (.int .i64 n) := hB.cell 3
  have c4 : w0.cell? ⟨g, 4, none⟩ = some (.int .u16 v) := hB.cell 4
  have hd : Both w0.drew b b2 r M f := h0.wr0 ((Wr.refl _ _).drew)
  have Hw0 := Lib.hid hw0
  have Hg := Lib.hid hg
  have n1 := h.h1
  have n2 := h.h2
  have hle := h.le
  clear hw0 hg hB
  obtain ⟨q, hq⟩ : ∃ q, moveB y x n M = q := ⟨_, rfl⟩
  have Hq := Lib.hid hq
  clear hq h
  rcases hr with hr | hr
  all_goals
    go_enter Try.func11, Try.ntmps11
    go_wp2_with fail
    rw [Hw0.out, Hg.out]
    go_region_held3 (fun w' => w'.cell? ⟨g, 1, none⟩ = some (.int .i64 x) ∧ w'.cell? ⟨g, 2, none⟩ = some (.int .i64 y) ∧ w'.cell? ⟨g, 3, none⟩ = some (.int .i64 n)) (first | go_keep | (go_split_ands; refine ⟨?_, ?_, ?_⟩ <;> exact Wr.cellOf (by assumption) (by assumption) (by simp; omega))) (first | (go_at_call 16; refine (mem_move_any _ _ _ _ hd.mem (by omega) (by omega) y x n hy hx q Hq.out).mono ?_; rintro e w1 ⟨rfl, k1, m1⟩) | (go_at_call 19; refine (ref_move _ _ _ _ _ (hd.ref.wr (by assumption : Wr [b] w0.drew _) (by simp; omega) (by simp; omega)) hle y x n hy hx q Hq.out).mono ?_; rintro e w2 ⟨rfl, k2, q2⟩))
    have hfin : DoesPost w b b2 r M (.returned (.bool true)) w2 := ⟨rfl, ((r0.drew).on k1 (by simp)).on k2 (by simp), _, m1.wr k2 (by simp; omega), q2, n1, n2, hle⟩
    have Hfin := Lib.hid hfin
    clear hfin
    have hqq : (q == q) = true := by cases q <;> rfl
    go_wp2_with fail
    go_ret
    exact Hfin.out

set_option maxHeartbeats 2000000 in
set_option maxRecDepth 100000 in
theorem does_clear (w : World) (b b2 r M : Nat) (f : Nat → Int) (h : Both w b b2 r M f) (d x y n v : Int) (hd0 : 0 ≤ d) (hd1 : d ≤ 255) (hx : -9223372036854775808 ≤ x ∧ x ≤ 9223372036854775807) (hy : -9223372036854775808 ≤ y ∧ y ≤ 9223372036854775807) (hr : d % 8 = 5) :
    Calls Try.prog 11 #[.pointer (some ⟨b, 0, none⟩), .pointer (some ⟨b2, 0, none⟩), .agg #[.int .u8 d, .int .i64 x, .int .i64 y, .int .i64 n, .int .u16 v]] w (DoesPost w b b2 r M) := by
  obtain ⟨w0, hw0⟩ : ∃ w0, w.alloc (.cells #[.int .u8 d, .int .i64 x, .int .i64 y, .int .i64 n, .int .u16 v] 34) = w0 := ⟨_, rfl⟩
  have r0 : Wr [b, r] w w0 := by rw [← hw0]; exact (Wr.refl _ _).alloc _
  have hB := Blk.new w 34 #[.int .u8 d, .int .i64 x, .int .i64 y, .int .i64 n, .int .u16 v]
  have h0 : Both w0 b b2 r M f := by rw [← hw0]; exact h.alloc _
  have hlt := h.mem.lt
  have hltr := h.ref.ltr
  rw [hw0] at hB
  obtain ⟨g, hg⟩ : ∃ g, w.heap.size = g := ⟨_, rfl⟩
  rw [hg] at hB hlt hltr
  have c1 : w0.cell? ⟨g, 1, none⟩ = some (.int .i64 x) := hB.cell 1
  have c2 : w0.cell? ⟨g, 2, none⟩ = some (.int .i64 y) := hB.cell 2
  have c3 : w0.cell? ⟨g, 3, none⟩ = some (.int .i64 n) := hB.cell 3
  have c4 : w0.cell? ⟨g, 4, none⟩ = some (.int .u16 v) := hB.cell 4
  have hd : Both w0.drew b b2 r M f := h0.wr0 ((Wr.refl _ _).drew)
  have Hw0 := Lib.hid hw0
  have Hg := Lib.hid hg
  have n1 := h.h1
  have n2 := h.h2
  have hle := h.le
  clear hw0 hg hB
  obtain ⟨q, hq⟩ : ∃ q, clearB x n M = q := ⟨_, rfl⟩
  have Hq := Lib.hid hq
  clear hq h
  go_enter Try.func11, Try.ntmps11
  go_wp2_with fail
  rw [Hw0.out, Hg.out]
  go_region_held3 (fun w' => w'.cell? ⟨g, 1, none⟩ = some (.int .i64 x) ∧ w'.cell? ⟨g, 3, none⟩ = some (.int .i64 n)) (first | go_keep | (go_split_ands; refine ⟨?_, ?_⟩ <;> exact Wr.cellOf (by assumption) (by assumption) (by simp; omega))) (first | (go_at_call 17; refine (mem_clear_any _ _ _ _ hd.mem (by omega) (by omega) x n hx q Hq.out).mono ?_; rintro e w1 ⟨rfl, k1, m1⟩) | (go_at_call 20; refine (ref_clear _ _ _ _ _ (hd.ref.wr (by assumption : Wr [b] w0.drew _) (by simp; omega) (by simp; omega)) hle x n hx q Hq.out).mono ?_; rintro e w2 ⟨rfl, k2, q2⟩))
  have hfin : DoesPost w b b2 r M (.returned (.bool true)) w2 := ⟨rfl, ((r0.drew).on k1 (by simp)).on k2 (by simp), _, m1.wr k2 (by simp; omega), q2, n1, n2, hle⟩
  have Hfin := Lib.hid hfin
  clear hfin
  have hqq : (q == q) = true := by cases q <;> rfl
  go_wp2_with fail
  go_ret
  exact Hfin.out

end Go.Proofs.Ytofkjcdpnkfcnaa
