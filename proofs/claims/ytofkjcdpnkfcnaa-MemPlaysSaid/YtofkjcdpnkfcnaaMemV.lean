/- The law MemPlays, walked. No conditions. -/
import Derived.Test.YtofkjcdpnkfcnaaMemD
namespace Go.Proofs.Ytofkjcdpnkfcnaa
open Go.RowKit
set_option linter.unusedVariables false

theorem Row1.none_ (w : World) (g : Nat → Value) : Row1 w (.slice none 0 0) 0 g := ⟨none, 0, rfl, Nat.le_refl _, by simp, fun j hj => absurd hj (by omega)⟩

set_option maxHeartbeats 2000000 in
set_option maxRecDepth 100000 in
theorem does_load (w : World) (b b2 r M : Nat) (f : Nat → Int) (h : Both w b b2 r M f) (d x y n v : Int) (hd0 : 0 ≤ d) (hd1 : d ≤ 255) (hx : -9223372036854775808 ≤ x ∧ x ≤ 9223372036854775807) (hy : -9223372036854775808 ≤ y ∧ y ≤ 9223372036854775807) (hr : d % 8 = 7) :
    Calls Try.prog 11 #[.pointer (some ⟨b, 0, none⟩), .pointer (some ⟨b2, 0, none⟩), .agg #[.int .u8 d, .int .i64 x, .int .i64 y, .int .i64 n, .int .u16 v]] w (DoesPost w b b2 r M) := by
  obtain ⟨w0, hw0⟩ : ∃ w0, w.alloc (.cells #[.int .u8 d, .int .i64 x, .int .i64 y, .int .i64 n, .int .u16 v] 34) = w0 := ⟨_, rfl⟩
  have r0 : Wr [] w w0 := by rw [← hw0]; exact (Wr.refl _ _).alloc _
  have hB := Blk.new w 34 #[.int .u8 d, .int .i64 x, .int .i64 y, .int .i64 n, .int .u16 v]
  have h0 : Both w0 b b2 r M f := by rw [← hw0]; exact h.alloc _
  rw [hw0] at hB
  have c1 : w0.cell? ⟨w.heap.size, 1, none⟩ = some (.int .i64 x) := hB.cell 1
  have Hw0 := Lib.hid hw0
  obtain ⟨q, hq⟩ : ∃ q, hasB x 1 M = q := ⟨_, rfl⟩
  have Hq := Lib.hid hq
  have hle := h.le
  obtain ⟨z, hz⟩ : ∃ z, (bif q then f (x.toNat - 1) else 0) = z := ⟨_, rfl⟩
  have hl := mem_load_any w0 b M f h0.mem (by omega) (by omega) x hx.1 hx.2 q Hq.out
  have hl2 := fun w1 (hr : RefAt w1 b2 r M f) => ref_load w1 b2 r M f hr hle x hx q Hq.out
  rw [hz] at hl
  have hl3 : ∀ w1 (hr : RefAt w1 b2 r M f), Calls Try.prog 22 #[.pointer (some ⟨b2, 0, none⟩), .int .i64 x] w1 fun e w' => e = .returned (.tuple #[.int .u16 z, .bool q]) ∧ w1 = w' := by
    intro w1 hr
    have := hl2 w1 hr
    rwa [hz] at this
  have hqq : (q == q) = true := by cases q <;> rfl
  clear hq hw0 h hB hz hl2
  go_enter Try.func11, Try.ntmps11
  go_wp2_with fail
  rw [Hw0.out]
  refine hl.mono ?_
  clear hl
  rintro e w1 ⟨rfl, k1⟩
  have c1' := k1.cellOf c1 (by simp)
  have h1 := h0.wr0 k1
  have r1 := r0.trans k1
  clear c1 h0 r0 k1
  go_wp2_with fail
  refine (hl3 _ h1.ref).mono ?_
  clear hl3
  rintro e w2 ⟨rfl, rfl⟩
  have hfin : DoesPost w b b2 r M (.returned (.bool true)) w1 := ⟨rfl, r1.nil, f, h1⟩
  have Hfin := Lib.hid hfin
  clear hfin h1 r1
  go_wp2_with fail
  go_ret
  exact Hfin.out

set_option maxHeartbeats 2000000 in
set_option maxRecDepth 100000 in
theorem does_row (w : World) (b b2 r M : Nat) (f : Nat → Int) (h : Both w b b2 r M f) (d x y n v : Int) (hd0 : 0 ≤ d) (hd1 : d ≤ 255) (hx : -9223372036854775808 ≤ x ∧ x ≤ 9223372036854775807) (hy : -9223372036854775808 ≤ y ∧ y ≤ 9223372036854775807) (hr : d % 8 = 6) :
    Calls Try.prog 11 #[.pointer (some ⟨b, 0, none⟩), .pointer (some ⟨b2, 0, none⟩), .agg #[.int .u8 d, .int .i64 x, .int .i64 y, .int .i64 n, .int .u16 v]] w (DoesPost w b b2 r M) := by
  obtain ⟨w0, hw0⟩ : ∃ w0, w.alloc (.cells #[.int .u8 d, .int .i64 x, .int .i64 y, .int .i64 n, .int .u16 v] 34) = w0 := ⟨_, rfl⟩
  have r0 : Wr [] w w0 := by rw [← hw0]; exact (Wr.refl _ _).alloc _
  have hB := Blk.new w 34 #[.int .u8 d, .int .i64 x, .int .i64 y, .int .i64 n, .int .u16 v]
  have h0 : Both w0 b b2 r M f := by rw [← hw0]; exact h.alloc _
  rw [hw0] at hB
  have c1 : w0.cell? ⟨w.heap.size, 1, none⟩ = some (.int .i64 x) := hB.cell 1
  have c3 : w0.cell? ⟨w.heap.size, 3, none⟩ = some (.int .i64 n) := hB.cell 3
  have Hw0 := Lib.hid hw0
  have hle := h.le
  clear hw0 h hB
  cases hq : thereB x n M with
  | true =>
    have hq' : 0 ≤ n ∧ hasB x n M = true := by simpa [thereB] using hq
    obtain ⟨n0, hq2⟩ := hq'
    have hm := mem_row_ok w0 b M f h0.mem (by omega) (by omega) x n n0 hq2
    have hx1 := (hasB_yes hq2)
    have hrr := fun w1 (hr : RefAt w1 b2 r M f) => ref_row_yes w1 b2 r M f hr hle x n hx hq
    clear hq hq2
    go_enter Try.func11, Try.ntmps11
    go_wp2_with fail
    rw [Hw0.out]
    refine hm.mono ?_
    clear hm
    rintro e w1 ⟨u, rfl, k1, hu⟩
    have c1' := k1.cellOf c1 (by simp)
    have c3' := k1.cellOf c3 (by simp)
    have h1 := h0.wr0 k1
    have r1 := r0.trans k1
    clear c1 c3 h0 r0 k1
    go_wp2_with fail
    refine (hrr _ h1.ref).mono ?_
    clear hrr
    rintro e w2 ⟨rfl, k2, bl⟩
    have hv := Row1.ofRef (by unfold maxLen; omega) bl
    have hu2 := hu.wr0 k2
    have h2 := h1.wr0 k2
    have r2 := r1.trans k2
    clear hu h1 r1 k2 bl
    go_wp2_with fail
    refine (ref_same _ _ _ _ _ hu2 hv).mono ?_
    rintro e w3 ⟨rfl, k3⟩
    have hfin : DoesPost w b b2 r M (.returned (.bool true)) w3 := ⟨rfl, (r2.trans k3).nil, f, h2.wr0 k3⟩
    have Hfin := Lib.hid hfin
    clear hfin h2 r2 k3 hu2 hv
    go_wp2_with fail
    go_ret
    exact Hfin.out
  | false =>
    have hm : Calls Try.prog 12 #[.pointer (some ⟨b, 0, none⟩), .int .i64 x, .int .i64 n] w0 fun e w' => e = .returned (.tuple #[.slice none 0 0, .bool false]) ∧ Wr [] w0 w' := by
      by_cases n0 : 0 ≤ n
      · have hq2 : hasB x n M = false := by simpa [thereB, n0] using hq
        exact mem_row_no w0 b M f h0.mem (by omega) (by omega) x n n0 hx.1 hx.2 hq2
      · exact mem_row_neg w0 b M f h0.mem x n (by omega)
    have hrr := fun w1 (hr : RefAt w1 b2 r M f) => ref_row_no w1 b2 r M f hr hle x n hx hq
    clear hq
    go_enter Try.func11, Try.ntmps11
    go_wp2_with fail
    rw [Hw0.out]
    refine hm.mono ?_
    clear hm
    rintro e w1 ⟨rfl, k1⟩
    have c1' := k1.cellOf c1 (by simp)
    have c3' := k1.cellOf c3 (by simp)
    have h1 := h0.wr0 k1
    have r1 := r0.trans k1
    clear c1 c3 h0 r0 k1
    go_wp2_with fail
    refine (hrr _ h1.ref).mono ?_
    clear hrr
    rintro e w2 ⟨rfl, rfl⟩
    go_wp2_with fail
    refine (ref_same _ _ _ 0 (fun _ => 0) (Row1.none_ _ _) (Row1.none_ _ _)).mono ?_
    rintro e w3 ⟨rfl, k3⟩
    have hfin : DoesPost w b b2 r M (.returned (.bool true)) w3 := ⟨rfl, (r1.trans k3).nil, f, h1.wr0 k3⟩
    have Hfin := Lib.hid hfin
    clear hfin h1 r1 k3
    go_wp2_with fail
    go_ret
    exact Hfin.out

theorem does_any (w : World) (b b2 r M : Nat) (f : Nat → Int) (h : Both w b b2 r M f) (c : CallOf) (hc : c.ok) :
    Calls Try.prog 11 #[.pointer (some ⟨b, 0, none⟩), .pointer (some ⟨b2, 0, none⟩), .agg #[.int .u8 c.d, .int .i64 c.x, .int .i64 c.y, .int .i64 c.n, .int .u16 c.v]] w (DoesPost w b b2 r M) := by
  obtain ⟨⟨d0, d1⟩, hx, hy, _, _⟩ := hc
  have hr8 : (c.d % 8 = 0 ∨ c.d % 8 = 1 ∨ c.d % 8 = 2) ∨ (c.d % 8 = 3 ∨ c.d % 8 = 4) ∨ c.d % 8 = 5 ∨ c.d % 8 = 6 ∨ c.d % 8 = 7 := by omega
  rcases hr8 with hr | hr | hr | hr | hr
  · exact does_store w b b2 r M f h c.d c.x c.y c.n c.v d0 d1 hx hy hr
  · exact does_move w b b2 r M f h c.d c.x c.y c.n c.v d0 d1 hx hy hr
  · exact does_clear w b b2 r M f h c.d c.x c.y c.n c.v d0 d1 hx hy hr
  · exact does_row w b b2 r M f h c.d c.x c.y c.n c.v d0 d1 hx hy hr
  · exact does_load w b b2 r M f h c.d c.x c.y c.n c.v d0 d1 hx hy hr

def PlaysAt (b b2 r M len : Nat) (w0 : World) (iv : Value) (w : World) : Prop :=
  ∃ (k : Nat) (f : Nat → Int), k ≤ len ∧ iv = .int .i64 k ∧ Both w b b2 r M f ∧ Wr [b, r] w0 w

set_option maxHeartbeats 2000000 in
set_option maxRecDepth 100000 in
theorem mem_plays_walk (w : World) (n : Int) (wn : (Lit.int .i64 n).wf = true) (v : Value) (g : IsCalls w v) :
    Calls Try.prog 3 #[.int .i64 n, v] w fun e w' => e = .returned (.bool true) ∧ Wr [] w w' := by
  obtain ⟨n0, n1⟩ := Go.bounds_i64 wn
  obtain ⟨a, len, cap, C, rfl, hlc, hcm, hx⟩ := g
  clear wn
  have Hx := Lib.hid hx
  clear hx
  unfold maxLen at hcm
  by_cases hl : 150 < len
  · go_enter Try.func3, Try.ntmps3
    go_wp2_with fail
    refine (mem_alive _).mono ?_
    rintro e w2 ⟨rfl, k⟩
    go_wp2_with fail
    go_ret
    exact ⟨rfl, k⟩
  by_cases hn : n < 0 ∨ 65535 < n
  · go_enter Try.func3, Try.ntmps3
    go_wp2_with fail
    refine (mem_new_no n _ hn).mono ?_
    rintro e w1 ⟨rfl, rfl⟩
    go_wp2_with fail
    refine (ref_new_no n _ hn).mono ?_
    rintro e w1 ⟨rfl, rfl⟩
    go_wp2_with fail
    refine (mem_alive _).mono ?_
    rintro e w2 ⟨rfl, k⟩
    go_wp2_with fail
    go_ret
    exact ⟨rfl, k⟩
  obtain ⟨M, rfl⟩ : ∃ M : Nat, n = M := ⟨n.toNat, by omega⟩
  have hM : M ≤ 65535 := by omega
  clear hn n0 n1
  go_enter Try.func3, Try.ntmps3
  go_wp2_with fail
  refine (mem_new_ok _ _ (by omega) (by omega)).mono ?_
  rintro e w1 ⟨rfl, r1, m1⟩
  obtain ⟨b1, hb1⟩ : ∃ b, w.heap.size = b := ⟨_, rfl⟩
  have hb1' : w.heap.size ≤ b1 := by omega
  rw [hb1] at m1 ⊢
  clear hb1
  have hlt := m1.lt
  go_wp2_with fail
  refine (ref_new_ok M _ (by omega) (by omega)).mono ?_
  rintro e w2 ⟨rfl, k, q1⟩
  rw [Int.toNat_natCast] at q1
  obtain ⟨b2, hb2⟩ : ∃ b, w1.heap.size + 1 = b := ⟨_, rfl⟩
  obtain ⟨r, hr⟩ : ∃ b, w1.heap.size = b := ⟨_, rfl⟩
  rw [hr] at hb2
  rw [hr, hb2] at q1
  rw [hr, hb2]
  have hbo : Both w2 b1 b2 r M (fun _ => 0) := ⟨m1.wr0 k, q1, by omega, by omega, hM⟩
  have r2 := r1.trans k
  have hrr : w.heap.size ≤ r := by have := r1.size; omega
  clear hb2 hr hlt m1 q1 k r1
  go_wp2_with fail
  refine (mem_len _ _ _ _ hbo.mem).mono ?_
  rintro e w3 ⟨rfl, rfl⟩
  go_wp2_with fail
  go_loopw [8] (fun iv wr => PlaysAt b1 b2 r M len w2 iv wr) (fun iv _ => len - (intOf iv).toNat)
  case atStart => exact ⟨0, _, by omega, rfl, hbo, Wr.refl _ _⟩
  case round =>
    obtain ⟨k, f, hk, rfl, hm, hw⟩ := hrel
    have hnew : Wr [] w wr := r2.trans' hw (fun x hx => .inr (by simp at hx; rcases hx with rfl | rfl <;> omega))
    by_cases hlt : k < len
    · obtain ⟨hok, b, off, rfl, hcall⟩ := Hx.out k hlt
      obtain ⟨c0, c1, c2, c3, c4⟩ := hcall.wr hnew (by simp)
      clear hcall
      have hdo := does_any wr b1 b2 r M f hm (C k) hok
      generalize (C k).d = d at *
      generalize (C k).x = x at *
      generalize (C k).y = y at *
      generalize (C k).n = q at *
      generalize (C k).v = z at *
      clear hok
      go_wp2_with fail
      refine hdo.mono ?_
      clear hdo c0 c1 c2 c3 c4
      rintro e w4 ⟨rfl, k4, f4, hm4⟩
      have hx : PlaysAt b1 b2 r M len w2 (.int .i64 (k + 1 : Nat)) w4 := ⟨k + 1, f4, by omega, rfl, hm4, hw.trans k4⟩
      have Hx2 := Lib.hid hx
      clear hx hm4 hw k4 hm
      go_wp2_with fail
      go_roundw
      case rel => exact Hx2.out
      case measure => simp [intOf]; omega
    · go_wp2_with fail
      refine (mem_row_ok _ _ _ _ hm.mem (by omega) (by omega) 1 M (by omega) (by simp [hasB] <;> omega)).mono ?_
      rintro e w5 ⟨u, rfl, k5, hu⟩
      have h5 := hm.wr0 k5
      have n5 := hnew.trans k5
      have cs := h5.ref.cs
      have hv := Row1.ofRef (by unfold maxLen; omega) h5.ref.2.2
      have e1 : (fun j => Value.int .u16 (f ((1 : Int).toNat - 1 + j))) = (fun j => Value.int .u16 (f j)) := by
        funext j
        have : (1 : Int).toNat - 1 + j = j := by omega
        rw [this]
      rw [e1, Int.toNat_natCast] at hu
      clear hm hw hnew k5 e1
      go_wp2_with fail
      refine (ref_same _ _ _ _ _ hu hv).mono ?_
      rintro e w6 ⟨rfl, k6⟩
      clear hu hv
      go_wp2_with fail
      refine (mem_alive _).mono ?_
      rintro e w7 ⟨rfl, k7⟩
      go_wp2_with fail
      go_ret
      exact ⟨rfl, (n5.trans k6).trans k7⟩
end Go.Proofs.Ytofkjcdpnkfcnaa
