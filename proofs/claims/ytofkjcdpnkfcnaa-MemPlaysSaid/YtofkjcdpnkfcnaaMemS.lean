/- The document's memory (separatumref17), walked: New, There, Load, Store, Same. No conditions but that it has at most 65535 words. -/
import Derived.Test.YtofkjcdpnkfcnaaMemQ
namespace Go.Proofs.Ytofkjcdpnkfcnaa
open Go.RowKit
set_option linter.unusedVariables false

def refCells (f : Nat → Int) (m : Nat) : Array Value := ((List.range m).map (fun i => Value.int .u16 (f i))).toArray
theorem refCells_get (f : Nat → Int) (m i : Nat) (h : i < m) : (refCells f m)[i]? = some (.int .u16 (f i)) := by simp [refCells, List.getElem?_range h]
theorem refCells_set (f : Nat → Int) (m i : Nat) (v : Int) (h : i < m) : (refCells f m).setIfInBounds i (.int .u16 v) = refCells (upd f i v) m := by
  unfold refCells
  rw [← map_range_set m f i v h]
  apply Array.ext'
  simp

/-- Block b is the document's memory of m words, the words f, in a row in block r. -/
def RefAt (w : World) (b r : Nat) (m : Nat) (f : Nat → Int) : Prop :=
  b ≠ r ∧ Blk w b 40 #[.slice (some ⟨r, 0, none⟩) m m] ∧ Blk w r 32 (refCells f m)

theorem RefAt.wr {w w' : World} {b r m : Nat} {f : Nat → Int} {l : List Nat} (h : RefAt w b r m f) (hw : Wr l w w') (hb : b ∉ l) (hr : r ∉ l) : RefAt w' b r m f :=
  ⟨h.1, h.2.1.wr hw hb, h.2.2.wr hw hr⟩
theorem RefAt.wr0 {w w' : World} {b r m : Nat} {f : Nat → Int} (h : RefAt w b r m f) (hw : Wr [] w w') : RefAt w' b r m f := h.wr hw (by simp) (by simp)
theorem RefAt.lt {w : World} {b r m : Nat} {f : Nat → Int} (h : RefAt w b r m f) : b < w.heap.size := h.2.1.lt
theorem RefAt.ltr {w : World} {b r m : Nat} {f : Nat → Int} (h : RefAt w b r m f) : r < w.heap.size := h.2.2.lt
theorem RefAt.cs {w : World} {b r m : Nat} {f : Nat → Int} (h : RefAt w b r m f) : w.cell? ⟨b, 0, none⟩ = some (.slice (some ⟨r, 0, none⟩) m m) := h.2.1.cell 0
theorem RefAt.cw {w : World} {b r m : Nat} {f : Nat → Int} (h : RefAt w b r m f) (i : Nat) (hi : i < m) : w.cell? ⟨r, i, none⟩ = some (.int .u16 (f i)) := (h.2.2.cell i).trans (refCells_get f m i hi)
theorem RefAt.fw {w : World} {b r m : Nat} {f : Nat → Int} (h : RefAt w b r m f) (i : Nat) : w.frozen? ⟨r, i, none⟩ = false := h.2.2.frozen i
theorem RefAt.store {w : World} {b r m : Nat} {f : Nat → Int} (h : RefAt w b r m f) (i : Nat) (hi : i < m) (v : Int) : RefAt (w.setCell ⟨r, i, none⟩ (.int .u16 v)) b r m (upd f i v) :=
  ⟨h.1, h.2.1.far h.1 _, by have := h.2.2.set_ i (.int .u16 v); rwa [refCells_set f m i v hi] at this⟩

theorem madeCells_ref (m : Nat) : madeCells #[.int .u16 0] m = refCells (fun _ => 0) m := by
  apply Array.ext'
  simp [madeCells, refCells, Nat.mod_one]

set_option maxHeartbeats 400000 in
theorem ref_new_ok (n : Int) (w : World) (h0 : 0 ≤ n) (h1 : n ≤ 65535) :
    Calls Try.prog 9 #[.int .i64 n] w fun e w' => e = .returned (.pointer (some ⟨w.heap.size + 1, 0, none⟩)) ∧ Wr [] w w' ∧ RefAt w' (w.heap.size + 1) w.heap.size n.toNat (fun _ => 0) := by
  obtain ⟨i0, hi, hz0, hz1, hz2⟩ := info_parts infoU16
  have hmk : ∀ w : World, (Instr.makeSlice 35 (.int .i64 n) (.int .i64 n)).run Try.prog w = .ok (.slice (some ⟨w.heap.size, 0, none⟩) n.toNat n.toNat) (w.alloc (.cells (madeCells #[.int .u16 0] n.toNat) 32)) := by
    intro w
    have := run_make (P := Try.prog) w 35 32 i0 (.int .u16 0) Try.underlying35 hi hz0 .i64 .i64 n n h0 (Int.le_refl _) (by rw [hz2]; omega) (by omega)
    rwa [hz1, Nat.mul_one] at this
  go_enter Try.func9, Try.ntmps9
  go_wp2
  go_ret
  refine ⟨rfl, ((Wr.refl _ _).alloc _).alloc _, by omega, ?_, ?_⟩
  · have := Blk.new (w.alloc (.cells (madeCells #[.int .u16 0] n.toNat) 32)) 40 #[.slice (some ⟨w.heap.size, 0, none⟩) n.toNat n.toNat]
    rwa [World.size_alloc] at this
  · rw [madeCells_ref]
    exact (Blk.new w _ _).alloc _

set_option maxHeartbeats 400000 in
theorem ref_new_no (n : Int) (w : World) (h : n < 0 ∨ 65535 < n) :
    Calls Try.prog 9 #[.int .i64 n] w fun e w' => e = .returned (.pointer none) ∧ w = w' := by
  rcases h with h | h
  · go_enter Try.func9, Try.ntmps9
    go_wp2
    go_ret
    exact ⟨rfl, rfl⟩
  · have h0 : ¬ n < 0 := by omega
    go_enter Try.func9, Try.ntmps9
    go_wp2
    go_ret
    exact ⟨rfl, rfl⟩

/-- There: is the row there? -/
def thereB (x n m : Int) : Bool := decide (0 ≤ n) && hasB x n m

set_option maxHeartbeats 1000000 in
theorem ref_there (w : World) (b r : Nat) (m : Nat) (f : Nat → Int) (h : RefAt w b r m f) (m1 : m ≤ 65535) (x n : Int) (hx : -9223372036854775808 ≤ x ∧ x ≤ 9223372036854775807) (q : Bool) (hq : thereB x n m = q) :
    Calls Try.prog 24 #[.pointer (some ⟨b, 0, none⟩), .int .i64 x, .int .i64 n] w fun e w' => e = .returned (.bool q) ∧ w = w' := by
  have c := h.cs
  obtain ⟨hx0, hx1⟩ := hx
  by_cases h0 : 0 ≤ n
  · by_cases h1 : 1 ≤ x
    · by_cases h2 : x ≤ m + 1
      · by_cases h3 : n ≤ m + 1 - x
        · have hv : q = true := by rw [← hq]; simp [thereB, hasB, h0, h1, h2, h3]
          subst hv
          clear hq
          go_enter Try.func24, Try.ntmps24
          go_wp2
          go_ret
          exact ⟨rfl, rfl⟩
        · have hv : q = false := by rw [← hq]; simp [thereB, hasB, h0, h1, h2, h3]
          subst hv
          clear hq
          have hd : decide (n ≤ (m : Int) + 1 - x) = false := by simpa using h3
          go_enter Try.func24, Try.ntmps24
          go_wp2
          go_ret
          exact ⟨rfl, rfl⟩
      · have hv : q = false := by rw [← hq]; simp [thereB, hasB, h0, h1, h2]
        subst hv
        clear hq
        have hd : decide (x ≤ (m : Int) + 1) = false := by simpa using h2
        go_enter Try.func24, Try.ntmps24
        go_wp2
        go_ret
        exact ⟨rfl, rfl⟩
    · have hv : q = false := by rw [← hq]; simp [thereB, hasB, h0, h1]
      subst hv
      clear hq
      have hd : decide (1 ≤ x) = false := by simpa using h1
      go_enter Try.func24, Try.ntmps24
      go_wp2
      go_ret
      exact ⟨rfl, rfl⟩
  · have hv : q = false := by rw [← hq]; simp [thereB, h0]
    subst hv
    clear hq
    have hd : decide (0 ≤ n) = false := by simpa using h0
    go_enter Try.func24, Try.ntmps24
    go_wp2
    go_ret
    exact ⟨rfl, rfl⟩

theorem there1 (x : Int) (m : Int) (m0 : 0 ≤ m) : thereB x 1 m = hasB x 1 m := by simp [thereB]

set_option maxHeartbeats 400000 in
theorem ref_load (w : World) (b r : Nat) (m : Nat) (f : Nat → Int) (h : RefAt w b r m f) (m1 : m ≤ 65535) (x : Int) (hx : -9223372036854775808 ≤ x ∧ x ≤ 9223372036854775807) (q : Bool) (hq : hasB x 1 m = q) :
    Calls Try.prog 22 #[.pointer (some ⟨b, 0, none⟩), .int .i64 x] w fun e w' => e = .returned (.tuple #[.int .u16 (bif q then f (x.toNat - 1) else 0), .bool q]) ∧ w = w' := by
  have hth := ref_there w b r m f h m1 x 1 hx q (by rw [there1 x m (by omega)]; exact hq)
  have c := h.cs
  cases q with
  | true =>
    obtain ⟨h1, h2, h3⟩ := hasB_yes hq
    have cx := h.cw (x.toNat - 1) (by omega)
    go_enter Try.func22, Try.ntmps22
    go_wp2_with fail
    refine hth.mono ?_
    clear hth
    rintro e w1 ⟨rfl, rfl⟩
    go_wp2_with fail
    go_ret2
    exact ⟨rfl, rfl⟩
  | false =>
    clear hq
    go_enter Try.func22, Try.ntmps22
    go_wp2_with fail
    refine hth.mono ?_
    clear hth
    rintro e w1 ⟨rfl, rfl⟩
    go_wp2_with fail
    go_ret2
    exact ⟨rfl, rfl⟩

set_option maxHeartbeats 400000 in
theorem ref_store (w : World) (b r : Nat) (m : Nat) (f : Nat → Int) (h : RefAt w b r m f) (m1 : m ≤ 65535) (x v : Int) (hx : -9223372036854775808 ≤ x ∧ x ≤ 9223372036854775807) (q : Bool) (hq : hasB x 1 m = q) :
    Calls Try.prog 18 #[.pointer (some ⟨b, 0, none⟩), .int .i64 x, .int .u16 v] w fun e w' => e = .returned (.bool q) ∧ Wr [r] w w' ∧ RefAt w' b r m (bif q then upd f (x.toNat - 1) v else f) := by
  have hth := ref_there w b r m f h m1 x 1 hx q (by rw [there1 x m (by omega)]; exact hq)
  have c := h.cs
  cases q with
  | true =>
    obtain ⟨h1, h2, h3⟩ := hasB_yes hq
    have cx := h.cw (x.toNat - 1) (by omega)
    have fx := h.fw (x.toNat - 1)
    go_enter Try.func18, Try.ntmps18
    go_wp2_with fail
    refine hth.mono ?_
    clear hth
    rintro e w1 ⟨rfl, rfl⟩
    go_wp2_with fail
    go_ret
    exact ⟨rfl, (Wr.refl _ _).setOn (by simp) _, h.store _ (by omega) _⟩
  | false =>
    clear hq
    go_enter Try.func18, Try.ntmps18
    go_wp2_with fail
    refine hth.mono ?_
    clear hth
    rintro e w1 ⟨rfl, rfl⟩
    go_wp2_with fail
    go_ret
    exact ⟨rfl, Wr.refl _ _, h⟩

/-- Clear's loop: k words are cleared. -/
theorem upds_step (f : Nat → Int) (o k : Nat) (g : Nat → Int) : upd (upds f o k g) (o + k) (g k) = upds f o (k + 1) g := by
  funext j
  unfold upd upds
  by_cases h : j = o + k
  · subst h
    rw [if_pos rfl, if_pos (by omega)]
    congr 1; omega
  · rw [if_neg h]
    by_cases h2 : o ≤ j ∧ j < o + k
    · rw [if_pos h2, if_pos (by omega)]
    · rw [if_neg h2, if_neg (by omega)]

set_option maxHeartbeats 1000000 in
theorem ref_clear (w : World) (b r : Nat) (m : Nat) (f : Nat → Int) (h : RefAt w b r m f) (m1 : m ≤ 65535) (x n : Int) (hx : -9223372036854775808 ≤ x ∧ x ≤ 9223372036854775807) (q : Bool) (hq : thereB x n m = q) :
    Calls Try.prog 20 #[.pointer (some ⟨b, 0, none⟩), .int .i64 x, .int .i64 n] w fun e w' => e = .returned (.bool q) ∧ Wr [r] w w' ∧ RefAt w' b r m (bif q then upds f (x.toNat - 1) n.toNat (fun _ => 0) else f) := by
  have hth := ref_there w b r m f h m1 x n hx q hq
  cases q with
  | true =>
    have hq' : 0 ≤ n ∧ 1 ≤ x ∧ x + n ≤ m + 1 := by simp [thereB, hasB] at hq; omega
    obtain ⟨n0, h1, h2⟩ := hq'
    clear hq
    go_enter Try.func20, Try.ntmps20
    go_wp2_with fail
    refine hth.mono ?_
    clear hth
    rintro e w1 ⟨rfl, rfl⟩
    go_wp2_with fail
    go_loopw [7] (fun iv wr => ∃ k : Nat, k ≤ n.toNat ∧ iv = .int .i64 k ∧ Wr [r] w wr ∧ RefAt wr b r m (upds f (x.toNat - 1) k (fun _ => 0))) (fun iv _ => n.toNat - (intOf iv).toNat)
    case atStart => exact ⟨0, by omega, rfl, Wr.refl _ _, by rw [upds_zero]; exact h⟩
    case round =>
      obtain ⟨k, hk, rfl, hw, hr⟩ := hrel
      by_cases hlt : (k : Int) < n
      · have c := hr.cs
        have cx := hr.cw (x.toNat - 1 + k) (by omega)
        have fx := hr.fw (x.toNat - 1 + k)
        have hs := hr.store (x.toNat - 1 + k) (by omega) 0
        rw [upds_step f (x.toNat - 1) k (fun _ => 0)] at hs
        have e : x.toNat - 1 + k = (x - 1 + (k : Int)).toNat := by omega
        rw [e] at cx fx hs
        have Hs := Lib.hid hs
        clear hs e
        go_wp2_with fail
        go_roundw
        case rel => exact ⟨k + 1, by omega, by go_num, hw.setOn (by simp) _, Hs.out⟩
        case measure => simp [intOf]; omega
      · have hkn : k = n.toNat := by omega
        subst hkn
        go_wp2_with fail
        go_ret
        exact ⟨rfl, hw, hr⟩
  | false =>
    clear hq
    go_enter Try.func20, Try.ntmps20
    go_wp2_with fail
    refine hth.mono ?_
    clear hth
    rintro e w1 ⟨rfl, rfl⟩
    go_wp2_with fail
    go_ret
    exact ⟨rfl, Wr.refl _ _, h⟩
end Go.Proofs.Ytofkjcdpnkfcnaa
