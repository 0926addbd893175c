/- The memory's Load and Store, walked. No conditions but that the memory has at most 65535 words. -/
import Derived.Test.YtofkjcdpnkfcnaaMemG
namespace Go.Proofs.Ytofkjcdpnkfcnaa
open Go.RowKit
set_option linter.unusedVariables false

theorem hasAll_one (x n m : Int) : hasAll [x] n m = hasB x n m := by simp [hasAll]
theorem hasAll_two (x y n m : Int) : hasAll [x, y] n m = (hasB x n m && hasB y n m) := by simp [hasAll]
theorem hasB_yes {x n m : Int} (h : hasB x n m = true) : 1 ≤ x ∧ x ≤ m + 1 ∧ n ≤ m + 1 - x := by simpa [hasB] using h

/-- 'there' of one place, behind the slice of it that the call makes. -/
theorem mem_there1 (w0 w : World) {x : Int} (hw : w0.alloc (.cells #[.int .i64 x] 3) = w) (b : Nat) (m : Int) (f : Nat → Int) (h : MemAt w0 b m f) (m0 : 0 ≤ m) (m1 : m ≤ 65535) (n : Int) (hn : 0 ≤ n) (x0 : -9223372036854775808 ≤ x) (x1 : x ≤ 9223372036854775807) :
    Calls Try.prog 23 #[.pointer (some ⟨b, 0, none⟩), .int .i64 n, .slice (some ⟨w0.heap.size, 0, none⟩) 1 1] w fun e w' => e = .returned (.bool (hasB x n m)) ∧ Wr [] w0 w' := by
  subst hw
  have hc := (Blk.new w0 3 #[.int .i64 x]).cell 0
  have := mem_there_some (w0.alloc (.cells #[.int .i64 x] 3)) b m f (Blk.alloc h _) m0 m1 n hn w0.heap.size [x] (by simp) (by simp) (by intro y hy; simp at hy; subst hy; exact ⟨x0, x1⟩) (by
    intro i hi
    have : i = 0 := by simp at hi; omega
    subst this
    exact hc)
  rw [hasAll_one] at this
  refine Calls.mono this ?_
  rintro e w' ⟨he, hr⟩
  exact ⟨he, ((Wr.refl _ _).alloc _).trans hr⟩

theorem mem_there2 (w0 w : World) {x y : Int} (hw : w0.alloc (.cells #[.int .i64 x, .int .i64 y] 3) = w) (b : Nat) (m : Int) (f : Nat → Int) (h : MemAt w0 b m f) (m0 : 0 ≤ m) (m1 : m ≤ 65535) (n : Int) (hn : 0 ≤ n) (x0 : -9223372036854775808 ≤ x) (x1 : x ≤ 9223372036854775807) (y0 : -9223372036854775808 ≤ y) (y1 : y ≤ 9223372036854775807) :
    Calls Try.prog 23 #[.pointer (some ⟨b, 0, none⟩), .int .i64 n, .slice (some ⟨w0.heap.size, 0, none⟩) 2 2] w fun e w' => e = .returned (.bool (hasB x n m && hasB y n m)) ∧ Wr [] w0 w' := by
  subst hw
  have hc := Blk.new w0 3 #[.int .i64 x, .int .i64 y]
  have := mem_there_some (w0.alloc (.cells #[.int .i64 x, .int .i64 y] 3)) b m f (Blk.alloc h _) m0 m1 n hn w0.heap.size [x, y] (by simp) (by simp) (by intro z hz; simp at hz; rcases hz with rfl | rfl <;> constructor <;> assumption) (by
    intro i hi
    have : i = 0 ∨ i = 1 := by simp at hi; omega
    rcases this with rfl | rfl
    · exact hc.cell 0
    · exact hc.cell 1)
  rw [hasAll_two] at this
  refine Calls.mono this ?_
  rintro e w' ⟨he, hr⟩
  exact ⟨he, ((Wr.refl _ _).alloc _).trans hr⟩

set_option maxHeartbeats 400000 in
theorem mem_load_nil (w : World) (x : Int) :
    Calls Try.prog 14 #[.pointer none, .int .i64 x] w fun e w' => e = .returned (.tuple #[.int .u16 0, .bool false]) ∧ Wr [] w w' := by
  go_enter Try.func14, Try.ntmps14
  go_wp2_with fail
  refine (mem_there_nil _ _ _ _).mono ?_
  rintro e w1 ⟨rfl, r1⟩
  go_wp2_with fail
  go_ret2
  exact ⟨rfl, ((Wr.refl _ _).alloc _).trans r1⟩

set_option maxHeartbeats 400000 in
theorem mem_load_no (w : World) (b : Nat) (m : Int) (f : Nat → Int) (h : MemAt w b m f) (m0 : 0 ≤ m) (m1 : m ≤ 65535) (x : Int) (x0 : -9223372036854775808 ≤ x) (x1 : x ≤ 9223372036854775807) (hb : hasB x 1 m = false) :
    Calls Try.prog 14 #[.pointer (some ⟨b, 0, none⟩), .int .i64 x] w fun e w' => e = .returned (.tuple #[.int .u16 0, .bool false]) ∧ Wr [] w w' := by
  have ht := mem_there1 w _ rfl b m f h m0 m1 1 (by omega) x0 x1
  rw [hb] at ht
  clear hb
  go_enter Try.func14, Try.ntmps14
  go_wp2_with fail
  refine ht.mono ?_
  clear ht
  rintro e w1 ⟨rfl, r1⟩
  go_wp2_with fail
  go_ret2
  exact ⟨rfl, r1⟩

set_option maxHeartbeats 400000 in
theorem mem_load_yes (w : World) (b : Nat) (m : Int) (f : Nat → Int) (h : MemAt w b m f) (m0 : 0 ≤ m) (m1 : m ≤ 65535) (x : Int) (x0 : 1 ≤ x) (x1 : x ≤ m) :
    Calls Try.prog 14 #[.pointer (some ⟨b, 0, none⟩), .int .i64 x] w fun e w' => e = .returned (.tuple #[.int .u16 (f (x.toNat - 1)), .bool true]) ∧ Wr [] w w' := by
  have ht := mem_there1 w _ rfl b m f h m0 m1 1 (by omega) (x := x) (by omega) (by omega)
  rw [show hasB x 1 m = true from by simp [hasB]; omega] at ht
  go_enter Try.func14, Try.ntmps14
  go_wp2_with fail
  refine ht.mono ?_
  clear ht
  rintro e w1 ⟨rfl, r1⟩
  have c := (h.wr0 r1).cw (x.toNat - 1) (by omega)
  go_wp2_with fail
  go_ret2
  exact ⟨rfl, r1⟩

set_option maxHeartbeats 400000 in
theorem mem_store_nil (w : World) (x v : Int) :
    Calls Try.prog 15 #[.pointer none, .int .i64 x, .int .u16 v] w fun e w' => e = .returned (.bool false) ∧ Wr [] w w' := by
  go_enter Try.func15, Try.ntmps15
  go_wp2_with fail
  refine (mem_there_nil _ _ _ _).mono ?_
  rintro e w1 ⟨rfl, r1⟩
  go_wp2_with fail
  go_ret
  exact ⟨rfl, ((Wr.refl _ _).alloc _).trans r1⟩

set_option maxHeartbeats 400000 in
theorem mem_store_no (w : World) (b : Nat) (m : Int) (f : Nat → Int) (h : MemAt w b m f) (m0 : 0 ≤ m) (m1 : m ≤ 65535) (x v : Int) (x0 : -9223372036854775808 ≤ x) (x1 : x ≤ 9223372036854775807) (hb : hasB x 1 m = false) :
    Calls Try.prog 15 #[.pointer (some ⟨b, 0, none⟩), .int .i64 x, .int .u16 v] w fun e w' => e = .returned (.bool false) ∧ Wr [] w w' := by
  have ht := mem_there1 w _ rfl b m f h m0 m1 1 (by omega) x0 x1
  rw [hb] at ht
  clear hb
  go_enter Try.func15, Try.ntmps15
  go_wp2_with fail
  refine ht.mono ?_
  clear ht
  rintro e w1 ⟨rfl, r1⟩
  go_wp2_with fail
  go_ret
  exact ⟨rfl, r1⟩

/-- The words behind a store. -/
def upd (f : Nat → Int) (i : Nat) (v : Int) : Nat → Int := fun j => if j = i then v else f j

theorem set_front {L : List Value} {N : Nat} (h : L.length = N) (t : List Value) (i : Nat) (hi : i < N) (x : Value) : ((L ++ t).toArray).setIfInBounds i x = (L.set i x ++ t).toArray := by
  subst h
  apply Array.ext'
  simp [List.set_append_left, hi]

theorem map_range_set (N : Nat) (f : Nat → Int) (i : Nat) (v : Int) (hi : i < N) : ((List.range N).map (fun j => Value.int .u16 (f j))).set i (.int .u16 v) = (List.range N).map (fun j => Value.int .u16 (upd f i v j)) := by
  apply List.ext_getElem?
  intro j
  rw [List.getElem?_set]
  by_cases hj : j < N
  · rw [List.getElem?_map, List.getElem?_map, List.getElem?_range hj]
    by_cases hij : i = j
    · subst hij
      simp [upd, hi]
    · have : ¬ j = i := fun e => hij e.symm
      simp [upd, this, hij]
  · have hn : (List.range N)[j]? = none := List.getElem?_eq_none (by rw [List.length_range]; omega)
    rw [if_neg (by omega), List.getElem?_map, List.getElem?_map, hn]; rfl

theorem memCells_set (f : Nat → Int) (m : Int) (i : Nat) (v : Int) (hi : i < 65535) : (memCells f m).setIfInBounds i (.int .u16 v) = memCells (upd f i v) m := by
  unfold memCells
  rw [set_front (N := 65535) (by rw [List.length_map, List.length_range]) _ _ hi, map_range_set _ _ _ _ hi]

set_option maxHeartbeats 400000 in
theorem mem_store_yes (w : World) (b : Nat) (m : Int) (f : Nat → Int) (h : MemAt w b m f) (m0 : 0 ≤ m) (m1 : m ≤ 65535) (x v : Int) (x0 : 1 ≤ x) (x1 : x ≤ m) :
    Calls Try.prog 15 #[.pointer (some ⟨b, 0, none⟩), .int .i64 x, .int .u16 v] w fun e w' => e = .returned (.bool true) ∧ Wr [b] w w' ∧ MemAt w' b m (upd f (x.toNat - 1) v) := by
  have ht := mem_there1 w _ rfl b m f h m0 m1 1 (by omega) (x := x) (by omega) (by omega)
  rw [show hasB x 1 m = true from by simp [hasB]; omega] at ht
  go_enter Try.func15, Try.ntmps15
  go_wp2_with fail
  refine ht.mono ?_
  clear ht
  rintro e w1 ⟨rfl, r1⟩
  have h1 := h.wr0 r1
  have c := h1.cw (x.toNat - 1) (by omega)
  have fz := Blk.frozen h1 (x.toNat - 1)
  go_wp2_with fail
  go_ret
  refine ⟨rfl, r1.nil.setOn (by simp) _, ?_⟩
  have := Blk.set_ h1 (x.toNat - 1) (.int .u16 v)
  rw [memCells_set _ _ _ _ (by omega)] at this
  exact this
end Go.Proofs.Ytofkjcdpnkfcnaa
