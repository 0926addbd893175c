/- The memory's Row, walked. No conditions but that the memory has at most 65535 words. -/
import Derived.Test.YtofkjcdpnkfcnaaMemL
namespace Go.Proofs.Ytofkjcdpnkfcnaa
open Go.RowKit
set_option linter.unusedVariables false

theorem infoU16 : (Try.prog.info? 32).map (fun i => (i.zero, i.size, i.bytes)) = some (some (.int .u16 0), 1, 2) := by kernel_rfl

/-- What Row answers: nothing, and false; or the words. -/
def RowSays (f : Nat → Int) (x n : Int) (w : World) (e : Ending) (w' : World) : Prop :=
  ∃ v, e = .returned (.tuple #[v, .bool true]) ∧ Wr [] w w' ∧ Row1 w' v n.toNat (fun j => .int .u16 (f (x.toNat - 1 + j)))

set_option maxHeartbeats 400000 in
theorem mem_row_nil (w : World) (x n : Int) :
    Calls Try.prog 12 #[.pointer none, .int .i64 x, .int .i64 n] w fun e w' => e = .returned (.tuple #[.slice none 0 0, .bool false]) ∧ Wr [] w w' := by
  go_enter Try.func12, Try.ntmps12
  go_wp2_with fail
  refine (mem_there_nil _ _ _ _).mono ?_
  rintro e w1 ⟨rfl, r1⟩
  go_wp2_with fail
  go_ret2
  exact ⟨rfl, ((Wr.refl _ _).alloc _).trans r1⟩

set_option maxHeartbeats 400000 in
theorem mem_row_neg (w : World) (b : Nat) (m : Int) (f : Nat → Int) (h : MemAt w b m f) (x n : Int) (hn : n < 0) :
    Calls Try.prog 12 #[.pointer (some ⟨b, 0, none⟩), .int .i64 x, .int .i64 n] w fun e w' => e = .returned (.tuple #[.slice none 0 0, .bool false]) ∧ Wr [] w w' := by
  go_enter Try.func12, Try.ntmps12
  go_wp2_with fail
  refine (mem_there_neg _ b m f (Blk.alloc h _) n hn _ _).mono ?_
  rintro e w1 ⟨rfl, r1⟩
  go_wp2_with fail
  go_ret2
  exact ⟨rfl, ((Wr.refl _ _).alloc _).trans r1⟩

set_option maxHeartbeats 400000 in
theorem mem_row_no (w : World) (b : Nat) (m : Int) (f : Nat → Int) (h : MemAt w b m f) (m0 : 0 ≤ m) (m1 : m ≤ 65535) (x n : Int) (hn : 0 ≤ n) (x0 : -9223372036854775808 ≤ x) (x1 : x ≤ 9223372036854775807) (hb : hasB x n m = false) :
    Calls Try.prog 12 #[.pointer (some ⟨b, 0, none⟩), .int .i64 x, .int .i64 n] w fun e w' => e = .returned (.tuple #[.slice none 0 0, .bool false]) ∧ Wr [] w w' := by
  have ht := mem_there1 w _ rfl b m f h m0 m1 n hn x0 x1
  rw [hb] at ht
  clear hb
  go_enter Try.func12, Try.ntmps12
  go_wp2_with fail
  refine ht.mono ?_
  clear ht
  rintro e w1 ⟨rfl, r1⟩
  go_wp2_with fail
  go_ret2
  exact ⟨rfl, r1⟩

/-- 'words[x-1:x-1+n]' of the array in block b, not at its end. -/
theorem run_words (w : World) (b : Nat) (x n : Int) (h0 : 1 ≤ x) (h1 : 0 ≤ n) (h2 : x - 1 + n ≤ 65535) (h3 : x < 65536) :
    (Instr.sliceAt 50 (.pointer (some ⟨b, 0, none⟩)) (some (.int .i64 (x - 1))) (some (.int .i64 (x - 1 + n))) none).run Try.prog w = .ok (.slice (some ⟨b, x.toNat - 1, none⟩) n.toNat (65536 - x.toNat)) w := by
  have hal : Try.prog.arrayLen 50 = 65535 := by kernel_rfl
  have hel : Try.prog.elem 50 = 32 := by kernel_rfl
  have ht : Try.prog.underlying 50 = some (.array (Try.prog.arrayLen 50) (Try.prog.elem 50)) := by rw [hal, hel]; exact Try.underlying50
  rw [run_sliceAt_array_lh w 50 ⟨b, 0, none⟩ ht .i64 .i64 (x - 1) (x - 1 + n) (by omega) (by omega) (by rw [hal]; omega), hal, hel, Try.sizeOf32]
  simp only [Result.andThen, slicedAt]
  have n1 : ¬ 65535 = (x - 1).toNat := by omega
  have e1 : (x - 1 + n).toNat - (x - 1).toNat = n.toNat := by omega
  have e2 : 65535 - (x - 1).toNat = 65536 - x.toNat := by omega
  have e3 : (x - 1).toNat = x.toNat - 1 := by omega
  rw [if_neg n1, e1, e2, e3, Addr.add_lit, Nat.mul_one, Nat.zero_add]

/-- The words of a row. -/
def rowWords (f : Nat → Int) (i n : Nat) : List Value := (List.range n).map fun j => Value.int .u16 (f (i + j))
theorem rowWords_length (f : Nat → Int) (i n : Nat) : (rowWords f i n).length = n := by simp [rowWords]
theorem rowWords_get (f : Nat → Int) (i n j : Nat) (h : j < n) : (rowWords f i n)[j]? = some (.int .u16 (f (i + j))) := by simp [rowWords, List.getElem?_range h]
theorem rowWords_one (f : Nat → Int) (i n : Nat) : ∀ u ∈ rowWords f i n, u.oneCell' = true := by
  intro u hu
  obtain ⟨j, _, rfl⟩ := List.mem_map.1 hu
  rfl

set_option maxHeartbeats 400000 in
theorem mem_row_yes (w : World) (b : Nat) (m : Int) (f : Nat → Int) (h : MemAt w b m f) (m0 : 0 ≤ m) (m1 : m ≤ 65535) (x n : Int) (hn : 0 ≤ n) (x0 : 1 ≤ x) (hx : x < 65536) (x1 : x ≤ m + 1) (x2 : n ≤ m + 1 - x) :
    Calls Try.prog 12 #[.pointer (some ⟨b, 0, none⟩), .int .i64 x, .int .i64 n] w (RowSays f x n w) := by
  have ht := mem_there1 w _ rfl b m f h m0 m1 n hn (x := x) (by omega) (by omega)
  rw [show hasB x n m = true from by simp [hasB]; omega] at ht
  obtain ⟨i0, hi, hz0, hz1, hz2⟩ := info_parts infoU16
  go_enter Try.func12, Try.ntmps12
  go_wp2_with fail
  refine ht.mono ?_
  clear ht
  rintro e w1 ⟨rfl, r1⟩
  replace h := h.wr0 r1
  have hsl := fun (w : World) => run_words w b x n x0 hn (by omega) hx
  have hnew : ∀ j u, (rowWords f (x.toNat - 1) n.toNat)[j]? = some u → w1.cell? ((⟨b, x.toNat - 1, none⟩ : Addr).add j) = some u := by
    intro j u hu
    have hj : j < n.toNat := by
      have := (List.getElem?_eq_some_iff.1 hu).1
      rwa [rowWords_length] at this
    rw [rowWords_get _ _ _ _ hj] at hu
    rw [Addr.add_lit, ← hu]
    exact h.cw _ (by omega)
  have Hnew := Lib.hid hnew
  clear hnew
  have hl1 : (rowWords f (x.toNat - 1) n.toNat).length = n.toNat * 1 := by rw [rowWords_length, Nat.mul_one]
  have hl2 : 0 + n.toNat ≤ maxLen := by unfold maxLen; omega
  have hl3 : (0 + n.toNat) * 2 ≤ 140737488355328 := by omega
  have Hl1 := Lib.hid hl1
  have Hl2 := Lib.hid hl2
  have Hl3 := Lib.hid hl3
  clear hl1 hl2 hl3
  go_wp2_with (at_builtin; (refine wpList_append_own _ rfl (.const (.slice none 0 0)) (.tmp 23) 35 rfl w1.heap.size 32 i0 (.int .u16 0) 1 2 Try.underlying35 hi hz0 hz1 hz2 rfl (by decide) (.slice none 0 0) 0 [] rfl (World.ownsRow_nil _ _ _ _) ⟨b, x.toNat - 1, none⟩ n.toNat (65536 - x.toNat) (rowWords f (x.toNat - 1) n.toNat) rfl Hl1.out Hnew.out (rowWords_one _ _ _) Hl2.out Hl3.out (Nat.le_refl _) ?_); intro v' w2 hown hgr _)
  go_ret2
  rw [Nat.zero_add, List.nil_append] at hown
  exact ⟨v', rfl, r1.trans (Wr.ofGrown hgr (by intro k hk; simp [Value.ownBlock] at hk)), Row1.ofOwn hown _ (fun j hj => rowWords_get _ _ _ _ hj)⟩

theorem hasB_end {x n m : Int} (m1 : m ≤ 65535) (h : hasB x n m = true) (hx : ¬ x < 65536) (hn : 0 ≤ n) : x = 65536 ∧ n = 0 ∧ m = 65535 := by
  obtain ⟨h1, h2, h3⟩ := hasB_yes h
  omega

/-- 'words[65535:65535]': nothing, at the array's end. -/
theorem run_words_end (w : World) (b : Nat) :
    (Instr.sliceAt 50 (.pointer (some ⟨b, 0, none⟩)) (some (.int .i64 65535)) (some (.int .i64 65535)) none).run Try.prog w = .ok (.slice (some ⟨b, 0, none⟩) 0 0) w := by
  have hal : Try.prog.arrayLen 50 = 65535 := by kernel_rfl
  have hel : Try.prog.elem 50 = 32 := by kernel_rfl
  have ht : Try.prog.underlying 50 = some (.array (Try.prog.arrayLen 50) (Try.prog.elem 50)) := by rw [hal, hel]; exact Try.underlying50
  rw [run_sliceAt_array_lh w 50 ⟨b, 0, none⟩ ht .i64 .i64 65535 65535 (by omega) (by omega) (by rw [hal]; omega), hal, hel, Try.sizeOf32]
  simp only [Result.andThen, slicedAt]
  rfl

set_option maxHeartbeats 400000 in
theorem mem_row_end (w : World) (b : Nat) (f : Nat → Int) (h : MemAt w b 65535 f) :
    Calls Try.prog 12 #[.pointer (some ⟨b, 0, none⟩), .int .i64 65536, .int .i64 0] w (RowSays f 65536 0 w) := by
  have ht := mem_there1 w _ rfl b 65535 f h (by omega) (by omega) 0 (by omega) (x := 65536) (by omega) (by omega)
  rw [show hasB 65536 0 65535 = true from by decide] at ht
  have hsl := fun (w : World) => run_words_end w b
  go_enter Try.func12, Try.ntmps12
  go_wp2_with fail
  refine ht.mono ?_
  clear ht
  rintro e w1 ⟨rfl, r1⟩
  go_wp2_with fail
  go_ret2
  exact ⟨.slice none 0 0, rfl, r1, none, 0, rfl, by omega, by simp, fun j hj => absurd hj (by omega)⟩

/-- Row, whatever is asked, of a memory that is there. -/
theorem mem_row_ok (w : World) (b : Nat) (m : Int) (f : Nat → Int) (h : MemAt w b m f) (m0 : 0 ≤ m) (m1 : m ≤ 65535) (x n : Int) (hn : 0 ≤ n) (hb : hasB x n m = true) :
    Calls Try.prog 12 #[.pointer (some ⟨b, 0, none⟩), .int .i64 x, .int .i64 n] w (RowSays f x n w) := by
  by_cases hx : x < 65536
  · obtain ⟨h1, h2, h3⟩ := hasB_yes hb
    exact mem_row_yes w b m f h m0 m1 x n hn h1 hx h2 h3
  · obtain ⟨rfl, rfl, rfl⟩ := hasB_end m1 hb hx hn
    exact mem_row_end w b f h
end Go.Proofs.Ytofkjcdpnkfcnaa
