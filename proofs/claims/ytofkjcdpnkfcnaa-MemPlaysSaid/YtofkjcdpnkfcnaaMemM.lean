/- The memory's Move, walked. No conditions but that the memory has at most 65535 words. -/
import Derived.Test.YtofkjcdpnkfcnaaMemC
import Derived.StillTailTactics
namespace Go.Proofs.Ytofkjcdpnkfcnaa
open Go.RowKit
set_option linter.unusedVariables false

set_option maxHeartbeats 400000 in
theorem mem_move_nil (w : World) (y x n : Int) :
    Calls Try.prog 16 #[.pointer none, .int .i64 y, .int .i64 x, .int .i64 n] w fun e w' => e = .returned (.bool false) ∧ Wr [] w w' := by
  go_enter Try.func16, Try.ntmps16
  go_wp2_with fail
  refine (mem_there_nil _ _ _ _).mono ?_
  rintro e w1 ⟨rfl, r1⟩
  go_wp2_with fail
  go_ret
  exact ⟨rfl, ((Wr.refl _ _).alloc _).trans r1⟩

set_option maxHeartbeats 400000 in
theorem mem_move_neg (w : World) (b : Nat) (m : Int) (f : Nat → Int) (h : MemAt w b m f) (y x n : Int) (hn : n < 0) :
    Calls Try.prog 16 #[.pointer (some ⟨b, 0, none⟩), .int .i64 y, .int .i64 x, .int .i64 n] w fun e w' => e = .returned (.bool false) ∧ Wr [] w w' := by
  go_enter Try.func16, Try.ntmps16
  go_wp2_with fail
  refine (mem_there_neg _ b m f (Blk.alloc h _) n hn _ _).mono ?_
  rintro e w1 ⟨rfl, r1⟩
  go_wp2_with fail
  go_ret
  exact ⟨rfl, ((Wr.refl _ _).alloc _).trans r1⟩

set_option maxHeartbeats 400000 in
theorem mem_move_no (w : World) (b : Nat) (m : Int) (f : Nat → Int) (h : MemAt w b m f) (m0 : 0 ≤ m) (m1 : m ≤ 65535) (y x n : Int) (hn : 0 ≤ n) (y0 : -9223372036854775808 ≤ y) (y1 : y ≤ 9223372036854775807) (x0 : -9223372036854775808 ≤ x) (x1 : x ≤ 9223372036854775807) (hb : (hasB y n m && hasB x n m) = false) :
    Calls Try.prog 16 #[.pointer (some ⟨b, 0, none⟩), .int .i64 y, .int .i64 x, .int .i64 n] w fun e w' => e = .returned (.bool false) ∧ Wr [] w w' := by
  have ht := mem_there2 w _ rfl b m f h m0 m1 n hn y0 y1 x0 x1
  rw [hb] at ht
  clear hb
  go_enter Try.func16, Try.ntmps16
  go_wp2_with fail
  refine ht.mono ?_
  clear ht
  rintro e w1 ⟨rfl, r1⟩
  go_wp2_with fail
  go_ret
  exact ⟨rfl, r1⟩

/-- 'copy' of k words from p to o. -/
theorem run_copy (w : World) (b : Nat) (m : Int) (f : Nat → Int) (h : MemAt w b m f) (o p k c d : Nat) (hk : o + k ≤ 65535) (hp : p + k ≤ 65535) (ty : TypeId) :
    ∃ w', (Builtin.copy_ #[35, 35] ty #[.slice (some ⟨b, o, none⟩) k c, .slice (some ⟨b, p, none⟩) k d]).run Try.prog w = .ok (.int .i64 k) w' ∧ Wr [b] w w' ∧ MemAt w' b m (upds f o k (fun j => f (p + j))) := by
  have hsz : (memCells f m).size = 65537 := by unfold memCells; rw [List.size_toArray, List.length_append, List.length_map, List.length_range]; rfl
  have hl := rowWords_length f p k
  have := run_copy_row (P := Try.prog) w 35 35 ty 32 b o k c ⟨b, p, none⟩ k d (memCells f m) 52 (rowWords f p k) Try.underlying35 (by kernel_rfl) h (by rw [hl]; exact (Nat.min_self k).symm) (fun j v hj => by
    have hjk : j < k := by
      have := (List.getElem?_eq_some_iff.1 hj).1
      rwa [hl] at this
    rw [rowWords_get _ _ _ _ hjk] at hj
    rw [Addr.add_lit, ← hj]
    exact h.cw _ (by omega)) (by rw [hl, hsz]; omega) (rowWords_one _ _ _)
  rw [hl] at this
  have e := memCells_splice f m o k (fun j => f (p + j)) hk
  unfold rowWords at this
  rw [e] at this
  exact ⟨_, this, Wr.setRow _, setRow_heap w b (memCells f m) _ _ _ h⟩

set_option maxHeartbeats 1000000 in
theorem mem_move_yes (w : World) (b : Nat) (m : Int) (f : Nat → Int) (h : MemAt w b m f) (m0 : 0 ≤ m) (m1 : m ≤ 65535) (y x n : Int) (hn : 0 ≤ n) (y0 : 1 ≤ y) (hy : y < 65536) (y1 : y ≤ m + 1) (y2 : n ≤ m + 1 - y) (x0 : 1 ≤ x) (hx : x < 65536) (x1 : x ≤ m + 1) (x2 : n ≤ m + 1 - x) :
    Calls Try.prog 16 #[.pointer (some ⟨b, 0, none⟩), .int .i64 y, .int .i64 x, .int .i64 n] w fun e w' => e = .returned (.bool true) ∧ Wr [b] w w' ∧ MemAt w' b m (upds f (y.toNat - 1) n.toNat (fun j => f (x.toNat - 1 + j))) := by
  have ht := mem_there2 w _ rfl b m f h m0 m1 n hn (x := y) (y := x) (by omega) (by omega) (by omega) (by omega)
  rw [show (hasB y n m && hasB x n m) = true from by simp [hasB]; omega] at ht
  have hsl := fun (w : World) => run_words w b x n x0 hn (by omega) hx
  have hsl2 := fun (w : World) => run_words w b y n y0 hn (by omega) hy
  go_enter Try.func16, Try.ntmps16
  go_wp2_with fail
  refine ht.mono ?_
  clear ht
  rintro e w1 ⟨rfl, r1⟩
  replace h := h.wr0 r1
  go_wp2_with fail
  have q1 : IntKind.i64.wrap (y - 1) = y - 1 := by rw [IntKind.wrap_i64]; omega
  have q2 : IntKind.i64.wrap (y - 1 + n) = y - 1 + n := by rw [IntKind.wrap_i64]; omega
  have q3 : IntKind.i64.wrap (x - 1) = x - 1 := by rw [IntKind.wrap_i64]; omega
  have q4 : IntKind.i64.wrap (x - 1 + n) = x - 1 + n := by rw [IntKind.wrap_i64]; omega
  go_still_tail 20, (by kernel_rfl)
  clear q1 q2 q3 q4
  obtain ⟨w2, hcp, r2, h2⟩ := run_copy w1.drew b m f h (y.toNat - 1) (x.toNat - 1) n.toNat (65536 - y.toNat) (65536 - x.toNat) (by omega) (by omega) 3
  change wpList _ _ _ _ _ w1.drew
  go_wp2_with fail
  go_ret
  exact ⟨rfl, r1.nil.drew.trans r2, h2⟩

/-- 'copy' of no word. -/
theorem run_copy0 (w : World) (a1 a2 : Addr) (c d : Nat) (ty : TypeId) :
    (Builtin.copy_ #[35, 35] ty #[.slice (some a1) 0 c, .slice (some a2) 0 d]).run Try.prog w = .ok (.int .i64 0) w := by
  have hu : (underlying 35).run Try.prog w = .ok (.slice 32) w := Try.runUnderlying35 w
  have hs : (sizeOf 32).run Try.prog w = .ok 1 w := Try.sizeOf32 w
  simp [Builtin.copy_, hu, hs, Builtin.lenOf, Builtin.firstCells, loadCells, loadCellsFrom, storeCells, goInt]

theorem mem_has_ends {y x : Int} (h1 : (hasB y 0 65535 && hasB x 0 65535) = true) : 1 ≤ y ∧ y ≤ 65536 ∧ 1 ≤ x ∧ x ≤ 65536 := by
  simp [hasB] at h1
  omega


set_option maxHeartbeats 1000000 in
theorem mem_move_ee (w : World) (b : Nat) (f : Nat → Int) (h : MemAt w b 65535 f) :
    Calls Try.prog 16 #[.pointer (some ⟨b, 0, none⟩), .int .i64 65536, .int .i64 65536, .int .i64 0] w fun e w' => e = .returned (.bool true) ∧ Wr [b] w w' ∧ MemAt w' b 65535 f := by
  have ht := mem_there2 w _ rfl b 65535 f h (by omega) (by omega) 0 (by omega) (x := 65536) (y := 65536) (by omega) (by omega) (by omega) (by omega)
  rw [show (hasB 65536 0 65535 && hasB 65536 0 65535) = true from by simp [hasB]] at ht
  have hsl := fun (w : World) => run_words_end w b
  have hcp := fun (w : World) (a1 a2 : Addr) (c d : Nat) => run_copy0 w a1 a2 c d 3
  go_enter Try.func16, Try.ntmps16
  go_wp2_with fail
  refine ht.mono ?_
  clear ht
  rintro e w1 ⟨rfl, r1⟩
  replace h := h.wr0 r1
  go_wp2_with fail
  have q5 : IntKind.i64.wrap 65535 = 65535 := by rw [IntKind.wrap_i64]; omega
  go_still_tail 20, (by kernel_rfl)
  clear q5
  change wpList _ _ _ _ _ w1.drew
  go_wp2_with fail
  go_ret
  exact ⟨rfl, r1.nil.drew, h⟩

set_option maxHeartbeats 1000000 in
theorem mem_move_ex (w : World) (b : Nat) (f : Nat → Int) (h : MemAt w b 65535 f) (x : Int) (x0 : 1 ≤ x) (hx : x < 65536) :
    Calls Try.prog 16 #[.pointer (some ⟨b, 0, none⟩), .int .i64 65536, .int .i64 x, .int .i64 0] w fun e w' => e = .returned (.bool true) ∧ Wr [b] w w' ∧ MemAt w' b 65535 f := by
  have ht := mem_there2 w _ rfl b 65535 f h (by omega) (by omega) 0 (by omega) (x := 65536) (y := x) (by omega) (by omega) (by omega) (by omega)
  rw [show (hasB 65536 0 65535 && hasB x 0 65535) = true from by simp [hasB]; omega] at ht
  have hsl := fun (w : World) => run_words_end w b
  have hsl2 := fun (w : World) => run_words w b x 0 x0 (by omega) (by omega) hx
  simp only [Int.add_zero, Int.toNat_zero] at hsl2
  have hcp := fun (w : World) (a1 a2 : Addr) (c d : Nat) => run_copy0 w a1 a2 c d 3
  go_enter Try.func16, Try.ntmps16
  go_wp2_with fail
  refine ht.mono ?_
  clear ht
  rintro e w1 ⟨rfl, r1⟩
  replace h := h.wr0 r1
  go_wp2_with fail
  have q3 : IntKind.i64.wrap (x - 1) = x - 1 := by rw [IntKind.wrap_i64]; omega
  have q5 : IntKind.i64.wrap 65535 = 65535 := by rw [IntKind.wrap_i64]; omega
  go_still_tail 20, (by kernel_rfl)
  clear q5
  change wpList _ _ _ _ _ w1.drew
  clear q3
  go_wp2_with fail
  go_ret
  exact ⟨rfl, r1.nil.drew, h⟩

set_option maxHeartbeats 1000000 in
theorem mem_move_ye (w : World) (b : Nat) (f : Nat → Int) (h : MemAt w b 65535 f) (y : Int) (y0 : 1 ≤ y) (hy : y < 65536) :
    Calls Try.prog 16 #[.pointer (some ⟨b, 0, none⟩), .int .i64 y, .int .i64 65536, .int .i64 0] w fun e w' => e = .returned (.bool true) ∧ Wr [b] w w' ∧ MemAt w' b 65535 f := by
  have ht := mem_there2 w _ rfl b 65535 f h (by omega) (by omega) 0 (by omega) (x := y) (y := 65536) (by omega) (by omega) (by omega) (by omega)
  rw [show (hasB y 0 65535 && hasB 65536 0 65535) = true from by simp [hasB]; omega] at ht
  have hsl := fun (w : World) => run_words_end w b
  have hsl2 := fun (w : World) => run_words w b y 0 y0 (by omega) (by omega) hy
  simp only [Int.add_zero, Int.toNat_zero] at hsl2
  have hcp := fun (w : World) (a1 a2 : Addr) (c d : Nat) => run_copy0 w a1 a2 c d 3
  go_enter Try.func16, Try.ntmps16
  go_wp2_with fail
  refine ht.mono ?_
  clear ht
  rintro e w1 ⟨rfl, r1⟩
  replace h := h.wr0 r1
  go_wp2_with fail
  have q3 : IntKind.i64.wrap (y - 1) = y - 1 := by rw [IntKind.wrap_i64]; omega
  have q5 : IntKind.i64.wrap 65535 = 65535 := by rw [IntKind.wrap_i64]; omega
  go_still_tail 20, (by kernel_rfl)
  clear q5
  change wpList _ _ _ _ _ w1.drew
  clear q3
  go_wp2_with fail
  go_ret
  exact ⟨rfl, r1.nil.drew, h⟩

/-- Move, whatever is asked, of a memory that is there. -/
theorem mem_move_ok (w : World) (b : Nat) (m : Int) (f : Nat → Int) (h : MemAt w b m f) (m0 : 0 ≤ m) (m1 : m ≤ 65535) (y x n : Int) (hn : 0 ≤ n) (hb : (hasB y n m && hasB x n m) = true) :
    Calls Try.prog 16 #[.pointer (some ⟨b, 0, none⟩), .int .i64 y, .int .i64 x, .int .i64 n] w fun e w' => e = .returned (.bool true) ∧ Wr [b] w w' ∧ MemAt w' b m (upds f (y.toNat - 1) n.toNat (fun j => f (x.toNat - 1 + j))) := by
  rw [Bool.and_eq_true] at hb
  obtain ⟨hby, hbx⟩ := hb
  obtain ⟨h1, h2, h3⟩ := hasB_yes hby
  obtain ⟨h4, h5, h6⟩ := hasB_yes hbx
  by_cases hy : y < 65536
  · by_cases hx : x < 65536
    · exact mem_move_yes w b m f h m0 m1 y x n hn h1 hy h2 h3 h4 hx h5 h6
    · obtain ⟨rfl, rfl, rfl⟩ := hasB_end m1 hbx hx hn
      rw [show (0 : Int).toNat = 0 from rfl, upds_zero]
      exact mem_move_ye w b f h y h1 hy
  · obtain ⟨rfl, rfl, rfl⟩ := hasB_end m1 hby hy hn
    rw [show (0 : Int).toNat = 0 from rfl, upds_zero]
    by_cases hx : x < 65536
    · exact mem_move_ex w b f h x h4 hx
    · obtain ⟨rfl, _, _⟩ := hasB_end m1 hbx hx hn
      exact mem_move_ee w b f h
end Go.Proofs.Ytofkjcdpnkfcnaa
