/- The memory's Clear and Move, walked. No conditions but that the memory has at most 65535 words. -/
import Derived.Test.YtofkjcdpnkfcnaaMemR
namespace Go.Proofs.Ytofkjcdpnkfcnaa
open Go.RowKit
set_option linter.unusedVariables false

/-- The words, with others laid over k of them from o on. -/
def upds (f : Nat → Int) (o k : Nat) (g : Nat → Int) : Nat → Int := fun j => if o ≤ j ∧ j < o + k then g (j - o) else f j

theorem splice_map (N : Nat) (f : Nat → Int) (o k : Nat) (g : Nat → Int) (h : o + k ≤ N) :
    ((List.range N).map (fun j => Value.int .u16 (f j))).take o ++ (List.range k).map (fun j => Value.int .u16 (g j)) ++ ((List.range N).map (fun j => Value.int .u16 (f j))).drop (o + k) = (List.range N).map (fun j => Value.int .u16 (upds f o k g j)) := by
  apply List.ext_getElem?
  intro j
  by_cases hN : j < N
  · by_cases h1 : j < o
    · rw [List.getElem?_append_left (by simp; omega), List.getElem?_append_left (by simp; omega), List.getElem?_take, if_pos h1, List.getElem?_map, List.getElem?_map, List.getElem?_range hN]
      simp [upds, show ¬ o ≤ j from by omega]
    · by_cases h2 : j < o + k
      · rw [List.getElem?_append_left (by simp; omega), List.getElem?_append_right (by simp; omega), List.getElem?_map, List.getElem?_map]
        have e : (((List.range N).map (fun j => Value.int .u16 (f j))).take o).length = o := by simp; omega
        rw [e, List.getElem?_range (by omega), List.getElem?_range (by omega)]
        simp [upds, show o ≤ j ∧ j < o + k from by omega]
      · rw [List.getElem?_append_right (by simp; omega)]
        have e : ((((List.range N).map (fun j => Value.int .u16 (f j))).take o) ++ (List.range k).map (fun j => Value.int .u16 (g j))).length = o + k := by simp; omega
        rw [e, List.getElem?_drop, show o + k + (j - (o + k)) = j from by omega, List.getElem?_map, List.getElem?_map, List.getElem?_range hN]
        simp [upds, show ¬ (o ≤ j ∧ j < o + k) from by omega]
  · rw [List.getElem?_eq_none (by simp; omega), List.getElem?_eq_none (by simp; omega)]

theorem splice_front {L T vs : List Value} {o k : Nat} (h : o + k ≤ L.length) : (L ++ T).take o ++ vs ++ (L ++ T).drop (o + k) = (L.take o ++ vs ++ L.drop (o + k)) ++ T := by
  rw [List.take_append_of_le_length (by omega), List.drop_append_of_le_length (by omega)]
  simp

theorem memCells_splice (f : Nat → Int) (m : Int) (o k : Nat) (g : Nat → Int) (h : o + k ≤ 65535) :
    ((memCells f m).toList.take o ++ (List.range k).map (fun j => Value.int .u16 (g j)) ++ (memCells f m).toList.drop (o + k)).toArray = memCells (upds f o k g) m := by
  unfold memCells
  rw [List.toList_toArray, splice_front (by rw [List.length_map, List.length_range]; exact h), splice_map 65535 f o k g h]

theorem upds_zero (f : Nat → Int) (o : Nat) (g : Nat → Int) : upds f o 0 g = f := by
  funext j
  unfold upds
  rw [if_neg (by omega)]

theorem Wr.setRow {w : World} {g : Nat} (c : Array Value) : Wr [g] w (w.setRow g c) :=
  ⟨rfl, rfl, rfl, by simp, fun k _ hk => setRow_other w g k _ (fun e => hk (by simp [e]))⟩

/-- 'clear' of k words from o on. -/
theorem run_clear (w : World) (b : Nat) (m : Int) (f : Nat → Int) (h : MemAt w b m f) (o k c : Nat) (hk : o + k ≤ 65535) (ty : TypeId) :
    ∃ w', (Builtin.clear_ #[35] ty #[.slice (some ⟨b, o, none⟩) k c]).run Try.prog w = .ok (.tuple #[]) w' ∧ Wr [b] w w' ∧ MemAt w' b m (upds f o k (fun _ => 0)) := by
  have hu : (underlying 35).run Try.prog w = .ok (.slice 32) w := Try.runUnderlying35 w
  have hz : (zeroValue 32).run Try.prog w = .ok (.int .u16 0) w := Try.zeroValue32 w
  by_cases hk0 : k = 0
  · subst hk0
    refine ⟨w, ?_, Wr.refl _ _, by rw [upds_zero]; exact h⟩
    simp [Builtin.clear_, hu]
  · have hzc : (Builtin.zeroCells #[Value.int .u16 0] k).toList = (List.range k).map (fun j => Value.int .u16 ((fun _ => 0) j)) := by
      simp [Builtin.zeroCells, Nat.mod_one]
    have hst := run_storeCells_at Try.prog b o 52 ((List.range k).map (fun j => Value.int .u16 ((fun _ => (0 : Int)) j))) 0 (memCells f m) w h (by
      have : (memCells f m).size = 65537 := by unfold memCells; rw [List.size_toArray, List.length_append, List.length_map, List.length_range]; rfl
      rw [this, List.length_map, List.length_range]; omega) (by
      intro v hv
      obtain ⟨_, _, rfl⟩ := List.mem_map.1 hv
      rfl)
    rw [List.length_map, List.length_range, Nat.add_zero] at hst
    rw [memCells_splice f m o k (fun _ => 0) hk] at hst
    refine ⟨_, ?_, Wr.setRow _, setRow_heap w b (memCells f m) _ _ _ h⟩
    obtain ⟨k', rfl⟩ : ∃ k', k = k' + 1 := ⟨k - 1, by omega⟩
    have hc : (Value.int .u16 0).cells = #[Value.int .u16 0] := rfl
    have hz' : (Builtin.zeroCells (Value.int .u16 0).cells (k' + 1)).toList = (List.range (k' + 1)).map (fun j => Value.int .u16 ((fun _ => 0) j)) := by rw [hc]; exact hzc
    simp [Builtin.clear_, hu, hz]
    rw [hz', hst]; rfl

set_option maxHeartbeats 400000 in
theorem mem_clear_yes (w : World) (b : Nat) (m : Int) (f : Nat → Int) (h : MemAt w b m f) (m0 : 0 ≤ m) (m1 : m ≤ 65535) (x n : Int) (hn : 0 ≤ n) (x0 : 1 ≤ x) (hx : x < 65536) (x1 : x ≤ m + 1) (x2 : n ≤ m + 1 - x) :
    Calls Try.prog 17 #[.pointer (some ⟨b, 0, none⟩), .int .i64 x, .int .i64 n] w fun e w' => e = .returned (.bool true) ∧ Wr [b] w w' ∧ MemAt w' b m (upds f (x.toNat - 1) n.toNat (fun _ => 0)) := by
  have ht := mem_there1 w _ rfl b m f h m0 m1 n hn (x := x) (by omega) (by omega)
  rw [show hasB x n m = true from by simp [hasB]; omega] at ht
  have hsl := fun (w : World) => run_words w b x n x0 hn (by omega) hx
  go_enter Try.func17, Try.ntmps17
  go_wp2_with fail
  refine ht.mono ?_
  clear ht
  rintro e w1 ⟨rfl, r1⟩
  replace h := h.wr0 r1
  obtain ⟨w2, hcl, r2, h2⟩ := run_clear w1 b m f h (x.toNat - 1) n.toNat (65536 - x.toNat) (by omega) 0
  go_wp2_with fail
  go_ret
  exact ⟨rfl, r1.nil.trans r2, h2⟩

set_option maxHeartbeats 400000 in
theorem mem_clear_nil (w : World) (x n : Int) :
    Calls Try.prog 17 #[.pointer none, .int .i64 x, .int .i64 n] w fun e w' => e = .returned (.bool false) ∧ Wr [] w w' := by
  go_enter Try.func17, Try.ntmps17
  go_wp2_with fail
  refine (mem_there_nil _ _ _ _).mono ?_
  rintro e w1 ⟨rfl, r1⟩
  go_wp2_with fail
  go_ret
  exact ⟨rfl, ((Wr.refl _ _).alloc _).trans r1⟩

set_option maxHeartbeats 400000 in
theorem mem_clear_neg (w : World) (b : Nat) (m : Int) (f : Nat → Int) (h : MemAt w b m f) (x n : Int) (hn : n < 0) :
    Calls Try.prog 17 #[.pointer (some ⟨b, 0, none⟩), .int .i64 x, .int .i64 n] w fun e w' => e = .returned (.bool false) ∧ Wr [] w w' := by
  go_enter Try.func17, Try.ntmps17
  go_wp2_with fail
  refine (mem_there_neg _ b m f (Blk.alloc h _) n hn _ _).mono ?_
  rintro e w1 ⟨rfl, r1⟩
  go_wp2_with fail
  go_ret
  exact ⟨rfl, ((Wr.refl _ _).alloc _).trans r1⟩

set_option maxHeartbeats 400000 in
theorem mem_clear_no (w : World) (b : Nat) (m : Int) (f : Nat → Int) (h : MemAt w b m f) (m0 : 0 ≤ m) (m1 : m ≤ 65535) (x n : Int) (hn : 0 ≤ n) (x0 : -9223372036854775808 ≤ x) (x1 : x ≤ 9223372036854775807) (hb : hasB x n m = false) :
    Calls Try.prog 17 #[.pointer (some ⟨b, 0, none⟩), .int .i64 x, .int .i64 n] w fun e w' => e = .returned (.bool false) ∧ Wr [] w w' := by
  have ht := mem_there1 w _ rfl b m f h m0 m1 n hn x0 x1
  rw [hb] at ht
  clear hb
  go_enter Try.func17, Try.ntmps17
  go_wp2_with fail
  refine ht.mono ?_
  clear ht
  rintro e w1 ⟨rfl, r1⟩
  go_wp2_with fail
  go_ret
  exact ⟨rfl, r1⟩

set_option maxHeartbeats 400000 in
theorem mem_clear_end (w : World) (b : Nat) (f : Nat → Int) (h : MemAt w b 65535 f) :
    Calls Try.prog 17 #[.pointer (some ⟨b, 0, none⟩), .int .i64 65536, .int .i64 0] w fun e w' => e = .returned (.bool true) ∧ Wr [b] w w' ∧ MemAt w' b 65535 f := by
  have ht := mem_there1 w _ rfl b 65535 f h (by omega) (by omega) 0 (by omega) (x := 65536) (by omega) (by omega)
  rw [show hasB 65536 0 65535 = true from by decide] at ht
  have hsl := fun (w : World) => run_words_end w b
  have hcl : ∀ w : World, (Builtin.clear_ #[35] 0 #[.slice (some ⟨b, 0, none⟩) 0 0]).run Try.prog w = .ok (.tuple #[]) w := by
    intro w
    have hu : (underlying 35).run Try.prog w = .ok (.slice 32) w := Try.runUnderlying35 w
    simp [Builtin.clear_, hu]
  go_enter Try.func17, Try.ntmps17
  go_wp2_with fail
  refine ht.mono ?_
  clear ht
  rintro e w1 ⟨rfl, r1⟩
  replace h := h.wr0 r1
  go_wp2_with fail
  go_ret
  exact ⟨rfl, r1.nil, h⟩

/-- Clear, whatever is asked, of a memory that is there. -/
theorem mem_clear_ok (w : World) (b : Nat) (m : Int) (f : Nat → Int) (h : MemAt w b m f) (m0 : 0 ≤ m) (m1 : m ≤ 65535) (x n : Int) (hn : 0 ≤ n) (hb : hasB x n m = true) :
    Calls Try.prog 17 #[.pointer (some ⟨b, 0, none⟩), .int .i64 x, .int .i64 n] w fun e w' => e = .returned (.bool true) ∧ Wr [b] w w' ∧ MemAt w' b m (upds f (x.toNat - 1) n.toNat (fun _ => 0)) := by
  by_cases hx : x < 65536
  · obtain ⟨h1, h2, h3⟩ := hasB_yes hb
    exact mem_clear_yes w b m f h m0 m1 x n hn h1 hx h2 h3
  · obtain ⟨rfl, rfl, rfl⟩ := hasB_end m1 hb hx hn
    have e : upds f ((65536 : Int).toNat - 1) (0 : Int).toNat (fun _ => 0) = f := upds_zero _ _ _
    rw [e]
    exact mem_clear_end w b f h
end Go.Proofs.Ytofkjcdpnkfcnaa
