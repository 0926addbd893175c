/- The memory's 'there', walked. No conditions but that the memory has at most 65535 words. -/
import Derived.Test.YtofkjcdpnkfcnaaMemF
namespace Go.Proofs.Ytofkjcdpnkfcnaa
open Go.RowKit
set_option linter.unusedVariables false

def hasAll (ps : List Int) (n m : Int) : Bool := ps.all (fun p => hasB p n m)

set_option maxHeartbeats 1000000 in
theorem mem_there_nil (w : World) (n : Int) (p L : Nat) :
    Calls Try.prog 23 #[.pointer none, .int .i64 n, .slice (some ⟨p, 0, none⟩) L L] w fun e w' => e = .returned (.bool false) ∧ Wr [] w w' := by
  go_enter Try.func23, Try.ntmps23
  go_wp2_with fail
  go_ret
  exact ⟨rfl, ((Wr.refl _ _).alloc _).alloc _⟩

set_option maxHeartbeats 1000000 in
theorem mem_there_neg (w : World) (b : Nat) (m : Int) (f : Nat → Int) (h : MemAt w b m f) (n : Int) (hn : n < 0) (p L : Nat) :
    Calls Try.prog 23 #[.pointer (some ⟨b, 0, none⟩), .int .i64 n, .slice (some ⟨p, 0, none⟩) L L] w fun e w' => e = .returned (.bool false) ∧ Wr [] w w' := by
  have c := h.cm
  have hlt := h.lt
  go_enter Try.func23, Try.ntmps23
  go_wp2_with fail
  go_ret
  exact ⟨rfl, ((Wr.refl _ _).alloc _).alloc _⟩

set_option maxHeartbeats 1000000 in
theorem mem_there_some (w : World) (b : Nat) (m : Int) (f : Nat → Int) (h : MemAt w b m f) (m0 : 0 ≤ m) (m1 : m ≤ 65535) (n : Int) (hn : 0 ≤ n) (p : Nat) (ps : List Int) (hp : p < w.heap.size) (hl : ps.length ≤ 2)
    (hr : ∀ x ∈ ps, -9223372036854775808 ≤ x ∧ x ≤ 9223372036854775807)
    (hc : ∀ i, i < ps.length → w.cell? ⟨p, i, none⟩ = some (.int .i64 (ps.getD i 0))) :
    Calls Try.prog 23 #[.pointer (some ⟨b, 0, none⟩), .int .i64 n, .slice (some ⟨p, 0, none⟩) ps.length ps.length] w fun e w' => e = .returned (.bool (hasAll ps n m)) ∧ Wr [] w w' := by
  have c := h.cm
  have hlt := h.lt
  have hn' : ¬ n < 0 := by omega
  go_enter Try.func23, Try.ntmps23
  go_wp2_with fail
  obtain ⟨w1, hw1⟩ : ∃ w1, (w.alloc (.cells #[.pointer (some ⟨b, 0, none⟩)] 24)).alloc (.cells #[.int .i64 n] 3) = w1 := ⟨_, rfl⟩
  have r1 : Wr [] w w1 := by rw [← hw1]; exact ((Wr.refl _ _).alloc _).alloc _
  have cp : w1.cell? ⟨w.heap.size, 0, none⟩ = some (.pointer (some ⟨b, 0, none⟩)) := by
    rw [← hw1]; exact ((Blk.new w _ #[.pointer (some ⟨b, 0, none⟩)]).alloc _).cell 0
  have cq : w1.cell? ⟨w.heap.size + 1, 0, none⟩ = some (.int .i64 n) := by
    rw [← hw1]
    have := (Blk.new (w.alloc (.cells #[.pointer (some ⟨b, 0, none⟩)] 24)) 3 #[.int .i64 n]).cell 0
    rwa [World.size_alloc] at this
  rw [hw1]
  clear hw1 c
  replace h := h.wr0 r1
  have Hr := Lib.hid hr
  have Hc := Lib.hid hc
  clear hr hc
  go_loopw [26, 9] (fun iv _ wr => ∃ k : Nat, k ≤ ps.length ∧ iv = .int .i64 k ∧ hasAll (ps.take k) n m = true ∧ Wr [] w1 wr) (fun iv _ _ => ps.length - (intOf iv).toNat)
  case atStart => exact ⟨0, Nat.zero_le _, rfl, rfl, Wr.refl _ _⟩
  case round =>
    obtain ⟨k, hk, rfl, hall, hw⟩ := hrel
    have Hall := Lib.hid hall
    clear hall
    by_cases hlt2 : k < ps.length
    · have ck := hw.cellOf (r1.cellOf (Hc.out k hlt2) (by simp)) (by simp)
      have cp' := hw.cellOf cp (by simp)
      have cq' := hw.cellOf cq (by simp)
      have hg : ps.getD k 0 = ps[k] := by simp [List.getD, List.getElem?_eq_getElem hlt2]
      rw [hg] at ck
      obtain ⟨x0, x1⟩ := Hr.out ps[k] (List.getElem_mem _)
      have hstep : hasAll (ps.take (k + 1)) n m = hasB ps[k] n m := by
        rw [List.take_succ_eq_append_getElem hlt2]
        have := Hall.out
        unfold hasAll at this ⊢
        rw [List.all_append, this]; simp
      have hfull : hasB ps[k] n m = false → hasAll ps n m = false := by
        intro hf
        unfold hasAll
        rw [List.all_eq_false]
        exact ⟨ps[k], List.getElem_mem _, by rw [hf]; decide⟩
      have Hstep := Lib.hid hstep
      have Hfull := Lib.hid hfull
      clear hstep hfull hg
      generalize ps[k] = x at *
      have hcall := mem_has wr b w.heap.size (w.heap.size + 1) m f (h.wr0 hw) m0 m1 x n x0 x1 cp' cq'
      cases hb : hasB x n m with
      | true =>
        rw [hb] at hcall
        go_wp2_with fail
        refine hcall.mono ?_
        clear hcall
        rintro e w2 ⟨rfl, r2⟩
        have hx : hasAll (ps.take (k + 1)) n m = true := by rw [Hstep.out]; exact hb
        have Hx := Lib.hid hx
        clear hx hb
        have hw2 := hw.trans r2
        clear r2 hw
        go_wp2_with fail
        go_roundw
        case rel => exact ⟨k + 1, by omega, by go_num, Hx.out, hw2⟩
        case measure => simp [intOf]; omega
      | false =>
        rw [hb] at hcall
        go_wp2_with fail
        refine hcall.mono ?_
        clear hcall
        rintro e w2 ⟨rfl, r2⟩
        have hx := Hfull.out hb
        have Hx := Lib.hid hx
        clear hx hb
        go_wp2_with fail
        go_ret
        exact ⟨by rw [Hx.out]; rfl, r1.trans (hw.trans r2)⟩
    · have hx : hasAll ps n m = true := by
        have := Hall.out
        rwa [List.take_of_length_le (by omega)] at this
      have Hx := Lib.hid hx
      clear hx
      go_wp2_with fail
      go_ret
      exact ⟨by rw [Hx.out]; rfl, r1.trans hw⟩
end Go.Proofs.Ytofkjcdpnkfcnaa
