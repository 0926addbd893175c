/- The law's own known answers ('alive'), and the laws MemNil and MemEnds, walked. No conditions. -/
import Derived.Test.YtofkjcdpnkfcnaaMemM
import Derived.OpenShut
namespace Go.Proofs.Ytofkjcdpnkfcnaa
open Go.RowKit
set_option linter.unusedVariables false

set_option maxHeartbeats 1000000 in
set_option maxRecDepth 100000 in
theorem mem_alive (w : World) :
    Calls Try.prog 7 #[] w fun e w' => e = .returned (.bool true) ∧ Wr [] w w' := by
  go_enter Try.func7, Try.ntmps7
  go_wp2_with fail
  refine (mem_new_ok 4 _ (by omega) (by omega)).mono ?_
  rintro e w1 ⟨rfl, r1, m1⟩
  go_wp2_with fail
  refine (mem_store_yes _ _ _ _ m1 (by omega) (by omega) 1 7 (by omega) (by omega)).mono ?_
  rintro e w2 ⟨rfl, k, m2⟩
  have r2 := r1.new k (Nat.le_refl _)
  clear r1 k m1
  go_wp2_with fail
  refine (mem_move_ok _ _ _ _ m2 (by omega) (by omega) 2 1 3 (by omega) (by decide)).mono ?_
  rintro e w3 ⟨rfl, k, m3⟩
  have r3 := r2.new k (Nat.le_refl _)
  clear r2 k m2
  go_wp2_with fail
  have hc := mem_load_yes _ _ _ _ m3 (by omega) (by omega) 2 (by omega) (by omega)
  rw [show upds (upd (fun _ => 0) ((1 : Int).toNat - 1) 7) ((2 : Int).toNat - 1) (3 : Int).toNat (fun j => upd (fun _ => 0) ((1 : Int).toNat - 1) 7 ((1 : Int).toNat - 1 + j)) ((2 : Int).toNat - 1) = 7 from rfl] at hc
  refine hc.mono ?_
  clear hc
  rintro e w4 ⟨rfl, k⟩
  have r4 := r3.trans k
  replace m3 := m3.wr0 k
  clear r3 k
  go_wp2_with fail
  refine (mem_row_ok _ _ _ _ m3 (by omega) (by omega) 1 4 (by omega) (by decide)).mono ?_
  rintro e w5 ⟨v, rfl, k, hrow⟩
  have r5 := r4.trans k
  replace m3 := m3.wr0 k
  obtain ⟨A, c, rfl, hc1, hc2, hcell⟩ := hrow
  obtain ⟨b, off, rfl, hc0⟩ := hcell 0 (by decide)
  obtain ⟨b', off', heq, hc2'⟩ := hcell 2 (by decide)
  obtain ⟨rfl, rfl⟩ : b' = b ∧ off' = off := by
    injection heq with heq
    injection heq with h1 h2
    exact ⟨h1.symm, h2.symm⟩
  clear heq hcell r4 k
  replace hc0 : w5.cell? ⟨b', off', none⟩ = some (.int .u16 7) := hc0
  replace hc2' : w5.cell? ⟨b', off' + 2, none⟩ = some (.int .u16 0) := hc2'
  go_wp2_with fail
  refine (mem_new_no 65536 _ (by omega)).mono ?_
  rintro e w6 ⟨rfl, rfl⟩
  go_wp2_with fail
  refine (mem_store_no _ _ _ _ m3 (by omega) (by omega) 5 1 (by omega) (by omega) (by decide)).mono ?_
  rintro e w6 ⟨rfl, k⟩
  have r6 := r5.trans k
  replace m3 := m3.wr0 k
  go_wp2_with fail
  refine (mem_store_no _ _ _ _ m3 (by omega) (by omega) 0 1 (by omega) (by omega) (by decide)).mono ?_
  rintro e w7 ⟨rfl, k⟩
  have r7 := r6.trans k
  replace m3 := m3.wr0 k
  go_wp2_with fail
  refine (mem_clear_ok _ _ _ _ m3 (by omega) (by omega) 5 0 (by omega) (by decide)).mono ?_
  rintro e w8 ⟨rfl, k, m4⟩
  have r8 := r7.new k (Nat.le_refl _)
  go_wp2_with fail
  refine (mem_clear_no _ _ _ _ m4 (by omega) (by omega) 5 1 (by omega) (by omega) (by omega) (by decide)).mono ?_
  rintro e w9 ⟨rfl, k⟩
  have r9 := r8.trans k
  replace m4 := m4.wr0 k
  go_wp2_with fail
  refine (mem_len _ _ _ _ m4).mono ?_
  rintro e w10 ⟨rfl, rfl⟩
  go_wp2_with fail
  go_ret
  exact ⟨rfl, r9⟩

set_option maxHeartbeats 1000000 in
theorem mem_nil_walk (w : World) (a : Int) (wa : (Lit.int .i64 a).wf = true) (n : Int) (wn : (Lit.int .i64 n).wf = true) :
    Calls Try.prog 6 #[.int .i64 a, .int .i64 n] w fun e w' => e = .returned (.bool true) ∧ Wr [] w w' := by
  go_enter Try.func6, Try.ntmps6
  go_wp2_with fail
  refine (mem_load_nil _ _).mono ?_
  rintro e w1 ⟨rfl, r1⟩
  go_wp2_with fail
  refine (mem_row_nil _ _ _).mono ?_
  rintro e w2 ⟨rfl, k⟩
  have r2 := r1.trans k
  go_wp2_with fail
  refine (mem_store_nil _ _ _).mono ?_
  rintro e w3 ⟨rfl, k⟩
  have r3 := r2.trans k
  go_wp2_with fail
  refine (mem_move_nil _ _ _ _).mono ?_
  rintro e w4 ⟨rfl, k⟩
  have r4 := r3.trans k
  go_wp2_with fail
  refine (mem_clear_nil _ _ _).mono ?_
  rintro e w5 ⟨rfl, k⟩
  have r5 := r4.trans k
  go_wp2_with fail
  refine (mem_len_nil _).mono ?_
  rintro e w6 ⟨rfl, rfl⟩
  go_wp2_with fail
  refine (mem_alive _).mono ?_
  rintro e w7 ⟨rfl, k⟩
  go_wp2_with fail
  go_ret
  exact ⟨rfl, r5.trans k⟩
end Go.Proofs.Ytofkjcdpnkfcnaa
