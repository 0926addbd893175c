/- The law TermEnds, walked. No conditions. -/
import Derived.Test.YtnkbbejmehdolaaTermA
import Derived.Test.YtnkbbejmehdolaaZeros
import Derived.OpenShut
namespace Go.Proofs.Ytnkbbejmehdolaa
open Go.RowKit
set_option linter.unusedVariables false

set_option maxHeartbeats 1000000 in
theorem term_ends_walk (w : World) (a : Int) (wa : (Lit.int .i8 a).wf = true) :
    Calls Try.prog 5 #[.int .i8 a] w fun e w' => e = .returned (.bool true) ∧ Wr [] w w' := by
  obtain ⟨ha0, ha1⟩ := Go.bounds_i8 wa
  clear wa
  have hmk := fun (w : World) => run_mkBytes w (16384 + a) (by omega) (by omega)
  have hcv := fun (w : World) => run_cvBytes w (16384 + a).toNat
  have hsz := zeroBytes_size (16384 + a).toNat
  have hszi : ((zeroBytes (16384 + a).toNat).size : Int) = 16384 + a := by rw [hsz]; omega
  have Hszi := Lib.hid hszi
  have Hsz := Lib.hid hsz
  clear hszi hsz
  by_cases h : 0 < a
  · go_enter Try.func5, Try.ntmps5
    go_wp2_with fail
    refine (term_new_long _ 0 _ (by rw [Hsz.out]; unfold maxLen; omega) (by rw [Hsz.out]; omega)).mono ?_
    rintro e w1 ⟨rfl, rfl⟩
    have r1 : Wr [] w (w.alloc (.cells (madeCells #[.int .u8 0] (16384 + a).toNat) 5)) := (Wr.refl _ _).alloc _
    generalize w.alloc (.cells (madeCells #[.int .u8 0] (16384 + a).toNat) 5) = w1 at *
    go_wp2_with fail
    refine (term_new_high _ _ _ (by decide) (by omega)).mono ?_
    rintro e w2 ⟨rfl, rfl⟩
    go_wp2_with fail
    refine (term_alive _).mono ?_
    rintro e w2 ⟨rfl, r2⟩
    go_wp2_with fail
    go_ret
    exact ⟨rfl, r1.trans r2⟩
  · have h' : ¬ 0 < a := h
    go_enter Try.func5, Try.ntmps5
    go_wp2_with fail
    refine (term_new_ok _ 0 _ (by rw [Hsz.out]; omega) (by omega) (by omega)).mono ?_
    rintro e w2 ⟨rfl, r2, t2⟩
    have r1 : Wr [] w (w.alloc (.cells (madeCells #[.int .u8 0] (16384 + a).toNat) 5)) := (Wr.refl _ _).alloc _
    rw [World.size_alloc] at t2 ⊢
    have r3 := r1.trans r2
    clear r1 r2
    go_wp2_with fail
    refine (term_new_ok _ _ _ (by decide) (by omega) (by omega)).mono ?_
    rintro e w3 ⟨rfl, r4, t3⟩
    have hlt : w.heap.size + 1 < w2.heap.size := t2.lt
    replace t2 := t2.wr0 r4
    obtain ⟨b2, hb2⟩ : ∃ b, w2.heap.size = b := ⟨_, rfl⟩
    rw [hb2] at t3 hlt ⊢
    clear hb2
    have r5 := r3.trans r4
    clear r3 r4
    go_wp2_with fail
    refine (term_write _ _ _ _ ⟨#[]⟩ _ _ _ t2 (by omega) (by decide) (by decide) (by decide)).mono ?_
    rintro e w4 ⟨rfl, k, t4⟩
    replace t3 := t3.wr k (by simp; omega)
    have r6 := r5.new k (by omega)
    clear r5 k t2
    go_wp2_with fail
    refine (term_write_no _ _ _ _ ⟨#[120]⟩ _ _ _ t4 (by decide) (by decide) (by decide) (by decide)).mono ?_
    rintro e w5 ⟨rfl, k, _⟩
    replace t3 := t3.wr0 k
    have r7 := r6.trans k
    clear r6 k t4
    go_wp2_with fail
    refine (term_write _ _ _ _ (zeroBytes (16384 + a).toNat) _ _ _ (Blk.alloc t3 _) (by omega) (by rw [Hsz.out]; show ((16384 + a).toNat : Int) ≤ 16384 + a - ((0 : Nat) : Int); omega) (by decide) (by decide)).mono ?_
    rintro e w6 ⟨rfl, k, t6⟩
    have r8 := (r7.alloc (.cells (madeCells #[.int .u8 0] (16384 + a).toNat) 5)).new k (by omega)
    have hemp : (⟨#[]⟩ : ByteArray) ++ zeroBytes (16384 + a).toNat = zeroBytes (16384 + a).toNat := ByteArray.empty_append
    rw [hemp, Nat.zero_add] at t6
    clear k r7 t3 hemp
    go_wp2_with fail
    refine (term_write_no _ _ _ _ ⟨#[120]⟩ _ _ _ t6 (by rw [Hsz.out]; omega) (by omega) (by decide) (by rw [Hsz.out]; show 16384 + a - ((16384 + a).toNat : Int) < ((1 : Nat) : Int); omega)).mono ?_
    rintro e w7 ⟨rfl, k, t7⟩
    have r9 := r8.trans k
    clear r8 k t6
    go_wp2_with fail
    refine (term_out _ _ _ _ _ _ _ t7).mono ?_
    rintro e w8 ⟨rfl, rfl⟩
    have hq : ((((zeroBytes (16384 + a).toNat).size : Nat) : Int) == 16384 + a) = true := by rw [beq_iff_eq]; exact Hszi.out
    go_wp2_with fail
    refine (term_alive _).mono ?_
    rintro e w2 ⟨rfl, k⟩
    go_wp2_with fail
    go_ret
    exact ⟨rfl, r9.trans k⟩
end Go.Proofs.Ytnkbbejmehdolaa
