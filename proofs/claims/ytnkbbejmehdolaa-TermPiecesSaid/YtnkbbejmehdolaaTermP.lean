/- The law TermPieces, walked. No conditions. -/
import Derived.Test.YtnkbbejmehdolaaTermA
import Derived.Test.YtnkbbejmehdolaaArgs
namespace Go.Proofs.Ytnkbbejmehdolaa
open Go.RowKit
set_option linter.unusedVariables false

theorem append_cut (a b : ByteArray) (k : Nat) (hk : k ≤ b.size) : (a ++ b.extract 0 k) ++ b.extract k b.size = a ++ b := by
  rw [ByteArray.append_assoc]
  congr 1
  ext1
  simp

/-- What the loop knows: the second terminal bears a beginning of s, and the rest is still to come. -/
def PiecesAt (s : ByteArray) (n b : Nat) (len : Nat) (w0 : World) (v i : Value) (w : World) : Prop :=
  ∃ (ou rt : ByteArray) (k : Nat), k ≤ len ∧ i = .int .i64 k ∧ v = .string rt ∧ ou ++ rt = s ∧ ou.size + rt.size = n ∧ TermAt w b ⟨#[]⟩ ou n 0 ou.size ∧ Wr [b] w0 w

set_option maxHeartbeats 1000000 in
theorem term_pieces_walk (w : World) (s : ByteArray) (hs : s.size ≤ maxLen) (v : Value) (g : IsInts .u8 w v) :
    Calls Try.prog 4 #[.string s, v] w fun e w' => e = .returned (.bool true) ∧ Wr [] w w' := by
  obtain ⟨a, len, cap, zs, rfl, hlc, hcm, hzl, hwf, hcell⟩ := g
  have Hzl := Lib.hid hzl
  clear hzl
  unfold maxLen at hs hcm
  by_cases h1 : 4096 < s.size
  · go_enter Try.func4, Try.ntmps4
    go_wp2_with fail
    refine (term_alive _).mono ?_
    rintro e w2 ⟨rfl, k⟩
    go_wp2_with fail
    go_ret
    exact ⟨rfl, k⟩
  by_cases h2 : 1024 < len
  · go_enter Try.func4, Try.ntmps4
    go_wp2_with fail
    refine (term_alive _).mono ?_
    rintro e w2 ⟨rfl, k⟩
    go_wp2_with fail
    go_ret
    exact ⟨rfl, k⟩
  go_enter Try.func4, Try.ntmps4
  go_wp2_with fail
  refine (term_new_ok ⟨#[]⟩ _ _ (by decide) (by omega) (by omega)).mono ?_
  rintro e w1 ⟨rfl, r1, t1⟩
  obtain ⟨b1, hb1⟩ : ∃ b, w.heap.size = b := ⟨_, rfl⟩
  have hb1' : w.heap.size ≤ b1 := by omega
  rw [hb1] at t1 ⊢
  clear hb1
  go_wp2_with fail
  refine (term_new_ok ⟨#[]⟩ _ _ (by decide) (by omega) (by omega)).mono ?_
  rintro e w2 ⟨rfl, k, t2⟩
  have hlt : b1 < w1.heap.size := t1.lt
  replace t1 := t1.wr0 k
  have r2 := r1.trans k
  obtain ⟨b2, hb2⟩ : ∃ b, w1.heap.size = b := ⟨_, rfl⟩
  rw [hb2] at t2 hlt ⊢
  clear hb2 k r1
  go_wp2_with fail
  refine (term_write _ _ _ _ s _ _ _ t1 (by omega) (by show (s.size : Int) ≤ (s.size : Int) - ((0 : Nat) : Int); omega) (by decide) (by decide)).mono ?_
  rintro e w3 ⟨rfl, k, t3⟩
  have hemp : (⟨#[]⟩ : ByteArray) ++ s = s := ByteArray.empty_append
  rw [hemp, Nat.zero_add] at t3
  clear hemp
  replace t2 := t2.wr k (by simp; omega)
  have r3 := r2.new k hb1'
  clear k r2 t1
  go_wp2_with fail
  go_loopw [10, 11, 12] (fun v i _ wr => PiecesAt s s.size b2 len w3 v i wr) (fun _ i _ _ => len - (intOf i).toNat)
  case atStart =>
    exact ⟨⟨#[]⟩, s, 0, by omega, rfl, rfl, ByteArray.empty_append, Nat.zero_add _, t2, Wr.refl _ _⟩
  case round =>
    obtain ⟨ou, rt, k, hk, rfl, rfl, happ, hsz, ht, hw⟩ := hrel
    have Happ := Lib.hid happ
    have Hsz := Lib.hid hsz
    have hle : rt.size ≤ 4096 := by omega
    have hle2 : ou.size ≤ 4096 := by omega
    clear happ hsz
    by_cases hlt2 : k < len
    · obtain ⟨b, off, rfl, hc⟩ := hcell k hlt2
      have hbw := World.block_lt_of_cell? w _ hc
      simp at hbw
      replace hc := r3.cellOf hc (by simp)
      replace hc := hw.cellOf hc (by simp; omega)
      obtain ⟨z0, z1⟩ := Go.bounds_u8 (hwf k hlt2)
      clear hcell hwf
      generalize zs.getD k 0 = z at *
      have hfit : (ou.size : Int) + rt.size = s.size := by have := Hsz.out; omega
      by_cases hz : z ≤ rt.size
      · have hsz1 : (rt.extract 0 z.toNat).size = z.toNat := by rw [ByteArray.size_extract]; omega
        have Hsz1 := Lib.hid hsz1
        clear hsz1
        go_wp2_with fail
        refine (term_write _ _ _ _ (rt.extract 0 z.toNat) _ _ _ ht (by omega) (by rw [Hsz1.out]; omega) (by decide) (by omega)).mono ?_
        rintro e w4 ⟨rfl, kk, t4⟩
        have hx : PiecesAt s s.size b2 len w3 (.string (rt.extract z.toNat rt.size)) (.int .i64 (k + 1 : Nat)) w4 := by
          refine ⟨ou ++ rt.extract 0 z.toNat, rt.extract z.toNat rt.size, k + 1, by omega, rfl, rfl, ?_, ?_, ?_, hw.trans kk⟩
          · rw [append_cut _ _ _ (by omega)]; exact Happ.out
          · rw [ByteArray.size_append, ByteArray.size_extract, ByteArray.size_extract]; omega
          · rw [ByteArray.size_append]; exact t4
        have Hx := Lib.hid hx
        clear hx t4 kk ht hw hc
        go_wp2_with fail
        go_roundw
        case rel => exact Hx.out
        case measure => simp [intOf]; omega
      · go_wp2_with fail
        refine (term_write _ _ _ _ rt _ _ _ ht (by omega) (by omega) (by decide) (by omega)).mono ?_
        rintro e w4 ⟨rfl, kk, t4⟩
        have hx : PiecesAt s s.size b2 len w3 (.string ByteArray.empty) (.int .i64 (k + 1 : Nat)) w4 := by
          refine ⟨ou ++ rt, ByteArray.empty, k + 1, by omega, rfl, rfl, ?_, ?_, ?_, hw.trans kk⟩
          · rw [ByteArray.append_empty]; exact Happ.out
          · rw [ByteArray.size_append, ByteArray.size_empty]; omega
          · rw [ByteArray.size_append]; exact t4
        have Hx := Lib.hid hx
        clear hx t4 kk ht hw hc
        go_wp2_with fail
        go_roundw
        case rel => exact Hx.out
        case measure => simp [intOf]; omega
    · have hfit : (ou.size : Int) + rt.size = s.size := by have := Hsz.out; omega
      go_wp2_with fail
      refine (term_write _ _ _ _ rt _ _ _ ht (by omega) (by omega) (by decide) (by omega)).mono ?_
      rintro e w4 ⟨rfl, kk, t4⟩
      replace t3 := (t3.wr hw (by simp; omega)).wr kk (by simp; omega)
      have r4 := (r3.new hw (by omega)).new kk (by omega)
      rw [Happ.out, Hsz.out] at t4
      clear kk hw ht t2 r3
      go_wp2_with fail
      refine (term_out _ _ _ _ _ _ _ t3).mono ?_
      rintro e w5 ⟨rfl, rfl⟩
      go_wp2_with fail
      refine (term_out _ _ _ _ _ _ _ t4).mono ?_
      rintro e w5 ⟨rfl, rfl⟩
      go_wp2_with fail
      refine (term_count _ _ _ _ _ _ _ t3).mono ?_
      rintro e w5 ⟨rfl, rfl⟩
      go_wp2_with fail
      refine (term_count _ _ _ _ _ _ _ t4).mono ?_
      rintro e w5 ⟨rfl, rfl⟩
      have o1 : FloatKind.f64.format.order (fl 0) (fl 0) = some .eq := fl_order 0 (by decide)
      have o2 : FloatKind.f64.format.order (fl s.size) (fl s.size) = some .eq := fl_order s.size (by omega)
      go_wp2_with fail
      refine (term_write_no _ _ _ _ ⟨#[120]⟩ _ _ _ t3 (by omega) (by omega) (by decide) (by show (s.size : Int) - (s.size : Int) < ((1 : Nat) : Int); omega)).mono ?_
      rintro e w5 ⟨rfl, kk, t5⟩
      have r5 := r4.trans kk
      clear r4 kk t3 t4
      go_wp2_with fail
      refine (term_write _ _ _ _ ⟨#[]⟩ _ _ _ t5 (by omega) (by show ((0 : Nat) : Int) ≤ (s.size : Int) - (s.size : Int); omega) (by decide) (by omega)).mono ?_
      rintro e w6 ⟨rfl, kk, t6⟩
      have r6 := r5.new kk hb1'
      clear r5 kk t5 t6
      go_wp2_with fail
      refine (term_alive _).mono ?_
      rintro e w7 ⟨rfl, kk⟩
      go_wp2_with fail
      go_ret
      exact ⟨rfl, r6.trans kk⟩
end Go.Proofs.Ytnkbbejmehdolaa
