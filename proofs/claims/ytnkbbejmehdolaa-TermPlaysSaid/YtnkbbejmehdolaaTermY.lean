/- The law TermPlays, walked. No conditions. -/
import Derived.Test.YtnkbbejmehdolaaTermG
namespace Go.Proofs.Ytnkbbejmehdolaa
open Go.RowKit
set_option linter.unusedVariables false

/-- What the loop knows: what is left to read, and what was written. -/
def PlaysAt (s : ByteArray) (most : Int) (b len : Nat) (w0 : World) (rv ov iv : Value) (w : World) : Prop :=
  ∃ (rd k : Nat) (ou rt : ByteArray), k ≤ len ∧ iv = .int .i64 k ∧ rv = .int .i64 rd ∧ ov = .string ou ∧ rd ≤ s.size ∧ rt = s.extract rd s.size ∧ (ou.size : Int) ≤ most ∧ TermAt w b rt ou most rd ou.size ∧ Wr [b] w0 w

theorem extract_one (s : ByteArray) (r : Nat) : (s.extract r s.size).extract 1 (s.extract r s.size).size = s.extract (r + 1) s.size := by
  rw [ByteArray.size_extract, ByteArray.extract_extract]
  congr 1
  omega

theorem extract_head (s : ByteArray) (r : Nat) (h : r < s.size) (h1 : 0 < (s.extract r s.size).size) : (s.extract r s.size)[0]'h1 = s[r] := by
  rw [ByteArray.getElem_extract]; rfl

theorem order_num (n : Nat) (h : n < 1000000) : FloatKind.f64.format.order (fl n) (floatOfInt .f64 (n : Int)) = some .eq := by
  rw [fl_ofInt]; exact fl_order n (by omega)

set_option maxHeartbeats 2000000 in
set_option maxRecDepth 100000 in
theorem term_plays_walk (w : World) (s : ByteArray) (hs : s.size ≤ maxLen) (most : Int) (hmost : (Lit.int .i64 most).wf = true) (v : Value) (g : IsActs w v) :
    Calls Try.prog 3 #[.string s, .int .i64 most, v] w fun e w' => e = .returned (.bool true) ∧ Wr [] w w' := by
  obtain ⟨a, len, cap, D, S, rfl, hlc, hcm, hx⟩ := g
  have Hx0 := Lib.hid hx
  clear hx
  obtain ⟨m0, m1⟩ := Go.bounds_i64 hmost
  clear hmost
  have hv := term_heavy w s hs a len cap D S hlc hcm (fun i hi => ⟨(Hx0.out i hi).2.2.1, by
    obtain ⟨_, _, _, b, off, h1, _, h3⟩ := Hx0.out i hi
    exact ⟨b, off, h1, h3⟩⟩)
  unfold maxLen at hs hcm
  go_enter Try.func3, Try.ntmps3
  go_wp2_with fail
  refine hv.mono ?_
  clear hv
  rintro e w1 ⟨rfl, rfl | ⟨rfl, hs1, hl1, hall⟩⟩
  · go_wp2_with fail
    refine (term_alive _).mono ?_
    rintro e w2 ⟨rfl, k⟩
    go_wp2_with fail
    go_ret
    exact ⟨rfl, k⟩
  have Hall := Lib.hid hall
  clear hall
  go_wp2_with fail
  by_cases hlo : most < 0
  · refine (term_new_low _ _ _ (by omega) hlo).mono ?_
    rintro e w2 ⟨rfl, rfl⟩
    go_wp2_with fail
    refine (term_alive _).mono ?_
    rintro e w2 ⟨rfl, k⟩
    go_wp2_with fail
    go_ret
    exact ⟨rfl, k⟩
  by_cases hhi : 16384 < most
  · refine (term_new_high _ _ _ (by omega) hhi).mono ?_
    rintro e w2 ⟨rfl, rfl⟩
    go_wp2_with fail
    refine (term_alive _).mono ?_
    rintro e w2 ⟨rfl, k⟩
    go_wp2_with fail
    go_ret
    exact ⟨rfl, k⟩
  refine (term_new_ok _ _ _ (by omega) (by omega) (by omega)).mono ?_
  rintro e w2 ⟨rfl, r2, t2⟩
  obtain ⟨b1, hb1⟩ : ∃ b, w.heap.size = b := ⟨_, rfl⟩
  have hb1' : w.heap.size ≤ b1 := by omega
  rw [hb1] at t2 ⊢
  clear hb1
  go_wp2_with fail
  go_loopw [9, 10, 11, 12, 13, 14] (fun rv ov iv _ _ _ wr => PlaysAt s most b1 len w2 rv ov iv wr) (fun _ _ i _ _ _ _ => len - (intOf i).toNat)
  case atStart =>
    refine ⟨0, 0, ⟨#[]⟩, s, by omega, rfl, rfl, rfl, by omega, ?_, ?_, t2, Wr.refl _ _⟩
    · ext1; simp
    · show ((0 : Nat) : Int) ≤ most; omega
  case round =>
    obtain ⟨rd, k, ou, rt, hk, rfl, rfl, rfl, hrd, hrt, hou, ht, hw⟩ := hrel
    by_cases hlt : k < len
    · obtain ⟨d0, d1, hsl, b, off, rfl, hc0, hc1⟩ := Hx0.out k hlt
      clear hsl
      have hsl := Hall.out k hlt
      have hbw := World.block_lt_of_cell? w _ hc0
      simp at hbw
      replace hc0 := hw.cellOf (r2.cellOf hc0 (by simp)) (by simp; omega)
      replace hc1 := hw.cellOf (r2.cellOf hc1 (by simp)) (by simp; omega)
      have hrts : rt.size = s.size - rd := by rw [hrt, ByteArray.size_extract]; omega
      have Hrt := Lib.hid hrt
      have Hrts := Lib.hid hrts
      clear hrt hrts
      have hoz : ou.size ≤ 16384 := by omega
      generalize D k = d at *
      generalize S k = st at *
      by_cases hd : d = 0
      · have hdb : (d == 0) = true := by simp [hd]
        clear hd
        by_cases hr : rd < s.size
        · go_wp2_with fail
          have hq : rt[0]'(by rw [Hrts.out]; omega) = s[rd] := by
            have := Hrt.out
            subst this
            exact extract_head s rd hr _
          have hcc := term_read _ _ _ _ _ _ _ ht (by rw [Hrts.out]; omega) (by rw [Hrts.out]; unfold maxLen; omega) (by omega) (by omega)
          rw [hq] at hcc
          have t40 : rt.extract 1 rt.size = s.extract (rd + 1) s.size := by rw [Hrt.out]; exact extract_one _ _
          rw [t40] at hcc
          refine hcc.mono ?_
          clear hcc hq t40
          rintro e w4 ⟨rfl, kk, t4⟩
          have hw4 := hw.trans kk
          clear kk
          have o1 := order_num (rd + 1) (by omega)
          have o2 := order_num ou.size (by omega)
          rw [show (((rd + 1 : Nat)) : Int) = (rd : Int) + 1 from rfl] at o1
          have hx : PlaysAt s most b1 len w2 (.int .i64 (rd + 1)) (.string ou) (.int .i64 (k + 1 : Nat)) w4 := ⟨(rd + 1), k + 1, ou, s.extract (rd + 1) s.size, by omega, rfl, rfl, rfl, by omega, rfl, hou, t4, hw4⟩
          have Hx := Lib.hid hx
          clear hx hc0 hc1 hw hw4 ht
          go_wp2_with fail
          refine (term_count _ _ _ _ _ _ _ t4).mono ?_
          rintro e w5 ⟨rfl, rfl⟩
          go_wp2_with fail
          refine (term_out _ _ _ _ _ _ _ t4).mono ?_
          rintro e w5 ⟨rfl, rfl⟩
          go_wp2_with fail
          go_roundw
          case rel => exact Hx.out
          case measure => simp [intOf]; omega
        · go_wp2_with fail
          have hre : rt = ⟨#[]⟩ := by
            rw [Hrt.out]
            ext1
            simp
            omega
          rw [hre] at ht
          refine (term_read_end _ _ _ _ _ _ ht).mono ?_
          rintro e wz ⟨rfl, rfl⟩
          have t4 := ht
          have hw4 := hw
          have hre2 : (⟨#[]⟩ : ByteArray) = s.extract rd s.size := by rw [← hre]; exact Hrt.out
          have Hre2 := Lib.hid hre2
          clear hre hre2
          have o1 := order_num rd (by omega)
          have o2 := order_num ou.size (by omega)
          have hx : PlaysAt s most b1 len w2 (.int .i64 rd) (.string ou) (.int .i64 (k + 1 : Nat)) wr := ⟨rd, k + 1, ou, ⟨#[]⟩, by omega, rfl, rfl, rfl, by omega, Hre2.out, hou, t4, hw4⟩
          have Hx := Lib.hid hx
          clear hx hc0 hc1 hw hw4 ht
          go_wp2_with fail
          refine (term_count _ _ _ _ _ _ _ t4).mono ?_
          rintro e w5 ⟨rfl, rfl⟩
          go_wp2_with fail
          refine (term_out _ _ _ _ _ _ _ t4).mono ?_
          rintro e w5 ⟨rfl, rfl⟩
          go_wp2_with fail
          go_roundw
          case rel => exact Hx.out
          case measure => simp [intOf]; omega
      · have hdb : (d == 0) = false := by simp [hd]
        clear hd
        by_cases hfit : (st.size : Int) ≤ most - ou.size
        · go_wp2_with fail
          refine (term_write _ _ _ _ st _ _ _ ht (by omega) (by omega) (by omega) (by omega)).mono ?_
          rintro e w4 ⟨rfl, kk, t4⟩
          have hw4 := hw.trans kk
          have hsa : ou.size + st.size = (ou ++ st).size := ByteArray.size_append.symm
          have hso : (ou ++ st).size ≤ 16384 := by omega
          have hsm : ((ou ++ st).size : Int) ≤ most := by omega
          have t5 := t4
          rw [hsa] at t5
          replace hc1 := kk.cellOf hc1 (by simp; omega)
          clear kk hsa
          have o1 := order_num rd (by omega)
          have o2 : FloatKind.f64.format.order (fl (ou.size + st.size)) (floatOfInt .f64 ((ou.size : Int) + (st.size : Int))) = some .eq := order_num (ou.size + st.size) (by omega)
          have hx : PlaysAt s most b1 len w2 (.int .i64 rd) (.string (ou ++ st)) (.int .i64 (k + 1 : Nat)) w4 := ⟨rd, k + 1, (ou ++ st), rt, by omega, rfl, rfl, rfl, by omega, Hrt.out, hsm, t5, hw4⟩
          have Hx := Lib.hid hx
          clear hx hc0 hw hw4 ht t5
          go_wp2_with fail
          refine (term_count _ _ _ _ _ _ _ t4).mono ?_
          rintro e w5 ⟨rfl, rfl⟩
          go_wp2_with fail
          refine (term_out _ _ _ _ _ _ _ t4).mono ?_
          rintro e w5 ⟨rfl, rfl⟩
          go_wp2_with fail
          go_roundw
          case rel => exact Hx.out
          case measure => simp [intOf]; omega
        · go_wp2_with fail
          refine (term_write_no _ _ _ _ st _ _ _ ht (by omega) (by omega) (by unfold maxLen; omega) (by omega)).mono ?_
          rintro e w4 ⟨rfl, kk, t4⟩
          have hw4 := hw.trans0 kk
          clear kk
          have o1 := order_num rd (by omega)
          have o2 := order_num ou.size (by omega)
          have hx : PlaysAt s most b1 len w2 (.int .i64 rd) (.string ou) (.int .i64 (k + 1 : Nat)) w4 := ⟨rd, k + 1, ou, rt, by omega, rfl, rfl, rfl, by omega, Hrt.out, hou, t4, hw4⟩
          have Hx := Lib.hid hx
          clear hx hc0 hc1 hw hw4 ht
          go_wp2_with fail
          refine (term_count _ _ _ _ _ _ _ t4).mono ?_
          rintro e w5 ⟨rfl, rfl⟩
          go_wp2_with fail
          refine (term_out _ _ _ _ _ _ _ t4).mono ?_
          rintro e w5 ⟨rfl, rfl⟩
          go_wp2_with fail
          go_roundw
          case rel => exact Hx.out
          case measure => simp [intOf]; omega
    · go_wp2_with fail
      refine (term_alive _).mono ?_
      rintro e w2 ⟨rfl, k⟩
      go_wp2_with fail
      go_ret
      exact ⟨rfl, (r2.new hw hb1').trans k⟩
end Go.Proofs.Ytnkbbejmehdolaa
