/- The law MemLast, walked. No conditions. -/
import Derived.Test.YtofkjcdpnkfcnaaMemQ
namespace Go.Proofs.Ytofkjcdpnkfcnaa
open Go.RowKit
set_option linter.unusedVariables false

def LastAt (m : Int) (b len : Nat) (w0 : World) (iv : Value) (w : World) : Prop :=
  ∃ (k : Nat) (f : Nat → Int), k ≤ len ∧ iv = .int .i64 k ∧ MemAt w b m f ∧ Wr [b] w0 w

set_option maxHeartbeats 8000000 in
set_option maxRecDepth 100000 in
theorem mem_last_walk (w : World) (n : Int) (wn : (Lit.int .u8 n).wf = true) (v : Value) (g : IsCalls w v) (o : Int) (wo : (Lit.int .u8 o).wf = true) :
    Calls Try.prog 4 #[.int .u8 n, v, .int .u8 o] w fun e w' => e = .returned (.bool true) ∧ Wr [] w w' := by
  obtain ⟨n0, n1⟩ := Go.bounds_u8 wn
  obtain ⟨o0, o1⟩ := Go.bounds_u8 wo
  obtain ⟨a, len, cap, C, rfl, hlc, hcm, hx⟩ := g
  clear wn wo
  have Hx := Lib.hid hx
  clear hx
  unfold maxLen at hcm
  by_cases hl : 150 < len
  · go_enter Try.func4, Try.ntmps4
    go_wp2_with fail
    refine (mem_alive _).mono ?_
    rintro e w2 ⟨rfl, k⟩
    go_wp2_with fail
    go_ret
    exact ⟨rfl, k⟩
  have hp0 : 0 ≤ o % (1 + n) := Int.emod_nonneg o (show (1 + n : Int) ≠ 0 by omega)
  have hp1 : o % (1 + n) ≤ n := by have := Int.emod_lt_of_pos o (show (0 : Int) < 1 + n by omega); omega
  go_enter Try.func4, Try.ntmps4
  go_wp2_with fail
  refine (mem_new_ok _ _ (by omega) (by omega)).mono ?_
  rintro e w1 ⟨rfl, r1, m1⟩
  obtain ⟨b1, hb1⟩ : ∃ b, w.heap.size = b := ⟨_, rfl⟩
  have hb1' : w.heap.size ≤ b1 := by omega
  rw [hb1] at m1 ⊢
  clear hb1
  go_wp2_with fail
  have hp0' : 1 ≤ 1 + o % (1 + n) := by omega
  have hp1' : 1 + o % (1 + n) ≤ 1 + n := by omega
  clear hp0 hp1
  generalize 1 + o % (1 + n) = p at *
  generalize hsz : 1 + n = sz at *
  have hs1 : sz ≤ 256 := by omega
  clear hsz
  go_loopw [11] (fun iv wr => LastAt sz b1 len w1 iv wr) (fun iv _ => len - (intOf iv).toNat)
  case atStart => exact ⟨0, _, by omega, rfl, m1, Wr.refl _ _⟩
  case round =>
    obtain ⟨k, f, hk, rfl, hm, hw⟩ := hrel
    by_cases hlt : k < len
    · obtain ⟨⟨hd, hx0, hy0, hn0, hv0⟩, b, off, rfl, hcall⟩ := Hx.out k hlt
      have hbw := hcall.lt
      have hcall2 := (hcall.wr r1 (by simp)).wr hw (by simp; omega)
      obtain ⟨c0, c1, c2, c3, c4⟩ := hcall2
      clear hcall
      generalize (C k).d = d at *
      generalize (C k).x = x at *
      generalize (C k).y = y at *
      generalize (C k).n = q at *
      generalize (C k).v = z at *
      have hl1 := mem_load_yes (wr.alloc (.cells #[.int .u8 d, .int .i64 x, .int .i64 y, .int .i64 q, .int .u16 z] 34)) b1 sz f (Blk.alloc hm _) (by omega) (by omega) p (by omega) (by omega)
      have hnew : CallAt (wr.alloc (.cells #[.int .u8 d, .int .i64 x, .int .i64 y, .int .i64 q, .int .u16 z] 34)) wr.heap.size 0 ⟨d, x, y, q, z⟩ := by
        have hB := Blk.new wr 34 #[.int .u8 d, .int .i64 x, .int .i64 y, .int .i64 q, .int .u16 z]
        exact ⟨hB.cell 0, hB.cell 1, hB.cell 2, hB.cell 3, hB.cell 4⟩
      have hm2 : MemAt (wr.alloc (.cells #[.int .u8 d, .int .i64 x, .int .i64 y, .int .i64 q, .int .u16 z] 34)) b1 sz f := Blk.alloc hm _
      have hw2 : Wr [b1] w1 (wr.alloc (.cells #[.int .u8 d, .int .i64 x, .int .i64 y, .int .i64 q, .int .u16 z] 34)) := hw.alloc _
      have hcb : b1 < wr.heap.size := hm.lt
      go_wp2_with fail
      refine hl1.mono ?_
      clear hl1 c0 c1 c2 c3 c4
      rintro e w2 ⟨rfl, kk⟩
      replace hnew := hnew.wr kk (by simp)
      replace hm2 := hm2.wr0 kk
      replace hw2 := hw2.trans0 kk
      obtain ⟨cb, hcbe⟩ : ∃ cb, wr.heap.size = cb := ⟨_, rfl⟩
      rw [hcbe] at hnew hcb ⊢
      clear hcbe kk hm hw
      obtain ⟨e0, e1, e2, e3, e4⟩ : w2.cell? ⟨cb, 0, none⟩ = some (.int .u8 d) ∧ w2.cell? ⟨cb, 1, none⟩ = some (.int .i64 x) ∧ w2.cell? ⟨cb, 2, none⟩ = some (.int .i64 y) ∧ w2.cell? ⟨cb, 3, none⟩ = some (.int .i64 q) ∧ w2.cell? ⟨cb, 4, none⟩ = some (.int .u16 z) := hnew
      obtain ⟨d0, d1⟩ := hd
      have hr8 : d % 8 = 0 ∨ d % 8 = 1 ∨ d % 8 = 2 ∨ d % 8 = 3 ∨ d % 8 = 4 ∨ d % 8 = 5 ∨ d % 8 = 6 ∨ d % 8 = 7 := by omega
      rcases hr8 with hr | hr | hr | hr | hr | hr | hr | hr
      · as_aux_lemma =>
          by_cases hok : hasB x 1 sz = true
          · obtain ⟨g1, g2, g3⟩ := hasB_yes hok
            by_cases hxp : x = p
            · have hxb : (x == p) = true := by simp [hxp]
              have Hxp := Lib.hid hxp
              clear hxp
              go_wp2_with fail
              refine (mem_store_yes _ _ _ _ hm2 (by omega) (by omega) x z (by omega) (by omega)).mono ?_
              rintro e w4 ⟨rfl, kk, m5⟩
              have hw4 := hw2.trans kk
              have e1' := kk.cellOf e1 (by simp; omega)
              have e2' := kk.cellOf e2 (by simp; omega)
              have e3' := kk.cellOf e3 (by simp; omega)
              have e4' := kk.cellOf e4 (by simp; omega)
              clear e0 e1 e2 e3 e4
              have hfin := mem_load_yes _ _ _ _ m5 (by omega) (by omega) p (by omega) (by omega)
              rw [show upd f (x.toNat - 1) z (p.toNat - 1) = z from by rw [Hxp.out]; exact upd_in _ _ _] at hfin
              have hx : LastAt sz b1 len w1 (.int .i64 (k + 1 : Nat)) w4 := ⟨k + 1, _, by omega, rfl, m5, hw4⟩
              clear m5 hm2 hw2 kk Hxp
              go_wp2_with fail
              refine hfin.mono ?_
              clear hfin
              rintro e w5 ⟨rfl, kk⟩
              obtain ⟨k', f', hk', he', hm', hw'⟩ := hx
              have hx : LastAt sz b1 len w1 (.int .i64 (k + 1 : Nat)) w5 := ⟨k', f', hk', he', hm'.wr0 kk, hw'.trans0 kk⟩
              have Hx2 := Lib.hid hx
              clear hx hm' hw' kk he' hk'
              go_wp2_with fail
              go_roundw
              case rel => exact Hx2.out
              case measure => simp [intOf]; omega
            · have hxb : (x == p) = false := by simp [hxp]
              have Hxp := Lib.hid hxp
              clear hxp
              go_wp2_with fail
              refine (mem_store_yes _ _ _ _ hm2 (by omega) (by omega) x z (by omega) (by omega)).mono ?_
              rintro e w4 ⟨rfl, kk, m5⟩
              have hw4 := hw2.trans kk
              have e1' := kk.cellOf e1 (by simp; omega)
              have e2' := kk.cellOf e2 (by simp; omega)
              have e3' := kk.cellOf e3 (by simp; omega)
              have e4' := kk.cellOf e4 (by simp; omega)
              clear e0 e1 e2 e3 e4
              have hfin := mem_load_yes _ _ _ _ m5 (by omega) (by omega) p (by omega) (by omega)
              rw [show upd f (x.toNat - 1) z (p.toNat - 1) = f (p.toNat - 1) from upd_out _ _ _ _ (by have := Hxp.out; omega)] at hfin
              have hx : LastAt sz b1 len w1 (.int .i64 (k + 1 : Nat)) w4 := ⟨k + 1, _, by omega, rfl, m5, hw4⟩
              clear m5 hm2 hw2 kk Hxp
              go_wp2_with fail
              refine hfin.mono ?_
              clear hfin
              rintro e w5 ⟨rfl, kk⟩
              obtain ⟨k', f', hk', he', hm', hw'⟩ := hx
              have hx : LastAt sz b1 len w1 (.int .i64 (k + 1 : Nat)) w5 := ⟨k', f', hk', he', hm'.wr0 kk, hw'.trans0 kk⟩
              have Hx2 := Lib.hid hx
              clear hx hm' hw' kk he' hk'
              go_wp2_with fail
              go_roundw
              case rel => exact Hx2.out
              case measure => simp [intOf]; omega
          · have hokf : hasB x 1 sz = false := by simpa using hok
            clear hok
            go_wp2_with fail
            refine (mem_store_no _ _ _ _ hm2 (by omega) (by omega) x z (by omega) (by omega) hokf).mono ?_
            rintro e w4 ⟨rfl, kk⟩
            have hw4 := hw2.trans0 kk
            have m5 := hm2.wr0 kk
            have e1' := kk.cellOf e1 (by simp)
            have e2' := kk.cellOf e2 (by simp)
            have e3' := kk.cellOf e3 (by simp)
            have e4' := kk.cellOf e4 (by simp)
            clear e0 e1 e2 e3 e4
            have hfin := mem_load_yes _ _ _ _ m5 (by omega) (by omega) p (by omega) (by omega)
            have hx : LastAt sz b1 len w1 (.int .i64 (k + 1 : Nat)) w4 := ⟨k + 1, _, by omega, rfl, m5, hw4⟩
            clear m5 hm2 hw2 kk hokf
            go_wp2_with fail
            refine hfin.mono ?_
            clear hfin
            rintro e w5 ⟨rfl, kk⟩
            obtain ⟨k', f', hk', he', hm', hw'⟩ := hx
            have hx : LastAt sz b1 len w1 (.int .i64 (k + 1 : Nat)) w5 := ⟨k', f', hk', he', hm'.wr0 kk, hw'.trans0 kk⟩
            have Hx2 := Lib.hid hx
            clear hx hm' hw' kk he' hk'
            go_wp2_with fail
            go_roundw
            case rel => exact Hx2.out
            case measure => simp [intOf]; omega
      · as_aux_lemma =>
          by_cases hok : hasB x 1 sz = true
          · obtain ⟨g1, g2, g3⟩ := hasB_yes hok
            by_cases hxp : x = p
            · have hxb : (x == p) = true := by simp [hxp]
              have Hxp := Lib.hid hxp
              clear hxp
              go_wp2_with fail
              refine (mem_store_yes _ _ _ _ hm2 (by omega) (by omega) x z (by omega) (by omega)).mono ?_
              rintro e w4 ⟨rfl, kk, m5⟩
              have hw4 := hw2.trans kk
              have e1' := kk.cellOf e1 (by simp; omega)
              have e2' := kk.cellOf e2 (by simp; omega)
              have e3' := kk.cellOf e3 (by simp; omega)
              have e4' := kk.cellOf e4 (by simp; omega)
              clear e0 e1 e2 e3 e4
              have hfin := mem_load_yes _ _ _ _ m5 (by omega) (by omega) p (by omega) (by omega)
              rw [show upd f (x.toNat - 1) z (p.toNat - 1) = z from by rw [Hxp.out]; exact upd_in _ _ _] at hfin
              have hx : LastAt sz b1 len w1 (.int .i64 (k + 1 : Nat)) w4 := ⟨k + 1, _, by omega, rfl, m5, hw4⟩
              clear m5 hm2 hw2 kk Hxp
              go_wp2_with fail
              refine hfin.mono ?_
              clear hfin
              rintro e w5 ⟨rfl, kk⟩
              obtain ⟨k', f', hk', he', hm', hw'⟩ := hx
              have hx : LastAt sz b1 len w1 (.int .i64 (k + 1 : Nat)) w5 := ⟨k', f', hk', he', hm'.wr0 kk, hw'.trans0 kk⟩
              have Hx2 := Lib.hid hx
              clear hx hm' hw' kk he' hk'
              go_wp2_with fail
              go_roundw
              case rel => exact Hx2.out
              case measure => simp [intOf]; omega
            · have hxb : (x == p) = false := by simp [hxp]
              have Hxp := Lib.hid hxp
              clear hxp
              go_wp2_with fail
              refine (mem_store_yes _ _ _ _ hm2 (by omega) (by omega) x z (by omega) (by omega)).mono ?_
              rintro e w4 ⟨rfl, kk, m5⟩
              have hw4 := hw2.trans kk
              have e1' := kk.cellOf e1 (by simp; omega)
              have e2' := kk.cellOf e2 (by simp; omega)
              have e3' := kk.cellOf e3 (by simp; omega)
              have e4' := kk.cellOf e4 (by simp; omega)
              clear e0 e1 e2 e3 e4
              have hfin := mem_load_yes _ _ _ _ m5 (by omega) (by omega) p (by omega) (by omega)
              rw [show upd f (x.toNat - 1) z (p.toNat - 1) = f (p.toNat - 1) from upd_out _ _ _ _ (by have := Hxp.out; omega)] at hfin
              have hx : LastAt sz b1 len w1 (.int .i64 (k + 1 : Nat)) w4 := ⟨k + 1, _, by omega, rfl, m5, hw4⟩
              clear m5 hm2 hw2 kk Hxp
              go_wp2_with fail
              refine hfin.mono ?_
              clear hfin
              rintro e w5 ⟨rfl, kk⟩
              obtain ⟨k', f', hk', he', hm', hw'⟩ := hx
              have hx : LastAt sz b1 len w1 (.int .i64 (k + 1 : Nat)) w5 := ⟨k', f', hk', he', hm'.wr0 kk, hw'.trans0 kk⟩
              have Hx2 := Lib.hid hx
              clear hx hm' hw' kk he' hk'
              go_wp2_with fail
              go_roundw
              case rel => exact Hx2.out
              case measure => simp [intOf]; omega
          · have hokf : hasB x 1 sz = false := by simpa using hok
            clear hok
            go_wp2_with fail
            refine (mem_store_no _ _ _ _ hm2 (by omega) (by omega) x z (by omega) (by omega) hokf).mono ?_
            rintro e w4 ⟨rfl, kk⟩
            have hw4 := hw2.trans0 kk
            have m5 := hm2.wr0 kk
            have e1' := kk.cellOf e1 (by simp)
            have e2' := kk.cellOf e2 (by simp)
            have e3' := kk.cellOf e3 (by simp)
            have e4' := kk.cellOf e4 (by simp)
            clear e0 e1 e2 e3 e4
            have hfin := mem_load_yes _ _ _ _ m5 (by omega) (by omega) p (by omega) (by omega)
            have hx : LastAt sz b1 len w1 (.int .i64 (k + 1 : Nat)) w4 := ⟨k + 1, _, by omega, rfl, m5, hw4⟩
            clear m5 hm2 hw2 kk hokf
            go_wp2_with fail
            refine hfin.mono ?_
            clear hfin
            rintro e w5 ⟨rfl, kk⟩
            obtain ⟨k', f', hk', he', hm', hw'⟩ := hx
            have hx : LastAt sz b1 len w1 (.int .i64 (k + 1 : Nat)) w5 := ⟨k', f', hk', he', hm'.wr0 kk, hw'.trans0 kk⟩
            have Hx2 := Lib.hid hx
            clear hx hm' hw' kk he' hk'
            go_wp2_with fail
            go_roundw
            case rel => exact Hx2.out
            case measure => simp [intOf]; omega
      · as_aux_lemma =>
          by_cases hok : hasB x 1 sz = true
          · obtain ⟨g1, g2, g3⟩ := hasB_yes hok
            by_cases hxp : x = p
            · have hxb : (x == p) = true := by simp [hxp]
              have Hxp := Lib.hid hxp
              clear hxp
              go_wp2_with fail
              refine (mem_store_yes _ _ _ _ hm2 (by omega) (by omega) x z (by omega) (by omega)).mono ?_
              rintro e w4 ⟨rfl, kk, m5⟩
              have hw4 := hw2.trans kk
              have e1' := kk.cellOf e1 (by simp; omega)
              have e2' := kk.cellOf e2 (by simp; omega)
              have e3' := kk.cellOf e3 (by simp; omega)
              have e4' := kk.cellOf e4 (by simp; omega)
              clear e0 e1 e2 e3 e4
              have hfin := mem_load_yes _ _ _ _ m5 (by omega) (by omega) p (by omega) (by omega)
              rw [show upd f (x.toNat - 1) z (p.toNat - 1) = z from by rw [Hxp.out]; exact upd_in _ _ _] at hfin
              have hx : LastAt sz b1 len w1 (.int .i64 (k + 1 : Nat)) w4 := ⟨k + 1, _, by omega, rfl, m5, hw4⟩
              clear m5 hm2 hw2 kk Hxp
              go_wp2_with fail
              refine hfin.mono ?_
              clear hfin
              rintro e w5 ⟨rfl, kk⟩
              obtain ⟨k', f', hk', he', hm', hw'⟩ := hx
              have hx : LastAt sz b1 len w1 (.int .i64 (k + 1 : Nat)) w5 := ⟨k', f', hk', he', hm'.wr0 kk, hw'.trans0 kk⟩
              have Hx2 := Lib.hid hx
              clear hx hm' hw' kk he' hk'
              go_wp2_with fail
              go_roundw
              case rel => exact Hx2.out
              case measure => simp [intOf]; omega
            · have hxb : (x == p) = false := by simp [hxp]
              have Hxp := Lib.hid hxp
              clear hxp
              go_wp2_with fail
              refine (mem_store_yes _ _ _ _ hm2 (by omega) (by omega) x z (by omega) (by omega)).mono ?_
              rintro e w4 ⟨rfl, kk, m5⟩
              have hw4 := hw2.trans kk
              have e1' := kk.cellOf e1 (by simp; omega)
              have e2' := kk.cellOf e2 (by simp; omega)
              have e3' := kk.cellOf e3 (by simp; omega)
              have e4' := kk.cellOf e4 (by simp; omega)
              clear e0 e1 e2 e3 e4
              have hfin := mem_load_yes _ _ _ _ m5 (by omega) (by omega) p (by omega) (by omega)
              rw [show upd f (x.toNat - 1) z (p.toNat - 1) = f (p.toNat - 1) from upd_out _ _ _ _ (by have := Hxp.out; omega)] at hfin
              have hx : LastAt sz b1 len w1 (.int .i64 (k + 1 : Nat)) w4 := ⟨k + 1, _, by omega, rfl, m5, hw4⟩
              clear m5 hm2 hw2 kk Hxp
              go_wp2_with fail
              refine hfin.mono ?_
              clear hfin
              rintro e w5 ⟨rfl, kk⟩
              obtain ⟨k', f', hk', he', hm', hw'⟩ := hx
              have hx : LastAt sz b1 len w1 (.int .i64 (k + 1 : Nat)) w5 := ⟨k', f', hk', he', hm'.wr0 kk, hw'.trans0 kk⟩
              have Hx2 := Lib.hid hx
              clear hx hm' hw' kk he' hk'
              go_wp2_with fail
              go_roundw
              case rel => exact Hx2.out
              case measure => simp [intOf]; omega
          · have hokf : hasB x 1 sz = false := by simpa using hok
            clear hok
            go_wp2_with fail
            refine (mem_store_no _ _ _ _ hm2 (by omega) (by omega) x z (by omega) (by omega) hokf).mono ?_
            rintro e w4 ⟨rfl, kk⟩
            have hw4 := hw2.trans0 kk
            have m5 := hm2.wr0 kk
            have e1' := kk.cellOf e1 (by simp)
            have e2' := kk.cellOf e2 (by simp)
            have e3' := kk.cellOf e3 (by simp)
            have e4' := kk.cellOf e4 (by simp)
            clear e0 e1 e2 e3 e4
            have hfin := mem_load_yes _ _ _ _ m5 (by omega) (by omega) p (by omega) (by omega)
            have hx : LastAt sz b1 len w1 (.int .i64 (k + 1 : Nat)) w4 := ⟨k + 1, _, by omega, rfl, m5, hw4⟩
            clear m5 hm2 hw2 kk hokf
            go_wp2_with fail
            refine hfin.mono ?_
            clear hfin
            rintro e w5 ⟨rfl, kk⟩
            obtain ⟨k', f', hk', he', hm', hw'⟩ := hx
            have hx : LastAt sz b1 len w1 (.int .i64 (k + 1 : Nat)) w5 := ⟨k', f', hk', he', hm'.wr0 kk, hw'.trans0 kk⟩
            have Hx2 := Lib.hid hx
            clear hx hm' hw' kk he' hk'
            go_wp2_with fail
            go_roundw
            case rel => exact Hx2.out
            case measure => simp [intOf]; omega
      · as_aux_lemma =>
          by_cases hin : (1 ≤ y ∧ y ≤ p) ∧ (p - y < q ∧ (1 ≤ x ∧ x ≤ sz))
          · obtain ⟨⟨i1, i2⟩, i3, i4, i5⟩ := hin
            obtain ⟨lb, hlb⟩ : ∃ lb, hasB (p - y + x) 1 sz = lb := ⟨_, rfl⟩
            go_wp2_with fail
            refine (mem_load_any _ _ _ _ hm2 (by omega) (by omega) (p - y + x) (by omega) (by omega) lb hlb).mono ?_
            rintro e w3 ⟨rfl, kk⟩
            have e1' := kk.cellOf e1 (by simp)
            have e2' := kk.cellOf e2 (by simp)
            have e3' := kk.cellOf e3 (by simp)
            have e4' := kk.cellOf e4 (by simp)
            clear e0 e1 e2 e3 e4
            have hm3 := hm2.wr0 kk
            have hw3 := hw2.trans0 kk
            clear kk hm2 hw2
            by_cases hok : moveB y x q sz = true
            · obtain ⟨g0, g1, g2, g3, g4⟩ := moveB_yes hok
              have hlb2 : lb = true := by rw [← hlb]; simp [hasB]; omega
              subst hlb2
              clear hlb
              go_wp2_with fail
              refine (mem_move_any _ _ _ _ hm3 (by omega) (by omega) y x q hy0 hx0 true hok).mono ?_
              rintro e w4 ⟨rfl, kk, m5⟩
              rw [cond_true] at m5
              have hw4 := hw3.trans kk
              have e1 := kk.cellOf e1' (by simp; omega)
              have e2 := kk.cellOf e2' (by simp; omega)
              have e3 := kk.cellOf e3' (by simp; omega)
              have e4 := kk.cellOf e4' (by simp; omega)
              have hfin := mem_load_yes _ _ _ _ m5 (by omega) (by omega) p (by omega) (by omega)
              rw [show upds f (y.toNat - 1) q.toNat (fun j => f (x.toNat - 1 + j)) (p.toNat - 1) = f ((p - y + x).toNat - 1) from (upds_in f (y.toNat - 1) q.toNat (fun j => f (x.toNat - 1 + j)) _ (by omega) (by omega)).trans (congrArg f (by omega))] at hfin
              have hx : LastAt sz b1 len w1 (.int .i64 (k + 1 : Nat)) w4 := ⟨k + 1, _, by omega, rfl, m5, hw4⟩
              clear m5 hm3 hw3 kk hok e1' e2' e3' e4'
              go_wp2_with fail
              refine hfin.mono ?_
              clear hfin
              rintro e w5 ⟨rfl, kk⟩
              obtain ⟨k', f', hk', he', hm', hw'⟩ := hx
              have hx : LastAt sz b1 len w1 (.int .i64 (k + 1 : Nat)) w5 := ⟨k', f', hk', he', hm'.wr0 kk, hw'.trans0 kk⟩
              have Hx2 := Lib.hid hx
              clear hx hm' hw' kk he' hk'
              go_wp2_with fail
              go_roundw
              case rel => exact Hx2.out
              case measure => simp [intOf]; omega
            · have hokf : moveB y x q sz = false := by simpa using hok
              clear hok
              go_wp2_with fail
              refine (mem_move_any _ _ _ _ hm3 (by omega) (by omega) y x q hy0 hx0 false hokf).mono ?_
              rintro e w4 ⟨rfl, kk, m5⟩
              rw [cond_false] at m5
              have hw4 := hw3.trans kk
              have e1 := kk.cellOf e1' (by simp; omega)
              have e2 := kk.cellOf e2' (by simp; omega)
              have e3 := kk.cellOf e3' (by simp; omega)
              have e4 := kk.cellOf e4' (by simp; omega)
              have hfin := mem_load_yes _ _ _ _ m5 (by omega) (by omega) p (by omega) (by omega)
              have hx : LastAt sz b1 len w1 (.int .i64 (k + 1 : Nat)) w4 := ⟨k + 1, _, by omega, rfl, m5, hw4⟩
              clear m5 hm3 hw3 kk hokf e1' e2' e3' e4'
              go_wp2_with fail
              refine hfin.mono ?_
              clear hfin
              rintro e w5 ⟨rfl, kk⟩
              obtain ⟨k', f', hk', he', hm', hw'⟩ := hx
              have hx : LastAt sz b1 len w1 (.int .i64 (k + 1 : Nat)) w5 := ⟨k', f', hk', he', hm'.wr0 kk, hw'.trans0 kk⟩
              have Hx2 := Lib.hid hx
              clear hx hm' hw' kk he' hk'
              go_wp2_with fail
              go_roundw
              case rel => exact Hx2.out
              case measure => simp [intOf]; omega
          · obtain ⟨lb, hok⟩ : ∃ lb, moveB y x q sz = lb := ⟨_, rfl⟩
            have hval : (bif lb then upds f (y.toNat - 1) q.toNat (fun j => f (x.toNat - 1 + j)) else f) (p.toNat - 1) = f (p.toNat - 1) := by
              cases lb with
              | false => rfl
              | true =>
                obtain ⟨g0, g1, g2, g3, g4⟩ := moveB_yes hok
                rw [cond_true]
                exact upds_out f (y.toNat - 1) q.toNat (fun j => f (x.toNat - 1 + j)) _ (by omega)
            have hmv := fun w2 hm2 => mem_move_any w2 b1 sz f hm2 (by omega) (by omega) y x q hy0 hx0 lb hok
            have Hval := Lib.hid hval
            clear hval hok
            have hcase : y < 1 ∨ (1 ≤ y ∧ p < y) ∨ (1 ≤ y ∧ y ≤ p ∧ q ≤ p - y) ∨ (1 ≤ y ∧ y ≤ p ∧ p - y < q ∧ x < 1) ∨ (1 ≤ y ∧ y ≤ p ∧ p - y < q ∧ 1 ≤ x ∧ sz < x) := by omega
            clear hin
            rcases hcase with i1 | ⟨i1, i2⟩ | ⟨i1, i2, i3⟩ | ⟨i1, i2, i3, i4⟩ | ⟨i1, i2, i3, i4, i5⟩
            · go_wp2_with fail
              refine (hmv _ hm2).mono ?_
              clear hmv
              rintro e w4 ⟨rfl, kk, m5⟩
              have hw4 := hw2.trans kk
              have e1' := kk.cellOf e1 (by simp; omega)
              have e2' := kk.cellOf e2 (by simp; omega)
              have e3' := kk.cellOf e3 (by simp; omega)
              have e4' := kk.cellOf e4 (by simp; omega)
              clear e0 e1 e2 e3 e4
              have hfin := mem_load_yes _ _ _ _ m5 (by omega) (by omega) p (by omega) (by omega)
              rw [Hval.out] at hfin
              have hx : LastAt sz b1 len w1 (.int .i64 (k + 1 : Nat)) w4 := ⟨k + 1, _, by omega, rfl, m5, hw4⟩
              clear m5 hm2 hw2 kk Hval
              go_wp2_with fail
              refine hfin.mono ?_
              clear hfin
              rintro e w5 ⟨rfl, kk⟩
              obtain ⟨k', f', hk', he', hm', hw'⟩ := hx
              have hx : LastAt sz b1 len w1 (.int .i64 (k + 1 : Nat)) w5 := ⟨k', f', hk', he', hm'.wr0 kk, hw'.trans0 kk⟩
              have Hx2 := Lib.hid hx
              clear hx hm' hw' kk he' hk'
              go_wp2_with fail
              go_roundw
              case rel => exact Hx2.out
              case measure => simp [intOf]; omega
            · go_wp2_with fail
              refine (hmv _ hm2).mono ?_
              clear hmv
              rintro e w4 ⟨rfl, kk, m5⟩
              have hw4 := hw2.trans kk
              have e1' := kk.cellOf e1 (by simp; omega)
              have e2' := kk.cellOf e2 (by simp; omega)
              have e3' := kk.cellOf e3 (by simp; omega)
              have e4' := kk.cellOf e4 (by simp; omega)
              clear e0 e1 e2 e3 e4
              have hfin := mem_load_yes _ _ _ _ m5 (by omega) (by omega) p (by omega) (by omega)
              rw [Hval.out] at hfin
              have hx : LastAt sz b1 len w1 (.int .i64 (k + 1 : Nat)) w4 := ⟨k + 1, _, by omega, rfl, m5, hw4⟩
              clear m5 hm2 hw2 kk Hval
              go_wp2_with fail
              refine hfin.mono ?_
              clear hfin
              rintro e w5 ⟨rfl, kk⟩
              obtain ⟨k', f', hk', he', hm', hw'⟩ := hx
              have hx : LastAt sz b1 len w1 (.int .i64 (k + 1 : Nat)) w5 := ⟨k', f', hk', he', hm'.wr0 kk, hw'.trans0 kk⟩
              have Hx2 := Lib.hid hx
              clear hx hm' hw' kk he' hk'
              go_wp2_with fail
              go_roundw
              case rel => exact Hx2.out
              case measure => simp [intOf]; omega
            · go_wp2_with fail
              refine (hmv _ hm2).mono ?_
              clear hmv
              rintro e w4 ⟨rfl, kk, m5⟩
              have hw4 := hw2.trans kk
              have e1' := kk.cellOf e1 (by simp; omega)
              have e2' := kk.cellOf e2 (by simp; omega)
              have e3' := kk.cellOf e3 (by simp; omega)
              have e4' := kk.cellOf e4 (by simp; omega)
              clear e0 e1 e2 e3 e4
              have hfin := mem_load_yes _ _ _ _ m5 (by omega) (by omega) p (by omega) (by omega)
              rw [Hval.out] at hfin
              have hx : LastAt sz b1 len w1 (.int .i64 (k + 1 : Nat)) w4 := ⟨k + 1, _, by omega, rfl, m5, hw4⟩
              clear m5 hm2 hw2 kk Hval
              go_wp2_with fail
              refine hfin.mono ?_
              clear hfin
              rintro e w5 ⟨rfl, kk⟩
              obtain ⟨k', f', hk', he', hm', hw'⟩ := hx
              have hx : LastAt sz b1 len w1 (.int .i64 (k + 1 : Nat)) w5 := ⟨k', f', hk', he', hm'.wr0 kk, hw'.trans0 kk⟩
              have Hx2 := Lib.hid hx
              clear hx hm' hw' kk he' hk'
              go_wp2_with fail
              go_roundw
              case rel => exact Hx2.out
              case measure => simp [intOf]; omega
            · go_wp2_with fail
              refine (hmv _ hm2).mono ?_
              clear hmv
              rintro e w4 ⟨rfl, kk, m5⟩
              have hw4 := hw2.trans kk
              have e1' := kk.cellOf e1 (by simp; omega)
              have e2' := kk.cellOf e2 (by simp; omega)
              have e3' := kk.cellOf e3 (by simp; omega)
              have e4' := kk.cellOf e4 (by simp; omega)
              clear e0 e1 e2 e3 e4
              have hfin := mem_load_yes _ _ _ _ m5 (by omega) (by omega) p (by omega) (by omega)
              rw [Hval.out] at hfin
              have hx : LastAt sz b1 len w1 (.int .i64 (k + 1 : Nat)) w4 := ⟨k + 1, _, by omega, rfl, m5, hw4⟩
              clear m5 hm2 hw2 kk Hval
              go_wp2_with fail
              refine hfin.mono ?_
              clear hfin
              rintro e w5 ⟨rfl, kk⟩
              obtain ⟨k', f', hk', he', hm', hw'⟩ := hx
              have hx : LastAt sz b1 len w1 (.int .i64 (k + 1 : Nat)) w5 := ⟨k', f', hk', he', hm'.wr0 kk, hw'.trans0 kk⟩
              have Hx2 := Lib.hid hx
              clear hx hm' hw' kk he' hk'
              go_wp2_with fail
              go_roundw
              case rel => exact Hx2.out
              case measure => simp [intOf]; omega
            · go_wp2_with fail
              refine (hmv _ hm2).mono ?_
              clear hmv
              rintro e w4 ⟨rfl, kk, m5⟩
              have hw4 := hw2.trans kk
              have e1' := kk.cellOf e1 (by simp; omega)
              have e2' := kk.cellOf e2 (by simp; omega)
              have e3' := kk.cellOf e3 (by simp; omega)
              have e4' := kk.cellOf e4 (by simp; omega)
              clear e0 e1 e2 e3 e4
              have hfin := mem_load_yes _ _ _ _ m5 (by omega) (by omega) p (by omega) (by omega)
              rw [Hval.out] at hfin
              have hx : LastAt sz b1 len w1 (.int .i64 (k + 1 : Nat)) w4 := ⟨k + 1, _, by omega, rfl, m5, hw4⟩
              clear m5 hm2 hw2 kk Hval
              go_wp2_with fail
              refine hfin.mono ?_
              clear hfin
              rintro e w5 ⟨rfl, kk⟩
              obtain ⟨k', f', hk', he', hm', hw'⟩ := hx
              have hx : LastAt sz b1 len w1 (.int .i64 (k + 1 : Nat)) w5 := ⟨k', f', hk', he', hm'.wr0 kk, hw'.trans0 kk⟩
              have Hx2 := Lib.hid hx
              clear hx hm' hw' kk he' hk'
              go_wp2_with fail
              go_roundw
              case rel => exact Hx2.out
              case measure => simp [intOf]; omega
      · as_aux_lemma =>
          by_cases hin : (1 ≤ y ∧ y ≤ p) ∧ (p - y < q ∧ (1 ≤ x ∧ x ≤ sz))
          · obtain ⟨⟨i1, i2⟩, i3, i4, i5⟩ := hin
            obtain ⟨lb, hlb⟩ : ∃ lb, hasB (p - y + x) 1 sz = lb := ⟨_, rfl⟩
            go_wp2_with fail
            refine (mem_load_any _ _ _ _ hm2 (by omega) (by omega) (p - y + x) (by omega) (by omega) lb hlb).mono ?_
            rintro e w3 ⟨rfl, kk⟩
            have e1' := kk.cellOf e1 (by simp)
            have e2' := kk.cellOf e2 (by simp)
            have e3' := kk.cellOf e3 (by simp)
            have e4' := kk.cellOf e4 (by simp)
            clear e0 e1 e2 e3 e4
            have hm3 := hm2.wr0 kk
            have hw3 := hw2.trans0 kk
            clear kk hm2 hw2
            by_cases hok : moveB y x q sz = true
            · obtain ⟨g0, g1, g2, g3, g4⟩ := moveB_yes hok
              have hlb2 : lb = true := by rw [← hlb]; simp [hasB]; omega
              subst hlb2
              clear hlb
              go_wp2_with fail
              refine (mem_move_any _ _ _ _ hm3 (by omega) (by omega) y x q hy0 hx0 true hok).mono ?_
              rintro e w4 ⟨rfl, kk, m5⟩
              rw [cond_true] at m5
              have hw4 := hw3.trans kk
              have e1 := kk.cellOf e1' (by simp; omega)
              have e2 := kk.cellOf e2' (by simp; omega)
              have e3 := kk.cellOf e3' (by simp; omega)
              have e4 := kk.cellOf e4' (by simp; omega)
              have hfin := mem_load_yes _ _ _ _ m5 (by omega) (by omega) p (by omega) (by omega)
              rw [show upds f (y.toNat - 1) q.toNat (fun j => f (x.toNat - 1 + j)) (p.toNat - 1) = f ((p - y + x).toNat - 1) from (upds_in f (y.toNat - 1) q.toNat (fun j => f (x.toNat - 1 + j)) _ (by omega) (by omega)).trans (congrArg f (by omega))] at hfin
              have hx : LastAt sz b1 len w1 (.int .i64 (k + 1 : Nat)) w4 := ⟨k + 1, _, by omega, rfl, m5, hw4⟩
              clear m5 hm3 hw3 kk hok e1' e2' e3' e4'
              go_wp2_with fail
              refine hfin.mono ?_
              clear hfin
              rintro e w5 ⟨rfl, kk⟩
              obtain ⟨k', f', hk', he', hm', hw'⟩ := hx
              have hx : LastAt sz b1 len w1 (.int .i64 (k + 1 : Nat)) w5 := ⟨k', f', hk', he', hm'.wr0 kk, hw'.trans0 kk⟩
              have Hx2 := Lib.hid hx
              clear hx hm' hw' kk he' hk'
              go_wp2_with fail
              go_roundw
              case rel => exact Hx2.out
              case measure => simp [intOf]; omega
            · have hokf : moveB y x q sz = false := by simpa using hok
              clear hok
              go_wp2_with fail
              refine (mem_move_any _ _ _ _ hm3 (by omega) (by omega) y x q hy0 hx0 false hokf).mono ?_
              rintro e w4 ⟨rfl, kk, m5⟩
              rw [cond_false] at m5
              have hw4 := hw3.trans kk
              have e1 := kk.cellOf e1' (by simp; omega)
              have e2 := kk.cellOf e2' (by simp; omega)
              have e3 := kk.cellOf e3' (by simp; omega)
              have e4 := kk.cellOf e4' (by simp; omega)
              have hfin := mem_load_yes _ _ _ _ m5 (by omega) (by omega) p (by omega) (by omega)
              have hx : LastAt sz b1 len w1 (.int .i64 (k + 1 : Nat)) w4 := ⟨k + 1, _, by omega, rfl, m5, hw4⟩
              clear m5 hm3 hw3 kk hokf e1' e2' e3' e4'
              go_wp2_with fail
              refine hfin.mono ?_
              clear hfin
              rintro e w5 ⟨rfl, kk⟩
              obtain ⟨k', f', hk', he', hm', hw'⟩ := hx
              have hx : LastAt sz b1 len w1 (.int .i64 (k + 1 : Nat)) w5 := ⟨k', f', hk', he', hm'.wr0 kk, hw'.trans0 kk⟩
              have Hx2 := Lib.hid hx
              clear hx hm' hw' kk he' hk'
              go_wp2_with fail
              go_roundw
              case rel => exact Hx2.out
              case measure => simp [intOf]; omega
          · obtain ⟨lb, hok⟩ : ∃ lb, moveB y x q sz = lb := ⟨_, rfl⟩
            have hval : (bif lb then upds f (y.toNat - 1) q.toNat (fun j => f (x.toNat - 1 + j)) else f) (p.toNat - 1) = f (p.toNat - 1) := by
              cases lb with
              | false => rfl
              | true =>
                obtain ⟨g0, g1, g2, g3, g4⟩ := moveB_yes hok
                rw [cond_true]
                exact upds_out f (y.toNat - 1) q.toNat (fun j => f (x.toNat - 1 + j)) _ (by omega)
            have hmv := fun w2 hm2 => mem_move_any w2 b1 sz f hm2 (by omega) (by omega) y x q hy0 hx0 lb hok
            have Hval := Lib.hid hval
            clear hval hok
            have hcase : y < 1 ∨ (1 ≤ y ∧ p < y) ∨ (1 ≤ y ∧ y ≤ p ∧ q ≤ p - y) ∨ (1 ≤ y ∧ y ≤ p ∧ p - y < q ∧ x < 1) ∨ (1 ≤ y ∧ y ≤ p ∧ p - y < q ∧ 1 ≤ x ∧ sz < x) := by omega
            clear hin
            rcases hcase with i1 | ⟨i1, i2⟩ | ⟨i1, i2, i3⟩ | ⟨i1, i2, i3, i4⟩ | ⟨i1, i2, i3, i4, i5⟩
            · go_wp2_with fail
              refine (hmv _ hm2).mono ?_
              clear hmv
              rintro e w4 ⟨rfl, kk, m5⟩
              have hw4 := hw2.trans kk
              have e1' := kk.cellOf e1 (by simp; omega)
              have e2' := kk.cellOf e2 (by simp; omega)
              have e3' := kk.cellOf e3 (by simp; omega)
              have e4' := kk.cellOf e4 (by simp; omega)
              clear e0 e1 e2 e3 e4
              have hfin := mem_load_yes _ _ _ _ m5 (by omega) (by omega) p (by omega) (by omega)
              rw [Hval.out] at hfin
              have hx : LastAt sz b1 len w1 (.int .i64 (k + 1 : Nat)) w4 := ⟨k + 1, _, by omega, rfl, m5, hw4⟩
              clear m5 hm2 hw2 kk Hval
              go_wp2_with fail
              refine hfin.mono ?_
              clear hfin
              rintro e w5 ⟨rfl, kk⟩
              obtain ⟨k', f', hk', he', hm', hw'⟩ := hx
              have hx : LastAt sz b1 len w1 (.int .i64 (k + 1 : Nat)) w5 := ⟨k', f', hk', he', hm'.wr0 kk, hw'.trans0 kk⟩
              have Hx2 := Lib.hid hx
              clear hx hm' hw' kk he' hk'
              go_wp2_with fail
              go_roundw
              case rel => exact Hx2.out
              case measure => simp [intOf]; omega
            · go_wp2_with fail
              refine (hmv _ hm2).mono ?_
              clear hmv
              rintro e w4 ⟨rfl, kk, m5⟩
              have hw4 := hw2.trans kk
              have e1' := kk.cellOf e1 (by simp; omega)
              have e2' := kk.cellOf e2 (by simp; omega)
              have e3' := kk.cellOf e3 (by simp; omega)
              have e4' := kk.cellOf e4 (by simp; omega)
              clear e0 e1 e2 e3 e4
              have hfin := mem_load_yes _ _ _ _ m5 (by omega) (by omega) p (by omega) (by omega)
              rw [Hval.out] at hfin
              have hx : LastAt sz b1 len w1 (.int .i64 (k + 1 : Nat)) w4 := ⟨k + 1, _, by omega, rfl, m5, hw4⟩
              clear m5 hm2 hw2 kk Hval
              go_wp2_with fail
              refine hfin.mono ?_
              clear hfin
              rintro e w5 ⟨rfl, kk⟩
              obtain ⟨k', f', hk', he', hm', hw'⟩ := hx
              have hx : LastAt sz b1 len w1 (.int .i64 (k + 1 : Nat)) w5 := ⟨k', f', hk', he', hm'.wr0 kk, hw'.trans0 kk⟩
              have Hx2 := Lib.hid hx
              clear hx hm' hw' kk he' hk'
              go_wp2_with fail
              go_roundw
              case rel => exact Hx2.out
              case measure => simp [intOf]; omega
            · go_wp2_with fail
              refine (hmv _ hm2).mono ?_
              clear hmv
              rintro e w4 ⟨rfl, kk, m5⟩
              have hw4 := hw2.trans kk
              have e1' := kk.cellOf e1 (by simp; omega)
              have e2' := kk.cellOf e2 (by simp; omega)
              have e3' := kk.cellOf e3 (by simp; omega)
              have e4' := kk.cellOf e4 (by simp; omega)
              clear e0 e1 e2 e3 e4
              have hfin := mem_load_yes _ _ _ _ m5 (by omega) (by omega) p (by omega) (by omega)
              rw [Hval.out] at hfin
              have hx : LastAt sz b1 len w1 (.int .i64 (k + 1 : Nat)) w4 := ⟨k + 1, _, by omega, rfl, m5, hw4⟩
              clear m5 hm2 hw2 kk Hval
              go_wp2_with fail
              refine hfin.mono ?_
              clear hfin
              rintro e w5 ⟨rfl, kk⟩
              obtain ⟨k', f', hk', he', hm', hw'⟩ := hx
              have hx : LastAt sz b1 len w1 (.int .i64 (k + 1 : Nat)) w5 := ⟨k', f', hk', he', hm'.wr0 kk, hw'.trans0 kk⟩
              have Hx2 := Lib.hid hx
              clear hx hm' hw' kk he' hk'
              go_wp2_with fail
              go_roundw
              case rel => exact Hx2.out
              case measure => simp [intOf]; omega
            · go_wp2_with fail
              refine (hmv _ hm2).mono ?_
              clear hmv
              rintro e w4 ⟨rfl, kk, m5⟩
              have hw4 := hw2.trans kk
              have e1' := kk.cellOf e1 (by simp; omega)
              have e2' := kk.cellOf e2 (by simp; omega)
              have e3' := kk.cellOf e3 (by simp; omega)
              have e4' := kk.cellOf e4 (by simp; omega)
              clear e0 e1 e2 e3 e4
              have hfin := mem_load_yes _ _ _ _ m5 (by omega) (by omega) p (by omega) (by omega)
              rw [Hval.out] at hfin
              have hx : LastAt sz b1 len w1 (.int .i64 (k + 1 : Nat)) w4 := ⟨k + 1, _, by omega, rfl, m5, hw4⟩
              clear m5 hm2 hw2 kk Hval
              go_wp2_with fail
              refine hfin.mono ?_
              clear hfin
              rintro e w5 ⟨rfl, kk⟩
              obtain ⟨k', f', hk', he', hm', hw'⟩ := hx
              have hx : LastAt sz b1 len w1 (.int .i64 (k + 1 : Nat)) w5 := ⟨k', f', hk', he', hm'.wr0 kk, hw'.trans0 kk⟩
              have Hx2 := Lib.hid hx
              clear hx hm' hw' kk he' hk'
              go_wp2_with fail
              go_roundw
              case rel => exact Hx2.out
              case measure => simp [intOf]; omega
            · go_wp2_with fail
              refine (hmv _ hm2).mono ?_
              clear hmv
              rintro e w4 ⟨rfl, kk, m5⟩
              have hw4 := hw2.trans kk
              have e1' := kk.cellOf e1 (by simp; omega)
              have e2' := kk.cellOf e2 (by simp; omega)
              have e3' := kk.cellOf e3 (by simp; omega)
              have e4' := kk.cellOf e4 (by simp; omega)
              clear e0 e1 e2 e3 e4
              have hfin := mem_load_yes _ _ _ _ m5 (by omega) (by omega) p (by omega) (by omega)
              rw [Hval.out] at hfin
              have hx : LastAt sz b1 len w1 (.int .i64 (k + 1 : Nat)) w4 := ⟨k + 1, _, by omega, rfl, m5, hw4⟩
              clear m5 hm2 hw2 kk Hval
              go_wp2_with fail
              refine hfin.mono ?_
              clear hfin
              rintro e w5 ⟨rfl, kk⟩
              obtain ⟨k', f', hk', he', hm', hw'⟩ := hx
              have hx : LastAt sz b1 len w1 (.int .i64 (k + 1 : Nat)) w5 := ⟨k', f', hk', he', hm'.wr0 kk, hw'.trans0 kk⟩
              have Hx2 := Lib.hid hx
              clear hx hm' hw' kk he' hk'
              go_wp2_with fail
              go_roundw
              case rel => exact Hx2.out
              case measure => simp [intOf]; omega
      · as_aux_lemma =>
          by_cases hok : clearB x q sz = true
          · obtain ⟨g0, g1, g2⟩ := clearB_yes hok
            by_cases hin : x ≤ p ∧ p - x < q
            · obtain ⟨i1, i2⟩ := hin
              go_wp2_with fail
              refine (mem_clear_any _ _ _ _ hm2 (by omega) (by omega) x q hx0 true hok).mono ?_
              rintro e w4 ⟨rfl, kk, m5⟩
              rw [cond_true] at m5
              have hw4 := hw2.trans kk
              have e1' := kk.cellOf e1 (by simp; omega)
              have e2' := kk.cellOf e2 (by simp; omega)
              have e3' := kk.cellOf e3 (by simp; omega)
              have e4' := kk.cellOf e4 (by simp; omega)
              clear e0 e1 e2 e3 e4
              have hfin := mem_load_yes _ _ _ _ m5 (by omega) (by omega) p (by omega) (by omega)
              rw [show upds f (x.toNat - 1) q.toNat (fun _ => 0) (p.toNat - 1) = 0 from upds_in f (x.toNat - 1) q.toNat (fun _ => 0) _ (by omega) (by omega)] at hfin
              have hx : LastAt sz b1 len w1 (.int .i64 (k + 1 : Nat)) w4 := ⟨k + 1, _, by omega, rfl, m5, hw4⟩
              clear m5 hm2 hw2 kk hok
              go_wp2_with fail
              refine hfin.mono ?_
              clear hfin
              rintro e w5 ⟨rfl, kk⟩
              obtain ⟨k', f', hk', he', hm', hw'⟩ := hx
              have hx : LastAt sz b1 len w1 (.int .i64 (k + 1 : Nat)) w5 := ⟨k', f', hk', he', hm'.wr0 kk, hw'.trans0 kk⟩
              have Hx2 := Lib.hid hx
              clear hx hm' hw' kk he' hk'
              go_wp2_with fail
              go_roundw
              case rel => exact Hx2.out
              case measure => simp [intOf]; omega
            · by_cases i1 : x ≤ p
              · have i2 : ¬ p - x < q := by omega
                clear hin
                go_wp2_with fail
                refine (mem_clear_any _ _ _ _ hm2 (by omega) (by omega) x q hx0 true hok).mono ?_
                rintro e w4 ⟨rfl, kk, m5⟩
                rw [cond_true] at m5
                have hw4 := hw2.trans kk
                have e1' := kk.cellOf e1 (by simp; omega)
                have e2' := kk.cellOf e2 (by simp; omega)
                have e3' := kk.cellOf e3 (by simp; omega)
                have e4' := kk.cellOf e4 (by simp; omega)
                clear e0 e1 e2 e3 e4
                have hfin := mem_load_yes _ _ _ _ m5 (by omega) (by omega) p (by omega) (by omega)
                rw [show upds f (x.toNat - 1) q.toNat (fun _ => 0) (p.toNat - 1) = f (p.toNat - 1) from upds_out f (x.toNat - 1) q.toNat (fun _ => 0) _ (by omega)] at hfin
                have hx : LastAt sz b1 len w1 (.int .i64 (k + 1 : Nat)) w4 := ⟨k + 1, _, by omega, rfl, m5, hw4⟩
                clear m5 hm2 hw2 kk hok
                go_wp2_with fail
                refine hfin.mono ?_
                clear hfin
                rintro e w5 ⟨rfl, kk⟩
                obtain ⟨k', f', hk', he', hm', hw'⟩ := hx
                have hx : LastAt sz b1 len w1 (.int .i64 (k + 1 : Nat)) w5 := ⟨k', f', hk', he', hm'.wr0 kk, hw'.trans0 kk⟩
                have Hx2 := Lib.hid hx
                clear hx hm' hw' kk he' hk'
                go_wp2_with fail
                go_roundw
                case rel => exact Hx2.out
                case measure => simp [intOf]; omega
              · clear hin
                go_wp2_with fail
                refine (mem_clear_any _ _ _ _ hm2 (by omega) (by omega) x q hx0 true hok).mono ?_
                rintro e w4 ⟨rfl, kk, m5⟩
                rw [cond_true] at m5
                have hw4 := hw2.trans kk
                have e1' := kk.cellOf e1 (by simp; omega)
                have e2' := kk.cellOf e2 (by simp; omega)
                have e3' := kk.cellOf e3 (by simp; omega)
                have e4' := kk.cellOf e4 (by simp; omega)
                clear e0 e1 e2 e3 e4
                have hfin := mem_load_yes _ _ _ _ m5 (by omega) (by omega) p (by omega) (by omega)
                rw [show upds f (x.toNat - 1) q.toNat (fun _ => 0) (p.toNat - 1) = f (p.toNat - 1) from upds_out f (x.toNat - 1) q.toNat (fun _ => 0) _ (by omega)] at hfin
                have hx : LastAt sz b1 len w1 (.int .i64 (k + 1 : Nat)) w4 := ⟨k + 1, _, by omega, rfl, m5, hw4⟩
                clear m5 hm2 hw2 kk hok
                go_wp2_with fail
                refine hfin.mono ?_
                clear hfin
                rintro e w5 ⟨rfl, kk⟩
                obtain ⟨k', f', hk', he', hm', hw'⟩ := hx
                have hx : LastAt sz b1 len w1 (.int .i64 (k + 1 : Nat)) w5 := ⟨k', f', hk', he', hm'.wr0 kk, hw'.trans0 kk⟩
                have Hx2 := Lib.hid hx
                clear hx hm' hw' kk he' hk'
                go_wp2_with fail
                go_roundw
                case rel => exact Hx2.out
                case measure => simp [intOf]; omega
          · have hokf : clearB x q sz = false := by simpa using hok
            clear hok
            go_wp2_with fail
            refine (mem_clear_any _ _ _ _ hm2 (by omega) (by omega) x q hx0 false hokf).mono ?_
            rintro e w4 ⟨rfl, kk, m5⟩
            rw [cond_false] at m5
            have hw4 := hw2.trans kk
            have e1' := kk.cellOf e1 (by simp; omega)
            have e2' := kk.cellOf e2 (by simp; omega)
            have e3' := kk.cellOf e3 (by simp; omega)
            have e4' := kk.cellOf e4 (by simp; omega)
            clear e0 e1 e2 e3 e4
            have hfin := mem_load_yes _ _ _ _ m5 (by omega) (by omega) p (by omega) (by omega)
            have hx : LastAt sz b1 len w1 (.int .i64 (k + 1 : Nat)) w4 := ⟨k + 1, _, by omega, rfl, m5, hw4⟩
            clear m5 hm2 hw2 kk hokf
            go_wp2_with fail
            refine hfin.mono ?_
            clear hfin
            rintro e w5 ⟨rfl, kk⟩
            obtain ⟨k', f', hk', he', hm', hw'⟩ := hx
            have hx : LastAt sz b1 len w1 (.int .i64 (k + 1 : Nat)) w5 := ⟨k', f', hk', he', hm'.wr0 kk, hw'.trans0 kk⟩
            have Hx2 := Lib.hid hx
            clear hx hm' hw' kk he' hk'
            go_wp2_with fail
            go_roundw
            case rel => exact Hx2.out
            case measure => simp [intOf]; omega
      · as_aux_lemma =>
          have m5 := hm2
          have hw4 := hw2
          have hfin := mem_load_yes _ _ _ _ m5 (by omega) (by omega) p (by omega) (by omega)
          have hx : LastAt sz b1 len w1 (.int .i64 (k + 1 : Nat)) w2 := ⟨k + 1, _, by omega, rfl, m5, hw4⟩
          clear m5 hm2 hw2
          go_wp2_with fail
          refine hfin.mono ?_
          clear hfin
          rintro e w5 ⟨rfl, kk⟩
          obtain ⟨k', f', hk', he', hm', hw'⟩ := hx
          have hx : LastAt sz b1 len w1 (.int .i64 (k + 1 : Nat)) w5 := ⟨k', f', hk', he', hm'.wr0 kk, hw'.trans0 kk⟩
          have Hx2 := Lib.hid hx
          clear hx hm' hw' kk he' hk'
          go_wp2_with fail
          go_roundw
          case rel => exact Hx2.out
          case measure => simp [intOf]; omega
      · as_aux_lemma =>
          have m5 := hm2
          have hw4 := hw2
          have hfin := mem_load_yes _ _ _ _ m5 (by omega) (by omega) p (by omega) (by omega)
          have hx : LastAt sz b1 len w1 (.int .i64 (k + 1 : Nat)) w2 := ⟨k + 1, _, by omega, rfl, m5, hw4⟩
          clear m5 hm2 hw2
          go_wp2_with fail
          refine hfin.mono ?_
          clear hfin
          rintro e w5 ⟨rfl, kk⟩
          obtain ⟨k', f', hk', he', hm', hw'⟩ := hx
          have hx : LastAt sz b1 len w1 (.int .i64 (k + 1 : Nat)) w5 := ⟨k', f', hk', he', hm'.wr0 kk, hw'.trans0 kk⟩
          have Hx2 := Lib.hid hx
          clear hx hm' hw' kk he' hk'
          go_wp2_with fail
          go_roundw
          case rel => exact Hx2.out
          case measure => simp [intOf]; omega
    · go_wp2_with fail
      refine (mem_alive _).mono ?_
      rintro e w2 ⟨rfl, k⟩
      go_wp2_with fail
      go_ret
      exact ⟨rfl, (r1.new hw hb1').trans k⟩
end Go.Proofs.Ytofkjcdpnkfcnaa
