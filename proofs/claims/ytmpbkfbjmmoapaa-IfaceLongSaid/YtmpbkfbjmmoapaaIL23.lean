/- iface's walk, reading: items, and the list of them. Conditions: the walk reads. -/
import Derived.Test.YtmpbkfbjmmoapaaIL22
import Derived.Test.YtmpbkfbjmmoapaaIL02
import Derived.Test.YtmpbkfbjmmoapaaIL06
namespace Go.Proofs.Ytmpbkfbjmmoapaa
open Go.RowKit
set_option linter.unusedVariables false
set_option linter.unusedSimpArgs false
set_option maxRecDepth 100000 in
set_option maxHeartbeats 4000000 in
theorem itm_r (b q gx : Nat) (r : Rd) (w : World) (hb : WlkR w b r) (hq : w.cell? ⟨q, 0, none⟩ = some (.pointer (some ⟨b, 0, none⟩))) (hqb : q ≠ b) (hqg : q ≠ gx) (hg : gx ≠ b) (hx : Blk w gx 44 #[.string ⟨#[]⟩, .int .u8 0, .int .i64 0, .nilIface, .int .i64 0]) :
    Calls Try.prog 51 #[.pointer (some ⟨gx, 0, none⟩), .pointer (some ⟨q, 0, none⟩)] w fun e w' => e = .returned (.tuple #[]) ∧ Wr [b, gx] w w' ∧ WlkR w' b (Rd.itm r).2 ∧ Blk w' gx 44 (ItmD.cells (Rd.itm r).1).toArray := by
  unfold Rd.itm ItmD.cells
  obtain ⟨p0, hp0⟩ : ∃ p, Rd.text r = p := ⟨_, rfl⟩
  obtain ⟨v0, r0⟩ := p0
  obtain ⟨p1, hp1⟩ : ∃ p, Rd.one r0 = p := ⟨_, rfl⟩
  obtain ⟨v1, r1⟩ := p1
  obtain ⟨p2, hp2⟩ : ∃ p, Rd.four r1 = p := ⟨_, rfl⟩
  obtain ⟨v2, r2⟩ := p2
  obtain ⟨p3, hp3⟩ : ∃ p, Rd.four r2 = p := ⟨_, rfl⟩
  obtain ⟨v3, r3⟩ := p3
  obtain ⟨p4, hp4⟩ : ∃ p, Rd.any r3 = p := ⟨_, rfl⟩
  obtain ⟨v4, r4⟩ := p4
  simp only [hp0, hp1, hp2, hp3, hp4]
  have h0 := fun W (hb' : WlkR W b r) (hc : Blk W gx 44 #[.string ⟨#[]⟩, .int .u8 0, .int .i64 0, .nilIface, .int .i64 0]) => (text_r b gx 0 r W hb' hg ⟨#[]⟩ (hc.cell 0) (hc.frozen 0))
  rw [hp0] at h0
  have H0 := Lib.hid h0
  have h1 := fun W (hb' : WlkR W b r0) (hc : Blk W gx 44 #[.string v0, .int .u8 0, .int .i64 0, .nilIface, .int .i64 0]) => ((byte_r b gx 1 r0 W hb' hg 0 (hc.cell 1) (hc.frozen 1)).mono fun e w' h => PutL.toB hg h)
  rw [hp1] at h1
  have H1 := Lib.hid h1
  have h2 := fun W (hb' : WlkR W b r1) (hc : Blk W gx 44 #[.string v0, .int .u8 v1, .int .i64 0, .nilIface, .int .i64 0]) => ((place_r b gx 2 r1 W hb' hg 0 (hc.cell 2) (hc.frozen 2)).mono fun e w' h => PutL.toB hg h)
  rw [hp2] at h2
  have H2 := Lib.hid h2
  have h3 := fun W (hb' : WlkR W b r2) (hc : Blk W gx 44 #[.string v0, .int .u8 v1, .int .i64 v2, .nilIface, .int .i64 0]) => ((place_r b gx 4 r2 W hb' hg 0 (hc.cell 4) (hc.frozen 4)).mono fun e w' h => PutL.toB hg h)
  rw [hp3] at h3
  have H3 := Lib.hid h3
  have h4 := fun W (hb' : WlkR W b r3) (hc : Blk W gx 44 #[.string v0, .int .u8 v1, .int .i64 v2, .nilIface, .int .i64 v3]) => (value_r b gx 3 r3 W hb' hg (hc.cell 3) (hc.frozen 3))
  rw [hp4] at h4
  have H4 := Lib.hid h4
  have CH := Lib.hid hq
  have acc : Wr [b, gx] w w := Wr.refl _ _
  clear hq h0 hp0 h1 hp1 h2 hp2 h3 hp3 h4 hp4
  go_enter Try.func51, Try.ntmps51
  go_wp2_with fail
  have ch := acc.cellOf CH.out (by simp [hqb, hqg])
  go_still_tail 4, (by kernel_rfl)
  change wpList _ _ _ _ _ w.drew
  replace acc := acc.drew
  replace hb := Blk.drew hb
  replace hx := Blk.drew hx
  clear ch
  generalize w.drew = wa0 at *
  go_wp2_with fail
  refine (H0.out _ hb hx).mono ?_
  rintro e w1 ⟨rfl, k1, hb1, hx1⟩
  replace acc := acc.trans k1
  replace hx1 := hx1 _ _ hx
  simp only [List.setIfInBounds_toArray, List.set_cons_zero, List.set_cons_succ] at hx1
  clear hb hx k1
  rename WlkR w1 b _ => hb
  rename Blk w1 gx _ _ => hx
  go_wp2_with fail
  have ch := acc.cellOf CH.out (by simp [hqb, hqg])
  go_still_tail 4, (by kernel_rfl)
  change wpList _ _ _ _ _ w1.drew
  replace acc := acc.drew
  replace hb := Blk.drew hb
  replace hx := Blk.drew hx
  clear ch
  generalize w1.drew = wa1 at *
  go_wp2_with fail
  refine (H1.out _ hb hx).mono ?_
  rintro e w2 ⟨rfl, k2, hb2, hx2⟩
  replace acc := acc.trans k2
  replace hx2 := hx2 _ _ hx
  simp only [List.setIfInBounds_toArray, List.set_cons_zero, List.set_cons_succ] at hx2
  clear hb hx k2
  rename WlkR w2 b _ => hb
  rename Blk w2 gx _ _ => hx
  go_wp2_with fail
  have ch := acc.cellOf CH.out (by simp [hqb, hqg])
  go_still_tail 4, (by kernel_rfl)
  change wpList _ _ _ _ _ w2.drew
  replace acc := acc.drew
  replace hb := Blk.drew hb
  replace hx := Blk.drew hx
  clear ch
  generalize w2.drew = wa2 at *
  go_wp2_with fail
  refine (H2.out _ hb hx).mono ?_
  rintro e w3 ⟨rfl, k3, hb3, hx3⟩
  replace acc := acc.trans k3
  replace hx3 := hx3 _ _ hx
  simp only [List.setIfInBounds_toArray, List.set_cons_zero, List.set_cons_succ] at hx3
  clear hb hx k3
  rename WlkR w3 b _ => hb
  rename Blk w3 gx _ _ => hx
  go_wp2_with fail
  have ch := acc.cellOf CH.out (by simp [hqb, hqg])
  go_still_tail 4, (by kernel_rfl)
  change wpList _ _ _ _ _ w3.drew
  replace acc := acc.drew
  replace hb := Blk.drew hb
  replace hx := Blk.drew hx
  clear ch
  generalize w3.drew = wa3 at *
  go_wp2_with fail
  refine (H3.out _ hb hx).mono ?_
  rintro e w4 ⟨rfl, k4, hb4, hx4⟩
  replace acc := acc.trans k4
  replace hx4 := hx4 _ _ hx
  simp only [List.setIfInBounds_toArray, List.set_cons_zero, List.set_cons_succ] at hx4
  clear hb hx k4
  rename WlkR w4 b _ => hb
  rename Blk w4 gx _ _ => hx
  go_wp2_with fail
  have ch := acc.cellOf CH.out (by simp [hqb, hqg])
  go_still_tail 4, (by kernel_rfl)
  change wpList _ _ _ _ _ w4.drew
  replace acc := acc.drew
  replace hb := Blk.drew hb
  replace hx := Blk.drew hx
  clear ch
  generalize w4.drew = wa4 at *
  go_wp2_with fail
  refine (H4.out _ hb hx).mono ?_
  rintro e w5 ⟨rfl, k5, hb5, hx5⟩
  replace acc := acc.trans k5
  replace hx5 := hx5 _ _ hx
  simp only [List.setIfInBounds_toArray, List.set_cons_zero, List.set_cons_succ] at hx5
  clear hb hx k5
  rename WlkR w5 b _ => hb
  rename Blk w5 gx _ _ => hx
  go_wp2_with fail
  refine bodyPost_end (results_none Try.results51 _ _ _) rfl ?_
  exact ⟨rfl, acc, hb, hx⟩
set_option maxRecDepth 100000 in
set_option maxHeartbeats 8000000 in
theorem lr_Export (b q g j : Nat) (t0 : TypeId) (cs0 : Array Value) (A0 : Option Addr) (n0 c0 : Nat) (r : Rd) (w : World) (hb : WlkR w b r) (hg : g ≠ b) (hl : Blk w g t0 cs0) (hj : cs0[j]? = some (.slice A0 n0 c0))
    (hE : ∀ W r' gx, Wr [b, g] w W → WlkR W b r' → w.heap.size ≤ gx → Blk W gx 44 #[.string ⟨#[]⟩, .int .u8 0, .int .i64 0, .nilIface, .int .i64 0] → Calls Try.prog 51 #[.pointer (some ⟨gx, 0, none⟩), .pointer (some ⟨q, 0, none⟩)] W fun e W' => e = .returned (.tuple #[]) ∧ Wr [b, gx] W W' ∧ WlkR W' b (Rd.itm r').2 ∧ Blk W' gx 44 (ItmD.cells (Rd.itm r').1).toArray) :
    Calls Try.prog 50 #[.pointer (some ⟨b, 0, none⟩), .pointer (some ⟨g, j, none⟩), .func (.func 51) #[] #[.pointer (some ⟨q, 0, none⟩)]] w fun e w' => e = .returned (.tuple #[]) ∧ ∃ A c, Wr [b, g] w w' ∧ WlkR w' b (r.lst Rd.itm).2 ∧ Blk w' g t0 (cs0.setIfInBounds j (.slice A (r.lst Rd.itm).1.length c)) ∧ Sl w' (fun bl => w.heap.size ≤ bl) 5 (.slice A (r.lst Rd.itm).1.length c) (r.lst Rd.itm).1.length ((r.lst Rd.itm).1.flatMap ItmD.cells) := by
  have hgl := hl.lt
  have hbl := hb.lt
  obtain ⟨i0, hi0, hz0, hz1, hz2⟩ := info_parts info_exp
  have h := fun m => count_r b r w hb m
  have hlt := num_lt (k := 2) (by omega) r
  unfold Rd.lst
  generalize r.num 2 = rr at *
  obtain ⟨n, r1⟩ := rr
  simp only at hlt h ⊢
  obtain ⟨LL, hLL⟩ : ∃ LL, Rd.list Rd.itm n r1 = LL := ⟨_, rfl⟩
  rw [hLL]
  obtain ⟨L1, L2⟩ := LL
  simp only
  have HLL := Lib.hid hLL
  clear hLL
  have hjl : j < cs0.size := (Array.getElem?_eq_some_iff.1 hj).1
  have lc := (hl.cell j).trans hj
  have H := Lib.hid h
  have HE := Lib.hid hE
  have HL := Lib.hid hl
  clear hb h hE hl
  go_enter Try.func50, Try.ntmps50
  go_wp2_with fail
  refine (H.out _).mono ?_
  rintro e w1 ⟨rfl, rw1, b1⟩
  clear lc
  have hl1 := HL.out.wr rw1 (by simpa using hg)
  have lc := (hl1.cell j).trans hj
  have lz := hl1.frozen j
  have d1 := Blk.cell b1 1
  simp only [List.getElem?_toArray, List.getElem?_cons_zero, List.getElem?_cons_succ] at d1
  obtain ⟨w2, hw2⟩ : ∃ q, w1.setCell ⟨g, j, none⟩ (.slice none 0 0) = q := ⟨_, rfl⟩
  have r2 : Wr [b, g] w w2 := by rw [← hw2]; exact (rw1.more (by simp)).setOn (by simp) _
  have b2 : WlkR w2 b r1 := by rw [← hw2]; exact Blk.far b1 (fun e => hg e.symm) _
  have l2 : Blk w2 g t0 (cs0.setIfInBounds j (.slice none 0 0)) := by rw [← hw2]; exact hl1.set_ j _
  have hat : LrAt Rd.itm ItmD.cells 44 5 w b g j t0 cs0 n r1 n w2 := ⟨[], r1, .slice none 0 0, by simp, by simp, b2, l2, by simpa using World.ownsRow_nil _ _ _ _, r2⟩
  have HAT := Lib.hid hat
  have HW2 := Lib.hid hw2
  clear b1 hl1 r2 b2 l2 hat hw2 rw1
  go_upto_region 3 with (fail)
  rw [HW2.out]
  clear lc lz d1
  go_loopw [6] (fun s6 wr => ∃ m : Nat, s6 = .int .i64 m ∧ LrAt Rd.itm ItmD.cells 44 5 w b g j t0 cs0 n r1 m wr) (fun s6 _ => (intOf s6).toNat)
  case atStart => exact ⟨n, rfl, HAT.out⟩
  case round =>
    obtain ⟨m, rfl, acc, r', v, hlen, hlist, bk, lk, ow, rk⟩ := hrel
    obtain ⟨l, bad⟩ := r'
    have d2 := Blk.cell bk 2
    simp only [List.getElem?_toArray, List.getElem?_cons_zero, List.getElem?_cons_succ] at d2
    by_cases hgo : 0 < m ∧ bad = false
    · obtain ⟨hm0, rfl⟩ := hgo
      obtain ⟨m, rfl⟩ : ∃ m', m = m' + 1 := ⟨m - 1, by omega⟩
      rw [list_good _ _ _ rfl] at hlist
      obtain ⟨Av, cv, hv, hv1', hv2'⟩ := own_form ow
      subst hv
      obtain ⟨k, hk⟩ : ∃ k, acc.length = k := ⟨_, rfl⟩
      rw [hk] at lk ow hlen hv1'
      have hk6 : k < 65536 := by omega
      obtain ⟨wz0, hwz⟩ : ∃ q, wr.alloc (.cells #[.string ⟨#[]⟩, .int .u8 0, .int .i64 0, .nilIface, .int .i64 0] 44) = q := ⟨_, rfl⟩
      obtain ⟨z, hz⟩ : ∃ z, wr.heap.size = z := ⟨_, rfl⟩
      have qz : Wr [] wr wz0 := by rw [← hwz]; exact (Wr.refl _ _).alloc _
      have bz : Blk wz0 z 44 #[.string ⟨#[]⟩, .int .u8 0, .int .i64 0, .nilIface, .int .i64 0] := by rw [← hwz, ← hz]; exact Blk.new _ _ _
      have hgz : g < z := by rw [← hz]; exact lk.lt
      have hbz : b < z := by rw [← hz]; exact Blk.lt bk
      have hwz' : w.heap.size ≤ z := by rw [← hz]; exact rk.size
      have hnv : ∀ q, q ∈ ownL (.slice Av k cv) → w.heap.size ≤ q ∧ q < z := fun q hq => by rw [← hz]; exact ow.lt q (mem_ownL.1 hq)
      have hcall := HE.out wz0 ⟨l, false⟩ z (rk.trans0 qz) (Blk.wr0 bk qz) hwz' bz
      have HCALL := Lib.hid hcall
      have BK := Lib.hid (Blk.wr0 bk qz)
      have LK := Lib.hid (lk.wr0 qz)
      have OW := Lib.hid (own_keep ow qz (fun _ _ => by simp))
      have RK := Lib.hid (rk.trans0 qz)
      have HWZ := Lib.hid hwz
      have HZ := Lib.hid hz
      have HLIST := Lib.hid hlist
      have HNV := Lib.hid hnv
      have HK := Lib.hid hk
      have hm1 : (0 : Int) < ((m + 1 : Nat) : Int) := by omega
      have hm2 : ((m : Int) + 1) - 1 = (m : Int) := by omega
      clear hcall bk lk ow rk qz bz hwz hz hlist hnv hk
      go_upto_region 6 with (fail)
      rw [HWZ.out, HZ.out]
      clear d2
      go_wp2_with fail
      refine HCALL.out.mono ?_
      rintro e wz ⟨rfl, rz, bz, xz⟩
      obtain ⟨x, hx⟩ : ∃ x, (Rd.itm ⟨l, false⟩).1 = x := ⟨_, rfl⟩
      rw [hx] at xz
      have xz' : Blk wz z 44 #[.string x.name, .int .u8 x.kind, .int .i64 x.type, x.v.val, .int .i64 x.at_] := xz
      have hown := own_keep OW.out rz (fun q hq => by have := HNV.out q (mem_ownL.2 hq); simp; omega)
      have lz := LK.out.wr rz (by simp; omega)
      have rkz : Wr [b, g] w wz := RK.out.trans' rz (fun q hq => by
        simp only [List.mem_cons, List.not_mem_nil, or_false] at hq
        rcases hq with e | e
        · subst e
          exact .inl (by simp)
        · rw [e]
          exact .inr hwz')
      have hn1 : g ∉ ownL (.slice Av k cv) := fun hm => by have := (HNV.out _ hm).1; omega
      have hn2 : z ∉ ownL (.slice Av k cv) := fun hm => by have := (HNV.out _ hm).2; omega
      have hnb : b ∉ ownL (.slice Av k cv) := fun hm => by have := (HNV.out _ hm).1; omega
      obtain ⟨W6, hW6⟩ : ∃ q, (wz.alloc (.cells #[.string x.name, .int .u8 x.kind, .int .i64 x.type, x.v.val, .int .i64 x.at_] 44)).drew = q := ⟨_, rfl⟩
      have r6 : Wr [] wz W6 := by rw [← hW6]; exact ((Wr.refl [] wz).alloc _).drew
      have n6 : Blk W6 wz.heap.size 44 #[.string x.name, .int .u8 x.kind, .int .i64 x.type, x.v.val, .int .i64 x.at_] := by rw [← hW6]; exact (Blk.new _ _ _).drew
      have ho1 : ∀ u ∈ ([.string x.name, .int .u8 x.kind, .int .i64 x.type, x.v.val, .int .i64 x.at_] : List Value), u.oneCell' = true := by
        intro u hu
        simp only [List.mem_cons, List.not_mem_nil, or_false] at hu
        rcases hu with rfl | rfl | rfl | rfl | rfl
        · rfl
        · rfl
        · rfl
        · exact x.v.val_one
        · rfl
      obtain ⟨v', W7, hrun, hown7, hgrow, _, hbk⟩ := run_append_own_at (P := Try.prog) W6 w.heap.size 29 29 44 i0 _ 5 56 Try.underlying29 hi0 hz0 hz1 hz2 rfl (by decide) (.slice Av k cv) k _ (own_keep hown r6 (fun _ _ => by simp)) ⟨wz.heap.size, 0, none⟩ 1 1 [.string x.name, .int .u8 x.kind, .int .i64 x.type, x.v.val, .int .i64 x.at_] rfl (fun jj u hu => by
        rw [Addr.add_lit, Nat.zero_add, n6.cell, List.getElem?_toArray]
        exact hu) ho1 (by unfold maxLen; omega) (by omega) (by have h2 := r6.size; have h3 := rkz.size; omega)
      obtain ⟨A7, c7, hv7⟩ : ∃ A c, v' = .slice A (k + 1) c := by
        rcases hown7.2 with ⟨_, h0⟩ | ⟨gg, cap, cur, e, _⟩
        · omega
        · exact ⟨_, _, e⟩
      subst hv7
      have rA : Wr (ownL (.slice Av k cv)) W6 W7 := Wr.ofGrownOwn hgrow
      have b7 := (lz.wr0 r6).wr rA hn1
      have f7 := b7.frozen j
      have c7' : W7.cell? ⟨g, j, none⟩ = some (.slice Av k cv) := (b7.cell j).trans (by simp [hjl])
      have l0 : wz.cell? ⟨g, j, none⟩ = some (.slice Av k cv) := (lz.cell j).trans (by simp [hjl])
      have hfin : LrAt Rd.itm ItmD.cells 44 5 w b g j t0 cs0 n r1 m (W7.setCell ⟨g, j, none⟩ (.slice A7 (k + 1) c7)) := by
        have rS : Wr [g] W7 (W7.setCell ⟨g, j, none⟩ (.slice A7 (k + 1) c7)) := (Wr.refl _ _).setOn (by simp) _
        have hkl : (acc ++ [x]).length = k + 1 := by rw [List.length_append, HK.out]; rfl
        refine ⟨acc ++ [x], (Rd.itm ⟨l, false⟩).2, .slice A7 (k + 1) c7, by rw [hkl]; omega, ?_, ?_, ?_, ?_, ?_⟩
        · rw [HLIST.out, hx, List.append_assoc]
          rfl
        · exact Blk.far ((Blk.wr0 bz r6).wr rA hnb) (fun e => hg e.symm) _
        · have := b7.set_ j (.slice A7 (k + 1) c7)
          rw [Array.setIfInBounds_setIfInBounds] at this
          exact this
        · rw [hkl, List.flatMap_append]
          have e : [x].flatMap ItmD.cells = [.string x.name, .int .u8 x.kind, .int .i64 x.type, x.v.val, .int .i64 x.at_] := by simp; try rfl
          rw [e]
          exact own_keep hown7 rS (fun q hq hm => by have := (hown7.lt q hq).1; simp at hm; omega)
        · exact ((rkz.trans0 r6).trans' rA (fun q hq => .inr (HNV.out q hq).1)).trans (rS.more (by simp))
      have HRUN := Lib.hid hrun
      have HGR := Lib.hid hgrow
      have HFIN := Lib.hid hfin
      have HN1 := Lib.hid hn1
      have HN2 := Lib.hid hn2
      have R6 := Lib.hid r6
      have HW6 := Lib.hid hW6
      have y0 := xz'.cell 0
      have y1 := xz'.cell 1
      have y2 := xz'.cell 2
      have y3 := xz'.cell 3
      have y4 := xz'.cell 4
      simp only [List.getElem?_toArray, List.getElem?_cons_zero, List.getElem?_cons_succ] at y0 y1 y2 y3 y4
      clear hrun hgrow hfin hn1 hn2 r6 hW6 n6 rA b7 lz hown hown7 hbk xz xz' bz rz hnb ho1
      have hv1 := x.v.val_one
      have hvc := val_cells x.v
      generalize x.v.val = V at *
      simp only [Value.cells] at hvc
      have hst := stored_any V hv1
      go_upto_region 7 with (fail)
      have hC : ∀ W, Wr (ownL (.slice Av k cv)) wz W → W.cell? ⟨g, j, none⟩ = some (.slice Av k cv) ∧ W.cell? ⟨z, 0, none⟩ = some (.string x.name) ∧ W.cell? ⟨z, 1, none⟩ = some (.int .u8 x.kind) ∧ W.cell? ⟨z, 2, none⟩ = some (.int .i64 x.type) ∧ W.cell? ⟨z, 3, none⟩ = some (V) ∧ W.cell? ⟨z, 4, none⟩ = some (.int .i64 x.at_) := fun W hW => ⟨hW.cellOf l0 HN1.out, hW.cellOf y0 HN2.out, hW.cellOf y1 HN2.out, hW.cellOf y2 HN2.out, hW.cellOf y3 HN2.out, hW.cellOf y4 HN2.out⟩
      have HC := Lib.hid hC
      clear hC
      refine wp_region_noPanic ?_
      refine wp_region_L (Until 8 fun w' => w'.cell? ⟨g, j, none⟩ = some (.slice Av k cv) ∧ w'.cell? ⟨z, 0, none⟩ = some (.string x.name) ∧ w'.cell? ⟨z, 1, none⟩ = some (.int .u8 x.kind) ∧ w'.cell? ⟨z, 2, none⟩ = some (.int .i64 x.type) ∧ w'.cell? ⟨z, 3, none⟩ = some (V) ∧ w'.cell? ⟨z, 4, none⟩ = some (.int .i64 x.at_)) (by kernel_rfl) (fun hcl => ?_)
      have hS : Until 8 (fun w' => w'.cell? ⟨g, j, none⟩ = some (.slice Av k cv) ∧ w'.cell? ⟨z, 0, none⟩ = some (.string x.name) ∧ w'.cell? ⟨z, 1, none⟩ = some (.int .u8 x.kind) ∧ w'.cell? ⟨z, 2, none⟩ = some (.int .i64 x.type) ∧ w'.cell? ⟨z, 3, none⟩ = some (V) ∧ w'.cell? ⟨z, 4, none⟩ = some (.int .i64 x.at_)) (Array.replicate 9 false) wz.drew := fun _ => ⟨l0, y0, y1, y2, y3, y4⟩
      refine wpAnyL_take (i := 0) (oi := ?oi1) (v := ?v1) ?hi1 (by kernel_rfl) (by kernel_rfl) (by kernel_rfl) (fun _ _ _ h => h) (until_take 8 _ (by decide)) ?hy1 hcl hS ?rest1
      case hi1 =>
        simp only [List.getElem?_toArray, List.getElem?_cons_succ, List.getElem?_cons_zero]
        rfl
      case hy1 =>
        refine yields_until (by kernel_rfl) (Or.inl ⟨by rfl, fun w' hS => ?_⟩)
        try go_split_ands
        go_simp
        try rfl
      case rest1 =>
      intro hcl1 hS1
      clear hcl hS
      try simp only [Act.put, List.setIfInBounds_toArray, List.set_cons_zero, List.set_cons_succ]
      refine wpAnyL_take (i := 1) (oi := ?oi2) (v := ?v2) ?hi2 (by kernel_rfl) (by kernel_rfl) (by kernel_rfl) (fun _ _ _ h => h) (until_take 8 _ (by decide)) ?hy2 hcl1 hS1 ?rest2
      case hi2 =>
        simp only [List.getElem?_toArray, List.getElem?_cons_succ, List.getElem?_cons_zero]
        rfl
      case hy2 =>
        refine yields_until (by kernel_rfl) (Or.inl ⟨by rfl, fun w' hS => ?_⟩)
        try go_split_ands
        go_simp
        try rfl
      case rest2 =>
      intro hcl2 hS2
      clear hcl1 hS1
      try simp only [Act.put, List.setIfInBounds_toArray, List.set_cons_zero, List.set_cons_succ]
      refine wpAnyL_take (i := 2) (oi := ?oi3) (v := ?v3) ?hi3 (by kernel_rfl) (by kernel_rfl) (by kernel_rfl) (fun _ _ _ h => h) (until_take 8 _ (by decide)) ?hy3 hcl2 hS2 ?rest3
      case hi3 =>
        simp only [List.getElem?_toArray, List.getElem?_cons_succ, List.getElem?_cons_zero]
        rfl
      case hy3 =>
        refine yields_until (by kernel_rfl) (Or.inl ⟨by rfl, fun w' hS => ?_⟩)
        try go_split_ands
        go_simp
        try rfl
      case rest3 =>
      intro hcl3 hS3
      clear hcl2 hS2
      try simp only [Act.put, List.setIfInBounds_toArray, List.set_cons_zero, List.set_cons_succ]
      refine wpAnyL_take (i := 3) (oi := ?oi4) (v := ?v4) ?hi4 (by kernel_rfl) (by kernel_rfl) (by kernel_rfl) (fun _ _ _ h => h) (until_take 8 _ (by decide)) ?hy4 hcl3 hS3 ?rest4
      case hi4 =>
        simp only [List.getElem?_toArray, List.getElem?_cons_succ, List.getElem?_cons_zero]
        rfl
      case hy4 =>
        refine yields_until (by kernel_rfl) (Or.inl ⟨by rfl, fun w' hS => ?_⟩)
        try go_split_ands
        go_simp
        try rfl
      case rest4 =>
      intro hcl4 hS4
      clear hcl3 hS3
      try simp only [Act.put, List.setIfInBounds_toArray, List.set_cons_zero, List.set_cons_succ]
      refine wpAnyL_take (i := 4) (oi := ?oi5) (v := ?v5) ?hi5 (by kernel_rfl) (by kernel_rfl) (by kernel_rfl) (fun _ _ _ h => h) (until_take 8 _ (by decide)) ?hy5 hcl4 hS4 ?rest5
      case hi5 =>
        simp only [List.getElem?_toArray, List.getElem?_cons_succ, List.getElem?_cons_zero]
        rfl
      case hy5 =>
        refine yields_until (by kernel_rfl) (Or.inl ⟨by rfl, fun w' hS => ?_⟩)
        try go_split_ands
        go_simp
        try rfl
      case rest5 =>
      intro hcl5 hS5
      clear hcl4 hS4
      try simp only [Act.put, List.setIfInBounds_toArray, List.set_cons_zero, List.set_cons_succ]
      refine wpAnyL_step (i := 5) (o := ?oi6) ?hi6 (by kernel_rfl) hcl5 ?rest6
      case hi6 =>
        simp only [List.getElem?_toArray, List.getElem?_cons_succ, List.getElem?_cons_zero]
        rfl
      case rest6 =>
      intro K hK
      go_simp
      try rw [HW6.out]
      refine hK _ _ (fun _ => HC.out _ (R6.out.nil)) (fun hcl6 => ?_)
      clear hK K hcl5 hS5
      try simp only [Act.put, List.setIfInBounds_toArray, List.set_cons_zero, List.set_cons_succ]
      refine wpAnyL_step (i := 6) (o := ?oi7) ?hi7 (by kernel_rfl) hcl6 ?rest7
      case hi7 =>
        simp only [List.getElem?_toArray, List.getElem?_cons_succ, List.getElem?_cons_zero]
        rfl
      case rest7 =>
      intro K hK
      refine step_append_run (by rfl) _ _ _ (by rfl) _ _ (by rfl) (by rfl) _ _ HRUN.out ?_
      refine hK _ _ (fun _ => HC.out _ (R6.out.nil.trans (Wr.ofGrownOwn HGR.out))) (fun hcl7 => ?_)
      clear hK K hcl6
      try simp only [Act.put, List.setIfInBounds_toArray, List.set_cons_zero, List.set_cons_succ]
      refine wpAnyL_step (i := 7) (o := ?oi8) ?hi8 (by kernel_rfl) hcl7 ?rest8
      case hi8 =>
        simp only [List.getElem?_toArray, List.getElem?_cons_succ, List.getElem?_cons_zero]
        rfl
      case rest8 =>
      intro K hK
      go_simp
      refine hK _ _ (fun _ => HC.out _ (R6.out.nil.trans (Wr.ofGrownOwn HGR.out))) (fun hcl8 => ?_)
      clear hK K hcl7
      try simp only [Act.put, List.setIfInBounds_toArray, List.set_cons_zero, List.set_cons_succ]
      refine wpAnyL_step (i := 8) (o := ?oi9) ?hi9 (by kernel_rfl) hcl8 ?rest9
      case hi9 =>
        simp only [List.getElem?_toArray, List.getElem?_cons_succ, List.getElem?_cons_zero]
        rfl
      case rest9 =>
      intro K hK
      go_simp
      refine hK _ _ (fun hb => absurd hb (by decide)) (fun hcl999 => ?_)
      clear hK K hcl8
      refine wpAnyL_done (by kernel_rfl) (NoPanic.normal ?_) _
      try simp only [Act.put, List.setIfInBounds_toArray, List.set_cons_zero, List.set_cons_succ]
      go_wp2_with fail
      go_roundw
      case rel => exact ⟨m, by first | rfl | (go_num), HFIN.out⟩
      case measure => first | (simp [intOf]; done) | (simp [intOf]; omega)
    · have hend : Rd.list Rd.itm m ⟨l, bad⟩ = ([], ⟨l, bad⟩) := by
        by_cases hb : bad = true
        · exact list_bad _ _ _ hb
        · obtain rfl : m = 0 := by
            have : bad = false := by cases bad <;> simp_all
            have h0 : ¬ 0 < m := fun h => hgo ⟨h, this⟩
            omega
          rfl
      rw [hend] at hlist
      simp only [List.append_nil] at hlist
      have hLL := HLL.out
      rw [hlist] at hLL
      injection hLL with hL1 hL2
      subst hL1 hL2
      obtain ⟨Av, cv, hv, hv1', hv2'⟩ := own_form ow
      subst hv
      have hpost : Sl wr (fun bl => w.heap.size ≤ bl) 5 (.slice Av acc.length cv) acc.length (acc.flatMap ItmD.cells) := Sl.ofOwn ow (fun b hb => (ow.lt b hb).1)
      have HP := Lib.hid (show Wr [b, g] w wr ∧ WlkR wr b ⟨l, bad⟩ ∧ Blk wr g t0 (cs0.setIfInBounds j (.slice Av acc.length cv)) ∧ Sl wr (fun bl => w.heap.size ≤ bl) 5 (.slice Av acc.length cv) acc.length (acc.flatMap ItmD.cells) from ⟨rk, bk, lk, hpost⟩)
      have h0 : m = 0 ∨ (0 < m ∧ bad = true) := by
        rcases Nat.eq_zero_or_pos m with h | h
        · exact .inl h
        · refine .inr ⟨h, ?_⟩
          cases bad with
          | true => rfl
          | false => exact absurd ⟨h, rfl⟩ hgo
      clear rk bk lk hpost ow hgo hlist hend
      rcases h0 with rfl | ⟨hm, rfl⟩
      · go_wp2_with fail
        refine bodyPost_ret (results_none Try.results50 _ _ _) rfl ?_
        exact ⟨rfl, _, _, HP.out⟩
      · have hmi : (0 : Int) < (m : Int) := by omega
        go_wp2_with fail
        refine bodyPost_ret (results_none Try.results50 _ _ _) rfl ?_
        exact ⟨rfl, _, _, HP.out⟩
end Go.Proofs.Ytmpbkfbjmmoapaa

/- Numbered anew twice is as once; however the types stood, numbered anew they stand in one order. No conditions. -/
namespace Go.Proofs.Ytmpbkfbjmmoapaa
set_option linter.unusedVariables false
/-- The numbers of so many types. -/
def nums (nt : Nat) : List Int := (List.range nt).map fun i : Nat => 10 + (i : Int)
theorem nums_iff {nt : Nat} {n : Int} : n ∈ nums nt ↔ 10 ≤ n ∧ n < 10 + (nt : Int) := by
  unfold nums
  rw [List.mem_map]
  constructor
  · rintro ⟨i, hi, rfl⟩
    rw [List.mem_range] at hi
    omega
  · rintro ⟨h1, h2⟩
    exact ⟨(n - 10).toNat, List.mem_range.2 (by omega), by omega⟩
theorem tyB_iff {nt : Nat} {n : Int} : tyB nt n = true ↔ 0 ≤ n ∧ n < 10 + (nt : Int) := by
  unfold tyB
  rw [inB_iff]
  omega
theorem kids_form {nt : Nat} {t : Ty} (h : tyForm nt t = true) : ∀ x ∈ kids t, tyB nt x = true := by
  unfold tyForm at h
  simp only [Bool.and_eq_true, List.all_eq_true] at h
  obtain ⟨⟨⟨⟨⟨⟨⟨a1, a2⟩, a3⟩, a4⟩, a5⟩, a6⟩, a7⟩, a8⟩ := h
  intro x hx
  unfold kids at hx
  simp only [List.mem_cons, List.mem_append, List.mem_map, List.not_mem_nil, or_false] at hx
  rcases hx with rfl | rfl | ⟨f, hf, rfl⟩ | ⟨p, hp, rfl⟩ | rfl
  · exact a1
  · exact a2
  · exact (a6 f hf).1
  · exact a8 p hp
  · exact a3
theorem itm_form {nt : Nat} {x : ItmD} (h : itmForm nt x = true) : ∀ n ∈ itmKids x, tyB nt n = true := by
  unfold itmForm anyForm at h
  unfold itmKids
  cases hv : x.v <;> rw [hv] at h <;> simp only [Bool.and_eq_true] at h <;> intro n hn <;> simp only [List.mem_cons, List.not_mem_nil, or_false] at hn
  all_goals first
    | (rcases hn with rfl | rfl
       · exact h.1.1
       · exact h.2.1)
    | (subst hn; exact h.1.1)
theorem len_sub : ∀ (l m : List Int), l.Nodup → (∀ x ∈ l, x ∈ m) → l.length ≤ m.length
  | [], _, _, _ => Nat.zero_le _
  | x :: l, m, hn, h => by
    rw [List.nodup_cons] at hn
    have hx := h x (by simp)
    have ih := len_sub l (m.erase x) hn.2 (fun y hy => (List.mem_erase_of_ne (fun e => by rw [e] at hy; exact hn.1 hy)).2 (h y (by simp [hy])))
    rw [List.length_erase_of_mem hx] at ih
    have := List.length_pos_of_mem hx
    rw [List.length_cons]
    omega
section
variable {f : FaceD}
theorem face_types (h : mayP f = 0) : ∀ t ∈ f.types, tyForm f.types.length t = true := by
  have := (face_parts h).2.2.2
  unfold faceForm at this
  simp only [Bool.and_eq_true, List.all_eq_true] at this
  exact this.1
theorem face_items (h : mayP f = 0) : ∀ x ∈ f.items, itmForm f.types.length x = true := by
  have := (face_parts h).2.2.2
  unfold faceForm at this
  simp only [Bool.and_eq_true, List.all_eq_true] at this
  exact this.2
theorem fresh_all (nt : Nat) : fresh (nums nt) [] = nt := by
  unfold fresh nums
  rw [List.filter_eq_self.2 (fun x _ => by simp), List.length_map, List.length_range]
structure OrdOk (f : FaceD) (ord : List Int) : Prop where
  inT : ∀ x ∈ ord, x ∈ nums f.types.length
  high : ∀ x ∈ ord, 10 ≤ x
  nodup : ord.Nodup
  start : ∀ x ∈ starts f, 10 ≤ x → x ∈ ord
  kid : ∀ n ∈ ord, ∀ x ∈ kidsAt f.types n, 10 ≤ x → x ∈ ord
theorem idx_some {ord : List Int} {n : Int} (h : n ∈ ord) : ∃ k, ord.idxOf? n = some k ∧ ord[k]? = some n := by
  cases hx : ord.idxOf? n with
  | none => rw [List.idxOf?_eq_none_iff] at hx; exact absurd h hx
  | some k =>
    refine ⟨k, rfl, ?_⟩
    have := List.findIdx?_eq_some_iff_getElem.1 hx
    obtain ⟨hk, he, _⟩ := this
    rw [List.getElem?_eq_getElem hk]
    simpa using he
theorem anewN_out {ord : List Int} {n : Int} (h : n ∉ ord) : anewN ord n = n := by
  unfold anewN
  rw [List.idxOf?_eq_none_iff.2 h]
theorem nodup_idx {ord : List Int} (hn : ord.Nodup) {i j : Nat} {n : Int} (h1 : ord[i]? = some n) (h2 : ord[j]? = some n) : i = j := by
  obtain ⟨hi, e1⟩ := List.getElem?_eq_some_iff.1 h1
  obtain ⟨hj, e2⟩ := List.getElem?_eq_some_iff.1 h2
  exact (List.getElem_inj (h₀ := hi) (h₁ := hj) hn).1 (e1.trans e2.symm)
end
end Go.Proofs.Ytmpbkfbjmmoapaa

/- Maps by whole numbers: what they hold, as a function; an update, a look-up. No conditions. -/
namespace Go.Proofs.Ytmpbkfbjmmoapaa
open Go.RowKit
set_option linter.unusedVariables false
/-- What lies there under a number. -/
def fndI : List MapEntry → Int → Option Value
  | [], _ => none
  | e :: l, k => match e.key with | .int .i64 a => if a = k then some e.val else fndI l k | _ => none
def IntKeys (l : List MapEntry) : Prop := ∀ e ∈ l, ∃ a, e.key = .int .i64 a
theorem findNow_int : ∀ (l : List MapEntry) (k : Int) (i : Nat), IntKeys l → ∃ o, Instr.findNow (.int .i64) (.int .i64 k) l i = some o ∧ o.map (·.2) = fndI l k ∧
    ∀ p, o = some p → ∃ j e, p.1 = i + j ∧ l[j]? = some e ∧ e.key = .int .i64 k ∧ ∀ v k', fndI (l.modify j fun e => { e with key := .int .i64 k, val := v }) k' = if k' = k then some v else fndI l k'
  | [], k, i, _ => ⟨none, rfl, rfl, fun p h => by cases h⟩
  | e :: l, k, i, h => by
    obtain ⟨a, ha⟩ := h e (.head _)
    by_cases hak : a = k
    · subst hak
      refine ⟨some (i, e.val), ?_, ?_, ?_⟩
      · simp [Instr.findNow, Instr.sameNow, ha]
      · simp [fndI, ha]
      · intro p hp
        injection hp with hp
        subst hp
        refine ⟨0, e, by simp, rfl, ha, fun v k' => ?_⟩
        simp only [List.modify_zero_cons, fndI, ha]
        by_cases h1 : k' = a
        · subst h1; simp
        · have h2 : ¬ a = k' := fun e => h1 e.symm
          simp [h1, h2]
    · obtain ⟨o, h1, h2, h3⟩ := findNow_int l k (i + 1) (fun e he => h e (.tail _ he))
      refine ⟨o, ?_, ?_, ?_⟩
      · have : (k == a) = false := by simp; omega
        simp [Instr.findNow, Instr.sameNow, ha, this, h1]
      · simp [fndI, ha, hak, h2]
      · intro p hp
        obtain ⟨j, e', g1, g2, g3, g4⟩ := h3 p hp
        refine ⟨j + 1, e', by omega, g2, g3, fun v k' => ?_⟩
        simp only [List.modify_succ_cons, fndI, ha]
        by_cases h5 : a = k'
        · subst h5
          simp [hak]
        · simp only [h5, if_false]
          exact g4 v k'
theorem fndI_push (l : List MapEntry) (k : Int) (v : Value) (b : Nat) (h : fndI l k = none) (hk : IntKeys l) (k' : Int) : fndI (l ++ [{ key := .int .i64 k, val := v, born := b }]) k' = if k' = k then some v else fndI l k' := by
  induction l with
  | nil =>
    simp only [List.nil_append, fndI]
    by_cases h1 : k' = k
    · subst h1; simp
    · have : ¬ k = k' := fun e => h1 e.symm
      simp [h1, this]
  | cons e l ih =>
    obtain ⟨a, ha⟩ := hk e (.head _)
    simp only [List.cons_append, fndI, ha] at h ⊢
    by_cases h2 : a = k
    · simp [h2] at h
    · rw [if_neg h2] at h
      by_cases h3 : a = k'
      · subst h3
        simp [h2]
      · simp only [h3, if_false]
        exact ih h (fun e he => hk e (.tail _ he))
theorem intKeys_modify (l : List MapEntry) (h : IntKeys l) (j : Nat) (k : Int) (v : Value) : IntKeys (l.modify j fun e => { e with key := .int .i64 k, val := v }) := by
  intro e he
  obtain ⟨i, hi⟩ := List.mem_iff_getElem?.1 he
  rw [List.getElem?_modify] at hi
  cases hx : l[i]? with
  | none => rw [hx] at hi; cases hi
  | some x =>
    rw [hx] at hi
    by_cases hj : j = i
    · subst hj
      simp at hi
      subst hi
      exact ⟨k, rfl⟩
    · simp [hj] at hi
      subst hi
      exact h x (List.mem_of_getElem? hx)
/-- A map by whole numbers, in block r: kn says what it holds. -/
def MapI (w : World) (r : Nat) (kn : Int → Option Value) : Prop := ∃ es c, w.heap[r]? = some (.map es c) ∧ IntKeys es.toList ∧ ∀ k, fndI es.toList k = kn k
theorem MapI.wr {w w' : World} {r : Nat} {kn : Int → Option Value} {l : List Nat} (h : MapI w r kn) (hw : Wr l w w') (hr : r ∉ l) : MapI w' r kn := by
  obtain ⟨es, c, h1, h2, h3⟩ := h
  have hlt : r < w.heap.size := by
    rcases Nat.lt_or_ge r w.heap.size with h | h
    · exact h
    · rw [Array.getElem?_eq_none h] at h1; cases h1
  exact ⟨es, c, (hw.block r hlt hr).trans h1, h2, h3⟩
theorem MapI.lt {w : World} {r : Nat} {kn : Int → Option Value} (h : MapI w r kn) : r < w.heap.size := by
  obtain ⟨es, c, h1, h2, h3⟩ := h
  rcases Nat.lt_or_ge r w.heap.size with h | h
  · exact h
  · rw [Array.getElem?_eq_none h] at h1; cases h1
theorem MapI.new (w : World) : MapI (w.alloc (.map #[] 0)) w.heap.size (fun _ => none) := ⟨#[], 0, heap_alloc_new w _, by simp [IntKeys], fun k => rfl⟩
section
variable {P : Program} {T K E : TypeId} (hu : P.underlying T = some (.map K E)) (hk : P.underlying K = some (.int .i64))
include hu hk
theorem mapI_upd {w : World} {r : Nat} {kn : Int → Option Value} (h : MapI w r kn) (k : Int) (v : Value) :
    ∃ W, (Instr.mapUpdate T (.map (some r)) (.int .i64 k) v).run P w = .ok () W ∧ Wr [r] w W ∧ MapI W r (fun j => if j = k then some v else kn j) := by
  have hr := h.lt
  obtain ⟨es, c, h1, h2, h3⟩ := h
  have hc : ∀ w, (Instr.checkKey false 10000 K (.int .i64 k)).run P w = .ok () w := fun w => MapKept.run_checkKey hk (by simp [MapKept.IsKey]) false 9999
  have hW : ∀ o, Wr [r] w { w with heap := w.heap.setIfInBounds r o } := fun o => ⟨rfl, rfl, rfl, by simp, fun j _ hj => by
    have : r ≠ j := fun e => hj (by simp [e])
    simp [this]⟩
  have hH : ∀ o, (w.heap.setIfInBounds r o)[r]? = some o := fun o => by simp [hr]
  obtain ⟨o, g1, g2, g3⟩ := findNow_int es.toList k 0 h2
  cases o with
  | none =>
    refine ⟨_, ins_at hu hk w r es c (.int .i64 k) v h1 hc g1, hW _, _, _, hH _, ?_, ?_⟩
    · intro e he
      simp only [Array.toList_push, List.mem_append, List.mem_singleton] at he
      rcases he with he | rfl
      · exact h2 e he
      · exact ⟨k, rfl⟩
    · intro k'
      rw [Array.toList_push, fndI_push es.toList k v c g2.symm h2 k', h3]
  | some p =>
    obtain ⟨j, e, q1, q2, q3, q4⟩ := g3 p rfl
    have hj : es[p.1]? = some e := by
      rw [q1, Nat.zero_add, ← Array.getElem?_toList]
      exact q2
    have hrun : (Instr.mapUpdate T (.map (some r)) (.int .i64 k) v).run P w = .ok () { w with heap := w.heap.setIfInBounds r (.map (es.modify p.1 fun e => { e with key := .int .i64 k, val := v }) c) } := by
      obtain ⟨a, b⟩ := p
      simp only at hj
      simp [Instr.mapUpdate, run_underlying hu, Sem.run_bind, hc, Instr.findKey, run_underlying hk, g1, getObj, setObj, Sem.run, h1, Result.andThen, hj, q3]
      have := MapKept.run_keyThatStays (P := P) (w := w) (d := .int .i64) (k := .int .i64 k) (by simp [MapKept.IsKey])
      rw [this]
      simp [h1]
    refine ⟨_, hrun, hW _, _, _, hH _, ?_, ?_⟩
    · rw [Array.toList_modify]
      exact intKeys_modify _ h2 _ _ _
    · intro k'
      rw [Array.toList_modify, q1, Nat.zero_add, q4 v k', h3]
theorem mapI_look {w : World} {r : Nat} {kn : Int → Option Value} (h : MapI w r kn) (k : Int) {z : Value} (hz : ∀ w, (zeroValue E).run P w = .ok z w) :
    (Instr.lookup T (.map (some r)) (.int .i64 k) true).run P w = .ok (.tuple #[(kn k).getD z, .bool (kn k).isSome]) w := by
  obtain ⟨es, c, h1, h2, h3⟩ := h
  obtain ⟨o, g1, g2, _⟩ := findNow_int es.toList k 0 h2
  have hc : ∀ b w, (Instr.checkKey b 10000 K (.int .i64 k)).run P w = .ok () w := fun b w => MapKept.run_checkKey hk (by simp [MapKept.IsKey]) b 9999
  have := look_at hu hk w r es c (.int .i64 k) o z h1 hc g1 hz true
  rw [g2, h3] at this
  have e : o.isSome = (kn k).isSome := by rw [← h3 k, ← g2]; cases o <;> rfl
  rw [e] at this
  exact this
end
end Go.Proofs.Ytmpbkfbjmmoapaa
