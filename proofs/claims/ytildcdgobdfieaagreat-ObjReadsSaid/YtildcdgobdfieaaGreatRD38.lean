/- iface's walk, reading: items, and the list of them. Conditions: the walk reads. -/
import Derived.Test.YtildcdgobdfieaaGreatRD37
import Derived.Test.YtildcdgobdfieaaGreatRD31
set_option linter.unusedVariables false
set_option linter.unusedSimpArgs false
set_option maxRecDepth 100000
set_option maxHeartbeats 32000000
namespace Go.Proofs.YtildcdgobdfieaaGreat
open Go.RowKit
theorem itm_r (b q gx : Nat) (r : Rd) (w : World) (hb : WlkR w b r) (hq : w.cell? ⟨q, 0, none⟩ = some (.pointer (some ⟨b, 0, none⟩))) (hqb : q ≠ b) (hqg : q ≠ gx) (hg : gx ≠ b) (hx : Blk w gx 136 #[.string ⟨#[]⟩, .int .u8 0, .int .i64 0, .nilIface, .int .i64 0]) :
  Calls Tryz.prog 113 #[.pointer (some ⟨gx, 0, none⟩), .pointer (some ⟨q, 0, none⟩)] w fun e w' => e = .returned (.tuple #[]) ∧ Wr [b, gx] w w' ∧ WlkR w' b (Rd.itm r).2 ∧ Blk w' gx 136 (ItmD.cells (Rd.itm r).1).toArray := by
 unfold Rd.itm ItmD.cells
 obtain ⟨p0, hp0⟩ : ∃ p, Rd.text r = p := ⟨_, rfl⟩
 obtain ⟨v0, r0⟩ := p0
 obtain ⟨p1, hp1⟩ : ∃ p, Rd.one r0 = p := ⟨_, rfl⟩
 obtain ⟨v1, r1⟩ := p1
 obtain ⟨p2, hp2⟩ : ∃ p, Rd.four r1 = p := ⟨_, rfl⟩
 obtain ⟨v2, r2⟩ := p2
 obtain ⟨p3, hp3⟩ : ∃ p, Rd.four r2 = p := ⟨_, rfl⟩
 obtain ⟨v3, r3⟩ := p3
 obtain ⟨p4, hp4⟩ : ∃ p, Rd.any r3 = p := ⟨_, rfl⟩
 obtain ⟨v4, r4⟩ := p4
 simp only [hp0, hp1, hp2, hp3, hp4]
 have h0 := fun W (hb' : WlkR W b r) (hc : Blk W gx 136 #[.string ⟨#[]⟩, .int .u8 0, .int .i64 0, .nilIface, .int .i64 0]) => (text_r b gx 0 r W hb' hg ⟨#[]⟩ (hc.cell 0) (hc.frozen 0))
 rw [hp0] at h0
 have H0 := qh h0
 have h1 := fun W (hb' : WlkR W b r0) (hc : Blk W gx 136 #[.string v0, .int .u8 0, .int .i64 0, .nilIface, .int .i64 0]) => ((byte_r b gx 1 r0 W hb' hg 0 (hc.cell 1) (hc.frozen 1)).mono fun e w' h => PutL.toB hg h)
 rw [hp1] at h1
 have H1 := qh h1
 have h2 := fun W (hb' : WlkR W b r1) (hc : Blk W gx 136 #[.string v0, .int .u8 v1, .int .i64 0, .nilIface, .int .i64 0]) => ((place_r b gx 2 r1 W hb' hg 0 (hc.cell 2) (hc.frozen 2)).mono fun e w' h => PutL.toB hg h)
 rw [hp2] at h2
 have H2 := qh h2
 have h3 := fun W (hb' : WlkR W b r2) (hc : Blk W gx 136 #[.string v0, .int .u8 v1, .int .i64 v2, .nilIface, .int .i64 0]) => ((place_r b gx 4 r2 W hb' hg 0 (hc.cell 4) (hc.frozen 4)).mono fun e w' h => PutL.toB hg h)
 rw [hp3] at h3
 have H3 := qh h3
 have h4 := fun W (hb' : WlkR W b r3) (hc : Blk W gx 136 #[.string v0, .int .u8 v1, .int .i64 v2, .nilIface, .int .i64 v3]) => (value_r b gx 3 r3 W hb' hg (hc.cell 3) (hc.frozen 3))
 rw [hp4] at h4
 have H4 := qh h4
 have CH := qh hq
 have acc : Wr [b, gx] w w := Wr.refl _ _
 clear hq h0 hp0 h1 hp1 h2 hp2 h3 hp3 h4 hp4
 go_in
 go_wp2_with fail
 have ch := acc.cellOf CH.out (by simp [hqb, hqg])
 go_still_tail 4, (by kernel_rfl)
 change wpList _ _ _ _ _ w.drew
 replace acc := acc.drew
 replace hb := Blk.drew hb
 replace hx := Blk.drew hx
 clear ch
 generalize w.drew = wa0 at *
 go_wp2_with fail
 refine (H0.out _ hb hx).mono ?_
 rintro e w1 ⟨rfl, k1, hb1, hx1⟩
 replace acc := acc.trans k1
 replace hx1 := hx1 _ _ hx
 simp only [qsaq, qszq, qssq] at hx1
 clear hb hx k1
 rename WlkR w1 b _ => hb
 rename Blk w1 gx _ _ => hx
 go_wp2_with fail
 have ch := acc.cellOf CH.out (by simp [hqb, hqg])
 go_still_tail 4, (by kernel_rfl)
 change wpList _ _ _ _ _ w1.drew
 replace acc := acc.drew
 replace hb := Blk.drew hb
 replace hx := Blk.drew hx
 clear ch
 generalize w1.drew = wa1 at *
 go_wp2_with fail
 refine (H1.out _ hb hx).mono ?_
 rintro e w2 ⟨rfl, k2, hb2, hx2⟩
 replace acc := acc.trans k2
 replace hx2 := hx2 _ _ hx
 simp only [qsaq, qszq, qssq] at hx2
 clear hb hx k2
 rename WlkR w2 b _ => hb
 rename Blk w2 gx _ _ => hx
 go_wp2_with fail
 have ch := acc.cellOf CH.out (by simp [hqb, hqg])
 go_still_tail 4, (by kernel_rfl)
 change wpList _ _ _ _ _ w2.drew
 replace acc := acc.drew
 replace hb := Blk.drew hb
 replace hx := Blk.drew hx
 clear ch
 generalize w2.drew = wa2 at *
 go_wp2_with fail
 refine (H2.out _ hb hx).mono ?_
 rintro e w3 ⟨rfl, k3, hb3, hx3⟩
 replace acc := acc.trans k3
 replace hx3 := hx3 _ _ hx
 simp only [qsaq, qszq, qssq] at hx3
 clear hb hx k3
 rename WlkR w3 b _ => hb
 rename Blk w3 gx _ _ => hx
 go_wp2_with fail
 have ch := acc.cellOf CH.out (by simp [hqb, hqg])
 go_still_tail 4, (by kernel_rfl)
 change wpList _ _ _ _ _ w3.drew
 replace acc := acc.drew
 replace hb := Blk.drew hb
 replace hx := Blk.drew hx
 clear ch
 generalize w3.drew = wa3 at *
 go_wp2_with fail
 refine (H3.out _ hb hx).mono ?_
 rintro e w4 ⟨rfl, k4, hb4, hx4⟩
 replace acc := acc.trans k4
 replace hx4 := hx4 _ _ hx
 simp only [qsaq, qszq, qssq] at hx4
 clear hb hx k4
 rename WlkR w4 b _ => hb
 rename Blk w4 gx _ _ => hx
 go_wp2_with fail
 have ch := acc.cellOf CH.out (by simp [hqb, hqg])
 go_still_tail 4, (by kernel_rfl)
 change wpList _ _ _ _ _ w4.drew
 replace acc := acc.drew
 replace hb := Blk.drew hb
 replace hx := Blk.drew hx
 clear ch
 generalize w4.drew = wa4 at *
 go_wp2_with fail
 refine (H4.out _ hb hx).mono ?_
 rintro e w5 ⟨rfl, k5, hb5, hx5⟩
 replace acc := acc.trans k5
 replace hx5 := hx5 _ _ hx
 simp only [qsaq, qszq, qssq] at hx5
 clear hb hx k5
 rename WlkR w5 b _ => hb
 rename Blk w5 gx _ _ => hx
 go_wp2_with fail
 refine bodyPost_end (results_none Tryz.results113 _ _ _) rfl ?_
 exact ⟨rfl, acc, hb, hx⟩
theorem lr_Export (b q g j : Nat) (t0 : TypeId) (cs0 : Array Value) (A0 : Option Addr) (n0 c0 : Nat) (r : Rd) (w : World) (hb : WlkR w b r) (hg : g ≠ b) (hl : Blk w g t0 cs0) (hj : cs0[j]? = some (.slice A0 n0 c0))
  (hE : ∀ W r' gx, Wr [b, g] w W → WlkR W b r' → w.heap.size ≤ gx → Blk W gx 136 #[.string ⟨#[]⟩, .int .u8 0, .int .i64 0, .nilIface, .int .i64 0] → Calls Tryz.prog 113 #[.pointer (some ⟨gx, 0, none⟩), .pointer (some ⟨q, 0, none⟩)] W fun e W' => e = .returned (.tuple #[]) ∧ Wr [b, gx] W W' ∧ WlkR W' b (Rd.itm r').2 ∧ Blk W' gx 136 (ItmD.cells (Rd.itm r').1).toArray) :
  Calls Tryz.prog 112 #[.pointer (some ⟨b, 0, none⟩), .pointer (some ⟨g, j, none⟩), .func (.func 113) #[] #[.pointer (some ⟨q, 0, none⟩)]] w fun e w' => e = .returned (.tuple #[]) ∧ ∃ A c, Wr [b, g] w w' ∧ WlkR w' b (r.lst Rd.itm).2 ∧ Blk w' g t0 (cs0.setIfInBounds j (.slice A (r.lst Rd.itm).1.length c)) ∧ Sl w' (fun bl => w.heap.size ≤ bl) 5 (.slice A (r.lst Rd.itm).1.length c) (r.lst Rd.itm).1.length ((r.lst Rd.itm).1.flatMap ItmD.cells) := by
 have hgl := hl.lt
 have hbl := hb.lt
 obtain ⟨i0, hi0, hz0, hz1, hz2⟩ := info_parts info_exp
 have h := fun m => count_r b r w hb m
 have hlt := num_lt (k := 2) (by omega) r
 unfold Rd.lst
 generalize r.num 2 = rr at *
 obtain ⟨n, r1⟩ := rr
 simp only at hlt h ⊢
 obtain ⟨LL, hLL⟩ : ∃ LL, Rd.list Rd.itm n r1 = LL := ⟨_, rfl⟩
 rw [hLL]
 obtain ⟨L1, L2⟩ := LL
 simp only
 have HLL := qh hLL
 clear hLL
 have hjl : j < cs0.size := (Array.getElem?_eq_some_iff.1 hj).1
 have lc := (hl.cell j).trans hj
 have H := qh h
 have HE := qh hE
 have HL := qh hl
 clear hb h hE hl
 go_in
 go_wp2_with fail
 refine (H.out _).mono ?_
 rintro e w1 ⟨rfl, rw1, b1⟩
 clear lc
 have hl1 := HL.out.wr rw1 (by simpa using hg)
 have lc := (hl1.cell j).trans hj
 have lz := hl1.frozen j
 have d1 := b1.cell 1
 simp only [qgaq, qgzq, qgsq] at d1
 obtain ⟨w2, hw2⟩ : ∃ q, w1.setCell ⟨g, j, none⟩ (.slice none 0 0) = q := ⟨_, rfl⟩
 have r2 : Wr [b, g] w w2 := by rw [← hw2]; exact (rw1.more (by simp)).setOn (by simp) _
 have b2 : WlkR w2 b r1 := by rw [← hw2]; exact Blk.far b1 (fun e => hg e.symm) _
 have l2 : Blk w2 g t0 (cs0.setIfInBounds j (.slice none 0 0)) := by rw [← hw2]; exact hl1.set_ j _
 have hat : LrAt Rd.itm ItmD.cells 136 5 w b g j t0 cs0 n r1 n w2 := ⟨[], r1, .slice none 0 0, by simp, by simp, b2, l2, by simpa using World.ownsRow_nil _ _ _ _, r2⟩
 have HAT := qh hat
 have HW2 := qh hw2
 clear b1 hl1 r2 b2 l2 hat hw2 rw1
 go_upto_region 3 with (fail)
 rw [HW2.out]
 clear lc lz d1
 go_loopw [6] (fun s6 wr => ∃ m : Nat, s6 = .int .i64 m ∧ LrAt Rd.itm ItmD.cells 136 5 w b g j t0 cs0 n r1 m wr) (fun s6 _ => (intOf s6).toNat)
 case atStart => exact ⟨n, rfl, HAT.out⟩
 case round =>
  obtain ⟨m, rfl, acc, r', v, hlen, hlist, bk, lk, ow, rk⟩ := hrel
  obtain ⟨l, bad⟩ := r'
  have d2 := bk.cell 2
  simp only [qgaq, qgzq, qgsq] at d2
  by_cases hgo : 0 < m ∧ bad = false
  ·obtain ⟨hm0, rfl⟩ := hgo
   obtain ⟨m, rfl⟩ : ∃ m', m = m' + 1 := ⟨m - 1, by omega⟩
   rw [list_good _ _ _ rfl] at hlist
   obtain ⟨Av, cv, hv, hv1', hv2'⟩ := own_form ow
   subst hv
   obtain ⟨k, hk⟩ : ∃ k, acc.length = k := ⟨_, rfl⟩
   rw [hk] at lk ow hlen hv1'
   have hk6 : k < 65536 := by omega
   obtain ⟨wz0, hwz⟩ : ∃ q, wr.alloc (.cells #[.string ⟨#[]⟩, .int .u8 0, .int .i64 0, .nilIface, .int .i64 0] 136) = q := ⟨_, rfl⟩
   obtain ⟨z, hz⟩ : ∃ z, wr.heap.size = z := ⟨_, rfl⟩
   have qz : Wr [] wr wz0 := by rw [← hwz]; exact (Wr.refl _ _).alloc _
   have bz : Blk wz0 z 136 #[.string ⟨#[]⟩, .int .u8 0, .int .i64 0, .nilIface, .int .i64 0] := by rw [← hwz, ← hz]; exact Blk.new _ _ _
   have hgz : g < z := by rw [← hz]; exact lk.lt
   have hbz : b < z := by rw [← hz]; exact Blk.lt bk
   have hwz' : w.heap.size ≤ z := by rw [← hz]; exact rk.size
   have hnv : ∀ q, q ∈ ownL (.slice Av k cv) → w.heap.size ≤ q ∧ q < z := fun q hq => by rw [← hz]; exact ow.lt q (mem_ownL.1 hq)
   have hcall := HE.out wz0 ⟨l, false⟩ z (rk.trans0 qz) (Blk.wr0 bk qz) hwz' bz
   have HCALL := qh hcall
   have BK := qh (Blk.wr0 bk qz)
   have LK := qh (lk.wr0 qz)
   have OW := qh (own_keep ow qz (fun _ _ => by simp))
   have RK := qh (rk.trans0 qz)
   have HWZ := qh hwz
   have HZ := qh hz
   have HLIST := qh hlist
   have HNV := qh hnv
   have HK := qh hk
   have hm1 : (0 : Int) < ((m + 1 : Nat) : Int) := by omega
   have hm2 : ((m : Int) + 1) - 1 = (m : Int) := by omega
   clear hcall bk lk ow rk qz bz hwz hz hlist hnv hk
   go_upto_region 6 with (fail)
   rw [HWZ.out, HZ.out]
   clear d2
   go_wp2_with fail
   refine HCALL.out.mono ?_
   rintro e wz ⟨rfl, rz, bz, xz⟩
   obtain ⟨x, hx⟩ : ∃ x, (Rd.itm ⟨l, false⟩).1 = x := ⟨_, rfl⟩
   rw [hx] at xz
   have xz' : Blk wz z 136 #[.string x.name, .int .u8 x.kind, .int .i64 x.type, x.v.val, .int .i64 x.at_] := xz
   have hown := own_keep OW.out rz (fun q hq => by have := HNV.out q (mem_ownL.2 hq); simp; omega)
   have lz := LK.out.wr rz (by simp; omega)
   have rkz : Wr [b, g] w wz := RK.out.trans' rz (fun q hq => by
    simp only [qmcq, qnnq, or_false] at hq
    rcases hq with e | e
    ·subst e
     exact .inl (by simp)
    ·rw [e]
     exact .inr hwz')
   have hn1 : g ∉ ownL (.slice Av k cv) := fun hm => by have := (HNV.out _ hm).1; omega
   have hn2 : z ∉ ownL (.slice Av k cv) := fun hm => by have := (HNV.out _ hm).2; omega
   have hnb : b ∉ ownL (.slice Av k cv) := fun hm => by have := (HNV.out _ hm).1; omega
   obtain ⟨W6, hW6⟩ : ∃ q, (wz.alloc (.cells #[.string x.name, .int .u8 x.kind, .int .i64 x.type, x.v.val, .int .i64 x.at_] 136)).drew = q := ⟨_, rfl⟩
   have r6 : Wr [] wz W6 := by rw [← hW6]; exact ((Wr.refl [] wz).alloc _).drew
   have n6 : Blk W6 wz.heap.size 136 #[.string x.name, .int .u8 x.kind, .int .i64 x.type, x.v.val, .int .i64 x.at_] := by rw [← hW6]; exact (Blk.new _ _ _).drew
   have ho1 : ∀ u ∈ ([.string x.name, .int .u8 x.kind, .int .i64 x.type, x.v.val, .int .i64 x.at_] : List Value), u.oneCell' = true := by
    intro u hu
    simp only [qmcq, qnnq, or_false] at hu
    rcases hu with rfl | rfl | rfl | rfl | rfl
    ·rfl
    ·rfl
    ·rfl
    ·exact x.v.val_one
    ·rfl
   obtain ⟨v', W7, hrun, hown7, hgrow, _, hbk⟩ := run_append_own_at (P := Tryz.prog) W6 w.heap.size 53 53 136 i0 _ 5 56 Tryz.underlying53 hi0 hz0 hz1 hz2 rfl (by decide) (.slice Av k cv) k _ (own_keep hown r6 (fun _ _ => by simp)) ⟨wz.heap.size, 0, none⟩ 1 1 [.string x.name, .int .u8 x.kind, .int .i64 x.type, x.v.val, .int .i64 x.at_] rfl (fun jj u hu => by
    rw [Addr.add_lit, Nat.zero_add, n6.cell, qgaq]
    exact hu) ho1 (by unfold maxLen; omega) (by omega) (by have h2 := r6.size; have h3 := rkz.size; omega)
   obtain ⟨A7, c7, hv7⟩ : ∃ A c, v' = .slice A (k + 1) c := by
    rcases hown7.2 with ⟨_, h0⟩ | ⟨gg, cap, cur, e, _⟩
    ·omega
    ·exact ⟨_, _, e⟩
   subst hv7
   have rA : Wr (ownL (.slice Av k cv)) W6 W7 := Wr.ofGrownOwn hgrow
   have b7 := (lz.wr0 r6).wr rA hn1
   have f7 := b7.frozen j
   have c7' : W7.cell? ⟨g, j, none⟩ = some (.slice Av k cv) := (b7.cell j).trans (by simp [hjl])
   have l0 : wz.cell? ⟨g, j, none⟩ = some (.slice Av k cv) := (lz.cell j).trans (by simp [hjl])
   have hfin : LrAt Rd.itm ItmD.cells 136 5 w b g j t0 cs0 n r1 m (W7.setCell ⟨g, j, none⟩ (.slice A7 (k + 1) c7)) := by
    have rS : Wr [g] W7 (W7.setCell ⟨g, j, none⟩ (.slice A7 (k + 1) c7)) := (Wr.refl _ _).setOn (by simp) _
    have hkl : (acc ++ [x]).length = k + 1 := by rw [qlaq, HK.out]; rfl
    refine ⟨acc ++ [x], (Rd.itm ⟨l, false⟩).2, .slice A7 (k + 1) c7, by rw [hkl]; omega, ?_, ?_, ?_, ?_, ?_⟩
    ·rw [HLIST.out, hx, qapq]
     rfl
    ·exact Blk.far ((Blk.wr0 bz r6).wr rA hnb) (fun e => hg e.symm) _
    ·have := b7.set_ j (.slice A7 (k + 1) c7)
     rw [Array.setIfInBounds_setIfInBounds] at this
     exact this
    ·rw [hkl, qfaq]
     have e : [x].flatMap ItmD.cells = [.string x.name, .int .u8 x.kind, .int .i64 x.type, x.v.val, .int .i64 x.at_] := by simp; try rfl
     rw [e]
     exact own_keep hown7 rS (fun q hq hm => by have := (hown7.lt q hq).1; simp at hm; omega)
    ·exact ((rkz.trans0 r6).trans' rA (fun q hq => .inr (HNV.out q hq).1)).trans (rS.more (by simp))
   have HRUN := qh hrun
   have HGR := qh hgrow
   have HFIN := qh hfin
   have HN1 := qh hn1
   have HN2 := qh hn2
   have R6 := qh r6
   have HW6 := qh hW6
   obtain ⟨y0, y1, y2, y3, y4⟩ := c5q xz'
   clear hrun hgrow hfin hn1 hn2 r6 hW6 n6 rA b7 lz hown hown7 hbk xz xz' bz rz hnb ho1
   have hv1 := x.v.val_one
   have hvc := val_cells x.v
   generalize x.v.val = V at *
   simp only [Value.cells] at hvc
   have hst := stored_any V hv1
   go_upto_region 7 with (fail)
   refine begin1 8 (ownL (.slice Av k cv)) (fun w' => w'.cell? ⟨g, j, none⟩ = some (.slice Av k cv) ∧ w'.cell? ⟨z, 0, none⟩ = some (.string x.name) ∧ w'.cell? ⟨z, 1, none⟩ = some (.int .u8 x.kind) ∧ w'.cell? ⟨z, 2, none⟩ = some (.int .i64 x.type) ∧ w'.cell? ⟨z, 3, none⟩ = some (V) ∧ w'.cell? ⟨z, 4, none⟩ = some (.int .i64 x.at_)) (by kernel_rfl) (fun W hW => ⟨hW.cellOf l0 HN1.out, hW.cellOf y0 HN2.out, hW.cellOf y1 HN2.out, hW.cellOf y2 HN2.out, hW.cellOf y3 HN2.out, hW.cellOf y4 HN2.out⟩) fun HC hcl hS => ?_
   refine mvu 0 (by rfl) (by kernel_rfl) (by rfl) (fun w' hS => by (try go_split_ands); go_simp; try rfl) hcl hS fun hcl1 hS1 => ?_
   clear hcl hS
   try simp only [Act.put, qsaq, qszq, qssq]
   refine mvu 1 (by rfl) (by kernel_rfl) (by rfl) (fun w' hS => by (try go_split_ands); go_simp; try rfl) hcl1 hS1 fun hcl2 hS2 => ?_
   clear hcl1 hS1
   try simp only [Act.put, qsaq, qszq, qssq]
   refine mvu 2 (by rfl) (by kernel_rfl) (by rfl) (fun w' hS => by (try go_split_ands); go_simp; try rfl) hcl2 hS2 fun hcl3 hS3 => ?_
   clear hcl2 hS2
   try simp only [Act.put, qsaq, qszq, qssq]
   refine mvu 3 (by rfl) (by kernel_rfl) (by rfl) (fun w' hS => by (try go_split_ands); go_simp; try rfl) hcl3 hS3 fun hcl4 hS4 => ?_
   clear hcl3 hS3
   try simp only [Act.put, qsaq, qszq, qssq]
   refine mvu 4 (by rfl) (by kernel_rfl) (by rfl) (fun w' hS => by (try go_split_ands); go_simp; try rfl) hcl4 hS4 fun hcl5 hS5 => ?_
   clear hcl4 hS4
   try simp only [Act.put, qsaq, qszq, qssq]
   refine st0 5 (by rfl) (by kernel_rfl) hcl5 fun K hK => ?_
   go_simp
   try rw [HW6.out]
   refine hK _ _ (fun _ => HC.out _ (R6.out.nil)) (fun hcl6 => ?_)
   clear hK K hcl5 hS5
   try simp only [Act.put, qsaq, qszq, qssq]
   refine st0 6 (by rfl) (by kernel_rfl) hcl6 fun K hK => ?_
   refine step_append_run (by rfl) _ _ _ (by rfl) _ _ (by rfl) (by rfl) _ _ HRUN.out ?_
   refine hK _ _ (fun _ => HC.out _ (R6.out.nil.trans (Wr.ofGrownOwn HGR.out))) (fun hcl7 => ?_)
   clear hK K hcl6
   try simp only [Act.put, qsaq, qszq, qssq]
   refine st0 7 (by rfl) (by kernel_rfl) hcl7 fun K hK => ?_
   go_simp
   refine hK _ _ (fun _ => HC.out _ (R6.out.nil.trans (Wr.ofGrownOwn HGR.out))) (fun hcl8 => ?_)
   clear hK K hcl7
   try simp only [Act.put, qsaq, qszq, qssq]
   refine st0 8 (by rfl) (by kernel_rfl) hcl8 fun K hK => ?_
   go_simp
   refine hK _ _ (fun hb => absurd hb (by decide)) (fun hcl999 => ?_)
   clear hK K hcl8
   refine wpAnyL_done (by kernel_rfl) (NoPanic.normal ?_) _
   try simp only [Act.put, qsaq, qszq, qssq]
   go_wp2_with fail
   go_roundw
   case rel => exact ⟨m, by first | rfl | (go_num), HFIN.out⟩
   case measure => first | (simp [intOf]; done) | (simp [intOf]; omega)
  ·have hend : Rd.list Rd.itm m ⟨l, bad⟩ = ([], ⟨l, bad⟩) := by
    by_cases hb : bad = true
    ·exact list_bad _ _ _ hb
    ·obtain rfl : m = 0 := by
      have : bad = false := by cases bad <;> simp_all
      have h0 : ¬ 0 < m := fun h => hgo ⟨h, this⟩
      omega
     rfl
   rw [hend] at hlist
   simp only [List.append_nil] at hlist
   have hLL := HLL.out
   rw [hlist] at hLL
   injection hLL with hL1 hL2
   subst hL1 hL2
   obtain ⟨Av, cv, hv, hv1', hv2'⟩ := own_form ow
   subst hv
   have hpost : Sl wr (fun bl => w.heap.size ≤ bl) 5 (.slice Av acc.length cv) acc.length (acc.flatMap ItmD.cells) := Sl.ofOwn ow (fun b hb => (ow.lt b hb).1)
   have HP := qh (show Wr [b, g] w wr ∧ WlkR wr b ⟨l, bad⟩ ∧ Blk wr g t0 (cs0.setIfInBounds j (.slice Av acc.length cv)) ∧ Sl wr (fun bl => w.heap.size ≤ bl) 5 (.slice Av acc.length cv) acc.length (acc.flatMap ItmD.cells) from ⟨rk, bk, lk, hpost⟩)
   have h0 : m = 0 ∨ (0 < m ∧ bad = true) := by
    rcases Nat.eq_zero_or_pos m with h | h
    ·exact .inl h
    ·refine .inr ⟨h, ?_⟩
     cases bad with
     | true => rfl
     | false => exact absurd ⟨h, rfl⟩ hgo
   clear rk bk lk hpost ow hgo hlist hend
   rcases h0 with rfl | ⟨hm, rfl⟩
   ·go_wp2_with fail
    refine bodyPost_ret (results_none Tryz.results112 _ _ _) rfl ?_
    exact ⟨rfl, _, _, HP.out⟩
   ·have hmi : (0 : Int) < (m : Int) := by omega
    go_wp2_with fail
    refine bodyPost_ret (results_none Tryz.results112 _ _ _) rfl ?_
    exact ⟨rfl, _, _, HP.out⟩
theorem iface_r (b g : Nat) (r : Rd) (w : World) (hb : WlkR w b r) (hg : g ≠ b) (hx : Blk w g 55 #[.string ⟨#[]⟩, .slice none 0 0, .slice none 0 0, .slice none 0 0]) :
  Calls Tryz.prog 89 #[.pointer (some ⟨b, 0, none⟩), .pointer (some ⟨g, 0, none⟩)] w fun e w' => e = .returned (.tuple #[]) ∧ Wr [b, g] w w' ∧ WlkR w' b (Rd.face r).2 ∧ ∃ A1 c1 A2 c2 A3 c3, Blk w' g 55 #[.string (Rd.face r).1.module, .slice A1 (Rd.face r).1.uses.length c1, .slice A2 (Rd.face r).1.types.length c2, .slice A3 (Rd.face r).1.items.length c3] ∧
   FaceL w' (fun bl => w.heap.size ≤ bl) (.slice A1 (Rd.face r).1.uses.length c1) (.slice A2 (Rd.face r).1.types.length c2) (.slice A3 (Rd.face r).1.items.length c3) (Rd.face r).1 := by
 have hmf : ∀ (fn : Fn) (first cap : Array Value) (w : World), (Instr.makeFunc fn first cap).run Tryz.prog w = .ok (.func fn first cap) w := fun _ _ _ _ => rfl
 have hbl := Blk.lt hb
 have hgl := hx.lt
 unfold Rd.face
 obtain ⟨p0, hp0⟩ : ∃ p, Rd.text r = p := ⟨_, rfl⟩
 obtain ⟨v0, r0⟩ := p0
 obtain ⟨p1, hp1⟩ : ∃ p, r0.lst Rd.use = p := ⟨_, rfl⟩
 obtain ⟨v1, r1⟩ := p1
 obtain ⟨p2, hp2⟩ : ∃ p, r1.lst Rd.ty = p := ⟨_, rfl⟩
 obtain ⟨v2, r2⟩ := p2
 obtain ⟨p3, hp3⟩ : ∃ p, r2.lst Rd.itm = p := ⟨_, rfl⟩
 obtain ⟨v3, r3⟩ := p3
 simp only [hp0, hp1, hp2, hp3]
 obtain ⟨w0, hw0⟩ : ∃ w0, w.alloc (.cells #[.pointer (some ⟨b, 0, none⟩)] 158) = w0 := ⟨_, rfl⟩
 obtain ⟨q, hqe⟩ : ∃ q, w.heap.size = q := ⟨_, rfl⟩
 have hq0 : w0.cell? ⟨q, 0, none⟩ = some (.pointer (some ⟨b, 0, none⟩)) := by
  rw [← hw0, ← hqe]
  exact (Blk.new w 158 #[.pointer (some ⟨b, 0, none⟩)]).cell 0
 have hql : q < w0.heap.size := by
  rw [← hw0, ← hqe]
  exact (Blk.new w 158 #[.pointer (some ⟨b, 0, none⟩)]).lt
 have hqb : q ≠ b := by omega
 have hqg : q ≠ g := by omega
 have ra : Wr [] w w0 := by rw [← hw0]; exact (Wr.refl _ _).alloc _
 have hs0 := ra.size
 replace hb : WlkR w0 b r := Blk.wr0 hb ra
 replace hx := hx.wr0 ra
 have h0 := fun W (hb' : WlkR W b r) (acc' : Wr [b, g] w0 W) (hc : Blk W g 55 #[.string ⟨#[]⟩, .slice none 0 0, .slice none 0 0, .slice none 0 0]) => (text_r b g 0 r W hb' hg ⟨#[]⟩ (hc.cell 0) (hc.frozen 0))
 rw [hp0] at h0
 have H0 := qh h0
 have h1 := fun W (hb' : WlkR W b r0) (acc' : Wr [b, g] w0 W) (hc : Blk W g 55 #[(.string v0), .slice none 0 0, .slice none 0 0, .slice none 0 0]) => (lr_Use b q g 1 55 _ none 0 0 r0 W hb' hg hc rfl (fun W' r' gx rW hb'' hgx hx => use_r b q gx r' W' hb'' ((acc'.trans rW).cellOf hq0 (by simp [hqb, hqg])) hqb (by have := acc'.size; omega) (by have := Blk.lt hb'; omega) hx))
 rw [hp1] at h1
 have H1 := qh h1
 have h2 := fun (A1 : Option Addr) (c1 : Nat) W (hb' : WlkR W b r1) (acc' : Wr [b, g] w0 W) (hc : Blk W g 55 #[(.string v0), (.slice A1 v1.length c1), .slice none 0 0, .slice none 0 0]) => (lr_Type b 0 g 2 55 _ none 0 0 r1 W hb' hg hc rfl (fun W' r' gx hb'' hgx hx => typ_r b gx r' W' hb'' hgx hx))
 rw [hp2] at h2
 have H2 := qh h2
 have h3 := fun (A1 : Option Addr) (c1 : Nat) (A2 : Option Addr) (c2 : Nat) W (hb' : WlkR W b r2) (acc' : Wr [b, g] w0 W) (hc : Blk W g 55 #[(.string v0), (.slice A1 v1.length c1), (.slice A2 v2.length c2), .slice none 0 0]) => (lr_Export b q g 3 55 _ none 0 0 r2 W hb' hg hc rfl (fun W' r' gx rW hb'' hgx hx => itm_r b q gx r' W' hb'' ((acc'.trans rW).cellOf hq0 (by simp [hqb, hqg])) hqb (by have := acc'.size; omega) (by have := Blk.lt hb'; omega) hx))
 rw [hp3] at h3
 have H3 := qh h3
 have RA := qh ra
 have CH := qh hq0
 have HW0 := qh hw0
 have HQ := qh hqe
 have acc : Wr [b, g] w0 w0 := Wr.refl _ _
 clear ra hq0 hw0 hqe h0 hp0 h1 hp1 h2 hp2 h3 hp3
 go_in
 go_upto_region 1 with (fail)
 rw [HW0.out, HQ.out]
 have ch := acc.cellOf CH.out (by simp [hqb, hqg])
 go_still_tail 4, (by kernel_rfl)
 change wpList _ _ _ _ _ w0.drew
 replace acc := acc.drew
 replace hb := Blk.drew hb
 replace hx := Blk.drew hx
 clear ch
 generalize w0.drew = wa0 at *
 go_wp2_with fail
 refine (H0.out _ hb acc hx).mono ?_
 rintro e w1 ⟨rfl, k1, hb1, hx1⟩
 replace hx1 := hx1 _ _ hx
 replace acc := acc.trans k1
 simp only [qsaq, qszq, qssq] at hx1
 clear hb hx k1
 rename WlkR w1 b _ => hb
 rename Blk w1 g _ _ => hx
 go_wp2_with fail
 have ch := acc.cellOf CH.out (by simp [hqb, hqg])
 go_still_tail 5, (by kernel_rfl)
 change wpList _ _ _ _ _ w1.drew
 replace acc := acc.drew
 replace hb := Blk.drew hb
 replace hx := Blk.drew hx
 clear ch
 generalize w1.drew = wa1 at *
 go_wp2_with fail
 refine (H1.out _ hb acc hx).mono ?_
 rintro e w2 ⟨rfl, A1, c1, k2, hb2, hx2, sn1⟩
 have sl1 : SlUsesF w2 (fun bl => w.heap.size ≤ bl) (.slice A1 v1.length c1) v1 := (Sl.mono sn1 (fun bl hb => by have := acc.size; omega))
 clear sn1
 replace acc := acc.trans k2
 simp only [qsaq, qszq, qssq] at hx2
 clear hb hx k2
 rename WlkR w2 b _ => hb
 rename Blk w2 g _ _ => hx
 go_wp2_with fail
 have ch := acc.cellOf CH.out (by simp [hqb, hqg])
 go_still_tail 6, (by kernel_rfl)
 change wpList _ _ _ _ _ w2.drew
 replace acc := acc.drew
 replace hb := Blk.drew hb
 replace hx := Blk.drew hx
 replace sl1 := Sl.wr0 sl1 (Wr.refl _ _).drew
 clear ch
 generalize w2.drew = wa2 at *
 go_wp2_with fail
 refine (H2.out _ _ _ hb acc hx).mono ?_
 rintro e w3 ⟨rfl, A2, c2, k3, hb3, hx3, sn2⟩
 replace sl1 := Sl.keep sl1 k3 (fun bl hb hm => by simp only [qmcq, qnnq, or_false] at hm; omega)
 have sl2 : SlTys w3 (fun bl => w.heap.size ≤ bl) (.slice A2 v2.length c2) v2 := (SlTys.into (SlRel.tys sn2) (fun bl hb _ => by have := acc.size; omega))
 clear sn2
 replace acc := acc.trans k3
 simp only [qsaq, qszq, qssq] at hx3
 clear hb hx k3
 rename WlkR w3 b _ => hb
 rename Blk w3 g _ _ => hx
 go_wp2_with fail
 have ch := acc.cellOf CH.out (by simp [hqb, hqg])
 go_still_tail 5, (by kernel_rfl)
 change wpList _ _ _ _ _ w3.drew
 replace acc := acc.drew
 replace hb := Blk.drew hb
 replace hx := Blk.drew hx
 replace sl1 := Sl.wr0 sl1 (Wr.refl _ _).drew
 replace sl2 := SlTys.wr0 sl2 (Wr.refl _ _).drew
 clear ch
 generalize w3.drew = wa3 at *
 go_wp2_with fail
 refine (H3.out _ _ _ _ _ hb acc hx).mono ?_
 rintro e w4 ⟨rfl, A3, c3, k4, hb4, hx4, sn3⟩
 replace sl1 := Sl.keep sl1 k4 (fun bl hb hm => by simp only [qmcq, qnnq, or_false] at hm; omega)
 replace sl2 := SlTys.keep sl2 k4 (fun bl hb hm => by simp only [qmcq, qnnq, or_false] at hm; omega)
 have sl3 : SlItms w4 (fun bl => w.heap.size ≤ bl) (.slice A3 v3.length c3) v3 := (Sl.mono sn3 (fun bl hb => by have := acc.size; omega))
 clear sn3
 replace acc := acc.trans k4
 simp only [qsaq, qszq, qssq] at hx4
 clear hb hx k4
 rename WlkR w4 b _ => hb
 rename Blk w4 g _ _ => hx
 go_wp2_with fail
 refine bodyPost_end (results_none Tryz.results89 _ _ _) rfl ?_
 exact ⟨rfl, RA.out.nil.trans acc, hb, _, _, _, _, _, _, hx, ⟨sl1, sl2, sl3⟩⟩
def DecodeR (s : ByteArray) (w : World) (e : Ending) (w' : World) : Prop :=
 ∃ vu vt vi, e = .returned (.tuple #[(decFaceP s.data.toList).1.val vu vt vi, .int .i64 (decFaceP s.data.toList).2]) ∧ Wr [] w w' ∧ FaceL w' (fun bl => w.heap.size ≤ bl) vu vt vi (decFaceP s.data.toList).1
theorem decode_any (s : ByteArray) (w : World) : Calls Tryz.prog 66 #[.string s] w (DecodeR s w) := by
 obtain ⟨w0, hw0⟩ : ∃ w0, ((w.alloc (.cells #[.string ⟨#[]⟩, .slice none 0 0, .slice none 0 0, .slice none 0 0] 55)).alloc (.cells #[.string s, .bool true, .bool false] 160)).alloc (.cells #[.string ⟨#[]⟩, .slice none 0 0, .slice none 0 0, .slice none 0 0] 55) = w0 := ⟨_, rfl⟩
 obtain ⟨g, hg⟩ : ∃ g, w.heap.size = g := ⟨_, rfl⟩
 have acc : Wr [] w w0 := by rw [← hw0]; exact (((Wr.refl _ _).alloc _).alloc _).alloc _
 have bR : Blk w0 g 55 #[.string ⟨#[]⟩, .slice none 0 0, .slice none 0 0, .slice none 0 0] := by rw [← hw0, ← hg]; exact ((Blk.new _ _ _).alloc _).alloc _
 have bW : WlkR w0 (g + 1) ⟨s.data.toList, false⟩ := by
  have hb := (Blk.new (w.alloc (.cells #[.string ⟨#[]⟩, .slice none 0 0, .slice none 0 0, .slice none 0 0] 55)) 160 #[.string s, .bool true, .bool false]).alloc (.cells #[.string ⟨#[]⟩, .slice none 0 0, .slice none 0 0, .slice none 0 0] 55)
  rw [show (w.alloc (.cells #[.string ⟨#[]⟩, .slice none 0 0, .slice none 0 0, .slice none 0 0] 55)).heap.size = g + 1 by simp [hg], hw0] at hb
  show Blk w0 (g + 1) _ #[.string ⟨s.data.toList.toArray⟩, .bool true, .bool false]
  rw [Array.toArray_toList]
  exact hb
 have bI : Blk w0 (g + 2) 55 #[.string ⟨#[]⟩, .slice none 0 0, .slice none 0 0, .slice none 0 0] := by
  have hb := Blk.new ((w.alloc (.cells #[.string ⟨#[]⟩, .slice none 0 0, .slice none 0 0, .slice none 0 0] 55)).alloc (.cells #[.string s, .bool true, .bool false] 160)) 55 #[.string ⟨#[]⟩, .slice none 0 0, .slice none 0 0, .slice none 0 0]
  rw [show ((w.alloc (.cells #[.string ⟨#[]⟩, .slice none 0 0, .slice none 0 0, .slice none 0 0] 55)).alloc (.cells #[.string s, .bool true, .bool false] 160)).heap.size = g + 2 by simp [hg], hw0] at hb
  exact hb
 have hcall := iface_r (g + 1) (g + 2) _ w0 bW (by omega) bI
 unfold DecodeR
 obtain ⟨F, hF⟩ : ∃ F, Rd.face ⟨s.data.toList, false⟩ = F := ⟨_, rfl⟩
 obtain ⟨f, l, bad⟩ := F
 have hdec : decFaceP s.data.toList = if bad || !l.isEmpty || !decide (mayP f = 0) then (noFace, 7) else (f, 0) := by unfold decFaceP; rw [hF]
 rw [hF] at hcall
 obtain ⟨D, hD⟩ : ∃ D, decFaceP s.data.toList = D := ⟨_, rfl⟩
 rw [hD] at hdec ⊢
 have hgw : g < w0.heap.size := bR.lt
 have HW0 := qh hw0
 have HG := qh hg
 have HC := qh hcall
 have HDEC := qh hdec
 have BR0 := qh bR
 have ACC0 := qh acc
 clear hw0 hg hcall hdec bR acc hF hD bW bI
 go_in
 go_upto_region 3 with (fail)
 rw [HW0.out, HG.out]
 go_wp2_with fail
 refine HC.out.mono ?_
 rintro e w3 ⟨rfl, k3, b3, A1, c1, A2, c2, A3, c3, x3, fl⟩
 have bW3 := b3
 have d0 := b3.cell 0
 have d2 := b3.cell 2
 obtain ⟨i0, i1, i2, i3⟩ := c4q x3
 simp only [qgaq, qgzq, qgsq] at d0 d2
 have BR := qh (BR0.out.wr k3 (by simp))
 have ACC := qh (ACC0.out.trans' k3 (fun q hq => .inr (by have := HG.out; simp only [qmcq, qnnq, or_false] at hq; omega)))
 have hmay := may_any f _ _ _ _ w3 fl
 obtain ⟨s0, s1, s2, s3⟩ := c4q BR.out
 obtain ⟨dz0, dz1, dz2, dz3⟩ := z4q BR.out
 have HM := qh hmay
 have FL := qh fl
 have X3 := qh x3
 clear k3 b3 x3 fl hmay bW3
 cases bad with
 | true =>
  have hres : D = (noFace, 7) := by rw [HDEC.out]; rfl
  have HRES := qh hres
  clear hres
  have r4 := wr4 w3 g (.string ⟨#[]⟩) (.slice none 0 0) (.slice none 0 0) (.slice none 0 0)
  have b4 := blk4 w3 g 55 _ _ _ _ (.string ⟨#[]⟩) (.slice none 0 0) (.slice none 0 0) (.slice none 0 0) BR.out
  have R4 := qh (ACC.out.new r4 (by have := HG.out; omega))
  have B4 := qh b4
  clear r4 b4
  go_wp2_with fail
  refine bodyPost_ret (v := .tuple #[noFace.val (.slice none 0 0) (.slice none 0 0) (.slice none 0 0), .int .i64 7]) ?_ rfl ⟨_, _, _, by rw [HRES.out], R4.out, by rw [HRES.out]; exact noFace_l _ _⟩
  obtain ⟨t0, t1, t2, t3⟩ := c4q B4.out
  simp [results, Tryz.results66, go_sem, t0, t1, t2, t3, FaceD.val, noFace]
 | false =>
  obtain ⟨S, hS⟩ : ∃ S : ByteArray, ⟨l.toArray⟩ = S := ⟨_, rfl⟩
  rw [hS] at d0
  by_cases hl : l = []
  ·subst hl
   obtain rfl : S = ⟨#[]⟩ := hS.symm
   go_wp2_with fail
   refine HM.out.mono ?_
   rintro e w4 ⟨rfl, r4⟩
   have BR4 := qh (BR.out.wr0 r4)
   have ACC4 := qh (ACC.out.trans r4)
   have X4 := qh (X3.out.wr0 r4)
   have FL4 := qh (FL.out.wr0 r4)
   clear d0 d2 s0 s1 s2 s3 dz0 dz1 dz2 dz3 i0 i1 i2 i3 r4
   obtain ⟨s0, s1, s2, s3⟩ := c4q BR4.out
   obtain ⟨i0, i1, i2, i3⟩ := c4q X4.out
   obtain ⟨dz0, dz1, dz2, dz3⟩ := z4q BR4.out
   obtain ⟨m, hm⟩ : ∃ m, mayP f = m := ⟨_, rfl⟩
   rw [hm] at HDEC ⊢
   by_cases hz : m = 0
   ·subst hz
    have hres : D = (f, 0) := by rw [HDEC.out]; rfl
    have HRES := qh hres
    clear hres
    have r5 := wr4 w4 g (.string f.module) (.slice A1 f.uses.length c1) (.slice A2 f.types.length c2) (.slice A3 f.items.length c3)
    have b5 := blk4 w4 g 55 _ _ _ _ (.string f.module) (.slice A1 f.uses.length c1) (.slice A2 f.types.length c2) (.slice A3 f.items.length c3) BR4.out
    have R5 := qh (ACC4.out.new r5 (by have := HG.out; omega))
    have fl5 := (FL4.out.keep r5 (fun b hb hm => by rw [qmsq] at hm; omega)).into (Q := fun b => w.heap.size ≤ b) (fun b hb _ => by have := ACC0.out.size; omega)
    have FL5 := qh fl5
    have B5 := qh b5
    clear r5 b5 fl5
    go_wp2_with fail
    refine bodyPost_ret (v := .tuple #[f.val (.slice A1 f.uses.length c1) (.slice A2 f.types.length c2) (.slice A3 f.items.length c3), .int .i64 0]) ?_ rfl ⟨_, _, _, by rw [HRES.out], R5.out, by rw [HRES.out]; exact FL5.out⟩
    obtain ⟨t0, t1, t2, t3⟩ := c4q B5.out
    simp [results, Tryz.results66, go_sem, t0, t1, t2, t3, FaceD.val]
   ·have hres : D = (noFace, 7) := by
     rw [HDEC.out, show decide (m = 0) = false from qdfq hz]
     rfl
    have HRES := qh hres
    have hz2 : (m == 0) = false := by simpa using hz
    clear hres
    have r4 := wr4 w4 g (.string ⟨#[]⟩) (.slice none 0 0) (.slice none 0 0) (.slice none 0 0)
    have b4 := blk4 w4 g 55 _ _ _ _ (.string ⟨#[]⟩) (.slice none 0 0) (.slice none 0 0) (.slice none 0 0) BR4.out
    have R4 := qh (ACC4.out.new r4 (by have := HG.out; omega))
    have B4 := qh b4
    clear r4 b4
    go_wp2_with fail
    refine bodyPost_ret (v := .tuple #[noFace.val (.slice none 0 0) (.slice none 0 0) (.slice none 0 0), .int .i64 7]) ?_ rfl ⟨_, _, _, by rw [HRES.out], R4.out, by rw [HRES.out]; exact noFace_l _ _⟩
    obtain ⟨t0, t1, t2, t3⟩ := c4q B4.out
    simp [results, Tryz.results66, go_sem, t0, t1, t2, t3, FaceD.val, noFace]
  ·have hS1 : ¬ S = ⟨#[]⟩ := fun e => hl (by rw [← hS] at e; simpa using congrArg ByteArray.data e)
   have hS2 : S.toList.isEmpty = false := bytes_some S (by
    rw [← hS]
    show 0 < l.toArray.size
    have := List.length_pos_iff.2 hl
    simpa using this)
   have hres : D = (noFace, 7) := by
    rw [HDEC.out]
    cases l with
    | nil => exact absurd rfl hl
    | cons x l => rfl
   have HRES := qh hres
   clear hres
   have r4 := wr4 w3 g (.string ⟨#[]⟩) (.slice none 0 0) (.slice none 0 0) (.slice none 0 0)
   have b4 := blk4 w3 g 55 _ _ _ _ (.string ⟨#[]⟩) (.slice none 0 0) (.slice none 0 0) (.slice none 0 0) BR.out
   have R4 := qh (ACC.out.new r4 (by have := HG.out; omega))
   have B4 := qh b4
   clear r4 b4
   go_wp2_with fail
   refine bodyPost_ret (v := .tuple #[noFace.val (.slice none 0 0) (.slice none 0 0) (.slice none 0 0), .int .i64 7]) ?_ rfl ⟨_, _, _, by rw [HRES.out], R4.out, by rw [HRES.out]; exact noFace_l _ _⟩
   obtain ⟨t0, t1, t2, t3⟩ := c4q B4.out
   simp [results, Tryz.results66, go_sem, t0, t1, t2, t3, FaceD.val, noFace]
end Go.Proofs.YtildcdgobdfieaaGreat
