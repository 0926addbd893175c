/- iface's list, reading: walked, where the things are plain. Conditions: each is read as its reader says. -/
import Derived.Test.YtildcdgobdfieaaGreatRD12
set_option linter.unusedVariables false
set_option linter.unusedSimpArgs false
set_option maxRecDepth 100000
set_option maxHeartbeats 32000000
namespace Go.Proofs.YtildcdgobdfieaaGreat
open Go.RowKit
def LrAt {α : Type} (one : Rd → α × Rd) (cells : α → List Value) (T : TypeId) (size : Nat) (w : World) (b g j : Nat) (t0 : TypeId) (cs0 : Array Value) (n : Nat) (r0 : Rd) (m : Nat) (wr : World) : Prop :=
 ∃ (acc : List α) (r' : Rd) (v : Value), acc.length + m = n ∧ Rd.list one n r0 = (acc ++ (Rd.list one m r').1, (Rd.list one m r').2) ∧ WlkR wr b r' ∧ Blk wr g t0 (cs0.setIfInBounds j v) ∧ wr.ownsRow w.heap.size T size v acc.length (acc.flatMap cells) ∧ Wr [b, g] w wr
theorem list_bad {α : Type} (one : Rd → α × Rd) (m : Nat) (r : Rd) (h : r.bad = true) : Rd.list one m r = ([], r) := by
 cases m with
 | zero => rfl
 | succ m => simp [Rd.list, h]
theorem list_good {α : Type} (one : Rd → α × Rd) (m : Nat) (r : Rd) (h : r.bad = false) : Rd.list one (m + 1) r = ((one r).1 :: (Rd.list one m (one r).2).1, (Rd.list one m (one r).2).2) := by
 rw [Rd.list]
 simp [h]
theorem lr_Use (b q g j : Nat) (t0 : TypeId) (cs0 : Array Value) (A0 : Option Addr) (n0 c0 : Nat) (r : Rd) (w : World) (hb : WlkR w b r) (hg : g ≠ b) (hl : Blk w g t0 cs0) (hj : cs0[j]? = some (.slice A0 n0 c0))
  (hE : ∀ W r' gx, Wr [b, g] w W → WlkR W b r' → w.heap.size ≤ gx → Blk W gx 72 #[.string ⟨#[]⟩, .int .u64 0] → Calls Tryz.prog 108 #[.pointer (some ⟨gx, 0, none⟩), .pointer (some ⟨q, 0, none⟩)] W fun e W' => e = .returned (.tuple #[]) ∧ Wr [b, gx] W W' ∧ WlkR W' b (Rd.use r').2 ∧ Blk W' gx 72 (UseD.cellsF (Rd.use r').1).toArray) :
  Calls Tryz.prog 107 #[.pointer (some ⟨b, 0, none⟩), .pointer (some ⟨g, j, none⟩), .func (.func 108) #[] #[.pointer (some ⟨q, 0, none⟩)]] w fun e w' => e = .returned (.tuple #[]) ∧ ∃ A c, Wr [b, g] w w' ∧ WlkR w' b (r.lst Rd.use).2 ∧ Blk w' g t0 (cs0.setIfInBounds j (.slice A (r.lst Rd.use).1.length c)) ∧ Sl w' (fun bl => w.heap.size ≤ bl) 2 (.slice A (r.lst Rd.use).1.length c) (r.lst Rd.use).1.length ((r.lst Rd.use).1.flatMap UseD.cellsF) := by
 have hgl := hl.lt
 have hbl := hb.lt
 obtain ⟨i0, hi0, hz0, hz1, hz2⟩ := info_parts info_use
 have h := fun m => count_r b r w hb m
 have hlt := num_lt (k := 2) (by omega) r
 unfold Rd.lst
 generalize r.num 2 = rr at *
 obtain ⟨n, r1⟩ := rr
 simp only at hlt h ⊢
 obtain ⟨LL, hLL⟩ : ∃ LL, Rd.list Rd.use n r1 = LL := ⟨_, rfl⟩
 rw [hLL]
 obtain ⟨L1, L2⟩ := LL
 simp only
 have HLL := qh hLL
 clear hLL
 have hjl : j < cs0.size := (Array.getElem?_eq_some_iff.1 hj).1
 have lc := (hl.cell j).trans hj
 have H := qh h
 have HE := qh hE
 have HL := qh hl
 clear hb h hE hl
 go_in
 go_wp2_with fail
 refine (H.out _).mono ?_
 rintro e w1 ⟨rfl, rw1, b1⟩
 clear lc
 have hl1 := HL.out.wr rw1 (by simpa using hg)
 have lc := (hl1.cell j).trans hj
 have lz := hl1.frozen j
 have d1 := b1.cell 1
 simp only [qgaq, qgzq, qgsq] at d1
 obtain ⟨w2, hw2⟩ : ∃ q, w1.setCell ⟨g, j, none⟩ (.slice none 0 0) = q := ⟨_, rfl⟩
 have r2 : Wr [b, g] w w2 := by rw [← hw2]; exact (rw1.more (by simp)).setOn (by simp) _
 have b2 : WlkR w2 b r1 := by rw [← hw2]; exact Blk.far b1 (fun e => hg e.symm) _
 have l2 : Blk w2 g t0 (cs0.setIfInBounds j (.slice none 0 0)) := by rw [← hw2]; exact hl1.set_ j _
 have hat : LrAt Rd.use UseD.cellsF 72 2 w b g j t0 cs0 n r1 n w2 := ⟨[], r1, .slice none 0 0, by simp, by simp, b2, l2, by simpa using World.ownsRow_nil _ _ _ _, r2⟩
 have HAT := qh hat
 have HW2 := qh hw2
 clear b1 hl1 r2 b2 l2 hat hw2 rw1
 go_upto_region 3 with (fail)
 rw [HW2.out]
 clear lc lz d1
 go_loopw [6] (fun s6 wr => ∃ m : Nat, s6 = .int .i64 m ∧ LrAt Rd.use UseD.cellsF 72 2 w b g j t0 cs0 n r1 m wr) (fun s6 _ => (intOf s6).toNat)
 case atStart => exact ⟨n, rfl, HAT.out⟩
 case round =>
  obtain ⟨m, rfl, acc, r', v, hlen, hlist, bk, lk, ow, rk⟩ := hrel
  obtain ⟨l, bad⟩ := r'
  have d2 := bk.cell 2
  simp only [qgaq, qgzq, qgsq] at d2
  by_cases hgo : 0 < m ∧ bad = false
  ·obtain ⟨hm0, rfl⟩ := hgo
   obtain ⟨m, rfl⟩ : ∃ m', m = m' + 1 := ⟨m - 1, by omega⟩
   rw [list_good _ _ _ rfl] at hlist
   obtain ⟨Av, cv, hv, hv1', hv2'⟩ := own_form ow
   subst hv
   obtain ⟨k, hk⟩ : ∃ k, acc.length = k := ⟨_, rfl⟩
   rw [hk] at lk ow hlen hv1'
   have hk6 : k < 65536 := by omega
   obtain ⟨wz0, hwz⟩ : ∃ q, wr.alloc (.cells #[.string ⟨#[]⟩, .int .u64 0] 72) = q := ⟨_, rfl⟩
   obtain ⟨z, hz⟩ : ∃ z, wr.heap.size = z := ⟨_, rfl⟩
   have qz : Wr [] wr wz0 := by rw [← hwz]; exact (Wr.refl _ _).alloc _
   have bz : Blk wz0 z 72 #[.string ⟨#[]⟩, .int .u64 0] := by rw [← hwz, ← hz]; exact Blk.new _ _ _
   have hgz : g < z := by rw [← hz]; exact lk.lt
   have hbz : b < z := by rw [← hz]; exact Blk.lt bk
   have hwz' : w.heap.size ≤ z := by rw [← hz]; exact rk.size
   have hnv : ∀ q, q ∈ ownL (.slice Av k cv) → w.heap.size ≤ q ∧ q < z := fun q hq => by rw [← hz]; exact ow.lt q (mem_ownL.1 hq)
   have hcall := HE.out wz0 ⟨l, false⟩ z (rk.trans0 qz) (Blk.wr0 bk qz) hwz' bz
   have HCALL := qh hcall
   have BK := qh (Blk.wr0 bk qz)
   have LK := qh (lk.wr0 qz)
   have OW := qh (own_keep ow qz (fun _ _ => by simp))
   have RK := qh (rk.trans0 qz)
   have HWZ := qh hwz
   have HZ := qh hz
   have HLIST := qh hlist
   have HNV := qh hnv
   have HK := qh hk
   have hm1 : (0 : Int) < ((m + 1 : Nat) : Int) := by omega
   have hm2 : ((m : Int) + 1) - 1 = (m : Int) := by omega
   clear hcall bk lk ow rk qz bz hwz hz hlist hnv hk
   go_upto_region 6 with (fail)
   rw [HWZ.out, HZ.out]
   clear d2
   go_wp2_with fail
   refine HCALL.out.mono ?_
   rintro e wz ⟨rfl, rz, bz, xz⟩
   obtain ⟨x, hx⟩ : ∃ x, (Rd.use ⟨l, false⟩).1 = x := ⟨_, rfl⟩
   rw [hx] at xz
   have xz' : Blk wz z 72 #[.string x.module, .int .u64 x.key] := xz
   have hown := own_keep OW.out rz (fun q hq => by have := HNV.out q (mem_ownL.2 hq); simp; omega)
   have lz := LK.out.wr rz (by simp; omega)
   have rkz : Wr [b, g] w wz := RK.out.trans' rz (fun q hq => by
    simp only [qmcq, qnnq, or_false] at hq
    rcases hq with e | e
    ·subst e
     exact .inl (by simp)
    ·rw [e]
     exact .inr hwz')
   have hn1 : g ∉ ownL (.slice Av k cv) := fun hm => by have := (HNV.out _ hm).1; omega
   have hn2 : z ∉ ownL (.slice Av k cv) := fun hm => by have := (HNV.out _ hm).2; omega
   have hnb : b ∉ ownL (.slice Av k cv) := fun hm => by have := (HNV.out _ hm).1; omega
   obtain ⟨W6, hW6⟩ : ∃ q, (wz.alloc (.cells #[.string x.module, .int .u64 x.key] 72)).drew = q := ⟨_, rfl⟩
   have r6 : Wr [] wz W6 := by rw [← hW6]; exact ((Wr.refl [] wz).alloc _).drew
   have n6 : Blk W6 wz.heap.size 72 #[.string x.module, .int .u64 x.key] := by rw [← hW6]; exact (Blk.new _ _ _).drew
   have ho1 : ∀ u ∈ ([.string x.module, .int .u64 x.key] : List Value), u.oneCell' = true := by
    intro u hu
    simp only [qmcq, qnnq, or_false] at hu
    rcases hu with rfl | rfl
    ·rfl
    ·rfl
   obtain ⟨v', W7, hrun, hown7, hgrow, _, hbk⟩ := run_append_own_at (P := Tryz.prog) W6 w.heap.size 23 23 72 i0 _ 2 24 Tryz.underlying23 hi0 hz0 hz1 hz2 rfl (by decide) (.slice Av k cv) k _ (own_keep hown r6 (fun _ _ => by simp)) ⟨wz.heap.size, 0, none⟩ 1 1 [.string x.module, .int .u64 x.key] rfl (fun jj u hu => by
    rw [Addr.add_lit, Nat.zero_add, n6.cell, qgaq]
    exact hu) ho1 (by unfold maxLen; omega) (by omega) (by have h2 := r6.size; have h3 := rkz.size; omega)
   obtain ⟨A7, c7, hv7⟩ : ∃ A c, v' = .slice A (k + 1) c := by
    rcases hown7.2 with ⟨_, h0⟩ | ⟨gg, cap, cur, e, _⟩
    ·omega
    ·exact ⟨_, _, e⟩
   subst hv7
   have rA : Wr (ownL (.slice Av k cv)) W6 W7 := Wr.ofGrownOwn hgrow
   have b7 := (lz.wr0 r6).wr rA hn1
   have f7 := b7.frozen j
   have c7' : W7.cell? ⟨g, j, none⟩ = some (.slice Av k cv) := (b7.cell j).trans (by simp [hjl])
   have l0 : wz.cell? ⟨g, j, none⟩ = some (.slice Av k cv) := (lz.cell j).trans (by simp [hjl])
   have hfin : LrAt Rd.use UseD.cellsF 72 2 w b g j t0 cs0 n r1 m (W7.setCell ⟨g, j, none⟩ (.slice A7 (k + 1) c7)) := by
    have rS : Wr [g] W7 (W7.setCell ⟨g, j, none⟩ (.slice A7 (k + 1) c7)) := (Wr.refl _ _).setOn (by simp) _
    have hkl : (acc ++ [x]).length = k + 1 := by rw [qlaq, HK.out]; rfl
    refine ⟨acc ++ [x], (Rd.use ⟨l, false⟩).2, .slice A7 (k + 1) c7, by rw [hkl]; omega, ?_, ?_, ?_, ?_, ?_⟩
    ·rw [HLIST.out, hx, qapq]
     rfl
    ·exact Blk.far ((Blk.wr0 bz r6).wr rA hnb) (fun e => hg e.symm) _
    ·have := b7.set_ j (.slice A7 (k + 1) c7)
     rw [Array.setIfInBounds_setIfInBounds] at this
     exact this
    ·rw [hkl, qfaq]
     have e : [x].flatMap UseD.cellsF = [.string x.module, .int .u64 x.key] := by simp; try rfl
     rw [e]
     exact own_keep hown7 rS (fun q hq hm => by have := (hown7.lt q hq).1; simp at hm; omega)
    ·exact ((rkz.trans0 r6).trans' rA (fun q hq => .inr (HNV.out q hq).1)).trans (rS.more (by simp))
   have HRUN := qh hrun
   have HGR := qh hgrow
   have HFIN := qh hfin
   have HN1 := qh hn1
   have HN2 := qh hn2
   have R6 := qh r6
   have HW6 := qh hW6
   obtain ⟨y0, y1⟩ := c2q xz'
   clear hrun hgrow hfin hn1 hn2 r6 hW6 n6 rA b7 lz hown hown7 hbk xz xz' bz rz hnb ho1
   go_upto_region 7 with (fail)
   refine begin1 8 (ownL (.slice Av k cv)) (fun w' => w'.cell? ⟨g, j, none⟩ = some (.slice Av k cv) ∧ w'.cell? ⟨z, 0, none⟩ = some (.string x.module) ∧ w'.cell? ⟨z, 1, none⟩ = some (.int .u64 x.key)) (by kernel_rfl) (fun W hW => ⟨hW.cellOf l0 HN1.out, hW.cellOf y0 HN2.out, hW.cellOf y1 HN2.out⟩) fun HC hcl hS => ?_
   refine mvu 0 (by rfl) (by kernel_rfl) (by rfl) (fun w' hS => by (try go_split_ands); go_simp; try rfl) hcl hS fun hcl1 hS1 => ?_
   clear hcl hS
   try simp only [Act.put, qsaq, qszq, qssq]
   refine mvu 1 (by rfl) (by kernel_rfl) (by rfl) (fun w' hS => by (try go_split_ands); go_simp; try rfl) hcl1 hS1 fun hcl2 hS2 => ?_
   clear hcl1 hS1
   try simp only [Act.put, qsaq, qszq, qssq]
   refine mvu 2 (by rfl) (by kernel_rfl) (by rfl) (fun w' hS => by (try go_split_ands); go_simp; try rfl) hcl2 hS2 fun hcl3 hS3 => ?_
   clear hcl2 hS2
   try simp only [Act.put, qsaq, qszq, qssq]
   refine mvu 3 (by rfl) (by kernel_rfl) (by rfl) (fun w' hS => by (try go_split_ands); go_simp; try rfl) hcl3 hS3 fun hcl4 hS4 => ?_
   clear hcl3 hS3
   try simp only [Act.put, qsaq, qszq, qssq]
   refine mvu 4 (by rfl) (by kernel_rfl) (by rfl) (fun w' hS => by (try go_split_ands); go_simp; try rfl) hcl4 hS4 fun hcl5 hS5 => ?_
   clear hcl4 hS4
   try simp only [Act.put, qsaq, qszq, qssq]
   refine st0 5 (by rfl) (by kernel_rfl) hcl5 fun K hK => ?_
   go_simp
   try rw [HW6.out]
   refine hK _ _ (fun _ => HC.out _ (R6.out.nil)) (fun hcl6 => ?_)
   clear hK K hcl5 hS5
   try simp only [Act.put, qsaq, qszq, qssq]
   refine st0 6 (by rfl) (by kernel_rfl) hcl6 fun K hK => ?_
   refine step_append_run (by rfl) _ _ _ (by rfl) _ _ (by rfl) (by rfl) _ _ HRUN.out ?_
   refine hK _ _ (fun _ => HC.out _ (R6.out.nil.trans (Wr.ofGrownOwn HGR.out))) (fun hcl7 => ?_)
   clear hK K hcl6
   try simp only [Act.put, qsaq, qszq, qssq]
   refine st0 7 (by rfl) (by kernel_rfl) hcl7 fun K hK => ?_
   go_simp
   refine hK _ _ (fun _ => HC.out _ (R6.out.nil.trans (Wr.ofGrownOwn HGR.out))) (fun hcl8 => ?_)
   clear hK K hcl7
   try simp only [Act.put, qsaq, qszq, qssq]
   refine st0 8 (by rfl) (by kernel_rfl) hcl8 fun K hK => ?_
   go_simp
   refine hK _ _ (fun hb => absurd hb (by decide)) (fun hcl999 => ?_)
   clear hK K hcl8
   refine wpAnyL_done (by kernel_rfl) (NoPanic.normal ?_) _
   try simp only [Act.put, qsaq, qszq, qssq]
   go_wp2_with fail
   go_roundw
   case rel => exact ⟨m, by first | rfl | (go_num), HFIN.out⟩
   case measure => first | (simp [intOf]; done) | (simp [intOf]; omega)
  ·have hend : Rd.list Rd.use m ⟨l, bad⟩ = ([], ⟨l, bad⟩) := by
    by_cases hb : bad = true
    ·exact list_bad _ _ _ hb
    ·obtain rfl : m = 0 := by
      have : bad = false := by cases bad <;> simp_all
      have h0 : ¬ 0 < m := fun h => hgo ⟨h, this⟩
      omega
     rfl
   rw [hend] at hlist
   simp only [List.append_nil] at hlist
   have hLL := HLL.out
   rw [hlist] at hLL
   injection hLL with hL1 hL2
   subst hL1 hL2
   obtain ⟨Av, cv, hv, hv1', hv2'⟩ := own_form ow
   subst hv
   have hpost : Sl wr (fun bl => w.heap.size ≤ bl) 2 (.slice Av acc.length cv) acc.length (acc.flatMap UseD.cellsF) := Sl.ofOwn ow (fun b hb => (ow.lt b hb).1)
   have HP := qh (show Wr [b, g] w wr ∧ WlkR wr b ⟨l, bad⟩ ∧ Blk wr g t0 (cs0.setIfInBounds j (.slice Av acc.length cv)) ∧ Sl wr (fun bl => w.heap.size ≤ bl) 2 (.slice Av acc.length cv) acc.length (acc.flatMap UseD.cellsF) from ⟨rk, bk, lk, hpost⟩)
   have h0 : m = 0 ∨ (0 < m ∧ bad = true) := by
    rcases Nat.eq_zero_or_pos m with h | h
    ·exact .inl h
    ·refine .inr ⟨h, ?_⟩
     cases bad with
     | true => rfl
     | false => exact absurd ⟨h, rfl⟩ hgo
   clear rk bk lk hpost ow hgo hlist hend
   rcases h0 with rfl | ⟨hm, rfl⟩
   ·go_wp2_with fail
    refine bodyPost_ret (results_none Tryz.results107 _ _ _) rfl ?_
    exact ⟨rfl, _, _, HP.out⟩
   ·have hmi : (0 : Int) < (m : Int) := by omega
    go_wp2_with fail
    refine bodyPost_ret (results_none Tryz.results107 _ _ _) rfl ?_
    exact ⟨rfl, _, _, HP.out⟩
theorem lr_Str (b q g j : Nat) (t0 : TypeId) (cs0 : Array Value) (A0 : Option Addr) (n0 c0 : Nat) (r : Rd) (w : World) (hb : WlkR w b r) (hg : g ≠ b) (hl : Blk w g t0 cs0) (hj : cs0[j]? = some (.slice A0 n0 c0))
  (hE : ∀ W r' gx, Wr [b, g] w W → WlkR W b r' → w.heap.size ≤ gx → Blk W gx 9 #[.string ⟨#[]⟩] → Calls Tryz.prog 106 #[.pointer (some ⟨b, 0, none⟩), .pointer (some ⟨gx, 0, none⟩)] W fun e W' => e = .returned (.tuple #[]) ∧ Wr [b, gx] W W' ∧ WlkR W' b (Rd.text r').2 ∧ Blk W' gx 9 ((fun s => [Value.string s]) (Rd.text r').1).toArray) :
  Calls Tryz.prog 143 #[.pointer (some ⟨b, 0, none⟩), .pointer (some ⟨g, j, none⟩), .func (.func 106) #[.pointer (some ⟨b, 0, none⟩)] #[]] w fun e w' => e = .returned (.tuple #[]) ∧ ∃ A c, Wr [b, g] w w' ∧ WlkR w' b (r.lst Rd.text).2 ∧ Blk w' g t0 (cs0.setIfInBounds j (.slice A (r.lst Rd.text).1.length c)) ∧ Sl w' (fun bl => w.heap.size ≤ bl) 1 (.slice A (r.lst Rd.text).1.length c) (r.lst Rd.text).1.length ((r.lst Rd.text).1.flatMap (fun s => [Value.string s])) := by
 have hgl := hl.lt
 have hbl := hb.lt
 obtain ⟨i0, hi0, hz0, hz1, hz2⟩ := info_parts info_str
 have h := fun m => count_r b r w hb m
 have hlt := num_lt (k := 2) (by omega) r
 unfold Rd.lst
 generalize r.num 2 = rr at *
 obtain ⟨n, r1⟩ := rr
 simp only at hlt h ⊢
 obtain ⟨LL, hLL⟩ : ∃ LL, Rd.list Rd.text n r1 = LL := ⟨_, rfl⟩
 rw [hLL]
 obtain ⟨L1, L2⟩ := LL
 simp only
 have HLL := qh hLL
 clear hLL
 have hjl : j < cs0.size := (Array.getElem?_eq_some_iff.1 hj).1
 have lc := (hl.cell j).trans hj
 have H := qh h
 have HE := qh hE
 have HL := qh hl
 clear hb h hE hl
 go_in
 go_wp2_with fail
 refine (H.out _).mono ?_
 rintro e w1 ⟨rfl, rw1, b1⟩
 clear lc
 have hl1 := HL.out.wr rw1 (by simpa using hg)
 have lc := (hl1.cell j).trans hj
 have lz := hl1.frozen j
 have d1 := b1.cell 1
 simp only [qgaq, qgzq, qgsq] at d1
 obtain ⟨w2, hw2⟩ : ∃ q, w1.setCell ⟨g, j, none⟩ (.slice none 0 0) = q := ⟨_, rfl⟩
 have r2 : Wr [b, g] w w2 := by rw [← hw2]; exact (rw1.more (by simp)).setOn (by simp) _
 have b2 : WlkR w2 b r1 := by rw [← hw2]; exact Blk.far b1 (fun e => hg e.symm) _
 have l2 : Blk w2 g t0 (cs0.setIfInBounds j (.slice none 0 0)) := by rw [← hw2]; exact hl1.set_ j _
 have hat : LrAt Rd.text (fun s => [Value.string s]) 9 1 w b g j t0 cs0 n r1 n w2 := ⟨[], r1, .slice none 0 0, by simp, by simp, b2, l2, by simpa using World.ownsRow_nil _ _ _ _, r2⟩
 have HAT := qh hat
 have HW2 := qh hw2
 clear b1 hl1 r2 b2 l2 hat hw2 rw1
 go_upto_region 3 with (fail)
 rw [HW2.out]
 clear lc lz d1
 go_loopw [6] (fun s6 wr => ∃ m : Nat, s6 = .int .i64 m ∧ LrAt Rd.text (fun s => [Value.string s]) 9 1 w b g j t0 cs0 n r1 m wr) (fun s6 _ => (intOf s6).toNat)
 case atStart => exact ⟨n, rfl, HAT.out⟩
 case round =>
  obtain ⟨m, rfl, acc, r', v, hlen, hlist, bk, lk, ow, rk⟩ := hrel
  obtain ⟨l, bad⟩ := r'
  have d2 := bk.cell 2
  simp only [qgaq, qgzq, qgsq] at d2
  by_cases hgo : 0 < m ∧ bad = false
  ·obtain ⟨hm0, rfl⟩ := hgo
   obtain ⟨m, rfl⟩ : ∃ m', m = m' + 1 := ⟨m - 1, by omega⟩
   rw [list_good _ _ _ rfl] at hlist
   obtain ⟨Av, cv, hv, hv1', hv2'⟩ := own_form ow
   subst hv
   obtain ⟨k, hk⟩ : ∃ k, acc.length = k := ⟨_, rfl⟩
   rw [hk] at lk ow hlen hv1'
   have hk6 : k < 65536 := by omega
   obtain ⟨wz0, hwz⟩ : ∃ q, wr.alloc (.cells #[.string ⟨#[]⟩] 9) = q := ⟨_, rfl⟩
   obtain ⟨z, hz⟩ : ∃ z, wr.heap.size = z := ⟨_, rfl⟩
   have qz : Wr [] wr wz0 := by rw [← hwz]; exact (Wr.refl _ _).alloc _
   have bz : Blk wz0 z 9 #[.string ⟨#[]⟩] := by rw [← hwz, ← hz]; exact Blk.new _ _ _
   have hgz : g < z := by rw [← hz]; exact lk.lt
   have hbz : b < z := by rw [← hz]; exact Blk.lt bk
   have hwz' : w.heap.size ≤ z := by rw [← hz]; exact rk.size
   have hnv : ∀ q, q ∈ ownL (.slice Av k cv) → w.heap.size ≤ q ∧ q < z := fun q hq => by rw [← hz]; exact ow.lt q (mem_ownL.1 hq)
   have hcall := HE.out wz0 ⟨l, false⟩ z (rk.trans0 qz) (Blk.wr0 bk qz) hwz' bz
   have HCALL := qh hcall
   have BK := qh (Blk.wr0 bk qz)
   have LK := qh (lk.wr0 qz)
   have OW := qh (own_keep ow qz (fun _ _ => by simp))
   have RK := qh (rk.trans0 qz)
   have HWZ := qh hwz
   have HZ := qh hz
   have HLIST := qh hlist
   have HNV := qh hnv
   have HK := qh hk
   have hm1 : (0 : Int) < ((m + 1 : Nat) : Int) := by omega
   have hm2 : ((m : Int) + 1) - 1 = (m : Int) := by omega
   clear hcall bk lk ow rk qz bz hwz hz hlist hnv hk
   go_upto_region 6 with (fail)
   rw [HWZ.out, HZ.out]
   clear d2
   go_wp2_with fail
   refine HCALL.out.mono ?_
   rintro e wz ⟨rfl, rz, bz, xz⟩
   obtain ⟨x, hx⟩ : ∃ x, (Rd.text ⟨l, false⟩).1 = x := ⟨_, rfl⟩
   rw [hx] at xz
   have xz' : Blk wz z 9 #[.string x] := xz
   have hown := own_keep OW.out rz (fun q hq => by have := HNV.out q (mem_ownL.2 hq); simp; omega)
   have lz := LK.out.wr rz (by simp; omega)
   have rkz : Wr [b, g] w wz := RK.out.trans' rz (fun q hq => by
    simp only [qmcq, qnnq, or_false] at hq
    rcases hq with e | e
    ·subst e
     exact .inl (by simp)
    ·rw [e]
     exact .inr hwz')
   have hn1 : g ∉ ownL (.slice Av k cv) := fun hm => by have := (HNV.out _ hm).1; omega
   have hn2 : z ∉ ownL (.slice Av k cv) := fun hm => by have := (HNV.out _ hm).2; omega
   have hnb : b ∉ ownL (.slice Av k cv) := fun hm => by have := (HNV.out _ hm).1; omega
   obtain ⟨W6, hW6⟩ : ∃ q, (wz.alloc (.cells #[.string x] 9)).drew = q := ⟨_, rfl⟩
   have r6 : Wr [] wz W6 := by rw [← hW6]; exact ((Wr.refl [] wz).alloc _).drew
   have n6 : Blk W6 wz.heap.size 9 #[.string x] := by rw [← hW6]; exact (Blk.new _ _ _).drew
   have ho1 : ∀ u ∈ ([.string x] : List Value), u.oneCell' = true := by
    intro u hu
    simp only [qmcq, qnnq, or_false] at hu
    rcases hu with rfl
    ·rfl
   obtain ⟨v', W7, hrun, hown7, hgrow, _, hbk⟩ := run_append_own_at (P := Tryz.prog) W6 w.heap.size 124 124 9 i0 _ 1 16 Tryz.underlying124 hi0 hz0 hz1 hz2 rfl (by decide) (.slice Av k cv) k _ (own_keep hown r6 (fun _ _ => by simp)) ⟨wz.heap.size, 0, none⟩ 1 1 [.string x] rfl (fun jj u hu => by
    rw [Addr.add_lit, Nat.zero_add, n6.cell, qgaq]
    exact hu) ho1 (by unfold maxLen; omega) (by omega) (by have h2 := r6.size; have h3 := rkz.size; omega)
   obtain ⟨A7, c7, hv7⟩ : ∃ A c, v' = .slice A (k + 1) c := by
    rcases hown7.2 with ⟨_, h0⟩ | ⟨gg, cap, cur, e, _⟩
    ·omega
    ·exact ⟨_, _, e⟩
   subst hv7
   have rA : Wr (ownL (.slice Av k cv)) W6 W7 := Wr.ofGrownOwn hgrow
   have b7 := (lz.wr0 r6).wr rA hn1
   have f7 := b7.frozen j
   have c7' : W7.cell? ⟨g, j, none⟩ = some (.slice Av k cv) := (b7.cell j).trans (by simp [hjl])
   have l0 : wz.cell? ⟨g, j, none⟩ = some (.slice Av k cv) := (lz.cell j).trans (by simp [hjl])
   have hfin : LrAt Rd.text (fun s => [Value.string s]) 9 1 w b g j t0 cs0 n r1 m (W7.setCell ⟨g, j, none⟩ (.slice A7 (k + 1) c7)) := by
    have rS : Wr [g] W7 (W7.setCell ⟨g, j, none⟩ (.slice A7 (k + 1) c7)) := (Wr.refl _ _).setOn (by simp) _
    have hkl : (acc ++ [x]).length = k + 1 := by rw [qlaq, HK.out]; rfl
    refine ⟨acc ++ [x], (Rd.text ⟨l, false⟩).2, .slice A7 (k + 1) c7, by rw [hkl]; omega, ?_, ?_, ?_, ?_, ?_⟩
    ·rw [HLIST.out, hx, qapq]
     rfl
    ·exact Blk.far ((Blk.wr0 bz r6).wr rA hnb) (fun e => hg e.symm) _
    ·have := b7.set_ j (.slice A7 (k + 1) c7)
     rw [Array.setIfInBounds_setIfInBounds] at this
     exact this
    ·rw [hkl, qfaq]
     have e : [x].flatMap (fun s => [Value.string s]) = [.string x] := by simp; try rfl
     rw [e]
     exact own_keep hown7 rS (fun q hq hm => by have := (hown7.lt q hq).1; simp at hm; omega)
    ·exact ((rkz.trans0 r6).trans' rA (fun q hq => .inr (HNV.out q hq).1)).trans (rS.more (by simp))
   have HRUN := qh hrun
   have HGR := qh hgrow
   have HFIN := qh hfin
   have HN1 := qh hn1
   have HN2 := qh hn2
   have R6 := qh r6
   have HW6 := qh hW6
   have y0 := xz'.cell 0
   simp only [qgaq, qgzq, qgsq] at y0
   clear hrun hgrow hfin hn1 hn2 r6 hW6 n6 rA b7 lz hown hown7 hbk xz xz' bz rz hnb ho1
   go_upto_region 7 with (fail)
   refine begin1 8 (ownL (.slice Av k cv)) (fun w' => w'.cell? ⟨g, j, none⟩ = some (.slice Av k cv) ∧ w'.cell? ⟨z, 0, none⟩ = some (.string x)) (by kernel_rfl) (fun W hW => ⟨hW.cellOf l0 HN1.out, hW.cellOf y0 HN2.out⟩) fun HC hcl hS => ?_
   refine mvu 0 (by rfl) (by kernel_rfl) (by rfl) (fun w' hS => by (try go_split_ands); go_simp; try rfl) hcl hS fun hcl1 hS1 => ?_
   clear hcl hS
   try simp only [Act.put, qsaq, qszq, qssq]
   refine mvu 1 (by rfl) (by kernel_rfl) (by rfl) (fun w' hS => by (try go_split_ands); go_simp; try rfl) hcl1 hS1 fun hcl2 hS2 => ?_
   clear hcl1 hS1
   try simp only [Act.put, qsaq, qszq, qssq]
   refine mvu 2 (by rfl) (by kernel_rfl) (by rfl) (fun w' hS => by (try go_split_ands); go_simp; try rfl) hcl2 hS2 fun hcl3 hS3 => ?_
   clear hcl2 hS2
   try simp only [Act.put, qsaq, qszq, qssq]
   refine mvu 3 (by rfl) (by kernel_rfl) (by rfl) (fun w' hS => by (try go_split_ands); go_simp; try rfl) hcl3 hS3 fun hcl4 hS4 => ?_
   clear hcl3 hS3
   try simp only [Act.put, qsaq, qszq, qssq]
   refine mvu 4 (by rfl) (by kernel_rfl) (by rfl) (fun w' hS => by (try go_split_ands); go_simp; try rfl) hcl4 hS4 fun hcl5 hS5 => ?_
   clear hcl4 hS4
   try simp only [Act.put, qsaq, qszq, qssq]
   refine st0 5 (by rfl) (by kernel_rfl) hcl5 fun K hK => ?_
   go_simp
   try rw [HW6.out]
   refine hK _ _ (fun _ => HC.out _ (R6.out.nil)) (fun hcl6 => ?_)
   clear hK K hcl5 hS5
   try simp only [Act.put, qsaq, qszq, qssq]
   refine st0 6 (by rfl) (by kernel_rfl) hcl6 fun K hK => ?_
   refine step_append_run (by rfl) _ _ _ (by rfl) _ _ (by rfl) (by rfl) _ _ HRUN.out ?_
   refine hK _ _ (fun _ => HC.out _ (R6.out.nil.trans (Wr.ofGrownOwn HGR.out))) (fun hcl7 => ?_)
   clear hK K hcl6
   try simp only [Act.put, qsaq, qszq, qssq]
   refine st0 7 (by rfl) (by kernel_rfl) hcl7 fun K hK => ?_
   go_simp
   refine hK _ _ (fun _ => HC.out _ (R6.out.nil.trans (Wr.ofGrownOwn HGR.out))) (fun hcl8 => ?_)
   clear hK K hcl7
   try simp only [Act.put, qsaq, qszq, qssq]
   refine st0 8 (by rfl) (by kernel_rfl) hcl8 fun K hK => ?_
   go_simp
   refine hK _ _ (fun hb => absurd hb (by decide)) (fun hcl999 => ?_)
   clear hK K hcl8
   refine wpAnyL_done (by kernel_rfl) (NoPanic.normal ?_) _
   try simp only [Act.put, qsaq, qszq, qssq]
   go_wp2_with fail
   go_roundw
   case rel => exact ⟨m, by first | rfl | (go_num), HFIN.out⟩
   case measure => first | (simp [intOf]; done) | (simp [intOf]; omega)
  ·have hend : Rd.list Rd.text m ⟨l, bad⟩ = ([], ⟨l, bad⟩) := by
    by_cases hb : bad = true
    ·exact list_bad _ _ _ hb
    ·obtain rfl : m = 0 := by
      have : bad = false := by cases bad <;> simp_all
      have h0 : ¬ 0 < m := fun h => hgo ⟨h, this⟩
      omega
     rfl
   rw [hend] at hlist
   simp only [List.append_nil] at hlist
   have hLL := HLL.out
   rw [hlist] at hLL
   injection hLL with hL1 hL2
   subst hL1 hL2
   obtain ⟨Av, cv, hv, hv1', hv2'⟩ := own_form ow
   subst hv
   have hpost : Sl wr (fun bl => w.heap.size ≤ bl) 1 (.slice Av acc.length cv) acc.length (acc.flatMap (fun s => [Value.string s])) := Sl.ofOwn ow (fun b hb => (ow.lt b hb).1)
   have HP := qh (show Wr [b, g] w wr ∧ WlkR wr b ⟨l, bad⟩ ∧ Blk wr g t0 (cs0.setIfInBounds j (.slice Av acc.length cv)) ∧ Sl wr (fun bl => w.heap.size ≤ bl) 1 (.slice Av acc.length cv) acc.length (acc.flatMap (fun s => [Value.string s])) from ⟨rk, bk, lk, hpost⟩)
   have h0 : m = 0 ∨ (0 < m ∧ bad = true) := by
    rcases Nat.eq_zero_or_pos m with h | h
    ·exact .inl h
    ·refine .inr ⟨h, ?_⟩
     cases bad with
     | true => rfl
     | false => exact absurd ⟨h, rfl⟩ hgo
   clear rk bk lk hpost ow hgo hlist hend
   rcases h0 with rfl | ⟨hm, rfl⟩
   ·go_wp2_with fail
    refine bodyPost_ret (results_none Tryz.results143 _ _ _) rfl ?_
    exact ⟨rfl, _, _, HP.out⟩
   ·have hmi : (0 : Int) < (m : Int) := by omega
    go_wp2_with fail
    refine bodyPost_ret (results_none Tryz.results143 _ _ _) rfl ?_
    exact ⟨rfl, _, _, HP.out⟩
theorem lr_Field (b q g j : Nat) (t0 : TypeId) (cs0 : Array Value) (A0 : Option Addr) (n0 c0 : Nat) (r : Rd) (w : World) (hb : WlkR w b r) (hg : g ≠ b) (hl : Blk w g t0 cs0) (hj : cs0[j]? = some (.slice A0 n0 c0))
  (hE : ∀ W r' gx, Wr [b, g] w W → WlkR W b r' → w.heap.size ≤ gx → Blk W gx 173 #[.string ⟨#[]⟩, .int .i64 0, .int .i64 0] → Calls Tryz.prog 145 #[.pointer (some ⟨gx, 0, none⟩), .pointer (some ⟨q, 0, none⟩)] W fun e W' => e = .returned (.tuple #[]) ∧ Wr [b, gx] W W' ∧ WlkR W' b (Rd.fld r').2 ∧ Blk W' gx 173 (Fld.cells (Rd.fld r').1).toArray) :
  Calls Tryz.prog 144 #[.pointer (some ⟨b, 0, none⟩), .pointer (some ⟨g, j, none⟩), .func (.func 145) #[] #[.pointer (some ⟨q, 0, none⟩)]] w fun e w' => e = .returned (.tuple #[]) ∧ ∃ A c, Wr [b, g] w w' ∧ WlkR w' b (r.lst Rd.fld).2 ∧ Blk w' g t0 (cs0.setIfInBounds j (.slice A (r.lst Rd.fld).1.length c)) ∧ Sl w' (fun bl => w.heap.size ≤ bl) 3 (.slice A (r.lst Rd.fld).1.length c) (r.lst Rd.fld).1.length ((r.lst Rd.fld).1.flatMap Fld.cells) := by
 have hgl := hl.lt
 have hbl := hb.lt
 obtain ⟨i0, hi0, hz0, hz1, hz2⟩ := info_parts info_fld
 have h := fun m => count_r b r w hb m
 have hlt := num_lt (k := 2) (by omega) r
 unfold Rd.lst
 generalize r.num 2 = rr at *
 obtain ⟨n, r1⟩ := rr
 simp only at hlt h ⊢
 obtain ⟨LL, hLL⟩ : ∃ LL, Rd.list Rd.fld n r1 = LL := ⟨_, rfl⟩
 rw [hLL]
 obtain ⟨L1, L2⟩ := LL
 simp only
 have HLL := qh hLL
 clear hLL
 have hjl : j < cs0.size := (Array.getElem?_eq_some_iff.1 hj).1
 have lc := (hl.cell j).trans hj
 have H := qh h
 have HE := qh hE
 have HL := qh hl
 clear hb h hE hl
 go_in
 go_wp2_with fail
 refine (H.out _).mono ?_
 rintro e w1 ⟨rfl, rw1, b1⟩
 clear lc
 have hl1 := HL.out.wr rw1 (by simpa using hg)
 have lc := (hl1.cell j).trans hj
 have lz := hl1.frozen j
 have d1 := b1.cell 1
 simp only [qgaq, qgzq, qgsq] at d1
 obtain ⟨w2, hw2⟩ : ∃ q, w1.setCell ⟨g, j, none⟩ (.slice none 0 0) = q := ⟨_, rfl⟩
 have r2 : Wr [b, g] w w2 := by rw [← hw2]; exact (rw1.more (by simp)).setOn (by simp) _
 have b2 : WlkR w2 b r1 := by rw [← hw2]; exact Blk.far b1 (fun e => hg e.symm) _
 have l2 : Blk w2 g t0 (cs0.setIfInBounds j (.slice none 0 0)) := by rw [← hw2]; exact hl1.set_ j _
 have hat : LrAt Rd.fld Fld.cells 173 3 w b g j t0 cs0 n r1 n w2 := ⟨[], r1, .slice none 0 0, by simp, by simp, b2, l2, by simpa using World.ownsRow_nil _ _ _ _, r2⟩
 have HAT := qh hat
 have HW2 := qh hw2
 clear b1 hl1 r2 b2 l2 hat hw2 rw1
 go_upto_region 3 with (fail)
 rw [HW2.out]
 clear lc lz d1
 go_loopw [6] (fun s6 wr => ∃ m : Nat, s6 = .int .i64 m ∧ LrAt Rd.fld Fld.cells 173 3 w b g j t0 cs0 n r1 m wr) (fun s6 _ => (intOf s6).toNat)
 case atStart => exact ⟨n, rfl, HAT.out⟩
 case round =>
  obtain ⟨m, rfl, acc, r', v, hlen, hlist, bk, lk, ow, rk⟩ := hrel
  obtain ⟨l, bad⟩ := r'
  have d2 := bk.cell 2
  simp only [qgaq, qgzq, qgsq] at d2
  by_cases hgo : 0 < m ∧ bad = false
  ·obtain ⟨hm0, rfl⟩ := hgo
   obtain ⟨m, rfl⟩ : ∃ m', m = m' + 1 := ⟨m - 1, by omega⟩
   rw [list_good _ _ _ rfl] at hlist
   obtain ⟨Av, cv, hv, hv1', hv2'⟩ := own_form ow
   subst hv
   obtain ⟨k, hk⟩ : ∃ k, acc.length = k := ⟨_, rfl⟩
   rw [hk] at lk ow hlen hv1'
   have hk6 : k < 65536 := by omega
   obtain ⟨wz0, hwz⟩ : ∃ q, wr.alloc (.cells #[.string ⟨#[]⟩, .int .i64 0, .int .i64 0] 173) = q := ⟨_, rfl⟩
   obtain ⟨z, hz⟩ : ∃ z, wr.heap.size = z := ⟨_, rfl⟩
   have qz : Wr [] wr wz0 := by rw [← hwz]; exact (Wr.refl _ _).alloc _
   have bz : Blk wz0 z 173 #[.string ⟨#[]⟩, .int .i64 0, .int .i64 0] := by rw [← hwz, ← hz]; exact Blk.new _ _ _
   have hgz : g < z := by rw [← hz]; exact lk.lt
   have hbz : b < z := by rw [← hz]; exact Blk.lt bk
   have hwz' : w.heap.size ≤ z := by rw [← hz]; exact rk.size
   have hnv : ∀ q, q ∈ ownL (.slice Av k cv) → w.heap.size ≤ q ∧ q < z := fun q hq => by rw [← hz]; exact ow.lt q (mem_ownL.1 hq)
   have hcall := HE.out wz0 ⟨l, false⟩ z (rk.trans0 qz) (Blk.wr0 bk qz) hwz' bz
   have HCALL := qh hcall
   have BK := qh (Blk.wr0 bk qz)
   have LK := qh (lk.wr0 qz)
   have OW := qh (own_keep ow qz (fun _ _ => by simp))
   have RK := qh (rk.trans0 qz)
   have HWZ := qh hwz
   have HZ := qh hz
   have HLIST := qh hlist
   have HNV := qh hnv
   have HK := qh hk
   have hm1 : (0 : Int) < ((m + 1 : Nat) : Int) := by omega
   have hm2 : ((m : Int) + 1) - 1 = (m : Int) := by omega
   clear hcall bk lk ow rk qz bz hwz hz hlist hnv hk
   go_upto_region 6 with (fail)
   rw [HWZ.out, HZ.out]
   clear d2
   go_wp2_with fail
   refine HCALL.out.mono ?_
   rintro e wz ⟨rfl, rz, bz, xz⟩
   obtain ⟨x, hx⟩ : ∃ x, (Rd.fld ⟨l, false⟩).1 = x := ⟨_, rfl⟩
   rw [hx] at xz
   have xz' : Blk wz z 173 #[.string x.name, .int .i64 x.type, .int .i64 x.arm] := xz
   have hown := own_keep OW.out rz (fun q hq => by have := HNV.out q (mem_ownL.2 hq); simp; omega)
   have lz := LK.out.wr rz (by simp; omega)
   have rkz : Wr [b, g] w wz := RK.out.trans' rz (fun q hq => by
    simp only [qmcq, qnnq, or_false] at hq
    rcases hq with e | e
    ·subst e
     exact .inl (by simp)
    ·rw [e]
     exact .inr hwz')
   have hn1 : g ∉ ownL (.slice Av k cv) := fun hm => by have := (HNV.out _ hm).1; omega
   have hn2 : z ∉ ownL (.slice Av k cv) := fun hm => by have := (HNV.out _ hm).2; omega
   have hnb : b ∉ ownL (.slice Av k cv) := fun hm => by have := (HNV.out _ hm).1; omega
   obtain ⟨W6, hW6⟩ : ∃ q, (wz.alloc (.cells #[.string x.name, .int .i64 x.type, .int .i64 x.arm] 173)).drew = q := ⟨_, rfl⟩
   have r6 : Wr [] wz W6 := by rw [← hW6]; exact ((Wr.refl [] wz).alloc _).drew
   have n6 : Blk W6 wz.heap.size 173 #[.string x.name, .int .i64 x.type, .int .i64 x.arm] := by rw [← hW6]; exact (Blk.new _ _ _).drew
   have ho1 : ∀ u ∈ ([.string x.name, .int .i64 x.type, .int .i64 x.arm] : List Value), u.oneCell' = true := by
    intro u hu
    simp only [qmcq, qnnq, or_false] at hu
    rcases hu with rfl | rfl | rfl
    ·rfl
    ·rfl
    ·rfl
   obtain ⟨v', W7, hrun, hown7, hgrow, _, hbk⟩ := run_append_own_at (P := Tryz.prog) W6 w.heap.size 125 125 173 i0 _ 3 32 Tryz.underlying125 hi0 hz0 hz1 hz2 rfl (by decide) (.slice Av k cv) k _ (own_keep hown r6 (fun _ _ => by simp)) ⟨wz.heap.size, 0, none⟩ 1 1 [.string x.name, .int .i64 x.type, .int .i64 x.arm] rfl (fun jj u hu => by
    rw [Addr.add_lit, Nat.zero_add, n6.cell, qgaq]
    exact hu) ho1 (by unfold maxLen; omega) (by omega) (by have h2 := r6.size; have h3 := rkz.size; omega)
   obtain ⟨A7, c7, hv7⟩ : ∃ A c, v' = .slice A (k + 1) c := by
    rcases hown7.2 with ⟨_, h0⟩ | ⟨gg, cap, cur, e, _⟩
    ·omega
    ·exact ⟨_, _, e⟩
   subst hv7
   have rA : Wr (ownL (.slice Av k cv)) W6 W7 := Wr.ofGrownOwn hgrow
   have b7 := (lz.wr0 r6).wr rA hn1
   have f7 := b7.frozen j
   have c7' : W7.cell? ⟨g, j, none⟩ = some (.slice Av k cv) := (b7.cell j).trans (by simp [hjl])
   have l0 : wz.cell? ⟨g, j, none⟩ = some (.slice Av k cv) := (lz.cell j).trans (by simp [hjl])
   have hfin : LrAt Rd.fld Fld.cells 173 3 w b g j t0 cs0 n r1 m (W7.setCell ⟨g, j, none⟩ (.slice A7 (k + 1) c7)) := by
    have rS : Wr [g] W7 (W7.setCell ⟨g, j, none⟩ (.slice A7 (k + 1) c7)) := (Wr.refl _ _).setOn (by simp) _
    have hkl : (acc ++ [x]).length = k + 1 := by rw [qlaq, HK.out]; rfl
    refine ⟨acc ++ [x], (Rd.fld ⟨l, false⟩).2, .slice A7 (k + 1) c7, by rw [hkl]; omega, ?_, ?_, ?_, ?_, ?_⟩
    ·rw [HLIST.out, hx, qapq]
     rfl
    ·exact Blk.far ((Blk.wr0 bz r6).wr rA hnb) (fun e => hg e.symm) _
    ·have := b7.set_ j (.slice A7 (k + 1) c7)
     rw [Array.setIfInBounds_setIfInBounds] at this
     exact this
    ·rw [hkl, qfaq]
     have e : [x].flatMap Fld.cells = [.string x.name, .int .i64 x.type, .int .i64 x.arm] := by simp; try rfl
     rw [e]
     exact own_keep hown7 rS (fun q hq hm => by have := (hown7.lt q hq).1; simp at hm; omega)
    ·exact ((rkz.trans0 r6).trans' rA (fun q hq => .inr (HNV.out q hq).1)).trans (rS.more (by simp))
   have HRUN := qh hrun
   have HGR := qh hgrow
   have HFIN := qh hfin
   have HN1 := qh hn1
   have HN2 := qh hn2
   have R6 := qh r6
   have HW6 := qh hW6
   obtain ⟨y0, y1, y2⟩ := c3q xz'
   clear hrun hgrow hfin hn1 hn2 r6 hW6 n6 rA b7 lz hown hown7 hbk xz xz' bz rz hnb ho1
   go_upto_region 7 with (fail)
   refine begin1 8 (ownL (.slice Av k cv)) (fun w' => w'.cell? ⟨g, j, none⟩ = some (.slice Av k cv) ∧ w'.cell? ⟨z, 0, none⟩ = some (.string x.name) ∧ w'.cell? ⟨z, 1, none⟩ = some (.int .i64 x.type) ∧ w'.cell? ⟨z, 2, none⟩ = some (.int .i64 x.arm)) (by kernel_rfl) (fun W hW => ⟨hW.cellOf l0 HN1.out, hW.cellOf y0 HN2.out, hW.cellOf y1 HN2.out, hW.cellOf y2 HN2.out⟩) fun HC hcl hS => ?_
   refine mvu 0 (by rfl) (by kernel_rfl) (by rfl) (fun w' hS => by (try go_split_ands); go_simp; try rfl) hcl hS fun hcl1 hS1 => ?_
   clear hcl hS
   try simp only [Act.put, qsaq, qszq, qssq]
   refine mvu 1 (by rfl) (by kernel_rfl) (by rfl) (fun w' hS => by (try go_split_ands); go_simp; try rfl) hcl1 hS1 fun hcl2 hS2 => ?_
   clear hcl1 hS1
   try simp only [Act.put, qsaq, qszq, qssq]
   refine mvu 2 (by rfl) (by kernel_rfl) (by rfl) (fun w' hS => by (try go_split_ands); go_simp; try rfl) hcl2 hS2 fun hcl3 hS3 => ?_
   clear hcl2 hS2
   try simp only [Act.put, qsaq, qszq, qssq]
   refine mvu 3 (by rfl) (by kernel_rfl) (by rfl) (fun w' hS => by (try go_split_ands); go_simp; try rfl) hcl3 hS3 fun hcl4 hS4 => ?_
   clear hcl3 hS3
   try simp only [Act.put, qsaq, qszq, qssq]
   refine mvu 4 (by rfl) (by kernel_rfl) (by rfl) (fun w' hS => by (try go_split_ands); go_simp; try rfl) hcl4 hS4 fun hcl5 hS5 => ?_
   clear hcl4 hS4
   try simp only [Act.put, qsaq, qszq, qssq]
   refine st0 5 (by rfl) (by kernel_rfl) hcl5 fun K hK => ?_
   go_simp
   try rw [HW6.out]
   refine hK _ _ (fun _ => HC.out _ (R6.out.nil)) (fun hcl6 => ?_)
   clear hK K hcl5 hS5
   try simp only [Act.put, qsaq, qszq, qssq]
   refine st0 6 (by rfl) (by kernel_rfl) hcl6 fun K hK => ?_
   refine step_append_run (by rfl) _ _ _ (by rfl) _ _ (by rfl) (by rfl) _ _ HRUN.out ?_
   refine hK _ _ (fun _ => HC.out _ (R6.out.nil.trans (Wr.ofGrownOwn HGR.out))) (fun hcl7 => ?_)
   clear hK K hcl6
   try simp only [Act.put, qsaq, qszq, qssq]
   refine st0 7 (by rfl) (by kernel_rfl) hcl7 fun K hK => ?_
   go_simp
   refine hK _ _ (fun _ => HC.out _ (R6.out.nil.trans (Wr.ofGrownOwn HGR.out))) (fun hcl8 => ?_)
   clear hK K hcl7
   try simp only [Act.put, qsaq, qszq, qssq]
   refine st0 8 (by rfl) (by kernel_rfl) hcl8 fun K hK => ?_
   go_simp
   refine hK _ _ (fun hb => absurd hb (by decide)) (fun hcl999 => ?_)
   clear hK K hcl8
   refine wpAnyL_done (by kernel_rfl) (NoPanic.normal ?_) _
   try simp only [Act.put, qsaq, qszq, qssq]
   go_wp2_with fail
   go_roundw
   case rel => exact ⟨m, by first | rfl | (go_num), HFIN.out⟩
   case measure => first | (simp [intOf]; done) | (simp [intOf]; omega)
  ·have hend : Rd.list Rd.fld m ⟨l, bad⟩ = ([], ⟨l, bad⟩) := by
    by_cases hb : bad = true
    ·exact list_bad _ _ _ hb
    ·obtain rfl : m = 0 := by
      have : bad = false := by cases bad <;> simp_all
      have h0 : ¬ 0 < m := fun h => hgo ⟨h, this⟩
      omega
     rfl
   rw [hend] at hlist
   simp only [List.append_nil] at hlist
   have hLL := HLL.out
   rw [hlist] at hLL
   injection hLL with hL1 hL2
   subst hL1 hL2
   obtain ⟨Av, cv, hv, hv1', hv2'⟩ := own_form ow
   subst hv
   have hpost : Sl wr (fun bl => w.heap.size ≤ bl) 3 (.slice Av acc.length cv) acc.length (acc.flatMap Fld.cells) := Sl.ofOwn ow (fun b hb => (ow.lt b hb).1)
   have HP := qh (show Wr [b, g] w wr ∧ WlkR wr b ⟨l, bad⟩ ∧ Blk wr g t0 (cs0.setIfInBounds j (.slice Av acc.length cv)) ∧ Sl wr (fun bl => w.heap.size ≤ bl) 3 (.slice Av acc.length cv) acc.length (acc.flatMap Fld.cells) from ⟨rk, bk, lk, hpost⟩)
   have h0 : m = 0 ∨ (0 < m ∧ bad = true) := by
    rcases Nat.eq_zero_or_pos m with h | h
    ·exact .inl h
    ·refine .inr ⟨h, ?_⟩
     cases bad with
     | true => rfl
     | false => exact absurd ⟨h, rfl⟩ hgo
   clear rk bk lk hpost ow hgo hlist hend
   rcases h0 with rfl | ⟨hm, rfl⟩
   ·go_wp2_with fail
    refine bodyPost_ret (results_none Tryz.results144 _ _ _) rfl ?_
    exact ⟨rfl, _, _, HP.out⟩
   ·have hmi : (0 : Int) < (m : Int) := by omega
    go_wp2_with fail
    refine bodyPost_ret (results_none Tryz.results144 _ _ _) rfl ?_
    exact ⟨rfl, _, _, HP.out⟩
theorem lr_Param (b q g j : Nat) (t0 : TypeId) (cs0 : Array Value) (A0 : Option Addr) (n0 c0 : Nat) (r : Rd) (w : World) (hb : WlkR w b r) (hg : g ≠ b) (hl : Blk w g t0 cs0) (hj : cs0[j]? = some (.slice A0 n0 c0))
  (hE : ∀ W r' gx, Wr [b, g] w W → WlkR W b r' → w.heap.size ≤ gx → Blk W gx 175 #[.bool false, .int .i64 0] → Calls Tryz.prog 149 #[.pointer (some ⟨gx, 0, none⟩), .pointer (some ⟨q, 0, none⟩)] W fun e W' => e = .returned (.tuple #[]) ∧ Wr [b, gx] W W' ∧ WlkR W' b (Rd.par r').2 ∧ Blk W' gx 175 (Par.cells (Rd.par r').1).toArray) :
  Calls Tryz.prog 148 #[.pointer (some ⟨b, 0, none⟩), .pointer (some ⟨g, j, none⟩), .func (.func 149) #[] #[.pointer (some ⟨q, 0, none⟩)]] w fun e w' => e = .returned (.tuple #[]) ∧ ∃ A c, Wr [b, g] w w' ∧ WlkR w' b (r.lst Rd.par).2 ∧ Blk w' g t0 (cs0.setIfInBounds j (.slice A (r.lst Rd.par).1.length c)) ∧ Sl w' (fun bl => w.heap.size ≤ bl) 2 (.slice A (r.lst Rd.par).1.length c) (r.lst Rd.par).1.length ((r.lst Rd.par).1.flatMap Par.cells) := by
 have hgl := hl.lt
 have hbl := hb.lt
 obtain ⟨i0, hi0, hz0, hz1, hz2⟩ := info_parts info_par
 have h := fun m => count_r b r w hb m
 have hlt := num_lt (k := 2) (by omega) r
 unfold Rd.lst
 generalize r.num 2 = rr at *
 obtain ⟨n, r1⟩ := rr
 simp only at hlt h ⊢
 obtain ⟨LL, hLL⟩ : ∃ LL, Rd.list Rd.par n r1 = LL := ⟨_, rfl⟩
 rw [hLL]
 obtain ⟨L1, L2⟩ := LL
 simp only
 have HLL := qh hLL
 clear hLL
 have hjl : j < cs0.size := (Array.getElem?_eq_some_iff.1 hj).1
 have lc := (hl.cell j).trans hj
 have H := qh h
 have HE := qh hE
 have HL := qh hl
 clear hb h hE hl
 go_in
 go_wp2_with fail
 refine (H.out _).mono ?_
 rintro e w1 ⟨rfl, rw1, b1⟩
 clear lc
 have hl1 := HL.out.wr rw1 (by simpa using hg)
 have lc := (hl1.cell j).trans hj
 have lz := hl1.frozen j
 have d1 := b1.cell 1
 simp only [qgaq, qgzq, qgsq] at d1
 obtain ⟨w2, hw2⟩ : ∃ q, w1.setCell ⟨g, j, none⟩ (.slice none 0 0) = q := ⟨_, rfl⟩
 have r2 : Wr [b, g] w w2 := by rw [← hw2]; exact (rw1.more (by simp)).setOn (by simp) _
 have b2 : WlkR w2 b r1 := by rw [← hw2]; exact Blk.far b1 (fun e => hg e.symm) _
 have l2 : Blk w2 g t0 (cs0.setIfInBounds j (.slice none 0 0)) := by rw [← hw2]; exact hl1.set_ j _
 have hat : LrAt Rd.par Par.cells 175 2 w b g j t0 cs0 n r1 n w2 := ⟨[], r1, .slice none 0 0, by simp, by simp, b2, l2, by simpa using World.ownsRow_nil _ _ _ _, r2⟩
 have HAT := qh hat
 have HW2 := qh hw2
 clear b1 hl1 r2 b2 l2 hat hw2 rw1
 go_upto_region 3 with (fail)
 rw [HW2.out]
 clear lc lz d1
 go_loopw [6] (fun s6 wr => ∃ m : Nat, s6 = .int .i64 m ∧ LrAt Rd.par Par.cells 175 2 w b g j t0 cs0 n r1 m wr) (fun s6 _ => (intOf s6).toNat)
 case atStart => exact ⟨n, rfl, HAT.out⟩
 case round =>
  obtain ⟨m, rfl, acc, r', v, hlen, hlist, bk, lk, ow, rk⟩ := hrel
  obtain ⟨l, bad⟩ := r'
  have d2 := bk.cell 2
  simp only [qgaq, qgzq, qgsq] at d2
  by_cases hgo : 0 < m ∧ bad = false
  ·obtain ⟨hm0, rfl⟩ := hgo
   obtain ⟨m, rfl⟩ : ∃ m', m = m' + 1 := ⟨m - 1, by omega⟩
   rw [list_good _ _ _ rfl] at hlist
   obtain ⟨Av, cv, hv, hv1', hv2'⟩ := own_form ow
   subst hv
   obtain ⟨k, hk⟩ : ∃ k, acc.length = k := ⟨_, rfl⟩
   rw [hk] at lk ow hlen hv1'
   have hk6 : k < 65536 := by omega
   obtain ⟨wz0, hwz⟩ : ∃ q, wr.alloc (.cells #[.bool false, .int .i64 0] 175) = q := ⟨_, rfl⟩
   obtain ⟨z, hz⟩ : ∃ z, wr.heap.size = z := ⟨_, rfl⟩
   have qz : Wr [] wr wz0 := by rw [← hwz]; exact (Wr.refl _ _).alloc _
   have bz : Blk wz0 z 175 #[.bool false, .int .i64 0] := by rw [← hwz, ← hz]; exact Blk.new _ _ _
   have hgz : g < z := by rw [← hz]; exact lk.lt
   have hbz : b < z := by rw [← hz]; exact Blk.lt bk
   have hwz' : w.heap.size ≤ z := by rw [← hz]; exact rk.size
   have hnv : ∀ q, q ∈ ownL (.slice Av k cv) → w.heap.size ≤ q ∧ q < z := fun q hq => by rw [← hz]; exact ow.lt q (mem_ownL.1 hq)
   have hcall := HE.out wz0 ⟨l, false⟩ z (rk.trans0 qz) (Blk.wr0 bk qz) hwz' bz
   have HCALL := qh hcall
   have BK := qh (Blk.wr0 bk qz)
   have LK := qh (lk.wr0 qz)
   have OW := qh (own_keep ow qz (fun _ _ => by simp))
   have RK := qh (rk.trans0 qz)
   have HWZ := qh hwz
   have HZ := qh hz
   have HLIST := qh hlist
   have HNV := qh hnv
   have HK := qh hk
   have hm1 : (0 : Int) < ((m + 1 : Nat) : Int) := by omega
   have hm2 : ((m : Int) + 1) - 1 = (m : Int) := by omega
   clear hcall bk lk ow rk qz bz hwz hz hlist hnv hk
   go_upto_region 6 with (fail)
   rw [HWZ.out, HZ.out]
   clear d2
   go_wp2_with fail
   refine HCALL.out.mono ?_
   rintro e wz ⟨rfl, rz, bz, xz⟩
   obtain ⟨x, hx⟩ : ∃ x, (Rd.par ⟨l, false⟩).1 = x := ⟨_, rfl⟩
   rw [hx] at xz
   have xz' : Blk wz z 175 #[.bool x.var, .int .i64 x.type] := xz
   have hown := own_keep OW.out rz (fun q hq => by have := HNV.out q (mem_ownL.2 hq); simp; omega)
   have lz := LK.out.wr rz (by simp; omega)
   have rkz : Wr [b, g] w wz := RK.out.trans' rz (fun q hq => by
    simp only [qmcq, qnnq, or_false] at hq
    rcases hq with e | e
    ·subst e
     exact .inl (by simp)
    ·rw [e]
     exact .inr hwz')
   have hn1 : g ∉ ownL (.slice Av k cv) := fun hm => by have := (HNV.out _ hm).1; omega
   have hn2 : z ∉ ownL (.slice Av k cv) := fun hm => by have := (HNV.out _ hm).2; omega
   have hnb : b ∉ ownL (.slice Av k cv) := fun hm => by have := (HNV.out _ hm).1; omega
   obtain ⟨W6, hW6⟩ : ∃ q, (wz.alloc (.cells #[.bool x.var, .int .i64 x.type] 175)).drew = q := ⟨_, rfl⟩
   have r6 : Wr [] wz W6 := by rw [← hW6]; exact ((Wr.refl [] wz).alloc _).drew
   have n6 : Blk W6 wz.heap.size 175 #[.bool x.var, .int .i64 x.type] := by rw [← hW6]; exact (Blk.new _ _ _).drew
   have ho1 : ∀ u ∈ ([.bool x.var, .int .i64 x.type] : List Value), u.oneCell' = true := by
    intro u hu
    simp only [qmcq, qnnq, or_false] at hu
    rcases hu with rfl | rfl
    ·rfl
    ·rfl
   obtain ⟨v', W7, hrun, hown7, hgrow, _, hbk⟩ := run_append_own_at (P := Tryz.prog) W6 w.heap.size 127 127 175 i0 _ 2 16 Tryz.underlying127 hi0 hz0 hz1 hz2 rfl (by decide) (.slice Av k cv) k _ (own_keep hown r6 (fun _ _ => by simp)) ⟨wz.heap.size, 0, none⟩ 1 1 [.bool x.var, .int .i64 x.type] rfl (fun jj u hu => by
    rw [Addr.add_lit, Nat.zero_add, n6.cell, qgaq]
    exact hu) ho1 (by unfold maxLen; omega) (by omega) (by have h2 := r6.size; have h3 := rkz.size; omega)
   obtain ⟨A7, c7, hv7⟩ : ∃ A c, v' = .slice A (k + 1) c := by
    rcases hown7.2 with ⟨_, h0⟩ | ⟨gg, cap, cur, e, _⟩
    ·omega
    ·exact ⟨_, _, e⟩
   subst hv7
   have rA : Wr (ownL (.slice Av k cv)) W6 W7 := Wr.ofGrownOwn hgrow
   have b7 := (lz.wr0 r6).wr rA hn1
   have f7 := b7.frozen j
   have c7' : W7.cell? ⟨g, j, none⟩ = some (.slice Av k cv) := (b7.cell j).trans (by simp [hjl])
   have l0 : wz.cell? ⟨g, j, none⟩ = some (.slice Av k cv) := (lz.cell j).trans (by simp [hjl])
   have hfin : LrAt Rd.par Par.cells 175 2 w b g j t0 cs0 n r1 m (W7.setCell ⟨g, j, none⟩ (.slice A7 (k + 1) c7)) := by
    have rS : Wr [g] W7 (W7.setCell ⟨g, j, none⟩ (.slice A7 (k + 1) c7)) := (Wr.refl _ _).setOn (by simp) _
    have hkl : (acc ++ [x]).length = k + 1 := by rw [qlaq, HK.out]; rfl
    refine ⟨acc ++ [x], (Rd.par ⟨l, false⟩).2, .slice A7 (k + 1) c7, by rw [hkl]; omega, ?_, ?_, ?_, ?_, ?_⟩
    ·rw [HLIST.out, hx, qapq]
     rfl
    ·exact Blk.far ((Blk.wr0 bz r6).wr rA hnb) (fun e => hg e.symm) _
    ·have := b7.set_ j (.slice A7 (k + 1) c7)
     rw [Array.setIfInBounds_setIfInBounds] at this
     exact this
    ·rw [hkl, qfaq]
     have e : [x].flatMap Par.cells = [.bool x.var, .int .i64 x.type] := by simp; try rfl
     rw [e]
     exact own_keep hown7 rS (fun q hq hm => by have := (hown7.lt q hq).1; simp at hm; omega)
    ·exact ((rkz.trans0 r6).trans' rA (fun q hq => .inr (HNV.out q hq).1)).trans (rS.more (by simp))
   have HRUN := qh hrun
   have HGR := qh hgrow
   have HFIN := qh hfin
   have HN1 := qh hn1
   have HN2 := qh hn2
   have R6 := qh r6
   have HW6 := qh hW6
   obtain ⟨y0, y1⟩ := c2q xz'
   clear hrun hgrow hfin hn1 hn2 r6 hW6 n6 rA b7 lz hown hown7 hbk xz xz' bz rz hnb ho1
   go_upto_region 7 with (fail)
   refine begin1 8 (ownL (.slice Av k cv)) (fun w' => w'.cell? ⟨g, j, none⟩ = some (.slice Av k cv) ∧ w'.cell? ⟨z, 0, none⟩ = some (.bool x.var) ∧ w'.cell? ⟨z, 1, none⟩ = some (.int .i64 x.type)) (by kernel_rfl) (fun W hW => ⟨hW.cellOf l0 HN1.out, hW.cellOf y0 HN2.out, hW.cellOf y1 HN2.out⟩) fun HC hcl hS => ?_
   refine mvu 0 (by rfl) (by kernel_rfl) (by rfl) (fun w' hS => by (try go_split_ands); go_simp; try rfl) hcl hS fun hcl1 hS1 => ?_
   clear hcl hS
   try simp only [Act.put, qsaq, qszq, qssq]
   refine mvu 1 (by rfl) (by kernel_rfl) (by rfl) (fun w' hS => by (try go_split_ands); go_simp; try rfl) hcl1 hS1 fun hcl2 hS2 => ?_
   clear hcl1 hS1
   try simp only [Act.put, qsaq, qszq, qssq]
   refine mvu 2 (by rfl) (by kernel_rfl) (by rfl) (fun w' hS => by (try go_split_ands); go_simp; try rfl) hcl2 hS2 fun hcl3 hS3 => ?_
   clear hcl2 hS2
   try simp only [Act.put, qsaq, qszq, qssq]
   refine mvu 3 (by rfl) (by kernel_rfl) (by rfl) (fun w' hS => by (try go_split_ands); go_simp; try rfl) hcl3 hS3 fun hcl4 hS4 => ?_
   clear hcl3 hS3
   try simp only [Act.put, qsaq, qszq, qssq]
   refine mvu 4 (by rfl) (by kernel_rfl) (by rfl) (fun w' hS => by (try go_split_ands); go_simp; try rfl) hcl4 hS4 fun hcl5 hS5 => ?_
   clear hcl4 hS4
   try simp only [Act.put, qsaq, qszq, qssq]
   refine st0 5 (by rfl) (by kernel_rfl) hcl5 fun K hK => ?_
   go_simp
   try rw [HW6.out]
   refine hK _ _ (fun _ => HC.out _ (R6.out.nil)) (fun hcl6 => ?_)
   clear hK K hcl5 hS5
   try simp only [Act.put, qsaq, qszq, qssq]
   refine st0 6 (by rfl) (by kernel_rfl) hcl6 fun K hK => ?_
   refine step_append_run (by rfl) _ _ _ (by rfl) _ _ (by rfl) (by rfl) _ _ HRUN.out ?_
   refine hK _ _ (fun _ => HC.out _ (R6.out.nil.trans (Wr.ofGrownOwn HGR.out))) (fun hcl7 => ?_)
   clear hK K hcl6
   try simp only [Act.put, qsaq, qszq, qssq]
   refine st0 7 (by rfl) (by kernel_rfl) hcl7 fun K hK => ?_
   go_simp
   refine hK _ _ (fun _ => HC.out _ (R6.out.nil.trans (Wr.ofGrownOwn HGR.out))) (fun hcl8 => ?_)
   clear hK K hcl7
   try simp only [Act.put, qsaq, qszq, qssq]
   refine st0 8 (by rfl) (by kernel_rfl) hcl8 fun K hK => ?_
   go_simp
   refine hK _ _ (fun hb => absurd hb (by decide)) (fun hcl999 => ?_)
   clear hK K hcl8
   refine wpAnyL_done (by kernel_rfl) (NoPanic.normal ?_) _
   try simp only [Act.put, qsaq, qszq, qssq]
   go_wp2_with fail
   go_roundw
   case rel => exact ⟨m, by first | rfl | (go_num), HFIN.out⟩
   case measure => first | (simp [intOf]; done) | (simp [intOf]; omega)
  ·have hend : Rd.list Rd.par m ⟨l, bad⟩ = ([], ⟨l, bad⟩) := by
    by_cases hb : bad = true
    ·exact list_bad _ _ _ hb
    ·obtain rfl : m = 0 := by
      have : bad = false := by cases bad <;> simp_all
      have h0 : ¬ 0 < m := fun h => hgo ⟨h, this⟩
      omega
     rfl
   rw [hend] at hlist
   simp only [List.append_nil] at hlist
   have hLL := HLL.out
   rw [hlist] at hLL
   injection hLL with hL1 hL2
   subst hL1 hL2
   obtain ⟨Av, cv, hv, hv1', hv2'⟩ := own_form ow
   subst hv
   have hpost : Sl wr (fun bl => w.heap.size ≤ bl) 2 (.slice Av acc.length cv) acc.length (acc.flatMap Par.cells) := Sl.ofOwn ow (fun b hb => (ow.lt b hb).1)
   have HP := qh (show Wr [b, g] w wr ∧ WlkR wr b ⟨l, bad⟩ ∧ Blk wr g t0 (cs0.setIfInBounds j (.slice Av acc.length cv)) ∧ Sl wr (fun bl => w.heap.size ≤ bl) 2 (.slice Av acc.length cv) acc.length (acc.flatMap Par.cells) from ⟨rk, bk, lk, hpost⟩)
   have h0 : m = 0 ∨ (0 < m ∧ bad = true) := by
    rcases Nat.eq_zero_or_pos m with h | h
    ·exact .inl h
    ·refine .inr ⟨h, ?_⟩
     cases bad with
     | true => rfl
     | false => exact absurd ⟨h, rfl⟩ hgo
   clear rk bk lk hpost ow hgo hlist hend
   rcases h0 with rfl | ⟨hm, rfl⟩
   ·go_wp2_with fail
    refine bodyPost_ret (results_none Tryz.results148 _ _ _) rfl ?_
    exact ⟨rfl, _, _, HP.out⟩
   ·have hmi : (0 : Int) < (m : Int) := by omega
    go_wp2_with fail
    refine bodyPost_ret (results_none Tryz.results148 _ _ _) rfl ?_
    exact ⟨rfl, _, _, HP.out⟩
end Go.Proofs.YtildcdgobdfieaaGreat
