/- obj's reader: proc, use, and lists of them, of numbers, of words: walked. Conditions: a list is of at most 65535. -/
import Derived.Test.YtildcdgobdfieaaGreatRD19
import Derived.Shelf.Strings.Builder1
set_option linter.unusedVariables false
set_option linter.unusedSimpArgs false
set_option maxRecDepth 100000
set_option maxHeartbeats 32000000
namespace Go.Proofs.YtildcdgobdfieaaGreat
open Go.RowKit
theorem own_wrb {w w' : World} {base n size b : Nat} {T : TypeId} {v : Value} {xs : List Value} (h : w.ownsRow base T size v n xs) (hw : Wr [b] w w') (hb : b < base) : w'.ownsRow base T size v n xs := by
 refine ⟨h.1, ?_⟩
 rcases h.2 with h | ⟨g, cap, cur, h1, h2, h3, h4⟩
 ·exact .inl h
 ·refine .inr ⟨g, cap, cur, h1, h2, ?_, h4⟩
  have hlt : g < w.heap.size := by
   rcases Nat.lt_or_ge g w.heap.size with hlt | hge
   ·exact hlt
   ·rw [Array.getElem?_eq_none hge] at h3; cases h3
  rw [hw.block g hlt (by rw [qmsq]; omega)]
  exact h3
theorem RdO.keep {w w' : World} {b : Nat} {r : Rd} {l : List Nat} (h : RdO w b r) (hw : Wr l w w') (hb : b ∉ l) : RdO w' b r := Blk.wr h hw hb
def PrcD.val (p : PrcD) : Value := .agg p.cells.toArray
def UseD.val (u : UseD) : Value := .agg u.cells.toArray
def OListR {α : Type} (T : TypeId) (size : Nat) (cells : α → List Value) (b : Nat) (q : List α × Rd) (w : World) (e : Ending) (w' : World) : Prop :=
 ∃ v, e = .returned v ∧ Wr [b] w w' ∧ RdO w' b q.2 ∧ w'.ownsRow w.heap.size T size v q.1.length (q.1.flatMap cells)
def OLsAt {α : Type} (T : TypeId) (size : Nat) (cells : α → List Value) (one : Rd → α × Rd) (b B n : Nat) (r : Rd) (w : World) (j : Nat) (v : Value) (wr : World) : Prop :=
 ∃ (acc : List α) (rr : Rd) (v' : Value), v = v' ∧ Rd.list one n r = (acc ++ (Rd.list one j rr).1, (Rd.list one j rr).2) ∧ acc.length + j ≤ 65535 ∧ RdO wr b rr ∧ wr.ownsRow B T size v' acc.length (acc.flatMap cells) ∧ Wr [b] w wr
theorem proc_o (b : Nat) (r : Rd) (w : World) (hb : RdO w b r) :
  Calls Tryz.prog 85 #[.pointer (some ⟨b, 0, none⟩)] w fun e w' => e = .returned (Rd.proc r).1.val ∧ Wr [b] w w' ∧ RdO w' b (Rd.proc r).2 := by
 have hbl := hb.lt
 unfold Rd.proc PrcD.val PrcD.cells
 obtain ⟨p0, hp0⟩ : ∃ p, Rd.two r = p := ⟨_, rfl⟩
 obtain ⟨v0, r0⟩ := p0
 obtain ⟨p1, hp1⟩ : ∃ p, Rd.two r0 = p := ⟨_, rfl⟩
 obtain ⟨v1, r1⟩ := p1
 obtain ⟨p2, hp2⟩ : ∃ p, Rd.two r1 = p := ⟨_, rfl⟩
 obtain ⟨v2, r2⟩ := p2
 obtain ⟨p3, hp3⟩ : ∃ p, Rd.two r2 = p := ⟨_, rfl⟩
 obtain ⟨v3, r3⟩ := p3
 obtain ⟨p4, hp4⟩ : ∃ p, Rd.one r3 = p := ⟨_, rfl⟩
 obtain ⟨v4, r4⟩ := p4
 obtain ⟨p5, hp5⟩ : ∃ p, Rd.truth r4 = p := ⟨_, rfl⟩
 obtain ⟨v5, r5⟩ := p5
 simp only [hp0, hp1, hp2, hp3, hp4, hp5]
 have h0 := fun W (hW : RdO W b r) => two_o b r W hW
 rw [hp0] at h0
 simp only at h0
 have H0 := qh h0
 have h1 := fun W (hW : RdO W b r0) => two_o b r0 W hW
 rw [hp1] at h1
 simp only at h1
 have H1 := qh h1
 have h2 := fun W (hW : RdO W b r1) => two_o b r1 W hW
 rw [hp2] at h2
 simp only at h2
 have H2 := qh h2
 have h3 := fun W (hW : RdO W b r2) => two_o b r2 W hW
 rw [hp3] at h3
 simp only at h3
 have H3 := qh h3
 have h4 := fun W (hW : RdO W b r3) => one_o b r3 W hW
 rw [hp4] at h4
 simp only at h4
 have H4 := qh h4
 have h5 := fun W (hW : RdO W b r4) => truth_o b r4 W hW
 rw [hp5] at h5
 simp only at h5
 have H5 := qh h5
 clear h0 hp0 h1 hp1 h2 hp2 h3 hp3 h4 hp4 h5 hp5
 have zn := Blk.new w 98 #[.int .i64 0, .int .i64 0, .int .i64 0, .int .i64 0, .int .i64 0, .bool false]
 have rn := (Wr.refl [b] w).alloc (.cells #[.int .i64 0, .int .i64 0, .int .i64 0, .int .i64 0, .int .i64 0, .bool false] 98)
 have bn := Blk.wr0 hb ((Wr.refl [] w).alloc (.cells #[.int .i64 0, .int .i64 0, .int .i64 0, .int .i64 0, .int .i64 0, .bool false] 98))
 obtain ⟨wn, hwn⟩ : ∃ q, w.alloc (.cells #[.int .i64 0, .int .i64 0, .int .i64 0, .int .i64 0, .int .i64 0, .bool false] 98) = q := ⟨_, rfl⟩
 obtain ⟨z, hz⟩ : ∃ q, w.heap.size = q := ⟨_, rfl⟩
 rw [hwn] at zn rn bn
 rw [hz] at zn
 have hzb : z ≠ b := by omega
 have hwz : w.heap.size ≤ z := by omega
 have HWN := qh hwn
 have HZ := qh hz
 clear hwn hz hb
 go_in
 go_upto_region 1 with (fail)
 rw [HZ.out, HWN.out]
 go_wp2_with fail
 refine (H0.out _ bn).mono ?_
 rintro e w1 ⟨rfl, k1, b1⟩
 go_wp2_with fail
 refine (H1.out _ b1).mono ?_
 rintro e w2 ⟨rfl, k2, b2⟩
 go_wp2_with fail
 refine (H2.out _ b2).mono ?_
 rintro e w3 ⟨rfl, k3, b3⟩
 go_wp2_with fail
 refine (H3.out _ b3).mono ?_
 rintro e w4 ⟨rfl, k4, b4⟩
 have k := ((k1.trans k2).trans k3).trans k4
 have z4 := zn.wr k (by simpa using hzb)
 obtain ⟨f0, f1, f2, f3⟩ := z4q z4
 obtain ⟨y0, y1, y2, y3⟩ := c4q z4
 have z5 := (((z4.set_ 0 (.int .i64 v0)).set_ 1 (.int .i64 v1)).set_ 2 (.int .i64 v2)).set_ 3 (.int .i64 v3)
 simp only [qsaq, qszq, qssq] at z5
 have b5 : RdO ((((w4.setCell ⟨z, 0, none⟩ (.int .i64 v0)).setCell ⟨z, 1, none⟩ (.int .i64 v1)).setCell ⟨z, 2, none⟩ (.int .i64 v2)).setCell ⟨z, 3, none⟩ (.int .i64 v3)) b r3 :=
  Blk.far (Blk.far (Blk.far (Blk.far b4 (Ne.symm hzb) _) (Ne.symm hzb) _) (Ne.symm hzb) _) (Ne.symm hzb) _
 have r5 : Wr [b] w ((((w4.setCell ⟨z, 0, none⟩ (.int .i64 v0)).setCell ⟨z, 1, none⟩ (.int .i64 v1)).setCell ⟨z, 2, none⟩ (.int .i64 v2)).setCell ⟨z, 3, none⟩ (.int .i64 v3)) :=
  ((((rn.trans k).setNew hwz _).setNew hwz _).setNew hwz _).setNew hwz _
 have Z5 := qh z5
 have B5 := qh b5
 have R5 := qh r5
 clear z5 b5 r5 k k1 k2 k3 k4 b1 b2 b3 b4 bn zn z4 rn
 go_upto_region 2 with (fail)
 generalize ((((w4.setCell ⟨z, 0, none⟩ (.int .i64 v0)).setCell ⟨z, 1, none⟩ (.int .i64 v1)).setCell ⟨z, 2, none⟩ (.int .i64 v2)).setCell ⟨z, 3, none⟩ (.int .i64 v3)) = w5 at *
 clear f0 f1 f2 f3 y0 y1 y2 y3
 go_wp2_with fail
 refine (H4.out _ B5.out).mono ?_
 rintro e w6 ⟨rfl, k6, b6⟩
 go_wp2_with fail
 refine (H5.out _ b6).mono ?_
 rintro e w7 ⟨rfl, k7, b7⟩
 have z7 := Z5.out.wr (k6.trans k7) (by simpa using hzb)
 obtain ⟨y0, y1, y2, y3, y4, y5⟩ := c6q z7
 obtain ⟨f0, f1, f2, f3, f4, f5⟩ := z6q z7
 have z8 := (z7.set_ 4 (.int .i64 v4)).set_ 5 (.bool v5)
 simp only [qsaq, qszq, qssq] at z8
 have b8 : RdO ((w7.setCell ⟨z, 4, none⟩ (.int .i64 v4)).setCell ⟨z, 5, none⟩ (.bool v5)) b r5 := Blk.far (Blk.far b7 (Ne.symm hzb) _) (Ne.symm hzb) _
 have r8 : Wr [b] w ((w7.setCell ⟨z, 4, none⟩ (.int .i64 v4)).setCell ⟨z, 5, none⟩ (.bool v5)) := (((R5.out.trans k6).trans k7).setNew hwz _).setNew hwz _
 have Z8 := qh z8
 have B8 := qh b8
 have R8 := qh r8
 clear z8 b8 r8 k6 k7 b6 b7 z7
 go_upto_region 3 with (fail)
 generalize ((w7.setCell ⟨z, 4, none⟩ (.int .i64 v4)).setCell ⟨z, 5, none⟩ (.bool v5)) = w8 at *
 clear f0 f1 f2 f3 f4 f5 y0 y1 y2 y3 y4 y5
 have z8 := Z8.out
 obtain ⟨y0, y1, y2, y3, y4, y5⟩ := c6q z8
 obtain ⟨f0, f1, f2, f3, f4, f5⟩ := z6q z8
 clear z8
 go_wp2_with fail
 refine bodyPost_ret (v := .agg #[.int .i64 v0, .int .i64 v1, .int .i64 v2, .int .i64 v3, .int .i64 v4, .bool v5]) ?_ rfl ?_
 ·simp [results, Tryz.results85, go_sem, y0, y1, y2, y3, y4, y5]
 ·refine ⟨rfl, ?_, ?_⟩
  ·exact (((((R8.out.setNew hwz _).setNew hwz _).setNew hwz _).setNew hwz _).setNew hwz _).setNew hwz _
  ·exact Blk.far (Blk.far (Blk.far (Blk.far (Blk.far (Blk.far B8.out (Ne.symm hzb) _) (Ne.symm hzb) _) (Ne.symm hzb) _) (Ne.symm hzb) _) (Ne.symm hzb) _) (Ne.symm hzb) _
theorem use_o (b : Nat) (r : Rd) (w : World) (hb : RdO w b r) :
  Calls Tryz.prog 60 #[.pointer (some ⟨b, 0, none⟩)] w fun e w' => e = .returned (Rd.use r).1.val ∧ Wr [b] w w' ∧ RdO w' b (Rd.use r).2 := by
 have hbl := hb.lt
 unfold Rd.use UseD.val UseD.cells
 obtain ⟨p0, hp0⟩ : ∃ p, Rd.text r = p := ⟨_, rfl⟩
 obtain ⟨v0, r0⟩ := p0
 obtain ⟨p1, hp1⟩ : ∃ p, Rd.num r0 8 = p := ⟨_, rfl⟩
 obtain ⟨v1, r1⟩ := p1
 simp only [hp0, hp1]
 have h0 := fun W (hW : RdO W b r) => text_o b r W hW
 rw [hp0] at h0
 simp only at h0
 have H0 := qh h0
 have h1 := fun W (hW : RdO W b r0) => number_o b 8 r0 (by decide) W hW
 rw [hp1] at h1
 simp only at h1
 have H1 := qh h1
 clear h0 hp0 h1 hp1
 have zn := Blk.new w 72 #[.string ⟨#[]⟩, .int .u64 0]
 have rn := (Wr.refl [b] w).alloc (.cells #[.string ⟨#[]⟩, .int .u64 0] 72)
 have bn := Blk.wr0 hb ((Wr.refl [] w).alloc (.cells #[.string ⟨#[]⟩, .int .u64 0] 72))
 obtain ⟨wn, hwn⟩ : ∃ q, w.alloc (.cells #[.string ⟨#[]⟩, .int .u64 0] 72) = q := ⟨_, rfl⟩
 obtain ⟨z, hz⟩ : ∃ q, w.heap.size = q := ⟨_, rfl⟩
 rw [hwn] at zn rn bn
 rw [hz] at zn
 have hzb : z ≠ b := by omega
 have hwz : w.heap.size ≤ z := by omega
 have HWN := qh hwn
 have HZ := qh hz
 clear hwn hz hb
 go_in
 go_upto_region 1 with (fail)
 rw [HZ.out, HWN.out]
 go_wp2_with fail
 refine (H0.out _ bn).mono ?_
 rintro e w1 ⟨rfl, k1, b1⟩
 have z1 := zn.wr k1 (by simpa using hzb)
 have f0 := z1.frozen 0
 have y0 := z1.cell 0
 simp only [qgaq, qgzq, qgsq] at y0
 have z2 := z1.set_ 0 (.string v0)
 simp only [qsaq, qszq, qssq] at z2
 have b2 : RdO (w1.setCell ⟨z, 0, none⟩ (.string v0)) b r0 := Blk.far b1 (Ne.symm hzb) _
 have r2 : Wr [b] w (w1.setCell ⟨z, 0, none⟩ (.string v0)) := (rn.trans k1).setNew hwz _
 have Z2 := qh z2
 have B2 := qh b2
 have R2 := qh r2
 clear z2 b2 r2 z1 k1 b1 bn zn rn
 go_upto_region 2 with (fail)
 generalize (w1.setCell ⟨z, 0, none⟩ (.string v0)) = w2 at *
 clear f0 y0
 go_wp2_with fail
 refine (H1.out _ B2.out).mono ?_
 rintro e w3 ⟨rfl, k3, b3⟩
 have z3 := Z2.out.wr k3 (by simpa using hzb)
 have f1 := z3.frozen 1
 have y1 := z3.cell 1
 simp only [qgaq, qgzq, qgsq] at y1
 have z4 := z3.set_ 1 (.int .u64 (v1 : Int))
 simp only [qsaq, qszq, qssq] at z4
 have b4 : RdO (w3.setCell ⟨z, 1, none⟩ (.int .u64 (v1 : Int))) b r1 := Blk.far b3 (Ne.symm hzb) _
 have r4 : Wr [b] w (w3.setCell ⟨z, 1, none⟩ (.int .u64 (v1 : Int))) := (R2.out.trans k3).setNew hwz _
 have Z4 := qh z4
 have B4 := qh b4
 have R4 := qh r4
 clear z4 b4 r4 z3 k3 b3
 go_upto_region 3 with (fail)
 generalize (w3.setCell ⟨z, 1, none⟩ (.int .u64 (v1 : Int))) = w4 at *
 clear f1 y1
 have z4 := Z4.out
 obtain ⟨y0, y1⟩ := c2q z4
 obtain ⟨f0, f1⟩ := z2q z4
 clear z4
 go_wp2_with fail
 refine bodyPost_ret (v := .agg #[.string v0, .int .u64 (v1 : Int)]) ?_ rfl ?_
 ·simp [results, Tryz.results60, go_sem, y0, y1]
 ·exact ⟨rfl, (R4.out.setNew hwz _).setNew hwz _, Blk.far (Blk.far B4.out (Ne.symm hzb) _) (Ne.symm hzb) _⟩
theorem infoO_prc : (Tryz.prog.info? 98).map (fun i => (i.zero, i.size, i.bytes)) = some (some (.agg #[.int .i64 0, .int .i64 0, .int .i64 0, .int .i64 0, .int .i64 0, .bool false]), 6, 48) := by kernel_rfl
theorem list_prc (b n : Nat) (hn : n ≤ 65535) (r : Rd) (w : World) (hb : RdO w b r) :
  Calls Tryz.prog 84 #[.pointer (some ⟨b, 0, none⟩), .int .i64 (n : Int), .func (.func 85) #[.pointer (some ⟨b, 0, none⟩)] #[]] w (OListR 98 6 (fun x : PrcD => x.cells) b (Rd.list Rd.proc n r) w) := by
 obtain ⟨i0, hi0, hz0, hz1, hz2⟩ := info_parts infoO_prc
 have hbl := hb.lt
 have hen : ∀ args w, (callFunc 85 args).run Tryz.prog w = .ok (.enter 85 args) w := fun args w => rfl
 obtain ⟨B, hB⟩ : ∃ B, w.heap.size = B := ⟨_, rfl⟩
 have HB := qh hB
 have hbB : b < B := by omega
 have HRB := qh hb
 clear hB hb hbl
 go_in
 go_wp2_with fail
 go_loopw [1, 6] (fun s1 v wr => ∃ j : Nat, s1 = .int .i64 j ∧ OLsAt 98 6 (fun x : PrcD => x.cells) Rd.proc b B n r w j v wr) (fun s1 _ _ => (intOf s1).toNat)
 case atStart => exact ⟨n, rfl, [], r, _, rfl, rfl, by simpa using hn, HRB.out, ⟨rfl, .inl ⟨rfl, rfl⟩⟩, Wr.refl _ _⟩
 case round =>
  obtain ⟨j, rfl, acc, rr, v, rfl, hq, hl, hrd, hown, hwr⟩ := hrel
  have HQ := qh hq
  have HOWN := qh hown
  have HWR := qh hwr
  have HRD := qh hrd
  have c1 := hrd.cell 1
  simp only [qgaq, qgzq, qgsq] at c1
  clear hq hown hwr hrd
  cases j with
  | zero =>
   go_wp2_with fail
   go_ret
   have e := HQ.out
   rw [Rd.list, List.append_nil] at e
   refine ⟨_, rfl, HWR.out, ?_, ?_⟩
   ·rw [e]; exact HRD.out
   ·rw [e, HB.out]; exact HOWN.out
  | succ m =>
   have hm0 : (0 : Int) < ((m + 1 : Nat) : Int) := by omega
   have hm1 : decide (((m + 1 : Nat) : Int) > 0) = true := qdtq (by omega)
   have hm2 : ((m + 1 : Nat) : Int) ≤ 65535 := by omega
   have hm3 : ((m + 1 : Nat) : Int) - 1 = (m : Int) := by omega
   obtain ⟨M, hM⟩ : ∃ M : Int, ((m + 1 : Nat) : Int) = M := ⟨_, rfl⟩
   rw [hM] at hm0 hm1 hm2 hm3 ⊢
   have HM3 := qh hm3
   have HM := qh hM
   clear hm3 hM
   cases hbad : rr.bad with
   | true =>
    rw [hbad] at c1
    clear hbad
    go_wp2_with fail
    go_ret
    have e := HQ.out
    have hbad : rr.bad = true := by
     have := Blk.cell HRD.out 1
     simp only [qgaq, qgzq, qgsq] at this
     rw [c1] at this
     injection this with this
     injection this with this
     exact this.symm
    rw [Rd.list, if_pos hbad, List.append_nil] at e
    refine ⟨_, rfl, HWR.out, ?_, ?_⟩
    ·rw [e]; exact HRD.out
    ·rw [e, HB.out]; exact HOWN.out
   | false =>
    rw [hbad] at c1
    have hq2 := HQ.out
    rw [Rd.list, if_neg (by rw [hbad]; decide)] at hq2
    have h0 := proc_o b rr wr HRD.out
    obtain ⟨p0, hp0⟩ : ∃ p, Rd.proc rr = p := ⟨_, rfl⟩
    obtain ⟨x, r'⟩ := p0
    rw [hp0] at h0 hq2
    simp only [PrcD.val, PrcD.cells, UseD.val, UseD.cells] at h0 hq2
    have HQ2 := qh hq2
    have H0 := qh h0
    clear h0 hq2 hp0 hbad
    go_wp2_with fail
    refine H0.out.mono ?_
    rintro e w1 ⟨rfl, k1, b1⟩
    have own1 := own_wrb HOWN.out k1 hbB
    have k2 := (Wr.refl [] w1).alloc (.cells #[.int .i64 x.at_, .int .i64 x.params, .int .i64 x.locals, .int .i64 x.depth, .int .i64 x.level, .bool x.func] 98)
    have own2 := own_wr0 own1 k2
    have bz := Blk.new w1 98 #[.int .i64 x.at_, .int .i64 x.params, .int .i64 x.locals, .int .i64 x.depth, .int .i64 x.level, .bool x.func]
    have hs1 : B ≤ w1.heap.size := by rw [← HB.out]; exact Nat.le_trans HWR.out.size k1.size
    obtain ⟨A', c', w3, hrun, hown', r3, _⟩ := push_obj (ys := [.int .i64 x.at_, .int .i64 x.params, .int .i64 x.locals, .int .i64 x.depth, .int .i64 x.level, .bool x.func]) Tryz.underlying24 hi0 hz0 hz1 hz2 rfl (by decide) own2 bz rfl (by intro u hu; simp only [qmcq, qnnq, or_false] at hu; rcases hu with rfl | rfl | rfl | rfl | rfl | rfl <;> rfl) (by omega) (by decide) (Nat.le_trans hs1 k2.size)
    have b3 := ((RdO.keep b1 k2 (by simp)).keep r3 (fun hx => by have := own_ge own2 _ hx; omega))
    have r4 : Wr [b] w w3 := ((HWR.out.trans k1).trans k2.nil).trans' r3 (fun q hq => .inr (by have := own_ge own2 q hq; rw [HB.out]; exact this))
    have hfin : OLsAt 98 6 (fun x : PrcD => x.cells) Rd.proc b B n r w m (.slice A' (acc.length + 1) c') w3 := by
     refine ⟨acc ++ [x], r', _, rfl, ?_, by simp only [qlaq, List.length_cons, List.length_nil]; omega, b3, ?_, r4⟩
     ·rw [HQ2.out, qapq]; rfl
     ·rw [qlaq, qfaq, qfcq, List.flatMap_nil, List.append_nil]
      exact hown'
    have HFIN := qh hfin
    have HRUN := qh hrun
    clear own1 k2 own2 bz hs1 hrun hown' r3 b3 r4 hfin k1 b1
    go_wp2_with (at_builtin; refine wpList_append_run rfl _ _ _ rfl _ _ rfl rfl _ _ HRUN.out ?_)
    refine ⟨⟨m, by rw [HM3.out], HFIN.out⟩, ?_⟩
    show (intOf (.int .i64 (M - 1))).toNat < (intOf (.int .i64 M)).toNat
    rw [HM3.out, ← HM.out]
    simp only [intOf]
    omega
theorem infoO_i64 : (Tryz.prog.info? 3).map (fun i => (i.zero, i.size, i.bytes)) = some (some (.int .i64 0), 1, 8) := by kernel_rfl
theorem list_i64 (b n : Nat) (hn : n ≤ 65535) (r : Rd) (w : World) (hb : RdO w b r) :
  Calls Tryz.prog 86 #[.pointer (some ⟨b, 0, none⟩), .int .i64 (n : Int), .func (.func 59) #[.pointer (some ⟨b, 0, none⟩)] #[]] w (OListR 3 1 (fun x : Int => [Value.int .i64 x]) b (Rd.list Rd.one n r) w) := by
 obtain ⟨i0, hi0, hz0, hz1, hz2⟩ := info_parts infoO_i64
 have hbl := hb.lt
 have hen : ∀ args w, (callFunc 59 args).run Tryz.prog w = .ok (.enter 59 args) w := fun args w => rfl
 obtain ⟨B, hB⟩ : ∃ B, w.heap.size = B := ⟨_, rfl⟩
 have HB := qh hB
 have hbB : b < B := by omega
 have HRB := qh hb
 clear hB hb hbl
 go_in
 go_wp2_with fail
 go_loopw [1, 6] (fun s1 v wr => ∃ j : Nat, s1 = .int .i64 j ∧ OLsAt 3 1 (fun x : Int => [Value.int .i64 x]) Rd.one b B n r w j v wr) (fun s1 _ _ => (intOf s1).toNat)
 case atStart => exact ⟨n, rfl, [], r, _, rfl, rfl, by simpa using hn, HRB.out, ⟨rfl, .inl ⟨rfl, rfl⟩⟩, Wr.refl _ _⟩
 case round =>
  obtain ⟨j, rfl, acc, rr, v, rfl, hq, hl, hrd, hown, hwr⟩ := hrel
  have HQ := qh hq
  have HOWN := qh hown
  have HWR := qh hwr
  have HRD := qh hrd
  have c1 := hrd.cell 1
  simp only [qgaq, qgzq, qgsq] at c1
  clear hq hown hwr hrd
  cases j with
  | zero =>
   go_wp2_with fail
   go_ret
   have e := HQ.out
   rw [Rd.list, List.append_nil] at e
   refine ⟨_, rfl, HWR.out, ?_, ?_⟩
   ·rw [e]; exact HRD.out
   ·rw [e, HB.out]; exact HOWN.out
  | succ m =>
   have hm0 : (0 : Int) < ((m + 1 : Nat) : Int) := by omega
   have hm1 : decide (((m + 1 : Nat) : Int) > 0) = true := qdtq (by omega)
   have hm2 : ((m + 1 : Nat) : Int) ≤ 65535 := by omega
   have hm3 : ((m + 1 : Nat) : Int) - 1 = (m : Int) := by omega
   obtain ⟨M, hM⟩ : ∃ M : Int, ((m + 1 : Nat) : Int) = M := ⟨_, rfl⟩
   rw [hM] at hm0 hm1 hm2 hm3 ⊢
   have HM3 := qh hm3
   have HM := qh hM
   clear hm3 hM
   cases hbad : rr.bad with
   | true =>
    rw [hbad] at c1
    clear hbad
    go_wp2_with fail
    go_ret
    have e := HQ.out
    have hbad : rr.bad = true := by
     have := Blk.cell HRD.out 1
     simp only [qgaq, qgzq, qgsq] at this
     rw [c1] at this
     injection this with this
     injection this with this
     exact this.symm
    rw [Rd.list, if_pos hbad, List.append_nil] at e
    refine ⟨_, rfl, HWR.out, ?_, ?_⟩
    ·rw [e]; exact HRD.out
    ·rw [e, HB.out]; exact HOWN.out
   | false =>
    rw [hbad] at c1
    have hq2 := HQ.out
    rw [Rd.list, if_neg (by rw [hbad]; decide)] at hq2
    have h0 := one_o b rr wr HRD.out
    obtain ⟨p0, hp0⟩ : ∃ p, Rd.one rr = p := ⟨_, rfl⟩
    obtain ⟨x, r'⟩ := p0
    rw [hp0] at h0 hq2
    simp only [PrcD.val, PrcD.cells, UseD.val, UseD.cells] at h0 hq2
    have HQ2 := qh hq2
    have H0 := qh h0
    clear h0 hq2 hp0 hbad
    go_wp2_with fail
    refine H0.out.mono ?_
    rintro e w1 ⟨rfl, k1, b1⟩
    have own1 := own_wrb HOWN.out k1 hbB
    have k2 := (Wr.refl [] w1).alloc (.cells #[.int .i64 x] 3)
    have own2 := own_wr0 own1 k2
    have bz := Blk.new w1 3 #[.int .i64 x]
    have hs1 : B ≤ w1.heap.size := by rw [← HB.out]; exact Nat.le_trans HWR.out.size k1.size
    obtain ⟨A', c', w3, hrun, hown', r3, _⟩ := push_obj (ys := [.int .i64 x]) Tryz.underlying25 hi0 hz0 hz1 hz2 rfl (by decide) own2 bz rfl (by intro u hu; simp only [qmcq, qnnq, or_false] at hu; rcases hu with rfl <;> rfl) (by omega) (by decide) (Nat.le_trans hs1 k2.size)
    have b3 := ((RdO.keep b1 k2 (by simp)).keep r3 (fun hx => by have := own_ge own2 _ hx; omega))
    have r4 : Wr [b] w w3 := ((HWR.out.trans k1).trans k2.nil).trans' r3 (fun q hq => .inr (by have := own_ge own2 q hq; rw [HB.out]; exact this))
    have hfin : OLsAt 3 1 (fun x : Int => [Value.int .i64 x]) Rd.one b B n r w m (.slice A' (acc.length + 1) c') w3 := by
     refine ⟨acc ++ [x], r', _, rfl, ?_, by simp only [qlaq, List.length_cons, List.length_nil]; omega, b3, ?_, r4⟩
     ·rw [HQ2.out, qapq]; rfl
     ·rw [qlaq, qfaq, qfcq, List.flatMap_nil, List.append_nil]
      exact hown'
    have HFIN := qh hfin
    have HRUN := qh hrun
    clear own1 k2 own2 bz hs1 hrun hown' r3 b3 r4 hfin k1 b1
    go_wp2_with (at_builtin; refine wpList_append_run rfl _ _ _ rfl _ _ rfl rfl _ _ HRUN.out ?_)
    refine ⟨⟨m, by rw [HM3.out], HFIN.out⟩, ?_⟩
    show (intOf (.int .i64 (M - 1))).toNat < (intOf (.int .i64 M)).toNat
    rw [HM3.out, ← HM.out]
    simp only [intOf]
    omega
theorem infoO_u16 : (Tryz.prog.info? 67).map (fun i => (i.zero, i.size, i.bytes)) = some (some (.int .u16 0), 1, 2) := by kernel_rfl
theorem list_u16 (b n : Nat) (hn : n ≤ 65535) (r : Rd) (w : World) (hb : RdO w b r) :
  Calls Tryz.prog 87 #[.pointer (some ⟨b, 0, none⟩), .int .i64 (n : Int), .func (.func 88) #[.pointer (some ⟨b, 0, none⟩)] #[]] w (OListR 67 1 (fun x : Int => [Value.int .u16 x]) b (Rd.list Rd.two n r) w) := by
 obtain ⟨i0, hi0, hz0, hz1, hz2⟩ := info_parts infoO_u16
 have hbl := hb.lt
 have hen : ∀ args w, (callFunc 88 args).run Tryz.prog w = .ok (.enter 88 args) w := fun args w => rfl
 obtain ⟨B, hB⟩ : ∃ B, w.heap.size = B := ⟨_, rfl⟩
 have HB := qh hB
 have hbB : b < B := by omega
 have HRB := qh hb
 clear hB hb hbl
 go_in
 go_wp2_with fail
 go_loopw [1, 6] (fun s1 v wr => ∃ j : Nat, s1 = .int .i64 j ∧ OLsAt 67 1 (fun x : Int => [Value.int .u16 x]) Rd.two b B n r w j v wr) (fun s1 _ _ => (intOf s1).toNat)
 case atStart => exact ⟨n, rfl, [], r, _, rfl, rfl, by simpa using hn, HRB.out, ⟨rfl, .inl ⟨rfl, rfl⟩⟩, Wr.refl _ _⟩
 case round =>
  obtain ⟨j, rfl, acc, rr, v, rfl, hq, hl, hrd, hown, hwr⟩ := hrel
  have HQ := qh hq
  have HOWN := qh hown
  have HWR := qh hwr
  have HRD := qh hrd
  have c1 := hrd.cell 1
  simp only [qgaq, qgzq, qgsq] at c1
  clear hq hown hwr hrd
  cases j with
  | zero =>
   go_wp2_with fail
   go_ret
   have e := HQ.out
   rw [Rd.list, List.append_nil] at e
   refine ⟨_, rfl, HWR.out, ?_, ?_⟩
   ·rw [e]; exact HRD.out
   ·rw [e, HB.out]; exact HOWN.out
  | succ m =>
   have hm0 : (0 : Int) < ((m + 1 : Nat) : Int) := by omega
   have hm1 : decide (((m + 1 : Nat) : Int) > 0) = true := qdtq (by omega)
   have hm2 : ((m + 1 : Nat) : Int) ≤ 65535 := by omega
   have hm3 : ((m + 1 : Nat) : Int) - 1 = (m : Int) := by omega
   obtain ⟨M, hM⟩ : ∃ M : Int, ((m + 1 : Nat) : Int) = M := ⟨_, rfl⟩
   rw [hM] at hm0 hm1 hm2 hm3 ⊢
   have HM3 := qh hm3
   have HM := qh hM
   clear hm3 hM
   cases hbad : rr.bad with
   | true =>
    rw [hbad] at c1
    clear hbad
    go_wp2_with fail
    go_ret
    have e := HQ.out
    have hbad : rr.bad = true := by
     have := Blk.cell HRD.out 1
     simp only [qgaq, qgzq, qgsq] at this
     rw [c1] at this
     injection this with this
     injection this with this
     exact this.symm
    rw [Rd.list, if_pos hbad, List.append_nil] at e
    refine ⟨_, rfl, HWR.out, ?_, ?_⟩
    ·rw [e]; exact HRD.out
    ·rw [e, HB.out]; exact HOWN.out
   | false =>
    rw [hbad] at c1
    have hq2 := HQ.out
    rw [Rd.list, if_neg (by rw [hbad]; decide)] at hq2
    have h0 := word_o b rr wr HRD.out
    obtain ⟨p0, hp0⟩ : ∃ p, Rd.two rr = p := ⟨_, rfl⟩
    obtain ⟨x, r'⟩ := p0
    rw [hp0] at h0 hq2
    simp only [PrcD.val, PrcD.cells, UseD.val, UseD.cells] at h0 hq2
    have HQ2 := qh hq2
    have H0 := qh h0
    clear h0 hq2 hp0 hbad
    go_wp2_with fail
    refine H0.out.mono ?_
    rintro e w1 ⟨rfl, k1, b1⟩
    have own1 := own_wrb HOWN.out k1 hbB
    have k2 := (Wr.refl [] w1).alloc (.cells #[.int .u16 x] 67)
    have own2 := own_wr0 own1 k2
    have bz := Blk.new w1 67 #[.int .u16 x]
    have hs1 : B ≤ w1.heap.size := by rw [← HB.out]; exact Nat.le_trans HWR.out.size k1.size
    obtain ⟨A', c', w3, hrun, hown', r3, _⟩ := push_obj (ys := [.int .u16 x]) Tryz.underlying26 hi0 hz0 hz1 hz2 rfl (by decide) own2 bz rfl (by intro u hu; simp only [qmcq, qnnq, or_false] at hu; rcases hu with rfl <;> rfl) (by omega) (by decide) (Nat.le_trans hs1 k2.size)
    have b3 := ((RdO.keep b1 k2 (by simp)).keep r3 (fun hx => by have := own_ge own2 _ hx; omega))
    have r4 : Wr [b] w w3 := ((HWR.out.trans k1).trans k2.nil).trans' r3 (fun q hq => .inr (by have := own_ge own2 q hq; rw [HB.out]; exact this))
    have hfin : OLsAt 67 1 (fun x : Int => [Value.int .u16 x]) Rd.two b B n r w m (.slice A' (acc.length + 1) c') w3 := by
     refine ⟨acc ++ [x], r', _, rfl, ?_, by simp only [qlaq, List.length_cons, List.length_nil]; omega, b3, ?_, r4⟩
     ·rw [HQ2.out, qapq]; rfl
     ·rw [qlaq, qfaq, qfcq, List.flatMap_nil, List.append_nil]
      exact hown'
    have HFIN := qh hfin
    have HRUN := qh hrun
    clear own1 k2 own2 bz hs1 hrun hown' r3 b3 r4 hfin k1 b1
    go_wp2_with (at_builtin; refine wpList_append_run rfl _ _ _ rfl _ _ rfl rfl _ _ HRUN.out ?_)
    refine ⟨⟨m, by rw [HM3.out], HFIN.out⟩, ?_⟩
    show (intOf (.int .i64 (M - 1))).toNat < (intOf (.int .i64 M)).toNat
    rw [HM3.out, ← HM.out]
    simp only [intOf]
    omega
theorem infoO_use : (Tryz.prog.info? 72).map (fun i => (i.zero, i.size, i.bytes)) = some (some (.agg #[.string ⟨#[]⟩, .int .u64 0]), 2, 24) := by kernel_rfl
theorem list_use (b n : Nat) (hn : n ≤ 65535) (r : Rd) (w : World) (hb : RdO w b r) :
  Calls Tryz.prog 58 #[.pointer (some ⟨b, 0, none⟩), .int .i64 (n : Int), .func (.func 60) #[.pointer (some ⟨b, 0, none⟩)] #[]] w (OListR 72 2 (fun x : UseD => x.cells) b (Rd.list Rd.use n r) w) := by
 obtain ⟨i0, hi0, hz0, hz1, hz2⟩ := info_parts infoO_use
 have hbl := hb.lt
 have hen : ∀ args w, (callFunc 60 args).run Tryz.prog w = .ok (.enter 60 args) w := fun args w => rfl
 obtain ⟨B, hB⟩ : ∃ B, w.heap.size = B := ⟨_, rfl⟩
 have HB := qh hB
 have hbB : b < B := by omega
 have HRB := qh hb
 clear hB hb hbl
 go_in
 go_wp2_with fail
 go_loopw [1, 6] (fun s1 v wr => ∃ j : Nat, s1 = .int .i64 j ∧ OLsAt 72 2 (fun x : UseD => x.cells) Rd.use b B n r w j v wr) (fun s1 _ _ => (intOf s1).toNat)
 case atStart => exact ⟨n, rfl, [], r, _, rfl, rfl, by simpa using hn, HRB.out, ⟨rfl, .inl ⟨rfl, rfl⟩⟩, Wr.refl _ _⟩
 case round =>
  obtain ⟨j, rfl, acc, rr, v, rfl, hq, hl, hrd, hown, hwr⟩ := hrel
  have HQ := qh hq
  have HOWN := qh hown
  have HWR := qh hwr
  have HRD := qh hrd
  have c1 := hrd.cell 1
  simp only [qgaq, qgzq, qgsq] at c1
  clear hq hown hwr hrd
  cases j with
  | zero =>
   go_wp2_with fail
   go_ret
   have e := HQ.out
   rw [Rd.list, List.append_nil] at e
   refine ⟨_, rfl, HWR.out, ?_, ?_⟩
   ·rw [e]; exact HRD.out
   ·rw [e, HB.out]; exact HOWN.out
  | succ m =>
   have hm0 : (0 : Int) < ((m + 1 : Nat) : Int) := by omega
   have hm1 : decide (((m + 1 : Nat) : Int) > 0) = true := qdtq (by omega)
   have hm2 : ((m + 1 : Nat) : Int) ≤ 65535 := by omega
   have hm3 : ((m + 1 : Nat) : Int) - 1 = (m : Int) := by omega
   obtain ⟨M, hM⟩ : ∃ M : Int, ((m + 1 : Nat) : Int) = M := ⟨_, rfl⟩
   rw [hM] at hm0 hm1 hm2 hm3 ⊢
   have HM3 := qh hm3
   have HM := qh hM
   clear hm3 hM
   cases hbad : rr.bad with
   | true =>
    rw [hbad] at c1
    clear hbad
    go_wp2_with fail
    go_ret
    have e := HQ.out
    have hbad : rr.bad = true := by
     have := Blk.cell HRD.out 1
     simp only [qgaq, qgzq, qgsq] at this
     rw [c1] at this
     injection this with this
     injection this with this
     exact this.symm
    rw [Rd.list, if_pos hbad, List.append_nil] at e
    refine ⟨_, rfl, HWR.out, ?_, ?_⟩
    ·rw [e]; exact HRD.out
    ·rw [e, HB.out]; exact HOWN.out
   | false =>
    rw [hbad] at c1
    have hq2 := HQ.out
    rw [Rd.list, if_neg (by rw [hbad]; decide)] at hq2
    have h0 := use_o b rr wr HRD.out
    obtain ⟨p0, hp0⟩ : ∃ p, Rd.use rr = p := ⟨_, rfl⟩
    obtain ⟨x, r'⟩ := p0
    rw [hp0] at h0 hq2
    simp only [PrcD.val, PrcD.cells, UseD.val, UseD.cells] at h0 hq2
    have HQ2 := qh hq2
    have H0 := qh h0
    clear h0 hq2 hp0 hbad
    go_wp2_with fail
    refine H0.out.mono ?_
    rintro e w1 ⟨rfl, k1, b1⟩
    have own1 := own_wrb HOWN.out k1 hbB
    have k2 := (Wr.refl [] w1).alloc (.cells #[.string x.module, .int .u64 x.key] 72)
    have own2 := own_wr0 own1 k2
    have bz := Blk.new w1 72 #[.string x.module, .int .u64 x.key]
    have hs1 : B ≤ w1.heap.size := by rw [← HB.out]; exact Nat.le_trans HWR.out.size k1.size
    obtain ⟨A', c', w3, hrun, hown', r3, _⟩ := push_obj (ys := [.string x.module, .int .u64 x.key]) Tryz.underlying23 hi0 hz0 hz1 hz2 rfl (by decide) own2 bz rfl (by intro u hu; simp only [qmcq, qnnq, or_false] at hu; rcases hu with rfl | rfl <;> rfl) (by omega) (by decide) (Nat.le_trans hs1 k2.size)
    have b3 := ((RdO.keep b1 k2 (by simp)).keep r3 (fun hx => by have := own_ge own2 _ hx; omega))
    have r4 : Wr [b] w w3 := ((HWR.out.trans k1).trans k2.nil).trans' r3 (fun q hq => .inr (by have := own_ge own2 q hq; rw [HB.out]; exact this))
    have hfin : OLsAt 72 2 (fun x : UseD => x.cells) Rd.use b B n r w m (.slice A' (acc.length + 1) c') w3 := by
     refine ⟨acc ++ [x], r', _, rfl, ?_, by simp only [qlaq, List.length_cons, List.length_nil]; omega, b3, ?_, r4⟩
     ·rw [HQ2.out, qapq]; rfl
     ·rw [qlaq, qfaq, qfcq, List.flatMap_nil, List.append_nil]
      exact hown'
    have HFIN := qh hfin
    have HRUN := qh hrun
    clear own1 k2 own2 bz hs1 hrun hown' r3 b3 r4 hfin k1 b1
    go_wp2_with (at_builtin; refine wpList_append_run rfl _ _ _ rfl _ _ rfl rfl _ _ HRUN.out ?_)
    refine ⟨⟨m, by rw [HM3.out], HFIN.out⟩, ?_⟩
    show (intOf (.int .i64 (M - 1))).toNat < (intOf (.int .i64 M)).toNat
    rw [HM3.out, ← HM.out]
    simp only [intOf]
    omega
end Go.Proofs.YtildcdgobdfieaaGreat
namespace Go.Proofs.YtildcdgobdfieaaGreat
open Go.Shelf Go.RowKit
theorem bld_size : (Tryz.prog.info? 92).map (·.size) = some 2 := by kernel_rfl
theorem bld_lies : liesAt Tryz.prog Tryz.prog.depth 92 (2 / Tryz.prog.cellsOf 92) 0 92 1 = true := by kernel_rfl
theorem bld_byte : (Tryz.prog.info? 5).map (fun i => (i.zero, i.size, i.bytes)) = some (some (.int .u8 0), 1, 1) := by kernel_rfl
theorem copyCheck_used (b : Nat) (w : World) (h0 : w.cell? ⟨b, 0, none⟩ = some (.pointer (some ⟨b, 0, none⟩))) :
  Calls Tryz.prog 77 #[.pointer (some ⟨b, 0, none⟩)] w fun e w' => e = .returned (.tuple #[]) ∧ w = w' := by
 obtain ⟨j, hj, _⟩ := Option.map_eq_some_iff.1 bld_size
 go_in
 go_wp2
 rw [Lib.run_neq_ptr_same w _ Tryz.underlying90 hj]
 go_wp2
 go_end0
 exact ⟨rfl, rfl⟩
theorem copyCheck_fresh (b : Nat) (w : World) (h0 : w.cell? ⟨b, 0, none⟩ = some (.pointer none)) (hsh : w.shape? b = some (92, 2)) (hfz : w.frozen? ⟨b, 0, none⟩ = false) :
  Calls Tryz.prog 77 #[.pointer (some ⟨b, 0, none⟩)] w fun e w' => e = .returned (.tuple #[]) ∧ w' = w.setCell ⟨b, 0, none⟩ (.pointer (some ⟨b, 0, none⟩)) := by
 obtain ⟨j, hj, hjs⟩ := Option.map_eq_some_iff.1 bld_size
 go_in
 go_wp2
 rw [Lib.run_to_unsafe w ⟨b, 0, none⟩ Tryz.underlying90 Tryz.underlying198 hj (by rw [hjs]; decide) hsh (Nat.zero_lt_succ 1)]
 simp only [Result.andThen]
 rw [Oper.upon_value]
 go_wp2
 rw [run_callFunc_extern Tryz.func103 (by kernel_rfl) (by kernel_rfl) (by kernel_rfl) (e := Extern.AbiNoEscape.same) (by kernel_rfl)]
 rw [Lib.run_noEscape]
 simp only [Result.andThen]
 rw [Oper.upon_value]
 go_wp2
 rw [Lib.run_from_unsafe w ⟨b, 0, none⟩ Tryz.underlying198 Tryz.underlying90 hj hsh bld_lies]
 simp only [Result.andThen]
 rw [Oper.upon_value]
 go_wp2
 go_end0
 exact ⟨rfl, rfl⟩
theorem copyCheck_any (B b : Nat) (bs : List Value) (w : World) (h : Lib.IsBuilder 92 5 B b bs w) :
  Calls Tryz.prog 77 #[.pointer (some ⟨b, 0, none⟩)] w fun e w' => e = .returned (.tuple #[]) ∧ (Lib.BuilderAt 92 5 B b (.pointer (some ⟨b, 0, none⟩)) bs w' ∧ Below B w w') := by
 rcases h with h | h
 ·refine (copyCheck_fresh b w h.cell0 h.shape h.frozen0).mono ?_
  rintro e w' ⟨rfl, rfl⟩
  exact ⟨rfl, h.used _, (Below.refl B w).setCell (p := ⟨b, 0, none⟩) h.1 _⟩
 ·refine (copyCheck_used b w h.cell0).mono ?_
  rintro e w' ⟨rfl, rfl⟩
  exact ⟨rfl, h, Below.refl B _⟩
theorem writeString_any (B b : Nat) (bs : List Value) (s : ByteArray) (w : World) (h : Lib.IsBuilder 92 5 B b bs w) (hlen : bs.length + s.size ≤ 140737488355328) (hBw : B ≤ w.heap.size) :
  Calls Tryz.prog 44 #[.pointer (some ⟨b, 0, none⟩), .string s] w fun e w' => e = .returned (.tuple #[.int .i64 s.size, .nilIface]) ∧ (Lib.BuilderAt 92 5 B b (.pointer (some ⟨b, 0, none⟩)) (bs ++ Lib.strCells s) w' ∧ Below B w w') := by
 obtain ⟨i0, hi, hz0, hz1, hz2⟩ := info_parts bld_byte
 have hsz : (s.size : Int) ≤ 9223372036854775807 := by omega
 go_in
 go_wp2_with fail
 refine (copyCheck_any B b bs _ h).mono ?_
 rintro e w1 ⟨rfl, h1, hb1⟩
 obtain ⟨hB, v, hbk, hown, hne⟩ := h1
 have c0 : w1.cell? ⟨b, 0, none⟩ = some (.pointer (some ⟨b, 0, none⟩)) := by rw [Lib.cell_of_heap hbk]; rfl
 have c1 : w1.cell? ⟨b, 1, none⟩ = some v := by rw [Lib.cell_of_heap hbk]; rfl
 go_wp2_with (at_builtin; refine Lib.wpList_append_own_string _ rfl _ _ 42 9 rfl B 5 i0 Tryz.underlying42 Tryz.underlying9 hi hz0 hz1 hz2 _ _ _ rfl hown s rfl ?c3 ?c4 ?c5 ?_)
 case c3 => unfold maxLen; omega
 case c4 => omega
 case c5 => have := hb1.size; omega
 intro v' w2 hown' hgrow _
 have hlt : b < w1.heap.size := by
  rcases Nat.lt_or_ge b w1.heap.size with h' | h'
  ·exact h'
  ·simp [Array.getElem?_eq_none h'] at hbk
 have hb2 : w2.heap[b]? = some (.cells #[.pointer (some ⟨b, 0, none⟩), v] 92 (0, 0)) := by
  rw [hgrow.block b hlt (fun e => hne e.symm)]
  exact hbk
 have d0 : w2.cell? ⟨b, 0, none⟩ = some (.pointer (some ⟨b, 0, none⟩)) := by rw [Lib.cell_of_heap hb2]; rfl
 have d1 : w2.cell? ⟨b, 1, none⟩ = some v := by rw [Lib.cell_of_heap hb2]; rfl
 have f1 : w2.frozen? ⟨b, 1, none⟩ = false := Lib.frozen_of_heap hb2 1
 obtain ⟨ao, n', cap, rfl⟩ : ∃ ao n' cap, v' = .slice ao n' cap := by
  rcases hown'.2 with ⟨hv, _⟩ | ⟨g, cap, cur, hv, _⟩
  ·exact ⟨_, _, _, hv⟩
  ·exact ⟨_, _, _, hv⟩
 go_wp2
 go_ret2
 refine ⟨rfl, ?_, ?_⟩
 ·exact Lib.BuilderAt.put (T := 92) (e := 5) hB hb2 (bs' := bs ++ Lib.strCells s) (by simpa [Lib.strCells_length] using hown') (by decide)
 ·exact (hb1.grown hgrow (by have := hb1.size; omega) (fun k hk => (hown.lt k hk).1)).setCell (p := ⟨b, 1, none⟩) hB _
def bld_ren : Go.Shelf.Ren := ⟨fun | 169 => 46 | n => n, fun | 70 => 90 | 9 => 9 | 0 => 0 | 72 => 92 | 37 => 42 | 127 => 147 | 3 => 3 | 5 => 5 | n => n, fun | n => n⟩
theorem bld_lays : Go.Proofs.Lays.n169 Tryz.prog bld_ren := {
 mixed := by kernel_rfl
 f169 := Tryz.func46.trans (congrArg some (by kernel_rfl))
 t0 := Tryz.underlying0
 a0 := Tryz.isAgg0
 z0 := Tryz.sizeOf0
 v0 := Tryz.zeroValue0
 t3 := Tryz.underlying3
 a3 := Tryz.isAgg3
 z3 := Tryz.sizeOf3
 v3 := Tryz.zeroValue3
 t9 := Tryz.underlying9
 a9 := Tryz.isAgg9
 z9 := Tryz.sizeOf9
 v9 := Tryz.zeroValue9
 t37 := Tryz.underlying42
 a37 := Tryz.isAgg42
 z37 := Tryz.sizeOf42
 v37 := Tryz.zeroValue42
 t70 := Tryz.underlying90
 a70 := Tryz.isAgg90
 z70 := Tryz.sizeOf90
 v70 := Tryz.zeroValue90
 t72 := Tryz.underlying92
 a72 := Tryz.isAgg92
 z72 := Tryz.sizeOf92
 v72 := Tryz.zeroValue92
 t127 := Tryz.underlying147
 a127 := Tryz.isAgg147
 z127 := Tryz.sizeOf147
 v127 := Tryz.zeroValue147 }
theorem bld_extra : Builder.Extra Tryz.prog bld_ren := {
 sizeBuilder := by kernel_rfl
 liesBuilder := by kernel_rfl
 t5 := Tryz.underlying5
 a5 := Tryz.isAgg5
 z5 := Tryz.sizeOf5
 v5 := Tryz.zeroValue5
 infoByte := by kernel_rfl
 cellsByte := by kernel_rfl
 sizeByte := by kernel_rfl
 neB5 := by decide }
theorem string_any (B b : Nat) (l : List UInt8) (w : World) (h : Lib.IsBuilder 92 5 B b (Lib.byteCells l) w) (hBw : B ≤ w.heap.size) :
  Calls Tryz.prog 46 #[.pointer (some ⟨b, 0, none⟩)] w fun e w' => e = .returned (.string ⟨l.toArray⟩) ∧ Below B w w' := Any.Builder_String_any bld_lays bld_extra B b l w h hBw
end Go.Proofs.YtildcdgobdfieaaGreat
