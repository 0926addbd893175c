/- obj's reader: module; Unpack: walked. No conditions. -/
import Derived.Test.YtildcdgobdfieaaGreatOT01
import Derived.Test.YtildcdgobdfieaaGreatOT11
import Derived.Test.YtildcdgobdfieaaGreatOT04
import Derived.Deep.RegionHeld3
import Derived.Test.YtildcdgobdfieaaGreatOT05
import Derived.StillTailTactics
import Derived.RegionTactic
import Derived.ChangeAlike
import Derived.BigRegion
set_option linter.unusedVariables false
set_option linter.unusedSimpArgs false
set_option maxRecDepth 100000
set_option maxHeartbeats 32000000
namespace Go.Proofs.YtildcdgobdfieaaGreat
open Go.RowKit
structure MdS (T : TypeId) (b z : Nat) (w : World) (r : Rd) (cs : Array Value) (wr : World) : Prop where
 blk : Blk wr z T cs
 rd : RdO wr b r
 wr : Wr [b] w wr
section
variable {T : TypeId} {b z : Nat} {w wr w' : World} {r r' : Rd} {cs : Array Value}
theorem MdS.call (h : MdS T b z w r cs wr) (k : Wr [b] wr w') (hz : z ≠ b) (b' : RdO w' b r') : MdS T b z w r' cs w' :=
 ⟨h.blk.wr k (by simpa using hz), b', h.wr.trans k⟩
theorem MdS.set (h : MdS T b z w r cs wr) (hz : z ≠ b) (hw : w.heap.size ≤ z) (j : Nat) (u : Value) : MdS T b z w r (cs.setIfInBounds j u) (wr.setCell ⟨z, j, none⟩ u) :=
 ⟨h.blk.set_ j u, Blk.far h.rd (fun e => hz e.symm) _, h.wr.setNew hw _⟩
theorem sl_own {base n size : Nat} {v : Value} {xs : List Value} (h : w.ownsRow base T size v n xs) (hb : z < base) : Sl w (fun x => z < x) size v n xs :=
 Sl.ofOwn h (fun g hg => Nat.lt_of_lt_of_le hb (own_ge h g (mem_ownL.2 hg)))
theorem sl_b {v : Value} {n size : Nat} {xs : List Value} (h : Sl w (fun x => z < x) size v n xs) (k : Wr [b] w w') (hb : b < z) : Sl w' (fun x => z < x) size v n xs :=
 h.keep k (fun x hx => by rw [List.mem_singleton]; omega)
theorem sl_z {v : Value} {n size : Nat} {xs : List Value} (h : Sl w (fun x => z < x) size v n xs) (j : Nat) (u : Value) : Sl (w.setCell ⟨z, j, none⟩ u) (fun x => z < x) size v n xs :=
 h.keep ((Wr.refl [z] w).setOn (by simp) u) (fun x hx => by rw [List.mem_singleton]; omega)
end
theorem flat_one {α : Type} (f : α → Value) (l : List α) : l.flatMap (fun x => [f x]) = l.map f := by
 induction l with
 | nil => rfl
 | cons x l ih => rw [List.flatMap_cons, ih]; rfl
def OModR (b : Nat) (q : ModD × Rd) (w : World) (e : Ending) (w' : World) : Prop :=
 ∃ vp vi vn, e = .returned (q.1.val vp vi vn) ∧ Wr [b] w w' ∧ RdO w' b q.2 ∧ ModL w' (fun x => w.heap.size ≤ x) vp vi vn q.1
theorem omodule_o (b : Nat) (r : Rd) (w : World) (hb : RdO w b r) :
  Calls Tryz.prog 61 #[.pointer (some ⟨b, 0, none⟩)] w (OModR b (Rd.module r) w) := by
 have hbl := hb.lt
 unfold Rd.module
 obtain ⟨p0, hp0⟩ : ∃ p, Rd.num r 2 = p := ⟨_, rfl⟩
 obtain ⟨v0, r0⟩ := p0
 obtain ⟨p1, hp1⟩ : ∃ p, Rd.raw r0 v0 = p := ⟨_, rfl⟩
 obtain ⟨v1, r1⟩ := p1
 obtain ⟨p2, hp2⟩ : ∃ p, Rd.num r1 2 = p := ⟨_, rfl⟩
 obtain ⟨v2, r2⟩ := p2
 obtain ⟨p3, hp3⟩ : ∃ p, Rd.list Rd.proc v2 r2 = p := ⟨_, rfl⟩
 obtain ⟨v3, r3⟩ := p3
 obtain ⟨p4, hp4⟩ : ∃ p, Rd.num r3 1 = p := ⟨_, rfl⟩
 obtain ⟨v4, r4⟩ := p4
 obtain ⟨p5, hp5⟩ : ∃ p, Rd.list Rd.one v4 r4 = p := ⟨_, rfl⟩
 obtain ⟨v5, r5⟩ := p5
 obtain ⟨p6, hp6⟩ : ∃ p, Rd.two r5 = p := ⟨_, rfl⟩
 obtain ⟨v6, r6⟩ := p6
 obtain ⟨p7, hp7⟩ : ∃ p, Rd.num r6 2 = p := ⟨_, rfl⟩
 obtain ⟨v7, r7⟩ := p7
 obtain ⟨p8, hp8⟩ : ∃ p, Rd.list Rd.two v7 r7 = p := ⟨_, rfl⟩
 obtain ⟨v8, r8⟩ := p8
 simp only [hp0, hp1, hp2, hp3, hp4, hp5, hp6, hp7, hp8]
 have l0 := num_ltO (k := 2) (by omega) r
 rw [hp0] at l0
 simp only at l0
 have l2 := num_ltO (k := 2) (by omega) r1
 rw [hp2] at l2
 simp only at l2
 have l4 := num_ltO (k := 1) (by omega) r3
 rw [hp4] at l4
 simp only at l4
 have l7 := num_ltO (k := 2) (by omega) r6
 rw [hp7] at l7
 simp only at l7
 have h0 := fun W (hW : RdO W b r) => two_o b r W hW
 unfold Rd.two at h0
 rw [hp0] at h0
 simp only at h0
 have H0 := qh h0
 have h1 := fun W (hW : RdO W b r0) => raw_o b v0 r0 (by omega) W hW
 rw [hp1] at h1
 simp only at h1
 have H1 := qh h1
 have h2 := fun W (hW : RdO W b r1) => two_o b r1 W hW
 unfold Rd.two at h2
 rw [hp2] at h2
 simp only at h2
 have H2 := qh h2
 have h3 := fun W (hW : RdO W b r2) => list_prc b v2 (by omega) r2 W hW
 unfold OListR at h3
 rw [hp3] at h3
 simp only at h3
 have H3 := qh h3
 have h4 := fun W (hW : RdO W b r3) => one_o b r3 W hW
 unfold Rd.one at h4
 rw [hp4] at h4
 simp only at h4
 have H4 := qh h4
 have h5 := fun W (hW : RdO W b r4) => list_i64 b v4 (by omega) r4 W hW
 unfold OListR at h5
 rw [hp5] at h5
 simp only at h5
 have H5 := qh h5
 have h6 := fun W (hW : RdO W b r5) => two_o b r5 W hW
 rw [hp6] at h6
 simp only at h6
 have H6 := qh h6
 have h7 := fun W (hW : RdO W b r6) => two_o b r6 W hW
 unfold Rd.two at h7
 rw [hp7] at h7
 simp only at h7
 have H7 := qh h7
 have h8 := fun W (hW : RdO W b r7) => list_u16 b v7 (by omega) r7 W hW
 unfold OListR at h8
 rw [hp8] at h8
 simp only at h8
 have H8 := qh h8
 clear h0 hp0 h1 hp1 h2 hp2 h3 hp3 h4 hp4 h5 hp5 h6 hp6 h7 hp7 h8 hp8
 obtain ⟨md, hmd⟩ : ∃ q : ModD, (⟨⟨v1.toArray⟩, v3, v5, v6, v8⟩ : ModD) = q := ⟨_, rfl⟩
 have HMD := qh hmd
 rw [hmd]
 obtain ⟨rf, hrf⟩ : ∃ q : Rd, (⟨r8.s, r8.bad || !omodB md⟩ : Rd) = q := ⟨_, rfl⟩
 rw [hrf]
 have HRF := qh hrf
 clear hmd hrf
 unfold OModR
 simp only
 have zn := Blk.new w 28 #[.string ⟨#[]⟩, .slice none 0 0, .slice none 0 0, .int .i64 0, .slice none 0 0]
 have rn := (Wr.refl [b] w).alloc (.cells #[.string ⟨#[]⟩, .slice none 0 0, .slice none 0 0, .int .i64 0, .slice none 0 0] 28)
 have bn := Blk.wr0 hb ((Wr.refl [] w).alloc (.cells #[.string ⟨#[]⟩, .slice none 0 0, .slice none 0 0, .int .i64 0, .slice none 0 0] 28))
 obtain ⟨wn, hwn⟩ : ∃ q, w.alloc (.cells #[.string ⟨#[]⟩, .slice none 0 0, .slice none 0 0, .int .i64 0, .slice none 0 0] 28) = q := ⟨_, rfl⟩
 obtain ⟨z, hz⟩ : ∃ q, w.heap.size = q := ⟨_, rfl⟩
 rw [hwn] at zn rn bn
 rw [hz] at zn
 have hzb : z ≠ b := by omega
 have hbz : b < z := by omega
 have hwz : w.heap.size ≤ z := by omega
 have M0 : Hid (MdS 28 b z w r #[.string ⟨#[]⟩, .slice none 0 0, .slice none 0 0, .int .i64 0, .slice none 0 0] wn) := qh ⟨zn, bn, rn⟩
 have HWN := qh hwn
 have HZ := qh hz
 have hmf : ∀ (fn : Fn) (first cap : Array Value) (w : World), (Instr.makeFunc fn first cap).run Tryz.prog w = .ok (.func fn first cap) w := fun _ _ _ _ => rfl
 clear hwn hz hb zn rn bn
 go_enter Tryz.func61, Tryz.ntmps61
 go_upto_region 1 with (fail)
 rw [HZ.out, HWN.out]
 go_wp2_with fail
 refine (H0.out _ M0.out.rd).mono ?_
 rintro e w1 ⟨rfl, k1, b1⟩
 have m1 := M0.out.call k1 hzb b1
 have M1 := qh m1
 clear m1 k1 b1
 go_wp2_with fail
 refine (H1.out _ M1.out.rd).mono ?_
 rintro e w2 ⟨rfl, k2, b2⟩
 have m2 := M1.out.call k2 hzb b2
 have M2 := qh m2
 clear m2 k2 b2
 have mm := M2.out
 have f0 := mm.blk.frozen 0
 have y0 := mm.blk.cell 0
 simp only [qgaq, qgzq, qgsq] at y0
 have mz := mm
 replace mz := mz.set hzb hwz 0 (.string (ansS v1))
 simp only [qsaq, qszq, qssq] at mz
 have M3 := qh mz
 clear mm mz
 go_upto_region 2 with (fail)
 generalize (w2.setCell ⟨z, 0, none⟩ (.string (ansS v1))) = w3 at *
 clear f0 y0
 go_wp2_with fail
 refine (H2.out _ M3.out.rd).mono ?_
 rintro e w4 ⟨rfl, k4, b4⟩
 have m4 := M3.out.call k4 hzb b4
 have M4 := qh m4
 clear m4 k4 b4
 go_wp2_with fail
 refine (H3.out _ M4.out.rd).mono ?_
 rintro e w5 ⟨xp, rfl, k5, b5, ownp⟩
 have slp := sl_own (z := z) ownp M4.out.blk.lt
 obtain ⟨Ap, cp, rfl, _, _⟩ := Sl.form slp
 have m5 := M4.out.call k5 hzb b5
 have M5 := qh m5
 have Lp := qh slp
 clear m5 k5 b5 slp ownp
 have mm := M5.out
 have f1 := mm.blk.frozen 1
 have y1 := mm.blk.cell 1
 simp only [qgaq, qgzq, qgsq] at y1
 have mz := mm
 replace mz := mz.set hzb hwz 1 (.slice Ap v3.length cp)
 simp only [qsaq, qszq, qssq] at mz
 have Lpn := (sl_z Lp.out 1 (.slice Ap v3.length cp))
 have Lp := qh Lpn
 clear Lpn
 have M6 := qh mz
 clear mm mz
 go_upto_region 3 with (fail)
 generalize (w5.setCell ⟨z, 1, none⟩ (.slice Ap v3.length cp)) = w6 at *
 clear f1 y1
 go_wp2_with fail
 refine (H4.out _ M6.out.rd).mono ?_
 rintro e w7 ⟨rfl, k7, b7⟩
 have m7 := M6.out.call k7 hzb b7
 have Lpn := sl_b Lp.out k7 hbz
 have Lp := qh Lpn
 clear Lpn
 have M7 := qh m7
 clear m7 k7 b7
 go_wp2_with fail
 refine (H5.out _ M7.out.rd).mono ?_
 rintro e w8 ⟨xi, rfl, k8, b8, owni⟩
 have sli := sl_own (z := z) owni M7.out.blk.lt
 rw [flat_one] at sli
 obtain ⟨Ai, ci, rfl, _, _⟩ := Sl.form sli
 have m8 := M7.out.call k8 hzb b8
 have Lpn := sl_b Lp.out k8 hbz
 have Lp := qh Lpn
 clear Lpn
 have M8 := qh m8
 have Li := qh sli
 clear m8 k8 b8 sli owni
 have mm := M8.out
 have f2 := mm.blk.frozen 2
 have y2 := mm.blk.cell 2
 simp only [qgaq, qgzq, qgsq] at y2
 have mz := mm
 replace mz := mz.set hzb hwz 2 (.slice Ai v5.length ci)
 simp only [qsaq, qszq, qssq] at mz
 have Lpn := (sl_z Lp.out 2 (.slice Ai v5.length ci))
 have Lin := (sl_z Li.out 2 (.slice Ai v5.length ci))
 have Lp := qh Lpn
 clear Lpn
 have Li := qh Lin
 clear Lin
 have M9 := qh mz
 clear mm mz
 go_upto_region 4 with (fail)
 generalize (w8.setCell ⟨z, 2, none⟩ (.slice Ai v5.length ci)) = w9 at *
 clear f2 y2
 go_wp2_with fail
 refine (H6.out _ M9.out.rd).mono ?_
 rintro e w10 ⟨rfl, k10, b10⟩
 have m10 := M9.out.call k10 hzb b10
 have Lpn := sl_b Lp.out k10 hbz
 have Lin := sl_b Li.out k10 hbz
 have Lp := qh Lpn
 clear Lpn
 have Li := qh Lin
 clear Lin
 have M10 := qh m10
 clear m10 k10 b10
 have mm := M10.out
 have f3 := mm.blk.frozen 3
 have y3 := mm.blk.cell 3
 simp only [qgaq, qgzq, qgsq] at y3
 have mz := mm
 replace mz := mz.set hzb hwz 3 (.int .i64 v6)
 simp only [qsaq, qszq, qssq] at mz
 have Lpn := (sl_z Lp.out 3 (.int .i64 v6))
 have Lin := (sl_z Li.out 3 (.int .i64 v6))
 have Lp := qh Lpn
 clear Lpn
 have Li := qh Lin
 clear Lin
 have M11 := qh mz
 clear mm mz
 go_upto_region 5 with (fail)
 generalize (w10.setCell ⟨z, 3, none⟩ (.int .i64 v6)) = w11 at *
 clear f3 y3
 go_wp2_with fail
 refine (H7.out _ M11.out.rd).mono ?_
 rintro e w12 ⟨rfl, k12, b12⟩
 have m12 := M11.out.call k12 hzb b12
 have Lpn := sl_b Lp.out k12 hbz
 have Lin := sl_b Li.out k12 hbz
 have Lp := qh Lpn
 clear Lpn
 have Li := qh Lin
 clear Lin
 have M12 := qh m12
 clear m12 k12 b12
 go_wp2_with fail
 refine (H8.out _ M12.out.rd).mono ?_
 rintro e w13 ⟨xn, rfl, k13, b13, ownn⟩
 have sln := sl_own (z := z) ownn M12.out.blk.lt
 rw [flat_one] at sln
 obtain ⟨An, cn, rfl, _, _⟩ := Sl.form sln
 have m13 := M12.out.call k13 hzb b13
 have Lpn := sl_b Lp.out k13 hbz
 have Lin := sl_b Li.out k13 hbz
 have Lp := qh Lpn
 clear Lpn
 have Li := qh Lin
 clear Lin
 have M13 := qh m13
 have Ln := qh sln
 clear m13 k13 b13 sln ownn
 have mm := M13.out
 have f4 := mm.blk.frozen 4
 have y4 := mm.blk.cell 4
 simp only [qgaq, qgzq, qgsq] at y4
 have mz := mm
 replace mz := mz.set hzb hwz 4 (.slice An v8.length cn)
 simp only [qsaq, qszq, qssq] at mz
 have Lpn := (sl_z Lp.out 4 (.slice An v8.length cn))
 have Lin := (sl_z Li.out 4 (.slice An v8.length cn))
 have Lnn := (sl_z Ln.out 4 (.slice An v8.length cn))
 have Lp := qh Lpn
 clear Lpn
 have Li := qh Lin
 clear Lin
 have Ln := qh Lnn
 clear Lnn
 have M14 := qh mz
 clear mm mz
 go_upto_region 6 with (fail)
 generalize (w13.setCell ⟨z, 4, none⟩ (.slice An v8.length cn)) = w14 at *
 clear f4 y4
 have cb := Blk.cell M14.out.rd 1
 have fb := Blk.frozen M14.out.rd 1
 simp only [qgaq, qgzq, qgsq] at cb
 cases hbad : r8.bad with
 | true =>
  rw [hbad] at cb
  have hrf2 : rf = ⟨r8.s, true⟩ := by rw [← HRF.out, hbad, Bool.true_or]
  have HRF2 := qh hrf2
  clear hbad hrf2
  have mb : MdS 28 b z w ⟨r8.s, true⟩ #[.string (ansS v1), .slice Ap v3.length cp, .slice Ai v5.length ci, .int .i64 v6, .slice An v8.length cn] (w14.setCell ⟨b, 1, none⟩ (.bool (true))) :=
   ⟨Blk.far M14.out.blk hzb _, Blk.set_ M14.out.rd 1 (.bool (true)), M14.out.wr.setOn (by simp) _⟩
  have kb : Wr [b] w14 (w14.setCell ⟨b, 1, none⟩ (.bool (true))) := (Wr.refl _ _).setOn (by simp) _
  have Lpn := sl_b Lp.out kb hbz
  have Lin := sl_b Li.out kb hbz
  have Lnn := sl_b Ln.out kb hbz
  have Lp := qh Lpn
  have Li := qh Lin
  have Ln := qh Lnn
  have MB := qh mb
  clear Lpn Lin Lnn mb kb
  go_upto_region 7 with (fail)
  generalize w14.setCell ⟨b, 1, none⟩ (.bool (true)) = wB at *
  clear cb fb
  have zf := MB.out.blk
  have y0 := zf.cell 0
  have y1 := zf.cell 1
  have y2 := zf.cell 2
  have y3 := zf.cell 3
  have y4 := zf.cell 4
  simp only [qgaq, qgzq, qgsq] at y0 y1 y2 y3 y4
  have f0 := zf.frozen 0
  have f1 := zf.frozen 1
  have f2 := zf.frozen 2
  have f3 := zf.frozen 3
  have f4 := zf.frozen 4
  clear zf
  go_wp2_with fail
  refine bodyPost_ret (v := .agg #[.string (ansS v1), .slice Ap v3.length cp, .slice Ai v5.length ci, .int .i64 v6, .slice An v8.length cn]) ?_ rfl ?_
  ·simp [results, Tryz.results61, go_sem, y0, y1, y2, y3, y4]
  ·rw [← HMD.out]
   have mz := ((((MB.out.set hzb hwz 0 (.string (ansS v1))).set hzb hwz 1 (.slice Ap v3.length cp)).set hzb hwz 2 (.slice Ai v5.length ci)).set hzb hwz 3 (.int .i64 v6)).set hzb hwz 4 (.slice An v8.length cn)
   have q1 := sl_z (sl_z (sl_z (sl_z (sl_z Lp.out 0 (.string (ansS v1))) 1 (.slice Ap v3.length cp)) 2 (.slice Ai v5.length ci)) 3 (.int .i64 v6)) 4 (.slice An v8.length cn)
   have q2 := sl_z (sl_z (sl_z (sl_z (sl_z Li.out 0 (.string (ansS v1))) 1 (.slice Ap v3.length cp)) 2 (.slice Ai v5.length ci)) 3 (.int .i64 v6)) 4 (.slice An v8.length cn)
   have q3 := sl_z (sl_z (sl_z (sl_z (sl_z Ln.out 0 (.string (ansS v1))) 1 (.slice Ap v3.length cp)) 2 (.slice Ai v5.length ci)) 3 (.int .i64 v6)) 4 (.slice An v8.length cn)
   refine ⟨_, _, _, rfl, mz.wr, ?_, q1.mono (fun x hx => by omega), q2.mono (fun x hx => by omega), q3.mono (fun x hx => by omega)⟩
   have := mz.rd
   rw [HRF2.out]; exact this
 | false =>
  rw [hbad] at cb
  have hmod : ModL w14 (fun x => z < x) (.slice Ap v3.length cp) (.slice Ai v5.length ci) (.slice An v8.length cn) ⟨⟨v1.toArray⟩, v3, v5, v6, v8⟩ := ⟨Lp.out, Li.out, Ln.out⟩
  have hcm := omod_any _ _ _ _ _ _ hmod
  unfold ModD.val ModD.cells at hcm
  rw [HMD.out] at hcm
  obtain ⟨ok, hok⟩ : ∃ q, omodB md = q := ⟨_, rfl⟩
  rw [hok] at hcm
  have hrf2 : rf = ⟨r8.s, !ok⟩ := by rw [← HRF.out, hbad, Bool.false_or, hok]
  have HRF2 := qh hrf2
  clear hbad hrf2
  have HCM := qh hcm
  have zf := M14.out.blk
  have y0 := zf.cell 0
  have y1 := zf.cell 1
  have y2 := zf.cell 2
  have y3 := zf.cell 3
  have y4 := zf.cell 4
  simp only [qgaq, qgzq, qgsq] at y0 y1 y2 y3 y4
  clear hcm hok hmod zf
  go_wp2_with fail
  have hq := HCM.out
  rw [← HMD.out] at hq
  refine hq.mono ?_
  rintro e wq ⟨rfl, kq⟩
  have mq := M14.out.call kq.nil hzb (M14.out.rd.keep kq (by simp))
  have Lpn := Lp.out.wr0 kq
  have Lin := Li.out.wr0 kq
  have Lnn := Ln.out.wr0 kq
  have Lp := qh Lpn
  have Li := qh Lin
  have Ln := qh Lnn
  have MQ := qh mq
  have cb := Blk.cell mq.rd 1
  have fb := Blk.frozen mq.rd 1
  simp only [qgaq, qgzq, qgsq] at cb
  clear y0 y1 y2 y3 y4 mq Lpn Lin Lnn kq
  cases ok with
  | true =>
   have mb : MdS 28 b z w ⟨r8.s, false⟩ #[.string (ansS v1), .slice Ap v3.length cp, .slice Ai v5.length ci, .int .i64 v6, .slice An v8.length cn] (wq.setCell ⟨b, 1, none⟩ (.bool (false))) :=
    ⟨Blk.far MQ.out.blk hzb _, Blk.set_ MQ.out.rd 1 (.bool (false)), MQ.out.wr.setOn (by simp) _⟩
   have kb : Wr [b] wq (wq.setCell ⟨b, 1, none⟩ (.bool (false))) := (Wr.refl _ _).setOn (by simp) _
   have Lpn := sl_b Lp.out kb hbz
   have Lin := sl_b Li.out kb hbz
   have Lnn := sl_b Ln.out kb hbz
   have Lp := qh Lpn
   have Li := qh Lin
   have Ln := qh Lnn
   have MB := qh mb
   clear Lpn Lin Lnn mb kb
   go_upto_region 7 with (fail)
   generalize wq.setCell ⟨b, 1, none⟩ (.bool (false)) = wB at *
   clear cb fb
   have zf := MB.out.blk
   have y0 := zf.cell 0
   have y1 := zf.cell 1
   have y2 := zf.cell 2
   have y3 := zf.cell 3
   have y4 := zf.cell 4
   simp only [qgaq, qgzq, qgsq] at y0 y1 y2 y3 y4
   have f0 := zf.frozen 0
   have f1 := zf.frozen 1
   have f2 := zf.frozen 2
   have f3 := zf.frozen 3
   have f4 := zf.frozen 4
   clear zf
   go_wp2_with fail
   refine bodyPost_ret (v := .agg #[.string (ansS v1), .slice Ap v3.length cp, .slice Ai v5.length ci, .int .i64 v6, .slice An v8.length cn]) ?_ rfl ?_
   ·simp [results, Tryz.results61, go_sem, y0, y1, y2, y3, y4]
   ·rw [← HMD.out]
    have mz := ((((MB.out.set hzb hwz 0 (.string (ansS v1))).set hzb hwz 1 (.slice Ap v3.length cp)).set hzb hwz 2 (.slice Ai v5.length ci)).set hzb hwz 3 (.int .i64 v6)).set hzb hwz 4 (.slice An v8.length cn)
    have q1 := sl_z (sl_z (sl_z (sl_z (sl_z Lp.out 0 (.string (ansS v1))) 1 (.slice Ap v3.length cp)) 2 (.slice Ai v5.length ci)) 3 (.int .i64 v6)) 4 (.slice An v8.length cn)
    have q2 := sl_z (sl_z (sl_z (sl_z (sl_z Li.out 0 (.string (ansS v1))) 1 (.slice Ap v3.length cp)) 2 (.slice Ai v5.length ci)) 3 (.int .i64 v6)) 4 (.slice An v8.length cn)
    have q3 := sl_z (sl_z (sl_z (sl_z (sl_z Ln.out 0 (.string (ansS v1))) 1 (.slice Ap v3.length cp)) 2 (.slice Ai v5.length ci)) 3 (.int .i64 v6)) 4 (.slice An v8.length cn)
    refine ⟨_, _, _, rfl, mz.wr, ?_, q1.mono (fun x hx => by omega), q2.mono (fun x hx => by omega), q3.mono (fun x hx => by omega)⟩
    have := mz.rd
    rw [HRF2.out]; exact this
  | false =>
   have mb : MdS 28 b z w ⟨r8.s, true⟩ #[.string (ansS v1), .slice Ap v3.length cp, .slice Ai v5.length ci, .int .i64 v6, .slice An v8.length cn] (wq.setCell ⟨b, 1, none⟩ (.bool (true))) :=
    ⟨Blk.far MQ.out.blk hzb _, Blk.set_ MQ.out.rd 1 (.bool (true)), MQ.out.wr.setOn (by simp) _⟩
   have kb : Wr [b] wq (wq.setCell ⟨b, 1, none⟩ (.bool (true))) := (Wr.refl _ _).setOn (by simp) _
   have Lpn := sl_b Lp.out kb hbz
   have Lin := sl_b Li.out kb hbz
   have Lnn := sl_b Ln.out kb hbz
   have Lp := qh Lpn
   have Li := qh Lin
   have Ln := qh Lnn
   have MB := qh mb
   clear Lpn Lin Lnn mb kb
   go_upto_region 7 with (fail)
   generalize wq.setCell ⟨b, 1, none⟩ (.bool (true)) = wB at *
   clear cb fb
   have zf := MB.out.blk
   have y0 := zf.cell 0
   have y1 := zf.cell 1
   have y2 := zf.cell 2
   have y3 := zf.cell 3
   have y4 := zf.cell 4
   simp only [qgaq, qgzq, qgsq] at y0 y1 y2 y3 y4
   have f0 := zf.frozen 0
   have f1 := zf.frozen 1
   have f2 := zf.frozen 2
   have f3 := zf.frozen 3
   have f4 := zf.frozen 4
   clear zf
   go_wp2_with fail
   refine bodyPost_ret (v := .agg #[.string (ansS v1), .slice Ap v3.length cp, .slice Ai v5.length ci, .int .i64 v6, .slice An v8.length cn]) ?_ rfl ?_
   ·simp [results, Tryz.results61, go_sem, y0, y1, y2, y3, y4]
   ·rw [← HMD.out]
    have mz := ((((MB.out.set hzb hwz 0 (.string (ansS v1))).set hzb hwz 1 (.slice Ap v3.length cp)).set hzb hwz 2 (.slice Ai v5.length ci)).set hzb hwz 3 (.int .i64 v6)).set hzb hwz 4 (.slice An v8.length cn)
    have q1 := sl_z (sl_z (sl_z (sl_z (sl_z Lp.out 0 (.string (ansS v1))) 1 (.slice Ap v3.length cp)) 2 (.slice Ai v5.length ci)) 3 (.int .i64 v6)) 4 (.slice An v8.length cn)
    have q2 := sl_z (sl_z (sl_z (sl_z (sl_z Li.out 0 (.string (ansS v1))) 1 (.slice Ap v3.length cp)) 2 (.slice Ai v5.length ci)) 3 (.int .i64 v6)) 4 (.slice An v8.length cn)
    have q3 := sl_z (sl_z (sl_z (sl_z (sl_z Ln.out 0 (.string (ansS v1))) 1 (.slice Ap v3.length cp)) 2 (.slice Ai v5.length ci)) 3 (.int .i64 v6)) 4 (.slice An v8.length cn)
    refine ⟨_, _, _, rfl, mz.wr, ?_, q1.mono (fun x hx => by omega), q2.mono (fun x hx => by omega), q3.mono (fun x hx => by omega)⟩
    have := mz.rd
    rw [HRF2.out]; exact this
end Go.Proofs.YtildcdgobdfieaaGreat

namespace Go.Proofs.YtildcdgobdfieaaGreat
open Go.RowKit
theorem wr_set5 (w : World) (z : Nat) (u0 u1 u2 u3 u4 : Value) : Wr [z] w (((((w.setCell ⟨z, 0, none⟩ u0).setCell ⟨z, 1, none⟩ u1).setCell ⟨z, 2, none⟩ u2).setCell ⟨z, 3, none⟩ u3).setCell ⟨z, 4, none⟩ u4) :=
 (((((Wr.refl [z] w).setOn (by simp) _).setOn (by simp) _).setOn (by simp) _).setOn (by simp) _).setOn (by simp) _
theorem blk_set5 {w : World} {z : Nat} {T : TypeId} {x0 x1 x2 x3 x4 : Value} (h : Blk w z T #[x0, x1, x2, x3, x4]) (u0 u1 u2 u3 u4 : Value) : Blk (((((w.setCell ⟨z, 0, none⟩ u0).setCell ⟨z, 1, none⟩ u1).setCell ⟨z, 2, none⟩ u2).setCell ⟨z, 3, none⟩ u3).setCell ⟨z, 4, none⟩ u4) z T #[u0, u1, u2, u3, u4] := by
 have := ((((h.set_ 0 u0).set_ 1 u1).set_ 2 u2).set_ 3 u3).set_ 4 u4
 simpa using this
def UnpR (l : List UInt8) (w : World) (e : Ending) (w' : World) : Prop :=
 ∃ vp vi vn, e = .returned (.tuple #[(unpackP l).1.val vp vi vn, .string (ansS (unpackP l).2.1), .int .i64 (unpackP l).2.2]) ∧ Wr [] w w' ∧ ModL w' (fun x => w.heap.size ≤ x) vp vi vn (unpackP l).1
theorem unpack_any (l : List UInt8) (w : World) :
  Calls Tryz.prog 21 #[.string (ansS l)] w (UnpR l w) := by
 obtain ⟨q, hq⟩ : ∃ q, unpackP l = q := ⟨_, rfl⟩
 unfold UnpR
 rw [hq]
 have HQ := qh hq
 have zn := Blk.new w 28 #[.string ⟨#[]⟩, .slice none 0 0, .slice none 0 0, .int .i64 0, .slice none 0 0]
 have rn := (Wr.refl [] w).alloc (.cells #[.string ⟨#[]⟩, .slice none 0 0, .slice none 0 0, .int .i64 0, .slice none 0 0] 28)
 obtain ⟨wn, hwn⟩ : ∃ q, w.alloc (.cells #[.string ⟨#[]⟩, .slice none 0 0, .slice none 0 0, .int .i64 0, .slice none 0 0] 28) = q := ⟨_, rfl⟩
 obtain ⟨z, hz⟩ : ∃ q, w.heap.size = q := ⟨_, rfl⟩
 rw [hwn] at zn rn
 rw [hz] at zn
 have bn := Blk.new wn 109 #[.string (ansS l), .bool false]
 have zb := zn.wr0 ((Wr.refl [] wn).alloc (.cells #[.string (ansS l), .bool false] 109))
 have rb := rn.alloc (.cells #[.string (ansS l), .bool false] 109)
 have hzlt := zn.lt
 obtain ⟨wb, hwb⟩ : ∃ q, wn.alloc (.cells #[.string (ansS l), .bool false] 109) = q := ⟨_, rfl⟩
 obtain ⟨b, hb⟩ : ∃ q, wn.heap.size = q := ⟨_, rfl⟩
 rw [hwb] at bn zb rb
 rw [hb] at bn
 have hmo := omodule_o b ⟨l, false⟩ wb bn
 have hbz : z < b := by omega
 have hwz : w.heap.size ≤ z := by omega
 have hwb2 : w.heap.size ≤ b := by omega
 have HWN := qh hwn
 have HZ := qh hz
 have HWB := qh hwb
 have HB := qh hb
 have HMO := qh hmo
 have ZB := qh zb
 have RB := qh rb
 clear hq hwn hz hwb hb hmo zn rn bn zb rb hzlt
 go_enter Tryz.func21, Tryz.ntmps21
 go_upto_region 1 with (fail)
 rw [HZ.out, HWN.out]
 go_upto_region 2 with (fail)
 rw [HB.out, HWB.out]
 go_wp2_with fail
 refine HMO.out.mono ?_
 rintro e w1 ⟨vp, vi, vn, rfl, k1, b1, ml⟩
 have huq : unpackP l = if (Rd.module ⟨l, false⟩).2.bad then (zeroMod, [], 7) else ((Rd.module ⟨l, false⟩).1, (Rd.module ⟨l, false⟩).2.s, 0) := rfl
 rw [HQ.out] at huq
 obtain ⟨qq, hqq⟩ : ∃ p, Rd.module ⟨l, false⟩ = p := ⟨_, rfl⟩
 obtain ⟨md, rs, rbad⟩ := qq
 rw [hqq] at b1 ml huq ⊢
 simp only at ml huq ⊢
 obtain ⟨Ap, cp, rfl, _, _⟩ := Sl.form ml.procs
 obtain ⟨Ai, ci, rfl, _, _⟩ := Sl.form ml.imports
 obtain ⟨An, cn, rfl, _, _⟩ := Sl.form ml.init
 unfold ModD.val ModD.cells
 have z1 := ZB.out.wr k1 (by rw [List.mem_singleton]; omega)
 have hz1 := z1.lt
 have hb1 := b1.lt
 have bm := Blk.new w1 28 #[.string md.code, .slice Ap md.procs.length cp, .slice Ai md.imports.length ci, .int .i64 md.data, .slice An md.init.length cn]
 have km := (Wr.refl [] w1).alloc (.cells #[.string md.code, .slice Ap md.procs.length cp, .slice Ai md.imports.length ci, .int .i64 md.data, .slice An md.init.length cn] 28)
 have zm := z1.wr0 km
 have rm := (RB.out.nil (l := [b])).trans (k1.trans km.nil)
 have b2 := Blk.wr0 b1 km
 have mlm := ml.wr0 km
 have HUQ := qh huq
 have HLT : Hid (z < wb.heap.size ∧ w.heap.size ≤ z) := qh ⟨ZB.out.lt, hwz⟩
 have KM := qh km
 clear hqq huq ml k1 b1 z1 km
 go_upto_region 3 with (fail)
 generalize w1.alloc (.cells #[.string md.code, .slice Ap md.procs.length cp, .slice Ai md.imports.length ci, .int .i64 md.data, .slice An md.init.length cn] 28) = wm at *
 have hmne : z ≠ w1.heap.size := by omega
 have hmnb : b ≠ w1.heap.size := by omega
 generalize w1.heap.size = zm0 at *
 have hbne : b ≠ z := by omega
 have hmne2 := Ne.symm hmne
 have hmnb2 := Ne.symm hmnb
 have hbne2 := Ne.symm hbne
 have m0 := (bm).cell 0
 have m1 := (bm).cell 1
 have m2 := (bm).cell 2
 have m3 := (bm).cell 3
 have m4 := (bm).cell 4
 simp only [qgaq, qgzq, qgsq] at m0 m1 m2 m3 m4
 have g0 := (bm).frozen 0
 have g1 := (bm).frozen 1
 have g2 := (bm).frozen 2
 have g3 := (bm).frozen 3
 have g4 := (bm).frozen 4
 have y0 := (zm).cell 0
 have y1 := (zm).cell 1
 have y2 := (zm).cell 2
 have y3 := (zm).cell 3
 have y4 := (zm).cell 4
 simp only [qgaq, qgzq, qgsq] at y0 y1 y2 y3 y4
 have f0 := (zm).frozen 0
 have f1 := (zm).frozen 1
 have f2 := (zm).frozen 2
 have f3 := (zm).frozen 3
 have f4 := (zm).frozen 4
 have d0 := Blk.cell b2 0
 have d1 := Blk.cell b2 1
 simp only [qgaq, qgzq, qgsq] at d0 d1
 have wrf : ∀ u0 u1 u2 u3 u4, Wr [] w (((((wm.setCell ⟨z, 0, none⟩ u0).setCell ⟨z, 1, none⟩ u1).setCell ⟨z, 2, none⟩ u2).setCell ⟨z, 3, none⟩ u3).setCell ⟨z, 4, none⟩ u4) := fun u0 u1 u2 u3 u4 =>
  (rm.trans' (wr_set5 wm z u0 u1 u2 u3 u4) (fun x hx => .inr (by rw [List.mem_singleton] at hx; omega))).trans' (Wr.refl [] _) (fun _ h => by cases h) |> fun h => ⟨h.os, h.tape, h.output, h.size, fun k hk _ => h.block k hk (by rw [List.mem_singleton]; omega)⟩
 have WRF := qh wrf
 have ZM := qh zm
 have MLM := qh mlm
 clear wrf zm bm b2 rm mlm
 cases rbad with
 | true =>
  go_wp2_with fail
  refine bodyPost_ret (v := .tuple #[.agg #[.string ⟨#[]⟩, .slice none 0 0, .slice none 0 0, .int .i64 0, .slice none 0 0], .string ⟨#[]⟩, .int .i64 7]) ?_ rfl ?_
  ·have h9 := blk_set5 ZM.out (.string ⟨#[]⟩) (.slice none 0 0) (.slice none 0 0) (.int .i64 0) (.slice none 0 0)
   have t0 := (h9).cell 0
   have t1 := (h9).cell 1
   have t2 := (h9).cell 2
   have t3 := (h9).cell 3
   have t4 := (h9).cell 4
   simp only [qgaq, qgzq, qgsq] at t0 t1 t2 t3 t4
   simp [results, Tryz.results21, go_sem, t0, t1, t2, t3, t4]
  ·rw [HUQ.out]
   exact ⟨_, _, _, rfl, WRF.out _ _ _ _ _, ⟨Sl.nil _ _ 6, Sl.nil _ _ 1, Sl.nil _ _ 1⟩⟩
 | false =>
  go_upto_region 5 with (fail)
  go_region
  all_goals
   go_wp2_with fail
   refine bodyPost_ret (v := .tuple #[.agg #[.string md.code, .slice Ap md.procs.length cp, .slice Ai md.imports.length ci, .int .i64 md.data, .slice An md.init.length cn], .string (ansS rs), .int .i64 0]) ?_ rfl ?_
   ·have h9 := (blk_set5 ZM.out (.string md.code) (.slice Ap md.procs.length cp) (.slice Ai md.imports.length ci) (.int .i64 md.data) (.slice An md.init.length cn)).drew
    have t0 := (h9).cell 0
    have t1 := (h9).cell 1
    have t2 := (h9).cell 2
    have t3 := (h9).cell 3
    have t4 := (h9).cell 4
    simp only [qgaq, qgzq, qgsq] at t0 t1 t2 t3 t4
    simp [results, Tryz.results21, go_sem, t0, t1, t2, t3, t4]
    rfl
   ·rw [HUQ.out]
    refine ⟨_, _, _, rfl, (WRF.out _ _ _ _ _).drew, ?_⟩
    have kz : Wr [z] wm (((((wm.setCell ⟨z, 0, none⟩ (.string md.code)).setCell ⟨z, 1, none⟩ (.slice Ap md.procs.length cp)).setCell ⟨z, 2, none⟩ (.slice Ai md.imports.length ci)).setCell ⟨z, 3, none⟩ (.int .i64 md.data)).setCell ⟨z, 4, none⟩ (.slice An md.init.length cn)).drew := (wr_set5 wm z _ _ _ _ _).drew
    exact (MLM.out.keep kz (fun x hx => by rw [List.mem_singleton]; have := HLT.out; omega)).into (fun x hx _ => by have := HLT.out; omega)
theorem ansS_list (l : List UInt8) : (ansS l).toList = l := ByteArray.toList_mk l
theorem ansS_take (l : List UInt8) (n : Nat) : (ansS l).extract 0 n = ansS (l.take n) := by
 apply ByteArray.ext
 rw [ByteArray.data_extract]
 simp [ansS]
theorem ansS_drop (l : List UInt8) (n : Nat) : (ansS l).extract n (ansS l).size = ansS (l.drop n) := by
 rw [ansS_size]
 apply ByteArray.ext
 rw [ByteArray.data_extract]
 simp [ansS]
 exact List.take_of_length_le (by simp)
theorem body_no (kd l : List UInt8) (hl : l.length ≤ maxLen) (h : headP kd l = none) (w : World) :
  Calls Tryz.prog 54 #[.string (ansS l), .string (ansS kd)] w fun e w' => e = .returned (.tuple #[.string ⟨#[]⟩, .int .u64 0, .int .i64 7]) ∧ Wr [] w w' := by
 unfold maxLen at hl
 have hsz := ansS_size l
 have htk := ansS_take l 4
 have hq : l.length < 12 ∨ l.take 4 ≠ kd := by
  unfold headP at h
  by_cases c : l.length < 12 ∨ l.take 4 ≠ kd
  ·exact c
  ·rw [if_neg c] at h; cases h
 obtain ⟨S, hS⟩ : ∃ q, ansS l = q := ⟨_, rfl⟩
 obtain ⟨K, hK⟩ : ∃ q, ansS kd = q := ⟨_, rfl⟩
 rw [hS] at hsz htk ⊢
 rw [hK]
 by_cases c : l.length < 12
 ·have e0 : (S.size : Int) < 12 := by omega
  clear htk hS hK h hq hsz
  go_enter Tryz.func54, Tryz.ntmps54
  go_wp2_with fail
  go_ret3
  exact ⟨rfl, Wr.refl _ _⟩
 ·have e0 : ¬ (S.size : Int) < 12 := by omega
  have e1 : (4 : Int) ≤ (S.size : Int) := by omega
  have hne : l.take 4 ≠ kd := hq.resolve_left c
  obtain ⟨A, hA⟩ : ∃ q, ansS (l.take 4) = q := ⟨_, rfl⟩
  rw [hA] at htk
  have n1 : ¬ A.toList = K.toList := by rw [← hA, ← hK, ansS_list, ansS_list]; exact hne
  have n2 : (A.toList == K.toList) = false := by simp [n1]
  clear hS hK h hq hsz hA hne c
  go_enter Tryz.func54, Tryz.ntmps54
  go_wp2_with fail
  go_ret3
  exact ⟨rfl, Wr.refl _ _⟩
theorem body_yes (kd l : List UInt8) (hl : l.length ≤ maxLen) (k : Nat) (rest : List UInt8) (h : headP kd l = some (k, rest)) (w : World) :
  Calls Tryz.prog 54 #[.string (ansS l), .string (ansS kd)] w fun e w' => e = .returned (.tuple #[.string (ansS rest), .int .u64 (k : Int), .int .i64 0]) ∧ Wr [] w w' := by
 unfold maxLen at hl
 have hsz := ansS_size l
 have htk := ansS_take l 4
 have hdr := ansS_drop l 4
 have hq : ¬ (l.length < 12 ∨ l.take 4 ≠ kd) ∧ valN ((l.drop 4).take 8) = k ∧ l.drop 12 = rest := by
  unfold headP at h
  by_cases c : l.length < 12 ∨ l.take 4 ≠ kd
  ·rw [if_pos c] at h; cases h
  ·rw [if_neg c] at h
   simp only [Option.some.injEq, Prod.mk.injEq] at h
   exact ⟨c, h⟩
 obtain ⟨h1, h2, h3⟩ := hq
 have h12 : ¬ l.length < 12 := fun c => h1 (.inl c)
 have hkd : l.take 4 = kd := Classical.byContradiction fun c => h1 (.inr c)
 have hnum : (Rd.mk (l.drop 4) false).num 8 = (k, ⟨rest, false⟩) := by
  unfold Rd.num Rd.raw
  rw [if_neg (by rw [List.length_drop]; simp; omega)]
  simp only [List.drop_drop]
  rw [h2, ← h3]
 obtain ⟨S, hS⟩ : ∃ q, ansS l = q := ⟨_, rfl⟩
 obtain ⟨K, hK⟩ : ∃ q, ansS kd = q := ⟨_, rfl⟩
 rw [hS] at hsz htk hdr ⊢
 rw [hK]
 obtain ⟨A, hA⟩ : ∃ q, ansS (l.take 4) = q := ⟨_, rfl⟩
 rw [hA] at htk
 have n1 : A.toList = K.toList := by rw [← hA, ← hK, hkd]
 have n2 : (A.toList == K.toList) = true := by simp [n1]
 have e0 : ¬ (S.size : Int) < 12 := by omega
 have e1 : (4 : Int) ≤ (S.size : Int) := by omega
 have bn := Blk.new w 109 #[.string (ansS (l.drop 4)), .bool false]
 have rb := (Wr.refl [] w).alloc (.cells #[.string (ansS (l.drop 4)), .bool false] 109)
 obtain ⟨wb, hwb⟩ : ∃ q, w.alloc (.cells #[.string (ansS (l.drop 4)), .bool false] 109) = q := ⟨_, rfl⟩
 obtain ⟨b, hb⟩ : ∃ q, w.heap.size = q := ⟨_, rfl⟩
 rw [hwb] at bn rb
 rw [hb] at bn
 have hno := number_o b 8 ⟨l.drop 4, false⟩ (by decide) wb bn
 rw [hnum] at hno
 simp only at hno
 have HNO := qh hno
 have HWB := qh hwb
 have HB := qh hb
 have hwb2 : w.heap.size ≤ b := by omega
 have RB := qh rb
 have N1 := n1
 clear hS hK h hsz hA h1 h2 h3 h12 hkd hnum hwb hb hno bn rb n1
 go_enter Tryz.func54, Tryz.ntmps54
 go_upto_region 4 with (fail)
 rw [HB.out, HWB.out]
 go_wp2_with fail
 refine HNO.out.mono ?_
 rintro e w1 ⟨rfl, k1, b1⟩
 have c0 := Blk.cell b1 0
 simp only [qgaq, qgzq, qgsq] at c0
 have hfin : Wr [] w w1 := ⟨k1.os.trans RB.out.os, k1.tape.trans RB.out.tape, k1.output.trans RB.out.output, Nat.le_trans RB.out.size k1.size, fun j hj _ => (k1.block j (Nat.lt_of_lt_of_le hj RB.out.size) (by rw [List.mem_singleton]; omega)).trans (RB.out.block j hj (by simp))⟩
 have HFIN := qh hfin
 clear hfin k1 b1
 go_wp2_with fail
 go_ret3
 exact ⟨rfl, HFIN.out⟩
end Go.Proofs.YtildcdgobdfieaaGreat
