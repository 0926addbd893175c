/- ref 14's Decode: walked. No conditions. -/
import Derived.Test.YtildcdgobdfieaaGreatRD32
set_option linter.unusedVariables false
set_option linter.unusedSimpArgs false
set_option maxRecDepth 100000
set_option maxHeartbeats 32000000
namespace Go.Proofs.YtildcdgobdfieaaGreat
open Go.RowKit
def Rd.pitm (r : Rd) : PItm × Rd :=
 let a := r.text
 let b := a.2.num 1
 let c := b.2.four
 let d := c.2.four
 let e := d.2.pval
 (⟨a.1, (b.1 : Int), c.1, d.1, e.1⟩, e.2)
def Rd.pface (r : Rd) : FaceP × Rd :=
 let a := r.text
 let b := a.2.lst Rd.use
 let c := b.2.lst Rd.ty
 let d := c.2.lst Rd.pitm
 (⟨a.1, b.1, c.1, d.1⟩, d.2)
def noFaceP : FaceP := ⟨⟨#[]⟩, [], [], []⟩
def rdecQ (f : FaceP) (r : Rd) : FaceP × Int := if r.bad || !r.s.isEmpty || !decide (rmayP f = 0) then (noFaceP, 7) else (f, 0)
def rdecP (l : List UInt8) : FaceP × Int := rdecQ (Rd.pface ⟨l, false⟩).1 (Rd.pface ⟨l, false⟩).2
def RDecR (q : FaceP × Int) (w : World) (e : Ending) (w' : World) : Prop :=
 ∃ vu vt vi, e = .returned (.tuple #[.agg #[.string q.1.module, vu, vt, vi], .int .i64 q.2]) ∧ Wr [] w w' ∧ FacePL w' (fun q => w.heap.size ≤ q) vu vt vi q.1
theorem face_pl {w : World} {P Q : Nat → Prop} {vu vt vi : Value} {f : FaceP} (h1 : SlRel (CRel UseD.cellsF) w P 2 vu f.uses) (h2 : SlRel TyRel w P 12 vt f.types) (h3 : SlRel (CRel PItm.cells) w P 8 vi f.items) (hP : ∀ b, P b → Q b) : FacePL w Q vu vt vi f := by
 have a1 := SlRel.flat (cells := UseD.cellsF) (size := 2) (by decide) (fun _ => rfl) h1
 have a3 := SlRel.flat (cells := PItm.cells) (size := 8) (by decide) (fun _ => rfl) h3
 exact ⟨Sl.mono a1 hP, h2.tys.into (fun b hb _ => hP b hb), Sl.mono a3 hP⟩
theorem noFacePL (w : World) (P : Nat → Prop) : FacePL w P (.slice none 0 0) (.slice none 0 0) (.slice none 0 0) noFaceP := ⟨Sl.nil _ _ _, ⟨[], Sl.nil _ _ _, by simp, fun i x h => by simp [noFaceP] at h⟩, Sl.nil _ _ _⟩
theorem ty_rel {w6 wr W0 wc : World} {vn vf va vp v : Value} {x : Ty} {l : List Ty} {P : Nat → Prop} (h : Lists w6 (fun q => wr.heap.size ≤ q) vn vf va vp x)
  (ho : RowAt TyRel 12 W0.heap.size 129 v l wr) (h1 : W0.heap.size ≤ wr.heap.size) : TyRel w6 (fun bl => W0.heap.size ≤ bl ∧ v.ownBlock ≠ some bl) (x.cells vn vf va vp) x := by
 obtain ⟨_, _, _, hv⟩ := ho.form
 exact ⟨_, _, _, _, rfl, h.mono (fun bl hb => ⟨by omega, fun e => by have := (hv bl (mem_ownL.2 e)).2; omega⟩)⟩
theorem rdec_any (l0 : List UInt8) (w : World) : Calls Tryz.prog 67 #[.string (ansS l0)] w (RDecR (rdecP l0) w) := by
 unfold rdecP
 obtain ⟨y, hy⟩ : ∃ q, w.heap.size = q := ⟨_, rfl⟩
 obtain ⟨wn, hwn⟩ : ∃ q, w.alloc (.cells #[.string ⟨#[]⟩, .slice none 0 0, .slice none 0 0, .slice none 0 0] 60) = q := ⟨_, rfl⟩
 have yn : Blk wn y 60 #[.string ⟨#[]⟩, .slice none 0 0, .slice none 0 0, .slice none 0 0] := by rw [← hwn, ← hy]; exact Blk.new _ _ _
 have kn : Wr [] w wn := by rw [← hwn]; exact (Wr.refl _ _).alloc _
 obtain ⟨b, hb⟩ : ∃ q, wn.heap.size = q := ⟨_, rfl⟩
 obtain ⟨wb, hwb⟩ : ∃ q, wn.alloc (.cells #[.string (ansS l0), .bool false] 166) = q := ⟨_, rfl⟩
 have kb : Wr [] wn wb := by rw [← hwb]; exact (Wr.refl _ _).alloc _
 have bn : RdG wb b ⟨l0, false⟩ := by rw [← hwb, ← hb]; exact Blk.new _ _ _
 have yb := yn.wr0 kb
 have hby0 : y < b := by have := yn.lt; omega
 have hby : b ≠ y := by omega
 have hwb0 : w.heap.size ≤ b := by omega
 have hwy : w.heap.size ≤ y := by omega
 have KB := qh (kn.trans kb)
 have HWN := qh hwn
 have HWB := qh hwb
 have HY := qh hy
 have HB := qh hb
 clear hy hwn yn kn hb hwb kb
 obtain ⟨p0, hp0⟩ : ∃ p, Rd.text (Rd.mk l0 false) = p := ⟨_, rfl⟩
 obtain ⟨m, r0⟩ := p0
 obtain ⟨p1, hp1⟩ : ∃ p, Rd.num r0 2 = p := ⟨_, rfl⟩
 obtain ⟨n1, r1⟩ := p1
 obtain ⟨p2, hp2⟩ : ∃ p, Rd.list Rd.use n1 r1 = p := ⟨_, rfl⟩
 obtain ⟨l1, r2⟩ := p2
 obtain ⟨p3, hp3⟩ : ∃ p, Rd.num r2 2 = p := ⟨_, rfl⟩
 obtain ⟨n2, r3⟩ := p3
 obtain ⟨p4, hp4⟩ : ∃ p, Rd.list Rd.ty n2 r3 = p := ⟨_, rfl⟩
 obtain ⟨l2, r4⟩ := p4
 obtain ⟨p5, hp5⟩ : ∃ p, Rd.num r4 2 = p := ⟨_, rfl⟩
 obtain ⟨n3, r5⟩ := p5
 obtain ⟨p6, hp6⟩ : ∃ p, Rd.list Rd.pitm n3 r5 = p := ⟨_, rfl⟩
 obtain ⟨l3, r6⟩ := p6
 have hq : Rd.pface ⟨l0, false⟩ = (⟨m, l1, l2, l3⟩, r6) := by unfold Rd.pface Rd.lst; simp only [hp0, hp1, hp2, hp3, hp4, hp5, hp6] 
 rw [hq]
 clear hq
 simp only
 obtain ⟨ans, hans⟩ : ∃ q, rdecQ ⟨m, l1, l2, l3⟩ r6 = q := ⟨_, rfl⟩
 rw [hans]
 have HANS := qh hans
 clear hans
 have h0 := fun W (hW : (fun w r => RdG w b r) W (Rd.mk l0 false)) => text_g b (Rd.mk l0 false) W hW
 rw [hp0] at h0
 simp only at h0
 have H0 := qh h0
 clear h0
 have q1 := num_ltO (k := 2) (by omega) r0
 rw [hp1] at q1
 simp only at q1
 have h1 := fun W (hW : (fun w r => RdG w b r) W r0) => number_g b 2 r0 (by decide) W hW
 rw [hp1] at h1
 simp only at h1
 have H1 := qh h1
 clear h1
 have HL2 := qh hp2
 have q3 := num_ltO (k := 2) (by omega) r2
 rw [hp3] at q3
 simp only at q3
 have h3 := fun W (hW : (fun w r => RdG w b r) W r2) => number_g b 2 r2 (by decide) W hW
 rw [hp3] at h3
 simp only at h3
 have H3 := qh h3
 clear h3
 have HL4 := qh hp4
 have q5 := num_ltO (k := 2) (by omega) r4
 rw [hp5] at q5
 simp only at q5
 have h5 := fun W (hW : (fun w r => RdG w b r) W r4) => number_g b 2 r4 (by decide) W hW
 rw [hp5] at h5
 simp only at h5
 have H5 := qh h5
 clear h5
 have HL6 := qh hp6
 clear hp0 hp1 hp2 hp3 hp4 hp5 hp6
 have CN1 := qh (show IntKind.i64.wrap (n1 : Int) = (n1 : Int) ∧ wrap64 (n1 : Int) = (n1 : Int) from ⟨by rw [IntKind.wrap_i64]; omega, by unfold wrap64; omega⟩)
 have CN2 := qh (show IntKind.i64.wrap (n2 : Int) = (n2 : Int) ∧ wrap64 (n2 : Int) = (n2 : Int) from ⟨by rw [IntKind.wrap_i64]; omega, by unfold wrap64; omega⟩)
 have CN3 := qh (show IntKind.i64.wrap (n3 : Int) = (n3 : Int) ∧ wrap64 (n3 : Int) = (n3 : Int) from ⟨by rw [IntKind.wrap_i64]; omega, by unfold wrap64; omega⟩)
 go_in
 go_upto_region 1 with (fail)
 rw [HY.out, HWN.out]
 go_upto_region 2 with (fail)
 rw [HB.out, HWB.out]
 go_wp2_with fail
 refine (H0.out _ bn).mono ?_
 rintro e w0 ⟨rfl, k0, b0⟩
 have y0 := yb.wr k0 (by simp; omega)
 have zn := Blk.new w0 60 #[.string m, .slice none 0 0, .slice none 0 0, .slice none 0 0]
 obtain ⟨wz, hwz⟩ : ∃ q, w0.alloc (.cells #[.string m, .slice none 0 0, .slice none 0 0, .slice none 0 0] 60) = q := ⟨_, rfl⟩
 obtain ⟨z, hz⟩ : ∃ q, w0.heap.size = q := ⟨_, rfl⟩
 have kz : Wr [] w0 wz := by rw [← hwz]; exact (Wr.refl _ _).alloc _
 rw [hwz, hz] at zn
 have hbz : b < z := by have h1 := Blk.lt bn; have h2 := k0.size; omega
 have hyz : y < z := by omega
 have hwz0 : w.heap.size ≤ z := by omega
 have m0 : TgS (fun w r => RdG w b r) 60 b y z #[.string ⟨#[]⟩, .slice none 0 0, .slice none 0 0, .slice none 0 0] w r0 #[.string m, .slice none 0 0, .slice none 0 0, .slice none 0 0] wz := ⟨zn, y0.wr0 kz, Blk.wr0 b0 kz, (KB.out.nil.trans k0).trans0 kz⟩
 have M0 := qh m0
 have HWZ := qh hwz
 have HZ := qh hz
 clear hwz hz kz zn y0 m0 k0 b0 bn yb
 go_upto_region 3 with (fail)
 rw [HZ.out, HWZ.out]
 clear HZ HWZ HWN HWB HY HB
 go_wp2_with fail
 refine (H1.out _ M0.out.rd).mono ?_
 rintro e w1 ⟨rfl, k1, b1⟩
 have m1 := M0.out.call k1 hbz hby b1
 have hzB : z < w1.heap.size := m1.blk.lt
 have at1 := LgR.start (one := Rd.use) (Rel := (CRel UseD.cellsF)) (T := 72) (size := 2) (n := n1) m1 (show (#[.string m, .slice none 0 0, .slice none 0 0, .slice none 0 0] : Array Value)[1]? = some (.slice none 0 0) from rfl)
 obtain ⟨i1, hi1, hz01, hz11, hz21⟩ := info_parts info_use
 have AT1 := qh at1
 clear m1 at1 k1 b1 M0
 obtain ⟨cn, dn⟩ := CN1.out
 go_wp2_with fail
 clear cn dn
 go_loopw [7, 8] (fun si sx0 wr => ∃ ki : Nat, si = .int .i64 ki ∧ LgR (fun w r => RdG w b r) Rd.use (CRel UseD.cellsF) 72 60 2 b y z 1 n1 #[.string ⟨#[]⟩, .slice none 0 0, .slice none 0 0, .slice none 0 0] #[.string m, .slice none 0 0, .slice none 0 0, .slice none 0 0] w w1 r1 ki wr) (fun si _ _ => n1 - (intOf si).toNat)
 case atStart => exact ⟨0, rfl, AT1.out⟩
 obtain ⟨kk, rfl, acc, ⟨l, bad⟩, A1, c1, mm, hk, hm, hl, ht, how, hwr⟩ := hrel
 have c1 := ht.rd.cell 1
 simp only [qgaq, qgzq, qgsq] at c1
 by_cases hgo : kk < n1 ∧ bad = false
 ·obtain ⟨hk1, rfl⟩ := hgo
  obtain ⟨mm, rfl⟩ : ∃ q, mm = q + 1 := ⟨mm - 1, by omega⟩
  have hk2 : (kk : Int) < (n1 : Int) := by omega
  have hk3 : (0 : Int) ≤ (kk : Int) := by omega
  have HK := qh hk
  have HM := qh hm
  have HL := qh hl
  have HT := qh ht
  have HOW := qh how
  have HWR := qh hwr
  clear hk hm hl ht how hwr
  obtain ⟨pq, ha0⟩ : ∃ p, Rd.text ⟨l, false⟩ = p := ⟨_, rfl⟩
  obtain ⟨xn, ra0⟩ := pq
  obtain ⟨pq, ha1⟩ : ∃ p, Rd.num ra0 8 = p := ⟨_, rfl⟩
  obtain ⟨xk, ra1⟩ := pq
  have hx : Rd.use ⟨l, false⟩ = (⟨xn, (xk : Int)⟩, ra1) := by unfold Rd.use; simp only [ha0, ha1]
  have HX := qh hx
  clear hx
  have hc0 := fun W (hW : (fun w r => RdG w b r) W ⟨l, false⟩) => text_g b ⟨l, false⟩ W hW
  rw [ha0] at hc0
  simp only at hc0
  have HC0 := qh hc0
  clear hc0 ha0
  have hc1 := fun W (hW : (fun w r => RdG w b r) W ra0) => number_g b 8 ra0 (by decide) W hW
  rw [ha1] at hc1
  simp only at hc1
  have HC1 := qh hc1
  clear hc1 ha1
  go_wp2_with fail
  refine (HC0.out _ HT.out.rd).mono ?_
  rintro e v0 ⟨rfl, k1, b1⟩
  obtain ⟨d, hbf, hwf⟩ := ItR.new (Tf := 72) (rdgOk b) b1 k1 (Nat.lt_trans hbz HT.out.blk.lt) #[.string xn, .int .u64 0] _ rfl rfl
  clear c1
  obtain ⟨we, hwe⟩ : ∃ q, v0.alloc (.cells #[.string xn, .int .u64 0] 72) = q := ⟨_, rfl⟩
  obtain ⟨f, hf⟩ : ∃ q, v0.heap.size = q := ⟨_, rfl⟩
  rw [hwe, hf] at d
  rw [hf] at hbf hwf
  have D := qh d
  have HWE := qh hwe
  have HF := qh hf
  clear d hwe hf k1 b1
  go_upto_region 8 with (fail)
  rw [HF.out, HWE.out]
  clear HWE
  go_wp2_with fail
  refine (HC1.out _ D.out.rd).mono ?_
  rintro e v1 ⟨rfl, k1, b1⟩
  have d := D.out.call k1 hbf b1
  have fz := d.blk.frozen 1
  have yy := d.blk.cell 1
  simp only [qgaq, qgzq, qgsq] at yy
  have d2 := d.set (rdgOk b) hbf hwf 1 (.int .u64 (xk : Int))
  simp only [qsaq, qszq, qssq] at d2
  replace D := qh d2
  clear d d2 k1 b1
  go_upto_region 9 with (fail)
  generalize v1.setCell ⟨f, 1, none⟩ (.int .u64 (xk : Int)) = w1 at *
  clear fz yy
  have k1 := D.out.wr
  have HT2 := qh (HT.out.step k1 D.out.rd hbz hby)
  have HOW2 := qh (HOW.out.keep (cOk _) k1 (fun q hq => .inl (by rw [qmsq] at hq; omega)))
  have HWR2 := qh (HWR.out.trans (wr_at (z := z) k1))
  obtain ⟨y0, y1⟩ := c2q D.out.blk
  clear k1 HT HOW HWR D
  have r6 : Wr [] w1 (w1.alloc (.cells #[.string xn, .int .u64 (xk : Int)] 72)) := (Wr.refl [] w1).alloc _
  have n6 := Blk.new w1 72 #[.string xn, .int .u64 (xk : Int)]
  have ho1 : ∀ u ∈ ([.string xn, .int .u64 (xk : Int)] : List Value), u.oneCell' = true := by simp [Value.oneCell']
  have hrel : CRel UseD.cellsF (w1.alloc (.cells #[.string xn, .int .u64 (xk : Int)] 72)) (fun bl => w1.heap.size ≤ bl ∧ (Value.slice A1 kk c1).ownBlock ≠ some bl) [.string xn, .int .u64 (xk : Int)] (⟨xn, (xk : Int)⟩) := rfl
  obtain ⟨A2, c2, W7, hrun, rA, hv, b7, hfin⟩ := lg_push (t := 23) (rdgOk b) (cOk _) Tryz.underlying23 hi1 hz01 hz11 hz21 rfl (by decide) (by decide) hbz hyz hwz0 hzB HK.out HM.out (by omega) HL.out rfl HX.out HT2.out HOW2.out HWR2.out r6 n6 rfl ho1 hrel
  have f7 := b7.frozen 1
  have c7 := b7.cell 1
  have c6 := HT2.out.blk.cell 1
  simp only [qsaq, qszq, qssq] at c7 c6
  simp only [qgaq, qgzq, qgsq] at c7 c6
  have HRUN := qh hrun
  have HFIN := qh hfin
  clear hrun hfin rA r6 hv b7 n6 ho1 hrel
  go_wp2_with (at_builtin; refine wpList_append_run rfl _ _ _ rfl _ _ rfl rfl _ _ HRUN.out ?_)
  go_roundw
  case rel => exact ⟨kk + 1, by first | rfl | (go_num), HFIN.out⟩
  case measure => first | (simp [intOf]; done) | (simp [intOf]; omega)
 have he := out_end (l := l) hm hgo
 obtain ⟨e1, e2⟩ := lg_end hl he HL2.out
 have hsl := (how.out (cOk _)).mono (cOk _) (Q := fun q => z < q) (fun q hq => by omega)
 have e3 := e1.symm
 clear e1
 subst e3
 subst e2
 have hkn : kk = l1.length := hk.symm
 subst hkn
 simp only [qsaq, qszq, qssq] at ht
 have T1 := qh ht
 have N1 := qh hsl
 have hgo2 := hgo
 clear hk hm hl ht how hwr hgo he hsl AT1
 go_upto_region 5 with (fail)
 go_cut [31] (fun s wx => s = .bool false ∧ wr = wx)
 case first =>
  rcases out_way hgo2 with ⟨hk2, rfl⟩ | hk2
  all_goals
   go_wp2_with fail
   go_meet
   exact ⟨rfl, rfl⟩
 obtain ⟨rfl, rfl⟩ := hcut
 clear c1 hgo2
 go_wp2_with fail
 refine (H3.out _ T1.out.rd).mono ?_
 rintro e w2 ⟨rfl, k2, b2⟩
 have m2 := T1.out.call k2 hbz hby b2
 have hzB : z < w2.heap.size := m2.blk.lt
 have N1n := N1.out.keepR (cOk _) k2 (fun q hq => by simp; omega)
 replace N1 := qh N1n
 clear N1n
 have at2 := LgR.start (one := Rd.ty) (Rel := TyRel) (T := 129) (size := 12) (n := n2) m2 (show (#[.string m, .slice A1 l1.length c1, .slice none 0 0, .slice none 0 0] : Array Value)[2]? = some (.slice none 0 0) from rfl)
 obtain ⟨i2, hi2, hz02, hz12, hz22⟩ := info_parts info_typ
 have AT2 := qh at2
 clear m2 at2 k2 b2 T1
 obtain ⟨cn, dn⟩ := CN2.out
 go_wp2_with fail
 clear cn dn
 go_loopw [9, 10] (fun si sx0 wr => ∃ ki : Nat, si = .int .i64 ki ∧ LgR (fun w r => RdG w b r) Rd.ty TyRel 129 60 12 b y z 2 n2 #[.string ⟨#[]⟩, .slice none 0 0, .slice none 0 0, .slice none 0 0] #[.string m, .slice A1 l1.length c1, .slice none 0 0, .slice none 0 0] w w2 r3 ki wr) (fun si _ _ => n2 - (intOf si).toNat)
 case atStart => exact ⟨0, rfl, AT2.out⟩
 obtain ⟨kk, rfl, acc, ⟨l, bad⟩, A2, c2, mm, hk, hm, hl, ht, how, hwr⟩ := hrel
 have c1 := ht.rd.cell 1
 simp only [qgaq, qgzq, qgsq] at c1
 by_cases hgo : kk < n2 ∧ bad = false
 ·obtain ⟨hk1, rfl⟩ := hgo
  obtain ⟨mm, rfl⟩ : ∃ q, mm = q + 1 := ⟨mm - 1, by omega⟩
  have hk2 : (kk : Int) < (n2 : Int) := by omega
  have hk3 : (0 : Int) ≤ (kk : Int) := by omega
  have HK := qh hk
  have HM := qh hm
  have HL := qh hl
  have HT := qh ht
  have HOW := qh how
  have HWR := qh hwr
  clear hk hm hl ht how hwr
  go_wp2_with fail
  refine (typ_g b _ _ HT.out.rd).mono ?_
  obtain ⟨px, hx⟩ : ∃ p, Rd.ty ⟨l, false⟩ = p := ⟨_, rfl⟩
  obtain ⟨x, rx⟩ := px
  rw [hx]
  rintro e w1a ⟨vn, vf, va, vp, rfl, k1, b1, hls⟩
  have HX := qh hx
  obtain ⟨⟨Aa, ca, rfl, _, _⟩, ⟨Ab, cb, rfl, _, _⟩, ⟨Ac, cc, rfl, _, _⟩, ⟨Ad, cd, rfl, _, _⟩⟩ := hls.forms
  simp only [Ty.val, Ty.cells]
  obtain ⟨w1, hw1⟩ : ∃ q, w1a.alloc (.cells #[.int .u8 x.kind, .string x.module, .string x.name, .int .i64 x.base, .int .i64 x.index, .int .i64 x.low, .int .i64 x.high, .slice Aa x.names.length ca, .slice Ab x.fields.length cb, .slice Ac x.arms.length cc, .slice Ad x.params.length cd, .int .i64 x.result] 129) = q := ⟨_, rfl⟩
  obtain ⟨f, hf⟩ : ∃ q, w1a.heap.size = q := ⟨_, rfl⟩
  have kf : Wr [] w1a w1 := by rw [← hw1]; exact (Wr.refl _ _).alloc _
  have nf : Blk w1 f 129 #[.int .u8 x.kind, .string x.module, .string x.name, .int .i64 x.base, .int .i64 x.index, .int .i64 x.low, .int .i64 x.high, .slice Aa x.names.length ca, .slice Ab x.fields.length cb, .slice Ac x.arms.length cc, .slice Ad x.params.length cd, .int .i64 x.result] := by rw [← hw1, ← hf]; exact Blk.new _ _ _
  have k2 : Wr [b] wr w1 := k1.trans0 kf
  have HT2 := qh (HT.out.step k2 (Blk.wr0 b1 kf) hbz hby)
  have HOW2 := qh (HOW.out.keep tyOk k2 (fun q hq => .inl (by rw [qmsq] at hq; omega)))
  have HWR2 := qh (HWR.out.trans (wr_at (z := z) k2))
  have HW1 := qh hw1
  have HF := qh hf
  obtain ⟨y0, y1, y2, y3, y4, y5, y6, y7, y8, y9, y10, y11⟩ := c12q nf
  have r6 : Wr [] w1 (w1.alloc (.cells #[.int .u8 x.kind, .string x.module, .string x.name, .int .i64 x.base, .int .i64 x.index, .int .i64 x.low, .int .i64 x.high, .slice Aa x.names.length ca, .slice Ab x.fields.length cb, .slice Ac x.arms.length cc, .slice Ad x.params.length cd, .int .i64 x.result] 129)) := (Wr.refl [] w1).alloc _
  have n6 := Blk.new w1 129 #[.int .u8 x.kind, .string x.module, .string x.name, .int .i64 x.base, .int .i64 x.index, .int .i64 x.low, .int .i64 x.high, .slice Aa x.names.length ca, .slice Ab x.fields.length cb, .slice Ac x.arms.length cc, .slice Ad x.params.length cd, .int .i64 x.result]
  have ho1 : ∀ u ∈ ([.int .u8 x.kind, .string x.module, .string x.name, .int .i64 x.base, .int .i64 x.index, .int .i64 x.low, .int .i64 x.high, .slice Aa x.names.length ca, .slice Ab x.fields.length cb, .slice Ac x.arms.length cc, .slice Ad x.params.length cd, .int .i64 x.result] : List Value), u.oneCell' = true := by simp [Value.oneCell']
  have hrel := ty_rel (wc := w) (P := fun _ => True) ((hls.wr0 kf).wr0 r6) HOW.out HWR.out.size
  unfold Ty.cells at hrel
  clear hx k1 b1 hls hw1 hf kf nf k2 HT HOW HWR c1
  go_upto_region 15 with (fail)
  rw [HF.out, HW1.out]
  clear HF HW1
  obtain ⟨A2, c2, W7, hrun, rA, hv, b7, hfin⟩ := lg_push (t := 52) (rdgOk b) tyOk Tryz.underlying52 hi2 hz02 hz12 hz22 rfl (by decide) (by decide) hbz hyz hwz0 hzB HK.out HM.out (by omega) HL.out rfl HX.out HT2.out HOW2.out HWR2.out r6 n6 rfl ho1 hrel
  have f7 := b7.frozen 2
  have c7 := b7.cell 2
  have c6 := HT2.out.blk.cell 2
  simp only [qsaq, qszq, qssq] at c7 c6
  simp only [qgaq, qgzq, qgsq] at c7 c6
  have HRUN := qh hrun
  have HFIN := qh hfin
  clear hrun hfin rA r6 hv b7 n6 ho1 hrel
  go_wp2_with (at_builtin; refine wpList_append_run rfl _ _ _ rfl _ _ rfl rfl _ _ HRUN.out ?_)
  go_roundw
  case rel => exact ⟨kk + 1, by first | rfl | (go_num), HFIN.out⟩
  case measure => first | (simp [intOf]; done) | (simp [intOf]; omega)
 have he := out_end (l := l) hm hgo
 obtain ⟨e1, e2⟩ := lg_end hl he HL4.out
 have hsl := (how.out tyOk).mono tyOk (Q := fun q => z < q) (fun q hq => by omega)
 have e3 := e1.symm
 clear e1
 subst e3
 subst e2
 have hkn : kk = l2.length := hk.symm
 subst hkn
 simp only [qsaq, qszq, qssq] at ht
 have T2 := qh ht
 have N2 := qh hsl
 have N1n := N1.out.keepR (cOk _) hwr (fun q hq => by simp; omega)
 replace N1 := qh N1n
 clear N1n
 have hgo2 := hgo
 clear hk hm hl ht how hwr hgo he hsl AT2
 go_upto_region 12 with (fail)
 go_cut [58] (fun s wx => s = .bool false ∧ wr = wx)
 case first =>
  rcases out_way hgo2 with ⟨hk2, rfl⟩ | hk2
  all_goals
   go_wp2_with fail
   go_meet
   exact ⟨rfl, rfl⟩
 obtain ⟨rfl, rfl⟩ := hcut
 clear c1 hgo2
 go_wp2_with fail
 refine (H5.out _ T2.out.rd).mono ?_
 rintro e w3 ⟨rfl, k3, b3⟩
 have m3 := T2.out.call k3 hbz hby b3
 have hzB : z < w3.heap.size := m3.blk.lt
 have N1n := N1.out.keepR (cOk _) k3 (fun q hq => by simp; omega)
 replace N1 := qh N1n
 clear N1n
 have N2n := N2.out.keepR tyOk k3 (fun q hq => by simp; omega)
 replace N2 := qh N2n
 clear N2n
 have at3 := LgR.start (one := Rd.pitm) (Rel := (CRel PItm.cells)) (T := 134) (size := 8) (n := n3) m3 (show (#[.string m, .slice A1 l1.length c1, .slice A2 l2.length c2, .slice none 0 0] : Array Value)[3]? = some (.slice none 0 0) from rfl)
 obtain ⟨i3, hi3, hz03, hz13, hz23⟩ := info_parts info_ritm
 have AT3 := qh at3
 clear m3 at3 k3 b3 T2
 obtain ⟨cn, dn⟩ := CN3.out
 go_wp2_with fail
 clear cn dn
 go_loopw [11, 12] (fun si sx0 wr => ∃ ki : Nat, si = .int .i64 ki ∧ LgR (fun w r => RdG w b r) Rd.pitm (CRel PItm.cells) 134 60 8 b y z 3 n3 #[.string ⟨#[]⟩, .slice none 0 0, .slice none 0 0, .slice none 0 0] #[.string m, .slice A1 l1.length c1, .slice A2 l2.length c2, .slice none 0 0] w w3 r5 ki wr) (fun si _ _ => n3 - (intOf si).toNat)
 case atStart => exact ⟨0, rfl, AT3.out⟩
 obtain ⟨kk, rfl, acc, ⟨l, bad⟩, A3, c3, mm, hk, hm, hl, ht, how, hwr⟩ := hrel
 have c1 := ht.rd.cell 1
 simp only [qgaq, qgzq, qgsq] at c1
 by_cases hgo : kk < n3 ∧ bad = false
 ·obtain ⟨hk1, rfl⟩ := hgo
  obtain ⟨mm, rfl⟩ : ∃ q, mm = q + 1 := ⟨mm - 1, by omega⟩
  have hk2 : (kk : Int) < (n3 : Int) := by omega
  have hk3 : (0 : Int) ≤ (kk : Int) := by omega
  have HK := qh hk
  have HM := qh hm
  have HL := qh hl
  have HT := qh ht
  have HOW := qh how
  have HWR := qh hwr
  clear hk hm hl ht how hwr
  obtain ⟨pq, ha0⟩ : ∃ p, Rd.text ⟨l, false⟩ = p := ⟨_, rfl⟩
  obtain ⟨xn, ra0⟩ := pq
  obtain ⟨pq, ha1⟩ : ∃ p, Rd.num ra0 1 = p := ⟨_, rfl⟩
  obtain ⟨xk, ra1⟩ := pq
  obtain ⟨pq, ha2⟩ : ∃ p, Rd.four ra1 = p := ⟨_, rfl⟩
  obtain ⟨xt, ra2⟩ := pq
  obtain ⟨pq, ha3⟩ : ∃ p, Rd.four ra2 = p := ⟨_, rfl⟩
  obtain ⟨xa, ra3⟩ := pq
  obtain ⟨pq, ha4⟩ : ∃ p, Rd.pval ra3 = p := ⟨_, rfl⟩
  obtain ⟨xv, ra4⟩ := pq
  have hx : Rd.pitm ⟨l, false⟩ = (⟨xn, (xk : Int), xt, xa, xv⟩, ra4) := by unfold Rd.pitm; simp only [ha0, ha1, ha2, ha3, ha4]
  have HX := qh hx
  have q1 := num_ltO (k := 1) (by omega) ra0
  have hc0 := fun W (hW : RdG W b ⟨l, false⟩) => text_g b ⟨l, false⟩ W hW
  have hc1 := fun W (hW : RdG W b ra0) => number_g b 1 ra0 (by decide) W hW
  have hc2 := fun W (hW : RdG W b ra1) => four_g b ra1 W hW
  have hc3 := fun W (hW : RdG W b ra2) => four_g b ra2 W hW
  have hc4 := fun W (hW : RdG W b ra3) => value_g b ra3 W hW
  rw [ha0] at hc0
  rw [ha1] at hc1 q1
  rw [ha2] at hc2
  rw [ha3] at hc3
  rw [ha4] at hc4
  simp only at hc0 hc1 hc2 hc3 hc4 q1
  unfold PvR at hc4
  have CV := qh (show IntKind.u8.wrap (xk : Int) = (xk : Int) by rw [IntKind.wrap_u8]; omega)
  have HC0 := qh hc0
  have HC1 := qh hc1
  have HC2 := qh hc2
  have HC3 := qh hc3
  have HC4 := qh hc4
  clear hx ha0 ha1 ha2 ha3 ha4 hc0 hc1 hc2 hc3 hc4 q1
  go_wp2_with fail
  refine (HC0.out _ HT.out.rd).mono ?_
  rintro e v0 ⟨rfl, k1, b1⟩
  obtain ⟨d, hbf, hwf⟩ := ItR.new (Tf := 134) (rdgOk b) b1 k1 (Nat.lt_trans hbz HT.out.blk.lt) #[.string xn, .int .u8 0, .int .i64 0, .int .i64 0, .int .u8 0, .int .i64 0, .int .i64 0, .string ⟨#[]⟩] _ rfl rfl
  clear c1
  obtain ⟨we, hwe⟩ : ∃ q, v0.alloc (.cells #[.string xn, .int .u8 0, .int .i64 0, .int .i64 0, .int .u8 0, .int .i64 0, .int .i64 0, .string ⟨#[]⟩] 134) = q := ⟨_, rfl⟩
  obtain ⟨f, hf⟩ : ∃ q, v0.heap.size = q := ⟨_, rfl⟩
  rw [hwe, hf] at d
  rw [hf] at hbf hwf
  have D := qh d
  have HWE := qh hwe
  have HF := qh hf
  clear d hwe hf k1 b1
  go_upto_region 21 with (fail)
  rw [HF.out, HWE.out]
  clear HWE HF
  go_wp2_with fail
  refine (HC1.out _ D.out.rd).mono ?_
  rintro e v1 ⟨rfl, k1, b1⟩
  have cv := CV.out
  have d := D.out.call k1 hbf b1
  have fz := d.blk.frozen 1
  have yy := d.blk.cell 1
  simp only [qgaq, qgzq, qgsq] at yy
  have d2 := d.set (rdgOk b) hbf hwf 1 (.int .u8 (xk : Int))
  simp only [qsaq, qszq, qssq] at d2
  replace D := qh d2
  clear d d2 k1 b1
  go_upto_region 22 with (fail)
  generalize v1.setCell ⟨f, 1, none⟩ (.int .u8 (xk : Int)) = u1 at *
  clear fz yy cv
  go_wp2_with fail
  refine (HC2.out _ D.out.rd).mono ?_
  rintro e v2 ⟨rfl, k1, b1⟩
  have d := D.out.call k1 hbf b1
  have fz := d.blk.frozen 2
  have yy := d.blk.cell 2
  simp only [qgaq, qgzq, qgsq] at yy
  have d2 := d.set (rdgOk b) hbf hwf 2 (.int .i64 xt)
  simp only [qsaq, qszq, qssq] at d2
  replace D := qh d2
  clear d d2 k1 b1
  go_upto_region 23 with (fail)
  generalize v2.setCell ⟨f, 2, none⟩ (.int .i64 xt) = u2 at *
  clear fz yy
  go_wp2_with fail
  refine (HC3.out _ D.out.rd).mono ?_
  rintro e v3 ⟨rfl, k1, b1⟩
  have d := D.out.call k1 hbf b1
  have fz := d.blk.frozen 3
  have yy := d.blk.cell 3
  simp only [qgaq, qgzq, qgsq] at yy
  have d2 := d.set (rdgOk b) hbf hwf 3 (.int .i64 xa)
  simp only [qsaq, qszq, qssq] at d2
  replace D := qh d2
  clear d d2 k1 b1
  go_upto_region 24 with (fail)
  generalize v3.setCell ⟨f, 3, none⟩ (.int .i64 xa) = u3 at *
  clear fz yy
  go_wp2_with fail
  refine (HC4.out _ D.out.rd).mono ?_
  rintro e v4 ⟨rfl, k1, b1⟩
  have d := D.out.call k1 hbf b1
  have f4 := d.blk.frozen 4
  have f5 := d.blk.frozen 5
  have f6 := d.blk.frozen 6
  have f7 := d.blk.frozen 7
  have y4 := d.blk.cell 4
  have y5 := d.blk.cell 5
  have y6 := d.blk.cell 6
  have y7 := d.blk.cell 7
  simp only [qgaq, qgzq, qgsq] at y4 y5 y6 y7
  have d2 : ItR (fun w r => RdG w b r) 134 b f wr ra4 #[.string xn, .int .u8 (xk : Int), .int .i64 xt, .int .i64 xa, .int .u8 xv.sort, .int .i64 xv.n, .int .i64 xv.type, .string xv.text] (setL v4 f 4 [.int .u8 xv.sort, .int .i64 xv.n, .int .i64 xv.type, .string xv.text]) := ItR.setL (rdgOk b) (pre := [.string xn, .int .u8 (xk : Int), .int .i64 xt, .int .i64 xa]) d hbf hwf rfl
  replace D := qh d2
  clear d d2 k1 b1
  go_upto_region 25 with (fail)
  generalize hw1 : (((v4.setCell ⟨f, 4, none⟩ (.int .u8 xv.sort)).setCell ⟨f, 5, none⟩ (.int .i64 xv.n)).setCell ⟨f, 6, none⟩ (.int .i64 xv.type)).setCell ⟨f, 7, none⟩ (.string xv.text) = w1
  have hw2 : setL v4 f 4 [.int .u8 xv.sort, .int .i64 xv.n, .int .i64 xv.type, .string xv.text] = w1 := hw1
  rw [hw2] at D
  clear f4 f5 f6 f7 y4 y5 y6 y7 hw1 hw2
  have k1 := D.out.wr
  have HT2 := qh (HT.out.step k1 D.out.rd hbz hby)
  have HOW2 := qh (HOW.out.keep (cOk _) k1 (fun q hq => .inl (by rw [qmsq] at hq; omega)))
  have HWR2 := qh (HWR.out.trans (wr_at (z := z) k1))
  obtain ⟨y0, y1, y2, y3, y4, y5, y6, y7⟩ := c8q D.out.blk
  clear k1 HT HOW HWR D
  have r6 : Wr [] w1 (w1.alloc (.cells #[.string xn, .int .u8 (xk : Int), .int .i64 xt, .int .i64 xa, .int .u8 xv.sort, .int .i64 xv.n, .int .i64 xv.type, .string xv.text] 134)) := (Wr.refl [] w1).alloc _
  have n6 := Blk.new w1 134 #[.string xn, .int .u8 (xk : Int), .int .i64 xt, .int .i64 xa, .int .u8 xv.sort, .int .i64 xv.n, .int .i64 xv.type, .string xv.text]
  have ho1 : ∀ u ∈ ([.string xn, .int .u8 (xk : Int), .int .i64 xt, .int .i64 xa, .int .u8 xv.sort, .int .i64 xv.n, .int .i64 xv.type, .string xv.text] : List Value), u.oneCell' = true := by simp [Value.oneCell']
  have hrel : CRel PItm.cells (w1.alloc (.cells #[.string xn, .int .u8 (xk : Int), .int .i64 xt, .int .i64 xa, .int .u8 xv.sort, .int .i64 xv.n, .int .i64 xv.type, .string xv.text] 134)) (fun bl => w3.heap.size ≤ bl ∧ (Value.slice A3 kk c3).ownBlock ≠ some bl) [.string xn, .int .u8 (xk : Int), .int .i64 xt, .int .i64 xa, .int .u8 xv.sort, .int .i64 xv.n, .int .i64 xv.type, .string xv.text] (⟨xn, (xk : Int), xt, xa, xv⟩) := rfl
  obtain ⟨A2, c2, W7, hrun, rA, hv, b7, hfin⟩ := lg_push (t := 58) (rdgOk b) (cOk _) Tryz.underlying58 hi3 hz03 hz13 hz23 rfl (by decide) (by decide) hbz hyz hwz0 hzB HK.out HM.out (by omega) HL.out rfl HX.out HT2.out HOW2.out HWR2.out r6 n6 rfl ho1 hrel
  have f7 := b7.frozen 3
  have c7 := b7.cell 3
  have c6 := HT2.out.blk.cell 3
  simp only [qsaq, qszq, qssq] at c7 c6
  simp only [qgaq, qgzq, qgsq] at c7 c6
  have HRUN := qh hrun
  have HFIN := qh hfin
  clear hrun hfin rA r6 hv b7 n6 ho1 hrel
  go_wp2_with (at_builtin; refine wpList_append_run rfl _ _ _ rfl _ _ rfl rfl _ _ HRUN.out ?_)
  go_roundw
  case rel => exact ⟨kk + 1, by first | rfl | (go_num), HFIN.out⟩
  case measure => first | (simp [intOf]; done) | (simp [intOf]; omega)
 have he := out_end (l := l) hm hgo
 obtain ⟨e1, e2⟩ := lg_end hl he HL6.out
 have hsl := (how.out (cOk _)).mono (cOk _) (Q := fun q => z < q) (fun q hq => by omega)
 have e3 := e1.symm
 clear e1
 subst e3
 subst e2
 have hkn : kk = l3.length := hk.symm
 subst hkn
 simp only [qsaq, qszq, qssq] at ht
 have T3 := qh ht
 have N3 := qh hsl
 have N1n := N1.out.keepR (cOk _) hwr (fun q hq => by simp; omega)
 replace N1 := qh N1n
 clear N1n
 have N2n := N2.out.keepR tyOk hwr (fun q hq => by simp; omega)
 replace N2 := qh N2n
 clear N2n
 have hgo2 := hgo
 clear hk hm hl ht how hwr hgo he hsl AT3
 go_upto_region 18 with (fail)
 go_cut [81] (fun s wx => s = .bool false ∧ wr = wx)
 case first =>
  rcases out_way hgo2 with ⟨hk2, rfl⟩ | hk2
  all_goals
   go_wp2_with fail
   go_meet
   exact ⟨rfl, rfl⟩
 obtain ⟨rfl, rfl⟩ := hcut
 clear c1 hgo2
 have HS := T3
 clear T3
 obtain ⟨ff, hff⟩ : ∃ q : FaceP, (⟨m, l1, l2, l3⟩ : FaceP) = q := ⟨_, rfl⟩
 have hans := HANS.out
 rw [hff] at hans
 clear HANS
 have e0 : ff.module = m := by rw [← hff]
 have hface : FacePL wr (fun q => z < q) (.slice A1 l1.length c1) (.slice A2 l2.length c2) (.slice A3 l3.length c3) ff := by rw [← hff]; exact face_pl N1.out N2.out N3.out (fun _ h => h)
 have hmay := may_r ff _ _ _ _ wr hface
 rw [e0] at hmay
 have E0 := qh e0
 have HFACE := qh hface
 clear hff e0 hface N1 N2 N3
 obtain ⟨rm, hrm⟩ : ∃ q, rmayP ff = q := ⟨_, rfl⟩
 rw [hrm] at hmay
 have HMAY := qh hmay
 obtain ⟨d0, d1, d2, d3⟩ := c4q HS.out.blk
 obtain ⟨r0, r1⟩ := c2q HS.out.rd
 clear hmay
 go_upto_region 26 with (fail)
 obtain ⟨ok, hok⟩ : ∃ q, (bad || !l.isEmpty || !decide (rm = 0)) = q := ⟨_, rfl⟩
 have hres : ans = if ok then (noFaceP, 7) else (ff, 0) := by rw [← hans]; unfold rdecQ; rw [hrm, ← hok]
 have HRES := qh hres
 clear hres hrm hans
 have HOK := qh hok
 clear hok
 go_cut [121] (fun s wx => s = .bool ok ∧ Wr [] wr wx)
 case first =>
  cases bad with
  | true =>
   obtain rfl : ok = true := by have := HOK.out; simpa using this.symm
   clear HOK
   go_wp2_with fail
   go_meet
   exact ⟨rfl, Wr.refl _ _⟩
  | false =>
   cases l with
   | cons x l =>
    obtain rfl : ok = true := by have := HOK.out; simpa using this.symm
    obtain ⟨X, hX⟩ : ∃ q : ByteArray, (⟨(x :: l).toArray⟩ : ByteArray) = q := ⟨_, rfl⟩
    have hX1 : X.toList.isEmpty = false := bytes_some X (by rw [← hX]; simp [ByteArray.size])
    rw [hX] at r0
    clear HOK hX
    go_wp2_with fail
    go_meet
    exact ⟨rfl, Wr.refl _ _⟩
   | nil =>
    have hk2 := HOK.out
    simp only [List.isEmpty_nil, Bool.not_true, Bool.or_false, Bool.false_or] at hk2
    have HK2 := qh hk2
    clear HOK hk2
    go_wp2_with fail
    refine HMAY.out.mono ?_
    rintro e w9 ⟨rfl, k9⟩
    by_cases hr : rm = 0
    ·have hk2 := HK2.out
     subst hr
     obtain rfl : ok = false := hk2.symm
     clear HK2 hk2
     go_wp2_with fail
     go_meet
     exact ⟨rfl, k9⟩
    ·have hk2 := HK2.out
     have e1 : (rm == 0) = false := by simpa using hr
     have e2 : (rm != 0) = true := by simpa using hr
     have e3 : decide (rm = 0) = false := qdfq hr
     rw [e3] at hk2
     obtain rfl : ok = true := hk2.symm
     clear HK2 hk2
     go_wp2_with fail
     go_meet
     exact ⟨rfl, k9⟩
 case rest =>
  rename World => wx
  obtain ⟨rfl, kx⟩ := hcut
  have hs2 := HS.out.keep (rdgOk b) kx (fun _ h => by simp at h) hbz hyz hwz0
  have hf2 := HFACE.out.wr0 kx
  have HS2 := qh hs2
  have HF2 := qh hf2
  clear hs2 hf2 kx HS HFACE d0 d1 d2 d3 r0 r1 HMAY
  cases ok with
  | true =>
   clear HF2 HOK
   have t := HS2.out
   have KB2 := qh t.wr
   obtain ⟨g0, g1, g2, g3⟩ := z4q t.res
   obtain ⟨z0, z1, z2, z3⟩ := c4q t.res
   have TR := qh t.res
   clear t
   go_wp2_with fail
   refine bodyPost_ret (v := .tuple #[.agg #[.string ⟨#[]⟩, .slice none 0 0, .slice none 0 0, .slice none 0 0], .int .i64 7]) ?_ rfl ?_
   ·have h9 := TR.out.setL [.string ⟨#[]⟩, .slice none 0 0, .slice none 0 0, .slice none 0 0] rfl
    obtain ⟨t0, t1, t2, t3⟩ := c4q h9
    simp only [setL] at t0 t1 t2 t3
    simp [results, Tryz.results67, go_sem, t0, t1, t2, t3]
   ·have kw := setL_wr (g := y) [.string ⟨#[]⟩, .slice none 0 0, .slice none 0 0, .slice none 0 0] 0 wx
    have ka : Wr [] w (setL wx y 0 [.string ⟨#[]⟩, .slice none 0 0, .slice none 0 0, .slice none 0 0]) := wr_own2 KB2.out kw hwb0 hwy
    have hr : ans = (noFaceP, 7) := by simpa using HRES.out
    subst hr
    exact ⟨_, _, _, rfl, ka, noFacePL _ _⟩
  | false =>
   have x0 := HS2.out.blk.cell 0
   have x1 := HS2.out.blk.cell 1
   have x2 := HS2.out.blk.cell 2
   have x3 := HS2.out.blk.cell 3
   clear HOK
   simp only [qgaq, qgzq, qgsq] at x0 x1 x2 x3
   have t := HS2.out
   have KB2 := qh t.wr
   obtain ⟨g0, g1, g2, g3⟩ := z4q t.res
   obtain ⟨z0, z1, z2, z3⟩ := c4q t.res
   have TR := qh t.res
   clear t
   go_wp2_with fail
   refine bodyPost_ret (v := .tuple #[.agg #[.string m, .slice A1 l1.length c1, .slice A2 l2.length c2, .slice A3 l3.length c3], .int .i64 0]) ?_ rfl ?_
   ·have h9 := TR.out.setL [.string m, .slice A1 l1.length c1, .slice A2 l2.length c2, .slice A3 l3.length c3] rfl
    obtain ⟨t0, t1, t2, t3⟩ := c4q h9
    simp only [setL] at t0 t1 t2 t3
    simp [results, Tryz.results67, go_sem, t0, t1, t2, t3]
   ·have kw := setL_wr (g := y) [.string m, .slice A1 l1.length c1, .slice A2 l2.length c2, .slice A3 l3.length c3] 0 wx
    have ka : Wr [] w (setL wx y 0 [.string m, .slice A1 l1.length c1, .slice A2 l2.length c2, .slice A3 l3.length c3]) := wr_own2 KB2.out kw hwb0 hwy
    have hr : ans = (ff, 0) := by simpa using HRES.out
    subst hr
    exact ⟨_, _, _, by rw [← E0.out], ka, (HF2.out.keep kw (fun q hq => by simp; omega)).into (fun q hq _ => by omega)⟩
end Go.Proofs.YtildcdgobdfieaaGreat
