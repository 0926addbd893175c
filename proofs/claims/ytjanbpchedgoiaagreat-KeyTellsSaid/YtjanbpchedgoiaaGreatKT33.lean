/- ref 14's Canon: walked. Conditions: the interface's numbers are within their kinds. -/
import Derived.Test.YtjanbpchedgoiaaGreatKT32
set_option linter.unusedVariables false
set_option linter.unusedSimpArgs false
set_option maxRecDepth 100000
set_option maxHeartbeats 32000000
namespace Go.Proofs.YtjanbpchedgoiaaGreat
open Go.RowKit
theorem rcanon_b (f : FaceD) (vu vt vi : Value) (P : Nat → Prop) (w : World) (h : FacePL w P vu vt vi (facePl f)) (hW : faceW f) :
  Calls Tryz.prog 21 #[.agg #[.string f.module, vu, vt, vi]] w (RCanR (canonP f) w) := by
 have hmay := fun W (r : Wr [] w W) => may_r (facePl f) vu vt vi P W (h.wr0 r)
 rw [may_pl f hW.vals] at hmay
 have hmet := fun W (r : Wr [] w W) (hm : mayP f = 0) => met_b f vu vt vi P W (h.wr0 r) hm
 obtain ⟨⟨A1, k1, rfl, hn1, hn2⟩, ⟨A2, k2, rfl, hf1, hf2⟩, ⟨A3, k3, rfl, ha1, ha2⟩⟩ := h.forms
 have eu : (facePl f).uses = f.uses := rfl
 have et : (facePl f).types = f.types := rfl
 have em : (facePl f).module = f.module := rfl
 obtain ⟨fi, hfi⟩ : ∃ q, (facePl f).items = q := ⟨_, rfl⟩
 have hfp : fi = f.items.map pitmOf := by rw [← hfi]; rfl
 have hiL : SlPItms w P (.slice A3 fi.length k3) fi := by have := h.items; rw [hfi] at this; exact this
 have htL : SlTys w P (.slice A2 f.types.length k2) f.types := h.types
 have huL : SlUsesF w P (.slice A1 f.uses.length k1) f.uses := h.uses
 simp only [eu, et, hfi, em] at hmay hmet ⊢
 clear h eu et hfi em hn1 hn2 hf1 hf2 ha1 ha2
 obtain ⟨wa, hwa⟩ : ∃ q, w.alloc (.cells #[.string f.module, .slice A1 f.uses.length k1, .slice A2 f.types.length k2, .slice A3 fi.length k3] 27) = q := ⟨_, rfl⟩
 obtain ⟨g, hg⟩ : ∃ g, w.heap.size = g := ⟨_, rfl⟩
 obtain ⟨w0, hw0⟩ : ∃ q, wa.alloc (.cells #[.string ⟨#[]⟩, .slice none 0 0, .slice none 0 0, .slice none 0 0] 27) = q := ⟨_, rfl⟩
 obtain ⟨y, hy⟩ : ∃ q, wa.heap.size = q := ⟨_, rfl⟩
 have ra : Wr [] w wa := by rw [← hwa]; exact (Wr.refl [] _).alloc _
 have rb : Wr [] wa w0 := by rw [← hw0]; exact (Wr.refl [] _).alloc _
 have bA : Blk w0 g 27 #[.string f.module, .slice A1 f.uses.length k1, .slice A2 f.types.length k2, .slice A3 fi.length k3] := Blk.wr0 (by rw [← hwa, ← hg]; exact Blk.new _ _ _) rb
 have bY : Blk w0 y 27 #[.string ⟨#[]⟩, .slice none 0 0, .slice none 0 0, .slice none 0 0] := by rw [← hw0, ← hy]; exact Blk.new _ _ _
 have hwy : w.heap.size ≤ y := by have := ra.size; omega
 have hy1 : g + 1 = y := by rw [← hg, ← hy, ← hwa, qsiq]
 have HY1 := qh hy1
 clear hy1
 have HMAY := qh (hmay w0 (ra.trans rb))
 have HMET := qh hmet
 have HWA := qh hwa
 have HG := qh hg
 have HW0 := qh hw0
 have HY := qh hy
 have ACC := qh (ra.trans rb)
 have HFP := qh hfp
 have HU := qh huL
 have HT := qh htL
 have HI := qh hiL
 have HW := qh hW
 have BA := qh bA
 have BY := qh bY
 have HWY := qh hwy
 obtain ⟨mv, hmv⟩ : ∃ q, mayP f = q := ⟨_, rfl⟩
 rw [hmv] at HMAY
 have HMV := qh hmv
 have c0 := bA.cell 0
 have c1 := bA.cell 1
 have c2 := bA.cell 2
 have c3 := bA.cell 3
 simp only [qgaq, qgzq, qgsq] at c0 c1 c2 c3
 clear hmay hmet hwa hg hw0 hy ra rb bA bY hwy hfp huL htL hiL hW hmv
 go_enter Tryz.func21, Tryz.ntmps21
 go_upto_region 1 with (fail)
 rw [HG.out, HWA.out, HY1.out, HW0.out]
 go_wp2_with fail
 refine HMAY.out.mono ?_
 rintro e w1 ⟨rfl, r1⟩
 have R1 := qh r1
 clear c0 c1 c2 c3 r1 HMAY
 by_cases hm : mv = 0
 ·subst hm
  have c0 := (BA.out.wr0 R1.out).cell 0
  have c1 := (BA.out.wr0 R1.out).cell 1
  have c2 := (BA.out.wr0 R1.out).cell 2
  have c3 := (BA.out.wr0 R1.out).cell 3
  simp only [qgaq, qgzq, qgsq] at c0 c1 c2 c3
  have gm := HMET.out w1 (ACC.out.trans R1.out) HMV.out
  have GM := qh gm
  clear gm HMET
  go_wp2_with fail
  refine GM.out.mono ?_
  rintro e w2 ⟨vo, rfl, ho, r2⟩
  have R2 := qh r2
  have HO := qh ho
  clear c0 c1 c2 c3 r2 ho GM
  have c0 := (BA.out.wr0 (R1.out.trans R2.out)).cell 0
  have c1 := (BA.out.wr0 (R1.out.trans R2.out)).cell 1
  simp only [qgaq, qgzq, qgsq] at c0 c1
  go_upto_region 5 with (fail)
  go_cut [6] from 26 to 33 (fun s6 wx => ∃ c vu', s6 = .pointer (some ⟨c, 0, none⟩) ∧ CStart w2 c f vu' wx)
  case first =>
   obtain ⟨wd, hwd⟩ : ∃ q, w2.drew = q := ⟨_, rfl⟩
   have kd : Wr [] w2 wd := by rw [← hwd]; exact (Wr.refl _ _).drew
   have AR := qh ((ACC.out.trans R1.out).trans R2.out)
   have KD := qh kd
   have HWD := qh hwd
   have NU := qh (may_types HMV.out).2.2
   clear kd hwd
   refine beginA [] [(g, 0, .string f.module), (g, 1, .slice A1 f.uses.length k1)] (by kernel_rfl) (by simp only [Cs]; exact ⟨c0, c1, trivial⟩) (by simp) fun HC => ?_
   refine mvB 0 (by rfl) (by kernel_rfl) (by rfl) (fun w' hS => by simp only [Cs] at hS; go_split_ands; go_simp; try rfl) ?_
   try simp only [Act.put, qsaq, qszq, qssq]
   refine mvB 1 (by rfl) (by kernel_rfl) (by rfl) (fun w' hS => by simp only [Cs] at hS; go_split_ands; go_simp; try rfl) ?_
   try simp only [Act.put, qsaq, qszq, qssq]
   refine mvB 3 (by rfl) (by kernel_rfl) (by rfl) (fun w' hS => by simp only [Cs] at hS; go_split_ands; go_simp; try rfl) ?_
   try simp only [Act.put, qsaq, qszq, qssq]
   refine mvB 4 (by rfl) (by kernel_rfl) (by rfl) (fun w' hS => by simp only [Cs] at hS; go_split_ands; go_simp; try rfl) ?_
   try simp only [Act.put, qsaq, qszq, qssq]
   rw [HWD.out]
   clear c0 c1
   refine twL (i := 2) (j := 7) (by rfl) (by rfl) (by kernel_rfl) (fun K hK => ?_) (fun K hK => ?_)
   ·skip
    go_simp
    have b1x := Blk.new wd 45 #[]
    have k1x := (Wr.refl [] wd).alloc (.cells #[] 45)
    have hs1x : w2.heap.size ≤ wd.heap.size := (KD.out).size
    generalize wd.alloc (.cells #[] 45) = w1x at *
    generalize wd.heap.size = q at *
    refine hK _ _ (HC.out _ (KD.out.trans k1x)) ?_
    clear hK K
    try simp only [Act.put, qsaq, qszq, qssq]
    refine twL (i := 5) (j := 7) (by rfl) (by rfl) (by kernel_rfl) (fun K hK => ?_) (fun K hK => ?_)
    ·skip
     obtain ⟨v5, w2x, hrun2, k2x, ⟨e5, own5⟩, z5⟩ := uses_copy b1x (Sl.wr0 HU.out (AR.out.trans (KD.out.trans k1x))) NU.out
     obtain ⟨A5, c5, rfl, _, _⟩ := own_form own5
     have HRUN2 := qh hrun2
     clear hrun2
     refine step_append_run (by rfl) _ _ _ (by rfl) _ _ (by rfl) (by rfl) _ _ HRUN2.out ?_
     refine hK _ _ (HC.out _ ((KD.out.trans k1x).trans' k2x (fun x hx => .inr (by rw [qmsq] at hx; subst hx; exact hs1x)))) ?_
     clear hK K
     try simp only [Act.put, qsaq, qszq, qssq]
     refine mvB 6 (by rfl) (by kernel_rfl) (by rfl) (fun w' hS => by simp only [Cs] at hS; go_split_ands; go_simp; try rfl) ?_
     try simp only [Act.put, qsaq, qszq, qssq]
     refine stL 7 (by rfl) (by kernel_rfl) fun K hK => ?_
     go_simp
     have b3x := Blk.new w2x 27 #[.string ⟨#[]⟩, .slice none 0 0, .slice none 0 0, .slice none 0 0]
     have k3x := (Wr.refl [] w2x).alloc (.cells #[.string ⟨#[]⟩, .slice none 0 0, .slice none 0 0, .slice none 0 0] 27)
     have hs3x : w2.heap.size ≤ w2x.heap.size := (((KD.out.trans k1x).trans' k2x (fun x hx => .inr (by rw [qmsq] at hx; subst hx; exact hs1x)))).size
     have hzc : w2x.heap.size ∉ ownL (.slice A5 f.uses.length c5) := fun hm => by have := (own5.lt _ (mem_ownL.1 hm)).2; omega
     generalize w2x.alloc (.cells #[.string ⟨#[]⟩, .slice none 0 0, .slice none 0 0, .slice none 0 0] 27) = w3x at *
     generalize w2x.heap.size = c at *
     have own5n3 := own_wr0 own5 k3x
     refine hK _ _ (HC.out _ (((KD.out.trans k1x).trans' k2x (fun x hx => .inr (by rw [qmsq] at hx; subst hx; exact hs1x))).trans k3x)) ?_
     clear hK K
     try simp only [Act.put, qsaq, qszq, qssq]
     refine stL 8 (by rfl) (by kernel_rfl) fun K hK => ?_
     have f0x := b3x.frozen 0
     have f1x := b3x.frozen 1
     have f2x := b3x.frozen 2
     have f3x := b3x.frozen 3
     have d0x := b3x.cell 0
     have d1x := b3x.cell 1
     have d2x := b3x.cell 2
     have d3x := b3x.cell 3
     simp only [qgaq, qgzq, qgsq] at d0x d1x d2x d3x
     go_simp
     refine hK _ _ (HC.out _ (wr_set4 (((KD.out.trans k1x).trans' k2x (fun x hx => .inr (by rw [qmsq] at hx; subst hx; exact hs1x))).trans k3x) hs3x)) (endL (by kernel_rfl) ?_)
     clear hK K
     try simp only [Act.put, qsaq, qszq, qssq]
     go_wp2_with fail
     go_meet
     exact ⟨c, _, rfl, ⟨blk_set4 b3x, use_fin own5n3 hzc hs1x, hs3x, wr_set4 (((KD.out.trans k1x).trans' k2x (fun x hx => .inr (by rw [qmsq] at hx; subst hx; exact hs1x))).trans k3x) hs3x⟩⟩
    ·skip
     go_simp
     have b2x := Blk.new w1x 27 #[.string ⟨#[]⟩, .slice none 0 0, .slice none 0 0, .slice none 0 0]
     have k2x := (Wr.refl [] w1x).alloc (.cells #[.string ⟨#[]⟩, .slice none 0 0, .slice none 0 0, .slice none 0 0] 27)
     have hs2x : w2.heap.size ≤ w1x.heap.size := ((KD.out.trans k1x)).size
     have HCQ : w1x.heap.size ≠ q := by have := b1x.lt; omega
     generalize w1x.alloc (.cells #[.string ⟨#[]⟩, .slice none 0 0, .slice none 0 0, .slice none 0 0] 27) = w2x at *
     generalize w1x.heap.size = c at *
     have b1xn2 := b1x.wr0 k2x
     refine hK _ _ (HC.out _ ((KD.out.trans k1x).trans k2x)) ?_
     clear hK K
     try simp only [Act.put, qsaq, qszq, qssq]
     refine stL 5 (by rfl) (by kernel_rfl) fun K hK => ?_
     obtain ⟨v5, w3x, hrun3, k3x, ⟨e5, own5⟩, z5⟩ := uses_copy b1xn2 (Sl.wr0 HU.out (AR.out.trans ((KD.out.trans k1x).trans k2x))) NU.out
     obtain ⟨A5, c5, rfl, _, _⟩ := own_form own5
     have HRUN3 := qh hrun3
     clear hrun3
     refine step_append_run (by rfl) _ _ _ (by rfl) _ _ (by rfl) (by rfl) _ _ HRUN3.out ?_
     have hzc := z5 c b2x.lt HCQ
     have b2xn3 := b2x.wr k3x (by simpa using HCQ)
     refine hK _ _ (HC.out _ (((KD.out.trans k1x).trans k2x).trans' k3x (fun x hx => .inr (by rw [qmsq] at hx; subst hx; exact hs1x)))) ?_
     clear hK K
     try simp only [Act.put, qsaq, qszq, qssq]
     refine mvB 6 (by rfl) (by kernel_rfl) (by rfl) (fun w' hS => by simp only [Cs] at hS; go_split_ands; go_simp; try rfl) ?_
     try simp only [Act.put, qsaq, qszq, qssq]
     refine stL 8 (by rfl) (by kernel_rfl) fun K hK => ?_
     have f0x := b2xn3.frozen 0
     have f1x := b2xn3.frozen 1
     have f2x := b2xn3.frozen 2
     have f3x := b2xn3.frozen 3
     have d0x := b2xn3.cell 0
     have d1x := b2xn3.cell 1
     have d2x := b2xn3.cell 2
     have d3x := b2xn3.cell 3
     simp only [qgaq, qgzq, qgsq] at d0x d1x d2x d3x
     go_simp
     refine hK _ _ (HC.out _ (wr_set4 (((KD.out.trans k1x).trans k2x).trans' k3x (fun x hx => .inr (by rw [qmsq] at hx; subst hx; exact hs1x))) hs2x)) (endL (by kernel_rfl) ?_)
     clear hK K
     try simp only [Act.put, qsaq, qszq, qssq]
     go_wp2_with fail
     go_meet
     exact ⟨c, _, rfl, ⟨blk_set4 b2xn3, use_fin own5 hzc hs1x, hs2x, wr_set4 (((KD.out.trans k1x).trans k2x).trans' k3x (fun x hx => .inr (by rw [qmsq] at hx; subst hx; exact hs1x))) hs2x⟩⟩
   ·skip
    go_simp
    have b1x := Blk.new wd 27 #[.string ⟨#[]⟩, .slice none 0 0, .slice none 0 0, .slice none 0 0]
    have k1x := (Wr.refl [] wd).alloc (.cells #[.string ⟨#[]⟩, .slice none 0 0, .slice none 0 0, .slice none 0 0] 27)
    have hs1x : w2.heap.size ≤ wd.heap.size := (KD.out).size
    generalize wd.alloc (.cells #[.string ⟨#[]⟩, .slice none 0 0, .slice none 0 0, .slice none 0 0] 27) = w1x at *
    generalize wd.heap.size = c at *
    refine hK _ _ (HC.out _ (KD.out.trans k1x)) ?_
    clear hK K
    try simp only [Act.put, qsaq, qszq, qssq]
    refine stL 2 (by rfl) (by kernel_rfl) fun K hK => ?_
    go_simp
    have b2x := Blk.new w1x 45 #[]
    have k2x := (Wr.refl [] w1x).alloc (.cells #[] 45)
    have hs2x : w2.heap.size ≤ w1x.heap.size := ((KD.out.trans k1x)).size
    have HCQ : c ≠ w1x.heap.size := by have := b1x.lt; omega
    generalize w1x.alloc (.cells #[] 45) = w2x at *
    generalize w1x.heap.size = q at *
    have b1xn2 := b1x.wr0 k2x
    refine hK _ _ (HC.out _ ((KD.out.trans k1x).trans k2x)) ?_
    clear hK K
    try simp only [Act.put, qsaq, qszq, qssq]
    refine stL 5 (by rfl) (by kernel_rfl) fun K hK => ?_
    obtain ⟨v5, w3x, hrun3, k3x, ⟨e5, own5⟩, z5⟩ := uses_copy b2x (Sl.wr0 HU.out (AR.out.trans ((KD.out.trans k1x).trans k2x))) NU.out
    obtain ⟨A5, c5, rfl, _, _⟩ := own_form own5
    have HRUN3 := qh hrun3
    clear hrun3
    refine step_append_run (by rfl) _ _ _ (by rfl) _ _ (by rfl) (by rfl) _ _ HRUN3.out ?_
    have hzc := z5 c b1xn2.lt HCQ
    have b1xn2n3 := b1xn2.wr k3x (by simpa using HCQ)
    refine hK _ _ (HC.out _ (((KD.out.trans k1x).trans k2x).trans' k3x (fun x hx => .inr (by rw [qmsq] at hx; subst hx; exact hs2x)))) ?_
    clear hK K
    try simp only [Act.put, qsaq, qszq, qssq]
    refine mvB 6 (by rfl) (by kernel_rfl) (by rfl) (fun w' hS => by simp only [Cs] at hS; go_split_ands; go_simp; try rfl) ?_
    try simp only [Act.put, qsaq, qszq, qssq]
    refine stL 8 (by rfl) (by kernel_rfl) fun K hK => ?_
    have f0x := b1xn2n3.frozen 0
    have f1x := b1xn2n3.frozen 1
    have f2x := b1xn2n3.frozen 2
    have f3x := b1xn2n3.frozen 3
    have d0x := b1xn2n3.cell 0
    have d1x := b1xn2n3.cell 1
    have d2x := b1xn2n3.cell 2
    have d3x := b1xn2n3.cell 3
    simp only [qgaq, qgzq, qgsq] at d0x d1x d2x d3x
    go_simp
    refine hK _ _ (HC.out _ (wr_set4 (((KD.out.trans k1x).trans k2x).trans' k3x (fun x hx => .inr (by rw [qmsq] at hx; subst hx; exact hs2x))) hs1x)) (endL (by kernel_rfl) ?_)
    clear hK K
    try simp only [Act.put, qsaq, qszq, qssq]
    go_wp2_with fail
    go_meet
    exact ⟨c, _, rfl, ⟨blk_set4 b1xn2n3, use_fin own5 hzc hs2x, hs1x, wr_set4 (((KD.out.trans k1x).trans k2x).trans' k3x (fun x hx => .inr (by rw [qmsq] at hx; subst hx; exact hs2x))) hs1x⟩⟩
  case rest =>
   rename World => w5
   obtain ⟨c, vu2, rfl, hst⟩ := hcut
   obtain ⟨Au, cu, rfl, _, _⟩ := Sl.form hst.us
   have ar := (ACC.out.trans R1.out).trans R2.out
   have f5 := ar.trans hst.wr
   have hwc : w.heap.size ≤ c := Nat.le_trans ar.size hst.lo
   have hcl : c < w5.heap.size := hst.cb.lt
   have bG2 := BA.out.wr0 (R1.out.trans R2.out)
   have bY2 := BY.out.wr0 (R1.out.trans R2.out)
   have hgc : g ≠ c := by have := bG2.lt; have := hst.lo; omega
   have hyc : y ≠ c := by have := bY2.lt; have := hst.lo; omega
   have HT5 := qh ((SlTys.into HT.out (Q := fun b => b < w.heap.size) (fun b _ h => h)).wr0 f5)
   have HI5 := qh (Sl.wr0 (Sl.into HI.out (Q := fun b => b < w.heap.size) (fun b _ h => h)) f5)
   have hO5 : OrdL w5 (fun b => b < c) vo (ordOf f) := Sl.wr0 (Sl.into HO.out (fun b _ h => by have := hst.lo; omega)) hst.wr
   obtain ⟨Ao, co, rfl, _, _⟩ := Sl.form hO5
   have HO5 := qh hO5
   have HU5 := qh hst.us
   have HG5 := qh (bG2.wr0 hst.wr)
   have HY5 := qh (bY2.wr0 hst.wr)
   have HY2 := qh (show y < w2.heap.size from bY2.lt)
   have F5 := qh f5
   have t1 : T1 w5 f c y (.slice Au f.uses.length cu) (ordOf f) 0 w5 := ⟨⟨.slice none 0 0, hst.cb, RowG.nil _⟩, Wr.refl _ _⟩
   have TS1 := qh t1
   have HOK := qh (ordOk HMV.out)
   have HTL := qh (may_types HMV.out)
   have HGC := qh hgc
   have HYC := qh hyc
   have HWC := qh hwc
   have HCL := qh hcl
   have hol : (ordOf f).length ≤ 1024 := by have h1 := ord_len HMV.out; have h2 := HTL.out.1; omega
   have HOL := qh hol
   clear hst ar f5 hwc hcl bG2 bY2 hgc hyc hO5 t1 R1 R2 HO c0 c1
   go_wp2_with fail
   go_loopw [7] (fun s7 wr => ∃ k : Nat, k ≤ (ordOf f).length ∧ s7 = .int .i64 k ∧ T1 w5 f c y (.slice Au f.uses.length cu) (ordOf f) k wr) (fun s7 _ => (ordOf f).length - (intOf s7).toNat)
   case atStart => exact ⟨0, by omega, rfl, TS1.out⟩
   case round =>
    clear TS1
    obtain ⟨k, hk, rfl, ⟨⟨vt, hcb, hrow⟩, hwr⟩⟩ := hrel
    obtain ⟨At, ct, hvt, hvl⟩ := hrow.form
    rw [show ((List.take k (ordOf f)).map (anewAt f)).length = k by rw [qlmq, List.length_take]; omega] at hvt
    subst hvt
    have HCB := qh hcb
    have HROW := qh hrow
    have HWR := qh hwr
    have HVL := qh hvl
    have HK := qh hk
    clear hcb hrow hvl
    by_cases hlt : k < (ordOf f).length
    ·obtain ⟨n, hn⟩ : ∃ n, (ordOf f)[k]? = some n := ⟨_, qgeq hlt⟩
     obtain ⟨hn1, hn2⟩ := nums_iff.1 (HOK.out.inT n (List.mem_of_getElem? hn))
     obtain ⟨i, hi⟩ : ∃ i, (n - 10).toNat = i := ⟨_, rfl⟩
     have hni : n - 10 = (i : Int) := by omega
     have hil : i < f.types.length := by omega
     obtain ⟨t, ht⟩ : ∃ t, f.types[i]? = some t := ⟨_, qgeq hil⟩
     have hanew : anewAt f n = anewT (ordOf f) t := by unfold anewAt; rw [hi, ht]; rfl
     obtain ⟨bo, oo, c', e, _, _, _, xo⟩ := Sl.at_ (Sl.keep HO5.out hwr (fun b hb => by simp; omega)) (j := k) (u := .int .i64 (i : Int)) (by rw [qgmq, qgmq, hn]; simp [hni])
     injection e with e1 e2 e3
     subst e1 e3
     obtain ⟨bt, ot, c', un, uf, ua, up, e, _, hc, hl⟩ := ty_at (SlTys.keep HT5.out hwr (fun b hb => by have := HWC.out; simp; omega)) ht
     injection e with e1 e2 e3
     subst e1 e3
     obtain ⟨⟨B1, m1, rfl, _, _⟩, ⟨B2, m2, rfl, _, _⟩, ⟨B3, m3, rfl, _, _⟩, ⟨B4, m4, rfl, _, _⟩⟩ := hl.forms
     have x0 := hc 0 _ rfl
     have x1 := hc 1 _ rfl
     have x2 := hc 2 _ rfl
     have x3 := hc 3 _ rfl
     have x4 := hc 4 _ rfl
     have x5 := hc 5 _ rfl
     have x6 := hc 6 _ rfl
     have x7 := hc 7 _ rfl
     have x8 := hc 8 _ rfl
     have x9 := hc 9 _ rfl
     have x10 := hc 10 _ rfl
     have x11 := hc 11 _ rfl
     simp only [Nat.add_zero] at x0
     have g2 := HG5.out.cell 2
     simp only [qgaq, qgzq, qgsq] at g2
     have d2 := hwr.cellOf g2 (by simpa using HGC.out)
     have hlti : (k : Int) < ((ordOf f).length : Int) := by omega
     have hk0 : (0 : Int) ≤ (k : Int) := by omega
     have hili : (i : Int) < (f.types.length : Int) := by omega
     have hi0 : (0 : Int) ≤ (i : Int) := by omega
     have HN := qh hn
     have HTT := qh ht
     have HAN := qh hanew
     have HL := qh hl
     clear hc hn hn1 hn2 hi hni hil ht hanew hl g2 hwr hlt hk
     go_upto_region 9 with (fail)
     refine beginA [] [(g, 2, .slice (some ⟨bt, ot, none⟩) f.types.length k2), (bo, oo + k, .int .i64 (i : Int)), (bt, ot + i * 12, .int .u8 t.kind), (bt, ot + i * 12 + 1, .string t.module), (bt, ot + i * 12 + 2, .string t.name), (bt, ot + i * 12 + 3, .int .i64 t.base), (bt, ot + i * 12 + 4, .int .i64 t.index), (bt, ot + i * 12 + 5, .int .i64 t.low), (bt, ot + i * 12 + 6, .int .i64 t.high), (bt, ot + i * 12 + 7, .slice B1 t.names.length m1), (bt, ot + i * 12 + 8, .slice B2 t.fields.length m2), (bt, ot + i * 12 + 9, .slice B3 t.arms.length m3), (bt, ot + i * 12 + 10, .slice B4 t.params.length m4), (bt, ot + i * 12 + 11, .int .i64 t.result)] (by kernel_rfl) (by simp only [Cs]; exact ⟨d2, xo, x0, x1, x2, x3, x4, x5, x6, x7, x8, x9, x10, x11, trivial⟩) (by simp) fun HC => ?_
     refine mvB 0 (by rfl) (by kernel_rfl) (by rfl) (fun w' hS => by simp only [Cs] at hS; go_split_ands; go_simp; try rfl) ?_
     try simp only [Act.put, qsaq, qszq, qssq]
     refine mvB 1 (by rfl) (by kernel_rfl) (by rfl) (fun w' hS => by simp only [Cs] at hS; go_split_ands; go_simp; try rfl) ?_
     try simp only [Act.put, qsaq, qszq, qssq]
     refine mvB 2 (by rfl) (by kernel_rfl) (by rfl) (fun w' hS => by simp only [Cs] at hS; go_split_ands; go_simp; try rfl) ?_
     try simp only [Act.put, qsaq, qszq, qssq]
     refine mvB 3 (by rfl) (by kernel_rfl) (by rfl) (fun w' hS => by simp only [Cs] at hS; go_split_ands; go_simp; try rfl) ?_
     try simp only [Act.put, qsaq, qszq, qssq]
     refine mvB 4 (by rfl) (by kernel_rfl) (by rfl) (fun w' hS => by simp only [Cs] at hS; go_split_ands; go_simp; try rfl) ?_
     try simp only [Act.put, qsaq, qszq, qssq]
     refine mvB 5 (by rfl) (by kernel_rfl) (by rfl) (fun w' hS => by simp only [Cs] at hS; go_split_ands; go_simp; try rfl) ?_
     try simp only [Act.put, qsaq, qszq, qssq]
     refine mvB 6 (by rfl) (by kernel_rfl) (by rfl) (fun w' hS => by simp only [Cs] at hS; go_split_ands; go_simp; try rfl) ?_
     try simp only [Act.put, qsaq, qszq, qssq]
     refine mvB 7 (by rfl) (by kernel_rfl) (by rfl) (fun w' hS => by simp only [Cs] at hS; go_split_ands; go_simp; try rfl) ?_
     try simp only [Act.put, qsaq, qszq, qssq]
     refine stL 8 (by rfl) (by kernel_rfl) fun K hK => ?_
     go_simp
     refine hK _ _ (HC.out _ ((Wr.refl [] wr).drew.alloc _)) ?_
     clear hK K
     try simp only [Act.put, qsaq, qszq, qssq]
     refine stL 9 (by rfl) (by kernel_rfl) fun K hK => ?_
     go_simp
     refine hK _ _ (HC.out _ (((Wr.refl [] wr).alloc _).drew)) (endL (by kernel_rfl) ?_)
     clear hK K HC
     try simp only [Act.put, qsaq, qszq, qssq]
     have bz := (Blk.new wr 52 #[.int .u8 t.kind, .string t.module, .string t.name, .int .i64 t.base, .int .i64 t.index, .int .i64 t.low, .int .i64 t.high, .slice B1 t.names.length m1, .slice B2 t.fields.length m2, .slice B3 t.arms.length m3, .slice B4 t.params.length m4, .int .i64 t.result]).drew
     have kz := ((Wr.refl [] wr).alloc (.cells #[.int .u8 t.kind, .string t.module, .string t.name, .int .i64 t.base, .int .i64 t.index, .int .i64 t.low, .int .i64 t.high, .slice B1 t.names.length m1, .slice B2 t.fields.length m2, .slice B3 t.arms.length m3, .slice B4 t.params.length m4, .int .i64 t.result] 52)).drew
     obtain ⟨z, hz⟩ : ∃ q, wr.heap.size = q := ⟨_, rfl⟩
     rw [hz] at bz
     rw [hz]
     generalize (wr.alloc (.cells #[.int .u8 t.kind, .string t.module, .string t.name, .int .i64 t.base, .int .i64 t.index, .int .i64 t.low, .int .i64 t.high, .slice B1 t.names.length m1, .slice B2 t.fields.length m2, .slice B3 t.arms.length m3, .slice B4 t.params.length m4, .int .i64 t.result] 52)).drew = wz at *
     have hzl : wr.heap.size ≤ z := by omega
     have HZL := qh hzl
     have hor := Sl.keep HO5.out HWR.out (fun b hb => by simp; omega)
     have HA := qh (fun n (h0 : 0 ≤ n) (h1 : n ≤ 2000) W (r : Wr [] wr W) => anew_b (ordOf f) HOK.out.nodup HOL.out (fun x hx => by have h1 := nums_iff.1 (HOK.out.inT x hx); have h2 := HTL.out.1; omega) (.slice (some ⟨bo, oo, none⟩) (ordOf f).length co) (fun b => b < c) n h0 h1 W (Sl.wr0 hor r))
     have HKB := qh (show ∀ x ∈ kids t, 0 ≤ x ∧ x ≤ 2000 from fun x hx => by
      have h1 := kids_form (face_types HMV.out t (List.mem_of_getElem? HTT.out)) x hx
      rw [tyB_iff] at h1
      have h2 := HTL.out.1
      omega)
     have hfit := may_tyFit HMV.out (List.mem_of_getElem? HTT.out)
     unfold tyFit fwB at hfit
     simp only [Bool.and_eq_true, decide_eq_true_eq] at hfit
     have NF := qh hfit.1.1.1.1.1.2
     have NP := qh hfit.1.1.1.2
     have y0 := bz.cell 3
     simp only [qgaq, qgzq, qgsq] at y0
     have BZ := qh bz
     have KZ := qh kz
     clear bz kz hz hzl hor hfit d2 xo x0 x1 x2 x3 x4 x5 x6 x7 x8 x9 x10 x11
     obtain ⟨nb, hnb⟩ : ∃ q, anewN (ordOf f) t.base = q := ⟨_, rfl⟩
     have ga := HA.out t.base (HKB.out t.base (by simp [kids])).1 (HKB.out t.base (by simp [kids])).2 _ KZ.out
     rw [hnb] at ga
     have GA := qh ga
     have Hnb := qh hnb
     clear ga hnb
     go_wp2_with fail
     refine GA.out.mono ?_
     rintro e wq ⟨rfl, rfl⟩
     have fz := BZ.out.frozen 3
     have bs := BZ.out.set_ 3 (.int .i64 nb)
     simp only [qsaq, qszq, qssq] at bs
     have ks := KZ.out.setNew (b := z) (o := 3) HZL.out (.int .i64 nb)
     go_upto_region 11 with (fail)
     generalize wz.setCell ⟨z, 3, none⟩ (.int .i64 nb) = wz3 at *
     have BZ4 := qh bs
     have KZ3 := qh ks
     clear fz y0 GA ks
     have y0 := bs.cell 4
     simp only [qgaq, qgzq, qgsq] at y0
     clear bs
     obtain ⟨ni, hni⟩ : ∃ q, anewN (ordOf f) t.index = q := ⟨_, rfl⟩
     have ga := HA.out t.index (HKB.out t.index (by simp [kids])).1 (HKB.out t.index (by simp [kids])).2 _ KZ3.out
     rw [hni] at ga
     have GA := qh ga
     have Hni := qh hni
     clear ga hni
     go_wp2_with fail
     refine GA.out.mono ?_
     rintro e wq ⟨rfl, rfl⟩
     have fz := BZ4.out.frozen 4
     have bs := BZ4.out.set_ 4 (.int .i64 ni)
     simp only [qsaq, qszq, qssq] at bs
     have ks := KZ3.out.setNew (b := z) (o := 4) HZL.out (.int .i64 ni)
     go_upto_region 12 with (fail)
     generalize wz3.setCell ⟨z, 4, none⟩ (.int .i64 ni) = wz4 at *
     have BZ11 := qh bs
     have KZ4 := qh ks
     clear fz y0 GA ks
     have y0 := bs.cell 11
     simp only [qgaq, qgzq, qgsq] at y0
     clear bs
     obtain ⟨nr, hnr⟩ : ∃ q, anewN (ordOf f) t.result = q := ⟨_, rfl⟩
     have ga := HA.out t.result (HKB.out t.result (by simp [kids])).1 (HKB.out t.result (by simp [kids])).2 _ KZ4.out
     rw [hnr] at ga
     have GA := qh ga
     have Hnr := qh hnr
     clear ga hnr
     go_wp2_with fail
     refine GA.out.mono ?_
     rintro e wq ⟨rfl, rfl⟩
     have fz := BZ11.out.frozen 11
     have bs := BZ11.out.set_ 11 (.int .i64 nr)
     simp only [qsaq, qszq, qssq] at bs
     have ks := KZ4.out.setNew (b := z) (o := 11) HZL.out (.int .i64 nr)
     go_upto_region 13 with (fail)
     generalize wz4.setCell ⟨z, 11, none⟩ (.int .i64 nr) = wz11 at *
     have BZf := qh bs
     have KZ11 := qh ks
     clear fz y0 GA ks
     clear bs
     have NB := qh (show ∀ b, wr.heap.size ≤ b → (b ≠ c ∧ b ≠ y) ∧ (Value.slice At k ct).ownBlock ≠ some b from fun b hb => by
      have h1 := HWR.out.size
      have h2 := HCL.out
      have h3 := HY5.out.lt
      refine ⟨⟨by omega, by omega⟩, fun e => ?_⟩
      have := (HVL.out b (mem_ownL.2 e)).2
      omega)
     have OB := qh (show ∀ b, b < w.heap.size → (b ≠ c ∧ b ≠ y) ∧ (Value.slice At k ct).ownBlock ≠ some b from fun b hb => by
      have h1 := HWC.out
      have h2 := HCL.out
      have h3 := HWY.out
      refine ⟨⟨by omega, by omega⟩, fun e => ?_⟩
      have := (HVL.out b (mem_ownL.2 e)).1
      omega)
     go_wp2_with fail
     go_loopw [9, 10] (fun sa sb wi => ∃ j : Nat, j ≤ t.fields.length ∧ sb = .int .i64 j ∧ GSt 73 3 Fld.cells wz11 sa ((t.fields.take j).map (anewF (ordOf f))) wi) (fun _ sb _ => t.fields.length - (intOf sb).toNat)
     case atStart => exact ⟨0, by omega, rfl, GSt.nil _⟩
     case round =>
      rename World => wi
      obtain ⟨j, hj, rfl, hg⟩ := hrel
      have G0 := qh hg
      have y0 := (BZf.out.wr0 hg.2).cell 8
      simp only [qgaq, qgzq, qgsq] at y0
      by_cases hlj : j < t.fields.length
      ·obtain ⟨x, hx⟩ : ∃ x, t.fields[j]? = some x := ⟨_, qgeq hlj⟩
       obtain ⟨bx, ox, c', e, _, hcx⟩ := fld_at HL.out.fields hx
       injection e with e1 e2 e3
       subst e1 e3
       have KI := qh (KZ11.out.trans hg.2)
       have x0 := KI.out.cellOf (hcx 0 _ rfl) (by simp)
       have x1 := KI.out.cellOf (hcx 1 _ rfl) (by simp)
       have x2 := KI.out.cellOf (hcx 2 _ rfl) (by simp)
       simp only [Nat.add_zero] at x0
       have hji : (j : Int) < (t.fields.length : Int) := by omega
       have hj0 : (0 : Int) ≤ (j : Int) := by omega
       have hjn : j < 65535 := by have := NF.out; omega
       have HX := qh hx
       obtain ⟨nx, hnx⟩ : ∃ q, anewN (ordOf f) x.type = q := ⟨_, rfl⟩
       have hxk := HKB.out x.type (by have := List.mem_of_getElem? hx; simp only [kids, qmcq, List.mem_append, List.mem_map, qnnq, or_false]; exact .inr (.inr (.inl ⟨x, this, rfl⟩)))
       have HXK := qh hxk
       have HNX := qh hnx
       clear hcx hx hg hnx hxk hj hlj
       go_upto_region 18 with (fail)
       have bx0 := Blk.new wi 73 #[.string x.name, .int .i64 x.type, .int .i64 x.arm]
       have kx := (Wr.refl [] wi).alloc (.cells #[.string x.name, .int .i64 x.type, .int .i64 x.arm] 73)
       obtain ⟨xb, hxb⟩ : ∃ q, wi.heap.size = q := ⟨_, rfl⟩
       rw [hxb] at bx0
       rw [hxb]
       generalize wi.alloc (.cells #[.string x.name, .int .i64 x.type, .int .i64 x.arm] 73) = wx at *
       have hxl : wi.heap.size ≤ xb := by omega
       have y1 := bx0.cell 1
       simp only [qgaq, qgzq, qgsq] at y1
       have ga := HA.out x.type HXK.out.1 HXK.out.2 wx (KI.out.trans kx)
       rw [HNX.out] at ga
       have GA := qh ga
       clear ga x0 x1 x2 y0 hxb
       go_wp2_with fail
       refine GA.out.mono ?_
       rintro e wq ⟨rfl, rfl⟩
       have fz := bx0.frozen 1
       have bs := bx0.set_ 1 (.int .i64 nx)
       simp only [qsaq, qszq, qssq] at bs
       have ks := kx.setNew (b := xb) (o := 1) hxl (.int .i64 nx)
       go_upto_region 19 with (fail)
       generalize wx.setCell ⟨xb, 1, none⟩ (.int .i64 nx) = wy at *
       clear fz y1 GA bx0 kx
       have y0 := bs.cell 0
       have y1 := bs.cell 1
       have y2 := bs.cell 2
       simp only [qgaq, qgzq, qgsq] at y0 y1 y2
       obtain ⟨i0, hi0, hq0, hq1, hq2⟩ := info_parts info_fld
       obtain ⟨v9, w9, hrun, hg9⟩ := G0.out.push (t := 48) (x := anewF (ordOf f) x) Tryz.underlying48 hi0 hq0 hq1 hq2 rfl (by decide) (ks.alloc (.cells #[.string x.name, .int .i64 nx, .int .i64 x.arm] 73)) (q := wy.heap.size) (by
        unfold anewF
        rw [HNX.out]
        exact Blk.new wy 73 #[.string x.name, .int .i64 nx, .int .i64 x.arm]) rfl (by simp [Fld.cells, Value.oneCell']) (by rw [qlmq, List.length_take]; omega) (by decide)
       rw [← mapT_snoc (anewF (ordOf f)) HX.out] at hg9
       have G9 := qh hg9
       have HRUN := qh hrun
       clear hrun hg9 bs ks i0 hi0 hq0 hq1 hq2 hxl
       go_wp2_with (at_builtin; refine wpList_append_run rfl _ _ _ rfl _ _ rfl rfl _ _ HRUN.out ?_)
       go_roundw
       case rel => exact ⟨j + 1, by omega, by go_num, G9.out⟩
       case measure => simp [intOf]; omega
      ·obtain rfl : j = t.fields.length := by omega
       have hg := G0.out
       rw [List.take_length] at hg
       obtain ⟨Af, cAf, rfl⟩ := hg.form (N := t.fields.length) (by rw [qlmq])
       have bk := BZf.out.wr0 hg.2
       have fz := bk.frozen 8
       have bs := bk.set_ 8 (.slice Af t.fields.length cAf)
       simp only [qsaq, qszq, qssq] at bs
       have ks := (KZ11.out.trans hg.2).setNew (b := z) (o := 8) HZL.out (.slice Af t.fields.length cAf)
       have hsl := Sl.keep hg.sl (show Wr [z] wi (wi.setCell ⟨z, 8, none⟩ (.slice Af t.fields.length cAf)) from (Wr.refl [z] wi).setOn (by simp) _) (fun b hb => by have := BZf.out.lt; simp; omega)
       have yk := bk.cell 8
       simp only [qgaq, qgzq, qgsq] at yk
       clear hg G0 hj hlj
       go_upto_region 21 with (fail)
       generalize wi.setCell ⟨z, 8, none⟩ (.slice Af t.fields.length cAf) = wzF at *
       have BZg := qh bs
       have KZg := qh ks
       have HLF := qh hsl
       clear fz bk bs ks hsl yk y0
       go_wp2_with fail
       go_loopw [12, 13] (fun sa sb wi => ∃ j : Nat, j ≤ t.params.length ∧ sb = .int .i64 j ∧ GSt 84 2 Par.cells wzF sa ((t.params.take j).map (anewP (ordOf f))) wi) (fun _ sb _ => t.params.length - (intOf sb).toNat)
       case atStart => exact ⟨0, by omega, rfl, GSt.nil _⟩
       case round =>
        rename World => wi
        obtain ⟨j, hj, rfl, hg⟩ := hrel
        have G0 := qh hg
        have y0 := (BZg.out.wr0 hg.2).cell 10
        simp only [qgaq, qgzq, qgsq] at y0
        by_cases hlj : j < t.params.length
        ·obtain ⟨x, hx⟩ : ∃ x, t.params[j]? = some x := ⟨_, qgeq hlj⟩
         obtain ⟨bx, ox, c', e, _, hcx⟩ := par_at HL.out.params hx
         injection e with e1 e2 e3
         subst e1 e3
         have KI := qh (KZg.out.trans hg.2)
         have x0 := KI.out.cellOf (hcx 0 _ rfl) (by simp)
         have x1 := KI.out.cellOf (hcx 1 _ rfl) (by simp)
         simp only [Nat.add_zero] at x0
         have hji : (j : Int) < (t.params.length : Int) := by omega
         have hj0 : (0 : Int) ≤ (j : Int) := by omega
         have hjn : j < 65535 := by have := NP.out; omega
         have HX := qh hx
         obtain ⟨nx, hnx⟩ : ∃ q, anewN (ordOf f) x.type = q := ⟨_, rfl⟩
         have hxk := HKB.out x.type (by have := List.mem_of_getElem? hx; simp only [kids, qmcq, List.mem_append, List.mem_map, qnnq, or_false]; exact .inr (.inr (.inr (.inl ⟨x, this, rfl⟩))))
         have HXK := qh hxk
         have HNX := qh hnx
         clear hcx hx hg hnx hxk hj hlj
         go_upto_region 26 with (fail)
         have bx0 := Blk.new wi 84 #[.bool x.var, .int .i64 x.type]
         have kx := (Wr.refl [] wi).alloc (.cells #[.bool x.var, .int .i64 x.type] 84)
         obtain ⟨xb, hxb⟩ : ∃ q, wi.heap.size = q := ⟨_, rfl⟩
         rw [hxb] at bx0
         rw [hxb]
         generalize wi.alloc (.cells #[.bool x.var, .int .i64 x.type] 84) = wx at *
         have hxl : wi.heap.size ≤ xb := by omega
         have y1 := bx0.cell 1
         simp only [qgaq, qgzq, qgsq] at y1
         have ga := HA.out x.type HXK.out.1 HXK.out.2 wx (KI.out.trans kx)
         rw [HNX.out] at ga
         have GA := qh ga
         clear ga x0 x1 y0 hxb
         go_wp2_with fail
         refine GA.out.mono ?_
         rintro e wq ⟨rfl, rfl⟩
         have fz := bx0.frozen 1
         have bs := bx0.set_ 1 (.int .i64 nx)
         simp only [qsaq, qszq, qssq] at bs
         have ks := kx.setNew (b := xb) (o := 1) hxl (.int .i64 nx)
         go_upto_region 27 with (fail)
         generalize wx.setCell ⟨xb, 1, none⟩ (.int .i64 nx) = wy at *
         clear fz y1 GA bx0 kx
         have y0 := bs.cell 0
         have y1 := bs.cell 1
         simp only [qgaq, qgzq, qgsq] at y0 y1
         obtain ⟨i0, hi0, hq0, hq1, hq2⟩ := info_parts info_par
         obtain ⟨v9, w9, hrun, hg9⟩ := G0.out.push (t := 50) (x := anewP (ordOf f) x) Tryz.underlying50 hi0 hq0 hq1 hq2 rfl (by decide) (ks.alloc (.cells #[.bool x.var, .int .i64 nx] 84)) (q := wy.heap.size) (by
          unfold anewP
          rw [HNX.out]
          exact Blk.new wy 84 #[.bool x.var, .int .i64 nx]) rfl (by simp [Par.cells, Value.oneCell']) (by rw [qlmq, List.length_take]; omega) (by decide)
         rw [← mapT_snoc (anewP (ordOf f)) HX.out] at hg9
         have G9 := qh hg9
         have HRUN := qh hrun
         clear hrun hg9 bs ks i0 hi0 hq0 hq1 hq2 hxl
         go_wp2_with (at_builtin; refine wpList_append_run rfl _ _ _ rfl _ _ rfl rfl _ _ HRUN.out ?_)
         go_roundw
         case rel => exact ⟨j + 1, by omega, by go_num, G9.out⟩
         case measure => simp [intOf]; omega
        ·obtain rfl : j = t.params.length := by omega
         have hg := G0.out
         rw [List.take_length] at hg
         obtain ⟨Ap, cAp, rfl⟩ := hg.form (N := t.params.length) (by rw [qlmq])
         have bk := BZg.out.wr0 hg.2
         have fz := bk.frozen 10
         have bs := bk.set_ 10 (.slice Ap t.params.length cAp)
         simp only [qsaq, qszq, qssq] at bs
         have ks := (KZg.out.trans hg.2).setNew (b := z) (o := 10) HZL.out (.slice Ap t.params.length cAp)
         have hsl := Sl.keep hg.sl (show Wr [z] wi (wi.setCell ⟨z, 10, none⟩ (.slice Ap t.params.length cAp)) from (Wr.refl [z] wi).setOn (by simp) _) (fun b hb => by have := BZg.out.lt; simp; omega)
         have HLF2 := qh (Sl.keep (Sl.wr0 HLF.out hg.2) (show Wr [z] wi (wi.setCell ⟨z, 10, none⟩ (.slice Ap t.params.length cAp)) from (Wr.refl [z] wi).setOn (by simp) _) (fun b hb => by have := BZf.out.lt; simp; omega))
         have yk := bk.cell 10
         simp only [qgaq, qgzq, qgsq] at yk
         clear hg G0 hj hlj
         go_upto_region 29 with (fail)
         generalize wi.setCell ⟨z, 10, none⟩ (.slice Ap t.params.length cAp) = wzP at *
         have BZh := qh bs
         have KZh := qh ks
         have HLP := qh hsl
         clear fz bk bs ks hsl yk y0
         have K9 := KZh.out.alloc (.cells (Array.mk [.int .u8 t.kind, .string t.module, .string t.name, .int .i64 nb, .int .i64 ni, .int .i64 t.low, .int .i64 t.high, .slice B1 t.names.length m1, .slice Af t.fields.length cAf, .slice B3 t.arms.length m3, .slice Ap t.params.length cAp, .int .i64 nr]) 52)
         have tyr : TyRel (wzP.alloc (.cells (Array.mk [.int .u8 t.kind, .string t.module, .string t.name, .int .i64 nb, .int .i64 ni, .int .i64 t.low, .int .i64 t.high, .slice B1 t.names.length m1, .slice Af t.fields.length cAf, .slice B3 t.arms.length m3, .slice Ap t.params.length cAp, .int .i64 nr]) 52)) (fun bl => (bl ≠ c ∧ bl ≠ y) ∧ (Value.slice At k ct).ownBlock ≠ some bl) [.int .u8 t.kind, .string t.module, .string t.name, .int .i64 nb, .int .i64 ni, .int .i64 t.low, .int .i64 t.high, .slice B1 t.names.length m1, .slice Af t.fields.length cAf, .slice B3 t.arms.length m3, .slice Ap t.params.length cAp, .int .i64 nr] (anewAt f n) :=
          ⟨.slice B1 t.names.length m1, .slice Af t.fields.length cAf, .slice B3 t.arms.length m3, .slice Ap t.params.length cAp, by rw [HAN.out]; unfold Ty.cells anewT; rw [Hnb.out, Hni.out, Hnr.out], by
           rw [HAN.out]
           exact ⟨(Sl.wr0 (Sl.into HL.out.names (fun b hb _ => OB.out b hb)) K9), (Sl.wr0 (Sl.mono HLF2.out (fun b hb => NB.out b (by have := KZ11.out.size; omega))) ((Wr.refl [] wzP).alloc _)), (SlArms.keep (SlArms.into HL.out.arms (fun b hb _ => OB.out b hb)) K9 (fun _ _ => by simp)), (Sl.wr0 (Sl.mono HLP.out (fun b hb => NB.out b (by have := KZg.out.size; omega))) ((Wr.refl [] wzP).alloc _))⟩⟩
         obtain ⟨A9, c9, W7, hrun, b7, t7⟩ := T1.next HCB.out HROW.out HWR.out HCL.out HVL.out KZh.out (by have h1 := HK.out; have h2 := HOL.out; omega) HN.out rfl (by simp [Value.oneCell']) tyr
         have hcbP := HCB.out.wr0 KZh.out
         have y0 := BZh.out.cell 0
         have y1 := BZh.out.cell 1
         have y2 := BZh.out.cell 2
         have y3 := BZh.out.cell 3
         have y4 := BZh.out.cell 4
         have y5 := BZh.out.cell 5
         have y6 := BZh.out.cell 6
         have y7 := BZh.out.cell 7
         have y8 := BZh.out.cell 8
         have y9 := BZh.out.cell 9
         have y10 := BZh.out.cell 10
         have y11 := BZh.out.cell 11
         have e2 := hcbP.cell 2
         have e7 := b7.cell 2
         have f7 := b7.frozen 2
         simp only [qgaq, qgzq, qgsq] at y0 y1 y2 y3 y4 y5 y6 y7 y8 y9 y10 y11 e2 e7
         have T7 := qh t7
         have HRUN := qh hrun
         have hk9 : k < 2000 := by have h1 := HK.out; have h2 := HOL.out; omega
         clear K9 tyr hrun b7 t7 hcbP
         go_wp2_with (at_builtin; refine wpList_append_run rfl _ _ _ rfl _ _ rfl rfl _ _ HRUN.out ?_)
         go_roundw
         case rel => exact ⟨k + 1, by omega, by go_num, T7.out⟩
         case measure => simp [intOf]; omega
    ·obtain rfl : k = (ordOf f).length := by omega
     have hrow := HROW.out
     rw [List.take_length] at hrow
     have hty := (hrow.outQ tyOk (Q := fun b => b ≠ c ∧ b ≠ y) (fun b h => h) (fun b hb => by have h1 := HCL.out; have h2 := HY5.out.lt; exact ⟨by omega, by omega⟩)).tys
     have HTY := qh hty
     have HU6 := qh (Sl.keep HU5.out HWR.out (fun b hb => by simpa using hb.1))
     have HI6 := qh (Sl.keep HI5.out HWR.out (fun b hb => by have := HWC.out; simp; omega))
     have HO6 := qh (Sl.keep HO5.out HWR.out (fun b hb => by simp; omega))
     have HG6 := qh (HG5.out.wr HWR.out (by simpa using HGC.out))
     have HY6 := qh (HY5.out.wr HWR.out (by simpa using HYC.out))
     have F6 := qh (F5.out.trans' HWR.out (fun q hq => by rw [qmsq] at hq; subst hq; exact .inr HWC.out))
     have C6 := qh (show c < wr.heap.size from HCB.out.lt)
     have t2 : T2 wr f c (.slice Au f.uses.length cu) (.slice At (ordOf f).length ct) [] wr := ⟨⟨.slice none 0 0, HCB.out, World.ownsRow_nil _ _ _ _⟩, Wr.refl _ _⟩
     have TS2 := qh t2
     have g2 := HG5.out.cell 3
     simp only [qgaq, qgzq, qgsq] at g2
     have hil2 : fi.length ≤ 512 := by rw [HFP.out, qlmq]; exact HTL.out.2.1
     have HIL := qh hil2
     clear hrow hty t2 hlt hk hwr g2 hil2 HROW HVL HCB HK
     rename World => w6
     go_wp2_with fail
     go_loopw [15] (fun s15 wi => ∃ k : Nat, k ≤ fi.length ∧ s15 = .int .i64 k ∧ T2 w6 f c (.slice Au f.uses.length cu) (.slice At (ordOf f).length ct) ((fi.take k).map (panew (ordOf f))) wi) (fun s15 _ => fi.length - (intOf s15).toNat)
     case atStart => exact ⟨0, by omega, rfl, TS2.out⟩
     case round =>
      clear TS2
      rename World => wi
      obtain ⟨k, hk, rfl, ⟨⟨vi2, hcb, hown⟩, hwr⟩⟩ := hrel
      have hln : ((List.take k fi).map (panew (ordOf f))).length = k := by rw [qlmq, List.length_take]; omega
      rw [hln] at hown
      obtain ⟨Ai, ci, rfl, _, _⟩ := own_form hown
      have HCB := qh hcb
      have HOWN := qh hown
      have HWR2 := qh hwr
      have HLN := qh hln
      have HK := qh hk
      have g3 := (HG6.out.wr hwr (by simpa using HGC.out)).cell 3
      simp only [qgaq, qgzq, qgsq] at g3
      clear hcb hown hln
      by_cases hlt : k < fi.length
      ·obtain ⟨x, hx⟩ : ∃ x, f.items[k]? = some x := ⟨_, qgeq (by rw [HFP.out, qlmq] at hlt; exact hlt)⟩
       have hfx : fi[k]? = some (pitmOf x) := by rw [HFP.out, qgmq, hx]; rfl
       obtain ⟨bi, oi, c', e, hib, hc⟩ := pitm_at HI6.out hfx
       injection e with e1 e2 e3
       subst e1 e3
       have hbc : ¬ bi = c := fun e => by have := hib; have := HWC.out; omega
       have x0 := hwr.cellOf (hc 0 _ rfl) (by simpa using hbc)
       have x1 := hwr.cellOf (hc 1 _ rfl) (by simpa using hbc)
       have x2 := hwr.cellOf (hc 2 _ rfl) (by simpa using hbc)
       have x3 := hwr.cellOf (hc 3 _ rfl) (by simpa using hbc)
       have x4 := hwr.cellOf (hc 4 _ rfl) (by simpa using hbc)
       have x5 := hwr.cellOf (hc 5 _ rfl) (by simpa using hbc)
       have x6 := hwr.cellOf (hc 6 _ rfl) (by simpa using hbc)
       have x7 := hwr.cellOf (hc 7 _ rfl) (by simpa using hbc)
       simp only [Nat.add_zero, pitmOf] at x0 x1 x2 x3 x4 x5 x6 x7
       obtain ⟨pv, hpv⟩ : ∃ q, valOf x.v = q := ⟨_, rfl⟩
       rw [hpv] at x4 x5 x6 x7
       have hlti : (k : Int) < (fi.length : Int) := by omega
       have hk0 : (0 : Int) ≤ (k : Int) := by omega
       have HA := qh (fun n (h0 : 0 ≤ n) (h1 : n ≤ 2000) W (r : Wr [] wi W) => anew_b (ordOf f) HOK.out.nodup HOL.out (fun x hx => by have h1 := nums_iff.1 (HOK.out.inT x hx); have h2 := HTL.out.1; omega) (.slice Ao (ordOf f).length co) (fun b => b < c) n h0 h1 W (Sl.wr0 (Sl.keep HO6.out hwr (fun b hb => by simp; omega)) r))
       have HKB := qh (show ∀ n ∈ itmKids x, 0 ≤ n ∧ n ≤ 2000 from fun n hn => by
        have h1 := itm_form (face_items HMV.out x (List.mem_of_getElem? hx)) n hn
        rw [tyB_iff] at h1
        have h2 := HTL.out.1
        omega)
       have hkt := HKB.out x.type (by unfold itmKids; split <;> simp)
       have hkv : pv.sort = 6 → 0 ≤ pv.type ∧ pv.type ≤ 2000 := fun h6 => by
        have hk := HKB.out
        unfold itmKids at hk
        generalize x.v = xv at *
        subst hpv
        cases xv with
        | item a b => exact hk a (by simp)
        | _ => exact absurd h6 (by simp [valOf])
       have HKV := qh hkv
       have HX := qh hx
       have HFX := qh hfx
       have HPV := qh hpv
       clear hc hx hfx hpv hkv hk hbc e2
       go_upto_region 34 with (fail)
       have bz := Blk.new wi 56 #[.string x.name, .int .u8 x.kind, .int .i64 x.type, .int .i64 x.at_, .int .u8 pv.sort, .int .i64 pv.n, .int .i64 pv.type, .string pv.text]
       have kz := (Wr.refl [] wi).alloc (.cells #[.string x.name, .int .u8 x.kind, .int .i64 x.type, .int .i64 x.at_, .int .u8 pv.sort, .int .i64 pv.n, .int .i64 pv.type, .string pv.text] 56)
       obtain ⟨z, hz⟩ : ∃ q, wi.heap.size = q := ⟨_, rfl⟩
       rw [hz] at bz
       rw [hz]
       generalize wi.alloc (.cells #[.string x.name, .int .u8 x.kind, .int .i64 x.type, .int .i64 x.at_, .int .u8 pv.sort, .int .i64 pv.n, .int .i64 pv.type, .string pv.text] 56) = wx at *
       have hzl : wi.heap.size ≤ z := by omega
       have HZL := qh hzl
       have y2 := bz.cell 2
       simp only [qgaq, qgzq, qgsq] at y2
       obtain ⟨nx, hnx⟩ : ∃ q, anewN (ordOf f) x.type = q := ⟨_, rfl⟩
       have ga := HA.out x.type hkt.1 hkt.2 wx kz
       rw [hnx] at ga
       have GA := qh ga
       have HNX := qh hnx
       clear ga hnx hkt hz x0 x1 x2 x3 x4 x5 x6 x7 g3
       go_wp2_with fail
       refine GA.out.mono ?_
       rintro e wq ⟨rfl, rfl⟩
       have fz := bz.frozen 2
       have bs := bz.set_ 2 (.int .i64 nx)
       simp only [qsaq, qszq, qssq] at bs
       have ks := kz.setNew (b := z) (o := 2) hzl (.int .i64 nx)
       go_upto_region 35 with (fail)
       generalize wx.setCell ⟨z, 2, none⟩ (.int .i64 nx) = wy at *
       clear fz y2 GA bz kz
       have y4 := bs.cell 4
       have y5 := bs.cell 5
       have y6 := bs.cell 6
       have y7 := bs.cell 7
       simp only [qgaq, qgzq, qgsq] at y4 y5 y6 y7
       go_upto_region 36 with (fail)
       have bv := Blk.new wy 54 #[.int .u8 pv.sort, .int .i64 pv.n, .int .i64 pv.type, .string pv.text]
       have kv := (Wr.refl [] wy).alloc (.cells #[.int .u8 pv.sort, .int .i64 pv.n, .int .i64 pv.type, .string pv.text] 54)
       obtain ⟨zv, hzv⟩ : ∃ q, wy.heap.size = q := ⟨_, rfl⟩
       rw [hzv] at bv
       rw [hzv]
       generalize wy.alloc (.cells #[.int .u8 pv.sort, .int .i64 pv.n, .int .i64 pv.type, .string pv.text] 54) = wv at *
       have hvz : z ≠ zv := by have := bs.lt; omega
       have hvl : wi.heap.size ≤ zv := by have := ks.size; omega
       have BZ := qh (bs.wr0 kv)
       have KV := qh (ks.trans kv)
       have v0 := bv.cell 0
       simp only [qgaq, qgzq, qgsq] at v0
       have BV := qh bv
       have HVZ := qh hvz
       have HVL2 := qh hvl
       clear bs ks bv kv hzv hvz hvl y4 y5 y6 y7 hzl
       by_cases h6 : pv.sort = 6
       ·skip
        have hkv := HKV.out h6
        have hb6 : (pv.sort == 6) = true := by simpa using h6
        have H6 := qh h6
        clear h6
        obtain ⟨nv, hnv⟩ : ∃ q, anewN (ordOf f) pv.type = q := ⟨_, rfl⟩
        have ga := HA.out pv.type hkv.1 hkv.2 wv KV.out
        rw [hnv] at ga
        have GA := qh ga
        have HNV := qh hnv
        have y2 := BV.out.cell 2
        simp only [qgaq, qgzq, qgsq] at y2
        clear ga hnv hkv
        go_wp2_with fail
        refine GA.out.mono ?_
        rintro e wq ⟨rfl, rfl⟩
        have fz := BV.out.frozen 2
        have bs := BV.out.set_ 2 (.int .i64 nv)
        simp only [qsaq, qszq, qssq] at bs
        have ks := KV.out.setNew (b := zv) (o := 2) HVL2.out (.int .i64 nv)
        have bz2 := BZ.out.wr (show Wr [zv] wv (wv.setCell ⟨zv, 2, none⟩ (.int .i64 nv)) from (Wr.refl [zv] wv).setOn (by simp) _) (by simpa using HVZ.out)
        go_upto_region 38 with (fail)
        generalize wv.setCell ⟨zv, 2, none⟩ (.int .i64 nv) = wu at *
        clear fz y2 v0 GA hb6
        have v0 := bs.cell 0
        have v1 := bs.cell 1
        have v2 := bs.cell 2
        have v3 := bs.cell 3
        have y4 := bz2.cell 4
        have f4 := bz2.frozen 4
        have y5 := bz2.cell 5
        have f5 := bz2.frozen 5
        have y6 := bz2.cell 6
        have f6 := bz2.frozen 6
        have y7 := bz2.cell 7
        have f7 := bz2.frozen 7
        simp only [qgaq, qgzq, qgsq] at v0 v1 v2 v3 y4 y5 y6 y7
        have bz3 := (((bz2.set_ 4 (.int .u8 pv.sort)).set_ 5 (.int .i64 pv.n)).set_ 6 (.int .i64 nv)).set_ 7 (.string pv.text)
        simp only [qsaq, qszq, qssq] at bz3
        have kz3 := (((ks.setNew (b := z) (o := 4) HZL.out (.int .u8 pv.sort)).setNew (b := z) (o := 5) HZL.out (.int .i64 pv.n)).setNew (b := z) (o := 6) HZL.out (.int .i64 nv)).setNew (b := z) (o := 7) HZL.out (.string pv.text)
        go_upto_region 39 with (fail)
        generalize (((wu.setCell ⟨z, 4, none⟩ (.int .u8 pv.sort)).setCell ⟨z, 5, none⟩ (.int .i64 pv.n)).setCell ⟨z, 6, none⟩ (.int .i64 nv)).setCell ⟨z, 7, none⟩ (.string pv.text) = wt at *
        have BT := qh bz3
        have KT := qh kz3
        clear v0 v1 v2 v3 y4 y5 y6 y7 f4 f5 f6 f7 bs ks bz2 bz3 kz3
        have hpx : (panew (ordOf f) (pitmOf x)).cells = [.string x.name, .int .u8 x.kind, .int .i64 nx, .int .i64 x.at_, .int .u8 pv.sort, .int .i64 pv.n, .int .i64 nv, .string pv.text] := by unfold panew pitmOf PItm.cells; simp only [HPV.out]; rw [if_pos H6.out]; simp only [HNX.out, HNV.out]
        obtain ⟨A9, c9, W7, hrun, b7, t7⟩ := T2.next (x := panew (ordOf f) (pitmOf x)) HCB.out HOWN.out HLN.out HWR2.out C6.out KT.out (by have h1 := HK.out; have h2 := HIL.out; omega)
        rw [hpx] at hrun
        rw [← mapT_snoc (panew (ordOf f)) HFX.out] at t7
        have hcbP := HCB.out.wr0 KT.out
        have y0 := BT.out.cell 0
        have y1 := BT.out.cell 1
        have y2 := BT.out.cell 2
        have y3 := BT.out.cell 3
        have y4 := BT.out.cell 4
        have y5 := BT.out.cell 5
        have y6 := BT.out.cell 6
        have y7 := BT.out.cell 7
        have e3 := hcbP.cell 3
        have e7 := b7.cell 3
        have f7 := b7.frozen 3
        simp only [qgaq, qgzq, qgsq] at y0 y1 y2 y3 y4 y5 y6 y7 e3 e7
        have T7 := qh t7
        have HRUN := qh hrun
        have hk9 : k < 2000 := by have h1 := HK.out; have h2 := HIL.out; omega
        clear hpx hrun b7 t7 hcbP
        go_wp2_with (at_builtin; refine wpList_append_run rfl _ _ _ rfl _ _ rfl rfl _ _ HRUN.out ?_)
        go_roundw
        case rel => exact ⟨k + 1, by omega, by go_num, T7.out⟩
        case measure => simp [intOf]; omega
       ·skip
        have hb6 : (pv.sort == 6) = false := by simpa using h6
        have H6 := qh h6
        clear h6
        go_upto_region 39 with (fail)
        clear v0 hb6
        have hpx : (panew (ordOf f) (pitmOf x)).cells = [.string x.name, .int .u8 x.kind, .int .i64 nx, .int .i64 x.at_, .int .u8 pv.sort, .int .i64 pv.n, .int .i64 pv.type, .string pv.text] := by unfold panew pitmOf PItm.cells; simp only [HPV.out]; rw [if_neg H6.out]; simp only [HNX.out]
        obtain ⟨A9, c9, W7, hrun, b7, t7⟩ := T2.next (x := panew (ordOf f) (pitmOf x)) HCB.out HOWN.out HLN.out HWR2.out C6.out KV.out (by have h1 := HK.out; have h2 := HIL.out; omega)
        rw [hpx] at hrun
        rw [← mapT_snoc (panew (ordOf f)) HFX.out] at t7
        have hcbP := HCB.out.wr0 KV.out
        have y0 := BZ.out.cell 0
        have y1 := BZ.out.cell 1
        have y2 := BZ.out.cell 2
        have y3 := BZ.out.cell 3
        have y4 := BZ.out.cell 4
        have y5 := BZ.out.cell 5
        have y6 := BZ.out.cell 6
        have y7 := BZ.out.cell 7
        have e3 := hcbP.cell 3
        have e7 := b7.cell 3
        have f7 := b7.frozen 3
        simp only [qgaq, qgzq, qgsq] at y0 y1 y2 y3 y4 y5 y6 y7 e3 e7
        have T7 := qh t7
        have HRUN := qh hrun
        have hk9 : k < 2000 := by have h1 := HK.out; have h2 := HIL.out; omega
        clear hpx hrun b7 t7 hcbP
        go_wp2_with (at_builtin; refine wpList_append_run rfl _ _ _ rfl _ _ rfl rfl _ _ HRUN.out ?_)
        go_roundw
        case rel => exact ⟨k + 1, by omega, by go_num, T7.out⟩
        case measure => simp [intOf]; omega
      ·obtain rfl : k = fi.length := by omega
       have yw := HY6.out.wr hwr (by simpa using HYC.out)
       have YW := qh yw
       have k0c := HCB.out.cell 0
       have k1c := HCB.out.cell 1
       have k2c := HCB.out.cell 2
       have k3c := HCB.out.cell 3
       have r0 := yw.cell 0
       have r1 := yw.cell 1
       have r2 := yw.cell 2
       have r3 := yw.cell 3
       have f0 := yw.frozen 0
       have f1 := yw.frozen 1
       have f2 := yw.frozen 2
       have f3 := yw.frozen 3
       simp only [qgaq, qgzq, qgsq] at k0c k1c k2c k3c r0 r1 r2 r3
       have hcp : canonP f = (canonF f, 0) := by unfold canonP; rw [if_pos HMV.out]
       have HCP := qh hcp
       clear yw hcp hlt hk
       go_wp2_with fail
       refine bodyPost_ret (v := .tuple #[.agg #[.string f.module, .slice Au f.uses.length cu, .slice At (ordOf f).length ct, .slice Ai fi.length ci], .int .i64 0]) ?_ rfl ?_
       ·have h9 := blk_set4 (b0 := .string f.module) (b1 := .slice Au f.uses.length cu) (b2 := .slice At (ordOf f).length ct) (b3 := .slice Ai fi.length ci) YW.out
        have t0 := h9.cell 0
        have t1 := h9.cell 1
        have t2 := h9.cell 2
        have t3 := h9.cell 3
        simp only [qgaq, qgzq, qgsq] at t0 t1 t2 t3
        simp [results, Tryz.results21, go_sem, t0, t1, t2, t3]
       ·have hown := HOWN.out
        rw [List.take_length] at hown
        have kw : Wr [] w wi := F6.out.trans' hwr (fun q hq => by rw [qmsq] at hq; subst hq; exact .inr HWC.out)
        rw [HCP.out]
        refine ⟨_, _, _, rfl, wr_set4 kw HWY.out, ⟨?_, ?_, ?_⟩⟩
        ·exact Sl.mono (Sl.keep (Sl.keep HU6.out hwr (fun b hb => by simpa using hb.1)) wr_set4c (fun b hb => by have := HY2.out; have := hb.2; simp; omega)) (fun _ _ => trivial)
        ·exact (SlTys.keep (SlTys.keep HTY.out hwr (fun b hb => by simpa using hb.1)) wr_set4c (fun b hb => by simpa using hb.2)).into (fun _ _ _ => trivial)
        ·have h1 : SlPItms wi (fun b => w6.heap.size ≤ b) (.slice Ai fi.length ci) (facePl (canonF f)).items := by
          rw [← canon_items, ← HFP.out]
          unfold SlPItms
          rw [qlmq]
          exact Sl.ofOwn hown (fun b hb => (hown.lt b hb).1)
         exact Sl.mono (Sl.keep h1 wr_set4c (fun b hb => by have := HY6.out.lt; simp; omega)) (fun _ _ => trivial)
 ·have yw := BY.out.wr0 R1.out
  have YW := qh yw
  have r0 := yw.cell 0
  have r1 := yw.cell 1
  have r2 := yw.cell 2
  have r3 := yw.cell 3
  have f0 := yw.frozen 0
  have f1 := yw.frozen 1
  have f2 := yw.frozen 2
  have f3 := yw.frozen 3
  simp only [qgaq, qgzq, qgsq] at r0 r1 r2 r3
  have hcp : canonP f = (noFace, mv) := by unfold canonP; rw [HMV.out, if_neg hm]
  have HCP := qh hcp
  have hb1 : (mv != 0) = true := by simpa using hm
  have hb2 : (mv == 0) = false := by simpa using hm
  clear yw hcp
  go_wp2_with fail
  refine bodyPost_ret (v := .tuple #[.agg #[(.string ⟨#[]⟩), (.slice none 0 0), (.slice none 0 0), (.slice none 0 0)], .int .i64 mv]) ?_ rfl ?_
  ·have h9 := blk_set4 (b0 := (.string ⟨#[]⟩)) (b1 := (.slice none 0 0)) (b2 := (.slice none 0 0)) (b3 := (.slice none 0 0)) YW.out
   have t0 := h9.cell 0
   have t1 := h9.cell 1
   have t2 := h9.cell 2
   have t3 := h9.cell 3
   simp only [qgaq, qgzq, qgsq] at t0 t1 t2 t3
   simp [results, Tryz.results21, go_sem, t0, t1, t2, t3]
  ·rw [HCP.out]
   exact ⟨_, _, _, rfl, wr_set4 (ACC.out.trans R1.out) HWY.out, noFacePL _ _⟩
end Go.Proofs.YtjanbpchedgoiaaGreat
