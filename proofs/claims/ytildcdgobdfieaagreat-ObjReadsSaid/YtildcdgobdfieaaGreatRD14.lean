/- iface's walk, reading: fields, parameters, uses: walked. Conditions: the walk reads. -/
import Derived.Test.YtildcdgobdfieaaGreatRD13
import Derived.StillTailTactics
set_option linter.unusedVariables false
set_option linter.unusedSimpArgs false
set_option maxRecDepth 100000
set_option maxHeartbeats 32000000
namespace Go.Proofs.YtildcdgobdfieaaGreat
open Go.RowKit
theorem fld_r (b q gx : Nat) (r : Rd) (w : World) (hb : WlkR w b r) (hq : w.cell? ⟨q, 0, none⟩ = some (.pointer (some ⟨b, 0, none⟩))) (hqb : q ≠ b) (hqg : q ≠ gx) (hg : gx ≠ b) (hx : Blk w gx 173 #[.string ⟨#[]⟩, .int .i64 0, .int .i64 0]) :
  Calls Tryz.prog 145 #[.pointer (some ⟨gx, 0, none⟩), .pointer (some ⟨q, 0, none⟩)] w fun e w' => e = .returned (.tuple #[]) ∧ Wr [b, gx] w w' ∧ WlkR w' b (Rd.fld r).2 ∧ Blk w' gx 173 (Fld.cells (Rd.fld r).1).toArray := by
 unfold Rd.fld Fld.cells
 obtain ⟨p0, hp0⟩ : ∃ p, Rd.text r = p := ⟨_, rfl⟩
 obtain ⟨v0, r0⟩ := p0
 obtain ⟨p1, hp1⟩ : ∃ p, Rd.four r0 = p := ⟨_, rfl⟩
 obtain ⟨v1, r1⟩ := p1
 obtain ⟨p2, hp2⟩ : ∃ p, Rd.four r1 = p := ⟨_, rfl⟩
 obtain ⟨v2, r2⟩ := p2
 simp only [hp0, hp1, hp2]
 have h0 := fun W (hb' : WlkR W b r) (hc : Blk W gx 173 #[.string ⟨#[]⟩, .int .i64 0, .int .i64 0]) => (text_r b gx 0 r W hb' hg ⟨#[]⟩ (hc.cell 0) (hc.frozen 0))
 rw [hp0] at h0
 have H0 := qh h0
 have h1 := fun W (hb' : WlkR W b r0) (hc : Blk W gx 173 #[.string v0, .int .i64 0, .int .i64 0]) => ((place_r b gx 1 r0 W hb' hg 0 (hc.cell 1) (hc.frozen 1)).mono fun e w' h => PutL.toB hg h)
 rw [hp1] at h1
 have H1 := qh h1
 have h2 := fun W (hb' : WlkR W b r1) (hc : Blk W gx 173 #[.string v0, .int .i64 v1, .int .i64 0]) => ((place_r b gx 2 r1 W hb' hg 0 (hc.cell 2) (hc.frozen 2)).mono fun e w' h => PutL.toB hg h)
 rw [hp2] at h2
 have H2 := qh h2
 have CH := qh hq
 have acc : Wr [b, gx] w w := Wr.refl _ _
 clear hq h0 hp0 h1 hp1 h2 hp2
 go_in
 go_wp2_with fail
 have ch := acc.cellOf CH.out (by simp [hqb, hqg])
 go_still_tail 4, (by kernel_rfl)
 change wpList _ _ _ _ _ w.drew
 replace acc := acc.drew
 replace hb := Blk.drew hb
 replace hx := Blk.drew hx
 clear ch
 generalize w.drew = wa0 at *
 go_wp2_with fail
 refine (H0.out _ hb hx).mono ?_
 rintro e w1 ⟨rfl, k1, hb1, hx1⟩
 replace acc := acc.trans k1
 replace hx1 := hx1 _ _ hx
 simp only [qsaq, qszq, qssq] at hx1
 clear hb hx k1
 rename WlkR w1 b _ => hb
 rename Blk w1 gx _ _ => hx
 go_wp2_with fail
 have ch := acc.cellOf CH.out (by simp [hqb, hqg])
 go_still_tail 4, (by kernel_rfl)
 change wpList _ _ _ _ _ w1.drew
 replace acc := acc.drew
 replace hb := Blk.drew hb
 replace hx := Blk.drew hx
 clear ch
 generalize w1.drew = wa1 at *
 go_wp2_with fail
 refine (H1.out _ hb hx).mono ?_
 rintro e w2 ⟨rfl, k2, hb2, hx2⟩
 replace acc := acc.trans k2
 replace hx2 := hx2 _ _ hx
 simp only [qsaq, qszq, qssq] at hx2
 clear hb hx k2
 rename WlkR w2 b _ => hb
 rename Blk w2 gx _ _ => hx
 go_wp2_with fail
 have ch := acc.cellOf CH.out (by simp [hqb, hqg])
 go_still_tail 4, (by kernel_rfl)
 change wpList _ _ _ _ _ w2.drew
 replace acc := acc.drew
 replace hb := Blk.drew hb
 replace hx := Blk.drew hx
 clear ch
 generalize w2.drew = wa2 at *
 go_wp2_with fail
 refine (H2.out _ hb hx).mono ?_
 rintro e w3 ⟨rfl, k3, hb3, hx3⟩
 replace acc := acc.trans k3
 replace hx3 := hx3 _ _ hx
 simp only [qsaq, qszq, qssq] at hx3
 clear hb hx k3
 rename WlkR w3 b _ => hb
 rename Blk w3 gx _ _ => hx
 go_wp2_with fail
 refine bodyPost_end (results_none Tryz.results145 _ _ _) rfl ?_
 exact ⟨rfl, acc, hb, hx⟩
theorem par_r (b q gx : Nat) (r : Rd) (w : World) (hb : WlkR w b r) (hq : w.cell? ⟨q, 0, none⟩ = some (.pointer (some ⟨b, 0, none⟩))) (hqb : q ≠ b) (hqg : q ≠ gx) (hg : gx ≠ b) (hx : Blk w gx 175 #[.bool false, .int .i64 0]) :
  Calls Tryz.prog 149 #[.pointer (some ⟨gx, 0, none⟩), .pointer (some ⟨q, 0, none⟩)] w fun e w' => e = .returned (.tuple #[]) ∧ Wr [b, gx] w w' ∧ WlkR w' b (Rd.par r).2 ∧ Blk w' gx 175 (Par.cells (Rd.par r).1).toArray := by
 unfold Rd.par Par.cells
 obtain ⟨p0, hp0⟩ : ∃ p, Rd.truth r = p := ⟨_, rfl⟩
 obtain ⟨v0, r0⟩ := p0
 obtain ⟨p1, hp1⟩ : ∃ p, Rd.four r0 = p := ⟨_, rfl⟩
 obtain ⟨v1, r1⟩ := p1
 simp only [hp0, hp1]
 have h0 := fun W (hb' : WlkR W b r) (hc : Blk W gx 175 #[.bool false, .int .i64 0]) => ((truth_r b gx 0 r W hb' hg false (hc.cell 0) (hc.frozen 0)).mono fun e w' h => PutL.toB hg h)
 rw [hp0] at h0
 have H0 := qh h0
 have h1 := fun W (hb' : WlkR W b r0) (hc : Blk W gx 175 #[.bool v0, .int .i64 0]) => ((place_r b gx 1 r0 W hb' hg 0 (hc.cell 1) (hc.frozen 1)).mono fun e w' h => PutL.toB hg h)
 rw [hp1] at h1
 have H1 := qh h1
 have CH := qh hq
 have acc : Wr [b, gx] w w := Wr.refl _ _
 clear hq h0 hp0 h1 hp1
 go_in
 go_wp2_with fail
 have ch := acc.cellOf CH.out (by simp [hqb, hqg])
 go_still_tail 4, (by kernel_rfl)
 change wpList _ _ _ _ _ w.drew
 replace acc := acc.drew
 replace hb := Blk.drew hb
 replace hx := Blk.drew hx
 clear ch
 generalize w.drew = wa0 at *
 go_wp2_with fail
 refine (H0.out _ hb hx).mono ?_
 rintro e w1 ⟨rfl, k1, hb1, hx1⟩
 replace acc := acc.trans k1
 replace hx1 := hx1 _ _ hx
 simp only [qsaq, qszq, qssq] at hx1
 clear hb hx k1
 rename WlkR w1 b _ => hb
 rename Blk w1 gx _ _ => hx
 go_wp2_with fail
 have ch := acc.cellOf CH.out (by simp [hqb, hqg])
 go_still_tail 4, (by kernel_rfl)
 change wpList _ _ _ _ _ w1.drew
 replace acc := acc.drew
 replace hb := Blk.drew hb
 replace hx := Blk.drew hx
 clear ch
 generalize w1.drew = wa1 at *
 go_wp2_with fail
 refine (H1.out _ hb hx).mono ?_
 rintro e w2 ⟨rfl, k2, hb2, hx2⟩
 replace acc := acc.trans k2
 replace hx2 := hx2 _ _ hx
 simp only [qsaq, qszq, qssq] at hx2
 clear hb hx k2
 rename WlkR w2 b _ => hb
 rename Blk w2 gx _ _ => hx
 go_wp2_with fail
 refine bodyPost_end (results_none Tryz.results149 _ _ _) rfl ?_
 exact ⟨rfl, acc, hb, hx⟩
theorem use_r (b q gx : Nat) (r : Rd) (w : World) (hb : WlkR w b r) (hq : w.cell? ⟨q, 0, none⟩ = some (.pointer (some ⟨b, 0, none⟩))) (hqb : q ≠ b) (hqg : q ≠ gx) (hg : gx ≠ b) (hx : Blk w gx 72 #[.string ⟨#[]⟩, .int .u64 0]) :
  Calls Tryz.prog 108 #[.pointer (some ⟨gx, 0, none⟩), .pointer (some ⟨q, 0, none⟩)] w fun e w' => e = .returned (.tuple #[]) ∧ Wr [b, gx] w w' ∧ WlkR w' b (Rd.use r).2 ∧ Blk w' gx 72 (UseD.cellsF (Rd.use r).1).toArray := by
 unfold Rd.use UseD.cellsF
 obtain ⟨p0, hp0⟩ : ∃ p, Rd.text r = p := ⟨_, rfl⟩
 obtain ⟨v0, r0⟩ := p0
 obtain ⟨p1, hp1⟩ : ∃ p, r0.num 8 = p := ⟨_, rfl⟩
 obtain ⟨v1, r1⟩ := p1
 simp only [hp0, hp1]
 have h0 := fun W (hb' : WlkR W b r) (hc : Blk W gx 72 #[.string ⟨#[]⟩, .int .u64 0]) => text_r b gx 0 r W hb' hg ⟨#[]⟩ (hc.cell 0) (hc.frozen 0)
 rw [hp0] at h0
 have h1 := fun W (hb' : WlkR W b r0) => bytes_r b 8 0 r0 (by decide) W hb'
 rw [hp1] at h1
 have H0 := qh h0
 have H1 := qh h1
 have CH := qh hq
 have acc : Wr [b, gx] w w := Wr.refl _ _
 clear hq h0 h1 hp0 hp1
 go_in
 go_wp2_with fail
 have ch := acc.cellOf CH.out (by simp [hqb, hqg])
 go_still_tail 4, (by kernel_rfl)
 change wpList _ _ _ _ _ w.drew
 replace acc := acc.drew
 replace hb := Blk.drew hb
 replace hx := Blk.drew hx
 clear ch
 generalize w.drew = wa0 at *
 go_wp2_with fail
 refine (H0.out _ hb hx).mono ?_
 rintro e w1 ⟨rfl, k1, hb1, hx1⟩
 replace acc := acc.trans k1
 replace hx1 := hx1 _ _ hx
 simp only [qsaq, qszq, qssq] at hx1
 clear hb hx k1
 go_upto_region 1 with (fail)
 have c0 := acc.cellOf CH.out (by simp [hqb, hqg])
 have c1 := hx1.cell 1
 simp only [qgaq, qgzq, qgsq] at c1
 refine begin1 9 [b] (fun w' => w'.cell? ⟨q, 0, none⟩ = some (.pointer (some ⟨b, 0, none⟩)) ∧ w'.cell? ⟨gx, 1, none⟩ = some (.int .u64 0)) (by kernel_rfl) (fun W hW => ⟨hW.cellOf c0 (by simp [hqb, hqg]), hW.cellOf c1 (by simp [hg])⟩) fun HC hcl hS => ?_
 refine mvu 0 (by rfl) (by kernel_rfl) (by rfl) (fun w' hS => by (try go_split_ands); go_simp; try rfl) hcl hS fun hcl1 hS1 => ?_
 clear hcl hS
 try simp only [Act.put, qsaq, qszq, qssq]
 refine mvu 1 (by rfl) (by kernel_rfl) (by rfl) (fun w' hS => by (try go_split_ands); go_simp; try rfl) hcl1 hS1 fun hcl2 hS2 => ?_
 clear hcl1 hS1
 try simp only [Act.put, qsaq, qszq, qssq]
 refine mvu 2 (by rfl) (by kernel_rfl) (by rfl) (fun w' hS => by (try go_split_ands); go_simp; try rfl) hcl2 hS2 fun hcl3 hS3 => ?_
 clear hcl2 hS2
 try simp only [Act.put, qsaq, qszq, qssq]
 refine mvu 3 (by rfl) (by kernel_rfl) (by rfl) (fun w' hS => by (try go_split_ands); go_simp; try rfl) hcl3 hS3 fun hcl4 hS4 => ?_
 clear hcl3 hS3
 try simp only [Act.put, qsaq, qszq, qssq]
 refine mvu 4 (by rfl) (by kernel_rfl) (by rfl) (fun w' hS => by (try go_split_ands); go_simp; try rfl) hcl4 hS4 fun hcl5 hS5 => ?_
 clear hcl4 hS4
 try simp only [Act.put, qsaq, qszq, qssq]
 refine mvu 5 (by rfl) (by kernel_rfl) (by rfl) (fun w' hS => by (try go_split_ands); go_simp; try rfl) hcl5 hS5 fun hcl6 hS6 => ?_
 clear hcl5 hS5
 try simp only [Act.put, qsaq, qszq, qssq]
 refine st0 6 (by rfl) (by kernel_rfl) hcl6 fun K hK => ?_
 go_simp
 refine (H1.out _ (Blk.drew hb1)).mono ?_
 rintro e w2 ⟨rfl, k2, hb2⟩
 have hx2 := (Blk.drew hx1).wr k2 (by simpa using hg)
 have o2 := hx2.cell 1
 have f2 := hx2.frozen 1
 simp only [qgaq, qgzq, qgsq] at o2
 refine hK _ _ (fun _ => HC.out _ ((Wr.refl [b] w1).drew.trans k2)) (fun hcl7 => ?_)
 clear hK K hcl6 hS6
 try simp only [Act.put, qsaq, qszq, qssq]
 refine st0 7 (by rfl) (by kernel_rfl) hcl7 fun K hK => ?_
 go_simp
 refine hK _ _ (fun _ => HC.out _ ((Wr.refl [b] w1).drew.trans k2)) (fun hcl8 => ?_)
 clear hK K hcl7
 try simp only [Act.put, qsaq, qszq, qssq]
 refine st0 8 (by rfl) (by kernel_rfl) hcl8 fun K hK => ?_
 go_simp
 refine hK _ _ (fun _ => HC.out _ ((Wr.refl [b] w1).drew.trans k2)) (fun hcl9 => ?_)
 clear hK K hcl8
 try simp only [Act.put, qsaq, qszq, qssq]
 refine st0 9 (by rfl) (by kernel_rfl) hcl9 fun K hK => ?_
 go_simp
 refine hK _ _ (fun hb => absurd hb (by decide)) (fun hcl999 => ?_)
 clear hK K hcl9
 refine wpAnyL_done (by kernel_rfl) (NoPanic.normal ?_) _
 try simp only [Act.put, qsaq, qszq, qssq]
 go_wp2_with fail
 refine bodyPost_end (results_none Tryz.results108 _ _ _) rfl ?_
 have hx3 := hx2.set_ 1 (.int .u64 (v1 : Int))
 simp only [qsaq, qszq, qssq] at hx3
 exact ⟨rfl, (acc.drew.trans (k2.more (by simp))).setOn (by simp) _, Blk.far hb2 (fun e => hg e.symm) _, hx3⟩
end Go.Proofs.YtildcdgobdfieaaGreat
