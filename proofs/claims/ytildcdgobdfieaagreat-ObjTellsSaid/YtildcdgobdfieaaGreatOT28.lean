/- iface's walk, reading: types: walked. Conditions: the walk reads. -/
import Derived.Test.YtildcdgobdfieaaGreatOT01
import Derived.Test.YtildcdgobdfieaaGreatOT27
set_option linter.unusedVariables false
set_option linter.unusedSimpArgs false
set_option maxRecDepth 100000
set_option maxHeartbeats 32000000
namespace Go.Proofs.YtildcdgobdfieaaGreat
open Go.RowKit
theorem flat_str (l : List ByteArray) : l.flatMap (fun s => [Value.string s]) = l.map Value.string := by
 induction l with
 | nil => rfl
 | cons x l ih => rw [List.flatMap_cons, ih]; rfl
theorem typ_r (b g : Nat) (r : Rd) (w : World) (hb : WlkR w b r) (hg : g ≠ b) (hx : Blk w g 129 #[.int .u8 0, .string ⟨#[]⟩, .string ⟨#[]⟩, .int .i64 0, .int .i64 0, .int .i64 0, .int .i64 0, .slice none 0 0, .slice none 0 0, .slice none 0 0, .slice none 0 0, .int .i64 0]) :
  Calls Tryz.prog 111 #[.pointer (some ⟨b, 0, none⟩), .pointer (some ⟨g, 0, none⟩)] w fun e w' => e = .returned (.tuple #[]) ∧ Wr [b, g] w w' ∧ WlkR w' b (Rd.ty r).2 ∧ ∃ ys, Blk w' g 129 ys.toArray ∧ TyRel w' (fun bl => w.heap.size ≤ bl) ys (Rd.ty r).1 := by
 have hmf : ∀ (fn : Fn) (first cap : Array Value) (w : World), (Instr.makeFunc fn first cap).run Tryz.prog w = .ok (.func fn first cap) w := fun _ _ _ _ => rfl
 have hbl := Blk.lt hb
 have hgl := hx.lt
 unfold Rd.ty
 obtain ⟨p0, hp0⟩ : ∃ p, Rd.one r = p := ⟨_, rfl⟩
 obtain ⟨v0, r0⟩ := p0
 obtain ⟨p1, hp1⟩ : ∃ p, Rd.text r0 = p := ⟨_, rfl⟩
 obtain ⟨v1, r1⟩ := p1
 obtain ⟨p2, hp2⟩ : ∃ p, Rd.text r1 = p := ⟨_, rfl⟩
 obtain ⟨v2, r2⟩ := p2
 obtain ⟨p3, hp3⟩ : ∃ p, Rd.four r2 = p := ⟨_, rfl⟩
 obtain ⟨v3, r3⟩ := p3
 obtain ⟨p4, hp4⟩ : ∃ p, Rd.four r3 = p := ⟨_, rfl⟩
 obtain ⟨v4, r4⟩ := p4
 obtain ⟨p5, hp5⟩ : ∃ p, Rd.four r4 = p := ⟨_, rfl⟩
 obtain ⟨v5, r5⟩ := p5
 obtain ⟨p6, hp6⟩ : ∃ p, Rd.four r5 = p := ⟨_, rfl⟩
 obtain ⟨v6, r6⟩ := p6
 obtain ⟨p7, hp7⟩ : ∃ p, r6.lst Rd.text = p := ⟨_, rfl⟩
 obtain ⟨v7, r7⟩ := p7
 obtain ⟨p8, hp8⟩ : ∃ p, r7.lst Rd.fld = p := ⟨_, rfl⟩
 obtain ⟨v8, r8⟩ := p8
 obtain ⟨p9, hp9⟩ : ∃ p, r8.lst Rd.arm = p := ⟨_, rfl⟩
 obtain ⟨v9, r9⟩ := p9
 obtain ⟨p10, hp10⟩ : ∃ p, r9.lst Rd.par = p := ⟨_, rfl⟩
 obtain ⟨v10, r10⟩ := p10
 obtain ⟨p11, hp11⟩ : ∃ p, Rd.four r10 = p := ⟨_, rfl⟩
 obtain ⟨v11, r11⟩ := p11
 simp only [hp0, hp1, hp2, hp3, hp4, hp5, hp6, hp7, hp8, hp9, hp10, hp11]
 obtain ⟨w0, hw0⟩ : ∃ w0, w.alloc (.cells #[.pointer (some ⟨b, 0, none⟩)] 158) = w0 := ⟨_, rfl⟩
 obtain ⟨q, hqe⟩ : ∃ q, w.heap.size = q := ⟨_, rfl⟩
 have hq0 : w0.cell? ⟨q, 0, none⟩ = some (.pointer (some ⟨b, 0, none⟩)) := by
  rw [← hw0, ← hqe]
  exact (Blk.new w 158 #[.pointer (some ⟨b, 0, none⟩)]).cell 0
 have hql : q < w0.heap.size := by
  rw [← hw0, ← hqe]
  exact (Blk.new w 158 #[.pointer (some ⟨b, 0, none⟩)]).lt
 have hqb : q ≠ b := by omega
 have hqg : q ≠ g := by omega
 have ra : Wr [] w w0 := by rw [← hw0]; exact (Wr.refl _ _).alloc _
 have hs0 := ra.size
 replace hb : WlkR w0 b r := Blk.wr0 hb ra
 replace hx := hx.wr0 ra
 have h0 := fun W (hb' : WlkR W b r) (acc' : Wr [b, g] w0 W) (hc : Blk W g 129 #[.int .u8 0, .string ⟨#[]⟩, .string ⟨#[]⟩, .int .i64 0, .int .i64 0, .int .i64 0, .int .i64 0, .slice none 0 0, .slice none 0 0, .slice none 0 0, .slice none 0 0, .int .i64 0]) => (((byte_r b g 0 r W hb' hg 0 (hc.cell 0) (hc.frozen 0))).mono fun e w' h => PutL.toB hg h)
 rw [hp0] at h0
 have H0 := qh h0
 have h1 := fun W (hb' : WlkR W b r0) (acc' : Wr [b, g] w0 W) (hc : Blk W g 129 #[(.int .u8 v0), .string ⟨#[]⟩, .string ⟨#[]⟩, .int .i64 0, .int .i64 0, .int .i64 0, .int .i64 0, .slice none 0 0, .slice none 0 0, .slice none 0 0, .slice none 0 0, .int .i64 0]) => (text_r b g 1 r0 W hb' hg ⟨#[]⟩ (hc.cell 1) (hc.frozen 1))
 rw [hp1] at h1
 have H1 := qh h1
 have h2 := fun W (hb' : WlkR W b r1) (acc' : Wr [b, g] w0 W) (hc : Blk W g 129 #[(.int .u8 v0), (.string v1), .string ⟨#[]⟩, .int .i64 0, .int .i64 0, .int .i64 0, .int .i64 0, .slice none 0 0, .slice none 0 0, .slice none 0 0, .slice none 0 0, .int .i64 0]) => (text_r b g 2 r1 W hb' hg ⟨#[]⟩ (hc.cell 2) (hc.frozen 2))
 rw [hp2] at h2
 have H2 := qh h2
 have h3 := fun W (hb' : WlkR W b r2) (acc' : Wr [b, g] w0 W) (hc : Blk W g 129 #[(.int .u8 v0), (.string v1), (.string v2), .int .i64 0, .int .i64 0, .int .i64 0, .int .i64 0, .slice none 0 0, .slice none 0 0, .slice none 0 0, .slice none 0 0, .int .i64 0]) => (((place_r b g 3 r2 W hb' hg 0 (hc.cell 3) (hc.frozen 3))).mono fun e w' h => PutL.toB hg h)
 rw [hp3] at h3
 have H3 := qh h3
 have h4 := fun W (hb' : WlkR W b r3) (acc' : Wr [b, g] w0 W) (hc : Blk W g 129 #[(.int .u8 v0), (.string v1), (.string v2), (.int .i64 v3), .int .i64 0, .int .i64 0, .int .i64 0, .slice none 0 0, .slice none 0 0, .slice none 0 0, .slice none 0 0, .int .i64 0]) => (((place_r b g 4 r3 W hb' hg 0 (hc.cell 4) (hc.frozen 4))).mono fun e w' h => PutL.toB hg h)
 rw [hp4] at h4
 have H4 := qh h4
 have h5 := fun W (hb' : WlkR W b r4) (acc' : Wr [b, g] w0 W) (hc : Blk W g 129 #[(.int .u8 v0), (.string v1), (.string v2), (.int .i64 v3), (.int .i64 v4), .int .i64 0, .int .i64 0, .slice none 0 0, .slice none 0 0, .slice none 0 0, .slice none 0 0, .int .i64 0]) => (((number_r b g 5 r4 W hb' hg 0 (hc.cell 5) (hc.frozen 5))).mono fun e w' h => PutL.toB hg h)
 rw [hp5] at h5
 have H5 := qh h5
 have h6 := fun W (hb' : WlkR W b r5) (acc' : Wr [b, g] w0 W) (hc : Blk W g 129 #[(.int .u8 v0), (.string v1), (.string v2), (.int .i64 v3), (.int .i64 v4), (.int .i64 v5), .int .i64 0, .slice none 0 0, .slice none 0 0, .slice none 0 0, .slice none 0 0, .int .i64 0]) => (((number_r b g 6 r5 W hb' hg 0 (hc.cell 6) (hc.frozen 6))).mono fun e w' h => PutL.toB hg h)
 rw [hp6] at h6
 have H6 := qh h6
 have h7 := fun W (hb' : WlkR W b r6) (acc' : Wr [b, g] w0 W) (hc : Blk W g 129 #[(.int .u8 v0), (.string v1), (.string v2), (.int .i64 v3), (.int .i64 v4), (.int .i64 v5), (.int .i64 v6), .slice none 0 0, .slice none 0 0, .slice none 0 0, .slice none 0 0, .int .i64 0]) => (lr_Str b 0 g 7 129 _ none 0 0 r6 W hb' hg hc rfl (fun W' r' gx rW hb'' hgx hx => (text_r b gx 0 r' W' hb'' (by have := Blk.lt hb'; omega) ⟨#[]⟩ (hx.cell 0) (hx.frozen 0)).mono fun e W'' h => ⟨h.1, h.2.1, h.2.2.1, h.2.2.2 _ _ hx⟩))
 rw [hp7] at h7
 have H7 := qh h7
 have h8 := fun (A7 : Option Addr) (c7 : Nat) W (hb' : WlkR W b r7) (acc' : Wr [b, g] w0 W) (hc : Blk W g 129 #[(.int .u8 v0), (.string v1), (.string v2), (.int .i64 v3), (.int .i64 v4), (.int .i64 v5), (.int .i64 v6), (.slice A7 v7.length c7), .slice none 0 0, .slice none 0 0, .slice none 0 0, .int .i64 0]) => (lr_Field b q g 8 129 _ none 0 0 r7 W hb' hg hc rfl (fun W' r' gx rW hb'' hgx hx => fld_r b q gx r' W' hb'' ((acc'.trans rW).cellOf hq0 (by simp [hqb, hqg])) hqb (by have := acc'.size; omega) (by have := Blk.lt hb'; omega) hx))
 rw [hp8] at h8
 have H8 := qh h8
 have h9 := fun (A7 : Option Addr) (c7 : Nat) (A8 : Option Addr) (c8 : Nat) W (hb' : WlkR W b r8) (acc' : Wr [b, g] w0 W) (hc : Blk W g 129 #[(.int .u8 v0), (.string v1), (.string v2), (.int .i64 v3), (.int .i64 v4), (.int .i64 v5), (.int .i64 v6), (.slice A7 v7.length c7), (.slice A8 v8.length c8), .slice none 0 0, .slice none 0 0, .int .i64 0]) => (lr_Arm b 0 g 9 129 _ none 0 0 r8 W hb' hg hc rfl (fun W' r' gx hb'' hgx hx => (arm_r b gx r' W' hb'' hgx hx).mono fun e W'' h => by
  obtain ⟨h1, h2, h3, Af, cf, At, ct, h4, h5, h6⟩ := h
  exact ⟨h1, h2, h3, _, h4, _, _, rfl, h5, h6⟩))
 rw [hp9] at h9
 have H9 := qh h9
 have h10 := fun (A7 : Option Addr) (c7 : Nat) (A8 : Option Addr) (c8 : Nat) (A9 : Option Addr) (c9 : Nat) W (hb' : WlkR W b r9) (acc' : Wr [b, g] w0 W) (hc : Blk W g 129 #[(.int .u8 v0), (.string v1), (.string v2), (.int .i64 v3), (.int .i64 v4), (.int .i64 v5), (.int .i64 v6), (.slice A7 v7.length c7), (.slice A8 v8.length c8), (.slice A9 v9.length c9), .slice none 0 0, .int .i64 0]) => (lr_Param b q g 10 129 _ none 0 0 r9 W hb' hg hc rfl (fun W' r' gx rW hb'' hgx hx => par_r b q gx r' W' hb'' ((acc'.trans rW).cellOf hq0 (by simp [hqb, hqg])) hqb (by have := acc'.size; omega) (by have := Blk.lt hb'; omega) hx))
 rw [hp10] at h10
 have H10 := qh h10
 have h11 := fun (A7 : Option Addr) (c7 : Nat) (A8 : Option Addr) (c8 : Nat) (A9 : Option Addr) (c9 : Nat) (A10 : Option Addr) (c10 : Nat) W (hb' : WlkR W b r10) (acc' : Wr [b, g] w0 W) (hc : Blk W g 129 #[(.int .u8 v0), (.string v1), (.string v2), (.int .i64 v3), (.int .i64 v4), (.int .i64 v5), (.int .i64 v6), (.slice A7 v7.length c7), (.slice A8 v8.length c8), (.slice A9 v9.length c9), (.slice A10 v10.length c10), .int .i64 0]) => (((place_r b g 11 r10 W hb' hg 0 (hc.cell 11) (hc.frozen 11))).mono fun e w' h => PutL.toB hg h)
 rw [hp11] at h11
 have H11 := qh h11
 have RA := qh ra
 have CH := qh hq0
 have HW0 := qh hw0
 have HQ := qh hqe
 have acc : Wr [b, g] w0 w0 := Wr.refl _ _
 clear ra hq0 hw0 hqe h0 hp0 h1 hp1 h2 hp2 h3 hp3 h4 hp4 h5 hp5 h6 hp6 h7 hp7 h8 hp8 h9 hp9 h10 hp10 h11 hp11
 go_enter Tryz.func111, Tryz.ntmps111
 go_upto_region 1 with (fail)
 rw [HW0.out, HQ.out]
 have ch := acc.cellOf CH.out (by simp [hqb, hqg])
 go_still_tail 4, (by kernel_rfl)
 change wpList _ _ _ _ _ w0.drew
 replace acc := acc.drew
 replace hb := Blk.drew hb
 replace hx := Blk.drew hx
 clear ch
 generalize w0.drew = wa0 at *
 go_wp2_with fail
 refine (H0.out _ hb acc hx).mono ?_
 rintro e w1 ⟨rfl, k1, hb1, hx1⟩
 replace hx1 := hx1 _ _ hx
 replace acc := acc.trans k1
 simp only [qsaq, qszq, qssq] at hx1
 clear hb hx k1
 rename WlkR w1 b _ => hb
 rename Blk w1 g _ _ => hx
 go_wp2_with fail
 have ch := acc.cellOf CH.out (by simp [hqb, hqg])
 go_still_tail 4, (by kernel_rfl)
 change wpList _ _ _ _ _ w1.drew
 replace acc := acc.drew
 replace hb := Blk.drew hb
 replace hx := Blk.drew hx
 clear ch
 generalize w1.drew = wa1 at *
 go_wp2_with fail
 refine (H1.out _ hb acc hx).mono ?_
 rintro e w2 ⟨rfl, k2, hb2, hx2⟩
 replace hx2 := hx2 _ _ hx
 replace acc := acc.trans k2
 simp only [qsaq, qszq, qssq] at hx2
 clear hb hx k2
 rename WlkR w2 b _ => hb
 rename Blk w2 g _ _ => hx
 go_wp2_with fail
 have ch := acc.cellOf CH.out (by simp [hqb, hqg])
 go_still_tail 4, (by kernel_rfl)
 change wpList _ _ _ _ _ w2.drew
 replace acc := acc.drew
 replace hb := Blk.drew hb
 replace hx := Blk.drew hx
 clear ch
 generalize w2.drew = wa2 at *
 go_wp2_with fail
 refine (H2.out _ hb acc hx).mono ?_
 rintro e w3 ⟨rfl, k3, hb3, hx3⟩
 replace hx3 := hx3 _ _ hx
 replace acc := acc.trans k3
 simp only [qsaq, qszq, qssq] at hx3
 clear hb hx k3
 rename WlkR w3 b _ => hb
 rename Blk w3 g _ _ => hx
 go_wp2_with fail
 have ch := acc.cellOf CH.out (by simp [hqb, hqg])
 go_still_tail 4, (by kernel_rfl)
 change wpList _ _ _ _ _ w3.drew
 replace acc := acc.drew
 replace hb := Blk.drew hb
 replace hx := Blk.drew hx
 clear ch
 generalize w3.drew = wa3 at *
 go_wp2_with fail
 refine (H3.out _ hb acc hx).mono ?_
 rintro e w4 ⟨rfl, k4, hb4, hx4⟩
 replace hx4 := hx4 _ _ hx
 replace acc := acc.trans k4
 simp only [qsaq, qszq, qssq] at hx4
 clear hb hx k4
 rename WlkR w4 b _ => hb
 rename Blk w4 g _ _ => hx
 go_wp2_with fail
 have ch := acc.cellOf CH.out (by simp [hqb, hqg])
 go_still_tail 4, (by kernel_rfl)
 change wpList _ _ _ _ _ w4.drew
 replace acc := acc.drew
 replace hb := Blk.drew hb
 replace hx := Blk.drew hx
 clear ch
 generalize w4.drew = wa4 at *
 go_wp2_with fail
 refine (H4.out _ hb acc hx).mono ?_
 rintro e w5 ⟨rfl, k5, hb5, hx5⟩
 replace hx5 := hx5 _ _ hx
 replace acc := acc.trans k5
 simp only [qsaq, qszq, qssq] at hx5
 clear hb hx k5
 rename WlkR w5 b _ => hb
 rename Blk w5 g _ _ => hx
 go_wp2_with fail
 have ch := acc.cellOf CH.out (by simp [hqb, hqg])
 go_still_tail 4, (by kernel_rfl)
 change wpList _ _ _ _ _ w5.drew
 replace acc := acc.drew
 replace hb := Blk.drew hb
 replace hx := Blk.drew hx
 clear ch
 generalize w5.drew = wa5 at *
 go_wp2_with fail
 refine (H5.out _ hb acc hx).mono ?_
 rintro e w6 ⟨rfl, k6, hb6, hx6⟩
 replace hx6 := hx6 _ _ hx
 replace acc := acc.trans k6
 simp only [qsaq, qszq, qssq] at hx6
 clear hb hx k6
 rename WlkR w6 b _ => hb
 rename Blk w6 g _ _ => hx
 go_wp2_with fail
 have ch := acc.cellOf CH.out (by simp [hqb, hqg])
 go_still_tail 4, (by kernel_rfl)
 change wpList _ _ _ _ _ w6.drew
 replace acc := acc.drew
 replace hb := Blk.drew hb
 replace hx := Blk.drew hx
 clear ch
 generalize w6.drew = wa6 at *
 go_wp2_with fail
 refine (H6.out _ hb acc hx).mono ?_
 rintro e w7 ⟨rfl, k7, hb7, hx7⟩
 replace hx7 := hx7 _ _ hx
 replace acc := acc.trans k7
 simp only [qsaq, qszq, qssq] at hx7
 clear hb hx k7
 rename WlkR w7 b _ => hb
 rename Blk w7 g _ _ => hx
 go_wp2_with fail
 have ch := acc.cellOf CH.out (by simp [hqb, hqg])
 go_still_tail 6, (by kernel_rfl)
 change wpList _ _ _ _ _ w7.drew
 replace acc := acc.drew
 replace hb := Blk.drew hb
 replace hx := Blk.drew hx
 clear ch
 generalize w7.drew = wa7 at *
 go_wp2_with fail
 refine (H7.out _ hb acc hx).mono ?_
 rintro e w8 ⟨rfl, A7, c7, k8, hb8, hx8, sn7⟩
 have sl7 : SlStrs w8 (fun bl => w.heap.size ≤ bl) (.slice A7 v7.length c7) v7 := (by have := sn7; rw [flat_str] at this; exact Sl.mono this (fun bl hb => by have := acc.size; omega))
 clear sn7
 replace acc := acc.trans k8
 simp only [qsaq, qszq, qssq] at hx8
 clear hb hx k8
 rename WlkR w8 b _ => hb
 rename Blk w8 g _ _ => hx
 go_wp2_with fail
 have ch := acc.cellOf CH.out (by simp [hqb, hqg])
 go_still_tail 5, (by kernel_rfl)
 change wpList _ _ _ _ _ w8.drew
 replace acc := acc.drew
 replace hb := Blk.drew hb
 replace hx := Blk.drew hx
 replace sl7 := Sl.wr0 sl7 (Wr.refl _ _).drew
 clear ch
 generalize w8.drew = wa8 at *
 go_wp2_with fail
 refine (H8.out _ _ _ hb acc hx).mono ?_
 rintro e w9 ⟨rfl, A8, c8, k9, hb9, hx9, sn8⟩
 replace sl7 := Sl.keep sl7 k9 (fun bl hb hm => by simp only [List.mem_cons, List.not_mem_nil, or_false] at hm; omega)
 have sl8 : SlFlds w9 (fun bl => w.heap.size ≤ bl) (.slice A8 v8.length c8) v8 := (Sl.mono sn8 (fun bl hb => by have := acc.size; omega))
 clear sn8
 replace acc := acc.trans k9
 simp only [qsaq, qszq, qssq] at hx9
 clear hb hx k9
 rename WlkR w9 b _ => hb
 rename Blk w9 g _ _ => hx
 go_wp2_with fail
 have ch := acc.cellOf CH.out (by simp [hqb, hqg])
 go_still_tail 6, (by kernel_rfl)
 change wpList _ _ _ _ _ w9.drew
 replace acc := acc.drew
 replace hb := Blk.drew hb
 replace hx := Blk.drew hx
 replace sl7 := Sl.wr0 sl7 (Wr.refl _ _).drew
 replace sl8 := Sl.wr0 sl8 (Wr.refl _ _).drew
 clear ch
 generalize w9.drew = wa9 at *
 go_wp2_with fail
 refine (H9.out _ _ _ _ _ hb acc hx).mono ?_
 rintro e w10 ⟨rfl, A9, c9, k10, hb10, hx10, sn9⟩
 replace sl7 := Sl.keep sl7 k10 (fun bl hb hm => by simp only [List.mem_cons, List.not_mem_nil, or_false] at hm; omega)
 replace sl8 := Sl.keep sl8 k10 (fun bl hb hm => by simp only [List.mem_cons, List.not_mem_nil, or_false] at hm; omega)
 have sl9 : SlArms w10 (fun bl => w.heap.size ≤ bl) (.slice A9 v9.length c9) v9 := (SlArms.into (SlRel.arms sn9) (fun bl hb _ => by have := acc.size; omega))
 clear sn9
 replace acc := acc.trans k10
 simp only [qsaq, qszq, qssq] at hx10
 clear hb hx k10
 rename WlkR w10 b _ => hb
 rename Blk w10 g _ _ => hx
 go_wp2_with fail
 have ch := acc.cellOf CH.out (by simp [hqb, hqg])
 go_still_tail 5, (by kernel_rfl)
 change wpList _ _ _ _ _ w10.drew
 replace acc := acc.drew
 replace hb := Blk.drew hb
 replace hx := Blk.drew hx
 replace sl7 := Sl.wr0 sl7 (Wr.refl _ _).drew
 replace sl8 := Sl.wr0 sl8 (Wr.refl _ _).drew
 replace sl9 := SlArms.keep sl9 (Wr.refl [] _).drew (fun _ _ => by simp)
 clear ch
 generalize w10.drew = wa10 at *
 go_wp2_with fail
 refine (H10.out _ _ _ _ _ _ _ hb acc hx).mono ?_
 rintro e w11 ⟨rfl, A10, c10, k11, hb11, hx11, sn10⟩
 replace sl7 := Sl.keep sl7 k11 (fun bl hb hm => by simp only [List.mem_cons, List.not_mem_nil, or_false] at hm; omega)
 replace sl8 := Sl.keep sl8 k11 (fun bl hb hm => by simp only [List.mem_cons, List.not_mem_nil, or_false] at hm; omega)
 replace sl9 := SlArms.keep sl9 k11 (fun bl hb hm => by simp only [List.mem_cons, List.not_mem_nil, or_false] at hm; omega)
 have sl10 : SlPars w11 (fun bl => w.heap.size ≤ bl) (.slice A10 v10.length c10) v10 := (Sl.mono sn10 (fun bl hb => by have := acc.size; omega))
 clear sn10
 replace acc := acc.trans k11
 simp only [qsaq, qszq, qssq] at hx11
 clear hb hx k11
 rename WlkR w11 b _ => hb
 rename Blk w11 g _ _ => hx
 go_wp2_with fail
 have ch := acc.cellOf CH.out (by simp [hqb, hqg])
 go_still_tail 4, (by kernel_rfl)
 change wpList _ _ _ _ _ w11.drew
 replace acc := acc.drew
 replace hb := Blk.drew hb
 replace hx := Blk.drew hx
 replace sl7 := Sl.wr0 sl7 (Wr.refl _ _).drew
 replace sl8 := Sl.wr0 sl8 (Wr.refl _ _).drew
 replace sl9 := SlArms.keep sl9 (Wr.refl [] _).drew (fun _ _ => by simp)
 replace sl10 := Sl.wr0 sl10 (Wr.refl _ _).drew
 clear ch
 generalize w11.drew = wa11 at *
 go_wp2_with fail
 refine (H11.out _ _ _ _ _ _ _ _ _ hb acc hx).mono ?_
 rintro e w12 ⟨rfl, k12, hb12, hx12⟩
 replace hx12 := hx12 _ _ hx
 replace sl7 := Sl.keep sl7 k12 (fun bl hb hm => by simp only [List.mem_cons, List.not_mem_nil, or_false] at hm; omega)
 replace sl8 := Sl.keep sl8 k12 (fun bl hb hm => by simp only [List.mem_cons, List.not_mem_nil, or_false] at hm; omega)
 replace sl9 := SlArms.keep sl9 k12 (fun bl hb hm => by simp only [List.mem_cons, List.not_mem_nil, or_false] at hm; omega)
 replace sl10 := Sl.keep sl10 k12 (fun bl hb hm => by simp only [List.mem_cons, List.not_mem_nil, or_false] at hm; omega)
 replace acc := acc.trans k12
 simp only [qsaq, qszq, qssq] at hx12
 clear hb hx k12
 rename WlkR w12 b _ => hb
 rename Blk w12 g _ _ => hx
 go_wp2_with fail
 refine bodyPost_end (results_none Tryz.results111 _ _ _) rfl ?_
 exact ⟨rfl, RA.out.nil.trans acc, hb, _, hx, _, _, _, _, rfl, ⟨sl7, sl8, sl9, sl10⟩⟩
end Go.Proofs.YtildcdgobdfieaaGreat
