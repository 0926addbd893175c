/- iface's walk, writing: types, items: walked. Conditions: the interface may be, numbers are within their kinds. -/
import Derived.Test.YtjanbpchedgoiaaGreatKT20
set_option linter.unusedVariables false
set_option linter.unusedSimpArgs false
set_option maxRecDepth 100000
set_option maxHeartbeats 32000000
namespace Go.Proofs.YtjanbpchedgoiaaGreat
open Go.RowKit
structure TyLW (w : World) (b : Nat) (vn vf va vp : Value) (t : Ty) : Prop where
 names : SlStrs w (fun g => g ≠ b) vn t.names
 fields : RowW w b 3 vf t.fields.length (t.fields.flatMap Fld.cells)
 arms : ∃ xs, RowW w b 3 va t.arms.length xs ∧ ∀ j x, t.arms[j]? = some x → ∃ u0 u1, xs[j * 3]? = some u0 ∧ xs[j * 3 + 1]? = some u1 ∧ xs[j * 3 + 2]? = some (.bool x.els) ∧ RowW w b 1 u0 x.frm.length (x.frm.map (Value.int .i64)) ∧ RowW w b 1 u1 x.to.length (x.to.map (Value.int .i64))
 params : RowW w b 2 vp t.params.length (t.params.flatMap Par.cells)
theorem TyLW.keep {w w' : World} {b : Nat} {vn vf va vp : Value} {t : Ty} (h : TyLW w b vn vf va vp t) (r : Wr [b] w w') : TyLW w' b vn vf va vp t := by
 obtain ⟨h1, h2, ⟨xs, h3, h4⟩, h5⟩ := h
 refine ⟨Sl.keep h1 r (fun g hg => by simpa using hg), h2.keep r, ⟨xs, h3.keep r, fun j x hx => ?_⟩, h5.keep r⟩
 obtain ⟨u0, u1, e0, e1, e2, r0, r1⟩ := h4 j x hx
 exact ⟨u0, u1, e0, e1, e2, r0.keep r, r1.keep r⟩
theorem fld_flat {l : List Fld} {k j : Nat} {x : Fld} {u : Value} (hx : l[k]? = some x) (hu : x.cells[j]? = some u) : (l.flatMap Fld.cells)[k * 3 + j]? = some u := by
 have hj : j < 3 := (List.getElem?_eq_some_iff.1 hu).1
 rw [flatF_at (g := Fld.cells) (size := 3) (fun _ => rfl) l k j x hx hj]
 exact hu
theorem par_flat {l : List Par} {k j : Nat} {x : Par} {u : Value} (hx : l[k]? = some x) (hu : x.cells[j]? = some u) : (l.flatMap Par.cells)[k * 2 + j]? = some u := by
 have hj : j < 2 := (List.getElem?_eq_some_iff.1 hu).1
 rw [flatF_at (g := Par.cells) (size := 2) (fun _ => rfl) l k j x hx hj]
 exact hu
section
variable (b q g o : Nat) (t : Ty) (vn vf va vp : Value) (nt : Nat) (hnt : nt ≤ 1024) (hf : tyFit t = true) (hm : tyForm nt t = true) (w : World) (hq : w.cell? ⟨q, 0, none⟩ = some (.pointer (some ⟨b, 0, none⟩))) (hqb : q ≠ b) (hgb : g ≠ b) (hc : ∀ j u, (t.cells vn vf va vp)[j]? = some u → Own w ⟨g, o + j, none⟩ u) (hl : TyLW w b vn vf va vp t)
include hf hgb hc hl
theorem names_w (W : World) (s : ByteArray) (r : Wr [b] w W) (hb : Wlk W b s false) (hroom : s.size + (numL t.names.length 2 ++ t.names.flatMap textL).length ≤ maxLen) :
  Calls Tryz.prog 82 #[.pointer (some ⟨b, 0, none⟩), .pointer (some ⟨g, o + 7, none⟩), .func (.func 53) #[.pointer (some ⟨b, 0, none⟩)] #[]] W (EncQ b s (numL t.names.length 2 ++ t.names.flatMap textL) false W) := by
 unfold tyFit fwB shB at hf
 simp only [Bool.and_eq_true, decide_eq_true_eq, List.all_eq_true] at hf
 obtain ⟨⟨⟨⟨⟨⟨⟨⟨b1, b2⟩, b3⟩, b4⟩, b5⟩, b6⟩, b7⟩, b8⟩, b9⟩ := hf
 have hn := hl.names
 obtain ⟨A, c, rfl, l1, l2⟩ := Sl.form hn
 refine lw_Str b 0 _ s t.names A c textL b3 l1 l2 hroom W hb ((hc 7 _ rfl).keep r (by simp [hgb])).cell hgb (fun k x hx => ?_)
 obtain ⟨gb, off, c', e, _, _, hP, hcell⟩ := Sl.at_ hn (j := k) (u := .string x) (by rw [qgmq, hx]; rfl)
 injection e with e1 _ _
 subst e1
 refine ⟨gb, off, rfl, fun W' s' r' hb' hr' => text_w b _ s' x false (b7 x (List.mem_of_getElem? hx)) hr' W' hb' ?_ hP⟩
 exact (r.trans r').cellOf hcell (by simpa using hP)
include hm
theorem arms_w (W : World) (s : ByteArray) (r : Wr [b] w W) (hb : Wlk W b s false) (hroom : s.size + (numL t.arms.length 2 ++ t.arms.flatMap armL).length ≤ maxLen) :
  Calls Tryz.prog 85 #[.pointer (some ⟨b, 0, none⟩), .pointer (some ⟨g, o + 9, none⟩), .func (.func 86) #[.pointer (some ⟨b, 0, none⟩)] #[]] W (EncQ b s (numL t.arms.length 2 ++ t.arms.flatMap armL) false W) := by
 unfold tyFit fwB shB at hf
 unfold tyForm at hm
 simp only [Bool.and_eq_true, decide_eq_true_eq, List.all_eq_true] at hf hm
 obtain ⟨⟨⟨⟨⟨⟨⟨⟨b1, b2⟩, b3⟩, b4⟩, b5⟩, b6⟩, b7⟩, b8⟩, b9⟩ := hf
 obtain ⟨⟨⟨⟨⟨⟨⟨a1, a2⟩, a3⟩, a4⟩, a5⟩, a6⟩, a7⟩, a8⟩ := hm
 obtain ⟨xs, hn, hx3⟩ := hl.arms
 obtain ⟨A, c, rfl, l1, l2⟩ := hn.form
 refine lw_Arm b 0 _ s t.arms A c armL b5 l1 l2 hroom W hb ((hc 9 _ rfl).keep r (by simp [hgb])).cell hgb (fun k x hx => ?_)
 obtain ⟨gb, off, c', e, hP, hcell⟩ := hn.thing (by decide) (i := k) (List.getElem?_eq_some_iff.1 hx).1
 injection e with e1 _ _
 subst e1
 have hmem := List.mem_of_getElem? hx
 obtain ⟨u0, u1, e0, e1, e2, r0, r1⟩ := hx3 k x hx
 refine ⟨gb, off, rfl, fun W' s' r' hb' hr' => arm_w b gb _ x u0 u1 s' W' hb' hP ?_ ?_ ?_ (r0.keep (r.trans r')) (r1.keep (r.trans r')) (b9 x hmem) (a7 x hmem) hr'⟩
 ·exact (hcell 0 u0 (by decide) e0).keep (r.trans r') (by simpa using hP)
 ·exact (hcell 1 u1 (by decide) e1).keep (r.trans r') (by simpa using hP)
 ·exact (hcell 2 _ (by decide) e2).keep (r.trans r') (by simpa using hP)
include hq hqb hnt
theorem fields_w (W : World) (s : ByteArray) (r : Wr [b] w W) (hb : Wlk W b s false) (hroom : s.size + (numL t.fields.length 2 ++ t.fields.flatMap fldL).length ≤ maxLen) :
  Calls Tryz.prog 83 #[.pointer (some ⟨b, 0, none⟩), .pointer (some ⟨g, o + 8, none⟩), .func (.func 84) #[] #[.pointer (some ⟨q, 0, none⟩)]] W (EncQ b s (numL t.fields.length 2 ++ t.fields.flatMap fldL) false W) := by
 unfold tyFit fwB shB at hf
 unfold tyForm at hm
 simp only [Bool.and_eq_true, decide_eq_true_eq, List.all_eq_true] at hf hm
 obtain ⟨⟨⟨⟨⟨⟨⟨⟨b1, b2⟩, b3⟩, b4⟩, b5⟩, b6⟩, b7⟩, b8⟩, b9⟩ := hf
 obtain ⟨⟨⟨⟨⟨⟨⟨a1, a2⟩, a3⟩, a4⟩, a5⟩, a6⟩, a7⟩, a8⟩ := hm
 have hn := hl.fields
 obtain ⟨A, c, rfl, l1, l2⟩ := hn.form
 refine lw_Field b q _ s t.fields A c fldL b4 l1 l2 hroom W hb ((hc 8 _ rfl).keep r (by simp [hgb])).cell hgb (fun k x hx => ?_)
 obtain ⟨gb, off, c', e, hP, hcell⟩ := hn.thing (by decide) (i := k) (List.getElem?_eq_some_iff.1 hx).1
 injection e with e1 _ _
 subst e1
 have hmem := List.mem_of_getElem? hx
 exact ⟨gb, off, rfl, fun W' s' r' hb' hr' => fld_w b q gb _ x s' W' hb' ((r.trans r').cellOf hq (by simpa using hqb)) hqb hP (fun j u hu => (hcell j u (List.getElem?_eq_some_iff.1 hu).1 (fld_flat hx hu)).keep (r.trans r') (by simpa using hP)) ⟨b8 x hmem, tyB_sm hnt (a6 x hmem).1, (a6 x hmem).2⟩ hr'⟩
theorem params_w (W : World) (s : ByteArray) (r : Wr [b] w W) (hb : Wlk W b s false) (hroom : s.size + (numL t.params.length 2 ++ t.params.flatMap parL).length ≤ maxLen) :
  Calls Tryz.prog 87 #[.pointer (some ⟨b, 0, none⟩), .pointer (some ⟨g, o + 10, none⟩), .func (.func 88) #[] #[.pointer (some ⟨q, 0, none⟩)]] W (EncQ b s (numL t.params.length 2 ++ t.params.flatMap parL) false W) := by
 unfold tyFit fwB shB at hf
 unfold tyForm at hm
 simp only [Bool.and_eq_true, decide_eq_true_eq, List.all_eq_true] at hf hm
 obtain ⟨⟨⟨⟨⟨⟨⟨⟨b1, b2⟩, b3⟩, b4⟩, b5⟩, b6⟩, b7⟩, b8⟩, b9⟩ := hf
 obtain ⟨⟨⟨⟨⟨⟨⟨a1, a2⟩, a3⟩, a4⟩, a5⟩, a6⟩, a7⟩, a8⟩ := hm
 have hn := hl.params
 obtain ⟨A, c, rfl, l1, l2⟩ := hn.form
 refine lw_Param b q _ s t.params A c parL b6 l1 l2 hroom W hb ((hc 10 _ rfl).keep r (by simp [hgb])).cell hgb (fun k x hx => ?_)
 obtain ⟨gb, off, c', e, hP, hcell⟩ := hn.thing (by decide) (i := k) (List.getElem?_eq_some_iff.1 hx).1
 injection e with e1 _ _
 subst e1
 have hmem := List.mem_of_getElem? hx
 exact ⟨gb, off, rfl, fun W' s' r' hb' hr' => par_w b q gb _ x s' W' hb' ((r.trans r').cellOf hq (by simpa using hqb)) hqb hP (fun j u hu => (hcell j u (List.getElem?_eq_some_iff.1 hu).1 (par_flat hx hu)).keep (r.trans r') (by simpa using hP)) (tyB_sm hnt (a8 x hmem)) hr'⟩
end
theorem typ_w (b g o : Nat) (t : Ty) (vn vf va vp : Value) (nt : Nat) (hnt : nt ≤ 1024) (hk : 0 ≤ t.kind ∧ t.kind ≤ 255) (hf : tyFit t = true) (hm : tyForm nt t = true) (s : ByteArray) (w : World) (hb : Wlk w b s false) (hgb : g ≠ b) (hc : ∀ j u, (t.cells vn vf va vp)[j]? = some u → Own w ⟨g, o + j, none⟩ u) (hl : TyLW w b vn vf va vp t) (hroom : s.size + (tyL t).length ≤ maxLen) :
  Calls Tryz.prog 58 #[.pointer (some ⟨b, 0, none⟩), .pointer (some ⟨g, o, none⟩)] w (EncQ b s (tyL t) false w) := by
 have hmf : ∀ (fn : Fn) (first cap : Array Value) (w : World), (Instr.makeFunc fn first cap).run Tryz.prog w = .ok (.func fn first cap) w := fun _ _ _ _ => rfl
 have heq : tyL t = numL t.kind.toNat 1 ++ (textL t.module ++ (textL t.name ++ (fourL t.base ++ (fourL t.index ++ (fourL t.low ++ (fourL t.high ++ ((numL t.names.length 2 ++ t.names.flatMap textL) ++ ((numL t.fields.length 2 ++ t.fields.flatMap fldL) ++ ((numL t.arms.length 2 ++ t.arms.flatMap armL) ++ ((numL t.params.length 2 ++ t.params.flatMap parL) ++ (fourL t.result))))))))))) := by simp only [tyL, qapq]
 have EQ := qh heq
 rw [heq] at hroom
 simp only [qlaq] at hroom
 obtain ⟨w0, hw0⟩ : ∃ w0, w.alloc (.cells #[.pointer (some ⟨b, 0, none⟩)] 91) = w0 := ⟨_, rfl⟩
 obtain ⟨q, hqe⟩ : ∃ q, w.heap.size = q := ⟨_, rfl⟩
 have hq0 : w0.cell? ⟨q, 0, none⟩ = some (.pointer (some ⟨b, 0, none⟩)) := by
  rw [← hw0, ← hqe]
  exact (Blk.new w 91 #[.pointer (some ⟨b, 0, none⟩)]).cell 0
 have hqb : q ≠ b := by have := Blk.lt hb; omega
 have ra : Wr [] w w0 := by rw [← hw0]; exact (Wr.refl _ _).alloc _
 replace hb : Wlk w0 b s false := hb.wr0 ra
 have hc0 : ∀ j u, (t.cells vn vf va vp)[j]? = some u → Own w0 ⟨g, o + j, none⟩ u := fun j u hu => (hc j u hu).keep ra (by simp)
 have hl0 := hl.keep (ra.nil (l := [b]))
 have hcopy1 := hf
 have hcopy2 := hm
 unfold tyFit fwB shB at hcopy1
 unfold tyForm at hcopy2
 simp only [Bool.and_eq_true, decide_eq_true_eq, List.all_eq_true] at hcopy1 hcopy2
 obtain ⟨⟨⟨⟨⟨⟨⟨⟨b1, b2⟩, b3⟩, b4⟩, b5⟩, b6⟩, b7⟩, b8⟩, b9⟩ := hcopy1
 obtain ⟨⟨⟨⟨⟨⟨⟨a1, a2⟩, a3⟩, a4⟩, a5⟩, a6⟩, a7⟩, a8⟩ := hcopy2
 have h0 := fun W s' (r : Wr [b] w0 W) hb hr => byte_q b ⟨g, o, none⟩ s' W hb hgb t.kind hk hr ((hc0 0 _ rfl).keep r (by simp [hgb]))
 have H0 := qh h0
 have h1 := fun W s' (r : Wr [b] w0 W) hb hr => text_w b ⟨g, o + 1, none⟩ s' t.module false b1 hr W hb ((hc0 1 _ rfl).keep r (by simp [hgb])).cell hgb
 have H1 := qh h1
 have h2 := fun W s' (r : Wr [b] w0 W) hb hr => text_w b ⟨g, o + 2, none⟩ s' t.name false b2 hr W hb ((hc0 2 _ rfl).keep r (by simp [hgb])).cell hgb
 have H2 := qh h2
 have h3 := fun W s' (r : Wr [b] w0 W) hb hr => place_q b ⟨g, o + 3, none⟩ s' W hb hgb t.base (tyB_sm hnt a1) hr ((hc0 3 _ rfl).keep r (by simp [hgb]))
 have H3 := qh h3
 have h4 := fun W s' (r : Wr [b] w0 W) hb hr => place_q b ⟨g, o + 4, none⟩ s' W hb hgb t.index (tyB_sm hnt a2) hr ((hc0 4 _ rfl).keep r (by simp [hgb]))
 have H4 := qh h4
 have h5 := fun W s' (r : Wr [b] w0 W) hb hr => number_q b ⟨g, o + 5, none⟩ s' W hb hgb t.low a4 hr ((hc0 5 _ rfl).keep r (by simp [hgb]))
 have H5 := qh h5
 have h6 := fun W s' (r : Wr [b] w0 W) hb hr => number_q b ⟨g, o + 6, none⟩ s' W hb hgb t.high a5 hr ((hc0 6 _ rfl).keep r (by simp [hgb]))
 have H6 := qh h6
 have h7 := names_w b g o t vn vf va vp hf w0 hgb hc0 hl0
 have H7 := qh h7
 have h8 := fields_w b q g o t vn vf va vp nt hnt hf hm w0 hq0 hqb hgb hc0 hl0
 have H8 := qh h8
 have h9 := arms_w b g o t vn vf va vp nt hf hm w0 hgb hc0 hl0
 have H9 := qh h9
 have h10 := params_w b q g o t vn vf va vp nt hnt hf hm w0 hq0 hqb hgb hc0 hl0
 have H10 := qh h10
 have h11 := fun W s' (r : Wr [b] w0 W) hb hr => place_q b ⟨g, o + 11, none⟩ s' W hb hgb t.result (tyB_sm hnt a3) hr ((hc0 11 _ rfl).keep r (by simp [hgb]))
 have H11 := qh h11
 have HRM := qh hroom
 have CH := qh hq0
 have HW0 := qh hw0
 have HQ := qh hqe
 have RA := qh ra
 have acc : Wr [b] w0 w0 := Wr.refl _ _
 clear h0 h1 h2 h3 h4 h5 h6 h7 h8 h9 h10 h11 hq0 hc hc0 hl hl0 hroom heq hw0 hqe ra b1 b2 b3 b4 b5 b6 b7 b8 b9 a1 a2 a3 a4 a5 a6 a7 a8 hf hm hk
 go_enter Tryz.func58, Tryz.ntmps58
 go_upto_region 1 with (fail)
 rw [HW0.out, HQ.out]
 have ch := acc.cellOf CH.out (by simp [hqb])
 go_still_tail 4, (by kernel_rfl)
 change wpList _ _ _ _ _ w0.drew
 replace acc := acc.drew
 replace hb := Blk.drew hb
 clear ch
 generalize w0.drew = wa0 at *
 go_wp2_with fail
 refine (H0.out _ _ acc hb (by have := HRM.out; (try simp only [addL_size, qlaq]); omega)).mono ?_
 rintro e w1 ⟨rfl, r1, hb1⟩
 replace acc := acc.trans r1
 clear hb r1
 rename Wlk w1 b _ false => hb
 go_wp2_with fail
 have ch := acc.cellOf CH.out (by simp [hqb])
 go_still_tail 4, (by kernel_rfl)
 change wpList _ _ _ _ _ w1.drew
 replace acc := acc.drew
 replace hb := Blk.drew hb
 clear ch
 generalize w1.drew = wa1 at *
 go_wp2_with fail
 refine (H1.out _ _ acc hb (by have := HRM.out; (try simp only [addL_size, qlaq]); omega)).mono ?_
 rintro e w2 ⟨rfl, r2, hb2⟩
 replace acc := acc.trans r2
 clear hb r2
 rename Wlk w2 b _ false => hb
 go_wp2_with fail
 have ch := acc.cellOf CH.out (by simp [hqb])
 go_still_tail 4, (by kernel_rfl)
 change wpList _ _ _ _ _ w2.drew
 replace acc := acc.drew
 replace hb := Blk.drew hb
 clear ch
 generalize w2.drew = wa2 at *
 go_wp2_with fail
 refine (H2.out _ _ acc hb (by have := HRM.out; (try simp only [addL_size, qlaq]); omega)).mono ?_
 rintro e w3 ⟨rfl, r3, hb3⟩
 replace acc := acc.trans r3
 clear hb r3
 rename Wlk w3 b _ false => hb
 go_wp2_with fail
 have ch := acc.cellOf CH.out (by simp [hqb])
 go_still_tail 4, (by kernel_rfl)
 change wpList _ _ _ _ _ w3.drew
 replace acc := acc.drew
 replace hb := Blk.drew hb
 clear ch
 generalize w3.drew = wa3 at *
 go_wp2_with fail
 refine (H3.out _ _ acc hb (by have := HRM.out; (try simp only [addL_size, qlaq]); omega)).mono ?_
 rintro e w4 ⟨rfl, r4, hb4⟩
 replace acc := acc.trans r4
 clear hb r4
 rename Wlk w4 b _ false => hb
 go_wp2_with fail
 have ch := acc.cellOf CH.out (by simp [hqb])
 go_still_tail 4, (by kernel_rfl)
 change wpList _ _ _ _ _ w4.drew
 replace acc := acc.drew
 replace hb := Blk.drew hb
 clear ch
 generalize w4.drew = wa4 at *
 go_wp2_with fail
 refine (H4.out _ _ acc hb (by have := HRM.out; (try simp only [addL_size, qlaq]); omega)).mono ?_
 rintro e w5 ⟨rfl, r5, hb5⟩
 replace acc := acc.trans r5
 clear hb r5
 rename Wlk w5 b _ false => hb
 go_wp2_with fail
 have ch := acc.cellOf CH.out (by simp [hqb])
 go_still_tail 4, (by kernel_rfl)
 change wpList _ _ _ _ _ w5.drew
 replace acc := acc.drew
 replace hb := Blk.drew hb
 clear ch
 generalize w5.drew = wa5 at *
 go_wp2_with fail
 refine (H5.out _ _ acc hb (by have := HRM.out; (try simp only [addL_size, qlaq]); omega)).mono ?_
 rintro e w6 ⟨rfl, r6, hb6⟩
 replace acc := acc.trans r6
 clear hb r6
 rename Wlk w6 b _ false => hb
 go_wp2_with fail
 have ch := acc.cellOf CH.out (by simp [hqb])
 go_still_tail 4, (by kernel_rfl)
 change wpList _ _ _ _ _ w6.drew
 replace acc := acc.drew
 replace hb := Blk.drew hb
 clear ch
 generalize w6.drew = wa6 at *
 go_wp2_with fail
 refine (H6.out _ _ acc hb (by have := HRM.out; (try simp only [addL_size, qlaq]); omega)).mono ?_
 rintro e w7 ⟨rfl, r7, hb7⟩
 replace acc := acc.trans r7
 clear hb r7
 rename Wlk w7 b _ false => hb
 go_wp2_with fail
 have ch := acc.cellOf CH.out (by simp [hqb])
 go_still_tail 6, (by kernel_rfl)
 change wpList _ _ _ _ _ w7.drew
 replace acc := acc.drew
 replace hb := Blk.drew hb
 clear ch
 generalize w7.drew = wa7 at *
 go_wp2_with fail
 refine (H7.out _ _ acc hb (by have := HRM.out; (try simp only [addL_size, qlaq]); omega)).mono ?_
 rintro e w8 ⟨rfl, r8, hb8⟩
 replace acc := acc.trans r8
 clear hb r8
 rename Wlk w8 b _ false => hb
 go_wp2_with fail
 have ch := acc.cellOf CH.out (by simp [hqb])
 go_still_tail 5, (by kernel_rfl)
 change wpList _ _ _ _ _ w8.drew
 replace acc := acc.drew
 replace hb := Blk.drew hb
 clear ch
 generalize w8.drew = wa8 at *
 go_wp2_with fail
 refine (H8.out _ _ acc hb (by have := HRM.out; (try simp only [addL_size, qlaq]); omega)).mono ?_
 rintro e w9 ⟨rfl, r9, hb9⟩
 replace acc := acc.trans r9
 clear hb r9
 rename Wlk w9 b _ false => hb
 go_wp2_with fail
 have ch := acc.cellOf CH.out (by simp [hqb])
 go_still_tail 6, (by kernel_rfl)
 change wpList _ _ _ _ _ w9.drew
 replace acc := acc.drew
 replace hb := Blk.drew hb
 clear ch
 generalize w9.drew = wa9 at *
 go_wp2_with fail
 refine (H9.out _ _ acc hb (by have := HRM.out; (try simp only [addL_size, qlaq]); omega)).mono ?_
 rintro e w10 ⟨rfl, r10, hb10⟩
 replace acc := acc.trans r10
 clear hb r10
 rename Wlk w10 b _ false => hb
 go_wp2_with fail
 have ch := acc.cellOf CH.out (by simp [hqb])
 go_still_tail 5, (by kernel_rfl)
 change wpList _ _ _ _ _ w10.drew
 replace acc := acc.drew
 replace hb := Blk.drew hb
 clear ch
 generalize w10.drew = wa10 at *
 go_wp2_with fail
 refine (H10.out _ _ acc hb (by have := HRM.out; (try simp only [addL_size, qlaq]); omega)).mono ?_
 rintro e w11 ⟨rfl, r11, hb11⟩
 replace acc := acc.trans r11
 clear hb r11
 rename Wlk w11 b _ false => hb
 go_wp2_with fail
 have ch := acc.cellOf CH.out (by simp [hqb])
 go_still_tail 4, (by kernel_rfl)
 change wpList _ _ _ _ _ w11.drew
 replace acc := acc.drew
 replace hb := Blk.drew hb
 clear ch
 generalize w11.drew = wa11 at *
 go_wp2_with fail
 refine (H11.out _ _ acc hb (by have := HRM.out; (try simp only [addL_size, qlaq]); omega)).mono ?_
 rintro e w12 ⟨rfl, r12, hb12⟩
 replace acc := acc.trans r12
 clear hb r12
 rename Wlk w12 b _ false => hb
 go_wp2_with fail
 refine bodyPost_end (results_none Tryz.results58 _ _ _) rfl ?_
 refine ⟨rfl, RA.out.nil.trans acc, ?_⟩
 have e : tyL t = numL t.kind.toNat 1 ++ (textL t.module ++ (textL t.name ++ (fourL t.base ++ (fourL t.index ++ (fourL t.low ++ (fourL t.high ++ ((numL t.names.length 2 ++ t.names.flatMap textL) ++ ((numL t.fields.length 2 ++ t.fields.flatMap fldL) ++ ((numL t.arms.length 2 ++ t.arms.flatMap armL) ++ ((numL t.params.length 2 ++ t.params.flatMap parL) ++ (fourL t.result))))))))))) := EQ.out
 rw [e]
 simp only [addL_add, qapq] at hb ⊢
 exact hb
theorem itm_w (b q g o : Nat) (x : ItmD) (nt : Nat) (hnt : nt ≤ 1024) (hk : 0 ≤ x.kind ∧ x.kind ≤ 255) (hw : anyW x.v) (hf0 : itmFit x = true) (hm0 : itmForm nt x = true) (s : ByteArray) (w : World) (hb : Wlk w b s false) (hq : w.cell? ⟨q, 0, none⟩ = some (.pointer (some ⟨b, 0, none⟩))) (hqb : q ≠ b) (hgb : g ≠ b) (hc : ∀ j u, x.cells[j]? = some u → Own w ⟨g, o + j, none⟩ u) (hroom : s.size + (itmL x).length ≤ maxLen) :
  Calls Tryz.prog 60 #[.pointer (some ⟨g, o, none⟩), .pointer (some ⟨q, 0, none⟩)] w (EncQ b s (itmL x) false w) := by
 have hf : x.name.size ≤ 255 ∧ anyFit x.v = true := by
  unfold itmFit shB at hf0
  simpa only [Bool.and_eq_true, decide_eq_true_eq] using hf0
 have hm : (tyB nt x.type = true ∧ smB x.at_ = true) ∧ anyForm nt x.v = true := by
  unfold itmForm at hm0
  simpa only [Bool.and_eq_true] using hm0
 have heq : itmL x = textL x.name ++ (numL x.kind.toNat 1 ++ (fourL x.type ++ (fourL x.at_ ++ (anyL x.v)))) := by simp only [itmL, qapq]
 have EQ := qh heq
 rw [heq] at hroom
 simp only [qlaq] at hroom
 have h0 := fun W s' (r : Wr [b] w W) hb hr => text_w b ⟨g, o, none⟩ s' x.name false hf.1 hr W hb ((hc 0 _ rfl).keep r (by simp [hgb])).cell hgb
 have H0 := qh h0
 have h1 := fun W s' (r : Wr [b] w W) hb hr => byte_q b ⟨g, o + 1, none⟩ s' W hb hgb x.kind hk hr ((hc 1 _ rfl).keep r (by simp [hgb]))
 have H1 := qh h1
 have h2 := fun W s' (r : Wr [b] w W) hb hr => place_q b ⟨g, o + 2, none⟩ s' W hb hgb x.type (tyB_sm hnt hm.1.1) hr ((hc 2 _ rfl).keep r (by simp [hgb]))
 have H2 := qh h2
 have h3 := fun W s' (r : Wr [b] w W) hb hr => place_q b ⟨g, o + 4, none⟩ s' W hb hgb x.at_ hm.1.2 hr ((hc 4 _ rfl).keep r (by simp [hgb]))
 have H3 := qh h3
 have h4 := fun W s' (r : Wr [b] w W) hb hr => value_w b g (o + 3) nt hnt x.v s' W hb hgb ((hc 3 _ rfl).keep r (by simp [hgb])) hw hf.2 hm.2 hr
 have H4 := qh h4
 have HRM := qh hroom
 have CH := qh hq
 have acc : Wr [b] w w := Wr.refl _ _
 clear h0 h1 h2 h3 h4 hq hc hroom heq hf hm hf0 hm0 hk hw
 go_enter Tryz.func60, Tryz.ntmps60
 go_wp2_with fail
 have ch := acc.cellOf CH.out (by simp [hqb])
 go_still_tail 4, (by kernel_rfl)
 change wpList _ _ _ _ _ w.drew
 replace acc := acc.drew
 replace hb := Blk.drew hb
 clear ch
 generalize w.drew = wa0 at *
 go_wp2_with fail
 refine (H0.out _ _ acc hb (by have := HRM.out; (try simp only [addL_size, qlaq]); omega)).mono ?_
 rintro e w1 ⟨rfl, r1, hb1⟩
 replace acc := acc.trans r1
 clear hb r1
 rename Wlk w1 b _ false => hb
 go_wp2_with fail
 have ch := acc.cellOf CH.out (by simp [hqb])
 go_still_tail 4, (by kernel_rfl)
 change wpList _ _ _ _ _ w1.drew
 replace acc := acc.drew
 replace hb := Blk.drew hb
 clear ch
 generalize w1.drew = wa1 at *
 go_wp2_with fail
 refine (H1.out _ _ acc hb (by have := HRM.out; (try simp only [addL_size, qlaq]); omega)).mono ?_
 rintro e w2 ⟨rfl, r2, hb2⟩
 replace acc := acc.trans r2
 clear hb r2
 rename Wlk w2 b _ false => hb
 go_wp2_with fail
 have ch := acc.cellOf CH.out (by simp [hqb])
 go_still_tail 4, (by kernel_rfl)
 change wpList _ _ _ _ _ w2.drew
 replace acc := acc.drew
 replace hb := Blk.drew hb
 clear ch
 generalize w2.drew = wa2 at *
 go_wp2_with fail
 refine (H2.out _ _ acc hb (by have := HRM.out; (try simp only [addL_size, qlaq]); omega)).mono ?_
 rintro e w3 ⟨rfl, r3, hb3⟩
 replace acc := acc.trans r3
 clear hb r3
 rename Wlk w3 b _ false => hb
 go_wp2_with fail
 have ch := acc.cellOf CH.out (by simp [hqb])
 go_still_tail 4, (by kernel_rfl)
 change wpList _ _ _ _ _ w3.drew
 replace acc := acc.drew
 replace hb := Blk.drew hb
 clear ch
 generalize w3.drew = wa3 at *
 go_wp2_with fail
 refine (H3.out _ _ acc hb (by have := HRM.out; (try simp only [addL_size, qlaq]); omega)).mono ?_
 rintro e w4 ⟨rfl, r4, hb4⟩
 replace acc := acc.trans r4
 clear hb r4
 rename Wlk w4 b _ false => hb
 go_wp2_with fail
 have ch := acc.cellOf CH.out (by simp [hqb])
 go_still_tail 4, (by kernel_rfl)
 change wpList _ _ _ _ _ w4.drew
 replace acc := acc.drew
 replace hb := Blk.drew hb
 clear ch
 generalize w4.drew = wa4 at *
 go_wp2_with fail
 refine (H4.out _ _ acc hb (by have := HRM.out; (try simp only [addL_size, qlaq]); omega)).mono ?_
 rintro e w5 ⟨rfl, r5, hb5⟩
 replace acc := acc.trans r5
 clear hb r5
 rename Wlk w5 b _ false => hb
 go_wp2_with fail
 refine bodyPost_end (results_none Tryz.results60 _ _ _) rfl ?_
 refine ⟨rfl, acc, ?_⟩
 have e : itmL x = textL x.name ++ (numL x.kind.toNat 1 ++ (fourL x.type ++ (fourL x.at_ ++ (anyL x.v)))) := EQ.out
 rw [e]
 simp only [addL_add, qapq] at hb ⊢
 exact hb
end Go.Proofs.YtjanbpchedgoiaaGreat
