/- iface's Encode, of any interface: walked. Conditions: numbers are within their kinds. -/
import Derived.Test.YtjanbpchedgoiaaGreatKT21
import Derived.Test.YtjanbpchedgoiaaGreatKT12
set_option linter.unusedVariables false
set_option linter.unusedSimpArgs false
set_option maxRecDepth 100000
set_option maxHeartbeats 32000000
namespace Go.Proofs.YtjanbpchedgoiaaGreat
open Go.RowKit
theorem flat_le {α : Type} (enc : α → List UInt8) (B : Nat) : ∀ (l : List α) (N : Nat), l.length ≤ N → (∀ x ∈ l, (enc x).length ≤ B) → (l.flatMap enc).length ≤ N * B
 | [], N, _, _ => by simp
 | x :: l, 0, h, _ => by simp at h
 | x :: l, N + 1, h, hx => by
  have h1 := flat_le enc B l N (by simpa using h) (fun y hy => hx y (by simp [hy]))
  have h2 := hx x (by simp)
  rw [qfcq, qlaq, Nat.succ_mul]
  omega
theorem text_len (s : ByteArray) : (textL s).length = 1 + s.size := by
 unfold textL
 rw [qlaq, numL_len]
 rfl
theorem tru_len (b : Bool) : (truL b).length = 1 := by cases b <;> rfl
theorem ty_room {t : Ty} (h : tyFit t = true) : (tyL t).length ≤ 40000000000 := by
 unfold tyFit fwB shB at h
 simp only [Bool.and_eq_true, decide_eq_true_eq, List.all_eq_true] at h
 obtain ⟨⟨⟨⟨⟨⟨⟨⟨b1, b2⟩, b3⟩, b4⟩, b5⟩, b6⟩, b7⟩, b8⟩, b9⟩ := h
 have n1 := flat_le textL 256 t.names 65535 b3 (fun x hx => by rw [text_len]; have := b7 x hx; omega)
 have n2 := flat_le fldL 264 t.fields 65535 b4 (fun x hx => by unfold fldL; simp only [qlaq, text_len, four_len]; have := b8 x hx; omega)
 have n3 := flat_le armL 524283 t.arms 65535 b5 (fun x hx => by
  have := b9 x hx
  unfold armFit fwB at this
  simp only [Bool.and_eq_true, decide_eq_true_eq] at this
  have hz := flat_le pairL 8 (x.frm.zip x.to) 65535 (by rw [List.length_zip]; omega) (fun p _ => by unfold pairL; simp only [qlaq, four_len]; omega)
  unfold armL
  simp only [qlaq, numL_len, tru_len]
  omega)
 have n4 := flat_le parL 5 t.params 65535 b6 (fun x hx => by unfold parL; simp only [qlaq, tru_len, four_len]; omega)
 unfold tyL
 simp only [qlaq, numL_len, text_len, four_len]
 omega
theorem any_room {v : AnyD} (h : anyFit v = true) : (anyL v).length ≤ 70000 := by
 cases v <;> unfold anyL <;> simp only [qlaq, numL_len, four_len, tru_len] <;> try omega
 rename_i s
 have : s.size ≤ 65535 := of_decide_eq_true h
 have e : s.data.toList.length = s.size := rfl
 rw [e]
 omega
theorem face_room {f : FaceD} (h : faceFit f = true) : (faceL f).length ≤ 50000000000000 := by
 unfold faceFit shB at h
 simp only [Bool.and_eq_true, decide_eq_true_eq, List.all_eq_true] at h
 obtain ⟨⟨⟨⟨⟨⟨a1, a2⟩, a3⟩, a4⟩, a5⟩, a6⟩, a7⟩ := h
 have n1 := flat_le useL 264 f.uses 64 a1 (fun u hu => by unfold useL; simp only [qlaq, text_len, numL_len]; have := a5 u hu; omega)
 have n2 := flat_le tyL 40000000000 f.types 1024 a3 (fun t ht => ty_room (a6 t ht))
 have n3 := flat_le itmL 71000 f.items 512 a2 (fun x hx => by
  have := a7 x hx
  unfold itmFit shB at this
  simp only [Bool.and_eq_true, decide_eq_true_eq] at this
  have hv := any_room this.2
  unfold itmL
  simp only [qlaq, text_len, numL_len, four_len]
  omega)
 unfold faceL
 simp only [qlaq, numL_len, text_len]
 omega
structure FaceW (w : World) (b : Nat) (vu vt vi : Value) (f : FaceD) : Prop where
 uses : RowW w b 2 vu f.uses.length (f.uses.flatMap UseD.cellsF)
 types : ∃ xs, RowW w b 12 vt f.types.length xs ∧ ∀ i t, f.types[i]? = some t → ∃ vn vf va vp, (∀ j u, (t.cells vn vf va vp)[j]? = some u → xs[i * 12 + j]? = some u) ∧ TyLW w b vn vf va vp t
 items : RowW w b 5 vi f.items.length (f.items.flatMap ItmD.cells)
theorem FaceW.keep {w w' : World} {b : Nat} {vu vt vi : Value} {f : FaceD} (h : FaceW w b vu vt vi f) (r : Wr [b] w w') : FaceW w' b vu vt vi f := by
 obtain ⟨h1, ⟨xs, h2, h3⟩, h4⟩ := h
 refine ⟨h1.keep r, ⟨xs, h2.keep r, fun i t ht => ?_⟩, h4.keep r⟩
 obtain ⟨vn, vf, va, vp, e, o⟩ := h3 i t ht
 exact ⟨vn, vf, va, vp, e, o.keep r⟩
theorem TyO.lw {w : World} {S : Nat} {lab : Nat → Nat × Nat} {i b : Nat} {vn vf va vp : Value} {t : Ty} (h : TyO w S lab i vn vf va vp t) (hb : b < S) : TyLW w b vn vf va vp t := by
 have hn : ∀ {c T z n v xs}, OwnL w S lab i c T z v n xs → v.ownBlock ≠ some b := fun ho e => by
  have := (ho.1.lt b e).1
  omega
 obtain ⟨xs, h1, h2, h3⟩ := h.arms
 refine ⟨Sl.mono h.names (fun g hg e => by have := hg.1; omega), RowW.ofOwn h.fields.1 (hn h.fields), ⟨xs, RowW.ofOwn h1.1 (hn h1), fun j x hx => ?_⟩, RowW.ofOwn h.params.1 (hn h.params)⟩
 obtain ⟨va, vb, e1, e2, e3, ka, kb⟩ := h3 j x hx
 exact ⟨va, vb, e1, e2, e3, RowW.ofOwn ka.1 (hn ka), RowW.ofOwn kb.1 (hn kb)⟩
theorem use_flat {l : List UseD} {k j : Nat} {x : UseD} {u : Value} (hx : l[k]? = some x) (hu : x.cellsF[j]? = some u) : (l.flatMap UseD.cellsF)[k * 2 + j]? = some u := by
 rw [flatF_at useF_len l k j x hx (List.getElem?_eq_some_iff.1 hu).1]
 exact hu
theorem itm_flat {l : List ItmD} {k j : Nat} {x : ItmD} {u : Value} (hx : l[k]? = some x) (hu : x.cells[j]? = some u) : (l.flatMap ItmD.cells)[k * 5 + j]? = some u := by
 rw [flatF_at itm_len l k j x hx (List.getElem?_eq_some_iff.1 hu).1]
 exact hu
section
variable (b q g : Nat) (f : FaceD) (vu vt vi : Value) (hW : faceW f) (hf : faceFit f = true) (hm : faceForm f = true) (w : World) (hq : w.cell? ⟨q, 0, none⟩ = some (.pointer (some ⟨b, 0, none⟩))) (hqb : q ≠ b) (hgb : g ≠ b) (hc : ∀ j u, [Value.string f.module, vu, vt, vi][j]? = some u → w.cell? ⟨g, j, none⟩ = some u) (hl : FaceW w b vu vt vi f)
include hW hf hm hgb hc hl
theorem types_w (W : World) (s : ByteArray) (r : Wr [b] w W) (hb : Wlk W b s false) (hroom : s.size + (numL f.types.length 2 ++ f.types.flatMap tyL).length ≤ maxLen) :
  Calls Tryz.prog 57 #[.pointer (some ⟨b, 0, none⟩), .pointer (some ⟨g, 2, none⟩), .func (.func 58) #[.pointer (some ⟨b, 0, none⟩)] #[]] W (EncQ b s (numL f.types.length 2 ++ f.types.flatMap tyL) false W) := by
 unfold faceFit shB at hf
 unfold faceForm at hm
 simp only [Bool.and_eq_true, decide_eq_true_eq, List.all_eq_true] at hf hm
 obtain ⟨⟨⟨⟨⟨⟨a1, a2⟩, a3⟩, a4⟩, a5⟩, a6⟩, a7⟩ := hf
 obtain ⟨xs, hn, hx3⟩ := hl.types
 obtain ⟨A, c, rfl, l1, l2⟩ := hn.form
 refine lw_Type b 0 _ s f.types A c tyL (by omega) l1 l2 hroom W hb (r.cellOf (hc 2 _ rfl) (by simp [hgb])) hgb (fun k x hx => ?_)
 obtain ⟨gb, off, c', e, hP, hcell⟩ := hn.thing (by decide) (i := k) (List.getElem?_eq_some_iff.1 hx).1
 injection e with e1 _ _
 subst e1
 have hmem := List.mem_of_getElem? hx
 obtain ⟨vn, vf, va, vp, e, hl⟩ := hx3 k x hx
 exact ⟨gb, off, rfl, fun W' s' r' hb' hr' => typ_w b gb _ x vn vf va vp f.types.length a3 (hW.kinds x hmem) (a6 x hmem) (hm.1 x hmem) s' W' hb' hP (fun j u hu => (hcell j u (List.getElem?_eq_some_iff.1 hu).1 (e j u hu)).keep (r.trans r') (by simpa using hP)) (hl.keep (r.trans r')) hr'⟩
include hq hqb
omit hm in
theorem uses_w (W : World) (s : ByteArray) (r : Wr [b] w W) (hb : Wlk W b s false) (hroom : s.size + (numL f.uses.length 2 ++ f.uses.flatMap useL).length ≤ maxLen) :
  Calls Tryz.prog 54 #[.pointer (some ⟨b, 0, none⟩), .pointer (some ⟨g, 1, none⟩), .func (.func 55) #[] #[.pointer (some ⟨q, 0, none⟩)]] W (EncQ b s (numL f.uses.length 2 ++ f.uses.flatMap useL) false W) := by
 unfold faceFit shB at hf
 simp only [Bool.and_eq_true, decide_eq_true_eq, List.all_eq_true] at hf
 obtain ⟨⟨⟨⟨⟨⟨a1, a2⟩, a3⟩, a4⟩, a5⟩, a6⟩, a7⟩ := hf
 have hn := hl.uses
 obtain ⟨A, c, rfl, l1, l2⟩ := hn.form
 refine lw_Use b q _ s f.uses A c useL (by omega) l1 l2 hroom W hb (r.cellOf (hc 1 _ rfl) (by simp [hgb])) hgb (fun k x hx => ?_)
 obtain ⟨gb, off, c', e, hP, hcell⟩ := hn.thing (by decide) (i := k) (List.getElem?_eq_some_iff.1 hx).1
 injection e with e1 _ _
 subst e1
 have hmem := List.mem_of_getElem? hx
 have hk := hW.keys x hmem
 refine ⟨gb, off, rfl, fun W' s' r' hb' hr' => ?_⟩
 have h0 := (hcell 0 _ (by decide) (use_flat hx rfl)).keep (r.trans r') (by simpa using hP)
 have h1 := (hcell 1 _ (by decide) (use_flat hx rfl)).keep (r.trans r') (by simpa using hP)
 rw [show x.key = ((x.key.toNat : Nat) : Int) by omega] at h1
 exact use_w1 b q gb _ x.key.toNat (by omega) x.module s' W' hb' ((r.trans r').cellOf hq (by simpa using hqb)) hqb hP h0 h1 (a5 x hmem) (by unfold useL at hr'; rw [qlaq] at hr'; exact hr')
theorem items_w (W : World) (s : ByteArray) (r : Wr [b] w W) (hb : Wlk W b s false) (hroom : s.size + (numL f.items.length 2 ++ f.items.flatMap itmL).length ≤ maxLen) :
  Calls Tryz.prog 59 #[.pointer (some ⟨b, 0, none⟩), .pointer (some ⟨g, 3, none⟩), .func (.func 60) #[] #[.pointer (some ⟨q, 0, none⟩)]] W (EncQ b s (numL f.items.length 2 ++ f.items.flatMap itmL) false W) := by
 unfold faceFit shB at hf
 unfold faceForm at hm
 simp only [Bool.and_eq_true, decide_eq_true_eq, List.all_eq_true] at hf hm
 obtain ⟨⟨⟨⟨⟨⟨a1, a2⟩, a3⟩, a4⟩, a5⟩, a6⟩, a7⟩ := hf
 have hn := hl.items
 obtain ⟨A, c, rfl, l1, l2⟩ := hn.form
 refine lw_Export b q _ s f.items A c itmL (by omega) l1 l2 hroom W hb (r.cellOf (hc 3 _ rfl) (by simp [hgb])) hgb (fun k x hx => ?_)
 obtain ⟨gb, off, c', e, hP, hcell⟩ := hn.thing (by decide) (i := k) (List.getElem?_eq_some_iff.1 hx).1
 injection e with e1 _ _
 subst e1
 have hmem := List.mem_of_getElem? hx
 exact ⟨gb, off, rfl, fun W' s' r' hb' hr' => itm_w b q gb _ x f.types.length a3 (hW.sorts x hmem) (hW.vals x hmem) (a7 x hmem) (hm.2 x hmem) s' W' hb' ((r.trans r').cellOf hq (by simpa using hqb)) hqb hP (fun j u hu => (hcell j u (List.getElem?_eq_some_iff.1 hu).1 (itm_flat hx hu)).keep (r.trans r') (by simpa using hP)) hr'⟩
end
theorem iface_w (b g : Nat) (f : FaceD) (vu vt vi : Value) (hW : faceW f) (hf : faceFit f = true) (hm : faceForm f = true) (s : ByteArray) (w : World) (hb : Wlk w b s false) (hgb : g ≠ b) (hc : ∀ j u, [Value.string f.module, vu, vt, vi][j]? = some u → w.cell? ⟨g, j, none⟩ = some u) (hl : FaceW w b vu vt vi f) (hroom : s.size + (faceL f).length ≤ maxLen) :
  Calls Tryz.prog 29 #[.pointer (some ⟨b, 0, none⟩), .pointer (some ⟨g, 0, none⟩)] w (EncQ b s (faceL f) false w) := by
 have hmf : ∀ (fn : Fn) (first cap : Array Value) (w : World), (Instr.makeFunc fn first cap).run Tryz.prog w = .ok (.func fn first cap) w := fun _ _ _ _ => rfl
 have heq : faceL f = textL f.module ++ ((numL f.uses.length 2 ++ f.uses.flatMap useL) ++ ((numL f.types.length 2 ++ f.types.flatMap tyL) ++ ((numL f.items.length 2 ++ f.items.flatMap itmL)))) := by simp only [faceL, qapq]
 have EQ := qh heq
 rw [heq] at hroom
 simp only [qlaq] at hroom
 obtain ⟨w0, hw0⟩ : ∃ w0, w.alloc (.cells #[.pointer (some ⟨b, 0, none⟩)] 91) = w0 := ⟨_, rfl⟩
 obtain ⟨q, hqe⟩ : ∃ q, w.heap.size = q := ⟨_, rfl⟩
 have hq0 : w0.cell? ⟨q, 0, none⟩ = some (.pointer (some ⟨b, 0, none⟩)) := by
  rw [← hw0, ← hqe]
  exact (Blk.new w 91 #[.pointer (some ⟨b, 0, none⟩)]).cell 0
 have hqb : q ≠ b := by have := Blk.lt hb; omega
 have ra : Wr [] w w0 := by rw [← hw0]; exact (Wr.refl _ _).alloc _
 replace hb : Wlk w0 b s false := hb.wr0 ra
 have hc0 : ∀ j u, [Value.string f.module, vu, vt, vi][j]? = some u → w0.cell? ⟨g, j, none⟩ = some u := fun j u hu => ra.cellOf (hc j u hu) (by simp)
 have hl0 := hl.keep (ra.nil (l := [b]))
 have b1 : f.module.size ≤ 255 := by
  unfold faceFit shB at hf
  simp only [Bool.and_eq_true, decide_eq_true_eq] at hf
  exact hf.1.1.1.2
 have h0 := fun W s' (r : Wr [b] w0 W) hb hr => text_w b ⟨g, 0, none⟩ s' f.module false b1 hr W hb (r.cellOf (hc0 0 _ rfl) (by simp [hgb])) hgb
 have H0 := qh h0
 have h1 := uses_w b q g f vu vt vi hW hf w0 hq0 hqb hgb hc0 hl0
 have H1 := qh h1
 have h2 := types_w b g f vu vt vi hW hf hm w0 hgb hc0 hl0
 have H2 := qh h2
 have h3 := items_w b q g f vu vt vi hW hf hm w0 hq0 hqb hgb hc0 hl0
 have H3 := qh h3
 have HRM := qh hroom
 have CH := qh hq0
 have HW0 := qh hw0
 have HQ := qh hqe
 have RA := qh ra
 have acc : Wr [b] w0 w0 := Wr.refl _ _
 clear h0 h1 h2 h3 hq0 hc hc0 hl hl0 hroom heq hw0 hqe ra b1 hf hm hW
 go_enter Tryz.func29, Tryz.ntmps29
 go_upto_region 1 with (fail)
 rw [HW0.out, HQ.out]
 have ch := acc.cellOf CH.out (by simp [hqb])
 go_still_tail 4, (by kernel_rfl)
 change wpList _ _ _ _ _ w0.drew
 replace acc := acc.drew
 replace hb := Blk.drew hb
 clear ch
 generalize w0.drew = wa0 at *
 go_wp2_with fail
 refine (H0.out _ _ acc hb (by have := HRM.out; (try simp only [addL_size, qlaq]); omega)).mono ?_
 rintro e w1 ⟨rfl, r1, hb1⟩
 replace acc := acc.trans r1
 clear hb r1
 rename Wlk w1 b _ false => hb
 go_wp2_with fail
 have ch := acc.cellOf CH.out (by simp [hqb])
 go_still_tail 5, (by kernel_rfl)
 change wpList _ _ _ _ _ w1.drew
 replace acc := acc.drew
 replace hb := Blk.drew hb
 clear ch
 generalize w1.drew = wa1 at *
 go_wp2_with fail
 refine (H1.out _ _ acc hb (by have := HRM.out; (try simp only [addL_size, qlaq]); omega)).mono ?_
 rintro e w2 ⟨rfl, r2, hb2⟩
 replace acc := acc.trans r2
 clear hb r2
 rename Wlk w2 b _ false => hb
 go_wp2_with fail
 have ch := acc.cellOf CH.out (by simp [hqb])
 go_still_tail 6, (by kernel_rfl)
 change wpList _ _ _ _ _ w2.drew
 replace acc := acc.drew
 replace hb := Blk.drew hb
 clear ch
 generalize w2.drew = wa2 at *
 go_wp2_with fail
 refine (H2.out _ _ acc hb (by have := HRM.out; (try simp only [addL_size, qlaq]); omega)).mono ?_
 rintro e w3 ⟨rfl, r3, hb3⟩
 replace acc := acc.trans r3
 clear hb r3
 rename Wlk w3 b _ false => hb
 go_wp2_with fail
 have ch := acc.cellOf CH.out (by simp [hqb])
 go_still_tail 5, (by kernel_rfl)
 change wpList _ _ _ _ _ w3.drew
 replace acc := acc.drew
 replace hb := Blk.drew hb
 clear ch
 generalize w3.drew = wa3 at *
 go_wp2_with fail
 refine (H3.out _ _ acc hb (by have := HRM.out; (try simp only [addL_size, qlaq]); omega)).mono ?_
 rintro e w4 ⟨rfl, r4, hb4⟩
 replace acc := acc.trans r4
 clear hb r4
 rename Wlk w4 b _ false => hb
 go_wp2_with fail
 refine bodyPost_end (results_none Tryz.results29 _ _ _) rfl ?_
 refine ⟨rfl, RA.out.nil.trans acc, ?_⟩
 have e : faceL f = textL f.module ++ ((numL f.uses.length 2 ++ f.uses.flatMap useL) ++ ((numL f.types.length 2 ++ f.types.flatMap tyL) ++ ((numL f.items.length 2 ++ f.items.flatMap itmL)))) := EQ.out
 rw [e]
 simp only [addL_add, qapq] at hb ⊢
 exact hb
def EncodeR (f : FaceD) (w : World) (e : Ending) (w' : World) : Prop := e = .returned (.tuple #[.string ⟨(encFaceP f).1.toArray⟩, .int .i64 (encFaceP f).2]) ∧ Wr [] w w'
theorem encode_any (f : FaceD) (vu vt vi : Value) (P : Nat → Prop) (hW : faceW f) (w : World) (h : FaceL w P vu vt vi f) :
  Calls Tryz.prog 19 #[.agg #[.string f.module, vu, vt, vi]] w (EncodeR f w) := by
 obtain ⟨⟨A1, k1, rfl, hn1, hn2⟩, ⟨A2, k2, rfl, hf1, hf2⟩, ⟨A3, k3, rfl, ha1, ha2⟩⟩ := h.forms
 unfold maxLen at hn2 hf2 ha2
 have h1 := fun W (hW : Wr [] w W) => may_any f _ _ _ P W (h.wr0 hW)
 obtain ⟨w0, hw0⟩ : ∃ w0, w.alloc (.cells #[.string f.module, .slice A1 f.uses.length k1, .slice A2 f.types.length k2, .slice A3 f.items.length k3] 35) = w0 := ⟨_, rfl⟩
 obtain ⟨g, hg⟩ : ∃ g, w.heap.size = g := ⟨_, rfl⟩
 have acc : Wr [] w w0 := by rw [← hw0]; exact (Wr.refl _ _).alloc _
 have bA : Blk w0 g 35 #[.string f.module, .slice A1 f.uses.length k1, .slice A2 f.types.length k2, .slice A3 f.items.length k3] := by rw [← hw0, ← hg]; exact Blk.new _ _ _
 have Hw0 := qh hw0
 have Hg := qh hg
 have HL := qh h
 have H1 := qh h1
 obtain ⟨mv, hmv⟩ : ∃ mv, mayP f = mv := ⟨_, rfl⟩
 rw [hmv] at h1
 by_cases hz : mv = 0
 ·have hm0 : mayP f = 0 := by rw [hmv, hz]
  obtain ⟨p1, _, _, p4⟩ := face_parts hm0
  have h2 := fun W (hW : Wr [] w W) => clone_any f _ _ _ P W (h.wr0 hW) p1
  have h3 := fun b g vu vt vi W hb hgb hc hl => iface_w b g f vu vt vi hW p1 p4 ⟨#[]⟩ W hb hgb hc hl (by have := face_room p1; unfold maxLen; show 0 + _ ≤ _; omega)
  have hres : encFaceP f = (faceL f, 0) := by unfold encFaceP; rw [if_pos hm0]
  rw [hz] at h1
  replace H1 := qh h1
  have H2 := qh h2
  have H3 := qh h3
  have HRES := qh hres
  clear hw0 hg h h1 h2 h3 hz hmv hm0 p1 p4 hres
  go_enter Tryz.func19, Tryz.ntmps19
  go_upto_region 1 with (fail)
  rw [Hw0.out, Hg.out]
  have c0 := bA.cell 0
  have c1 := bA.cell 1
  have c2 := bA.cell 2
  have c3 := bA.cell 3
  simp only [qgaq, qgzq, qgsq] at c0 c1 c2 c3
  have cz0 := bA.frozen 0
  have cz1 := bA.frozen 1
  have cz2 := bA.frozen 2
  have cz3 := bA.frozen 3
  go_wp2_with fail
  refine (H1.out _ acc).mono ?_
  rintro e w1 ⟨rfl, r1⟩
  replace acc := acc.trans r1
  replace bA := bA.wr0 r1
  clear c0 c1 c2 c3 cz0 cz1 cz2 cz3
  have c0 := bA.cell 0
  have c1 := bA.cell 1
  have c2 := bA.cell 2
  have c3 := bA.cell 3
  simp only [qgaq, qgzq, qgsq] at c0 c1 c2 c3
  have cz0 := bA.frozen 0
  have cz1 := bA.frozen 1
  have cz2 := bA.frozen 2
  have cz3 := bA.frozen 3
  go_upto_region 5 with (fail)
  obtain ⟨wp, hwp⟩ : ∃ wp, w1.alloc (.cells #[.string ⟨#[]⟩, .bool false, .bool false] 93) = wp := ⟨_, rfl⟩
  obtain ⟨b, hb⟩ : ∃ b, w1.heap.size = b := ⟨_, rfl⟩
  have bW : Wlk wp b ⟨#[]⟩ false := by rw [← hwp, ← hb]; exact Blk.new _ _ _
  have hgb : g < b := by have := bA.lt; omega
  replace acc : Wr [] w wp := by rw [← hwp]; exact acc.alloc _
  replace bA : Blk wp g 35 #[.string f.module, .slice A1 f.uses.length k1, .slice A2 f.types.length k2, .slice A3 f.items.length k3] := by rw [← hwp]; exact bA.alloc _
  have hwb : w.heap.size ≤ b := by have := Hg.out; omega
  have hbp : b < wp.heap.size := bW.lt
  have Hwp := qh hwp
  have Hb := qh hb
  clear hwp hb r1
  clear c0 c1 c2 c3 cz0 cz1 cz2 cz3
  rw [Hwp.out, Hb.out]
  have c0 := bA.cell 0
  have c1 := bA.cell 1
  have c2 := bA.cell 2
  have c3 := bA.cell 3
  simp only [qgaq, qgzq, qgsq] at c0 c1 c2 c3
  have cz0 := bA.frozen 0
  have cz1 := bA.frozen 1
  have cz2 := bA.frozen 2
  have cz3 := bA.frozen 3
  go_wp2_with fail
  refine (H2.out _ acc).mono ?_
  rintro e w2 ⟨vu, vt, vi, S, lab, xs, he, k2, hS1, hS2, ou, ot, oi, nu, nt, ni, hty, hone⟩
  unfold FaceD.val at he
  subst he
  have hfw : FaceW w2 b vu vt vi f := by
   refine ⟨RowW.ofOwn ou (fun e => by have := (ou.lt b e).1; omega), ⟨xs, RowW.ofOwn ot (fun e => by have := (ot.lt b e).1; omega), fun i t ht => ?_⟩, RowW.ofOwn oi (fun e => by have := (oi.lt b e).1; omega)⟩
   obtain ⟨vn, vf, va, vp, e, o⟩ := hty i t (List.getElem?_eq_some_iff.1 ht).1 ht
   exact ⟨vn, vf, va, vp, e, o.lw (by omega)⟩
  have hfw4 : ∀ r4w, Wr [g] w2 r4w → FaceW r4w b vu vt vi f := fun W r4 => by
   have keepO : ∀ {T z n v xs}, w2.ownsRow wp.heap.size T z v n xs → W.ownsRow wp.heap.size T z v n xs := fun o => own_keep o r4 (fun a ha hm => by have := (o.lt a ha).1; have := bA.lt; simp at hm; omega)
   have ou' := keepO ou
   have ot' := keepO ot
   have oi' := keepO oi
   refine ⟨RowW.ofOwn ou' (fun e => by have := (ou'.lt b e).1; omega), ⟨xs, RowW.ofOwn ot' (fun e => by have := (ot'.lt b e).1; omega), fun i t ht => ?_⟩, RowW.ofOwn oi' (fun e => by have := (oi'.lt b e).1; omega)⟩
   obtain ⟨vn, vf, va, vp, e, o⟩ := hty i t (List.getElem?_eq_some_iff.1 ht).1 ht
   exact ⟨vn, vf, va, vp, e, (o.keep r4 (fun x hx hs => by have := bA.lt; simp at hx; omega)).lw (by omega)⟩
  obtain ⟨B0, b0, rfl, q1, q2⟩ := own_form (show w2.ownsRow _ 45 2 vu _ _ from ou)
  obtain ⟨B1, b1, rfl, q3, q4⟩ := own_form (show w2.ownsRow _ 52 12 vt _ _ from ot)
  obtain ⟨B2, b2, rfl, q5, q6⟩ := own_form (show w2.ownsRow _ 59 5 vi _ _ from oi)
  have HFW := qh hfw4
  replace acc := acc.trans k2
  replace bA := bA.wr0 k2
  replace bW : Wlk w2 b ⟨#[]⟩ false := Blk.wr0 bW k2
  clear hfw hfw4 ou ot oi nu nt ni hty hone hS1 hS2 k2 q2 q4 q6
  clear c0 c1 c2 c3 cz0 cz1 cz2 cz3
  have c0 := bA.cell 0
  have c1 := bA.cell 1
  have c2 := bA.cell 2
  have c3 := bA.cell 3
  simp only [qgaq, qgzq, qgsq] at c0 c1 c2 c3
  have cz0 := bA.frozen 0
  have cz1 := bA.frozen 1
  have cz2 := bA.frozen 2
  have cz3 := bA.frozen 3
  go_upto_region 6 with (fail)
  have r4 := wr4 w2 g (.string f.module) (.slice B0 f.uses.length b0) (.slice B1 f.types.length b1) (.slice B2 f.items.length b2)
  have hfw := HFW.out _ r4
  replace acc := acc.new r4 (by have := Hg.out; omega)
  replace bA := blk4 w2 g 35 _ _ _ _ (.string f.module) (.slice B0 f.uses.length b0) (.slice B1 f.types.length b1) (.slice B2 f.items.length b2) bA
  replace bW : Wlk _ b ⟨#[]⟩ false := Blk.wr bW r4 (by simp; omega)
  clear r4 HFW
  clear c0 c1 c2 c3 cz0 cz1 cz2 cz3
  generalize ((((w2.setCell ⟨g, 0, none⟩ (.string f.module)).setCell ⟨g, 1, none⟩ (.slice B0 f.uses.length b0)).setCell ⟨g, 2, none⟩ (.slice B1 f.types.length b1)).setCell ⟨g, 3, none⟩ (.slice B2 f.items.length b2)) = w3 at *
  have h4 := H3.out b g _ _ _ w3 bW (by omega) (fun j u hu => by rw [bA.cell, qgaq]; exact hu) hfw
  have H4 := qh h4
  clear h4 hfw
  go_wp2_with fail
  refine H4.out.mono ?_
  rintro e w4 ⟨rfl, k4, bW4⟩
  replace acc := acc.new k4 hwb
  have c0 := Blk.cell bW4 0
  simp only [qgaq, qgzq] at c0
  go_wp2_with fail
  go_ret2
  refine ⟨?_, acc⟩
  rw [HRES.out]
  unfold addL
  simp
 ·have hres : encFaceP f = ([], mv) := by unfold encFaceP; rw [if_neg (by rw [hmv]; exact hz), hmv]
  have he : mv ≠ 0 := hz
  replace H1 := qh h1
  have HRES := qh hres
  clear hw0 hg h h1 hz hmv hres
  go_enter Tryz.func19, Tryz.ntmps19
  go_upto_region 1 with (fail)
  rw [Hw0.out, Hg.out]
  have c0 := bA.cell 0
  have c1 := bA.cell 1
  have c2 := bA.cell 2
  have c3 := bA.cell 3
  simp only [qgaq, qgzq, qgsq] at c0 c1 c2 c3
  have cz0 := bA.frozen 0
  have cz1 := bA.frozen 1
  have cz2 := bA.frozen 2
  have cz3 := bA.frozen 3
  go_wp2_with fail
  refine (H1.out _ acc).mono ?_
  rintro e w1 ⟨rfl, r1⟩
  go_wp2_with fail
  go_ret2
  refine ⟨?_, acc.trans r1⟩
  rw [HRES.out]
  rfl
end Go.Proofs.YtjanbpchedgoiaaGreat
