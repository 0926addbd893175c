/- iface's walk, reading: an interface; Decode: walked. No conditions. -/
import Derived.Test.YtmpbkfbjmmoapaaIL23
import Derived.Test.YtmpbkfbjmmoapaaIL28
import Derived.Test.YtmpbkfbjmmoapaaIL21
import Derived.Laws.Bits64b
namespace Go.Proofs.Ytmpbkfbjmmoapaa
open Go.RowKit
set_option linter.unusedVariables false
set_option linter.unusedSimpArgs false
set_option maxRecDepth 100000 in
set_option maxHeartbeats 8000000 in
theorem iface_r (b g : Nat) (r : Rd) (w : World) (hb : WlkR w b r) (hg : g ≠ b) (hx : Blk w g 31 #[.string ⟨#[]⟩, .slice none 0 0, .slice none 0 0, .slice none 0 0]) :
    Calls Try.prog 19 #[.pointer (some ⟨b, 0, none⟩), .pointer (some ⟨g, 0, none⟩)] w fun e w' => e = .returned (.tuple #[]) ∧ Wr [b, g] w w' ∧ WlkR w' b (Rd.face r).2 ∧ ∃ A1 c1 A2 c2 A3 c3, Blk w' g 31 #[.string (Rd.face r).1.module, .slice A1 (Rd.face r).1.uses.length c1, .slice A2 (Rd.face r).1.types.length c2, .slice A3 (Rd.face r).1.items.length c3] ∧
      FaceL w' (fun bl => w.heap.size ≤ bl) (.slice A1 (Rd.face r).1.uses.length c1) (.slice A2 (Rd.face r).1.types.length c2) (.slice A3 (Rd.face r).1.items.length c3) (Rd.face r).1 := by
  have hmf : ∀ (fn : Fn) (first cap : Array Value) (w : World), (Instr.makeFunc fn first cap).run Try.prog w = .ok (.func fn first cap) w := fun _ _ _ _ => rfl
  have hbl := Blk.lt hb
  have hgl := hx.lt
  unfold Rd.face
  obtain ⟨p0, hp0⟩ : ∃ p, Rd.text r = p := ⟨_, rfl⟩
  obtain ⟨v0, r0⟩ := p0
  obtain ⟨p1, hp1⟩ : ∃ p, r0.lst Rd.use = p := ⟨_, rfl⟩
  obtain ⟨v1, r1⟩ := p1
  obtain ⟨p2, hp2⟩ : ∃ p, r1.lst Rd.ty = p := ⟨_, rfl⟩
  obtain ⟨v2, r2⟩ := p2
  obtain ⟨p3, hp3⟩ : ∃ p, r2.lst Rd.itm = p := ⟨_, rfl⟩
  obtain ⟨v3, r3⟩ := p3
  simp only [hp0, hp1, hp2, hp3]
  obtain ⟨w0, hw0⟩ : ∃ w0, w.alloc (.cells #[.pointer (some ⟨b, 0, none⟩)] 65) = w0 := ⟨_, rfl⟩
  obtain ⟨q, hqe⟩ : ∃ q, w.heap.size = q := ⟨_, rfl⟩
  have hq0 : w0.cell? ⟨q, 0, none⟩ = some (.pointer (some ⟨b, 0, none⟩)) := by
    rw [← hw0, ← hqe]
    exact (Blk.new w 65 #[.pointer (some ⟨b, 0, none⟩)]).cell 0
  have hql : q < w0.heap.size := by
    rw [← hw0, ← hqe]
    exact (Blk.new w 65 #[.pointer (some ⟨b, 0, none⟩)]).lt
  have hqb : q ≠ b := by omega
  have hqg : q ≠ g := by omega
  have ra : Wr [] w w0 := by rw [← hw0]; exact (Wr.refl _ _).alloc _
  have hs0 := ra.size
  replace hb : WlkR w0 b r := Blk.wr0 hb ra
  replace hx := hx.wr0 ra
  have h0 := fun W (hb' : WlkR W b r) (acc' : Wr [b, g] w0 W) (hc : Blk W g 31 #[.string ⟨#[]⟩, .slice none 0 0, .slice none 0 0, .slice none 0 0]) => (text_r b g 0 r W hb' hg ⟨#[]⟩ (hc.cell 0) (hc.frozen 0))
  rw [hp0] at h0
  have H0 := Lib.hid h0
  have h1 := fun W (hb' : WlkR W b r0) (acc' : Wr [b, g] w0 W) (hc : Blk W g 31 #[(.string v0), .slice none 0 0, .slice none 0 0, .slice none 0 0]) => (lr_Use b q g 1 31 _ none 0 0 r0 W hb' hg hc rfl (fun W' r' gx rW hb'' hgx hx => use_r b q gx r' W' hb'' ((acc'.trans rW).cellOf hq0 (by simp [hqb, hqg])) hqb (by have := acc'.size; omega) (by have := Blk.lt hb'; omega) hx))
  rw [hp1] at h1
  have H1 := Lib.hid h1
  have h2 := fun (A1 : Option Addr) (c1 : Nat) W (hb' : WlkR W b r1) (acc' : Wr [b, g] w0 W) (hc : Blk W g 31 #[(.string v0), (.slice A1 v1.length c1), .slice none 0 0, .slice none 0 0]) => (lr_Type b 0 g 2 31 _ none 0 0 r1 W hb' hg hc rfl (fun W' r' gx hb'' hgx hx => typ_r b gx r' W' hb'' hgx hx))
  rw [hp2] at h2
  have H2 := Lib.hid h2
  have h3 := fun (A1 : Option Addr) (c1 : Nat) (A2 : Option Addr) (c2 : Nat) W (hb' : WlkR W b r2) (acc' : Wr [b, g] w0 W) (hc : Blk W g 31 #[(.string v0), (.slice A1 v1.length c1), (.slice A2 v2.length c2), .slice none 0 0]) => (lr_Export b q g 3 31 _ none 0 0 r2 W hb' hg hc rfl (fun W' r' gx rW hb'' hgx hx => itm_r b q gx r' W' hb'' ((acc'.trans rW).cellOf hq0 (by simp [hqb, hqg])) hqb (by have := acc'.size; omega) (by have := Blk.lt hb'; omega) hx))
  rw [hp3] at h3
  have H3 := Lib.hid h3
  have RA := Lib.hid ra
  have CH := Lib.hid hq0
  have HW0 := Lib.hid hw0
  have HQ := Lib.hid hqe
  have acc : Wr [b, g] w0 w0 := Wr.refl _ _
  clear ra hq0 hw0 hqe h0 hp0 h1 hp1 h2 hp2 h3 hp3
  go_enter Try.func19, Try.ntmps19
  go_upto_region 1 with (fail)
  rw [HW0.out, HQ.out]
  have ch := acc.cellOf CH.out (by simp [hqb, hqg])
  go_still_tail 4, (by kernel_rfl)
  change wpList _ _ _ _ _ w0.drew
  replace acc := acc.drew
  replace hb := Blk.drew hb
  replace hx := Blk.drew hx
  clear ch
  generalize w0.drew = wa0 at *
  go_wp2_with fail
  refine (H0.out _ hb acc hx).mono ?_
  rintro e w1 ⟨rfl, k1, hb1, hx1⟩
  replace hx1 := hx1 _ _ hx
  replace acc := acc.trans k1
  simp only [List.setIfInBounds_toArray, List.set_cons_zero, List.set_cons_succ] at hx1
  clear hb hx k1
  rename WlkR w1 b _ => hb
  rename Blk w1 g _ _ => hx
  go_wp2_with fail
  have ch := acc.cellOf CH.out (by simp [hqb, hqg])
  go_still_tail 5, (by kernel_rfl)
  change wpList _ _ _ _ _ w1.drew
  replace acc := acc.drew
  replace hb := Blk.drew hb
  replace hx := Blk.drew hx
  clear ch
  generalize w1.drew = wa1 at *
  go_wp2_with fail
  refine (H1.out _ hb acc hx).mono ?_
  rintro e w2 ⟨rfl, A1, c1, k2, hb2, hx2, sn1⟩
  have sl1 : SlUsesF w2 (fun bl => w.heap.size ≤ bl) (.slice A1 v1.length c1) v1 := (Sl.mono sn1 (fun bl hb => by have := acc.size; omega))
  clear sn1
  replace acc := acc.trans k2
  simp only [List.setIfInBounds_toArray, List.set_cons_zero, List.set_cons_succ] at hx2
  clear hb hx k2
  rename WlkR w2 b _ => hb
  rename Blk w2 g _ _ => hx
  go_wp2_with fail
  have ch := acc.cellOf CH.out (by simp [hqb, hqg])
  go_still_tail 6, (by kernel_rfl)
  change wpList _ _ _ _ _ w2.drew
  replace acc := acc.drew
  replace hb := Blk.drew hb
  replace hx := Blk.drew hx
  replace sl1 := Sl.wr0 sl1 (Wr.refl _ _).drew
  clear ch
  generalize w2.drew = wa2 at *
  go_wp2_with fail
  refine (H2.out _ _ _ hb acc hx).mono ?_
  rintro e w3 ⟨rfl, A2, c2, k3, hb3, hx3, sn2⟩
  replace sl1 := Sl.keep sl1 k3 (fun bl hb hm => by simp only [List.mem_cons, List.not_mem_nil, or_false] at hm; omega)
  have sl2 : SlTys w3 (fun bl => w.heap.size ≤ bl) (.slice A2 v2.length c2) v2 := (SlTys.into (SlRel.tys sn2) (fun bl hb _ => by have := acc.size; omega))
  clear sn2
  replace acc := acc.trans k3
  simp only [List.setIfInBounds_toArray, List.set_cons_zero, List.set_cons_succ] at hx3
  clear hb hx k3
  rename WlkR w3 b _ => hb
  rename Blk w3 g _ _ => hx
  go_wp2_with fail
  have ch := acc.cellOf CH.out (by simp [hqb, hqg])
  go_still_tail 5, (by kernel_rfl)
  change wpList _ _ _ _ _ w3.drew
  replace acc := acc.drew
  replace hb := Blk.drew hb
  replace hx := Blk.drew hx
  replace sl1 := Sl.wr0 sl1 (Wr.refl _ _).drew
  replace sl2 := SlTys.wr0 sl2 (Wr.refl _ _).drew
  clear ch
  generalize w3.drew = wa3 at *
  go_wp2_with fail
  refine (H3.out _ _ _ _ _ hb acc hx).mono ?_
  rintro e w4 ⟨rfl, A3, c3, k4, hb4, hx4, sn3⟩
  replace sl1 := Sl.keep sl1 k4 (fun bl hb hm => by simp only [List.mem_cons, List.not_mem_nil, or_false] at hm; omega)
  replace sl2 := SlTys.keep sl2 k4 (fun bl hb hm => by simp only [List.mem_cons, List.not_mem_nil, or_false] at hm; omega)
  have sl3 : SlItms w4 (fun bl => w.heap.size ≤ bl) (.slice A3 v3.length c3) v3 := (Sl.mono sn3 (fun bl hb => by have := acc.size; omega))
  clear sn3
  replace acc := acc.trans k4
  simp only [List.setIfInBounds_toArray, List.set_cons_zero, List.set_cons_succ] at hx4
  clear hb hx k4
  rename WlkR w4 b _ => hb
  rename Blk w4 g _ _ => hx
  go_wp2_with fail
  refine bodyPost_end (results_none Try.results19 _ _ _) rfl ?_
  exact ⟨rfl, RA.out.nil.trans acc, hb, _, _, _, _, _, _, hx, ⟨sl1, sl2, sl3⟩⟩
/-- What Decode gives back. -/
def DecodeR (s : ByteArray) (w : World) (e : Ending) (w' : World) : Prop :=
  ∃ vu vt vi, e = .returned (.tuple #[(decFaceP s.data.toList).1.val vu vt vi, .int .i64 (decFaceP s.data.toList).2]) ∧ Wr [] w w' ∧ FaceL w' (fun bl => w.heap.size ≤ bl) vu vt vi (decFaceP s.data.toList).1
set_option maxRecDepth 100000 in
set_option maxHeartbeats 8000000 in
theorem decode_any (s : ByteArray) (w : World) : Calls Try.prog 9 #[.string s] w (DecodeR s w) := by
  obtain ⟨w0, hw0⟩ : ∃ w0, ((w.alloc (.cells #[.string ⟨#[]⟩, .slice none 0 0, .slice none 0 0, .slice none 0 0] 31)).alloc (.cells #[.string s, .bool true, .bool false] 67)).alloc (.cells #[.string ⟨#[]⟩, .slice none 0 0, .slice none 0 0, .slice none 0 0] 31) = w0 := ⟨_, rfl⟩
  obtain ⟨g, hg⟩ : ∃ g, w.heap.size = g := ⟨_, rfl⟩
  have acc : Wr [] w w0 := by rw [← hw0]; exact (((Wr.refl _ _).alloc _).alloc _).alloc _
  have bR : Blk w0 g 31 #[.string ⟨#[]⟩, .slice none 0 0, .slice none 0 0, .slice none 0 0] := by rw [← hw0, ← hg]; exact ((Blk.new _ _ _).alloc _).alloc _
  have bW : WlkR w0 (g + 1) ⟨s.data.toList, false⟩ := by
    have hb := (Blk.new (w.alloc (.cells #[.string ⟨#[]⟩, .slice none 0 0, .slice none 0 0, .slice none 0 0] 31)) 67 #[.string s, .bool true, .bool false]).alloc (.cells #[.string ⟨#[]⟩, .slice none 0 0, .slice none 0 0, .slice none 0 0] 31)
    rw [show (w.alloc (.cells #[.string ⟨#[]⟩, .slice none 0 0, .slice none 0 0, .slice none 0 0] 31)).heap.size = g + 1 by simp [hg], hw0] at hb
    show Blk w0 (g + 1) _ #[.string ⟨s.data.toList.toArray⟩, .bool true, .bool false]
    rw [Array.toArray_toList]
    exact hb
  have bI : Blk w0 (g + 2) 31 #[.string ⟨#[]⟩, .slice none 0 0, .slice none 0 0, .slice none 0 0] := by
    have hb := Blk.new ((w.alloc (.cells #[.string ⟨#[]⟩, .slice none 0 0, .slice none 0 0, .slice none 0 0] 31)).alloc (.cells #[.string s, .bool true, .bool false] 67)) 31 #[.string ⟨#[]⟩, .slice none 0 0, .slice none 0 0, .slice none 0 0]
    rw [show ((w.alloc (.cells #[.string ⟨#[]⟩, .slice none 0 0, .slice none 0 0, .slice none 0 0] 31)).alloc (.cells #[.string s, .bool true, .bool false] 67)).heap.size = g + 2 by simp [hg], hw0] at hb
    exact hb
  have hcall := iface_r (g + 1) (g + 2) _ w0 bW (by omega) bI
  unfold DecodeR
  obtain ⟨F, hF⟩ : ∃ F, Rd.face ⟨s.data.toList, false⟩ = F := ⟨_, rfl⟩
  obtain ⟨f, l, bad⟩ := F
  have hdec : decFaceP s.data.toList = if bad || !l.isEmpty || !decide (mayP f = 0) then (noFace, 7) else (f, 0) := by unfold decFaceP; rw [hF]
  rw [hF] at hcall
  obtain ⟨D, hD⟩ : ∃ D, decFaceP s.data.toList = D := ⟨_, rfl⟩
  rw [hD] at hdec ⊢
  have hgw : g < w0.heap.size := bR.lt
  have HW0 := Lib.hid hw0
  have HG := Lib.hid hg
  have HC := Lib.hid hcall
  have HDEC := Lib.hid hdec
  have BR0 := Lib.hid bR
  have ACC0 := Lib.hid acc
  clear hw0 hg hcall hdec bR acc hF hD bW bI
  go_enter Try.func9, Try.ntmps9
  go_upto_region 3 with (fail)
  rw [HW0.out, HG.out]
  go_wp2_with fail
  refine HC.out.mono ?_
  rintro e w3 ⟨rfl, k3, b3, A1, c1, A2, c2, A3, c3, x3, fl⟩
  have bW3 := b3
  have d0 := Blk.cell b3 0
  have d2 := Blk.cell b3 2
  have i0 := x3.cell 0
  have i1 := x3.cell 1
  have i2 := x3.cell 2
  have i3 := x3.cell 3
  simp only [List.getElem?_toArray, List.getElem?_cons_zero, List.getElem?_cons_succ] at d0 d2 i0 i1 i2 i3
  have BR := Lib.hid (BR0.out.wr k3 (by simp))
  have ACC := Lib.hid (ACC0.out.trans' k3 (fun q hq => .inr (by have := HG.out; simp only [List.mem_cons, List.not_mem_nil, or_false] at hq; omega)))
  have hmay := may_any f _ _ _ _ w3 fl
  have s0 := BR.out.cell 0
  have s1 := BR.out.cell 1
  have s2 := BR.out.cell 2
  have s3 := BR.out.cell 3
  simp only [List.getElem?_toArray, List.getElem?_cons_zero, List.getElem?_cons_succ] at s0 s1 s2 s3
  have dz0 := BR.out.frozen 0
  have dz1 := BR.out.frozen 1
  have dz2 := BR.out.frozen 2
  have dz3 := BR.out.frozen 3
  have HM := Lib.hid hmay
  have FL := Lib.hid fl
  have X3 := Lib.hid x3
  clear k3 b3 x3 fl hmay bW3
  cases bad with
  | true =>
    have hres : D = (noFace, 7) := by rw [HDEC.out]; rfl
    have HRES := Lib.hid hres
    clear hres
    have r4 := wr4 w3 g (.string ⟨#[]⟩) (.slice none 0 0) (.slice none 0 0) (.slice none 0 0)
    have b4 := blk4 w3 g 31 _ _ _ _ (.string ⟨#[]⟩) (.slice none 0 0) (.slice none 0 0) (.slice none 0 0) BR.out
    have R4 := Lib.hid (ACC.out.new r4 (by have := HG.out; omega))
    have B4 := Lib.hid b4
    clear r4 b4
    go_wp2_with fail
    refine bodyPost_ret (v := .tuple #[noFace.val (.slice none 0 0) (.slice none 0 0) (.slice none 0 0), .int .i64 7]) ?_ rfl ⟨_, _, _, by rw [HRES.out], R4.out, by rw [HRES.out]; exact noFace_l _ _⟩
    have t0 := B4.out.cell 0
    have t1 := B4.out.cell 1
    have t2 := B4.out.cell 2
    have t3 := B4.out.cell 3
    simp only [List.getElem?_toArray, List.getElem?_cons_zero, List.getElem?_cons_succ] at t0 t1 t2 t3
    simp [results, Try.results9, go_sem, t0, t1, t2, t3, FaceD.val, noFace]
  | false =>
    obtain ⟨S, hS⟩ : ∃ S : ByteArray, ⟨l.toArray⟩ = S := ⟨_, rfl⟩
    rw [hS] at d0
    by_cases hl : l = []
    · subst hl
      obtain rfl : S = ⟨#[]⟩ := hS.symm
      go_wp2_with fail
      refine HM.out.mono ?_
      rintro e w4 ⟨rfl, r4⟩
      have BR4 := Lib.hid (BR.out.wr0 r4)
      have ACC4 := Lib.hid (ACC.out.trans r4)
      have X4 := Lib.hid (X3.out.wr0 r4)
      have FL4 := Lib.hid (FL.out.wr0 r4)
      clear d0 d2 s0 s1 s2 s3 dz0 dz1 dz2 dz3 i0 i1 i2 i3 r4
      have s0 := BR4.out.cell 0
      have s1 := BR4.out.cell 1
      have s2 := BR4.out.cell 2
      have s3 := BR4.out.cell 3
      have i0 := X4.out.cell 0
      have i1 := X4.out.cell 1
      have i2 := X4.out.cell 2
      have i3 := X4.out.cell 3
      simp only [List.getElem?_toArray, List.getElem?_cons_zero, List.getElem?_cons_succ] at s0 s1 s2 s3 i0 i1 i2 i3
      have dz0 := BR4.out.frozen 0
      have dz1 := BR4.out.frozen 1
      have dz2 := BR4.out.frozen 2
      have dz3 := BR4.out.frozen 3
      obtain ⟨m, hm⟩ : ∃ m, mayP f = m := ⟨_, rfl⟩
      rw [hm] at HDEC ⊢
      by_cases hz : m = 0
      · subst hz
        have hres : D = (f, 0) := by rw [HDEC.out]; rfl
        have HRES := Lib.hid hres
        clear hres
        have r5 := wr4 w4 g (.string f.module) (.slice A1 f.uses.length c1) (.slice A2 f.types.length c2) (.slice A3 f.items.length c3)
        have b5 := blk4 w4 g 31 _ _ _ _ (.string f.module) (.slice A1 f.uses.length c1) (.slice A2 f.types.length c2) (.slice A3 f.items.length c3) BR4.out
        have R5 := Lib.hid (ACC4.out.new r5 (by have := HG.out; omega))
        have fl5 := (FL4.out.keep r5 (fun b hb hm => by rw [List.mem_singleton] at hm; omega)).into (Q := fun b => w.heap.size ≤ b) (fun b hb _ => by have := ACC0.out.size; omega)
        have FL5 := Lib.hid fl5
        have B5 := Lib.hid b5
        clear r5 b5 fl5
        go_wp2_with fail
        refine bodyPost_ret (v := .tuple #[f.val (.slice A1 f.uses.length c1) (.slice A2 f.types.length c2) (.slice A3 f.items.length c3), .int .i64 0]) ?_ rfl ⟨_, _, _, by rw [HRES.out], R5.out, by rw [HRES.out]; exact FL5.out⟩
        have t0 := B5.out.cell 0
        have t1 := B5.out.cell 1
        have t2 := B5.out.cell 2
        have t3 := B5.out.cell 3
        simp only [List.getElem?_toArray, List.getElem?_cons_zero, List.getElem?_cons_succ] at t0 t1 t2 t3
        simp [results, Try.results9, go_sem, t0, t1, t2, t3, FaceD.val]
      · have hres : D = (noFace, 7) := by
          rw [HDEC.out, show decide (m = 0) = false from decide_eq_false hz]
          rfl
        have HRES := Lib.hid hres
        have hz2 : (m == 0) = false := by simpa using hz
        clear hres
        have r4 := wr4 w4 g (.string ⟨#[]⟩) (.slice none 0 0) (.slice none 0 0) (.slice none 0 0)
        have b4 := blk4 w4 g 31 _ _ _ _ (.string ⟨#[]⟩) (.slice none 0 0) (.slice none 0 0) (.slice none 0 0) BR4.out
        have R4 := Lib.hid (ACC4.out.new r4 (by have := HG.out; omega))
        have B4 := Lib.hid b4
        clear r4 b4
        go_wp2_with fail
        refine bodyPost_ret (v := .tuple #[noFace.val (.slice none 0 0) (.slice none 0 0) (.slice none 0 0), .int .i64 7]) ?_ rfl ⟨_, _, _, by rw [HRES.out], R4.out, by rw [HRES.out]; exact noFace_l _ _⟩
        have t0 := B4.out.cell 0
        have t1 := B4.out.cell 1
        have t2 := B4.out.cell 2
        have t3 := B4.out.cell 3
        simp only [List.getElem?_toArray, List.getElem?_cons_zero, List.getElem?_cons_succ] at t0 t1 t2 t3
        simp [results, Try.results9, go_sem, t0, t1, t2, t3, FaceD.val, noFace]
    · have hS1 : ¬ S = ⟨#[]⟩ := fun e => hl (by rw [← hS] at e; simpa using congrArg ByteArray.data e)
      have hS2 : S.toList.isEmpty = false := bytes_some S (by
        rw [← hS]
        show 0 < l.toArray.size
        have := List.length_pos_iff.2 hl
        simpa using this)
      have hres : D = (noFace, 7) := by
        rw [HDEC.out]
        cases l with
        | nil => exact absurd rfl hl
        | cons x l => rfl
      have HRES := Lib.hid hres
      clear hres
      have r4 := wr4 w3 g (.string ⟨#[]⟩) (.slice none 0 0) (.slice none 0 0) (.slice none 0 0)
      have b4 := blk4 w3 g 31 _ _ _ _ (.string ⟨#[]⟩) (.slice none 0 0) (.slice none 0 0) (.slice none 0 0) BR.out
      have R4 := Lib.hid (ACC.out.new r4 (by have := HG.out; omega))
      have B4 := Lib.hid b4
      clear r4 b4
      go_wp2_with fail
      refine bodyPost_ret (v := .tuple #[noFace.val (.slice none 0 0) (.slice none 0 0) (.slice none 0 0), .int .i64 7]) ?_ rfl ⟨_, _, _, by rw [HRES.out], R4.out, by rw [HRES.out]; exact noFace_l _ _⟩
      have t0 := B4.out.cell 0
      have t1 := B4.out.cell 1
      have t2 := B4.out.cell 2
      have t3 := B4.out.cell 3
      simp only [List.getElem?_toArray, List.getElem?_cons_zero, List.getElem?_cons_succ] at t0 t1 t2 t3
      simp [results, Try.results9, go_sem, t0, t1, t2, t3, FaceD.val, noFace]
end Go.Proofs.Ytmpbkfbjmmoapaa

/- iface's walk, writing: numbers, bytes, truths: walked. Conditions: each is within its kind, there is room. -/
namespace Go.Proofs.Ytmpbkfbjmmoapaa
open Go.RowKit
set_option linter.unusedVariables false
set_option linter.unusedSimpArgs false
def nat4 (n : Int) : Nat := (n % 4294967296).toNat
theorem nat4_lt (n : Int) : nat4 n < 4294967296 := by unfold nat4; omega
theorem u64_wrap (n : Int) : IntKind.u64.wrap n = (((n % 18446744073709551616).toNat : Nat) : Int) := by rw [IntKind.wrap_u64]; omega
theorem and4 (n : Int) : bits .and .u64 (IntKind.u64.wrap n) 4294967295 = ((nat4 n : Nat) : Int) := by
  rw [u64_wrap]
  have h := bits_and_u64_nat (n % 18446744073709551616).toNat 4294967295 (by omega) (by omega)
  rw [show ((4294967295 : Nat) : Int) = 4294967295 from rfl] at h
  rw [h, show (4294967295 : Nat) = 2 ^ 32 - 1 from rfl, Nat.and_two_pow_sub_one_eq_mod]
  unfold nat4
  omega
theorem back4 (n : Int) (h : smB n = true) : wrap64 (wrap32 ((nat4 n : Nat) : Int)) = n := by
  have := smB_iff.1 h
  unfold wrap64 wrap32 nat4
  omega
section
variable (b : Nat) (p : Addr) (s : ByteArray) (bad : Bool) (w : World) (hb : Wlk w b s bad) (hp : p.block ≠ b)
include hb
theorem bytes_w (n size : Nat) (hn : n < 2 ^ 64) (hs : size ≤ 8) (hroom : s.size + size ≤ maxLen) :
    Calls Try.prog 47 #[.pointer (some ⟨b, 0, none⟩), .int .u64 (n : Int), .int .i64 (size : Int)] w fun e w' => e = .returned (.int .u64 (n : Int)) ∧ Wr [b] w w' ∧ Wlk w' b (addL s (numL n size)) bad := by
  refine (bytes_any b n size s bad hn hs hroom w hb).mono ?_
  rintro e w' ⟨h1, h2, h3⟩
  rw [bytesN_all] at h3
  exact ⟨h1, h2, h3⟩
include hp
set_option maxHeartbeats 1000000 in
theorem number_w (n : Int) (hn : smB n = true) (hroom : s.size + 4 ≤ maxLen) (ct : Own w p (.int .i64 n)) :
    Calls Try.prog 74 #[.pointer (some ⟨b, 0, none⟩), .pointer (some p)] w (EncQ b s (fourL n) bad w) := by
  have h := bytes_w b s bad w hb (nat4 n) 4 (by have := nat4_lt n; omega) (by omega) hroom
  have e1 := and4 n
  have e2 := back4 n hn
  have c0 := ct.cell
  have H := Lib.hid h
  have CT := Lib.hid ct
  clear h hb ct hn
  go_enter Try.func74, Try.ntmps74
  go_wp2_with fail
  refine H.out.mono ?_
  rintro e w1 ⟨rfl, r1, b1⟩
  have ct1 := CT.out.keep r1 (by simpa using hp)
  have c1 := ct1.cell
  have f1 := ct1.frozen
  clear c0
  go_wp2_with fail
  refine bodyPost_end (results_none Try.results74 _ _ _) rfl ?_
  rw [setCell_self c1]
  exact ⟨rfl, r1, b1⟩
set_option maxHeartbeats 1000000 in
theorem place_w (n : Int) (hn : smB n = true) (hroom : s.size + 4 ≤ maxLen) (ct : Own w p (.int .i64 n)) :
    Calls Try.prog 53 #[.pointer (some ⟨b, 0, none⟩), .pointer (some p)] w (EncQ b s (fourL n) bad w) := by
  have hbl := hb.lt
  have hpl := ct.lt
  have nb := Blk.new w 2 #[.int .i64 n]
  have ra : Wr [] w (w.alloc (.cells #[.int .i64 n] 2)) := (Wr.refl _ _).alloc _
  have on : Own (w.alloc (.cells #[.int .i64 n] 2)) ⟨w.heap.size, 0, none⟩ (.int .i64 n) := ⟨nb.cell 0, nb.frozen 0⟩
  have h := number_w b ⟨w.heap.size, 0, none⟩ s bad _ (hb.alloc (.cells #[.int .i64 n] 2)) (by show w.heap.size ≠ b; omega) n hn hroom on
  have c0 := ct.cell
  have e64 : wrap64 n = n := by have := smB_iff.1 hn; unfold wrap64; omega
  have H := Lib.hid h
  have CT := Lib.hid ct
  have ON := Lib.hid on
  have RA := Lib.hid ra
  clear h hb ct hn on nb ra
  go_enter Try.func53, Try.ntmps53
  go_wp2_with fail
  refine H.out.mono ?_
  rintro e w1 ⟨rfl, r1, b1⟩
  have r2 : Wr [b] w w1 := RA.out.nil.trans r1
  have ct1 := CT.out.keep r2 (by simpa using hp)
  have cn := (ON.out.keep r1 (by simp; omega)).cell
  have c1 := ct1.cell
  have f1 := ct1.frozen
  clear c0
  go_wp2_with fail
  refine bodyPost_end (results_none Try.results53 _ _ _) rfl ?_
  rw [setCell_self c1]
  exact ⟨rfl, r2, b1⟩
set_option maxHeartbeats 1000000 in
theorem byte_w (n : Int) (h0 : 0 ≤ n) (h1 : n ≤ 255) (hroom : s.size + 1 ≤ maxLen) (ct : Own w p (.int .u8 n)) :
    Calls Try.prog 52 #[.pointer (some ⟨b, 0, none⟩), .pointer (some p)] w (EncQ b s (numL n.toNat 1) bad w) := by
  obtain ⟨m, rfl⟩ : ∃ m : Nat, n = (m : Int) := ⟨n.toNat, by omega⟩
  have h := bytes_w b s bad w hb m 1 (by omega) (by omega) hroom
  have e1 : IntKind.u64.wrap (m : Int) = (m : Int) := by rw [IntKind.wrap_u64]; omega
  have e2 : IntKind.u8.wrap (m : Int) = (m : Int) := by rw [IntKind.wrap_u8]; omega
  have c0 := ct.cell
  have H := Lib.hid h
  have CT := Lib.hid ct
  clear h hb ct
  go_enter Try.func52, Try.ntmps52
  go_wp2_with fail
  refine H.out.mono ?_
  rintro e w1 ⟨rfl, r1, b1⟩
  have ct1 := CT.out.keep r1 (by simpa using hp)
  have c1 := ct1.cell
  have f1 := ct1.frozen
  clear c0
  go_wp2_with fail
  refine bodyPost_end (results_none Try.results52 _ _ _) rfl ?_
  rw [setCell_self c1, Int.toNat_natCast]
  exact ⟨rfl, r1, b1⟩
end
end Go.Proofs.Ytmpbkfbjmmoapaa
