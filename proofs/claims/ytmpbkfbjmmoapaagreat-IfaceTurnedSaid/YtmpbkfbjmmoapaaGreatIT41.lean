/- law 14's alive: true. No conditions. -/
import Derived.Test.YtmpbkfbjmmoapaaGreatIT01
import Derived.Test.YtmpbkfbjmmoapaaGreatIT37
import Derived.Test.YtmpbkfbjmmoapaaGreatIT40
import Derived.Test.YtmpbkfbjmmoapaaGreatIT35
namespace Go.Proofs.YtmpbkfbjmmoapaaGreat
open Go.RowKit
set_option linter.unusedVariables false
set_option linter.unusedSimpArgs false
theorem may_small : mayP smallF = 0 := by decide +kernel
structure SmallM (w : World) (gt gi : Nat) : Prop where
 t : Blk w gt 50 tyL3.toArray
 i : Blk w gi 60 itL2.toArray
theorem SmallM.wr0 {w w' : World} {gt gi : Nat} (h : SmallM w gt gi) (r : Wr [] w w') : SmallM w' gt gi := ⟨h.t.wr0 r, h.i.wr0 r⟩
theorem small_bare : ∀ t ∈ smallF.types, t.bare := by
 intro t ht
 simp only [smallF, List.mem_cons, List.not_mem_nil, or_false] at ht
 rcases ht with rfl | rfl | rfl <;> exact ⟨rfl, rfl, rfl, rfl⟩
theorem SmallM.face {w : World} {gt gi : Nat} (h : SmallM w gt gi) : FaceL w (fun _ => True) (.slice none 0 0) (.slice (some ⟨gt, 0, none⟩) 3 3) (.slice (some ⟨gi, 0, none⟩) 2 2) smallF :=
 face_at ⟨#[77]⟩ [arrT, subT, recT] [itI, itA] small_bare h.t h.i trivial trivial (by decide) (by decide)
theorem itm_face {w : World} {gt gi : Nat} (x : ItmD) (ht : Blk w gt 50 tyL3.toArray) (hi : Blk w gi 60 ([x, itA].flatMap ItmD.cells).toArray) :
  FaceL w (fun _ => True) (.slice none 0 0) (.slice (some ⟨gt, 0, none⟩) 3 3) (.slice (some ⟨gi, 0, none⟩) 2 2) ⟨⟨#[77]⟩, [], [arrT, subT, recT], [x, itA]⟩ :=
 face_at ⟨#[77]⟩ [arrT, subT, recT] [x, itA] small_bare ht hi trivial trivial (by decide) (by simp [maxLen])
def twoF : FaceD := ⟨⟨#[77]⟩, [], [arrT, subT, recT], [⟨⟨#[97]⟩, 3, 11, 0, .nil⟩, itA]⟩
def badF14 : FaceD := ⟨⟨#[77]⟩, [], [arrT, subT, recT], [⟨⟨#[105]⟩, 3, 13, 0, .nil⟩, itA]⟩
theorem may_two : mayP twoF = 6 := by decide +kernel
theorem may_bad14 : mayP badF14 = 7 := by decide +kernel
theorem small_w : faceW smallF := by
 refine ⟨fun u hu => by simp [smallF] at hu, fun t ht => ?_, fun x hx => ?_, fun x hx => ?_⟩
 ·simp only [smallF, List.mem_cons, List.not_mem_nil, or_false] at ht
  rcases ht with rfl | rfl | rfl <;> exact ⟨by decide, by decide⟩
 ·simp only [smallF, List.mem_cons, List.not_mem_nil, or_false] at hx
  rcases hx with rfl | rfl <;> exact ⟨by decide, by decide⟩
 ·simp only [smallF, List.mem_cons, List.not_mem_nil, or_false] at hx
  rcases hx with rfl | rfl <;> exact trivial
structure CanC (w : World) (b1 o1 b2 o2 : Nat) : Prop where
 c0 : w.cell? ⟨b1, o1, none⟩ = some (.int .u8 9)
 c1 : w.cell? ⟨b1, o1 + 12 + 4, none⟩ = some (.int .i64 10)
 c2 : w.cell? ⟨b2, o2 + 2, none⟩ = some (.int .i64 10)
 c3 : w.cell? ⟨b2, o2 + 5 + 2, none⟩ = some (.int .i64 11)
theorem CanC.wr0 {w w' : World} {b1 o1 b2 o2 : Nat} (h : CanC w b1 o1 b2 o2) (r : Wr [] w w') : CanC w' b1 o1 b2 o2 :=
 ⟨r.cellOf h.c0 (by simp), r.cellOf h.c1 (by simp), r.cellOf h.c2 (by simp), r.cellOf h.c3 (by simp)⟩
theorem canSmall (gt gi : Nat) (w : World) (h : SmallM w gt gi) : Calls Tryz.prog 6 #[.agg #[.string ⟨#[77]⟩, .slice none 0 0, .slice (some ⟨gt, 0, none⟩) 3 3, .slice (some ⟨gi, 0, none⟩) 2 2]] w fun e w' =>
  ∃ A n k b1 o1 k1 b2 o2 k2, e = .returned (.tuple #[.agg #[.string ⟨#[77]⟩, .slice A n k, .slice (some ⟨b1, o1, none⟩) 2 k1, .slice (some ⟨b2, o2, none⟩) 2 k2], .int .i64 0]) ∧ Wr [] w w' ∧ CanC w' b1 o1 b2 o2 := by
 refine (canon_any smallF _ _ _ _ w h.face).mono ?_
 rintro e w' ⟨vu, vt, vi, rfl, r, hl⟩
 have hp : canonP smallF = (canonF smallF, 0) := by unfold canonP; rw [may_small]; rfl
 rw [hp] at hl ⊢
 have n1 : (canonF smallF).types.length = 2 := by decide +kernel
 have n2 : (canonF smallF).items.length = 2 := by decide +kernel
 obtain ⟨A, k, rfl, _, _⟩ := Sl.form hl.uses
 obtain ⟨t0, ht0⟩ : ∃ t, (canonF smallF).types[0]? = some t := ⟨_, List.getElem?_eq_getElem (by rw [n1]; decide)⟩
 obtain ⟨t1, ht1⟩ : ∃ t, (canonF smallF).types[1]? = some t := ⟨_, List.getElem?_eq_getElem (by rw [n1]; decide)⟩
 obtain ⟨x0, hx0⟩ : ∃ t, (canonF smallF).items[0]? = some t := ⟨_, List.getElem?_eq_getElem (by rw [n2]; decide)⟩
 obtain ⟨x1, hx1⟩ : ∃ t, (canonF smallF).items[1]? = some t := ⟨_, List.getElem?_eq_getElem (by rw [n2]; decide)⟩
 have k0 : ((canonF smallF).types[0]?).map Ty.kind = some 9 := by decide +kernel
 have k1 : ((canonF smallF).types[1]?).map Ty.index = some 10 := by decide +kernel
 have k2 : ((canonF smallF).items[0]?).map ItmD.type = some 10 := by decide +kernel
 have k3 : ((canonF smallF).items[1]?).map ItmD.type = some 11 := by decide +kernel
 rw [ht0] at k0
 rw [ht1] at k1
 rw [hx0] at k2
 rw [hx1] at k3
 simp only [Option.map_some, Option.some.injEq] at k0 k1 k2 k3
 obtain ⟨b1, o1, c1, q1, q2, q3, q4, e1, _, hc1, _⟩ := ty_at hl.types ht0
 obtain ⟨b1', o1', c1', q1', q2', q3', q4', e1', _, hc1', _⟩ := ty_at hl.types ht1
 obtain ⟨b2, o2, c2, e2, _, hc2⟩ := itm_at hl.items hx0
 obtain ⟨b2', o2', c2', e2', _, hc2'⟩ := itm_at hl.items hx1
 rw [e1] at e1'
 rw [e2] at e2'
 injection e1' with e1' _ _
 injection e1' with e1'
 injection e1' with ea eb
 subst ea eb
 injection e2' with e2' _ _
 injection e2' with e2'
 injection e2' with ea eb
 subst ea eb
 subst e1 e2
 rw [n1] at hl ⊢
 rw [n2] at hl ⊢
 refine ⟨A, _, k, b1, o1, c1, b2, o2, c2, rfl, r, ?_, ?_, ?_, ?_⟩
 ·have := hc1 0 _ rfl
  rw [k0] at this
  simpa using this
 ·have := hc1' 4 _ rfl
  rw [k1] at this
  simpa using this
 ·have := hc2 2 _ rfl
  rw [k2] at this
  simpa using this
 ·have := hc2' 2 _ rfl
  rw [k3] at this
  simpa using this
def smallS : ByteArray := ⟨(faceL smallF).toArray⟩
theorem enc_small : encFaceP smallF = (faceL smallF, 0) := by unfold encFaceP; rw [may_small]; rfl
theorem encSmall (gt gi : Nat) (w : World) (h : SmallM w gt gi) : Calls Tryz.prog 12 #[.agg #[.string ⟨#[77]⟩, .slice none 0 0, .slice (some ⟨gt, 0, none⟩) 3 3, .slice (some ⟨gi, 0, none⟩) 2 2]] w fun e w' => e = .returned (.tuple #[.string smallS, .int .i64 0]) ∧ Wr [] w w' := by
 have := encode_any smallF _ _ _ _ small_w w h.face
 unfold EncodeR at this
 rw [enc_small] at this
 exact this
theorem dec_small : decFaceP smallS.data.toList = (smallF, 0) := by
 show decFaceP (faceL smallF) = _
 exact dec_enc smallF small_w may_small
theorem decSmall (w : World) : Calls Tryz.prog 13 #[.string smallS] w fun e w' =>
  ∃ A k B kb C kc, e = .returned (.tuple #[.agg #[.string ⟨#[77]⟩, .slice A 0 k, .slice B 3 kb, .slice C 2 kc], .int .i64 0]) ∧ Wr [] w w' ∧ FaceL w' (fun _ => True) (.slice A 0 k) (.slice B 3 kb) (.slice C 2 kc) smallF := by
 refine (decode_any smallS w).mono ?_
 rintro e w' ⟨vu, vt, vi, rfl, r, hl⟩
 rw [dec_small] at hl ⊢
 obtain ⟨A, k, rfl, _, _⟩ := Sl.form hl.uses
 obtain ⟨B, kb, rfl, _, _⟩ := hl.types.form
 obtain ⟨C, kc, rfl, _, _⟩ := Sl.form hl.items
 exact ⟨A, k, B, kb, C, kc, rfl, r, hl.into (fun _ _ _ => trivial)⟩
theorem dec_more : decFaceP (smallS ++ ⟨#[120]⟩).data.toList = (noFace, 7) := by
 have e : (smallS ++ ⟨#[120]⟩).data.toList = faceL smallF ++ [120] := by
  rw [ByteArray.data_append, Array.toList_append]
  rfl
 rw [e]
 unfold decFaceP
 rw [face_app smallF small_w may_small [120]]
 rfl
theorem decMore (w : World) : Calls Tryz.prog 13 #[.string (smallS ++ ⟨#[120]⟩)] w fun e w' =>
  ∃ A k B kb C kc, e = .returned (.tuple #[.agg #[.string ⟨#[]⟩, .slice A 0 k, .slice B 0 kb, .slice C 0 kc], .int .i64 7]) ∧ Wr [] w w' := by
 refine (decode_any _ w).mono ?_
 rintro e w' ⟨vu, vt, vi, rfl, r, hl⟩
 rw [dec_more] at hl ⊢
 obtain ⟨A, k, rfl, _, _⟩ := Sl.form hl.uses
 obtain ⟨B, kb, rfl, _, _⟩ := hl.types.form
 obtain ⟨C, kc, rfl, _, _⟩ := Sl.form hl.items
 exact ⟨A, k, B, kb, C, kc, rfl, r⟩
set_option maxRecDepth 100000 in
set_option maxHeartbeats 8000000 in
theorem alive14 (w : World) : Calls Tryz.prog 5 #[] w (TrueR w) := by
 have HS := Lib.hid small14_any
 have HC := Lib.hid canSmall
 have HE := Lib.hid encSmall
 have HD := Lib.hid decSmall
 have HM := Lib.hid decMore
 have HO := Lib.hid ofSmall
 have hsz : smallS.size ≤ 1000 := by decide +kernel
 generalize smallS = S at *
 go_enter Tryz.func5, Tryz.ntmps5
 go_wp2_with fail
 refine (HS.out _).mono ?_
 rintro e w1 ⟨gt, gi, rfl, r1, _, _, _, bt, bi⟩
 have hm := SmallM.mk bt bi
 have R1 := Lib.hid r1
 have M := Lib.hid hm
 clear r1 hm bt bi
 go_wp2_with fail
 refine (HC.out _ _ _ M.out).mono ?_
 rintro e w2 ⟨A1, n1v, k1v, b1, o1, kb, b2, o2, kc, rfl, r2, hc⟩
 have R2 := Lib.hid (R1.out.trans r2)
 have CC := Lib.hid hc
 clear r2 hc
 go_upto_region 2 with (fail)
 obtain ⟨g1, hg1⟩ : ∃ q, w2.heap.size = q := ⟨_, rfl⟩
 obtain ⟨w3, hw3⟩ : ∃ q, w2.alloc (.cells #[.string ⟨#[77]⟩, .slice A1 n1v k1v, .slice (some ⟨b1, o1, none⟩) 2 kb, .slice (some ⟨b2, o2, none⟩) 2 kc] 33) = q := ⟨_, rfl⟩
 have r3 : Wr [] w2 w3 := by rw [← hw3]; exact (Wr.refl _ _).alloc _
 have x1 : Blk w3 g1 33 #[.string ⟨#[77]⟩, .slice A1 n1v k1v, .slice (some ⟨b1, o1, none⟩) 2 kb, .slice (some ⟨b2, o2, none⟩) 2 kc] := by rw [← hw3, ← hg1]; exact Blk.new _ _ _
 rw [hw3, hg1]
 have R3 := Lib.hid (R2.out.trans r3)
 have C3 := Lib.hid (CC.out.wr0 r3)
 have X1 := Lib.hid x1
 clear r3 x1 hw3 hg1
 -- 2
 go_wp2_with fail
 refine (HS.out _).mono ?_
 rintro e w4 ⟨gt4, gi4, rfl, r4, _, _, _, bt, bi⟩
 have M4 := Lib.hid (SmallM.mk bt bi)
 have R4 := Lib.hid r4
 clear r4 bt bi
 go_wp2_with fail
 refine (HE.out _ _ _ M4.out).mono ?_
 rintro e w5 ⟨rfl, r5⟩
 have R5 := Lib.hid (R4.out.trans r5)
 clear r5
 -- 3
 go_wp2_with fail
 refine (HD.out _).mono ?_
 rintro e w6 ⟨A2, k2v, B2, kb2, C2, kc2, rfl, r6, fl⟩
 have R6 := Lib.hid (R5.out.trans r6)
 have F6 := Lib.hid fl
 clear r6 fl
 go_upto_region 4 with (fail)
 obtain ⟨g2, hg2⟩ : ∃ q, w6.heap.size = q := ⟨_, rfl⟩
 obtain ⟨w7, hw7⟩ : ∃ q, w6.alloc (.cells #[.string ⟨#[77]⟩, .slice A2 0 k2v, .slice B2 3 kb2, .slice C2 2 kc2] 33) = q := ⟨_, rfl⟩
 have r7 : Wr [] w6 w7 := by rw [← hw7]; exact (Wr.refl _ _).alloc _
 have x2 : Blk w7 g2 33 #[.string ⟨#[77]⟩, .slice A2 0 k2v, .slice B2 3 kb2, .slice C2 2 kc2] := by rw [← hw7, ← hg2]; exact Blk.new _ _ _
 rw [hw7, hg2]
 have R7 := Lib.hid (R6.out.trans r7)
 have F7 := Lib.hid (F6.out.wr0 r7)
 have X2 := Lib.hid x2
 clear r7 x2 hw7 hg2
 -- 4
 go_wp2_with fail
 refine (HM.out _).mono ?_
 rintro e w8 ⟨A3, k3v, B3, kb3, C3', kc3, rfl, r8⟩
 have R8 := Lib.hid r8
 clear r8
 go_upto_region 5 with (fail)
 obtain ⟨g3, hg3⟩ : ∃ q, w8.heap.size = q := ⟨_, rfl⟩
 obtain ⟨w9, hw9⟩ : ∃ q, w8.alloc (.cells #[.string ⟨#[]⟩, .slice A3 0 k3v, .slice B3 0 kb3, .slice C3' 0 kc3] 33) = q := ⟨_, rfl⟩
 have r0 : Wr [] w8 w9 := by rw [← hw9]; exact (Wr.refl _ _).alloc _
 have x0 : Blk w9 g3 33 #[.string ⟨#[]⟩, .slice A3 0 k3v, .slice B3 0 kb3, .slice C3' 0 kc3] := by rw [← hw9, ← hg3]; exact Blk.new _ _ _
 rw [hw9, hg3]
 have X3 := Lib.hid x0
 have R9 := Lib.hid (R8.out.trans r0)
 clear r0 x0 hw9 hg3
 -- 5
 go_wp2_with fail
 refine (HS.out _).mono ?_
 rintro e w10 ⟨gt5, gi5, rfl, r10, _, _, _, bt, bi⟩
 have B10 := Lib.hid bi
 have R10 := Lib.hid (R9.out.trans r10)
 clear r10 bt bi
 go_wp2_with fail
 refine (HO.out _ _ _ B10.out).mono ?_
 rintro e w11 ⟨rfl, r11⟩
 have R11 := Lib.hid (R10.out.trans r11)
 clear r11
 go_upto_region 6 with (fail)
 obtain ⟨g4, hg4⟩ : ∃ q, w11.heap.size = q := ⟨_, rfl⟩
 obtain ⟨w12, hw12⟩ : ∃ q, w11.alloc (.cells #[.string ⟨#[97]⟩, .int .u8 3, .int .i64 10, .nilIface, .int .i64 1] 60) = q := ⟨_, rfl⟩
 have r0 : Wr [] w11 w12 := by rw [← hw12]; exact (Wr.refl _ _).alloc _
 have x0 : Blk w12 g4 60 #[.string ⟨#[97]⟩, .int .u8 3, .int .i64 10, .nilIface, .int .i64 1] := by rw [← hw12, ← hg4]; exact Blk.new _ _ _
 rw [hw12, hg4]
 have X4 := Lib.hid x0
 have R12 := Lib.hid (R11.out.trans r0)
 clear r0 x0 hw12 hg4
 -- 6
 go_wp2_with fail
 refine (HS.out _).mono ?_
 rintro e w13 ⟨gt6, gi6, rfl, r13, lt6, li6, ne6, bt6, bi6⟩
 have R13 := Lib.hid r13
 have BT6 := Lib.hid bt6
 have BI6 := Lib.hid bi6
 clear r13 bt6 bi6
 go_upto_region 7 with (fail)
 have lt56 := BI6.out.lt
 obtain ⟨g5, hg5⟩ : ∃ q, w13.heap.size = q := ⟨_, rfl⟩
 obtain ⟨w14, hw14⟩ : ∃ q, w13.alloc (.cells #[.string ⟨#[77]⟩, .slice none 0 0, .slice (some ⟨gt6, 0, none⟩) 3 3, .slice (some ⟨gi6, 0, none⟩) 2 2] 33) = q := ⟨_, rfl⟩
 have r0 : Wr [] w13 w14 := by rw [← hw14]; exact (Wr.refl _ _).alloc _
 have x0 : Blk w14 g5 33 #[.string ⟨#[77]⟩, .slice none 0 0, .slice (some ⟨gt6, 0, none⟩) 3 3, .slice (some ⟨gi6, 0, none⟩) 2 2] := by rw [← hw14, ← hg5]; exact Blk.new _ _ _
 rw [hg5] at lt56
 rw [hw14, hg5]
 have X5 := Lib.hid x0
 have R14 := Lib.hid (R13.out.trans r0)
 have T14 := Lib.hid (BT6.out.wr0 r0)
 have I14 := Lib.hid (BI6.out.wr0 r0)
 clear r0 x0 hw14 hg5
 -- 7
 have c3 := X5.out.cell 3
 have i0 := I14.out.cell 0
 have f0 := I14.out.frozen 0
 simp only [qgaq, qgzq, qgsq] at c3
 have i0' : w14.cell? ⟨gi6, 0, none⟩ = some (.string ⟨#[105]⟩) := i0
 clear i0
 go_upto_region 8 with (fail)
 obtain ⟨w15, hw15⟩ : ∃ q, w14.setCell ⟨gi6, 0, none⟩ (.string ⟨#[97]⟩) = q := ⟨_, rfl⟩
 have r0 : Wr [] w12 w15 := by rw [← hw15]; exact R14.out.setNew li6 _
 have R15 := Lib.hid r0
 have T15 : Blk w15 gt6 50 tyL3.toArray := by rw [← hw15]; exact Blk.far T14.out ne6 _
 have X5b : Blk w15 g5 33 #[.string ⟨#[77]⟩, .slice none 0 0, .slice (some ⟨gt6, 0, none⟩) 3 3, .slice (some ⟨gi6, 0, none⟩) 2 2] := by rw [← hw15]; exact Blk.far X5.out (by show g5 ≠ gi6; omega) _
 have I15 : Blk w15 gi6 60 ([⟨⟨#[97]⟩, 3, 11, 0, .nil⟩, itA].flatMap ItmD.cells).toArray := by rw [← hw15]; exact I14.out.set_ 0 (.string ⟨#[97]⟩)
 rw [hw15]
 have T15 := Lib.hid T15
 have X5b := Lib.hid X5b
 have I15 := Lib.hid I15
 clear hw15 r0 c3 i0' f0
 -- 8
 go_wp2_with fail
 refine (HS.out _).mono ?_
 rintro e w16 ⟨gt8, gi8, rfl, r16, lt8, li8, ne8, bt8, bi8⟩
 have R16 := Lib.hid r16
 have BT8 := Lib.hid bt8
 have BI8 := Lib.hid bi8
 have lt98 := BI8.out.lt
 clear r16 bt8 bi8
 go_upto_region 9 with (fail)
 obtain ⟨g6, hg6⟩ : ∃ q, w16.heap.size = q := ⟨_, rfl⟩
 obtain ⟨w17, hw17⟩ : ∃ q, w16.alloc (.cells #[.string ⟨#[77]⟩, .slice none 0 0, .slice (some ⟨gt8, 0, none⟩) 3 3, .slice (some ⟨gi8, 0, none⟩) 2 2] 33) = q := ⟨_, rfl⟩
 have r0 : Wr [] w16 w17 := by rw [← hw17]; exact (Wr.refl _ _).alloc _
 have x0 : Blk w17 g6 33 #[.string ⟨#[77]⟩, .slice none 0 0, .slice (some ⟨gt8, 0, none⟩) 3 3, .slice (some ⟨gi8, 0, none⟩) 2 2] := by rw [← hw17, ← hg6]; exact Blk.new _ _ _
 rw [hg6] at lt98
 rw [hw17, hg6]
 have X6 := Lib.hid x0
 have R17 := Lib.hid (R16.out.trans r0)
 have T17 := Lib.hid (BT8.out.wr0 r0)
 have I17 := Lib.hid (BI8.out.wr0 r0)
 clear r0 x0 hw17 hg6
 -- 9
 have d3 := X6.out.cell 3
 have i2 := I17.out.cell 2
 have f2 := I17.out.frozen 2
 simp only [qgaq, qgzq, qgsq] at d3
 have i2' : w17.cell? ⟨gi8, 2, none⟩ = some (.int .i64 11) := i2
 clear i2
 obtain ⟨w18, hw18⟩ : ∃ q, w17.setCell ⟨gi8, 2, none⟩ (.int .i64 13) = q := ⟨_, rfl⟩
 have r0 : Wr [] w15 w18 := by rw [← hw18]; exact R17.out.setNew li8 _
 have T18 : Blk w18 gt8 50 tyL3.toArray := by rw [← hw18]; exact Blk.far T17.out ne8 _
 have X6b : Blk w18 g6 33 #[.string ⟨#[77]⟩, .slice none 0 0, .slice (some ⟨gt8, 0, none⟩) 3 3, .slice (some ⟨gi8, 0, none⟩) 2 2] := by rw [← hw18]; exact Blk.far X6.out (by show g6 ≠ gi8; omega) _
 have I18 : Blk w18 gi8 60 ([⟨⟨#[105]⟩, 3, 13, 0, .nil⟩, itA].flatMap ItmD.cells).toArray := by rw [← hw18]; exact I17.out.set_ 2 (.int .i64 13)
 have r7 : Wr [] w7 w18 := (R12.out.trans R15.out).trans r0
 have r12 : Wr [] w12 w18 := R15.out.trans r0
 have r3 : Wr [] w3 w18 := R7.out.trans r7
 have cc := C3.out.wr0 r3
 have k0 := cc.c0
 have k1 := cc.c1
 have k2 := cc.c2
 have k3 := cc.c3
 have xx1 := X1.out.wr0 r3
 have m2 := xx1.cell 2
 have m3 := xx1.cell 3
 have xx2 := X2.out.wr0 r7
 have n0 := xx2.cell 0
 have n1 := xx2.cell 1
 have n2 := xx2.cell 2
 have n3 := xx2.cell 3
 have xx4 := X4.out.wr0 r12
 have q4 := xx4.cell 4
 simp only [qgaq, qgzq, qgsq] at m2 m3 n0 n1 n2 n3 q4
 have F18 := Lib.hid (F7.out.wr0 r7)
 have X518 := Lib.hid (X5b.out.wr0 r0)
 have T1518 := Lib.hid (T15.out.wr0 r0)
 have I1518 := Lib.hid (I15.out.wr0 r0)
 have T18 := Lib.hid T18
 have I18 := Lib.hid I18
 have X618 := Lib.hid X6b
 have R18 := Lib.hid ((R3.out.trans r3))
 clear r0 r7 r12 r3 cc xx1 xx2 xx4
 go_upto_region 10 with (fail)
 try rw [hw18]
 have r0 : Wr [] w18 w18 := Wr.refl _ _
 have Y5 := Lib.hid (fun W (r : Wr [] w18 W) => (may_any twoF _ _ _ _ W (itm_face _ (T1518.out.wr0 r) (I1518.out.wr0 r)) : Calls Tryz.prog 16 #[.agg #[.string ⟨#[77]⟩, .slice none 0 0, .slice (some ⟨gt6, 0, none⟩) 3 3, .slice (some ⟨gi6, 0, none⟩) 2 2]] W _))
 have Y6 := Lib.hid (fun W (r : Wr [] w18 W) => (may_any badF14 _ _ _ _ W (itm_face _ (T18.out.wr0 r) (I18.out.wr0 r)) : Calls Tryz.prog 16 #[.agg #[.string ⟨#[77]⟩, .slice none 0 0, .slice (some ⟨gt8, 0, none⟩) 3 3, .slice (some ⟨gi8, 0, none⟩) 2 2]] W _))
 have Y7 := Lib.hid (fun W gt gi (r : SmallM W gt gi) => (may_any smallF _ _ _ _ W r.face : Calls Tryz.prog 16 #[.agg #[.string ⟨#[77]⟩, .slice none 0 0, .slice (some ⟨gt, 0, none⟩) 3 3, .slice (some ⟨gi, 0, none⟩) 2 2]] W _))
 have Y8 := Lib.hid (fun W (r : Wr [] w18 W) gt gi (r2 : SmallM W gt gi) => (same14_any smallF _ _ _ _ _ _ _ _ W (F18.out.wr0 r) r2.face rfl small_bare (fun x hx => by
  simp only [smallF, List.mem_cons, List.not_mem_nil, or_false] at hx
  rcases hx with rfl | rfl <;> rfl) (by decide) (by decide) : Calls Tryz.prog 15 #[.agg #[.string ⟨#[77]⟩, .slice A2 0 k2v, .slice B2 3 kb2, .slice C2 2 kc2], .agg #[.string ⟨#[77]⟩, .slice none 0 0, .slice (some ⟨gt, 0, none⟩) 3 3, .slice (some ⟨gi, 0, none⟩) 2 2]] W (TrueR W)))
 rw [may_two] at Y5
 rw [may_bad14] at Y6
 rw [may_small] at Y7
 have xx5 := X518.out
 have u0 := xx5.cell 0
 have u1 := xx5.cell 1
 have u2 := xx5.cell 2
 have u3 := xx5.cell 3
 have xx6 := X618.out
 have v0 := xx6.cell 0
 have v1 := xx6.cell 1
 have v2 := xx6.cell 2
 have v3 := xx6.cell 3
 simp only [qgaq, qgzq, qgsq] at u0 u1 u2 u3 v0 v1 v2 v3
 clear xx5 xx6 r0
 have hC : ∀ W, Wr [] w18 W → W.cell? ⟨b1, o1, none⟩ = some (.int .u8 9) ∧ W.cell? ⟨b1, o1 + 12 + 4, none⟩ = some (.int .i64 10) ∧ W.cell? ⟨b2, o2 + 2, none⟩ = some (.int .i64 10) ∧ W.cell? ⟨b2, o2 + 5 + 2, none⟩ = some (.int .i64 11) ∧ W.cell? ⟨g1, 2, none⟩ = some (.slice (some ⟨b1, o1, none⟩) 2 kb) ∧ W.cell? ⟨g1, 3, none⟩ = some (.slice (some ⟨b2, o2, none⟩) 2 kc) ∧ W.cell? ⟨g2, 0, none⟩ = some (.string ⟨#[77]⟩) ∧ W.cell? ⟨g2, 1, none⟩ = some (.slice A2 0 k2v) ∧ W.cell? ⟨g2, 2, none⟩ = some (.slice B2 3 kb2) ∧ W.cell? ⟨g2, 3, none⟩ = some (.slice C2 2 kc2) ∧ W.cell? ⟨g4, 4, none⟩ = some (.int .i64 1) ∧ W.cell? ⟨g5, 0, none⟩ = some (.string ⟨#[77]⟩) ∧ W.cell? ⟨g5, 1, none⟩ = some (.slice none 0 0) ∧ W.cell? ⟨g5, 2, none⟩ = some (.slice (some ⟨gt6, 0, none⟩) 3 3) ∧ W.cell? ⟨g5, 3, none⟩ = some (.slice (some ⟨gi6, 0, none⟩) 2 2) ∧ W.cell? ⟨g6, 0, none⟩ = some (.string ⟨#[77]⟩) ∧ W.cell? ⟨g6, 1, none⟩ = some (.slice none 0 0) ∧ W.cell? ⟨g6, 2, none⟩ = some (.slice (some ⟨gt8, 0, none⟩) 3 3) ∧ W.cell? ⟨g6, 3, none⟩ = some (.slice (some ⟨gi8, 0, none⟩) 2 2) := fun W hW => ⟨hW.cellOf k0 (by simp), hW.cellOf k1 (by simp), hW.cellOf k2 (by simp), hW.cellOf k3 (by simp), hW.cellOf m2 (by simp), hW.cellOf m3 (by simp), hW.cellOf n0 (by simp), hW.cellOf n1 (by simp), hW.cellOf n2 (by simp), hW.cellOf n3 (by simp), hW.cellOf q4 (by simp), hW.cellOf u0 (by simp), hW.cellOf u1 (by simp), hW.cellOf u2 (by simp), hW.cellOf u3 (by simp), hW.cellOf v0 (by simp), hW.cellOf v1 (by simp), hW.cellOf v2 (by simp), hW.cellOf v3 (by simp)⟩
 have HC := Lib.hid hC
 clear hC
 refine wp_region_noPanic ?_
 refine wp_region_L (Until 86 fun w' => w'.cell? ⟨b1, o1, none⟩ = some (.int .u8 9) ∧ w'.cell? ⟨b1, o1 + 12 + 4, none⟩ = some (.int .i64 10) ∧ w'.cell? ⟨b2, o2 + 2, none⟩ = some (.int .i64 10) ∧ w'.cell? ⟨b2, o2 + 5 + 2, none⟩ = some (.int .i64 11) ∧ w'.cell? ⟨g1, 2, none⟩ = some (.slice (some ⟨b1, o1, none⟩) 2 kb) ∧ w'.cell? ⟨g1, 3, none⟩ = some (.slice (some ⟨b2, o2, none⟩) 2 kc) ∧ w'.cell? ⟨g2, 0, none⟩ = some (.string ⟨#[77]⟩) ∧ w'.cell? ⟨g2, 1, none⟩ = some (.slice A2 0 k2v) ∧ w'.cell? ⟨g2, 2, none⟩ = some (.slice B2 3 kb2) ∧ w'.cell? ⟨g2, 3, none⟩ = some (.slice C2 2 kc2) ∧ w'.cell? ⟨g4, 4, none⟩ = some (.int .i64 1) ∧ w'.cell? ⟨g5, 0, none⟩ = some (.string ⟨#[77]⟩) ∧ w'.cell? ⟨g5, 1, none⟩ = some (.slice none 0 0) ∧ w'.cell? ⟨g5, 2, none⟩ = some (.slice (some ⟨gt6, 0, none⟩) 3 3) ∧ w'.cell? ⟨g5, 3, none⟩ = some (.slice (some ⟨gi6, 0, none⟩) 2 2) ∧ w'.cell? ⟨g6, 0, none⟩ = some (.string ⟨#[77]⟩) ∧ w'.cell? ⟨g6, 1, none⟩ = some (.slice none 0 0) ∧ w'.cell? ⟨g6, 2, none⟩ = some (.slice (some ⟨gt8, 0, none⟩) 3 3) ∧ w'.cell? ⟨g6, 3, none⟩ = some (.slice (some ⟨gi8, 0, none⟩) 2 2)) (by kernel_rfl) (fun hcl => ?_)
 have hS : Until 86 (fun w' => w'.cell? ⟨b1, o1, none⟩ = some (.int .u8 9) ∧ w'.cell? ⟨b1, o1 + 12 + 4, none⟩ = some (.int .i64 10) ∧ w'.cell? ⟨b2, o2 + 2, none⟩ = some (.int .i64 10) ∧ w'.cell? ⟨b2, o2 + 5 + 2, none⟩ = some (.int .i64 11) ∧ w'.cell? ⟨g1, 2, none⟩ = some (.slice (some ⟨b1, o1, none⟩) 2 kb) ∧ w'.cell? ⟨g1, 3, none⟩ = some (.slice (some ⟨b2, o2, none⟩) 2 kc) ∧ w'.cell? ⟨g2, 0, none⟩ = some (.string ⟨#[77]⟩) ∧ w'.cell? ⟨g2, 1, none⟩ = some (.slice A2 0 k2v) ∧ w'.cell? ⟨g2, 2, none⟩ = some (.slice B2 3 kb2) ∧ w'.cell? ⟨g2, 3, none⟩ = some (.slice C2 2 kc2) ∧ w'.cell? ⟨g4, 4, none⟩ = some (.int .i64 1) ∧ w'.cell? ⟨g5, 0, none⟩ = some (.string ⟨#[77]⟩) ∧ w'.cell? ⟨g5, 1, none⟩ = some (.slice none 0 0) ∧ w'.cell? ⟨g5, 2, none⟩ = some (.slice (some ⟨gt6, 0, none⟩) 3 3) ∧ w'.cell? ⟨g5, 3, none⟩ = some (.slice (some ⟨gi6, 0, none⟩) 2 2) ∧ w'.cell? ⟨g6, 0, none⟩ = some (.string ⟨#[77]⟩) ∧ w'.cell? ⟨g6, 1, none⟩ = some (.slice none 0 0) ∧ w'.cell? ⟨g6, 2, none⟩ = some (.slice (some ⟨gt8, 0, none⟩) 3 3) ∧ w'.cell? ⟨g6, 3, none⟩ = some (.slice (some ⟨gi8, 0, none⟩) 2 2)) (Array.replicate 87 false) w18.drew := fun _ => ⟨k0, k1, k2, k3, m2, m3, n0, n1, n2, n3, q4, u0, u1, u2, u3, v0, v1, v2, v3⟩
 refine wpAnyL_take (i := 0) (oi := ?oi1) (v := ?v1) ?hi1 (by kernel_rfl) (by kernel_rfl) (by kernel_rfl) (fun _ _ _ h => h) (until_take 86 _ (by decide)) ?hy1 hcl hS ?rest1
 case hi1 =>
  simp only [qgaq, qgsq, qgzq]
  rfl
 case hy1 =>
  refine yields_until (by kernel_rfl) (Or.inl ⟨by rfl, fun w' hS => ?_⟩)
  try go_split_ands
  go_simp
  try rfl
 case rest1 =>
 intro hcl1 hS1
 clear hcl hS
 try simp only [Act.put, qsaq, qszq, qssq]
 refine wpAnyL_take (i := 1) (oi := ?oi2) (v := ?v2) ?hi2 (by kernel_rfl) (by kernel_rfl) (by kernel_rfl) (fun _ _ _ h => h) (until_take 86 _ (by decide)) ?hy2 hcl1 hS1 ?rest2
 case hi2 =>
  simp only [qgaq, qgsq, qgzq]
  rfl
 case hy2 =>
  refine yields_until (by kernel_rfl) (Or.inl ⟨by rfl, fun w' hS => ?_⟩)
  try go_split_ands
  go_simp
  try rfl
 case rest2 =>
 intro hcl2 hS2
 clear hcl1 hS1
 try simp only [Act.put, qsaq, qszq, qssq]
 refine wpAnyL_take (i := 2) (oi := ?oi3) (v := ?v3) ?hi3 (by kernel_rfl) (by kernel_rfl) (by kernel_rfl) (fun _ _ _ h => h) (until_take 86 _ (by decide)) ?hy3 hcl2 hS2 ?rest3
 case hi3 =>
  simp only [qgaq, qgsq, qgzq]
  rfl
 case hy3 =>
  refine yields_until (by kernel_rfl) (Or.inl ⟨by rfl, fun w' hS => ?_⟩)
  try go_split_ands
  go_simp
  try rfl
 case rest3 =>
 intro hcl3 hS3
 clear hcl2 hS2
 try simp only [Act.put, qsaq, qszq, qssq]
 refine wpAnyL_take (i := 3) (oi := ?oi4) (v := ?v4) ?hi4 (by kernel_rfl) (by kernel_rfl) (by kernel_rfl) (fun _ _ _ h => h) (until_take 86 _ (by decide)) ?hy4 hcl3 hS3 ?rest4
 case hi4 =>
  simp only [qgaq, qgsq, qgzq]
  rfl
 case hy4 =>
  refine yields_until (by kernel_rfl) (Or.inl ⟨by rfl, fun w' hS => ?_⟩)
  try go_split_ands
  go_simp
  try rfl
 case rest4 =>
 intro hcl4 hS4
 clear hcl3 hS3
 try simp only [Act.put, qsaq, qszq, qssq]
 refine wpAnyL_take (i := 4) (oi := ?oi5) (v := ?v5) ?hi5 (by kernel_rfl) (by kernel_rfl) (by kernel_rfl) (fun _ _ _ h => h) (until_take 86 _ (by decide)) ?hy5 hcl4 hS4 ?rest5
 case hi5 =>
  simp only [qgaq, qgsq, qgzq]
  rfl
 case hy5 =>
  refine yields_until (by kernel_rfl) (Or.inl ⟨by rfl, fun w' hS => ?_⟩)
  try go_split_ands
  go_simp
  try rfl
 case rest5 =>
 intro hcl5 hS5
 clear hcl4 hS4
 try simp only [Act.put, qsaq, qszq, qssq]
 refine wpAnyL_take (i := 5) (oi := ?oi6) (v := ?v6) ?hi6 (by kernel_rfl) (by kernel_rfl) (by kernel_rfl) (fun _ _ _ h => h) (until_take 86 _ (by decide)) ?hy6 hcl5 hS5 ?rest6
 case hi6 =>
  simp only [qgaq, qgsq, qgzq]
  rfl
 case hy6 =>
  refine yields_until (by kernel_rfl) (Or.inl ⟨by rfl, fun w' hS => ?_⟩)
  try go_split_ands
  go_simp
  try rfl
 case rest6 =>
 intro hcl6 hS6
 clear hcl5 hS5
 try simp only [Act.put, qsaq, qszq, qssq]
 refine wpAnyL_take (i := 6) (oi := ?oi7) (v := ?v7) ?hi7 (by kernel_rfl) (by kernel_rfl) (by kernel_rfl) (fun _ _ _ h => h) (until_take 86 _ (by decide)) ?hy7 hcl6 hS6 ?rest7
 case hi7 =>
  simp only [qgaq, qgsq, qgzq]
  rfl
 case hy7 =>
  refine yields_until (by kernel_rfl) (Or.inl ⟨by rfl, fun w' hS => ?_⟩)
  try go_split_ands
  go_simp
  try rfl
 case rest7 =>
 intro hcl7 hS7
 clear hcl6 hS6
 try simp only [Act.put, qsaq, qszq, qssq]
 refine wpAnyL_take (i := 7) (oi := ?oi8) (v := ?v8) ?hi8 (by kernel_rfl) (by kernel_rfl) (by kernel_rfl) (fun _ _ _ h => h) (until_take 86 _ (by decide)) ?hy8 hcl7 hS7 ?rest8
 case hi8 =>
  simp only [qgaq, qgsq, qgzq]
  rfl
 case hy8 =>
  refine yields_until (by kernel_rfl) (Or.inl ⟨by rfl, fun w' hS => ?_⟩)
  try go_split_ands
  go_simp
  try rfl
 case rest8 =>
 intro hcl8 hS8
 clear hcl7 hS7
 try simp only [Act.put, qsaq, qszq, qssq]
 refine wpAnyL_take (i := 8) (oi := ?oi9) (v := ?v9) ?hi9 (by kernel_rfl) (by kernel_rfl) (by kernel_rfl) (fun _ _ _ h => h) (until_take 86 _ (by decide)) ?hy9 hcl8 hS8 ?rest9
 case hi9 =>
  simp only [qgaq, qgsq, qgzq]
  rfl
 case hy9 =>
  refine yields_until (by kernel_rfl) (Or.inl ⟨by rfl, fun w' hS => ?_⟩)
  try go_split_ands
  go_simp
  try rfl
 case rest9 =>
 intro hcl9 hS9
 clear hcl8 hS8
 try simp only [Act.put, qsaq, qszq, qssq]
 refine wpAnyL_take (i := 9) (oi := ?oi10) (v := ?v10) ?hi10 (by kernel_rfl) (by kernel_rfl) (by kernel_rfl) (fun _ _ _ h => h) (until_take 86 _ (by decide)) ?hy10 hcl9 hS9 ?rest10
 case hi10 =>
  simp only [qgaq, qgsq, qgzq]
  rfl
 case hy10 =>
  refine yields_until (by kernel_rfl) (Or.inl ⟨by rfl, fun w' hS => ?_⟩)
  try go_split_ands
  go_simp
  try rfl
 case rest10 =>
 intro hcl10 hS10
 clear hcl9 hS9
 try simp only [Act.put, qsaq, qszq, qssq]
 refine wpAnyL_take (i := 10) (oi := ?oi11) (v := ?v11) ?hi11 (by kernel_rfl) (by kernel_rfl) (by kernel_rfl) (fun _ _ _ h => h) (until_take 86 _ (by decide)) ?hy11 hcl10 hS10 ?rest11
 case hi11 =>
  simp only [qgaq, qgsq, qgzq]
  rfl
 case hy11 =>
  refine yields_until (by kernel_rfl) (Or.inl ⟨by rfl, fun w' hS => ?_⟩)
  try go_split_ands
  go_simp
  try rfl
 case rest11 =>
 intro hcl11 hS11
 clear hcl10 hS10
 try simp only [Act.put, qsaq, qszq, qssq]
 refine wpAnyL_take (i := 11) (oi := ?oi12) (v := ?v12) ?hi12 (by kernel_rfl) (by kernel_rfl) (by kernel_rfl) (fun _ _ _ h => h) (until_take 86 _ (by decide)) ?hy12 hcl11 hS11 ?rest12
 case hi12 =>
  simp only [qgaq, qgsq, qgzq]
  rfl
 case hy12 =>
  refine yields_until (by kernel_rfl) (Or.inl ⟨by rfl, fun w' hS => ?_⟩)
  try go_split_ands
  go_simp
  try rfl
 case rest12 =>
 intro hcl12 hS12
 clear hcl11 hS11
 try simp only [Act.put, qsaq, qszq, qssq]
 refine wpAnyL_take (i := 12) (oi := ?oi13) (v := ?v13) ?hi13 (by kernel_rfl) (by kernel_rfl) (by kernel_rfl) (fun _ _ _ h => h) (until_take 86 _ (by decide)) ?hy13 hcl12 hS12 ?rest13
 case hi13 =>
  simp only [qgaq, qgsq, qgzq]
  rfl
 case hy13 =>
  refine yields_until (by kernel_rfl) (Or.inl ⟨by rfl, fun w' hS => ?_⟩)
  try go_split_ands
  go_simp
  try rfl
 case rest13 =>
 intro hcl13 hS13
 clear hcl12 hS12
 try simp only [Act.put, qsaq, qszq, qssq]
 refine wpAnyL_take (i := 13) (oi := ?oi14) (v := ?v14) ?hi14 (by kernel_rfl) (by kernel_rfl) (by kernel_rfl) (fun _ _ _ h => h) (until_take 86 _ (by decide)) ?hy14 hcl13 hS13 ?rest14
 case hi14 =>
  simp only [qgaq, qgsq, qgzq]
  rfl
 case hy14 =>
  refine yields_until (by kernel_rfl) (Or.inl ⟨by rfl, fun w' hS => ?_⟩)
  try go_split_ands
  go_simp
  try rfl
 case rest14 =>
 intro hcl14 hS14
 clear hcl13 hS13
 try simp only [Act.put, qsaq, qszq, qssq]
 refine wpAnyL_take (i := 14) (oi := ?oi15) (v := ?v15) ?hi15 (by kernel_rfl) (by kernel_rfl) (by kernel_rfl) (fun _ _ _ h => h) (until_take 86 _ (by decide)) ?hy15 hcl14 hS14 ?rest15
 case hi15 =>
  simp only [qgaq, qgsq, qgzq]
  rfl
 case hy15 =>
  refine yields_until (by kernel_rfl) (Or.inl ⟨by rfl, fun w' hS => ?_⟩)
  try go_split_ands
  go_simp
  try rfl
 case rest15 =>
 intro hcl15 hS15
 clear hcl14 hS14
 try simp only [Act.put, qsaq, qszq, qssq]
 refine wpAnyL_take (i := 15) (oi := ?oi16) (v := ?v16) ?hi16 (by kernel_rfl) (by kernel_rfl) (by kernel_rfl) (fun _ _ _ h => h) (until_take 86 _ (by decide)) ?hy16 hcl15 hS15 ?rest16
 case hi16 =>
  simp only [qgaq, qgsq, qgzq]
  rfl
 case hy16 =>
  refine yields_until (by kernel_rfl) (Or.inl ⟨by rfl, fun w' hS => ?_⟩)
  try go_split_ands
  go_simp
  try rfl
 case rest16 =>
 intro hcl16 hS16
 clear hcl15 hS15
 try simp only [Act.put, qsaq, qszq, qssq]
 refine wpAnyL_take (i := 16) (oi := ?oi17) (v := ?v17) ?hi17 (by kernel_rfl) (by kernel_rfl) (by kernel_rfl) (fun _ _ _ h => h) (until_take 86 _ (by decide)) ?hy17 hcl16 hS16 ?rest17
 case hi17 =>
  simp only [qgaq, qgsq, qgzq]
  rfl
 case hy17 =>
  refine yields_until (by kernel_rfl) (Or.inl ⟨by rfl, fun w' hS => ?_⟩)
  try go_split_ands
  go_simp
  try rfl
 case rest17 =>
 intro hcl17 hS17
 clear hcl16 hS16
 try simp only [Act.put, qsaq, qszq, qssq]
 refine wpAnyL_take (i := 17) (oi := ?oi18) (v := ?v18) ?hi18 (by kernel_rfl) (by kernel_rfl) (by kernel_rfl) (fun _ _ _ h => h) (until_take 86 _ (by decide)) ?hy18 hcl17 hS17 ?rest18
 case hi18 =>
  simp only [qgaq, qgsq, qgzq]
  rfl
 case hy18 =>
  refine yields_until (by kernel_rfl) (Or.inl ⟨by rfl, fun w' hS => ?_⟩)
  try go_split_ands
  go_simp
  try rfl
 case rest18 =>
 intro hcl18 hS18
 clear hcl17 hS17
 try simp only [Act.put, qsaq, qszq, qssq]
 refine wpAnyL_take (i := 18) (oi := ?oi19) (v := ?v19) ?hi19 (by kernel_rfl) (by kernel_rfl) (by kernel_rfl) (fun _ _ _ h => h) (until_take 86 _ (by decide)) ?hy19 hcl18 hS18 ?rest19
 case hi19 =>
  simp only [qgaq, qgsq, qgzq]
  rfl
 case hy19 =>
  refine yields_until (by kernel_rfl) (Or.inl ⟨by rfl, fun w' hS => ?_⟩)
  try go_split_ands
  go_simp
  try rfl
 case rest19 =>
 intro hcl19 hS19
 clear hcl18 hS18
 try simp only [Act.put, qsaq, qszq, qssq]
 refine wpAnyL_take (i := 19) (oi := ?oi20) (v := ?v20) ?hi20 (by kernel_rfl) (by kernel_rfl) (by kernel_rfl) (fun _ _ _ h => h) (until_take 86 _ (by decide)) ?hy20 hcl19 hS19 ?rest20
 case hi20 =>
  simp only [qgaq, qgsq, qgzq]
  rfl
 case hy20 =>
  refine yields_until (by kernel_rfl) (Or.inl ⟨by rfl, fun w' hS => ?_⟩)
  try go_split_ands
  go_simp
  try rfl
 case rest20 =>
 intro hcl20 hS20
 clear hcl19 hS19
 try simp only [Act.put, qsaq, qszq, qssq]
 refine wpAnyL_take (i := 20) (oi := ?oi21) (v := ?v21) ?hi21 (by kernel_rfl) (by kernel_rfl) (by kernel_rfl) (fun _ _ _ h => h) (until_take 86 _ (by decide)) ?hy21 hcl20 hS20 ?rest21
 case hi21 =>
  simp only [qgaq, qgsq, qgzq]
  rfl
 case hy21 =>
  refine yields_until (by kernel_rfl) (Or.inl ⟨by rfl, fun w' hS => ?_⟩)
  try go_split_ands
  go_simp
  try rfl
 case rest21 =>
 intro hcl21 hS21
 clear hcl20 hS20
 try simp only [Act.put, qsaq, qszq, qssq]
 refine wpAnyL_take (i := 21) (oi := ?oi22) (v := ?v22) ?hi22 (by kernel_rfl) (by kernel_rfl) (by kernel_rfl) (fun _ _ _ h => h) (until_take 86 _ (by decide)) ?hy22 hcl21 hS21 ?rest22
 case hi22 =>
  simp only [qgaq, qgsq, qgzq]
  rfl
 case hy22 =>
  refine yields_until (by kernel_rfl) (Or.inl ⟨by rfl, fun w' hS => ?_⟩)
  try go_split_ands
  go_simp
  try rfl
 case rest22 =>
 intro hcl22 hS22
 clear hcl21 hS21
 try simp only [Act.put, qsaq, qszq, qssq]
 refine wpAnyL_take (i := 22) (oi := ?oi23) (v := ?v23) ?hi23 (by kernel_rfl) (by kernel_rfl) (by kernel_rfl) (fun _ _ _ h => h) (until_take 86 _ (by decide)) ?hy23 hcl22 hS22 ?rest23
 case hi23 =>
  simp only [qgaq, qgsq, qgzq]
  rfl
 case hy23 =>
  refine yields_until (by kernel_rfl) (Or.inl ⟨by rfl, fun w' hS => ?_⟩)
  try go_split_ands
  go_simp
  try rfl
 case rest23 =>
 intro hcl23 hS23
 clear hcl22 hS22
 try simp only [Act.put, qsaq, qszq, qssq]
 refine wpAnyL_take (i := 23) (oi := ?oi24) (v := ?v24) ?hi24 (by kernel_rfl) (by kernel_rfl) (by kernel_rfl) (fun _ _ _ h => h) (until_take 86 _ (by decide)) ?hy24 hcl23 hS23 ?rest24
 case hi24 =>
  simp only [qgaq, qgsq, qgzq]
  rfl
 case hy24 =>
  refine yields_until (by kernel_rfl) (Or.inl ⟨by rfl, fun w' hS => ?_⟩)
  try go_split_ands
  go_simp
  try rfl
 case rest24 =>
 intro hcl24 hS24
 clear hcl23 hS23
 try simp only [Act.put, qsaq, qszq, qssq]
 refine wpAnyL_take (i := 24) (oi := ?oi25) (v := ?v25) ?hi25 (by kernel_rfl) (by kernel_rfl) (by kernel_rfl) (fun _ _ _ h => h) (until_take 86 _ (by decide)) ?hy25 hcl24 hS24 ?rest25
 case hi25 =>
  simp only [qgaq, qgsq, qgzq]
  rfl
 case hy25 =>
  refine yields_until (by kernel_rfl) (Or.inl ⟨by rfl, fun w' hS => ?_⟩)
  try go_split_ands
  go_simp
  try rfl
 case rest25 =>
 intro hcl25 hS25
 clear hcl24 hS24
 try simp only [Act.put, qsaq, qszq, qssq]
 refine wpAnyL_take (i := 25) (oi := ?oi26) (v := ?v26) ?hi26 (by kernel_rfl) (by kernel_rfl) (by kernel_rfl) (fun _ _ _ h => h) (until_take 86 _ (by decide)) ?hy26 hcl25 hS25 ?rest26
 case hi26 =>
  simp only [qgaq, qgsq, qgzq]
  rfl
 case hy26 =>
  refine yields_until (by kernel_rfl) (Or.inl ⟨by rfl, fun w' hS => ?_⟩)
  try go_split_ands
  go_simp
  try rfl
 case rest26 =>
 intro hcl26 hS26
 clear hcl25 hS25
 try simp only [Act.put, qsaq, qszq, qssq]
 refine wpAnyL_take (i := 26) (oi := ?oi27) (v := ?v27) ?hi27 (by kernel_rfl) (by kernel_rfl) (by kernel_rfl) (fun _ _ _ h => h) (until_take 86 _ (by decide)) ?hy27 hcl26 hS26 ?rest27
 case hi27 =>
  simp only [qgaq, qgsq, qgzq]
  rfl
 case hy27 =>
  refine yields_until (by kernel_rfl) (Or.inl ⟨by rfl, fun w' hS => ?_⟩)
  try go_split_ands
  go_simp
  try rfl
 case rest27 =>
 intro hcl27 hS27
 clear hcl26 hS26
 try simp only [Act.put, qsaq, qszq, qssq]
 refine wpAnyL_take (i := 27) (oi := ?oi28) (v := ?v28) ?hi28 (by kernel_rfl) (by kernel_rfl) (by kernel_rfl) (fun _ _ _ h => h) (until_take 86 _ (by decide)) ?hy28 hcl27 hS27 ?rest28
 case hi28 =>
  simp only [qgaq, qgsq, qgzq]
  rfl
 case hy28 =>
  refine yields_until (by kernel_rfl) (Or.inl ⟨by rfl, fun w' hS => ?_⟩)
  try go_split_ands
  go_simp
  try rfl
 case rest28 =>
 intro hcl28 hS28
 clear hcl27 hS27
 try simp only [Act.put, qsaq, qszq, qssq]
 refine wpAnyL_take (i := 28) (oi := ?oi29) (v := ?v29) ?hi29 (by kernel_rfl) (by kernel_rfl) (by kernel_rfl) (fun _ _ _ h => h) (until_take 86 _ (by decide)) ?hy29 hcl28 hS28 ?rest29
 case hi29 =>
  simp only [qgaq, qgsq, qgzq]
  rfl
 case hy29 =>
  refine yields_until (by kernel_rfl) (Or.inl ⟨by rfl, fun w' hS => ?_⟩)
  try go_split_ands
  go_simp
  try rfl
 case rest29 =>
 intro hcl29 hS29
 clear hcl28 hS28
 try simp only [Act.put, qsaq, qszq, qssq]
 refine wpAnyL_take (i := 29) (oi := ?oi30) (v := ?v30) ?hi30 (by kernel_rfl) (by kernel_rfl) (by kernel_rfl) (fun _ _ _ h => h) (until_take 86 _ (by decide)) ?hy30 hcl29 hS29 ?rest30
 case hi30 =>
  simp only [qgaq, qgsq, qgzq]
  rfl
 case hy30 =>
  refine yields_until (by kernel_rfl) (Or.inl ⟨by rfl, fun w' hS => ?_⟩)
  try go_split_ands
  go_simp
  try rfl
 case rest30 =>
 intro hcl30 hS30
 clear hcl29 hS29
 try simp only [Act.put, qsaq, qszq, qssq]
 refine wpAnyL_take (i := 30) (oi := ?oi31) (v := ?v31) ?hi31 (by kernel_rfl) (by kernel_rfl) (by kernel_rfl) (fun _ _ _ h => h) (until_take 86 _ (by decide)) ?hy31 hcl30 hS30 ?rest31
 case hi31 =>
  simp only [qgaq, qgsq, qgzq]
  rfl
 case hy31 =>
  refine yields_until (by kernel_rfl) (Or.inl ⟨by rfl, fun w' hS => ?_⟩)
  try go_split_ands
  go_simp
  try rfl
 case rest31 =>
 intro hcl31 hS31
 clear hcl30 hS30
 try simp only [Act.put, qsaq, qszq, qssq]
 refine wpAnyL_take (i := 31) (oi := ?oi32) (v := ?v32) ?hi32 (by kernel_rfl) (by kernel_rfl) (by kernel_rfl) (fun _ _ _ h => h) (until_take 86 _ (by decide)) ?hy32 hcl31 hS31 ?rest32
 case hi32 =>
  simp only [qgaq, qgsq, qgzq]
  rfl
 case hy32 =>
  refine yields_until (by kernel_rfl) (Or.inl ⟨by rfl, fun w' hS => ?_⟩)
  try go_split_ands
  go_simp
  try rfl
 case rest32 =>
 intro hcl32 hS32
 clear hcl31 hS31
 try simp only [Act.put, qsaq, qszq, qssq]
 refine wpAnyL_take (i := 32) (oi := ?oi33) (v := ?v33) ?hi33 (by kernel_rfl) (by kernel_rfl) (by kernel_rfl) (fun _ _ _ h => h) (until_take 86 _ (by decide)) ?hy33 hcl32 hS32 ?rest33
 case hi33 =>
  simp only [qgaq, qgsq, qgzq]
  rfl
 case hy33 =>
  refine yields_until (by kernel_rfl) (Or.inl ⟨by rfl, fun w' hS => ?_⟩)
  try go_split_ands
  go_simp
  try rfl
 case rest33 =>
 intro hcl33 hS33
 clear hcl32 hS32
 try simp only [Act.put, qsaq, qszq, qssq]
 refine wpAnyL_take (i := 33) (oi := ?oi34) (v := ?v34) ?hi34 (by kernel_rfl) (by kernel_rfl) (by kernel_rfl) (fun _ _ _ h => h) (until_take 86 _ (by decide)) ?hy34 hcl33 hS33 ?rest34
 case hi34 =>
  simp only [qgaq, qgsq, qgzq]
  rfl
 case hy34 =>
  refine yields_until (by kernel_rfl) (Or.inl ⟨by rfl, fun w' hS => ?_⟩)
  try go_split_ands
  go_simp
  try rfl
 case rest34 =>
 intro hcl34 hS34
 clear hcl33 hS33
 try simp only [Act.put, qsaq, qszq, qssq]
 refine wpAnyL_take (i := 34) (oi := ?oi35) (v := ?v35) ?hi35 (by kernel_rfl) (by kernel_rfl) (by kernel_rfl) (fun _ _ _ h => h) (until_take 86 _ (by decide)) ?hy35 hcl34 hS34 ?rest35
 case hi35 =>
  simp only [qgaq, qgsq, qgzq]
  rfl
 case hy35 =>
  refine yields_until (by kernel_rfl) (Or.inl ⟨by rfl, fun w' hS => ?_⟩)
  try go_split_ands
  go_simp
  try rfl
 case rest35 =>
 intro hcl35 hS35
 clear hcl34 hS34
 try simp only [Act.put, qsaq, qszq, qssq]
 refine wpAnyL_take (i := 35) (oi := ?oi36) (v := ?v36) ?hi36 (by kernel_rfl) (by kernel_rfl) (by kernel_rfl) (fun _ _ _ h => h) (until_take 86 _ (by decide)) ?hy36 hcl35 hS35 ?rest36
 case hi36 =>
  simp only [qgaq, qgsq, qgzq]
  rfl
 case hy36 =>
  refine yields_until (by kernel_rfl) (Or.inl ⟨by rfl, fun w' hS => ?_⟩)
  try go_split_ands
  go_simp
  try rfl
 case rest36 =>
 intro hcl36 hS36
 clear hcl35 hS35
 try simp only [Act.put, qsaq, qszq, qssq]
 refine wpAnyL_take (i := 36) (oi := ?oi37) (v := ?v37) ?hi37 (by kernel_rfl) (by kernel_rfl) (by kernel_rfl) (fun _ _ _ h => h) (until_take 86 _ (by decide)) ?hy37 hcl36 hS36 ?rest37
 case hi37 =>
  simp only [qgaq, qgsq, qgzq]
  rfl
 case hy37 =>
  refine yields_until (by kernel_rfl) (Or.inl ⟨by rfl, fun w' hS => ?_⟩)
  try go_split_ands
  go_simp
  try rfl
 case rest37 =>
 intro hcl37 hS37
 clear hcl36 hS36
 try simp only [Act.put, qsaq, qszq, qssq]
 refine wpAnyL_take (i := 37) (oi := ?oi38) (v := ?v38) ?hi38 (by kernel_rfl) (by kernel_rfl) (by kernel_rfl) (fun _ _ _ h => h) (until_take 86 _ (by decide)) ?hy38 hcl37 hS37 ?rest38
 case hi38 =>
  simp only [qgaq, qgsq, qgzq]
  rfl
 case hy38 =>
  refine yields_until (by kernel_rfl) (Or.inl ⟨by rfl, fun w' hS => ?_⟩)
  try go_split_ands
  go_simp
  try rfl
 case rest38 =>
 intro hcl38 hS38
 clear hcl37 hS37
 try simp only [Act.put, qsaq, qszq, qssq]
 refine wpAnyL_take (i := 38) (oi := ?oi39) (v := ?v39) ?hi39 (by kernel_rfl) (by kernel_rfl) (by kernel_rfl) (fun _ _ _ h => h) (until_take 86 _ (by decide)) ?hy39 hcl38 hS38 ?rest39
 case hi39 =>
  simp only [qgaq, qgsq, qgzq]
  rfl
 case hy39 =>
  refine yields_until (by kernel_rfl) (Or.inl ⟨by rfl, fun w' hS => ?_⟩)
  try go_split_ands
  go_simp
  try rfl
 case rest39 =>
 intro hcl39 hS39
 clear hcl38 hS38
 try simp only [Act.put, qsaq, qszq, qssq]
 refine wpAnyL_take (i := 39) (oi := ?oi40) (v := ?v40) ?hi40 (by kernel_rfl) (by kernel_rfl) (by kernel_rfl) (fun _ _ _ h => h) (until_take 86 _ (by decide)) ?hy40 hcl39 hS39 ?rest40
 case hi40 =>
  simp only [qgaq, qgsq, qgzq]
  rfl
 case hy40 =>
  refine yields_until (by kernel_rfl) (Or.inl ⟨by rfl, fun w' hS => ?_⟩)
  try go_split_ands
  go_simp
  try rfl
 case rest40 =>
 intro hcl40 hS40
 clear hcl39 hS39
 try simp only [Act.put, qsaq, qszq, qssq]
 refine wpAnyL_take (i := 40) (oi := ?oi41) (v := ?v41) ?hi41 (by kernel_rfl) (by kernel_rfl) (by kernel_rfl) (fun _ _ _ h => h) (until_take 86 _ (by decide)) ?hy41 hcl40 hS40 ?rest41
 case hi41 =>
  simp only [qgaq, qgsq, qgzq]
  rfl
 case hy41 =>
  refine yields_until (by kernel_rfl) (Or.inl ⟨by rfl, fun w' hS => ?_⟩)
  try go_split_ands
  go_simp
  try rfl
 case rest41 =>
 intro hcl41 hS41
 clear hcl40 hS40
 try simp only [Act.put, qsaq, qszq, qssq]
 refine wpAnyL_take (i := 41) (oi := ?oi42) (v := ?v42) ?hi42 (by kernel_rfl) (by kernel_rfl) (by kernel_rfl) (fun _ _ _ h => h) (until_take 86 _ (by decide)) ?hy42 hcl41 hS41 ?rest42
 case hi42 =>
  simp only [qgaq, qgsq, qgzq]
  rfl
 case hy42 =>
  refine yields_until (by kernel_rfl) (Or.inl ⟨by rfl, fun w' hS => ?_⟩)
  try go_split_ands
  go_simp
  try rfl
 case rest42 =>
 intro hcl42 hS42
 clear hcl41 hS41
 try simp only [Act.put, qsaq, qszq, qssq]
 refine wpAnyL_take (i := 42) (oi := ?oi43) (v := ?v43) ?hi43 (by kernel_rfl) (by kernel_rfl) (by kernel_rfl) (fun _ _ _ h => h) (until_take 86 _ (by decide)) ?hy43 hcl42 hS42 ?rest43
 case hi43 =>
  simp only [qgaq, qgsq, qgzq]
  rfl
 case hy43 =>
  refine yields_until (by kernel_rfl) (Or.inl ⟨by rfl, fun w' hS => ?_⟩)
  try go_split_ands
  go_simp
  try rfl
 case rest43 =>
 intro hcl43 hS43
 clear hcl42 hS42
 try simp only [Act.put, qsaq, qszq, qssq]
 refine wpAnyL_take (i := 43) (oi := ?oi44) (v := ?v44) ?hi44 (by kernel_rfl) (by kernel_rfl) (by kernel_rfl) (fun _ _ _ h => h) (until_take 86 _ (by decide)) ?hy44 hcl43 hS43 ?rest44
 case hi44 =>
  simp only [qgaq, qgsq, qgzq]
  rfl
 case hy44 =>
  refine yields_until (by kernel_rfl) (Or.inl ⟨by rfl, fun w' hS => ?_⟩)
  try go_split_ands
  go_simp
  try rfl
 case rest44 =>
 intro hcl44 hS44
 clear hcl43 hS43
 try simp only [Act.put, qsaq, qszq, qssq]
 refine wpAnyL_take (i := 44) (oi := ?oi45) (v := ?v45) ?hi45 (by kernel_rfl) (by kernel_rfl) (by kernel_rfl) (fun _ _ _ h => h) (until_take 86 _ (by decide)) ?hy45 hcl44 hS44 ?rest45
 case hi45 =>
  simp only [qgaq, qgsq, qgzq]
  rfl
 case hy45 =>
  refine yields_until (by kernel_rfl) (Or.inl ⟨by rfl, fun w' hS => ?_⟩)
  try go_split_ands
  go_simp
  try rfl
 case rest45 =>
 intro hcl45 hS45
 clear hcl44 hS44
 try simp only [Act.put, qsaq, qszq, qssq]
 refine wpAnyL_take (i := 45) (oi := ?oi46) (v := ?v46) ?hi46 (by kernel_rfl) (by kernel_rfl) (by kernel_rfl) (fun _ _ _ h => h) (until_take 86 _ (by decide)) ?hy46 hcl45 hS45 ?rest46
 case hi46 =>
  simp only [qgaq, qgsq, qgzq]
  rfl
 case hy46 =>
  refine yields_until (by kernel_rfl) (Or.inl ⟨by rfl, fun w' hS => ?_⟩)
  try go_split_ands
  go_simp
  try rfl
 case rest46 =>
 intro hcl46 hS46
 clear hcl45 hS45
 try simp only [Act.put, qsaq, qszq, qssq]
 refine wpAnyL_take (i := 46) (oi := ?oi47) (v := ?v47) ?hi47 (by kernel_rfl) (by kernel_rfl) (by kernel_rfl) (fun _ _ _ h => h) (until_take 86 _ (by decide)) ?hy47 hcl46 hS46 ?rest47
 case hi47 =>
  simp only [qgaq, qgsq, qgzq]
  rfl
 case hy47 =>
  refine yields_until (by kernel_rfl) (Or.inl ⟨by rfl, fun w' hS => ?_⟩)
  try go_split_ands
  go_simp
  try rfl
 case rest47 =>
 intro hcl47 hS47
 clear hcl46 hS46
 try simp only [Act.put, qsaq, qszq, qssq]
 refine wpAnyL_take (i := 47) (oi := ?oi48) (v := ?v48) ?hi48 (by kernel_rfl) (by kernel_rfl) (by kernel_rfl) (fun _ _ _ h => h) (until_take 86 _ (by decide)) ?hy48 hcl47 hS47 ?rest48
 case hi48 =>
  simp only [qgaq, qgsq, qgzq]
  rfl
 case hy48 =>
  refine yields_until (by kernel_rfl) (Or.inl ⟨by rfl, fun w' hS => ?_⟩)
  try go_split_ands
  go_simp
  try rfl
 case rest48 =>
 intro hcl48 hS48
 clear hcl47 hS47
 try simp only [Act.put, qsaq, qszq, qssq]
 refine wpAnyL_take (i := 48) (oi := ?oi49) (v := ?v49) ?hi49 (by kernel_rfl) (by kernel_rfl) (by kernel_rfl) (fun _ _ _ h => h) (until_take 86 _ (by decide)) ?hy49 hcl48 hS48 ?rest49
 case hi49 =>
  simp only [qgaq, qgsq, qgzq]
  rfl
 case hy49 =>
  refine yields_until (by kernel_rfl) (Or.inl ⟨by rfl, fun w' hS => ?_⟩)
  try go_split_ands
  go_simp
  try rfl
 case rest49 =>
 intro hcl49 hS49
 clear hcl48 hS48
 try simp only [Act.put, qsaq, qszq, qssq]
 refine wpAnyL_take (i := 49) (oi := ?oi50) (v := ?v50) ?hi50 (by kernel_rfl) (by kernel_rfl) (by kernel_rfl) (fun _ _ _ h => h) (until_take 86 _ (by decide)) ?hy50 hcl49 hS49 ?rest50
 case hi50 =>
  simp only [qgaq, qgsq, qgzq]
  rfl
 case hy50 =>
  refine yields_until (by kernel_rfl) (Or.inl ⟨by rfl, fun w' hS => ?_⟩)
  try go_split_ands
  go_simp
  try rfl
 case rest50 =>
 intro hcl50 hS50
 clear hcl49 hS49
 try simp only [Act.put, qsaq, qszq, qssq]
 refine wpAnyL_take (i := 50) (oi := ?oi51) (v := ?v51) ?hi51 (by kernel_rfl) (by kernel_rfl) (by kernel_rfl) (fun _ _ _ h => h) (until_take 86 _ (by decide)) ?hy51 hcl50 hS50 ?rest51
 case hi51 =>
  simp only [qgaq, qgsq, qgzq]
  rfl
 case hy51 =>
  refine yields_until (by kernel_rfl) (Or.inl ⟨by rfl, fun w' hS => ?_⟩)
  try go_split_ands
  go_simp
  try rfl
 case rest51 =>
 intro hcl51 hS51
 clear hcl50 hS50
 try simp only [Act.put, qsaq, qszq, qssq]
 refine wpAnyL_take (i := 51) (oi := ?oi52) (v := ?v52) ?hi52 (by kernel_rfl) (by kernel_rfl) (by kernel_rfl) (fun _ _ _ h => h) (until_take 86 _ (by decide)) ?hy52 hcl51 hS51 ?rest52
 case hi52 =>
  simp only [qgaq, qgsq, qgzq]
  rfl
 case hy52 =>
  refine yields_until (by kernel_rfl) (Or.inl ⟨by rfl, fun w' hS => ?_⟩)
  try go_split_ands
  go_simp
  try rfl
 case rest52 =>
 intro hcl52 hS52
 clear hcl51 hS51
 try simp only [Act.put, qsaq, qszq, qssq]
 refine wpAnyL_take (i := 52) (oi := ?oi53) (v := ?v53) ?hi53 (by kernel_rfl) (by kernel_rfl) (by kernel_rfl) (fun _ _ _ h => h) (until_take 86 _ (by decide)) ?hy53 hcl52 hS52 ?rest53
 case hi53 =>
  simp only [qgaq, qgsq, qgzq]
  rfl
 case hy53 =>
  refine yields_until (by kernel_rfl) (Or.inl ⟨by rfl, fun w' hS => ?_⟩)
  try go_split_ands
  go_simp
  try rfl
 case rest53 =>
 intro hcl53 hS53
 clear hcl52 hS52
 try simp only [Act.put, qsaq, qszq, qssq]
 refine wpAnyL_take (i := 53) (oi := ?oi54) (v := ?v54) ?hi54 (by kernel_rfl) (by kernel_rfl) (by kernel_rfl) (fun _ _ _ h => h) (until_take 86 _ (by decide)) ?hy54 hcl53 hS53 ?rest54
 case hi54 =>
  simp only [qgaq, qgsq, qgzq]
  rfl
 case hy54 =>
  refine yields_until (by kernel_rfl) (Or.inl ⟨by rfl, fun w' hS => ?_⟩)
  try go_split_ands
  go_simp
  try rfl
 case rest54 =>
 intro hcl54 hS54
 clear hcl53 hS53
 try simp only [Act.put, qsaq, qszq, qssq]
 refine wpAnyL_take (i := 54) (oi := ?oi55) (v := ?v55) ?hi55 (by kernel_rfl) (by kernel_rfl) (by kernel_rfl) (fun _ _ _ h => h) (until_take 86 _ (by decide)) ?hy55 hcl54 hS54 ?rest55
 case hi55 =>
  simp only [qgaq, qgsq, qgzq]
  rfl
 case hy55 =>
  refine yields_until (by kernel_rfl) (Or.inl ⟨by rfl, fun w' hS => ?_⟩)
  try go_split_ands
  go_simp
  try rfl
 case rest55 =>
 intro hcl55 hS55
 clear hcl54 hS54
 try simp only [Act.put, qsaq, qszq, qssq]
 refine wpAnyL_take (i := 55) (oi := ?oi56) (v := ?v56) ?hi56 (by kernel_rfl) (by kernel_rfl) (by kernel_rfl) (fun _ _ _ h => h) (until_take 86 _ (by decide)) ?hy56 hcl55 hS55 ?rest56
 case hi56 =>
  simp only [qgaq, qgsq, qgzq]
  rfl
 case hy56 =>
  refine yields_until (by kernel_rfl) (Or.inl ⟨by rfl, fun w' hS => ?_⟩)
  try go_split_ands
  go_simp
  try rfl
 case rest56 =>
 intro hcl56 hS56
 clear hcl55 hS55
 try simp only [Act.put, qsaq, qszq, qssq]
 refine wpAnyL_step (i := 56) (o := ?oi57) ?hi57 (by kernel_rfl) hcl56 ?rest57
 case hi57 =>
  simp only [qgaq, qgsq, qgzq]
  rfl
 case rest57 =>
 intro K hK
 go_simp
 refine (HS.out _).mono ?_
 rintro e w19 ⟨gt9, gi9, rfl, s1, _, _, _, bt9, bi9⟩
 have M9 := Lib.hid (SmallM.mk bt9 bi9)
 clear bt9 bi9
 refine hK _ _ (fun _ => HC.out _ ((Wr.refl [] w18).drew.trans s1)) (fun hcl57 => ?_)
 clear hK K hcl56 hS56
 try simp only [Act.put, qsaq, qszq, qssq]
 refine wpAnyL_step (i := 57) (o := ?oi58) ?hi58 (by kernel_rfl) hcl57 ?rest58
 case hi58 =>
  simp only [qgaq, qgsq, qgzq]
  rfl
 case rest58 =>
 intro K hK
 go_simp
 refine (Y8.out _ ((Wr.refl [] w18).drew.trans s1) _ _ M9.out).mono ?_
 rintro e w20 ⟨rfl, s2⟩
 refine hK _ _ (fun _ => HC.out _ (((Wr.refl [] w18).drew.trans s1).trans s2)) (fun hcl58 => ?_)
 clear hK K hcl57
 try simp only [Act.put, qsaq, qszq, qssq]
 refine wpAnyL_take (i := 58) (oi := ?oi59) (v := ?v59) ?hi59 (by kernel_rfl) (by kernel_rfl) (by kernel_rfl) (fun _ _ _ h => h) (until_take 86 _ (by decide)) ?hy59 hcl58 (fun _ => HC.out _ (((Wr.refl [] w18).drew.trans s1).trans s2)) ?rest59
 case hi59 =>
  simp only [qgaq, qgsq, qgzq]
  rfl
 case hy59 =>
  refine yields_until (by kernel_rfl) (Or.inl ⟨by rfl, fun w' hS => ?_⟩)
  try go_split_ands
  go_simp
  try rfl
 case rest59 =>
 intro hcl59 hS59
 clear hcl58
 try simp only [Act.put, qsaq, qszq, qssq]
 refine wpAnyL_take (i := 59) (oi := ?oi60) (v := ?v60) ?hi60 (by kernel_rfl) (by kernel_rfl) (by kernel_rfl) (fun _ _ _ h => h) (until_take 86 _ (by decide)) ?hy60 hcl59 hS59 ?rest60
 case hi60 =>
  simp only [qgaq, qgsq, qgzq]
  rfl
 case hy60 =>
  refine yields_until (by kernel_rfl) (Or.inl ⟨by rfl, fun w' hS => ?_⟩)
  try go_split_ands
  go_simp
  try rfl
 case rest60 =>
 intro hcl60 hS60
 clear hcl59 hS59
 try simp only [Act.put, qsaq, qszq, qssq]
 refine wpAnyL_take (i := 60) (oi := ?oi61) (v := ?v61) ?hi61 (by kernel_rfl) (by kernel_rfl) (by kernel_rfl) (fun _ _ _ h => h) (until_take 86 _ (by decide)) ?hy61 hcl60 hS60 ?rest61
 case hi61 =>
  simp only [qgaq, qgsq, qgzq]
  rfl
 case hy61 =>
  refine yields_until (by kernel_rfl) (Or.inl ⟨by rfl, fun w' hS => ?_⟩)
  try go_split_ands
  go_simp
  try rfl
 case rest61 =>
 intro hcl61 hS61
 clear hcl60 hS60
 try simp only [Act.put, qsaq, qszq, qssq]
 refine wpAnyL_take (i := 61) (oi := ?oi62) (v := ?v62) ?hi62 (by kernel_rfl) (by kernel_rfl) (by kernel_rfl) (fun _ _ _ h => h) (until_take 86 _ (by decide)) ?hy62 hcl61 hS61 ?rest62
 case hi62 =>
  simp only [qgaq, qgsq, qgzq]
  rfl
 case hy62 =>
  refine yields_until (by kernel_rfl) (Or.inl ⟨by rfl, fun w' hS => ?_⟩)
  try go_split_ands
  go_simp
  try rfl
 case rest62 =>
 intro hcl62 hS62
 clear hcl61 hS61
 try simp only [Act.put, qsaq, qszq, qssq]
 refine wpAnyL_take (i := 62) (oi := ?oi63) (v := ?v63) ?hi63 (by kernel_rfl) (by kernel_rfl) (by kernel_rfl) (fun _ _ _ h => h) (until_take 86 _ (by decide)) ?hy63 hcl62 hS62 ?rest63
 case hi63 =>
  simp only [qgaq, qgsq, qgzq]
  rfl
 case hy63 =>
  refine yields_until (by kernel_rfl) (Or.inl ⟨by rfl, fun w' hS => ?_⟩)
  try go_split_ands
  go_simp
  try rfl
 case rest63 =>
 intro hcl63 hS63
 clear hcl62 hS62
 try simp only [Act.put, qsaq, qszq, qssq]
 refine wpAnyL_take (i := 63) (oi := ?oi64) (v := ?v64) ?hi64 (by kernel_rfl) (by kernel_rfl) (by kernel_rfl) (fun _ _ _ h => h) (until_take 86 _ (by decide)) ?hy64 hcl63 hS63 ?rest64
 case hi64 =>
  simp only [qgaq, qgsq, qgzq]
  rfl
 case hy64 =>
  refine yields_until (by kernel_rfl) (Or.inl ⟨by rfl, fun w' hS => ?_⟩)
  try go_split_ands
  go_simp
  try rfl
 case rest64 =>
 intro hcl64 hS64
 clear hcl63 hS63
 try simp only [Act.put, qsaq, qszq, qssq]
 refine wpAnyL_take (i := 64) (oi := ?oi65) (v := ?v65) ?hi65 (by kernel_rfl) (by kernel_rfl) (by kernel_rfl) (fun _ _ _ h => h) (until_take 86 _ (by decide)) ?hy65 hcl64 hS64 ?rest65
 case hi65 =>
  simp only [qgaq, qgsq, qgzq]
  rfl
 case hy65 =>
  refine yields_until (by kernel_rfl) (Or.inl ⟨by rfl, fun w' hS => ?_⟩)
  try go_split_ands
  go_simp
  try rfl
 case rest65 =>
 intro hcl65 hS65
 clear hcl64 hS64
 try simp only [Act.put, qsaq, qszq, qssq]
 refine wpAnyL_take (i := 65) (oi := ?oi66) (v := ?v66) ?hi66 (by kernel_rfl) (by kernel_rfl) (by kernel_rfl) (fun _ _ _ h => h) (until_take 86 _ (by decide)) ?hy66 hcl65 hS65 ?rest66
 case hi66 =>
  simp only [qgaq, qgsq, qgzq]
  rfl
 case hy66 =>
  refine yields_until (by kernel_rfl) (Or.inl ⟨by rfl, fun w' hS => ?_⟩)
  try go_split_ands
  go_simp
  try rfl
 case rest66 =>
 intro hcl66 hS66
 clear hcl65 hS65
 try simp only [Act.put, qsaq, qszq, qssq]
 refine wpAnyL_take (i := 66) (oi := ?oi67) (v := ?v67) ?hi67 (by kernel_rfl) (by kernel_rfl) (by kernel_rfl) (fun _ _ _ h => h) (until_take 86 _ (by decide)) ?hy67 hcl66 hS66 ?rest67
 case hi67 =>
  simp only [qgaq, qgsq, qgzq]
  rfl
 case hy67 =>
  refine yields_until (by kernel_rfl) (Or.inl ⟨by rfl, fun w' hS => ?_⟩)
  try go_split_ands
  go_simp
  try rfl
 case rest67 =>
 intro hcl67 hS67
 clear hcl66 hS66
 try simp only [Act.put, qsaq, qszq, qssq]
 refine wpAnyL_take (i := 67) (oi := ?oi68) (v := ?v68) ?hi68 (by kernel_rfl) (by kernel_rfl) (by kernel_rfl) (fun _ _ _ h => h) (until_take 86 _ (by decide)) ?hy68 hcl67 hS67 ?rest68
 case hi68 =>
  simp only [qgaq, qgsq, qgzq]
  rfl
 case hy68 =>
  refine yields_until (by kernel_rfl) (Or.inl ⟨by rfl, fun w' hS => ?_⟩)
  try go_split_ands
  go_simp
  try rfl
 case rest68 =>
 intro hcl68 hS68
 clear hcl67 hS67
 try simp only [Act.put, qsaq, qszq, qssq]
 refine wpAnyL_take (i := 68) (oi := ?oi69) (v := ?v69) ?hi69 (by kernel_rfl) (by kernel_rfl) (by kernel_rfl) (fun _ _ _ h => h) (until_take 86 _ (by decide)) ?hy69 hcl68 hS68 ?rest69
 case hi69 =>
  simp only [qgaq, qgsq, qgzq]
  rfl
 case hy69 =>
  refine yields_until (by kernel_rfl) (Or.inl ⟨by rfl, fun w' hS => ?_⟩)
  try go_split_ands
  go_simp
  try rfl
 case rest69 =>
 intro hcl69 hS69
 clear hcl68 hS68
 try simp only [Act.put, qsaq, qszq, qssq]
 refine wpAnyL_take (i := 69) (oi := ?oi70) (v := ?v70) ?hi70 (by kernel_rfl) (by kernel_rfl) (by kernel_rfl) (fun _ _ _ h => h) (until_take 86 _ (by decide)) ?hy70 hcl69 hS69 ?rest70
 case hi70 =>
  simp only [qgaq, qgsq, qgzq]
  rfl
 case hy70 =>
  refine yields_until (by kernel_rfl) (Or.inl ⟨by rfl, fun w' hS => ?_⟩)
  try go_split_ands
  go_simp
  try rfl
 case rest70 =>
 intro hcl70 hS70
 clear hcl69 hS69
 try simp only [Act.put, qsaq, qszq, qssq]
 refine wpAnyL_take (i := 70) (oi := ?oi71) (v := ?v71) ?hi71 (by kernel_rfl) (by kernel_rfl) (by kernel_rfl) (fun _ _ _ h => h) (until_take 86 _ (by decide)) ?hy71 hcl70 hS70 ?rest71
 case hi71 =>
  simp only [qgaq, qgsq, qgzq]
  rfl
 case hy71 =>
  refine yields_until (by kernel_rfl) (Or.inl ⟨by rfl, fun w' hS => ?_⟩)
  try go_split_ands
  go_simp
  try rfl
 case rest71 =>
 intro hcl71 hS71
 clear hcl70 hS70
 try simp only [Act.put, qsaq, qszq, qssq]
 refine wpAnyL_take (i := 71) (oi := ?oi72) (v := ?v72) ?hi72 (by kernel_rfl) (by kernel_rfl) (by kernel_rfl) (fun _ _ _ h => h) (until_take 86 _ (by decide)) ?hy72 hcl71 hS71 ?rest72
 case hi72 =>
  simp only [qgaq, qgsq, qgzq]
  rfl
 case hy72 =>
  refine yields_until (by kernel_rfl) (Or.inl ⟨by rfl, fun w' hS => ?_⟩)
  try go_split_ands
  go_simp
  try rfl
 case rest72 =>
 intro hcl72 hS72
 clear hcl71 hS71
 try simp only [Act.put, qsaq, qszq, qssq]
 refine wpAnyL_take (i := 72) (oi := ?oi73) (v := ?v73) ?hi73 (by kernel_rfl) (by kernel_rfl) (by kernel_rfl) (fun _ _ _ h => h) (until_take 86 _ (by decide)) ?hy73 hcl72 hS72 ?rest73
 case hi73 =>
  simp only [qgaq, qgsq, qgzq]
  rfl
 case hy73 =>
  refine yields_until (by kernel_rfl) (Or.inl ⟨by rfl, fun w' hS => ?_⟩)
  try go_split_ands
  go_simp
  try rfl
 case rest73 =>
 intro hcl73 hS73
 clear hcl72 hS72
 try simp only [Act.put, qsaq, qszq, qssq]
 refine wpAnyL_step (i := 73) (o := ?oi74) ?hi74 (by kernel_rfl) hcl73 ?rest74
 case hi74 =>
  simp only [qgaq, qgsq, qgzq]
  rfl
 case rest74 =>
 intro K hK
 go_simp
 refine (Y5.out _ (((Wr.refl [] w18).drew.trans s1).trans s2)).mono ?_
 rintro e w21 ⟨rfl, s3⟩
 refine hK _ _ (fun _ => HC.out _ ((((Wr.refl [] w18).drew.trans s1).trans s2).trans s3)) (fun hcl74 => ?_)
 clear hK K hcl73 hS73
 try simp only [Act.put, qsaq, qszq, qssq]
 refine wpAnyL_take (i := 74) (oi := ?oi75) (v := ?v75) ?hi75 (by kernel_rfl) (by kernel_rfl) (by kernel_rfl) (fun _ _ _ h => h) (until_take 86 _ (by decide)) ?hy75 hcl74 (fun _ => HC.out _ ((((Wr.refl [] w18).drew.trans s1).trans s2).trans s3)) ?rest75
 case hi75 =>
  simp only [qgaq, qgsq, qgzq]
  rfl
 case hy75 =>
  refine yields_until (by kernel_rfl) (Or.inl ⟨by rfl, fun w' hS => ?_⟩)
  try go_split_ands
  go_simp
  try rfl
 case rest75 =>
 intro hcl75 hS75
 clear hcl74
 try simp only [Act.put, qsaq, qszq, qssq]
 refine wpAnyL_take (i := 75) (oi := ?oi76) (v := ?v76) ?hi76 (by kernel_rfl) (by kernel_rfl) (by kernel_rfl) (fun _ _ _ h => h) (until_take 86 _ (by decide)) ?hy76 hcl75 hS75 ?rest76
 case hi76 =>
  simp only [qgaq, qgsq, qgzq]
  rfl
 case hy76 =>
  refine yields_until (by kernel_rfl) (Or.inl ⟨by rfl, fun w' hS => ?_⟩)
  try go_split_ands
  go_simp
  try rfl
 case rest76 =>
 intro hcl76 hS76
 clear hcl75 hS75
 try simp only [Act.put, qsaq, qszq, qssq]
 refine wpAnyL_take (i := 76) (oi := ?oi77) (v := ?v77) ?hi77 (by kernel_rfl) (by kernel_rfl) (by kernel_rfl) (fun _ _ _ h => h) (until_take 86 _ (by decide)) ?hy77 hcl76 hS76 ?rest77
 case hi77 =>
  simp only [qgaq, qgsq, qgzq]
  rfl
 case hy77 =>
  refine yields_until (by kernel_rfl) (Or.inl ⟨by rfl, fun w' hS => ?_⟩)
  try go_split_ands
  go_simp
  try rfl
 case rest77 =>
 intro hcl77 hS77
 clear hcl76 hS76
 try simp only [Act.put, qsaq, qszq, qssq]
 refine wpAnyL_take (i := 77) (oi := ?oi78) (v := ?v78) ?hi78 (by kernel_rfl) (by kernel_rfl) (by kernel_rfl) (fun _ _ _ h => h) (until_take 86 _ (by decide)) ?hy78 hcl77 hS77 ?rest78
 case hi78 =>
  simp only [qgaq, qgsq, qgzq]
  rfl
 case hy78 =>
  refine yields_until (by kernel_rfl) (Or.inl ⟨by rfl, fun w' hS => ?_⟩)
  try go_split_ands
  go_simp
  try rfl
 case rest78 =>
 intro hcl78 hS78
 clear hcl77 hS77
 try simp only [Act.put, qsaq, qszq, qssq]
 refine wpAnyL_step (i := 78) (o := ?oi79) ?hi79 (by kernel_rfl) hcl78 ?rest79
 case hi79 =>
  simp only [qgaq, qgsq, qgzq]
  rfl
 case rest79 =>
 intro K hK
 go_simp
 refine (Y6.out _ ((((Wr.refl [] w18).drew.trans s1).trans s2).trans s3)).mono ?_
 rintro e w22 ⟨rfl, s4⟩
 refine hK _ _ (fun _ => HC.out _ (((((Wr.refl [] w18).drew.trans s1).trans s2).trans s3).trans s4)) (fun hcl79 => ?_)
 clear hK K hcl78 hS78
 try simp only [Act.put, qsaq, qszq, qssq]
 refine wpAnyL_take (i := 79) (oi := ?oi80) (v := ?v80) ?hi80 (by kernel_rfl) (by kernel_rfl) (by kernel_rfl) (fun _ _ _ h => h) (until_take 86 _ (by decide)) ?hy80 hcl79 (fun _ => HC.out _ (((((Wr.refl [] w18).drew.trans s1).trans s2).trans s3).trans s4)) ?rest80
 case hi80 =>
  simp only [qgaq, qgsq, qgzq]
  rfl
 case hy80 =>
  refine yields_until (by kernel_rfl) (Or.inl ⟨by rfl, fun w' hS => ?_⟩)
  try go_split_ands
  go_simp
  try rfl
 case rest80 =>
 intro hcl80 hS80
 clear hcl79
 try simp only [Act.put, qsaq, qszq, qssq]
 refine wpAnyL_take (i := 80) (oi := ?oi81) (v := ?v81) ?hi81 (by kernel_rfl) (by kernel_rfl) (by kernel_rfl) (fun _ _ _ h => h) (until_take 86 _ (by decide)) ?hy81 hcl80 hS80 ?rest81
 case hi81 =>
  simp only [qgaq, qgsq, qgzq]
  rfl
 case hy81 =>
  refine yields_until (by kernel_rfl) (Or.inl ⟨by rfl, fun w' hS => ?_⟩)
  try go_split_ands
  go_simp
  try rfl
 case rest81 =>
 intro hcl81 hS81
 clear hcl80 hS80
 try simp only [Act.put, qsaq, qszq, qssq]
 refine wpAnyL_take (i := 81) (oi := ?oi82) (v := ?v82) ?hi82 (by kernel_rfl) (by kernel_rfl) (by kernel_rfl) (fun _ _ _ h => h) (until_take 86 _ (by decide)) ?hy82 hcl81 hS81 ?rest82
 case hi82 =>
  simp only [qgaq, qgsq, qgzq]
  rfl
 case hy82 =>
  refine yields_until (by kernel_rfl) (Or.inl ⟨by rfl, fun w' hS => ?_⟩)
  try go_split_ands
  go_simp
  try rfl
 case rest82 =>
 intro hcl82 hS82
 clear hcl81 hS81
 try simp only [Act.put, qsaq, qszq, qssq]
 refine wpAnyL_step (i := 82) (o := ?oi83) ?hi83 (by kernel_rfl) hcl82 ?rest83
 case hi83 =>
  simp only [qgaq, qgsq, qgzq]
  rfl
 case rest83 =>
 intro K hK
 go_simp
 refine (HS.out _).mono ?_
 rintro e w23 ⟨gt10, gi10, rfl, s5, _, _, _, bt10, bi10⟩
 have M10 := Lib.hid (SmallM.mk bt10 bi10)
 clear bt10 bi10
 refine hK _ _ (fun _ => HC.out _ ((((((Wr.refl [] w18).drew.trans s1).trans s2).trans s3).trans s4).trans s5)) (fun hcl83 => ?_)
 clear hK K hcl82 hS82
 try simp only [Act.put, qsaq, qszq, qssq]
 refine wpAnyL_step (i := 83) (o := ?oi84) ?hi84 (by kernel_rfl) hcl83 ?rest84
 case hi84 =>
  simp only [qgaq, qgsq, qgzq]
  rfl
 case rest84 =>
 intro K hK
 go_simp
 refine (Y7.out _ _ _ M10.out).mono ?_
 rintro e w24 ⟨rfl, s6⟩
 refine hK _ _ (fun _ => HC.out _ (((((((Wr.refl [] w18).drew.trans s1).trans s2).trans s3).trans s4).trans s5).trans s6)) (fun hcl84 => ?_)
 clear hK K hcl83
 try simp only [Act.put, qsaq, qszq, qssq]
 refine wpAnyL_take (i := 84) (oi := ?oi85) (v := ?v85) ?hi85 (by kernel_rfl) (by kernel_rfl) (by kernel_rfl) (fun _ _ _ h => h) (until_take 86 _ (by decide)) ?hy85 hcl84 (fun _ => HC.out _ (((((((Wr.refl [] w18).drew.trans s1).trans s2).trans s3).trans s4).trans s5).trans s6)) ?rest85
 case hi85 =>
  simp only [qgaq, qgsq, qgzq]
  rfl
 case hy85 =>
  refine yields_until (by kernel_rfl) (Or.inl ⟨by rfl, fun w' hS => ?_⟩)
  try go_split_ands
  go_simp
  try rfl
 case rest85 =>
 intro hcl85 hS85
 clear hcl84
 try simp only [Act.put, qsaq, qszq, qssq]
 refine wpAnyL_take (i := 85) (oi := ?oi86) (v := ?v86) ?hi86 (by kernel_rfl) (by kernel_rfl) (by kernel_rfl) (fun _ _ _ h => h) (until_take 86 _ (by decide)) ?hy86 hcl85 hS85 ?rest86
 case hi86 =>
  simp only [qgaq, qgsq, qgzq]
  rfl
 case hy86 =>
  refine yields_until (by kernel_rfl) (Or.inl ⟨by rfl, fun w' hS => ?_⟩)
  try go_split_ands
  go_simp
  try rfl
 case rest86 =>
 intro hcl86 hS86
 clear hcl85 hS85
 try simp only [Act.put, qsaq, qszq, qssq]
 refine wpAnyL_step (i := 86) (o := ?oi87) ?hi87 (by kernel_rfl) hcl86 ?rest87
 case hi87 =>
  simp only [qgaq, qgsq, qgzq]
  rfl
 case rest87 =>
 intro K hK
 go_simp
 refine hK _ _ (fun hb => absurd hb (by decide)) (fun hcl999 => ?_)
 clear hK K hcl86 hS86
 refine wpAnyL_done (by kernel_rfl) (NoPanic.normal ?_) _
 try simp only [Act.put, qsaq, qszq, qssq]
 go_wp2_with fail
 go_ret
 exact ⟨rfl, R18.out.trans (((((((Wr.refl [] w18).drew.trans s1).trans s2).trans s3).trans s4).trans s5).trans s6)⟩
end Go.Proofs.YtmpbkfbjmmoapaaGreat
