/- law 14's Same; key.Iface, any interface: walked. Conditions: numbers are within their kinds. -/
import Derived.Test.YtjanbpchedgoiaaKI20
import Derived.Test.YtjanbpchedgoiaaKI23
import Derived.Test.YtjanbpchedgoiaaKI28
namespace Go.Proofs.Ytjanbpchedgoiaa
open Go.RowKit
set_option linter.unusedVariables false
set_option linter.unusedSimpArgs false

set_option maxRecDepth 100000 in
set_option maxHeartbeats 8000000 in
theorem lawSame_any (x y : FaceD) (vu vt vi uu ut ui : Value) (P Q : Nat → Prop) (w : World) (hx : FaceL w P vu vt vi x) (hy : FaceL w Q uu ut ui y) (wx : faceW x) (wy : faceW y) (nx : x.items.length ≤ 1000000) (ny : y.items.length ≤ 1000000) :
    Calls Try.prog 15 #[.agg #[.string x.module, vu, vt, vi], .agg #[.string y.module, uu, ut, ui]] w (BoolE (eqB (facePl x) (facePl y)) w) := by
  obtain ⟨⟨A1, a1, rfl, la1, ma1⟩, ⟨A2, a2, rfl, la2, ma2⟩, ⟨A3, a3, rfl, la3, ma3⟩⟩ := hx.forms
  obtain ⟨⟨B1, b1, rfl, lb1, mb1⟩, ⟨B2, b2, rfl, lb2, mb2⟩, ⟨B3, b3, rfl, lb3, mb3⟩⟩ := hy.forms
  unfold maxLen at ma1 ma2 ma3 mb1 mb2 mb3
  obtain ⟨wa, hwa⟩ : ∃ q, w.alloc (.cells #[.string x.module, .slice A1 x.uses.length a1, .slice A2 x.types.length a2, .slice A3 x.items.length a3] 39) = q := ⟨_, rfl⟩
  obtain ⟨g, hg⟩ : ∃ q, w.heap.size = q := ⟨_, rfl⟩
  have sa : wa.heap.size = g + 1 := by rw [← hwa, World.size_alloc, hg]
  obtain ⟨w0, hw0⟩ : ∃ q, wa.alloc (.cells #[.string y.module, .slice B1 y.uses.length b1, .slice B2 y.types.length b2, .slice B3 y.items.length b3] 39) = q := ⟨_, rfl⟩
  have ra : Wr [] w wa := by rw [← hwa]; exact (Wr.refl _ _).alloc _
  have rb : Wr [] wa w0 := by rw [← hw0]; exact (Wr.refl _ _).alloc _
  have bX : Blk w0 g 39 #[.string x.module, .slice A1 x.uses.length a1, .slice A2 x.types.length a2, .slice A3 x.items.length a3] := by
    have := (show Blk wa g 39 #[.string x.module, .slice A1 x.uses.length a1, .slice A2 x.types.length a2, .slice A3 x.items.length a3] by rw [← hwa, ← hg]; exact Blk.new _ _ _)
    exact this.wr0 rb
  have bY : Blk w0 (g + 1) 39 #[.string y.module, .slice B1 y.uses.length b1, .slice B2 y.types.length b2, .slice B3 y.items.length b3] := by rw [← hw0, ← sa]; exact Blk.new _ _ _
  have hw0' : (w.alloc (.cells #[.string x.module, .slice A1 x.uses.length a1, .slice A2 x.types.length a2, .slice A3 x.items.length a3] 39)).alloc (.cells #[.string y.module, .slice B1 y.uses.length b1, .slice B2 y.types.length b2, .slice B3 y.items.length b3] 39) = w0 := by rw [hwa, hw0]
  have acc := ra.trans rb
  have hpx := fun W (hW : Wr [] w0 W) => plain_face x _ _ _ _ W (hx.wr0 (acc.trans hW)) wx.vals nx
  have hpy := fun W (hW : Wr [] w0 W) => plain_face y _ _ _ _ W (hy.wr0 (acc.trans hW)) wy.vals ny
  have x0 := bX.cell 0
  have y0 := bY.cell 0
  have x1 := bX.cell 1
  have y1 := bY.cell 1
  have x2 := bX.cell 2
  have y2 := bY.cell 2
  have x3 := bX.cell 3
  have y3 := bY.cell 3
  simp only [List.getElem?_toArray, List.getElem?_cons_zero, List.getElem?_cons_succ] at x0 x1 x2 x3 y0 y1 y2 y3
  have ACC := Lib.hid acc
  have HPX := Lib.hid hpx
  have HPY := Lib.hid hpy
  have Hw0 := Lib.hid hw0'
  have Hg := Lib.hid hg
  clear hx hy hwa hw0 hw0' hg sa ra rb acc bX bY hpx hpy
  go_enter Try.func15, Try.ntmps15
  go_upto_region 1 with (fail)
  rw [Hw0.out, Hg.out]
  have hC : ∀ W, Wr [] w0 W → W.cell? ⟨g, 0, none⟩ = some (.string x.module) ∧ W.cell? ⟨g, 1, none⟩ = some (.slice A1 x.uses.length a1) ∧ W.cell? ⟨g, 2, none⟩ = some (.slice A2 x.types.length a2) ∧ W.cell? ⟨g, 3, none⟩ = some (.slice A3 x.items.length a3) ∧ W.cell? ⟨g + 1, 0, none⟩ = some (.string y.module) ∧ W.cell? ⟨g + 1, 1, none⟩ = some (.slice B1 y.uses.length b1) ∧ W.cell? ⟨g + 1, 2, none⟩ = some (.slice B2 y.types.length b2) ∧ W.cell? ⟨g + 1, 3, none⟩ = some (.slice B3 y.items.length b3) := fun W hW => ⟨hW.cellOf x0 (by simp), hW.cellOf x1 (by simp), hW.cellOf x2 (by simp), hW.cellOf x3 (by simp), hW.cellOf y0 (by simp), hW.cellOf y1 (by simp), hW.cellOf y2 (by simp), hW.cellOf y3 (by simp)⟩
  have HC := Lib.hid hC
  clear hC
  refine wp_region_noPanic ?_
  refine wp_region_L (AlwaysC fun w' => w'.cell? ⟨g, 0, none⟩ = some (.string x.module) ∧ w'.cell? ⟨g, 1, none⟩ = some (.slice A1 x.uses.length a1) ∧ w'.cell? ⟨g, 2, none⟩ = some (.slice A2 x.types.length a2) ∧ w'.cell? ⟨g, 3, none⟩ = some (.slice A3 x.items.length a3) ∧ w'.cell? ⟨g + 1, 0, none⟩ = some (.string y.module) ∧ w'.cell? ⟨g + 1, 1, none⟩ = some (.slice B1 y.uses.length b1) ∧ w'.cell? ⟨g + 1, 2, none⟩ = some (.slice B2 y.types.length b2) ∧ w'.cell? ⟨g + 1, 3, none⟩ = some (.slice B3 y.items.length b3)) (by kernel_rfl) (fun hcl => ?_)
  have hS : AlwaysC (fun w' => w'.cell? ⟨g, 0, none⟩ = some (.string x.module) ∧ w'.cell? ⟨g, 1, none⟩ = some (.slice A1 x.uses.length a1) ∧ w'.cell? ⟨g, 2, none⟩ = some (.slice A2 x.types.length a2) ∧ w'.cell? ⟨g, 3, none⟩ = some (.slice A3 x.items.length a3) ∧ w'.cell? ⟨g + 1, 0, none⟩ = some (.string y.module) ∧ w'.cell? ⟨g + 1, 1, none⟩ = some (.slice B1 y.uses.length b1) ∧ w'.cell? ⟨g + 1, 2, none⟩ = some (.slice B2 y.types.length b2) ∧ w'.cell? ⟨g + 1, 3, none⟩ = some (.slice B3 y.items.length b3)) (Array.replicate 6 false) w0.drew := ⟨x0, x1, x2, x3, y0, y1, y2, y3⟩
  refine wpAnyL_take (i := 0) (oi := ?oi1) (v := ?v1) ?hi1 (by kernel_rfl) (by kernel_rfl) (by kernel_rfl) (fun _ _ _ h => h) (alwaysC_take _) ?hy1 hcl hS ?rest1
  case hi1 =>
    simp only [List.getElem?_toArray, List.getElem?_cons_succ, List.getElem?_cons_zero]
    rfl
  case hy1 =>
    refine yields_alwaysC (Or.inl ⟨by rfl, fun w' hS => ?_⟩)
    try go_split_ands
    go_simp
    try rfl
  case rest1 =>
  intro hcl1 hS1
  clear hcl hS
  try simp only [Act.put, List.setIfInBounds_toArray, List.set_cons_zero, List.set_cons_succ]
  refine wpAnyL_take (i := 2) (oi := ?oi2) (v := ?v2) ?hi2 (by kernel_rfl) (by kernel_rfl) (by kernel_rfl) (fun _ _ _ h => h) (alwaysC_take _) ?hy2 hcl1 hS1 ?rest2
  case hi2 =>
    simp only [List.getElem?_toArray, List.getElem?_cons_succ, List.getElem?_cons_zero]
    rfl
  case hy2 =>
    refine yields_alwaysC (Or.inl ⟨by rfl, fun w' hS => ?_⟩)
    try go_split_ands
    go_simp
    try rfl
  case rest2 =>
  intro hcl2 hS2
  clear hcl1 hS1
  try simp only [Act.put, List.setIfInBounds_toArray, List.set_cons_zero, List.set_cons_succ]
  refine wpAnyL_step (i := 1) (o := ?oi3) ?hi3 (by kernel_rfl) hcl2 ?rest3
  case hi3 =>
    simp only [List.getElem?_toArray, List.getElem?_cons_succ, List.getElem?_cons_zero]
    rfl
  case rest3 =>
  intro K hK
  go_simp
  refine (HPX.out _ (Wr.refl [] w0).drew).mono ?_
  rintro e w1 ⟨pi, rfl, r1, p1⟩
  have P1 := Lib.hid p1
  clear p1
  refine hK _ _ (HC.out _ ((Wr.refl [] w0).drew.trans r1)) (fun hcl3 => ?_)
  clear hK K hcl2 hS2
  try simp only [Act.put, List.setIfInBounds_toArray, List.set_cons_zero, List.set_cons_succ]
  refine wpAnyL_step (i := 3) (o := ?oi4) ?hi4 (by kernel_rfl) hcl3 ?rest4
  case hi4 =>
    simp only [List.getElem?_toArray, List.getElem?_cons_succ, List.getElem?_cons_zero]
    rfl
  case rest4 =>
  intro K hK
  go_simp
  refine (HPY.out _ ((Wr.refl [] w0).drew.trans r1)).mono ?_
  rintro e w2 ⟨qi, rfl, r2, p2⟩
  have h3 := refSame_any (facePl x) (facePl y) _ _ _ _ _ _ _ _ w2 (P1.out.wr0 r2) p2
  have H3 := Lib.hid h3
  clear p2 h3
  refine hK _ _ (HC.out _ (((Wr.refl [] w0).drew.trans r1).trans r2)) (fun hcl4 => ?_)
  clear hK K hcl3
  try simp only [Act.put, List.setIfInBounds_toArray, List.set_cons_zero, List.set_cons_succ]
  refine wpAnyL_step (i := 4) (o := ?oi5) ?hi5 (by kernel_rfl) hcl4 ?rest5
  case hi5 =>
    simp only [List.getElem?_toArray, List.getElem?_cons_succ, List.getElem?_cons_zero]
    rfl
  case rest5 =>
  intro K hK
  go_simp
  refine H3.out.mono ?_
  rintro e w3 ⟨rfl, r3⟩
  refine hK _ _ (HC.out _ ((((Wr.refl [] w0).drew.trans r1).trans r2).trans r3)) (fun hcl5 => ?_)
  clear hK K hcl4
  try simp only [Act.put, List.setIfInBounds_toArray, List.set_cons_zero, List.set_cons_succ]
  refine wpAnyL_step (i := 5) (o := ?oi6) ?hi6 (by kernel_rfl) hcl5 ?rest6
  case hi6 =>
    simp only [List.getElem?_toArray, List.getElem?_cons_succ, List.getElem?_cons_zero]
    rfl
  case rest6 =>
  intro K hK
  go_simp
  refine hK _ _ (HC.out _ ((((Wr.refl [] w0).drew.trans r1).trans r2).trans r3)) (fun hcl6 => ?_)
  clear hK K hcl5
  try simp only [Act.put, List.setIfInBounds_toArray, List.set_cons_zero, List.set_cons_succ]
  refine wpAnyL_done (by kernel_rfl) (NoPanic.normal ?_) _
  go_wp2_with fail
  go_ret
  exact ⟨rfl, ((((ACC.out.trans (Wr.refl [] w0).drew).trans r1).trans r2).trans r3)⟩
theorem faceW_canon {f : FaceD} (h : faceW f) (hm : mayP f = 0) : faceW (canonF f) := by
  refine ⟨h.keys, fun t ht => ?_, fun x hx => ?_, fun x hx => ?_⟩
  · obtain ⟨k, hk⟩ := List.getElem?_of_mem ht
    unfold canonF at hk
    rw [List.getElem?_map] at hk
    cases hn : (ordOf f)[k]? with
    | none => rw [hn] at hk; cases hk
    | some n =>
      obtain ⟨t0, h0, h1⟩ := canon_type hm hn
      rw [hn] at hk
      simp only [Option.map_some, Option.some.injEq] at hk
      rw [h0] at hk
      simp only [Option.getD_some] at hk
      subst hk
      exact h.kinds t0 (List.mem_of_getElem? h0)
  · unfold canonF at hx
    obtain ⟨y, hy, rfl⟩ := List.mem_map.1 hx
    exact h.sorts y hy
  · unfold canonF at hx
    obtain ⟨y, hy, rfl⟩ := List.mem_map.1 hx
    have := h.vals y hy
    unfold anewI
    revert this
    cases y.v <;> exact id
/-- An interface's key, and which error. -/
def keyP (f : FaceD) : Nat × Int := if mayP f = 0 then (keyN ⟨(faceL (canonF f)).toArray⟩, 0) else (0, mayP f)
set_option maxRecDepth 100000 in
set_option maxHeartbeats 8000000 in
theorem keyIface_any (f : FaceD) (vu vt vi : Value) (P : Nat → Prop) (w : World) (h : FaceL w P vu vt vi f) (hW : faceW f) :
    Calls Try.prog 12 #[.agg #[.string f.module, vu, vt, vi]] w fun e w' => e = .returned (.tuple #[.int .u64 ((keyP f).1 : Int), .int .i64 (keyP f).2]) ∧ Wr [] w w' := by
  obtain ⟨⟨A1, k1, rfl, hn1, hn2⟩, ⟨A2, k2, rfl, hf1, hf2⟩, ⟨A3, k3, rfl, ha1, ha2⟩⟩ := h.forms
  unfold maxLen at hn2 hf2 ha2
  have h1 := fun W (hWr : Wr [] w W) => canon_any f _ _ _ P W (h.wr0 hWr)
  obtain ⟨w0, hw0⟩ : ∃ w0, w.alloc (.cells #[.string f.module, .slice A1 f.uses.length k1, .slice A2 f.types.length k2, .slice A3 f.items.length k3] 39) = w0 := ⟨_, rfl⟩
  obtain ⟨g, hg⟩ : ∃ g, w.heap.size = g := ⟨_, rfl⟩
  have acc : Wr [] w w0 := by rw [← hw0]; exact (Wr.refl _ _).alloc _
  have bA : Blk w0 g 39 #[.string f.module, .slice A1 f.uses.length k1, .slice A2 f.types.length k2, .slice A3 f.items.length k3] := by rw [← hw0, ← hg]; exact Blk.new _ _ _
  have Hw0 := Lib.hid hw0
  have Hg := Lib.hid hg
  have H1 := Lib.hid h1
  have HM0 := Lib.hid hW
  clear hw0 hg h h1 hW
  by_cases hm : mayP f = 0
  · have hk : keyP f = (keyN ⟨(faceL (canonF f)).toArray⟩, 0) := by unfold keyP; rw [if_pos hm]
    rw [hk]
    unfold keyN
    have hcm := canon_may hm
    have hroom := face_room (face_parts hcm).1
    have h3 := fun W => of_any ⟨(faceL (canonF f)).toArray⟩ (by show (faceL (canonF f)).toArray.size ≤ _; unfold maxLen; simp; omega) W
    obtain ⟨s, hs⟩ : ∃ s, (⟨(faceL (canonF f)).toArray⟩ : ByteArray) = s := ⟨_, rfl⟩
    simp only [hs] at h3 ⊢
    obtain ⟨K, hKK⟩ : ∃ K, ofN (moreN 14695981039346656037 (natsOf s)) = K := ⟨_, rfl⟩
    simp only [hKK] at h3 ⊢
    have H3 := Lib.hid h3
    have HSS := Lib.hid hs
    clear h3 hroom hs hKK
    go_enter Try.func12, Try.ntmps12
    go_upto_region 1 with (fail)
    rw [Hw0.out, Hg.out]
    have c0 := bA.cell 0
    have c1 := bA.cell 1
    have c2 := bA.cell 2
    have c3 := bA.cell 3
    simp only [List.getElem?_toArray, List.getElem?_cons_zero, List.getElem?_cons_succ] at c0 c1 c2 c3
    have cz0 := bA.frozen 0
    have cz1 := bA.frozen 1
    have cz2 := bA.frozen 2
    have cz3 := bA.frozen 3
    go_wp2_with fail
    refine (H1.out _ acc).mono ?_
    rintro e w1 ⟨vu, vt, vi, rfl, r1, hl⟩
    have ACC := Lib.hid (acc.trans r1)
    clear c0 c1 c2 c3 cz0 cz1 cz2 cz3 bA acc r1
    have hcp : canonP f = (canonF f, 0) := by unfold canonP; rw [if_pos hm]
    rw [hcp] at hl ⊢
    have he : encFaceP (canonF f) = (faceL (canonF f), 0) := by unfold encFaceP; rw [if_pos hcm]
    have h2 := fun W (hWr : Wr [] w1 W) => encode_any (canonF f) vu vt vi _ (faceW_canon HM0.out hm) W (hl.wr0 hWr)
    unfold EncodeR at h2
    rw [he] at h2
    obtain ⟨⟨B1, b1, rfl, _, _⟩, ⟨B2, b2, rfl, _, _⟩, ⟨B3, b3, rfl, _, _⟩⟩ := hl.forms
    simp only [FaceD.val] at h2 ⊢
    simp only [HSS.out] at h2
    have H2 := Lib.hid h2
    clear hl hm hk hcp hcm he h2 H1 HM0
    go_wp2_with fail
    refine (H2.out _ ((Wr.refl [] w1).alloc _)).mono ?_
    rintro e w2 ⟨rfl, k2⟩
    have A2 := Lib.hid ((ACC.out.alloc _).trans k2)
    clear k2
    go_wp2_with fail
    refine (H3.out _).mono ?_
    rintro e w3 ⟨rfl, rfl⟩
    go_wp2_with fail
    go_ret2
    exact ⟨rfl, A2.out⟩
  · have hk : keyP f = (0, mayP f) := by unfold keyP; rw [if_neg hm]
    rw [hk]
    obtain ⟨mv, hmv⟩ : ∃ mv, mayP f = mv := ⟨_, rfl⟩
    rw [hmv] at hm ⊢
    have HMV := Lib.hid hmv
    clear hmv hk
    go_enter Try.func12, Try.ntmps12
    go_upto_region 1 with (fail)
    rw [Hw0.out, Hg.out]
    have c0 := bA.cell 0
    have c1 := bA.cell 1
    have c2 := bA.cell 2
    have c3 := bA.cell 3
    simp only [List.getElem?_toArray, List.getElem?_cons_zero, List.getElem?_cons_succ] at c0 c1 c2 c3
    have cz0 := bA.frozen 0
    have cz1 := bA.frozen 1
    have cz2 := bA.frozen 2
    have cz3 := bA.frozen 3
    go_wp2_with fail
    refine (H1.out _ acc).mono ?_
    rintro e w1 ⟨vu, vt, vi, rfl, r1, hl⟩
    have ACC := Lib.hid (acc.trans r1)
    clear c0 c1 c2 c3 cz0 cz1 cz2 cz3 bA acc r1
    have hcp : canonP f = (noFace, mv) := by unfold canonP; rw [HMV.out, if_neg hm]
    rw [hcp] at hl ⊢
    obtain ⟨⟨B1, b1, rfl, _, _⟩, ⟨B2, b2, rfl, _, _⟩, ⟨B3, b3, rfl, _, _⟩⟩ := hl.forms
    simp only [FaceD.val]
    have hne : mv ≠ 0 := hm
    clear hl hcp H1 HM0 hm
    go_wp2_with fail
    go_ret2
    exact ⟨rfl, ACC.out.alloc _⟩
end Go.Proofs.Ytjanbpchedgoiaa
