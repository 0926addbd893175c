/- law 14's Of: walked. Conditions: sorts are not below zero. -/
import Derived.Test.YtmpbkfbjmmoapaaIB02
import Derived.Test.YtmpbkfbjmmoapaaIB10
import Derived.Deep.RegionHeld3
import Derived.LoopN
import Derived.Test.YtmpbkfbjmmoapaaIB03
namespace Go.Proofs.Ytmpbkfbjmmoapaa
open Go.RowKit
set_option linter.unusedVariables false
set_option linter.unusedSimpArgs false
/-- Behind k items. -/
def OfAt (w0 : World) (f : FaceP) (g : Nat) (cs zs : Array Value) (vu vt : Value) (k : Nat) (w : World) : Prop :=
  ∃ v, Wr [g + 1 + 1] w0 w ∧ Blk w g 26 cs ∧ Blk w (g + 1) 31 zs ∧ Blk w (g + 1 + 1) 31 #[.string f.module, vu, vt, v] ∧ w.ownsRow (g + 1 + 1 + 1) 44 5 v k (((f.items.take k).map itmOf).flatMap ItmD.cells)
theorem FacePL.into {w : World} {P Q : Nat → Prop} {vu vt vi : Value} {f : FaceP} (h : FacePL w P vu vt vi f) (hP : ∀ b, P b → b < w.heap.size → Q b) : FacePL w Q vu vt vi f := ⟨Sl.into h.uses hP, h.types.into hP, Sl.into h.items hP⟩
theorem val_cells (v : AnyD) : v.val.cells = #[v.val] := by cases v <;> rfl
end Go.Proofs.Ytmpbkfbjmmoapaa

/- law 14's Of, and where what it answers lies: walked. Conditions: as at Of. -/
namespace Go.Proofs.Ytmpbkfbjmmoapaa
open Go.RowKit
set_option linter.unusedVariables false
set_option linter.unusedSimpArgs false
/-- What Of answers. -/
def OfR2 (f : FaceP) (P : Nat → Prop) (vu vt : Value) (w : World) (e : Ending) (w' : World) : Prop := ∃ vi, e = .returned ((faceOf f).val vu vt vi) ∧ Wr [] w w' ∧ FaceL w' (fun b => P b ∨ w.heap.size ≤ b) vu vt vi (faceOf f)
set_option maxRecDepth 100000 in
set_option maxHeartbeats 8000000 in
theorem of_face_at (f : FaceP) (vu vt vi : Value) (P : Nat → Prop) (w : World) (h : FacePL w P vu vt vi f) (hs : ∀ x ∈ f.items, 0 ≤ x.v.sort) (hn : f.items.length ≤ 1000000) :
    Calls Try.prog 7 #[.agg #[.string f.module, vu, vt, vi]] w (OfR2 f P vu vt w) := by
  obtain ⟨⟨A1, k1, rfl, hn1, hn2⟩, ⟨A2, k2, rfl, hf1, hf2⟩, ⟨A3, k3, rfl, ha1, ha2⟩⟩ := h.forms
  unfold maxLen at hn2 hf2 ha2
  obtain ⟨i0, hi0, hz0, hz1, hz2⟩ := info_parts info_exp
  obtain ⟨w0, hw0⟩ : ∃ w0, ((w.alloc (.cells #[.string f.module, .slice A1 f.uses.length k1, .slice A2 f.types.length k2, .slice A3 f.items.length k3] 26)).alloc (.cells #[.string ⟨#[]⟩, .slice none 0 0, .slice none 0 0, .slice none 0 0] 31)).alloc (.cells #[.string f.module, .slice A1 f.uses.length k1, .slice A2 f.types.length k2, .slice none 0 0] 31) = w0 := ⟨_, rfl⟩
  obtain ⟨g, hg⟩ : ∃ g, w.heap.size = g := ⟨_, rfl⟩
  have acc : Wr [] w w0 := by rw [← hw0]; exact (((Wr.refl _ _).alloc _).alloc _).alloc _
  have bF : Blk w0 g 26 #[.string f.module, .slice A1 f.uses.length k1, .slice A2 f.types.length k2, .slice A3 f.items.length k3] := by rw [← hw0, ← hg]; exact ((Blk.new _ _ _).alloc _).alloc _
  obtain ⟨a1, ha1'⟩ : ∃ a, w.alloc (.cells #[.string f.module, .slice A1 f.uses.length k1, .slice A2 f.types.length k2, .slice A3 f.items.length k3] 26) = a := ⟨_, rfl⟩
  obtain ⟨a2, ha2'⟩ : ∃ a, a1.alloc (.cells #[.string ⟨#[]⟩, .slice none 0 0, .slice none 0 0, .slice none 0 0] 31) = a := ⟨_, rfl⟩
  have s1 : a1.heap.size = g + 1 := by rw [← ha1', World.size_alloc, hg]
  have s2 : a2.heap.size = g + 1 + 1 := by rw [← ha2', World.size_alloc, s1]
  have bR : Blk w0 (g + 1) 31 #[.string ⟨#[]⟩, .slice none 0 0, .slice none 0 0, .slice none 0 0] := by
    rw [← hw0, ha1', ← s1]
    exact (Blk.new _ _ _).alloc _
  have bB : Blk w0 (g + 1 + 1) 31 #[.string f.module, .slice A1 f.uses.length k1, .slice A2 f.types.length k2, .slice none 0 0] := by
    rw [← hw0, ha1', ha2', ← s2]
    exact Blk.new _ _ _
  have s3 : w0.heap.size = g + 1 + 1 + 1 := by rw [← hw0, ha1', ha2', World.size_alloc, s2]
  have hat0 : OfAt w0 f g #[.string f.module, .slice A1 f.uses.length k1, .slice A2 f.types.length k2, .slice A3 f.items.length k3] #[.string ⟨#[]⟩, .slice none 0 0, .slice none 0 0, .slice none 0 0] (.slice A1 f.uses.length k1) (.slice A2 f.types.length k2) 0 w0 := ⟨.slice none 0 0, Wr.refl _ _, bF, bR, bB, by simp only [List.take_zero, List.map_nil, List.flatMap_nil]; exact World.ownsRow_nil _ _ _ _⟩
  have HAT0 := Lib.hid hat0
  have Hw0 := Lib.hid hw0
  have Hg := Lib.hid hg
  have ACC := Lib.hid acc
  have HL := Lib.hid (h.into (Q := fun b => P b ∧ b < w.heap.size) (fun b hp hb => ⟨hp, hb⟩))
  have HS := Lib.hid hs
  have S3 := Lib.hid s3
  clear hw0 hg acc bF bR bB s1 s2 s3 hat0 h hs ha1' ha2' a1 a2
  go_enter Try.func7, Try.ntmps7
  go_upto_region 2 with (fail)
  rw [Hw0.out, Hg.out]
  go_wp2_with fail
  go_loopw [4] (fun s4 wr => ∃ k : Nat, k ≤ f.items.length ∧ s4 = .int .i64 k ∧ OfAt w0 f g #[.string f.module, .slice A1 f.uses.length k1, .slice A2 f.types.length k2, .slice A3 f.items.length k3] #[.string ⟨#[]⟩, .slice none 0 0, .slice none 0 0, .slice none 0 0] (.slice A1 f.uses.length k1) (.slice A2 f.types.length k2) k wr) (fun s4 _ => f.items.length - (intOf s4).toNat)
  case atStart => exact ⟨0, by omega, rfl, HAT0.out⟩
  case round =>
    obtain ⟨k, hk, rfl, v, rk, bf, br, bb, ow⟩ := hrel
    have f3 := bf.cell 3
    simp only [List.getElem?_toArray, List.getElem?_cons_zero, List.getElem?_cons_succ] at f3
    by_cases hlt : k < f.items.length
    · obtain ⟨x, hx⟩ : ∃ x, f.items[k]? = some x := ⟨_, List.getElem?_eq_getElem hlt⟩
      obtain ⟨b, off, c', e, hP, hcx⟩ := pitm_at HL.out.items hx
      injection e with e1 _ e3
      subst e1 e3
      have hbg : b ∉ [g + 1 + 1] := fun hm => by rw [List.mem_singleton] at hm; have h1 : b < w.heap.size := hP.2; have := Hg.out; omega
      have x0 := rk.cellOf (ACC.out.cellOf (hcx 0 _ rfl) (by simp)) hbg
      have x1 := rk.cellOf (ACC.out.cellOf (hcx 1 _ rfl) (by simp)) hbg
      have x2 := rk.cellOf (ACC.out.cellOf (hcx 2 _ rfl) (by simp)) hbg
      have x3 := rk.cellOf (ACC.out.cellOf (hcx 3 _ rfl) (by simp)) hbg
      have x4 := rk.cellOf (ACC.out.cellOf (hcx 4 _ rfl) (by simp)) hbg
      have x5 := rk.cellOf (ACC.out.cellOf (hcx 5 _ rfl) (by simp)) hbg
      have x6 := rk.cellOf (ACC.out.cellOf (hcx 6 _ rfl) (by simp)) hbg
      have x7 := rk.cellOf (ACC.out.cellOf (hcx 7 _ rfl) (by simp)) hbg
      simp only [Nat.add_zero] at x0
      have hany := fun W => any_any x.v (HS.out x (List.mem_of_getElem? hx)) W
      have hv1 := (anyOf x.v).val_one
      have hvc := val_cells (anyOf x.v)
      have hstep : ((f.items.take (k + 1)).map itmOf).flatMap ItmD.cells = ((f.items.take k).map itmOf).flatMap ItmD.cells ++ (itmOf x).cells := by
        rw [List.take_succ_eq_append_getElem hlt, (List.getElem?_eq_some_iff.1 hx).2, List.map_append, List.flatMap_append]
        simp
      unfold itmOf ItmD.cells at hstep
      generalize (anyOf x.v).val = V at *
      replace hstep : ((f.items.take (k + 1)).map itmOf).flatMap ItmD.cells = ((f.items.take k).map itmOf).flatMap ItmD.cells ++ [.string x.name, .int .u8 x.kind, .int .i64 x.type, V, .int .i64 x.at_] := hstep
      obtain ⟨Av, cv, hv, hv1', hv2'⟩ := own_form ow
      subst hv
      obtain ⟨wz, hwz⟩ : ∃ q, wr.alloc (.cells #[.string x.name, .int .u8 x.kind, .int .i64 x.type, .int .i64 x.at_, .int .u8 x.v.sort, .int .i64 x.v.n, .int .i64 x.v.type, .string x.v.text] 60) = q := ⟨_, rfl⟩
      obtain ⟨z, hz⟩ : ∃ z, wr.heap.size = z := ⟨_, rfl⟩
      have qz : Wr [] wr wz := by rw [← hwz]; exact (Wr.refl _ _).alloc _
      have bz : Blk wz z 60 #[.string x.name, .int .u8 x.kind, .int .i64 x.type, .int .i64 x.at_, .int .u8 x.v.sort, .int .i64 x.v.n, .int .i64 x.v.type, .string x.v.text] := by rw [← hwz, ← hz]; exact Blk.new _ _ _
      have hgz : g + 1 + 1 < z := by rw [← hz]; exact bb.lt
      have hnv : ∀ q, q ∈ ownL (.slice Av k cv) → g + 1 + 1 + 1 ≤ q ∧ q < z := fun q hq => by rw [← hz]; exact ow.lt q (mem_ownL.1 hq)
      have hn1 : g + 1 + 1 ∉ ownL (.slice Av k cv) := fun hm => by have := (hnv _ hm).1; omega
      have hn2 : z ∉ ownL (.slice Av k cv) := fun hm => by have := (hnv _ hm).2; omega
      have BF := Lib.hid (bf.wr0 qz)
      have BR := Lib.hid (br.wr0 qz)
      have BB := Lib.hid (bb.wr0 qz)
      have OW := Lib.hid (own_keep ow qz (fun _ _ => by simp))
      have RK := Lib.hid (rk.trans0 qz)
      have BZ := Lib.hid bz
      have HWZ := Lib.hid hwz
      have HZ := Lib.hid hz
      have HANY := Lib.hid hany
      have HV1 := Lib.hid hv1
      have HSTEP := Lib.hid hstep
      have HN1 := Lib.hid hn1
      have HN2 := Lib.hid hn2
      have HNV := Lib.hid hnv
      have HX := Lib.hid hx
      have hst := stored_any V hv1
      simp only [Value.cells] at hvc
      have h0 : (0 : Int) ≤ (k : Int) := by omega
      have h1 : (k : Int) < (f.items.length : Int) := by omega
      clear hcx hbg hany hv1 hstep hwz hz qz bz hn1 hn2 hnv hx rk bf br bb ow
      go_upto_region 6 with (fail)
      rw [HWZ.out, HZ.out]
      clear x0 x1 x2 x3 x4 x5 x6 x7 f3
      have g3 := BB.out.cell 3
      have y0 := BZ.out.cell 0
      have y1 := BZ.out.cell 1
      have y2 := BZ.out.cell 2
      have y3 := BZ.out.cell 3
      have y4 := BZ.out.cell 4
      have y5 := BZ.out.cell 5
      have y6 := BZ.out.cell 6
      have y7 := BZ.out.cell 7
      simp only [List.getElem?_toArray, List.getElem?_cons_zero, List.getElem?_cons_succ] at g3 y0 y1 y2 y3 y4 y5 y6 y7
      have hC : ∀ W, Wr (ownL (.slice Av k cv)) wz W → W.cell? ⟨g + 1 + 1, 3, none⟩ = some (.slice Av k cv) ∧ W.cell? ⟨z, 0, none⟩ = some (.string x.name) ∧ W.cell? ⟨z, 1, none⟩ = some (.int .u8 x.kind) ∧ W.cell? ⟨z, 2, none⟩ = some (.int .i64 x.type) ∧ W.cell? ⟨z, 3, none⟩ = some (.int .i64 x.at_) ∧ W.cell? ⟨z, 4, none⟩ = some (.int .u8 x.v.sort) ∧ W.cell? ⟨z, 5, none⟩ = some (.int .i64 x.v.n) ∧ W.cell? ⟨z, 6, none⟩ = some (.int .i64 x.v.type) ∧ W.cell? ⟨z, 7, none⟩ = some (.string x.v.text) := fun W hW => ⟨hW.cellOf g3 HN1.out, hW.cellOf y0 HN2.out, hW.cellOf y1 HN2.out, hW.cellOf y2 HN2.out, hW.cellOf y3 HN2.out, hW.cellOf y4 HN2.out, hW.cellOf y5 HN2.out, hW.cellOf y6 HN2.out, hW.cellOf y7 HN2.out⟩
      have HC := Lib.hid hC
      clear hC
      refine wp_region_noPanic ?_
      refine wp_region_L (Until 17 fun w' => w'.cell? ⟨g + 1 + 1, 3, none⟩ = some (.slice Av k cv) ∧ w'.cell? ⟨z, 0, none⟩ = some (.string x.name) ∧ w'.cell? ⟨z, 1, none⟩ = some (.int .u8 x.kind) ∧ w'.cell? ⟨z, 2, none⟩ = some (.int .i64 x.type) ∧ w'.cell? ⟨z, 3, none⟩ = some (.int .i64 x.at_) ∧ w'.cell? ⟨z, 4, none⟩ = some (.int .u8 x.v.sort) ∧ w'.cell? ⟨z, 5, none⟩ = some (.int .i64 x.v.n) ∧ w'.cell? ⟨z, 6, none⟩ = some (.int .i64 x.v.type) ∧ w'.cell? ⟨z, 7, none⟩ = some (.string x.v.text)) (by kernel_rfl) (fun hcl => ?_)
      have hS : Until 17 (fun w' => w'.cell? ⟨g + 1 + 1, 3, none⟩ = some (.slice Av k cv) ∧ w'.cell? ⟨z, 0, none⟩ = some (.string x.name) ∧ w'.cell? ⟨z, 1, none⟩ = some (.int .u8 x.kind) ∧ w'.cell? ⟨z, 2, none⟩ = some (.int .i64 x.type) ∧ w'.cell? ⟨z, 3, none⟩ = some (.int .i64 x.at_) ∧ w'.cell? ⟨z, 4, none⟩ = some (.int .u8 x.v.sort) ∧ w'.cell? ⟨z, 5, none⟩ = some (.int .i64 x.v.n) ∧ w'.cell? ⟨z, 6, none⟩ = some (.int .i64 x.v.type) ∧ w'.cell? ⟨z, 7, none⟩ = some (.string x.v.text)) (Array.replicate 18 false) wz.drew := fun _ => ⟨g3, y0, y1, y2, y3, y4, y5, y6, y7⟩
      refine wpAnyL_take (i := 0) (oi := ?oi1) (v := ?v1) ?hi1 (by kernel_rfl) (by kernel_rfl) (by kernel_rfl) (fun _ _ _ h => h) (until_take 17 _ (by decide)) ?hy1 hcl hS ?rest1
      case hi1 =>
        simp only [List.getElem?_toArray, List.getElem?_cons_succ, List.getElem?_cons_zero]
        rfl
      case hy1 =>
        refine yields_until (by kernel_rfl) (Or.inl ⟨by rfl, fun w' hS => ?_⟩)
        try go_split_ands
        go_simp
        try rfl
      case rest1 =>
      intro hcl1 hS1
      clear hcl hS
      try simp only [Act.put, List.setIfInBounds_toArray, List.set_cons_zero, List.set_cons_succ]
      refine wpAnyL_take (i := 1) (oi := ?oi2) (v := ?v2) ?hi2 (by kernel_rfl) (by kernel_rfl) (by kernel_rfl) (fun _ _ _ h => h) (until_take 17 _ (by decide)) ?hy2 hcl1 hS1 ?rest2
      case hi2 =>
        simp only [List.getElem?_toArray, List.getElem?_cons_succ, List.getElem?_cons_zero]
        rfl
      case hy2 =>
        refine yields_until (by kernel_rfl) (Or.inl ⟨by rfl, fun w' hS => ?_⟩)
        try go_split_ands
        go_simp
        try rfl
      case rest2 =>
      intro hcl2 hS2
      clear hcl1 hS1
      try simp only [Act.put, List.setIfInBounds_toArray, List.set_cons_zero, List.set_cons_succ]
      refine wpAnyL_take (i := 2) (oi := ?oi3) (v := ?v3) ?hi3 (by kernel_rfl) (by kernel_rfl) (by kernel_rfl) (fun _ _ _ h => h) (until_take 17 _ (by decide)) ?hy3 hcl2 hS2 ?rest3
      case hi3 =>
        simp only [List.getElem?_toArray, List.getElem?_cons_succ, List.getElem?_cons_zero]
        rfl
      case hy3 =>
        refine yields_until (by kernel_rfl) (Or.inl ⟨by rfl, fun w' hS => ?_⟩)
        try go_split_ands
        go_simp
        try rfl
      case rest3 =>
      intro hcl3 hS3
      clear hcl2 hS2
      try simp only [Act.put, List.setIfInBounds_toArray, List.set_cons_zero, List.set_cons_succ]
      refine wpAnyL_take (i := 3) (oi := ?oi4) (v := ?v4) ?hi4 (by kernel_rfl) (by kernel_rfl) (by kernel_rfl) (fun _ _ _ h => h) (until_take 17 _ (by decide)) ?hy4 hcl3 hS3 ?rest4
      case hi4 =>
        simp only [List.getElem?_toArray, List.getElem?_cons_succ, List.getElem?_cons_zero]
        rfl
      case hy4 =>
        refine yields_until (by kernel_rfl) (Or.inl ⟨by rfl, fun w' hS => ?_⟩)
        try go_split_ands
        go_simp
        try rfl
      case rest4 =>
      intro hcl4 hS4
      clear hcl3 hS3
      try simp only [Act.put, List.setIfInBounds_toArray, List.set_cons_zero, List.set_cons_succ]
      refine wpAnyL_take (i := 4) (oi := ?oi5) (v := ?v5) ?hi5 (by kernel_rfl) (by kernel_rfl) (by kernel_rfl) (fun _ _ _ h => h) (until_take 17 _ (by decide)) ?hy5 hcl4 hS4 ?rest5
      case hi5 =>
        simp only [List.getElem?_toArray, List.getElem?_cons_succ, List.getElem?_cons_zero]
        rfl
      case hy5 =>
        refine yields_until (by kernel_rfl) (Or.inl ⟨by rfl, fun w' hS => ?_⟩)
        try go_split_ands
        go_simp
        try rfl
      case rest5 =>
      intro hcl5 hS5
      clear hcl4 hS4
      try simp only [Act.put, List.setIfInBounds_toArray, List.set_cons_zero, List.set_cons_succ]
      refine wpAnyL_take (i := 5) (oi := ?oi6) (v := ?v6) ?hi6 (by kernel_rfl) (by kernel_rfl) (by kernel_rfl) (fun _ _ _ h => h) (until_take 17 _ (by decide)) ?hy6 hcl5 hS5 ?rest6
      case hi6 =>
        simp only [List.getElem?_toArray, List.getElem?_cons_succ, List.getElem?_cons_zero]
        rfl
      case hy6 =>
        refine yields_until (by kernel_rfl) (Or.inl ⟨by rfl, fun w' hS => ?_⟩)
        try go_split_ands
        go_simp
        try rfl
      case rest6 =>
      intro hcl6 hS6
      clear hcl5 hS5
      try simp only [Act.put, List.setIfInBounds_toArray, List.set_cons_zero, List.set_cons_succ]
      refine wpAnyL_take (i := 6) (oi := ?oi7) (v := ?v7) ?hi7 (by kernel_rfl) (by kernel_rfl) (by kernel_rfl) (fun _ _ _ h => h) (until_take 17 _ (by decide)) ?hy7 hcl6 hS6 ?rest7
      case hi7 =>
        simp only [List.getElem?_toArray, List.getElem?_cons_succ, List.getElem?_cons_zero]
        rfl
      case hy7 =>
        refine yields_until (by kernel_rfl) (Or.inl ⟨by rfl, fun w' hS => ?_⟩)
        try go_split_ands
        go_simp
        try rfl
      case rest7 =>
      intro hcl7 hS7
      clear hcl6 hS6
      try simp only [Act.put, List.setIfInBounds_toArray, List.set_cons_zero, List.set_cons_succ]
      refine wpAnyL_take (i := 7) (oi := ?oi8) (v := ?v8) ?hi8 (by kernel_rfl) (by kernel_rfl) (by kernel_rfl) (fun _ _ _ h => h) (until_take 17 _ (by decide)) ?hy8 hcl7 hS7 ?rest8
      case hi8 =>
        simp only [List.getElem?_toArray, List.getElem?_cons_succ, List.getElem?_cons_zero]
        rfl
      case hy8 =>
        refine yields_until (by kernel_rfl) (Or.inl ⟨by rfl, fun w' hS => ?_⟩)
        try go_split_ands
        go_simp
        try rfl
      case rest8 =>
      intro hcl8 hS8
      clear hcl7 hS7
      try simp only [Act.put, List.setIfInBounds_toArray, List.set_cons_zero, List.set_cons_succ]
      refine wpAnyL_take (i := 8) (oi := ?oi9) (v := ?v9) ?hi9 (by kernel_rfl) (by kernel_rfl) (by kernel_rfl) (fun _ _ _ h => h) (until_take 17 _ (by decide)) ?hy9 hcl8 hS8 ?rest9
      case hi9 =>
        simp only [List.getElem?_toArray, List.getElem?_cons_succ, List.getElem?_cons_zero]
        rfl
      case hy9 =>
        refine yields_until (by kernel_rfl) (Or.inl ⟨by rfl, fun w' hS => ?_⟩)
        try go_split_ands
        go_simp
        try rfl
      case rest9 =>
      intro hcl9 hS9
      clear hcl8 hS8
      try simp only [Act.put, List.setIfInBounds_toArray, List.set_cons_zero, List.set_cons_succ]
      refine wpAnyL_take (i := 9) (oi := ?oi10) (v := ?v10) ?hi10 (by kernel_rfl) (by kernel_rfl) (by kernel_rfl) (fun _ _ _ h => h) (until_take 17 _ (by decide)) ?hy10 hcl9 hS9 ?rest10
      case hi10 =>
        simp only [List.getElem?_toArray, List.getElem?_cons_succ, List.getElem?_cons_zero]
        rfl
      case hy10 =>
        refine yields_until (by kernel_rfl) (Or.inl ⟨by rfl, fun w' hS => ?_⟩)
        try go_split_ands
        go_simp
        try rfl
      case rest10 =>
      intro hcl10 hS10
      clear hcl9 hS9
      try simp only [Act.put, List.setIfInBounds_toArray, List.set_cons_zero, List.set_cons_succ]
      refine wpAnyL_take (i := 10) (oi := ?oi11) (v := ?v11) ?hi11 (by kernel_rfl) (by kernel_rfl) (by kernel_rfl) (fun _ _ _ h => h) (until_take 17 _ (by decide)) ?hy11 hcl10 hS10 ?rest11
      case hi11 =>
        simp only [List.getElem?_toArray, List.getElem?_cons_succ, List.getElem?_cons_zero]
        rfl
      case hy11 =>
        refine yields_until (by kernel_rfl) (Or.inl ⟨by rfl, fun w' hS => ?_⟩)
        try go_split_ands
        go_simp
        try rfl
      case rest11 =>
      intro hcl11 hS11
      clear hcl10 hS10
      try simp only [Act.put, List.setIfInBounds_toArray, List.set_cons_zero, List.set_cons_succ]
      refine wpAnyL_take (i := 11) (oi := ?oi12) (v := ?v12) ?hi12 (by kernel_rfl) (by kernel_rfl) (by kernel_rfl) (fun _ _ _ h => h) (until_take 17 _ (by decide)) ?hy12 hcl11 hS11 ?rest12
      case hi12 =>
        simp only [List.getElem?_toArray, List.getElem?_cons_succ, List.getElem?_cons_zero]
        rfl
      case hy12 =>
        refine yields_until (by kernel_rfl) (Or.inl ⟨by rfl, fun w' hS => ?_⟩)
        try go_split_ands
        go_simp
        try rfl
      case rest12 =>
      intro hcl12 hS12
      clear hcl11 hS11
      try simp only [Act.put, List.setIfInBounds_toArray, List.set_cons_zero, List.set_cons_succ]
      refine wpAnyL_step (i := 12) (o := ?oi13) ?hi13 (by kernel_rfl) hcl12 ?rest13
      case hi13 =>
        simp only [List.getElem?_toArray, List.getElem?_cons_succ, List.getElem?_cons_zero]
        rfl
      case rest13 =>
      intro K hK
      go_simp
      refine (HANY.out _).mono ?_
      rintro e w5 ⟨rfl, r5⟩
      obtain ⟨W6, hW6⟩ : ∃ q, w5.alloc (.cells #[.string x.name, .int .u8 x.kind, .int .i64 x.type, V, .int .i64 x.at_] 44) = q := ⟨_, rfl⟩
      have r6 : Wr [] w5 W6 := by rw [← hW6]; exact (Wr.refl _ _).alloc _
      have n6 : Blk W6 w5.heap.size 44 #[.string x.name, .int .u8 x.kind, .int .i64 x.type, V, .int .i64 x.at_] := by rw [← hW6]; exact Blk.new _ _ _
      have rz6 : Wr [] wz W6 := (Wr.refl [] wz).drew.trans (r5.trans r6)
      have ho1 : ∀ u ∈ ([.string x.name, .int .u8 x.kind, .int .i64 x.type, V, .int .i64 x.at_] : List Value), u.oneCell' = true := by
        intro u hu
        simp only [List.mem_cons, List.not_mem_nil, or_false] at hu
        rcases hu with rfl | rfl | rfl | rfl | rfl
        · rfl
        · rfl
        · rfl
        · exact HV1.out
        · rfl
      obtain ⟨v', W7, hrun, hown, hgrow, _, hbk⟩ := run_append_own_at (P := Try.prog) W6 (g + 1 + 1 + 1) 29 29 44 i0 _ 5 56 Try.underlying29 hi0 hz0 hz1 hz2 rfl (by decide) (.slice Av k cv) k _ (own_keep OW.out rz6 (fun _ _ => by simp)) ⟨w5.heap.size, 0, none⟩ 1 1 [.string x.name, .int .u8 x.kind, .int .i64 x.type, V, .int .i64 x.at_] rfl (fun jj u hu => by
        rw [Addr.add_lit, Nat.zero_add, n6.cell, List.getElem?_toArray]
        exact hu) ho1 (by unfold maxLen; omega) (by omega) (by have h1 := BB.out.lt; have h2 := rz6.size; have h3 := HNV.out; have h4 := BZ.out.lt; omega)
      obtain ⟨A7, c7, hv7⟩ : ∃ A c, v' = .slice A (k + 1) c := by
        rcases hown.2 with ⟨_, h0⟩ | ⟨gg, cap, cur, e, _⟩
        · omega
        · exact ⟨_, _, e⟩
      subst hv7
      have b7 := ((BB.out.wr0 rz6).wr (Wr.ofGrownOwn hgrow) HN1.out)
      have c7' := b7.cell 3
      have f7 := b7.frozen 3
      simp only [List.getElem?_toArray, List.getElem?_cons_zero, List.getElem?_cons_succ] at c7'
      have hfin : OfAt w0 f g #[.string f.module, .slice A1 f.uses.length k1, .slice A2 f.types.length k2, .slice (some ⟨b, off, none⟩) f.items.length k3] #[.string ⟨#[]⟩, .slice none 0 0, .slice none 0 0, .slice none 0 0] (.slice A1 f.uses.length k1) (.slice A2 f.types.length k2) (k + 1) (W7.setCell ⟨g + 1 + 1, 3, none⟩ (.slice A7 (k + 1) c7)) := by
        have rA : Wr (ownL (.slice Av k cv)) W6 W7 := Wr.ofGrownOwn hgrow
        have rS : Wr [g + 1 + 1] W7 (W7.setCell ⟨g + 1 + 1, 3, none⟩ (.slice A7 (k + 1) c7)) := (Wr.refl _ _).setOn (by simp) _
        have hlo : ∀ q, q < g + 1 + 1 + 1 → q ∉ ownL (.slice Av k cv) := fun q hq hm => by have := (HNV.out q hm).1; omega
        refine ⟨.slice A7 (k + 1) c7, ((RK.out.trans0 rz6).trans' rA (fun q hq => .inr (by have := (HNV.out q hq).1; have := S3.out; omega))).trans rS, ((BF.out.wr0 rz6).wr rA (hlo _ (by omega))).wr rS (by simp; omega), ((BR.out.wr0 rz6).wr rA (hlo _ (by omega))).wr rS (by simp), ?_, ?_⟩
        · have := b7.set_ 3 (.slice A7 (k + 1) c7)
          simp at this
          exact this
        · rw [HSTEP.out]
          exact own_keep hown rS (fun q hq hm => by have := (hown.lt q hq).1; simp at hm; omega)
      have HRUN := Lib.hid hrun
      have HGR := Lib.hid hgrow
      have HFIN := Lib.hid hfin
      have R5 := Lib.hid r5
      have HW6 := Lib.hid hW6
      clear hrun hown hgrow hbk b7 hfin n6 r6 rz6 hW6
      refine hK _ _ (fun _ => HC.out _ ((Wr.refl (ownL (.slice Av k cv)) wz).drew.trans0 r5)) (fun hcl13 => ?_)
      clear hK K hcl12 hS12
      try simp only [Act.put, List.setIfInBounds_toArray, List.set_cons_zero, List.set_cons_succ]
      refine wpAnyL_step (i := 13) (o := ?oi14) ?hi14 (by kernel_rfl) hcl13 ?rest14
      case hi14 =>
        simp only [List.getElem?_toArray, List.getElem?_cons_succ, List.getElem?_cons_zero]
        rfl
      case rest14 =>
      intro K hK
      go_simp
      refine hK _ _ (fun _ => HC.out _ ((Wr.refl (ownL (.slice Av k cv)) wz).drew.trans0 r5)) (fun hcl14 => ?_)
      clear hK K hcl13
      try simp only [Act.put, List.setIfInBounds_toArray, List.set_cons_zero, List.set_cons_succ]
      refine wpAnyL_step (i := 14) (o := ?oi15) ?hi15 (by kernel_rfl) hcl14 ?rest15
      case hi15 =>
        simp only [List.getElem?_toArray, List.getElem?_cons_succ, List.getElem?_cons_zero]
        rfl
      case rest15 =>
      intro K hK
      go_simp
      rw [HW6.out]
      refine hK _ _ (fun _ => HC.out _ (((Wr.refl (ownL (.slice Av k cv)) wz).drew.trans0 r5).trans0 (by rw [← HW6.out]; exact (Wr.refl _ _).alloc _ : Wr [] w5 W6))) (fun hcl15 => ?_)
      clear hK K hcl14
      try simp only [Act.put, List.setIfInBounds_toArray, List.set_cons_zero, List.set_cons_succ]
      refine wpAnyL_step (i := 15) (o := ?oi16) ?hi16 (by kernel_rfl) hcl15 ?rest16
      case hi16 =>
        simp only [List.getElem?_toArray, List.getElem?_cons_succ, List.getElem?_cons_zero]
        rfl
      case rest16 =>
      intro K hK
      refine step_append_run (by rfl) _ _ _ (by rfl) _ _ (by rfl) (by rfl) _ _ HRUN.out ?_
      refine hK _ _ (fun _ => HC.out _ ((((Wr.refl (ownL (.slice Av k cv)) wz).drew.trans0 r5).trans0 (by rw [← HW6.out]; exact (Wr.refl _ _).alloc _ : Wr [] w5 W6)).trans (Wr.ofGrownOwn HGR.out))) (fun hcl16 => ?_)
      clear hK K hcl15
      try simp only [Act.put, List.setIfInBounds_toArray, List.set_cons_zero, List.set_cons_succ]
      refine wpAnyL_step (i := 16) (o := ?oi17) ?hi17 (by kernel_rfl) hcl16 ?rest17
      case hi17 =>
        simp only [List.getElem?_toArray, List.getElem?_cons_succ, List.getElem?_cons_zero]
        rfl
      case rest17 =>
      intro K hK
      go_simp
      refine hK _ _ (fun _ => HC.out _ ((((Wr.refl (ownL (.slice Av k cv)) wz).drew.trans0 r5).trans0 (by rw [← HW6.out]; exact (Wr.refl _ _).alloc _ : Wr [] w5 W6)).trans (Wr.ofGrownOwn HGR.out))) (fun hcl17 => ?_)
      clear hK K hcl16
      try simp only [Act.put, List.setIfInBounds_toArray, List.set_cons_zero, List.set_cons_succ]
      refine wpAnyL_step (i := 17) (o := ?oi18) ?hi18 (by kernel_rfl) hcl17 ?rest18
      case hi18 =>
        simp only [List.getElem?_toArray, List.getElem?_cons_succ, List.getElem?_cons_zero]
        rfl
      case rest18 =>
      intro K hK
      go_simp
      refine hK _ _ (fun hb => absurd hb (by decide)) (fun hcl999 => ?_)
      clear hK K hcl17
      refine wpAnyL_done (by kernel_rfl) (NoPanic.normal ?_) _
      try simp only [Act.put, List.setIfInBounds_toArray, List.set_cons_zero, List.set_cons_succ]
      go_wp2_with fail
      go_roundw
      case rel => exact ⟨k + 1, by omega, by go_num, HFIN.out⟩
      case measure => simp [intOf]; omega
    · obtain rfl : k = f.items.length := by omega
      rw [List.take_length] at ow
      obtain ⟨Av, cv, hv, _, _⟩ := own_form ow
      subst hv
      have t0 := bb.cell 0
      have t1 := bb.cell 1
      have t2 := bb.cell 2
      have t3 := bb.cell 3
      have s0 := br.cell 0
      have s1 := br.cell 1
      have s2 := br.cell 2
      have s3 := br.cell 3
      simp only [List.getElem?_toArray, List.getElem?_cons_zero, List.getElem?_cons_succ] at t0 t1 t2 t3 s0 s1 s2 s3
      have z0 := br.frozen 0
      have z1 := br.frozen 1
      have z2 := br.frozen 2
      have z3 := br.frozen 3
      have RK := Lib.hid rk
      have BR := Lib.hid br
      have OW := Lib.hid ow
      clear rk br bb bf ow
      go_wp2_with fail
      have r4 := wr4 wr (g + 1) (.string f.module) (.slice A1 f.uses.length k1) (.slice A2 f.types.length k2) (.slice Av f.items.length cv)
      have rw4 : Wr [] w wr := ACC.out.trans' RK.out (fun q hq => .inr (by rw [List.mem_singleton] at hq; have := Hg.out; omega))
      have hlw := HL.out.wr0 rw4
      have hne : ∀ q, (P q ∧ q < w.heap.size) → q ∉ [g + 1] := fun q hq hm => by rw [List.mem_singleton] at hm; have := Hg.out; have := hq.2; omega
      have hl4 := (hlw.keep r4 hne).into (Q := fun b => P b ∨ w.heap.size ≤ b) (fun b hb _ => .inl hb.1)
      have oi := own_keep OW.out r4 (fun q hq hm => by have := (OW.out.lt q hq).1; simp at hm; omega)
      refine bodyPost_ret (v := (faceOf f).val (.slice A1 f.uses.length k1) (.slice A2 f.types.length k2) (.slice Av f.items.length cv)) ?_ rfl ⟨_, rfl, rw4.new r4 (by have := Hg.out; omega), hl4.uses, hl4.types, ?_⟩
      · have cc := blk4 wr (g + 1) 31 _ _ _ _ (.string f.module) (.slice A1 f.uses.length k1) (.slice A2 f.types.length k2) (.slice Av f.items.length cv) BR.out
        have u0 := cc.cell 0
        have u1 := cc.cell 1
        have u2 := cc.cell 2
        have u3 := cc.cell 3
        simp only [List.getElem?_toArray, List.getElem?_cons_zero, List.getElem?_cons_succ] at u0 u1 u2 u3
        simp [results, Try.results7, go_sem, u0, u1, u2, u3, FaceD.val, faceOf]
      · have := Sl.ofOwn oi (P := fun b => P b ∨ w.heap.size ≤ b) (fun b hb => .inr (by have := (oi.lt b hb).1; have := Hg.out; omega))
        unfold SlItms faceOf
        rw [List.length_map]
        exact this
end Go.Proofs.Ytmpbkfbjmmoapaa

/- What holds of what is listed, in a region of calls, allocs and stores into them: what is stored is what an operation yielded. No conditions. -/
namespace Go.Proofs.Ytmpbkfbjmmoapaa
open Go
/-- A block that a region makes: the alloc's number, the store's number, the number of what is stored, its type, its cells before the store. -/
structure MadeJ where
  i : Nat
  s : Nat
  d : Nat
  t : TypeId
  z : Array Value
structure GridJ (w : World) (val : Nat → Value) (isV : Nat → Prop) (al : List MadeJ) (X : (Nat → Value) → Array Bool → World → Prop) (σ : Nat → Value) (l : Array Bool) (w' : World) : Prop where
  acc : Wr [] w w'
  v : ∀ j, isV j → lst l j = true → σ j = val j
  c : ∀ a ∈ al, lst l a.s = true → lst l a.i = true
  b : ∀ a ∈ al, lst l a.i = true → ∃ b : Nat, σ a.i = .pointer (some ⟨b, 0, none⟩) ∧ w.heap.size ≤ b ∧ (lst l a.s = false → Blk w' b a.t a.z) ∧ (lst l a.s = true → ∃ cs, σ a.d = .agg cs ∧ Blk w' b a.t cs)
  cd : ∀ a ∈ al, lst l a.s = true → lst l a.d = true
  ne : ∀ a ∈ al, ∀ a' ∈ al, a.i ≠ a'.i → lst l a.i = true → lst l a'.i = true → ∀ b b' : Nat, σ a.i = .pointer (some ⟨b, 0, none⟩) → σ a'.i = .pointer (some ⟨b', 0, none⟩) → b ≠ b'
  x : X σ l w'
section
variable {w w1 w2 : World} {val : Nat → Value} {isV : Nat → Prop} {al : List MadeJ} {X : (Nat → Value) → Array Bool → World → Prop} {σ : Nat → Value} {l : Array Bool} {i : Nat} {v : Value}
theorem off {l : Array Bool} {i j : Nat} (h : lst l j = true) (k : lst l i = false) : j ≠ i := fun e => by subst e; rw [h] at k; cases k
theorem GridJ.start (acc : Wr [] w w1) (n : Nat) (hX : X σ (Array.replicate n false) w1) : GridJ w val isV al X σ (Array.replicate n false) w1 := by
  refine ⟨acc, fun j _ h => ?_, fun a _ h => ?_, fun a _ h => ?_, fun a _ h => ?_, fun a _ a' _ _ h => ?_, hX⟩ <;> rw [lst_start] at h <;> cases h
theorem GridJ.quiet (h : GridJ w val isV al X σ l w1) (hli : lst l i = false) (r : Wr [] w1 w2) (hna : ∀ a ∈ al, a.i ≠ i ∧ a.s ≠ i) (hv : isV i → v = val i) (hX : X (upd σ i v) (l.setIfInBounds i true) w2) :
    GridJ w val isV al X (upd σ i v) (l.setIfInBounds i true) w2 := by
  refine ⟨h.acc.trans r, fun j hj hl => ?_, fun a ha hl => ?_, fun a ha hl => ?_, fun a ha hl => ?_, fun a ha a' ha' hne h1 h2 => ?_, hX⟩
  · by_cases hji : j = i
    · subst hji
      rw [upd_same]
      exact hv hj
    · rw [upd_ne σ v hji]
      rw [lst_ne hji] at hl
      exact h.v j hj hl
  · rw [lst_ne (hna a ha).2] at hl
    rw [lst_ne (hna a ha).1]
    exact h.c a ha hl
  · rw [lst_ne (hna a ha).1] at hl
    obtain ⟨b, e, hb, f, t⟩ := h.b a ha hl
    rw [upd_ne σ v (hna a ha).1, lst_ne (hna a ha).2]
    exact ⟨b, e, hb, fun k => (f k).wr0 r, fun k => by
      obtain ⟨cs, e1, e2⟩ := t k
      exact ⟨cs, by rw [upd_ne σ v (off (h.cd a ha k) hli)]; exact e1, e2.wr0 r⟩⟩
  · rw [lst_ne (hna a ha).2] at hl
    rw [lst_ne (off (h.cd a ha hl) hli)]
    exact h.cd a ha hl
  · rw [lst_ne (hna a ha).1] at h1
    rw [lst_ne (hna a' ha').1] at h2
    rw [upd_ne σ v (hna a ha).1, upd_ne σ v (hna a' ha').1]
    exact h.ne a ha a' ha' hne h1 h2
/-- The numbers of these blocks are all unlike. -/
structure ApartJ (al : List MadeJ) (isV : Nat → Prop) : Prop where
  i : ∀ a ∈ al, ∀ a' ∈ al, a.i = a'.i → a = a'
  s : ∀ a ∈ al, ∀ a' ∈ al, a.s = a'.s → a = a'
  is : ∀ a ∈ al, ∀ a' ∈ al, a.i ≠ a'.s
  vi : ∀ a ∈ al, ¬isV a.i
  vs : ∀ a ∈ al, ¬isV a.s
theorem GridJ.alloc (h : GridJ w val isV al X σ l w1) (ap : ApartJ al isV) (a : MadeJ) (ha : a ∈ al) (hl : lst l a.i = false)
    (hX : X (upd σ a.i (.pointer (some ⟨w1.heap.size, 0, none⟩))) (l.setIfInBounds a.i true) (w1.alloc (.cells a.z a.t))) :
    GridJ w val isV al X (upd σ a.i (.pointer (some ⟨w1.heap.size, 0, none⟩))) (l.setIfInBounds a.i true) (w1.alloc (.cells a.z a.t)) := by
  have r : Wr [] w1 (w1.alloc (.cells a.z a.t)) := (Wr.refl [] w1).alloc _
  have hs : lst l a.s = false := by
    cases hc : lst l a.s with
    | false => rfl
    | true => rw [h.c a ha hc] at hl; cases hl
  have own : ∀ a' ∈ al, a'.i ≠ a.i → ∀ b : Nat, lst l a'.i = true → σ a'.i = .pointer (some ⟨b, 0, none⟩) → b < w1.heap.size := by
    intro a' ha' hne b hb he
    obtain ⟨b', e, _, f, t⟩ := h.b a' ha' hb
    rw [e] at he
    simp only [Value.pointer.injEq, Option.some.injEq, Addr.mk.injEq, and_true] at he
    subst he
    cases hc : lst l a'.s with
    | false => exact (f hc).lt
    | true => obtain ⟨_, _, e2⟩ := t hc; exact e2.lt
  refine ⟨h.acc.trans r, fun j hj hl' => ?_, fun a' ha' hl' => ?_, fun a' ha' hl' => ?_, fun a' ha' hl' => ?_, fun a' ha' a'' ha'' hne h1 h2 => ?_, hX⟩
  · have hji : j ≠ a.i := fun e => ap.vi a ha (e ▸ hj)
    rw [upd_ne σ _ hji]
    rw [lst_ne hji] at hl'
    exact h.v j hj hl'
  · rw [lst_ne (fun e => ap.is a ha a' ha' e.symm)] at hl'
    by_cases hia : a'.i = a.i
    · have := ap.i a' ha' a ha hia
      subst this
      rw [hs] at hl'
      cases hl'
    · rw [lst_ne hia]
      exact h.c a' ha' hl'
  · rw [lst_ne (fun e => ap.is a ha a' ha' e.symm)]
    by_cases hia : a'.i = a.i
    · have := ap.i a' ha' a ha hia
      subst this
      rw [upd_same]
      exact ⟨_, rfl, h.acc.size, fun _ => Blk.new w1 _ _, fun k => by rw [hs] at k; cases k⟩
    · rw [lst_ne hia] at hl'
      rw [upd_ne σ _ hia]
      obtain ⟨b, e, hb, f, t⟩ := h.b a' ha' hl'
      exact ⟨b, e, hb, fun k => (f k).wr0 r, fun k => by
        obtain ⟨cs, e1, e2⟩ := t k
        exact ⟨cs, by rw [upd_ne σ _ (off (h.cd a' ha' k) hl)]; exact e1, e2.wr0 r⟩⟩
  · rw [lst_ne (fun e => ap.is a ha a' ha' e.symm)] at hl'
    rw [lst_ne (off (h.cd a' ha' hl') hl)]
    exact h.cd a' ha' hl'
  · intro b b' e1 e2
    by_cases hia : a'.i = a.i
    · have hib : a''.i ≠ a.i := fun e => hne (hia.trans e.symm)
      rw [hia, upd_same] at e1
      rw [upd_ne σ _ hib] at e2
      rw [lst_ne hib] at h2
      have := own a'' ha'' hib b' h2 e2
      simp only [Value.pointer.injEq, Option.some.injEq, Addr.mk.injEq, and_true] at e1
      omega
    · rw [upd_ne σ _ hia] at e1
      rw [lst_ne hia] at h1
      by_cases hib : a''.i = a.i
      · rw [hib, upd_same] at e2
        have := own a' ha' hia b h1 e1
        simp only [Value.pointer.injEq, Option.some.injEq, Addr.mk.injEq, and_true] at e2
        omega
      · rw [upd_ne σ _ hib] at e2
        rw [lst_ne hib] at h2
        exact h.ne a' ha' a'' ha'' hne h1 h2 b b' e1 e2
theorem GridJ.store (h : GridJ w val isV al X σ l w1) (ap : ApartJ al isV) (a : MadeJ) (ha : a ∈ al) (hsz : a.s < l.size) (hls : lst l a.s = false) (hl : lst l a.i = true) (hld : lst l a.d = true) {b : Nat} (hb : σ a.i = .pointer (some ⟨b, 0, none⟩))
    (hwb : w.heap.size ≤ b) (r : Wr [b] w1 w2) {cs : Array Value} (hcs : σ a.d = .agg cs) (hn : Blk w2 b a.t cs) (hX : X (upd σ a.s v) (l.setIfInBounds a.s true) w2) :
    GridJ w val isV al X (upd σ a.s v) (l.setIfInBounds a.s true) w2 := by
  have ni : ∀ a' ∈ al, a'.i ≠ a.s := fun a' ha' => ap.is a' ha' a ha
  refine ⟨h.acc.new r hwb, fun j hj hl' => ?_, fun a' ha' hl' => ?_, fun a' ha' hl' => ?_, fun a' ha' hl' => ?_, fun a' ha' a'' ha'' hne h1 h2 => ?_, hX⟩
  · have hji : j ≠ a.s := fun e => ap.vs a ha (e ▸ hj)
    rw [upd_ne σ _ hji]
    rw [lst_ne hji] at hl'
    exact h.v j hj hl'
  · rw [lst_ne (ni a' ha')]
    by_cases hs : a'.s = a.s
    · have := ap.s a' ha' a ha hs
      subst this
      exact hl
    · rw [lst_ne hs] at hl'
      exact h.c a' ha' hl'
  · rw [lst_ne (ni a' ha')] at hl'
    rw [upd_ne σ _ (ni a' ha')]
    by_cases hs : a'.s = a.s
    · have := ap.s a' ha' a ha hs
      subst this
      rw [lst_same hsz]
      exact ⟨b, hb, hwb, fun k => (by cases k), fun _ => ⟨cs, by rw [upd_ne σ v (off hld hls)]; exact hcs, hn⟩⟩
    · rw [lst_ne hs]
      obtain ⟨b', e, hb', f, t⟩ := h.b a' ha' hl'
      have hia : a'.i ≠ a.i := fun e' => hs (by rw [ap.i a' ha' a ha e'])
      have hbb : b' ≠ b := h.ne a' ha' a ha hia hl' hl b' b e hb
      exact ⟨b', e, hb', fun k => (f k).wr r (by simp [hbb]), fun k => by
        obtain ⟨cs', e1, e2⟩ := t k
        exact ⟨cs', by rw [upd_ne σ v (off (h.cd a' ha' k) hls)]; exact e1, e2.wr r (by simp [hbb])⟩⟩
  · by_cases hs : a'.s = a.s
    · have := ap.s a' ha' a ha hs
      subst this
      rw [lst_ne (off hld hls)]
      exact hld
    · rw [lst_ne hs] at hl'
      rw [lst_ne (off (h.cd a' ha' hl') hls)]
      exact h.cd a' ha' hl'
  · rw [lst_ne (ni a' ha')] at h1
    rw [lst_ne (ni a'' ha'')] at h2
    rw [upd_ne σ _ (ni a' ha'), upd_ne σ _ (ni a'' ha'')]
    exact h.ne a' ha' a'' ha'' hne h1 h2
end
end Go.Proofs.Ytmpbkfbjmmoapaa
