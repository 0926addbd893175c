/- law 14's Of: walked. Conditions: sorts are not below zero. -/
import Derived.Test.YtjanbpchedgoiaaKI02
import Derived.Test.YtjanbpchedgoiaaKI10
import Derived.Deep.RegionHeld3
import Derived.LoopN
import Derived.Test.YtjanbpchedgoiaaKI01
import Derived.Test.YtjanbpchedgoiaaKI04
namespace Go.Proofs.Ytjanbpchedgoiaa
open Go.RowKit
set_option linter.unusedVariables false
set_option linter.unusedSimpArgs false

/-- What Of answers. -/
def OfR (f : FaceP) (vu vt : Value) (w : World) (e : Ending) (w' : World) : Prop := ∃ vi, e = .returned ((faceOf f).val vu vt vi) ∧ Wr [] w w' ∧ FaceL w' (fun _ => True) vu vt vi (faceOf f)
/-- Behind k items. -/
def OfAt (w0 : World) (f : FaceP) (g : Nat) (cs zs : Array Value) (vu vt : Value) (k : Nat) (w : World) : Prop :=
  ∃ v, Wr [g + 1 + 1] w0 w ∧ Blk w g 35 cs ∧ Blk w (g + 1) 39 zs ∧ Blk w (g + 1 + 1) 39 #[.string f.module, vu, vt, v] ∧ w.ownsRow (g + 1 + 1 + 1) 57 5 v k (((f.items.take k).map itmOf).flatMap ItmD.cells)
theorem FacePL.into {w : World} {P Q : Nat → Prop} {vu vt vi : Value} {f : FaceP} (h : FacePL w P vu vt vi f) (hP : ∀ b, P b → b < w.heap.size → Q b) : FacePL w Q vu vt vi f := ⟨Sl.into h.uses hP, h.types.into hP, Sl.into h.items hP⟩
theorem val_cells (v : AnyD) : v.val.cells = #[v.val] := by cases v <;> rfl
set_option maxRecDepth 100000 in
set_option maxHeartbeats 8000000 in
theorem of_face (f : FaceP) (vu vt vi : Value) (P : Nat → Prop) (w : World) (h : FacePL w P vu vt vi f) (hs : ∀ x ∈ f.items, 0 ≤ x.v.sort) (hn : f.items.length ≤ 1000000) :
    Calls Try.prog 11 #[.agg #[.string f.module, vu, vt, vi]] w (OfR f vu vt w) := by
  obtain ⟨⟨A1, k1, rfl, hn1, hn2⟩, ⟨A2, k2, rfl, hf1, hf2⟩, ⟨A3, k3, rfl, ha1, ha2⟩⟩ := h.forms
  unfold maxLen at hn2 hf2 ha2
  obtain ⟨i0, hi0, hz0, hz1, hz2⟩ := info_parts info_exp
  obtain ⟨w0, hw0⟩ : ∃ w0, ((w.alloc (.cells #[.string f.module, .slice A1 f.uses.length k1, .slice A2 f.types.length k2, .slice A3 f.items.length k3] 35)).alloc (.cells #[.string ⟨#[]⟩, .slice none 0 0, .slice none 0 0, .slice none 0 0] 39)).alloc (.cells #[.string f.module, .slice A1 f.uses.length k1, .slice A2 f.types.length k2, .slice none 0 0] 39) = w0 := ⟨_, rfl⟩
  obtain ⟨g, hg⟩ : ∃ g, w.heap.size = g := ⟨_, rfl⟩
  have acc : Wr [] w w0 := by rw [← hw0]; exact (((Wr.refl _ _).alloc _).alloc _).alloc _
  have bF : Blk w0 g 35 #[.string f.module, .slice A1 f.uses.length k1, .slice A2 f.types.length k2, .slice A3 f.items.length k3] := by rw [← hw0, ← hg]; exact ((Blk.new _ _ _).alloc _).alloc _
  obtain ⟨a1, ha1'⟩ : ∃ a, w.alloc (.cells #[.string f.module, .slice A1 f.uses.length k1, .slice A2 f.types.length k2, .slice A3 f.items.length k3] 35) = a := ⟨_, rfl⟩
  obtain ⟨a2, ha2'⟩ : ∃ a, a1.alloc (.cells #[.string ⟨#[]⟩, .slice none 0 0, .slice none 0 0, .slice none 0 0] 39) = a := ⟨_, rfl⟩
  have s1 : a1.heap.size = g + 1 := by rw [← ha1', World.size_alloc, hg]
  have s2 : a2.heap.size = g + 1 + 1 := by rw [← ha2', World.size_alloc, s1]
  have bR : Blk w0 (g + 1) 39 #[.string ⟨#[]⟩, .slice none 0 0, .slice none 0 0, .slice none 0 0] := by
    rw [← hw0, ha1', ← s1]
    exact (Blk.new _ _ _).alloc _
  have bB : Blk w0 (g + 1 + 1) 39 #[.string f.module, .slice A1 f.uses.length k1, .slice A2 f.types.length k2, .slice none 0 0] := by
    rw [← hw0, ha1', ha2', ← s2]
    exact Blk.new _ _ _
  have s3 : w0.heap.size = g + 1 + 1 + 1 := by rw [← hw0, ha1', ha2', World.size_alloc, s2]
  have hat0 : OfAt w0 f g #[.string f.module, .slice A1 f.uses.length k1, .slice A2 f.types.length k2, .slice A3 f.items.length k3] #[.string ⟨#[]⟩, .slice none 0 0, .slice none 0 0, .slice none 0 0] (.slice A1 f.uses.length k1) (.slice A2 f.types.length k2) 0 w0 := ⟨.slice none 0 0, Wr.refl _ _, bF, bR, bB, by simp only [List.take_zero, List.map_nil, List.flatMap_nil]; exact World.ownsRow_nil _ _ _ _⟩
  have HAT0 := Lib.hid hat0
  have Hw0 := Lib.hid hw0
  have Hg := Lib.hid hg
  have ACC := Lib.hid acc
  have HL := Lib.hid (h.into (Q := fun b => b < w.heap.size) (fun b _ hb => hb))
  have HS := Lib.hid hs
  have S3 := Lib.hid s3
  clear hw0 hg acc bF bR bB s1 s2 s3 hat0 h hs ha1' ha2' a1 a2
  go_enter Try.func11, Try.ntmps11
  go_upto_region 2 with (fail)
  rw [Hw0.out, Hg.out]
  go_wp2_with fail
  go_loopw [4] (fun s4 wr => ∃ k : Nat, k ≤ f.items.length ∧ s4 = .int .i64 k ∧ OfAt w0 f g #[.string f.module, .slice A1 f.uses.length k1, .slice A2 f.types.length k2, .slice A3 f.items.length k3] #[.string ⟨#[]⟩, .slice none 0 0, .slice none 0 0, .slice none 0 0] (.slice A1 f.uses.length k1) (.slice A2 f.types.length k2) k wr) (fun s4 _ => f.items.length - (intOf s4).toNat)
  case atStart => exact ⟨0, by omega, rfl, HAT0.out⟩
  case round =>
    obtain ⟨k, hk, rfl, v, rk, bf, br, bb, ow⟩ := hrel
    have f3 := bf.cell 3
    simp only [List.getElem?_toArray, List.getElem?_cons_zero, List.getElem?_cons_succ] at f3
    by_cases hlt : k < f.items.length
    · obtain ⟨x, hx⟩ : ∃ x, f.items[k]? = some x := ⟨_, List.getElem?_eq_getElem hlt⟩
      obtain ⟨b, off, c', e, hP, hcx⟩ := pitm_at HL.out.items hx
      injection e with e1 _ e3
      subst e1 e3
      have hbg : b ∉ [g + 1 + 1] := fun hm => by rw [List.mem_singleton] at hm; have h1 : b < w.heap.size := hP; have := Hg.out; omega
      have x0 := rk.cellOf (ACC.out.cellOf (hcx 0 _ rfl) (by simp)) hbg
      have x1 := rk.cellOf (ACC.out.cellOf (hcx 1 _ rfl) (by simp)) hbg
      have x2 := rk.cellOf (ACC.out.cellOf (hcx 2 _ rfl) (by simp)) hbg
      have x3 := rk.cellOf (ACC.out.cellOf (hcx 3 _ rfl) (by simp)) hbg
      have x4 := rk.cellOf (ACC.out.cellOf (hcx 4 _ rfl) (by simp)) hbg
      have x5 := rk.cellOf (ACC.out.cellOf (hcx 5 _ rfl) (by simp)) hbg
      have x6 := rk.cellOf (ACC.out.cellOf (hcx 6 _ rfl) (by simp)) hbg
      have x7 := rk.cellOf (ACC.out.cellOf (hcx 7 _ rfl) (by simp)) hbg
      simp only [Nat.add_zero] at x0
      have hany := fun W => any_any x.v (HS.out x (List.mem_of_getElem? hx)) W
      have hv1 := (anyOf x.v).val_one
      have hvc := val_cells (anyOf x.v)
      have hstep : ((f.items.take (k + 1)).map itmOf).flatMap ItmD.cells = ((f.items.take k).map itmOf).flatMap ItmD.cells ++ (itmOf x).cells := by
        rw [List.take_succ_eq_append_getElem hlt, (List.getElem?_eq_some_iff.1 hx).2, List.map_append, List.flatMap_append]
        simp
      unfold itmOf ItmD.cells at hstep
      generalize (anyOf x.v).val = V at *
      replace hstep : ((f.items.take (k + 1)).map itmOf).flatMap ItmD.cells = ((f.items.take k).map itmOf).flatMap ItmD.cells ++ [.string x.name, .int .u8 x.kind, .int .i64 x.type, V, .int .i64 x.at_] := hstep
      obtain ⟨Av, cv, hv, hv1', hv2'⟩ := own_form ow
      subst hv
      obtain ⟨wz, hwz⟩ : ∃ q, wr.alloc (.cells #[.string x.name, .int .u8 x.kind, .int .i64 x.type, .int .i64 x.at_, .int .u8 x.v.sort, .int .i64 x.v.n, .int .i64 x.v.type, .string x.v.text] 66) = q := ⟨_, rfl⟩
      obtain ⟨z, hz⟩ : ∃ z, wr.heap.size = z := ⟨_, rfl⟩
      have qz : Wr [] wr wz := by rw [← hwz]; exact (Wr.refl _ _).alloc _
      have bz : Blk wz z 66 #[.string x.name, .int .u8 x.kind, .int .i64 x.type, .int .i64 x.at_, .int .u8 x.v.sort, .int .i64 x.v.n, .int .i64 x.v.type, .string x.v.text] := by rw [← hwz, ← hz]; exact Blk.new _ _ _
      have hgz : g + 1 + 1 < z := by rw [← hz]; exact bb.lt
      have hnv : ∀ q, q ∈ ownL (.slice Av k cv) → g + 1 + 1 + 1 ≤ q ∧ q < z := fun q hq => by rw [← hz]; exact ow.lt q (mem_ownL.1 hq)
      have hn1 : g + 1 + 1 ∉ ownL (.slice Av k cv) := fun hm => by have := (hnv _ hm).1; omega
      have hn2 : z ∉ ownL (.slice Av k cv) := fun hm => by have := (hnv _ hm).2; omega
      have BF := Lib.hid (bf.wr0 qz)
      have BR := Lib.hid (br.wr0 qz)
      have BB := Lib.hid (bb.wr0 qz)
      have OW := Lib.hid (own_keep ow qz (fun _ _ => by simp))
      have RK := Lib.hid (rk.trans0 qz)
      have BZ := Lib.hid bz
      have HWZ := Lib.hid hwz
      have HZ := Lib.hid hz
      have HANY := Lib.hid hany
      have HV1 := Lib.hid hv1
      have HSTEP := Lib.hid hstep
      have HN1 := Lib.hid hn1
      have HN2 := Lib.hid hn2
      have HNV := Lib.hid hnv
      have HX := Lib.hid hx
      have hst := stored_any V hv1
      simp only [Value.cells] at hvc
      have h0 : (0 : Int) ≤ (k : Int) := by omega
      have h1 : (k : Int) < (f.items.length : Int) := by omega
      clear hcx hbg hany hv1 hstep hwz hz qz bz hn1 hn2 hnv hx rk bf br bb ow
      go_upto_region 6 with (fail)
      rw [HWZ.out, HZ.out]
      clear x0 x1 x2 x3 x4 x5 x6 x7 f3
      have g3 := BB.out.cell 3
      have y0 := BZ.out.cell 0
      have y1 := BZ.out.cell 1
      have y2 := BZ.out.cell 2
      have y3 := BZ.out.cell 3
      have y4 := BZ.out.cell 4
      have y5 := BZ.out.cell 5
      have y6 := BZ.out.cell 6
      have y7 := BZ.out.cell 7
      simp only [List.getElem?_toArray, List.getElem?_cons_zero, List.getElem?_cons_succ] at g3 y0 y1 y2 y3 y4 y5 y6 y7
      have hC : ∀ W, Wr (ownL (.slice Av k cv)) wz W → W.cell? ⟨g + 1 + 1, 3, none⟩ = some (.slice Av k cv) ∧ W.cell? ⟨z, 0, none⟩ = some (.string x.name) ∧ W.cell? ⟨z, 1, none⟩ = some (.int .u8 x.kind) ∧ W.cell? ⟨z, 2, none⟩ = some (.int .i64 x.type) ∧ W.cell? ⟨z, 3, none⟩ = some (.int .i64 x.at_) ∧ W.cell? ⟨z, 4, none⟩ = some (.int .u8 x.v.sort) ∧ W.cell? ⟨z, 5, none⟩ = some (.int .i64 x.v.n) ∧ W.cell? ⟨z, 6, none⟩ = some (.int .i64 x.v.type) ∧ W.cell? ⟨z, 7, none⟩ = some (.string x.v.text) := fun W hW => ⟨hW.cellOf g3 HN1.out, hW.cellOf y0 HN2.out, hW.cellOf y1 HN2.out, hW.cellOf y2 HN2.out, hW.cellOf y3 HN2.out, hW.cellOf y4 HN2.out, hW.cellOf y5 HN2.out, hW.cellOf y6 HN2.out, hW.cellOf y7 HN2.out⟩
      have HC := Lib.hid hC
      clear hC
      refine wp_region_noPanic ?_
      refine wp_region_L (Until 17 fun w' => w'.cell? ⟨g + 1 + 1, 3, none⟩ = some (.slice Av k cv) ∧ w'.cell? ⟨z, 0, none⟩ = some (.string x.name) ∧ w'.cell? ⟨z, 1, none⟩ = some (.int .u8 x.kind) ∧ w'.cell? ⟨z, 2, none⟩ = some (.int .i64 x.type) ∧ w'.cell? ⟨z, 3, none⟩ = some (.int .i64 x.at_) ∧ w'.cell? ⟨z, 4, none⟩ = some (.int .u8 x.v.sort) ∧ w'.cell? ⟨z, 5, none⟩ = some (.int .i64 x.v.n) ∧ w'.cell? ⟨z, 6, none⟩ = some (.int .i64 x.v.type) ∧ w'.cell? ⟨z, 7, none⟩ = some (.string x.v.text)) (by kernel_rfl) (fun hcl => ?_)
      have hS : Until 17 (fun w' => w'.cell? ⟨g + 1 + 1, 3, none⟩ = some (.slice Av k cv) ∧ w'.cell? ⟨z, 0, none⟩ = some (.string x.name) ∧ w'.cell? ⟨z, 1, none⟩ = some (.int .u8 x.kind) ∧ w'.cell? ⟨z, 2, none⟩ = some (.int .i64 x.type) ∧ w'.cell? ⟨z, 3, none⟩ = some (.int .i64 x.at_) ∧ w'.cell? ⟨z, 4, none⟩ = some (.int .u8 x.v.sort) ∧ w'.cell? ⟨z, 5, none⟩ = some (.int .i64 x.v.n) ∧ w'.cell? ⟨z, 6, none⟩ = some (.int .i64 x.v.type) ∧ w'.cell? ⟨z, 7, none⟩ = some (.string x.v.text)) (Array.replicate 18 false) wz.drew := fun _ => ⟨g3, y0, y1, y2, y3, y4, y5, y6, y7⟩
      refine wpAnyL_take (i := 0) (oi := ?oi1) (v := ?v1) ?hi1 (by kernel_rfl) (by kernel_rfl) (by kernel_rfl) (fun _ _ _ h => h) (until_take 17 _ (by decide)) ?hy1 hcl hS ?rest1
      case hi1 =>
        simp only [List.getElem?_toArray, List.getElem?_cons_succ, List.getElem?_cons_zero]
        rfl
      case hy1 =>
        refine yields_until (by kernel_rfl) (Or.inl ⟨by rfl, fun w' hS => ?_⟩)
        try go_split_ands
        go_simp
        try rfl
      case rest1 =>
      intro hcl1 hS1
      clear hcl hS
      try simp only [Act.put, List.setIfInBounds_toArray, List.set_cons_zero, List.set_cons_succ]
      refine wpAnyL_take (i := 1) (oi := ?oi2) (v := ?v2) ?hi2 (by kernel_rfl) (by kernel_rfl) (by kernel_rfl) (fun _ _ _ h => h) (until_take 17 _ (by decide)) ?hy2 hcl1 hS1 ?rest2
      case hi2 =>
        simp only [List.getElem?_toArray, List.getElem?_cons_succ, List.getElem?_cons_zero]
        rfl
      case hy2 =>
        refine yields_until (by kernel_rfl) (Or.inl ⟨by rfl, fun w' hS => ?_⟩)
        try go_split_ands
        go_simp
        try rfl
      case rest2 =>
      intro hcl2 hS2
      clear hcl1 hS1
      try simp only [Act.put, List.setIfInBounds_toArray, List.set_cons_zero, List.set_cons_succ]
      refine wpAnyL_take (i := 2) (oi := ?oi3) (v := ?v3) ?hi3 (by kernel_rfl) (by kernel_rfl) (by kernel_rfl) (fun _ _ _ h => h) (until_take 17 _ (by decide)) ?hy3 hcl2 hS2 ?rest3
      case hi3 =>
        simp only [List.getElem?_toArray, List.getElem?_cons_succ, List.getElem?_cons_zero]
        rfl
      case hy3 =>
        refine yields_until (by kernel_rfl) (Or.inl ⟨by rfl, fun w' hS => ?_⟩)
        try go_split_ands
        go_simp
        try rfl
      case rest3 =>
      intro hcl3 hS3
      clear hcl2 hS2
      try simp only [Act.put, List.setIfInBounds_toArray, List.set_cons_zero, List.set_cons_succ]
      refine wpAnyL_take (i := 3) (oi := ?oi4) (v := ?v4) ?hi4 (by kernel_rfl) (by kernel_rfl) (by kernel_rfl) (fun _ _ _ h => h) (until_take 17 _ (by decide)) ?hy4 hcl3 hS3 ?rest4
      case hi4 =>
        simp only [List.getElem?_toArray, List.getElem?_cons_succ, List.getElem?_cons_zero]
        rfl
      case hy4 =>
        refine yields_until (by kernel_rfl) (Or.inl ⟨by rfl, fun w' hS => ?_⟩)
        try go_split_ands
        go_simp
        try rfl
      case rest4 =>
      intro hcl4 hS4
      clear hcl3 hS3
      try simp only [Act.put, List.setIfInBounds_toArray, List.set_cons_zero, List.set_cons_succ]
      refine wpAnyL_take (i := 4) (oi := ?oi5) (v := ?v5) ?hi5 (by kernel_rfl) (by kernel_rfl) (by kernel_rfl) (fun _ _ _ h => h) (until_take 17 _ (by decide)) ?hy5 hcl4 hS4 ?rest5
      case hi5 =>
        simp only [List.getElem?_toArray, List.getElem?_cons_succ, List.getElem?_cons_zero]
        rfl
      case hy5 =>
        refine yields_until (by kernel_rfl) (Or.inl ⟨by rfl, fun w' hS => ?_⟩)
        try go_split_ands
        go_simp
        try rfl
      case rest5 =>
      intro hcl5 hS5
      clear hcl4 hS4
      try simp only [Act.put, List.setIfInBounds_toArray, List.set_cons_zero, List.set_cons_succ]
      refine wpAnyL_take (i := 5) (oi := ?oi6) (v := ?v6) ?hi6 (by kernel_rfl) (by kernel_rfl) (by kernel_rfl) (fun _ _ _ h => h) (until_take 17 _ (by decide)) ?hy6 hcl5 hS5 ?rest6
      case hi6 =>
        simp only [List.getElem?_toArray, List.getElem?_cons_succ, List.getElem?_cons_zero]
        rfl
      case hy6 =>
        refine yields_until (by kernel_rfl) (Or.inl ⟨by rfl, fun w' hS => ?_⟩)
        try go_split_ands
        go_simp
        try rfl
      case rest6 =>
      intro hcl6 hS6
      clear hcl5 hS5
      try simp only [Act.put, List.setIfInBounds_toArray, List.set_cons_zero, List.set_cons_succ]
      refine wpAnyL_take (i := 6) (oi := ?oi7) (v := ?v7) ?hi7 (by kernel_rfl) (by kernel_rfl) (by kernel_rfl) (fun _ _ _ h => h) (until_take 17 _ (by decide)) ?hy7 hcl6 hS6 ?rest7
      case hi7 =>
        simp only [List.getElem?_toArray, List.getElem?_cons_succ, List.getElem?_cons_zero]
        rfl
      case hy7 =>
        refine yields_until (by kernel_rfl) (Or.inl ⟨by rfl, fun w' hS => ?_⟩)
        try go_split_ands
        go_simp
        try rfl
      case rest7 =>
      intro hcl7 hS7
      clear hcl6 hS6
      try simp only [Act.put, List.setIfInBounds_toArray, List.set_cons_zero, List.set_cons_succ]
      refine wpAnyL_take (i := 7) (oi := ?oi8) (v := ?v8) ?hi8 (by kernel_rfl) (by kernel_rfl) (by kernel_rfl) (fun _ _ _ h => h) (until_take 17 _ (by decide)) ?hy8 hcl7 hS7 ?rest8
      case hi8 =>
        simp only [List.getElem?_toArray, List.getElem?_cons_succ, List.getElem?_cons_zero]
        rfl
      case hy8 =>
        refine yields_until (by kernel_rfl) (Or.inl ⟨by rfl, fun w' hS => ?_⟩)
        try go_split_ands
        go_simp
        try rfl
      case rest8 =>
      intro hcl8 hS8
      clear hcl7 hS7
      try simp only [Act.put, List.setIfInBounds_toArray, List.set_cons_zero, List.set_cons_succ]
      refine wpAnyL_take (i := 8) (oi := ?oi9) (v := ?v9) ?hi9 (by kernel_rfl) (by kernel_rfl) (by kernel_rfl) (fun _ _ _ h => h) (until_take 17 _ (by decide)) ?hy9 hcl8 hS8 ?rest9
      case hi9 =>
        simp only [List.getElem?_toArray, List.getElem?_cons_succ, List.getElem?_cons_zero]
        rfl
      case hy9 =>
        refine yields_until (by kernel_rfl) (Or.inl ⟨by rfl, fun w' hS => ?_⟩)
        try go_split_ands
        go_simp
        try rfl
      case rest9 =>
      intro hcl9 hS9
      clear hcl8 hS8
      try simp only [Act.put, List.setIfInBounds_toArray, List.set_cons_zero, List.set_cons_succ]
      refine wpAnyL_take (i := 9) (oi := ?oi10) (v := ?v10) ?hi10 (by kernel_rfl) (by kernel_rfl) (by kernel_rfl) (fun _ _ _ h => h) (until_take 17 _ (by decide)) ?hy10 hcl9 hS9 ?rest10
      case hi10 =>
        simp only [List.getElem?_toArray, List.getElem?_cons_succ, List.getElem?_cons_zero]
        rfl
      case hy10 =>
        refine yields_until (by kernel_rfl) (Or.inl ⟨by rfl, fun w' hS => ?_⟩)
        try go_split_ands
        go_simp
        try rfl
      case rest10 =>
      intro hcl10 hS10
      clear hcl9 hS9
      try simp only [Act.put, List.setIfInBounds_toArray, List.set_cons_zero, List.set_cons_succ]
      refine wpAnyL_take (i := 10) (oi := ?oi11) (v := ?v11) ?hi11 (by kernel_rfl) (by kernel_rfl) (by kernel_rfl) (fun _ _ _ h => h) (until_take 17 _ (by decide)) ?hy11 hcl10 hS10 ?rest11
      case hi11 =>
        simp only [List.getElem?_toArray, List.getElem?_cons_succ, List.getElem?_cons_zero]
        rfl
      case hy11 =>
        refine yields_until (by kernel_rfl) (Or.inl ⟨by rfl, fun w' hS => ?_⟩)
        try go_split_ands
        go_simp
        try rfl
      case rest11 =>
      intro hcl11 hS11
      clear hcl10 hS10
      try simp only [Act.put, List.setIfInBounds_toArray, List.set_cons_zero, List.set_cons_succ]
      refine wpAnyL_take (i := 11) (oi := ?oi12) (v := ?v12) ?hi12 (by kernel_rfl) (by kernel_rfl) (by kernel_rfl) (fun _ _ _ h => h) (until_take 17 _ (by decide)) ?hy12 hcl11 hS11 ?rest12
      case hi12 =>
        simp only [List.getElem?_toArray, List.getElem?_cons_succ, List.getElem?_cons_zero]
        rfl
      case hy12 =>
        refine yields_until (by kernel_rfl) (Or.inl ⟨by rfl, fun w' hS => ?_⟩)
        try go_split_ands
        go_simp
        try rfl
      case rest12 =>
      intro hcl12 hS12
      clear hcl11 hS11
      try simp only [Act.put, List.setIfInBounds_toArray, List.set_cons_zero, List.set_cons_succ]
      refine wpAnyL_step (i := 12) (o := ?oi13) ?hi13 (by kernel_rfl) hcl12 ?rest13
      case hi13 =>
        simp only [List.getElem?_toArray, List.getElem?_cons_succ, List.getElem?_cons_zero]
        rfl
      case rest13 =>
      intro K hK
      go_simp
      refine (HANY.out _).mono ?_
      rintro e w5 ⟨rfl, r5⟩
      obtain ⟨W6, hW6⟩ : ∃ q, w5.alloc (.cells #[.string x.name, .int .u8 x.kind, .int .i64 x.type, V, .int .i64 x.at_] 57) = q := ⟨_, rfl⟩
      have r6 : Wr [] w5 W6 := by rw [← hW6]; exact (Wr.refl _ _).alloc _
      have n6 : Blk W6 w5.heap.size 57 #[.string x.name, .int .u8 x.kind, .int .i64 x.type, V, .int .i64 x.at_] := by rw [← hW6]; exact Blk.new _ _ _
      have rz6 : Wr [] wz W6 := (Wr.refl [] wz).drew.trans (r5.trans r6)
      have ho1 : ∀ u ∈ ([.string x.name, .int .u8 x.kind, .int .i64 x.type, V, .int .i64 x.at_] : List Value), u.oneCell' = true := by
        intro u hu
        simp only [List.mem_cons, List.not_mem_nil, or_false] at hu
        rcases hu with rfl | rfl | rfl | rfl | rfl
        · rfl
        · rfl
        · rfl
        · exact HV1.out
        · rfl
      obtain ⟨v', W7, hrun, hown, hgrow, _, hbk⟩ := run_append_own_at (P := Try.prog) W6 (g + 1 + 1 + 1) 37 37 57 i0 _ 5 56 Try.underlying37 hi0 hz0 hz1 hz2 rfl (by decide) (.slice Av k cv) k _ (own_keep OW.out rz6 (fun _ _ => by simp)) ⟨w5.heap.size, 0, none⟩ 1 1 [.string x.name, .int .u8 x.kind, .int .i64 x.type, V, .int .i64 x.at_] rfl (fun jj u hu => by
        rw [Addr.add_lit, Nat.zero_add, n6.cell, List.getElem?_toArray]
        exact hu) ho1 (by unfold maxLen; omega) (by omega) (by have h1 := BB.out.lt; have h2 := rz6.size; have h3 := HNV.out; have h4 := BZ.out.lt; omega)
      obtain ⟨A7, c7, hv7⟩ : ∃ A c, v' = .slice A (k + 1) c := by
        rcases hown.2 with ⟨_, h0⟩ | ⟨gg, cap, cur, e, _⟩
        · omega
        · exact ⟨_, _, e⟩
      subst hv7
      have b7 := ((BB.out.wr0 rz6).wr (Wr.ofGrownOwn hgrow) HN1.out)
      have c7' := b7.cell 3
      have f7 := b7.frozen 3
      simp only [List.getElem?_toArray, List.getElem?_cons_zero, List.getElem?_cons_succ] at c7'
      have hfin : OfAt w0 f g #[.string f.module, .slice A1 f.uses.length k1, .slice A2 f.types.length k2, .slice (some ⟨b, off, none⟩) f.items.length k3] #[.string ⟨#[]⟩, .slice none 0 0, .slice none 0 0, .slice none 0 0] (.slice A1 f.uses.length k1) (.slice A2 f.types.length k2) (k + 1) (W7.setCell ⟨g + 1 + 1, 3, none⟩ (.slice A7 (k + 1) c7)) := by
        have rA : Wr (ownL (.slice Av k cv)) W6 W7 := Wr.ofGrownOwn hgrow
        have rS : Wr [g + 1 + 1] W7 (W7.setCell ⟨g + 1 + 1, 3, none⟩ (.slice A7 (k + 1) c7)) := (Wr.refl _ _).setOn (by simp) _
        have hlo : ∀ q, q < g + 1 + 1 + 1 → q ∉ ownL (.slice Av k cv) := fun q hq hm => by have := (HNV.out q hm).1; omega
        refine ⟨.slice A7 (k + 1) c7, ((RK.out.trans0 rz6).trans' rA (fun q hq => .inr (by have := (HNV.out q hq).1; have := S3.out; omega))).trans rS, ((BF.out.wr0 rz6).wr rA (hlo _ (by omega))).wr rS (by simp; omega), ((BR.out.wr0 rz6).wr rA (hlo _ (by omega))).wr rS (by simp), ?_, ?_⟩
        · have := b7.set_ 3 (.slice A7 (k + 1) c7)
          simp at this
          exact this
        · rw [HSTEP.out]
          exact own_keep hown rS (fun q hq hm => by have := (hown.lt q hq).1; simp at hm; omega)
      have HRUN := Lib.hid hrun
      have HGR := Lib.hid hgrow
      have HFIN := Lib.hid hfin
      have R5 := Lib.hid r5
      have HW6 := Lib.hid hW6
      clear hrun hown hgrow hbk b7 hfin n6 r6 rz6 hW6
      refine hK _ _ (fun _ => HC.out _ ((Wr.refl (ownL (.slice Av k cv)) wz).drew.trans0 r5)) (fun hcl13 => ?_)
      clear hK K hcl12 hS12
      try simp only [Act.put, List.setIfInBounds_toArray, List.set_cons_zero, List.set_cons_succ]
      refine wpAnyL_step (i := 13) (o := ?oi14) ?hi14 (by kernel_rfl) hcl13 ?rest14
      case hi14 =>
        simp only [List.getElem?_toArray, List.getElem?_cons_succ, List.getElem?_cons_zero]
        rfl
      case rest14 =>
      intro K hK
      go_simp
      refine hK _ _ (fun _ => HC.out _ ((Wr.refl (ownL (.slice Av k cv)) wz).drew.trans0 r5)) (fun hcl14 => ?_)
      clear hK K hcl13
      try simp only [Act.put, List.setIfInBounds_toArray, List.set_cons_zero, List.set_cons_succ]
      refine wpAnyL_step (i := 14) (o := ?oi15) ?hi15 (by kernel_rfl) hcl14 ?rest15
      case hi15 =>
        simp only [List.getElem?_toArray, List.getElem?_cons_succ, List.getElem?_cons_zero]
        rfl
      case rest15 =>
      intro K hK
      go_simp
      rw [HW6.out]
      refine hK _ _ (fun _ => HC.out _ (((Wr.refl (ownL (.slice Av k cv)) wz).drew.trans0 r5).trans0 (by rw [← HW6.out]; exact (Wr.refl _ _).alloc _ : Wr [] w5 W6))) (fun hcl15 => ?_)
      clear hK K hcl14
      try simp only [Act.put, List.setIfInBounds_toArray, List.set_cons_zero, List.set_cons_succ]
      refine wpAnyL_step (i := 15) (o := ?oi16) ?hi16 (by kernel_rfl) hcl15 ?rest16
      case hi16 =>
        simp only [List.getElem?_toArray, List.getElem?_cons_succ, List.getElem?_cons_zero]
        rfl
      case rest16 =>
      intro K hK
      refine step_append_run (by rfl) _ _ _ (by rfl) _ _ (by rfl) (by rfl) _ _ HRUN.out ?_
      refine hK _ _ (fun _ => HC.out _ ((((Wr.refl (ownL (.slice Av k cv)) wz).drew.trans0 r5).trans0 (by rw [← HW6.out]; exact (Wr.refl _ _).alloc _ : Wr [] w5 W6)).trans (Wr.ofGrownOwn HGR.out))) (fun hcl16 => ?_)
      clear hK K hcl15
      try simp only [Act.put, List.setIfInBounds_toArray, List.set_cons_zero, List.set_cons_succ]
      refine wpAnyL_step (i := 16) (o := ?oi17) ?hi17 (by kernel_rfl) hcl16 ?rest17
      case hi17 =>
        simp only [List.getElem?_toArray, List.getElem?_cons_succ, List.getElem?_cons_zero]
        rfl
      case rest17 =>
      intro K hK
      go_simp
      refine hK _ _ (fun _ => HC.out _ ((((Wr.refl (ownL (.slice Av k cv)) wz).drew.trans0 r5).trans0 (by rw [← HW6.out]; exact (Wr.refl _ _).alloc _ : Wr [] w5 W6)).trans (Wr.ofGrownOwn HGR.out))) (fun hcl17 => ?_)
      clear hK K hcl16
      try simp only [Act.put, List.setIfInBounds_toArray, List.set_cons_zero, List.set_cons_succ]
      refine wpAnyL_step (i := 17) (o := ?oi18) ?hi18 (by kernel_rfl) hcl17 ?rest18
      case hi18 =>
        simp only [List.getElem?_toArray, List.getElem?_cons_succ, List.getElem?_cons_zero]
        rfl
      case rest18 =>
      intro K hK
      go_simp
      refine hK _ _ (fun hb => absurd hb (by decide)) (fun hcl999 => ?_)
      clear hK K hcl17
      refine wpAnyL_done (by kernel_rfl) (NoPanic.normal ?_) _
      try simp only [Act.put, List.setIfInBounds_toArray, List.set_cons_zero, List.set_cons_succ]
      go_wp2_with fail
      go_roundw
      case rel => exact ⟨k + 1, by omega, by go_num, HFIN.out⟩
      case measure => simp [intOf]; omega
    · obtain rfl : k = f.items.length := by omega
      rw [List.take_length] at ow
      obtain ⟨Av, cv, hv, _, _⟩ := own_form ow
      subst hv
      have t0 := bb.cell 0
      have t1 := bb.cell 1
      have t2 := bb.cell 2
      have t3 := bb.cell 3
      have s0 := br.cell 0
      have s1 := br.cell 1
      have s2 := br.cell 2
      have s3 := br.cell 3
      simp only [List.getElem?_toArray, List.getElem?_cons_zero, List.getElem?_cons_succ] at t0 t1 t2 t3 s0 s1 s2 s3
      have z0 := br.frozen 0
      have z1 := br.frozen 1
      have z2 := br.frozen 2
      have z3 := br.frozen 3
      have RK := Lib.hid rk
      have BR := Lib.hid br
      have OW := Lib.hid ow
      clear rk br bb bf ow
      go_wp2_with fail
      have r4 := wr4 wr (g + 1) (.string f.module) (.slice A1 f.uses.length k1) (.slice A2 f.types.length k2) (.slice Av f.items.length cv)
      have rw4 : Wr [] w wr := ACC.out.trans' RK.out (fun q hq => .inr (by rw [List.mem_singleton] at hq; have := Hg.out; omega))
      have hlw := HL.out.wr0 rw4
      have hne : ∀ q, q < w.heap.size → q ∉ [g + 1] := fun q hq hm => by rw [List.mem_singleton] at hm; have := Hg.out; omega
      have hl4 := (hlw.keep r4 hne).into (Q := fun _ => True) (fun _ _ _ => trivial)
      have oi := own_keep OW.out r4 (fun q hq hm => by have := (OW.out.lt q hq).1; simp at hm; omega)
      refine bodyPost_ret (v := (faceOf f).val (.slice A1 f.uses.length k1) (.slice A2 f.types.length k2) (.slice Av f.items.length cv)) ?_ rfl ⟨_, rfl, rw4.new r4 (by have := Hg.out; omega), hl4.uses, hl4.types, ?_⟩
      · have cc := blk4 wr (g + 1) 39 _ _ _ _ (.string f.module) (.slice A1 f.uses.length k1) (.slice A2 f.types.length k2) (.slice Av f.items.length cv) BR.out
        have u0 := cc.cell 0
        have u1 := cc.cell 1
        have u2 := cc.cell 2
        have u3 := cc.cell 3
        simp only [List.getElem?_toArray, List.getElem?_cons_zero, List.getElem?_cons_succ] at u0 u1 u2 u3
        simp [results, Try.results11, go_sem, u0, u1, u2, u3, FaceD.val, faceOf]
      · have := Sl.ofOwn oi (P := fun _ => True) (fun _ _ => trivial)
        unfold SlItms faceOf
        rw [List.length_map]
        exact this
end Go.Proofs.Ytjanbpchedgoiaa

/- Types numbered anew: what Canon answers, and that it does not matter how they stood. No conditions. -/
namespace Go.Proofs.Ytjanbpchedgoiaa
set_option linter.unusedVariables false

/-- The types that one names, in order. -/
def kids (t : Ty) : List Int := t.base :: t.index :: (t.fields.map Fld.type ++ (t.params.map Par.type ++ [t.result]))
def kidsAt (ts : List Ty) (n : Int) : List Int := match ts[(n - 10).toNat]? with | some t => kids t | none => []
/-- Types met, one behind the other. -/
def meets (kd : Int → List Int) : Nat → List Int → List Int → List Int
  | 0, _, ord => ord
  | k + 1, l, ord => l.foldl (fun ord n => if n < 10 ∨ n ∈ ord then ord else meets kd k (kd n) (ord ++ [n])) ord
def itmKids (x : ItmD) : List Int := match x.v with | .item t _ => [x.type, t] | _ => [x.type]
def starts (f : FaceD) : List Int := f.items.flatMap itmKids
def ordOf (f : FaceD) : List Int := meets (kidsAt f.types) (f.types.length + 1) (starts f) []
/-- A number, as it is anew. -/
def anewN (ord : List Int) (n : Int) : Int := match ord.idxOf? n with | some k => 10 + (k : Int) | none => n
def anewT (ord : List Int) (t : Ty) : Ty :=
  { t with base := anewN ord t.base, index := anewN ord t.index, result := anewN ord t.result, fields := t.fields.map (fun f => { f with type := anewN ord f.type }), params := t.params.map (fun p => { p with type := anewN ord p.type }) }
def anewV (ord : List Int) : AnyD → AnyD
  | .item t n => .item (anewN ord t) n
  | v => v
def anewI (ord : List Int) (x : ItmD) : ItmD := { x with type := anewN ord x.type, v := anewV ord x.v }
def zeroTy : Ty := ⟨0, ⟨#[]⟩, ⟨#[]⟩, 0, 0, 0, 0, [], [], [], [], 0⟩
def canonF (f : FaceD) : FaceD := { f with types := (ordOf f).map (fun n => anewT (ordOf f) ((f.types[(n - 10).toNat]?).getD zeroTy)), items := f.items.map (anewI (ordOf f)) }
def canonP (f : FaceD) : FaceD × Int := if mayP f = 0 then (canonF f, 0) else (noFace, mayP f)

/-- How many of these have not been met. -/
def fresh (T : List Int) (ord : List Int) : Nat := (T.filter (fun n => decide (n ∉ ord))).length
theorem fresh_mono {T o o' : List Int} (h : ∀ n, n ∈ o → n ∈ o') : fresh T o' ≤ fresh T o :=
  filter_len _ _ (fun x hx => by simp only [decide_eq_true_eq] at hx ⊢; exact fun hm => hx (h x hm)) T
theorem fresh_lt {T o o' : List Int} (h : ∀ n, n ∈ o → n ∈ o') {n : Int} (hn : n ∈ T) (h0 : n ∉ o) (h1 : n ∈ o') : fresh T o' < fresh T o :=
  filter_len_lt _ _ (fun x hx => by simp only [decide_eq_true_eq] at hx ⊢; exact fun hm => hx (h x hm)) n (by simp [h1]) (by simp [h0]) T hn
section
variable {kd : Int → List Int}
theorem meets_cons (k : Nat) (n : Int) (l ord : List Int) : meets kd (k + 1) (n :: l) ord = meets kd (k + 1) l (if n < 10 ∨ n ∈ ord then ord else meets kd k (kd n) (ord ++ [n])) := by
  conv => lhs; unfold meets
  conv => rhs; unfold meets
  rw [List.foldl_cons]
theorem meets_nil (k : Nat) (ord : List Int) : meets kd k [] ord = ord := by cases k <;> rfl
theorem meets_more : ∀ (k : Nat) (l ord : List Int) (n : Int), n ∈ ord → n ∈ meets kd k l ord
  | 0, _, _, _, h => h
  | k + 1, [], ord, n, h => by rw [meets_nil]; exact h
  | k + 1, m :: l, ord, n, h => by
    rw [meets_cons]
    refine meets_more (k + 1) l _ n ?_
    split
    · exact h
    · exact meets_more k _ _ n (List.mem_append_left _ h)
/-- All that is met is a type's number. -/
theorem meets_all {T : List Int} (hT : ∀ n, 10 ≤ n → n ∈ T → ∀ x ∈ kd n, 10 ≤ x → x ∈ T) : ∀ (k : Nat) (l ord : List Int), (∀ x ∈ l, 10 ≤ x → x ∈ T) → (∀ x ∈ ord, x ∈ T ∧ 10 ≤ x) → ord.Nodup → (∀ x ∈ meets kd k l ord, x ∈ T ∧ 10 ≤ x) ∧ (meets kd k l ord).Nodup
  | 0, _, _, _, h, hn => ⟨h, hn⟩
  | k + 1, [], ord, _, h, hn => by rw [meets_nil]; exact ⟨h, hn⟩
  | k + 1, m :: l, ord, hl, h, hn => by
    rw [meets_cons]
    by_cases c : m < 10 ∨ m ∈ ord
    · rw [if_pos c]
      exact meets_all hT (k + 1) l ord (fun x hx => hl x (by simp [hx])) h hn
    · rw [if_neg c]
      have c1 : 10 ≤ m := by
        rcases Int.lt_or_le m 10 with h | h
        · exact absurd (.inl h) c
        · exact h
      have c2 : m ∉ ord := fun h => c (.inr h)
      have hm : m ∈ T := hl m (by simp) c1
      have := meets_all hT k (kd m) (ord ++ [m]) (hT m c1 hm) (fun x hx => by
        rcases List.mem_append.1 hx with h1 | h1
        · exact h x h1
        · rw [List.mem_singleton] at h1; rw [h1]; exact ⟨hm, c1⟩) (by
        rw [List.nodup_append]
        refine ⟨hn, by simp, fun a ha b hb e => ?_⟩
        rw [List.mem_singleton] at hb
        subst hb
        subst e
        exact c2 ha)
      exact meets_all hT (k + 1) l _ (fun x hx => hl x (by simp [hx])) this.1 this.2
/-- With fuel enough all of a list is met, and what those that are met name. -/
theorem meets_full {T : List Int} (hT : ∀ n, 10 ≤ n → n ∈ T → ∀ x ∈ kd n, 10 ≤ x → x ∈ T) : ∀ (k : Nat) (l ord : List Int), fresh T ord < k → (∀ x ∈ l, 10 ≤ x → x ∈ T) →
    (∀ x ∈ l, 10 ≤ x → x ∈ meets kd k l ord) ∧ ∀ n, n ∈ meets kd k l ord → n ∉ ord → ∀ x ∈ kd n, 10 ≤ x → x ∈ meets kd k l ord
  | 0, _, _, h, _ => absurd h (by omega)
  | k + 1, [], ord, _, _ => by
    rw [meets_nil]
    exact ⟨(fun x hx => by cases hx), (fun n h1 h2 => absurd h1 h2)⟩
  | k + 1, m :: l, ord, hf, hl => by
    rw [meets_cons]
    by_cases c : m < 10 ∨ m ∈ ord
    · rw [if_pos c]
      obtain ⟨h1, h2⟩ := meets_full hT (k + 1) l ord hf (fun x hx => hl x (by simp [hx]))
      refine ⟨fun x hx hx10 => ?_, h2⟩
      rcases List.mem_cons.1 hx with e | e
      · rcases c with c | c
        · omega
        · rw [e]; exact meets_more _ _ _ _ c
      · exact h1 x e hx10
    · rw [if_neg c]
      have c1 : 10 ≤ m := by
        rcases Int.lt_or_le m 10 with h | h
        · exact absurd (.inl h) c
        · exact h
      have c2 : m ∉ ord := fun h => c (.inr h)
      have hm : m ∈ T := hl m (by simp) c1
      have hlt : fresh T (ord ++ [m]) < fresh T ord := fresh_lt (fun n h => List.mem_append_left _ h) hm c2 (by simp)
      obtain ⟨a1, a2⟩ := meets_full hT k (kd m) (ord ++ [m]) (by omega) (hT m c1 hm)
      have hin : m ∈ meets kd k (kd m) (ord ++ [m]) := meets_more _ _ _ _ (by simp)
      obtain ⟨b1, b2⟩ := meets_full hT (k + 1) l (meets kd k (kd m) (ord ++ [m])) (by
        have := fresh_mono (T := T) (o := ord) (o' := meets kd k (kd m) (ord ++ [m])) (fun n h => meets_more _ _ _ _ (List.mem_append_left _ h))
        omega) (fun x hx => hl x (by simp [hx]))
      refine ⟨fun x hx hx10 => ?_, fun n hn hno x hx hx10 => ?_⟩
      · rcases List.mem_cons.1 hx with e | e
        · rw [e]; exact meets_more _ _ _ _ hin
        · exact b1 x e hx10
      · by_cases hp : n ∈ meets kd k (kd m) (ord ++ [m])
        · by_cases hq : n ∈ ord ++ [m]
          · rcases List.mem_append.1 hq with h1 | h1
            · exact absurd h1 hno
            · rw [List.mem_singleton] at h1
              rw [h1] at hx
              exact meets_more _ _ _ _ (a1 x hx hx10)
          · exact meets_more _ _ _ _ (a2 n hp hq x hx hx10)
        · exact b2 n hn hp x hx hx10
/-- More fuel changes nothing. -/
theorem meets_fuel {T : List Int} (hT : ∀ n, 10 ≤ n → n ∈ T → ∀ x ∈ kd n, 10 ≤ x → x ∈ T) : ∀ (k k' : Nat) (l ord : List Int), fresh T ord < k → fresh T ord < k' → (∀ x ∈ l, 10 ≤ x → x ∈ T) → meets kd k l ord = meets kd k' l ord
  | 0, _, _, _, h, _, _ => absurd h (by omega)
  | k + 1, 0, _, _, _, h, _ => absurd h (by omega)
  | k + 1, k' + 1, [], ord, _, _, _ => by rw [meets_nil, meets_nil]
  | k + 1, k' + 1, m :: l, ord, hf, hf', hl => by
    rw [meets_cons, meets_cons]
    by_cases c : m < 10 ∨ m ∈ ord
    · rw [if_pos c, if_pos c]
      exact meets_fuel hT (k + 1) (k' + 1) l ord hf hf' (fun x hx => hl x (by simp [hx]))
    · rw [if_neg c, if_neg c]
      have c1 : 10 ≤ m := by
        rcases Int.lt_or_le m 10 with h | h
        · exact absurd (.inl h) c
        · exact h
      have c2 : m ∉ ord := fun h => c (.inr h)
      have hm : m ∈ T := hl m (by simp) c1
      have hlt : fresh T (ord ++ [m]) < fresh T ord := fresh_lt (fun n h => List.mem_append_left _ h) hm c2 (by simp)
      rw [meets_fuel hT k k' (kd m) (ord ++ [m]) (by omega) (by omega) (hT m c1 hm)]
      have := fresh_mono (T := T) (o := ord) (o' := meets kd k' (kd m) (ord ++ [m])) (fun n h => meets_more _ _ _ _ (List.mem_append_left _ h))
      exact meets_fuel hT (k + 1) (k' + 1) l _ (by omega) (by omega) (fun x hx => hl x (by simp [hx]))
/-- Numbers that are others: the same is met, by its other numbers. Only what is met in the end need have another number of its own. -/
theorem meets_map {kd' : Int → List Int} (ρ : Int → Int) (S : List Int) (hlow : ∀ n, n < 10 → ρ n = n) (hhigh : ∀ n ∈ S, 10 ≤ ρ n) (hinj : ∀ a ∈ S, ∀ b ∈ S, ρ a = ρ b → a = b) (hkd : ∀ n ∈ S, kd' (ρ n) = (kd n).map ρ) :
    ∀ (k : Nat) (l ord : List Int), (∀ x ∈ l, 10 ≤ x → x ∈ S) → (∀ x ∈ ord, x ∈ S) → (∀ n ∈ S, ∀ x ∈ kd n, 10 ≤ x → x ∈ S) → meets kd' k (l.map ρ) (ord.map ρ) = (meets kd k l ord).map ρ ∧ ∀ x ∈ meets kd k l ord, x ∈ S
  | 0, _, _, _, ho, _ => ⟨rfl, ho⟩
  | k + 1, [], ord, _, ho, _ => by rw [List.map_nil, meets_nil, meets_nil]; exact ⟨rfl, ho⟩
  | k + 1, m :: l, ord, hl, ho, hS => by
    rw [List.map_cons, meets_cons, meets_cons]
    by_cases c0 : m < 10
    · rw [if_pos (show ρ m < 10 ∨ ρ m ∈ ord.map ρ from .inl (by rw [hlow m c0]; exact c0)), if_pos (show m < 10 ∨ m ∈ ord from .inl c0)]
      exact meets_map ρ S hlow hhigh hinj hkd (k + 1) l ord (fun x hx => hl x (by simp [hx])) ho hS
    · have hm : m ∈ S := hl m (by simp) (by omega)
      by_cases c1 : m ∈ ord
      · rw [if_pos (show ρ m < 10 ∨ ρ m ∈ ord.map ρ from .inr (List.mem_map.2 ⟨m, c1, rfl⟩)), if_pos (show m < 10 ∨ m ∈ ord from .inr c1)]
        exact meets_map ρ S hlow hhigh hinj hkd (k + 1) l ord (fun x hx => hl x (by simp [hx])) ho hS
      · have c2 : ρ m ∉ ord.map ρ := fun h => by
          obtain ⟨b, hb, e⟩ := List.mem_map.1 h
          have := hinj b (ho b hb) m hm e
          rw [this] at hb
          exact c1 hb
        have c3 := hhigh m hm
        rw [if_neg (show ¬(ρ m < 10 ∨ ρ m ∈ ord.map ρ) from fun h => by rcases h with h | h; omega; exact c2 h), if_neg (show ¬(m < 10 ∨ m ∈ ord) from fun h => by rcases h with h | h; omega; exact c1 h), hkd m hm]
        obtain ⟨a1, a2⟩ := meets_map ρ S hlow hhigh hinj hkd k (kd m) (ord ++ [m]) (hS m hm) (fun x hx => by
          rcases List.mem_append.1 hx with h | h
          · exact ho x h
          · rw [List.mem_singleton] at h; rw [h]; exact hm) hS
        rw [List.map_append] at a1
        rw [show [ρ m] = [m].map ρ from rfl, a1]
        exact meets_map ρ S hlow hhigh hinj hkd (k + 1) l _ (fun x hx => hl x (by simp [hx])) a2 hS
end
end Go.Proofs.Ytjanbpchedgoiaa

/- Numbered anew twice is as once; however the types stood, numbered anew they stand in one order. No conditions. -/
namespace Go.Proofs.Ytjanbpchedgoiaa
set_option linter.unusedVariables false

/-- The numbers of so many types. -/
def nums (nt : Nat) : List Int := (List.range nt).map fun i : Nat => 10 + (i : Int)
theorem nums_iff {nt : Nat} {n : Int} : n ∈ nums nt ↔ 10 ≤ n ∧ n < 10 + (nt : Int) := by
  unfold nums
  rw [List.mem_map]
  constructor
  · rintro ⟨i, hi, rfl⟩
    rw [List.mem_range] at hi
    omega
  · rintro ⟨h1, h2⟩
    exact ⟨(n - 10).toNat, List.mem_range.2 (by omega), by omega⟩
theorem tyB_iff {nt : Nat} {n : Int} : tyB nt n = true ↔ 0 ≤ n ∧ n < 10 + (nt : Int) := by
  unfold tyB
  rw [inB_iff]
  omega
theorem tyB_nums {nt : Nat} {n : Int} (h : tyB nt n = true) (h10 : 10 ≤ n) : n ∈ nums nt := nums_iff.2 ⟨h10, (tyB_iff.1 h).2⟩
theorem kids_form {nt : Nat} {t : Ty} (h : tyForm nt t = true) : ∀ x ∈ kids t, tyB nt x = true := by
  unfold tyForm at h
  simp only [Bool.and_eq_true, List.all_eq_true] at h
  obtain ⟨⟨⟨⟨⟨⟨⟨a1, a2⟩, a3⟩, a4⟩, a5⟩, a6⟩, a7⟩, a8⟩ := h
  intro x hx
  unfold kids at hx
  simp only [List.mem_cons, List.mem_append, List.mem_map, List.not_mem_nil, or_false] at hx
  rcases hx with rfl | rfl | ⟨f, hf, rfl⟩ | ⟨p, hp, rfl⟩ | rfl
  · exact a1
  · exact a2
  · exact (a6 f hf).1
  · exact a8 p hp
  · exact a3
theorem itm_form {nt : Nat} {x : ItmD} (h : itmForm nt x = true) : ∀ n ∈ itmKids x, tyB nt n = true := by
  unfold itmForm anyForm at h
  unfold itmKids
  cases hv : x.v <;> rw [hv] at h <;> simp only [Bool.and_eq_true] at h <;> intro n hn <;> simp only [List.mem_cons, List.not_mem_nil, or_false] at hn
  all_goals first
    | (rcases hn with rfl | rfl
       · exact h.1.1
       · exact h.2.1)
    | (subst hn; exact h.1.1)
theorem len_sub : ∀ (l m : List Int), l.Nodup → (∀ x ∈ l, x ∈ m) → l.length ≤ m.length
  | [], _, _, _ => Nat.zero_le _
  | x :: l, m, hn, h => by
    rw [List.nodup_cons] at hn
    have hx := h x (by simp)
    have ih := len_sub l (m.erase x) hn.2 (fun y hy => (List.mem_erase_of_ne (fun e => by rw [e] at hy; exact hn.1 hy)).2 (h y (by simp [hy])))
    rw [List.length_erase_of_mem hx] at ih
    have := List.length_pos_of_mem hx
    rw [List.length_cons]
    omega
section
variable {f : FaceD}
theorem face_types (h : mayP f = 0) : ∀ t ∈ f.types, tyForm f.types.length t = true := by
  have := (face_parts h).2.2.2
  unfold faceForm at this
  simp only [Bool.and_eq_true, List.all_eq_true] at this
  exact this.1
theorem face_items (h : mayP f = 0) : ∀ x ∈ f.items, itmForm f.types.length x = true := by
  have := (face_parts h).2.2.2
  unfold faceForm at this
  simp only [Bool.and_eq_true, List.all_eq_true] at this
  exact this.2
theorem closed (h : mayP f = 0) : ∀ n, 10 ≤ n → n ∈ nums f.types.length → ∀ x ∈ kidsAt f.types n, 10 ≤ x → x ∈ nums f.types.length := by
  intro n _ hn x hx h10
  unfold kidsAt at hx
  cases ht : f.types[(n - 10).toNat]? with
  | none => rw [ht] at hx; cases hx
  | some t =>
    rw [ht] at hx
    exact tyB_nums (kids_form (face_types h t (List.mem_of_getElem? ht)) x hx) h10
theorem starts_in (h : mayP f = 0) : ∀ x ∈ starts f, 10 ≤ x → x ∈ nums f.types.length := by
  intro x hx h10
  unfold starts at hx
  obtain ⟨y, hy, hxy⟩ := List.mem_flatMap.1 hx
  exact tyB_nums (itm_form (face_items h y hy) x hxy) h10
theorem fresh_all (nt : Nat) : fresh (nums nt) [] = nt := by
  unfold fresh nums
  rw [List.filter_eq_self.2 (fun x _ => by simp), List.length_map, List.length_range]
structure OrdOk (f : FaceD) (ord : List Int) : Prop where
  inT : ∀ x ∈ ord, x ∈ nums f.types.length
  high : ∀ x ∈ ord, 10 ≤ x
  nodup : ord.Nodup
  start : ∀ x ∈ starts f, 10 ≤ x → x ∈ ord
  kid : ∀ n ∈ ord, ∀ x ∈ kidsAt f.types n, 10 ≤ x → x ∈ ord
theorem ordOk (h : mayP f = 0) : OrdOk f (ordOf f) := by
  obtain ⟨a1, a2⟩ := meets_all (closed h) (f.types.length + 1) (starts f) [] (starts_in h) (by simp) (by simp)
  obtain ⟨b1, b2⟩ := meets_full (closed h) (f.types.length + 1) (starts f) [] (by rw [fresh_all]; omega) (starts_in h)
  exact ⟨fun x hx => (a1 x hx).1, fun x hx => (a1 x hx).2, a2, b1, fun n hn => b2 n hn (by simp)⟩
theorem idx_some {ord : List Int} {n : Int} (h : n ∈ ord) : ∃ k, ord.idxOf? n = some k ∧ ord[k]? = some n := by
  cases hx : ord.idxOf? n with
  | none => rw [List.idxOf?_eq_none_iff] at hx; exact absurd h hx
  | some k =>
    refine ⟨k, rfl, ?_⟩
    have := List.findIdx?_eq_some_iff_getElem.1 hx
    obtain ⟨hk, he, _⟩ := this
    rw [List.getElem?_eq_getElem hk]
    simpa using he
theorem anewN_out {ord : List Int} {n : Int} (h : n ∉ ord) : anewN ord n = n := by
  unfold anewN
  rw [List.idxOf?_eq_none_iff.2 h]
theorem nodup_idx {ord : List Int} (hn : ord.Nodup) {i j : Nat} {n : Int} (h1 : ord[i]? = some n) (h2 : ord[j]? = some n) : i = j := by
  obtain ⟨hi, e1⟩ := List.getElem?_eq_some_iff.1 h1
  obtain ⟨hj, e2⟩ := List.getElem?_eq_some_iff.1 h2
  exact (List.getElem_inj (h₀ := hi) (h₁ := hj) hn).1 (e1.trans e2.symm)
theorem anewN_at {ord : List Int} (hn : ord.Nodup) {k : Nat} {n : Int} (h : ord[k]? = some n) : anewN ord n = 10 + (k : Int) := by
  obtain ⟨j, h1, h2⟩ := idx_some (List.mem_of_getElem? h)
  unfold anewN
  rw [h1, nodup_idx hn h h2]
theorem kids_anew (ord : List Int) (t : Ty) : kids (anewT ord t) = (kids t).map (anewN ord) := by
  unfold kids anewT
  simp [Function.comp_def]
theorem itmKids_anew (ord : List Int) (x : ItmD) : itmKids (anewI ord x) = (itmKids x).map (anewN ord) := by
  unfold itmKids anewI anewV
  cases x.v <;> rfl
theorem anewT_id {ord : List Int} {t : Ty} (h : ∀ x ∈ kids t, anewN ord x = x) : anewT ord t = t := by
  unfold kids at h
  have hf : t.fields.map (fun f => ({ f with type := anewN ord f.type } : Fld)) = t.fields := by
    conv => rhs; rw [← List.map_id t.fields]
    refine List.map_congr_left (fun f hf => ?_)
    rw [h f.type (by simp only [List.mem_cons, List.mem_append, List.mem_map]; exact .inr (.inr (.inl ⟨f, hf, rfl⟩)))]
    rfl
  have hp : t.params.map (fun f => ({ f with type := anewN ord f.type } : Par)) = t.params := by
    conv => rhs; rw [← List.map_id t.params]
    refine List.map_congr_left (fun f hf => ?_)
    rw [h f.type (by simp only [List.mem_cons, List.mem_append, List.mem_map]; exact .inr (.inr (.inr (.inl ⟨f, hf, rfl⟩))))]
    rfl
  unfold anewT
  rw [hf, hp, h t.base (by simp), h t.index (by simp), h t.result (by simp)]
theorem anewI_id {ord : List Int} {x : ItmD} (h : ∀ n ∈ itmKids x, anewN ord n = n) : anewI ord x = x := by
  obtain ⟨a, b, c, d, v⟩ := x
  unfold itmKids at h
  unfold anewI anewV
  cases v <;> simp_all
theorem tyFit_anew (ord : List Int) (t : Ty) : tyFit (anewT ord t) = tyFit t := by
  unfold tyFit anewT
  simp [List.all_map, Function.comp_def]
/-- Its types, numbered anew. -/
theorem canon_type (h : mayP f = 0) {k : Nat} {n : Int} (hk : (ordOf f)[k]? = some n) : ∃ t, f.types[(n - 10).toNat]? = some t ∧ (canonF f).types[k]? = some (anewT (ordOf f) t) := by
  have hn := (ordOk h).inT n (List.mem_of_getElem? hk)
  rw [nums_iff] at hn
  have hlt : (n - 10).toNat < f.types.length := by omega
  refine ⟨f.types[(n - 10).toNat], List.getElem?_eq_getElem hlt, ?_⟩
  unfold canonF
  simp only
  rw [List.getElem?_map, hk, Option.map_some, List.getElem?_eq_getElem hlt]
  rfl
theorem canon_len : (canonF f).types.length = (ordOf f).length := by simp [canonF]
theorem ord_len (h : mayP f = 0) : (ordOf f).length ≤ f.types.length := by
  have o := ordOk h
  have : (ordOf f).length ≤ (nums f.types.length).length := by
    exact len_sub _ _ o.nodup (fun x hx => o.inT x hx)
  simpa [nums] using this
theorem anew_range (h : mayP f = 0) {x : Int} (hx : 0 ≤ x) (hin : 10 ≤ x → x ∈ ordOf f) : tyB (ordOf f).length (anewN (ordOf f) x) = true := by
  have o := ordOk h
  rcases Int.lt_or_le x 10 with h1 | h1
  · rw [anewN_out (fun hm => by have := o.high x hm; omega)]
    exact tyB_iff.2 ⟨hx, by omega⟩
  · obtain ⟨k, hk⟩ := List.getElem?_of_mem (hin h1)
    have hl := (List.getElem?_eq_some_iff.1 hk).1
    rw [anewN_at o.nodup hk]
    exact tyB_iff.2 ⟨by omega, by omega⟩
theorem tyForm_anew {ord : List Int} {nt nt' : Nat} {t : Ty} (h : tyForm nt t = true) (hk : ∀ x ∈ kids t, tyB nt' (anewN ord x) = true) : tyForm nt' (anewT ord t) = true := by
  unfold tyForm at h ⊢
  unfold kids at hk
  simp only [Bool.and_eq_true, List.all_eq_true, anewT, List.mem_map] at h ⊢
  obtain ⟨⟨⟨⟨⟨⟨⟨a1, a2⟩, a3⟩, a4⟩, a5⟩, a6⟩, a7⟩, a8⟩ := h
  refine ⟨⟨⟨⟨⟨⟨⟨hk _ (by simp), hk _ (by simp)⟩, hk _ (by simp)⟩, a4⟩, a5⟩, ?_⟩, a7⟩, ?_⟩
  · rintro _ ⟨x, hx, rfl⟩
    exact ⟨hk _ (by simp only [List.mem_cons, List.mem_append, List.mem_map]; exact .inr (.inr (.inl ⟨x, hx, rfl⟩))), (a6 x hx).2⟩
  · rintro _ ⟨x, hx, rfl⟩
    exact hk _ (by simp only [List.mem_cons, List.mem_append, List.mem_map]; exact .inr (.inr (.inr (.inl ⟨x, hx, rfl⟩))))
theorem itmForm_anew {ord : List Int} {nt nt' : Nat} {x : ItmD} (h : itmForm nt x = true) (hk : ∀ n ∈ itmKids x, tyB nt' (anewN ord n) = true) : itmForm nt' (anewI ord x) = true := by
  unfold itmForm anyForm at h ⊢
  unfold itmKids at hk
  unfold anewI anewV
  cases hv : x.v <;> rw [hv] at h hk <;> simp only [Bool.and_eq_true, List.mem_cons, List.not_mem_nil, or_false] at h hk ⊢
  all_goals first
    | (exact ⟨⟨hk _ rfl, h.1.2⟩, h.2⟩)
    | (exact ⟨⟨hk _ (.inl rfl), h.1.2⟩, ⟨hk _ (.inr rfl), h.2.2⟩⟩)
theorem may_of {f : FaceD} (h1 : faceFit f = true) (h2 : onceB [] (f.uses.map UseD.module) = true) (h3 : onceB [] (f.items.map ItmD.name) = true) (h4 : faceForm f = true) : mayP f = 0 := by
  unfold mayP
  simp [h1, h2, h3, h4]
theorem itmFit_anew (ord : List Int) (x : ItmD) : itmFit (anewI ord x) = itmFit x := by
  unfold itmFit anewI anewV anyFit
  cases x.v <;> rfl
/-- What is numbered anew may be. -/
theorem canon_may (h : mayP f = 0) : mayP (canonF f) = 0 := by
  obtain ⟨h1, h2, h3, h4⟩ := face_parts h
  have o := ordOk h
  have hl := ord_len h
  have hpos : ∀ n, tyB f.types.length n = true → 0 ≤ n := fun n hn => (tyB_iff.1 hn).1
  refine may_of ?_ h2 ?_ ?_
  · unfold faceFit at h1 ⊢
    simp only [Bool.and_eq_true, decide_eq_true_eq, List.all_eq_true] at h1 ⊢
    obtain ⟨⟨⟨⟨⟨⟨a1, a2⟩, a3⟩, a4⟩, a5⟩, a6⟩, a7⟩ := h1
    refine ⟨⟨⟨⟨⟨⟨a1, by simpa [canonF] using a2⟩, by rw [canon_len]; omega⟩, a4⟩, a5⟩, fun t ht => ?_⟩, fun x hx => ?_⟩
    · obtain ⟨k, hk⟩ := List.getElem?_of_mem ht
      have hkl := (List.getElem?_eq_some_iff.1 hk).1
      rw [canon_len] at hkl
      obtain ⟨t', e1, e2⟩ := canon_type h (List.getElem?_eq_getElem hkl)
      rw [hk] at e2
      injection e2 with e2
      rw [e2, tyFit_anew]
      exact a6 t' (List.mem_of_getElem? e1)
    · obtain ⟨y, hy, rfl⟩ := List.mem_map.1 hx
      rw [itmFit_anew]
      exact a7 y hy
  · have : (canonF f).items.map ItmD.name = f.items.map ItmD.name := by simp [canonF, anewI, Function.comp_def]
    rw [this]
    exact h3
  · unfold faceForm
    rw [canon_len]
    simp only [Bool.and_eq_true, List.all_eq_true]
    refine ⟨fun t ht => ?_, fun x hx => ?_⟩
    · obtain ⟨k, hk⟩ := List.getElem?_of_mem ht
      have hkl := (List.getElem?_eq_some_iff.1 hk).1
      rw [canon_len] at hkl
      obtain ⟨t', e1, e2⟩ := canon_type h (List.getElem?_eq_getElem hkl)
      rw [hk] at e2
      injection e2 with e2
      rw [e2]
      have hf := face_types h t' (List.mem_of_getElem? e1)
      refine tyForm_anew hf (fun x hx => anew_range h (hpos x (kids_form hf x hx)) (fun h10 => o.kid _ (List.getElem_mem hkl) x ?_ h10))
      unfold kidsAt
      rw [e1]
      exact hx
    · obtain ⟨y, hy, rfl⟩ := List.mem_map.1 hx
      have hf := face_items h y hy
      exact itmForm_anew hf (fun n hn => anew_range h (hpos n (itm_form hf n hn)) (fun h10 => o.start n (List.mem_flatMap.2 ⟨y, hy, hn⟩) h10))
theorem nums_get {nt : Nat} {k : Nat} (hk : k < nt) : (nums nt)[k]? = some (10 + (k : Int)) := by
  unfold nums
  rw [List.getElem?_map, List.getElem?_range hk]
  rfl
theorem nums_nodup (nt : Nat) : (nums nt).Nodup := by
  unfold nums
  rw [List.nodup_iff_pairwise_ne, List.pairwise_map]
  exact List.Pairwise.imp (fun h => by intro e; exact h (by omega)) (List.nodup_range (n := nt))
theorem map_anew {ord : List Int} (hn : ord.Nodup) : ord.map (anewN ord) = nums ord.length := by
  refine List.ext_getElem? (fun k => ?_)
  rw [List.getElem?_map]
  rcases Nat.lt_or_ge k ord.length with hk | hk
  · rw [List.getElem?_eq_getElem hk, Option.map_some, anewN_at hn (List.getElem?_eq_getElem hk), nums_get hk]
  · rw [List.getElem?_eq_none hk, List.getElem?_eq_none (by simpa [nums] using hk)]
    rfl
/-- Numbered anew, its types stand as they are met. -/
theorem ord_canon (h : mayP f = 0) : ordOf (canonF f) = nums (ordOf f).length := by
  have o := ordOk h
  have hc := canon_may h
  have hm := meets_map (kd := kidsAt f.types) (kd' := kidsAt (canonF f).types) (anewN (ordOf f)) (ordOf f) (fun n hn => anewN_out (fun hx => by have := o.high n hx; omega))
    (fun n hn => by
      obtain ⟨k, hk⟩ := List.getElem?_of_mem hn
      rw [anewN_at o.nodup hk]; omega)
    (fun a ha b hb e => by
      obtain ⟨i, hi⟩ := List.getElem?_of_mem ha
      obtain ⟨j, hj⟩ := List.getElem?_of_mem hb
      rw [anewN_at o.nodup hi, anewN_at o.nodup hj] at e
      have : i = j := by omega
      subst this
      rw [hi] at hj
      injection hj)
    (fun n hn => by
      obtain ⟨k, hk⟩ := List.getElem?_of_mem hn
      obtain ⟨t, e1, e2⟩ := canon_type h hk
      rw [anewN_at o.nodup hk]
      unfold kidsAt
      rw [e1, show (10 + (k : Int) - 10).toNat = k by omega, e2]
      exact kids_anew _ _)
    (f.types.length + 1) (starts f) [] o.start (by simp) o.kid
  have hs : starts (canonF f) = (starts f).map (anewN (ordOf f)) := by
    unfold starts canonF
    simp only
    rw [List.flatMap_map, List.map_flatMap]
    congr 1
    funext x
    exact itmKids_anew _ _
  have e1 : ordOf (canonF f) = meets (kidsAt (canonF f).types) (f.types.length + 1) (starts (canonF f)) [] := by
    have hl := ord_len h
    exact meets_fuel (closed hc) _ _ _ _ (by rw [fresh_all]; omega) (by rw [fresh_all, canon_len]; omega) (starts_in hc)
  rw [e1, hs]
  have := hm.1
  rw [List.map_nil] at this
  rw [this]
  exact map_anew o.nodup
/-- Numbered anew twice is as once. -/
theorem canon_twice (h : mayP f = 0) : canonF (canonF f) = canonF f := by
  have o := ordOk h
  have hc := canon_may h
  have oc := ordOk hc
  have e := ord_canon h
  have hid : ∀ x, 0 ≤ x → x < 10 + ((ordOf f).length : Int) → anewN (nums (ordOf f).length) x = x := by
    intro x h0 h1
    rcases Int.lt_or_le x 10 with h2 | h2
    · exact anewN_out (fun hm => by have := (nums_iff.1 hm).1; omega)
    · rw [anewN_at (nums_nodup _) (k := (x - 10).toNat) (by rw [nums_get (by omega)]; congr 1; omega)]
      omega
  have ht : (ordOf (canonF f)).map (fun n => anewT (ordOf (canonF f)) (((canonF f).types[(n - 10).toNat]?).getD zeroTy)) = (canonF f).types := by
    refine List.ext_getElem? (fun k => ?_)
    rw [List.getElem?_map, e]
    rcases Nat.lt_or_ge k (ordOf f).length with hk | hk
    · rw [nums_get hk, Option.map_some, show (10 + (k : Int) - 10).toNat = k by omega, List.getElem?_eq_getElem (by rw [canon_len]; exact hk)]
      simp only [Option.getD_some, Option.some.injEq]
      refine anewT_id (fun x hx => ?_)
      have := kids_form (face_types hc _ (List.getElem_mem (by rw [canon_len]; exact hk))) x hx
      rw [canon_len, tyB_iff] at this
      exact hid x this.1 this.2
    · rw [List.getElem?_eq_none (by simpa [nums] using hk), List.getElem?_eq_none (by rw [canon_len]; exact hk)]
      rfl
  have hi : (canonF f).items.map (anewI (ordOf (canonF f))) = (canonF f).items := by
    conv => rhs; rw [← List.map_id (canonF f).items]
    refine List.map_congr_left (fun x hx => ?_)
    refine anewI_id (fun n hn => ?_)
    have := itm_form (face_items hc x hx) n hn
    rw [canon_len, tyB_iff] at this
    rw [e]
    exact hid n this.1 this.2
  have key : ∀ c, canonF c = { c with types := (ordOf c).map (fun n => anewT (ordOf c) ((c.types[(n - 10).toNat]?).getD zeroTy)), items := c.items.map (anewI (ordOf c)) } := fun _ => rfl
  rw [key (canonF f), ht, hi]
end
end Go.Proofs.Ytjanbpchedgoiaa

/- Maps by whole numbers: what they hold, as a function; an update, a look-up. No conditions. -/
namespace Go.Proofs.Ytjanbpchedgoiaa
open Go.RowKit
set_option linter.unusedVariables false

/-- What lies there under a number. -/
def fndI : List MapEntry → Int → Option Value
  | [], _ => none
  | e :: l, k => match e.key with | .int .i64 a => if a = k then some e.val else fndI l k | _ => none
def IntKeys (l : List MapEntry) : Prop := ∀ e ∈ l, ∃ a, e.key = .int .i64 a

theorem findNow_int : ∀ (l : List MapEntry) (k : Int) (i : Nat), IntKeys l → ∃ o, Instr.findNow (.int .i64) (.int .i64 k) l i = some o ∧ o.map (·.2) = fndI l k ∧
    ∀ p, o = some p → ∃ j e, p.1 = i + j ∧ l[j]? = some e ∧ e.key = .int .i64 k ∧ ∀ v k', fndI (l.modify j fun e => { e with key := .int .i64 k, val := v }) k' = if k' = k then some v else fndI l k'
  | [], k, i, _ => ⟨none, rfl, rfl, fun p h => by cases h⟩
  | e :: l, k, i, h => by
    obtain ⟨a, ha⟩ := h e (.head _)
    by_cases hak : a = k
    · subst hak
      refine ⟨some (i, e.val), ?_, ?_, ?_⟩
      · simp [Instr.findNow, Instr.sameNow, ha]
      · simp [fndI, ha]
      · intro p hp
        injection hp with hp
        subst hp
        refine ⟨0, e, by simp, rfl, ha, fun v k' => ?_⟩
        simp only [List.modify_zero_cons, fndI, ha]
        by_cases h1 : k' = a
        · subst h1; simp
        · have h2 : ¬ a = k' := fun e => h1 e.symm
          simp [h1, h2]
    · obtain ⟨o, h1, h2, h3⟩ := findNow_int l k (i + 1) (fun e he => h e (.tail _ he))
      refine ⟨o, ?_, ?_, ?_⟩
      · have : (k == a) = false := by simp; omega
        simp [Instr.findNow, Instr.sameNow, ha, this, h1]
      · simp [fndI, ha, hak, h2]
      · intro p hp
        obtain ⟨j, e', g1, g2, g3, g4⟩ := h3 p hp
        refine ⟨j + 1, e', by omega, g2, g3, fun v k' => ?_⟩
        simp only [List.modify_succ_cons, fndI, ha]
        by_cases h5 : a = k'
        · subst h5
          simp [hak]
        · simp only [h5, if_false]
          exact g4 v k'
theorem fndI_push (l : List MapEntry) (k : Int) (v : Value) (b : Nat) (h : fndI l k = none) (hk : IntKeys l) (k' : Int) : fndI (l ++ [{ key := .int .i64 k, val := v, born := b }]) k' = if k' = k then some v else fndI l k' := by
  induction l with
  | nil =>
    simp only [List.nil_append, fndI]
    by_cases h1 : k' = k
    · subst h1; simp
    · have : ¬ k = k' := fun e => h1 e.symm
      simp [h1, this]
  | cons e l ih =>
    obtain ⟨a, ha⟩ := hk e (.head _)
    simp only [List.cons_append, fndI, ha] at h ⊢
    by_cases h2 : a = k
    · simp [h2] at h
    · rw [if_neg h2] at h
      by_cases h3 : a = k'
      · subst h3
        simp [h2]
      · simp only [h3, if_false]
        exact ih h (fun e he => hk e (.tail _ he))

theorem intKeys_modify (l : List MapEntry) (h : IntKeys l) (j : Nat) (k : Int) (v : Value) : IntKeys (l.modify j fun e => { e with key := .int .i64 k, val := v }) := by
  intro e he
  obtain ⟨i, hi⟩ := List.mem_iff_getElem?.1 he
  rw [List.getElem?_modify] at hi
  cases hx : l[i]? with
  | none => rw [hx] at hi; cases hi
  | some x =>
    rw [hx] at hi
    by_cases hj : j = i
    · subst hj
      simp at hi
      subst hi
      exact ⟨k, rfl⟩
    · simp [hj] at hi
      subst hi
      exact h x (List.mem_of_getElem? hx)

/-- A map by whole numbers, in block r: kn says what it holds. -/
def MapI (w : World) (r : Nat) (kn : Int → Option Value) : Prop := ∃ es c, w.heap[r]? = some (.map es c) ∧ IntKeys es.toList ∧ ∀ k, fndI es.toList k = kn k
theorem MapI.wr {w w' : World} {r : Nat} {kn : Int → Option Value} {l : List Nat} (h : MapI w r kn) (hw : Wr l w w') (hr : r ∉ l) : MapI w' r kn := by
  obtain ⟨es, c, h1, h2, h3⟩ := h
  have hlt : r < w.heap.size := by
    rcases Nat.lt_or_ge r w.heap.size with h | h
    · exact h
    · rw [Array.getElem?_eq_none h] at h1; cases h1
  exact ⟨es, c, (hw.block r hlt hr).trans h1, h2, h3⟩
theorem MapI.lt {w : World} {r : Nat} {kn : Int → Option Value} (h : MapI w r kn) : r < w.heap.size := by
  obtain ⟨es, c, h1, h2, h3⟩ := h
  rcases Nat.lt_or_ge r w.heap.size with h | h
  · exact h
  · rw [Array.getElem?_eq_none h] at h1; cases h1
theorem MapI.new (w : World) : MapI (w.alloc (.map #[] 0)) w.heap.size (fun _ => none) := ⟨#[], 0, heap_alloc_new w _, by simp [IntKeys], fun k => rfl⟩

section
variable {P : Program} {T K E : TypeId} (hu : P.underlying T = some (.map K E)) (hk : P.underlying K = some (.int .i64))
include hu hk
theorem mapI_upd {w : World} {r : Nat} {kn : Int → Option Value} (h : MapI w r kn) (k : Int) (v : Value) :
    ∃ W, (Instr.mapUpdate T (.map (some r)) (.int .i64 k) v).run P w = .ok () W ∧ Wr [r] w W ∧ MapI W r (fun j => if j = k then some v else kn j) := by
  have hr := h.lt
  obtain ⟨es, c, h1, h2, h3⟩ := h
  have hc : ∀ w, (Instr.checkKey false 10000 K (.int .i64 k)).run P w = .ok () w := fun w => MapKept.run_checkKey hk (by simp [MapKept.IsKey]) false 9999
  have hW : ∀ o, Wr [r] w { w with heap := w.heap.setIfInBounds r o } := fun o => ⟨rfl, rfl, rfl, by simp, fun j _ hj => by
    have : r ≠ j := fun e => hj (by simp [e])
    simp [this]⟩
  have hH : ∀ o, (w.heap.setIfInBounds r o)[r]? = some o := fun o => by simp [hr]
  obtain ⟨o, g1, g2, g3⟩ := findNow_int es.toList k 0 h2
  cases o with
  | none =>
    refine ⟨_, ins_at hu hk w r es c (.int .i64 k) v h1 hc g1, hW _, _, _, hH _, ?_, ?_⟩
    · intro e he
      simp only [Array.toList_push, List.mem_append, List.mem_singleton] at he
      rcases he with he | rfl
      · exact h2 e he
      · exact ⟨k, rfl⟩
    · intro k'
      rw [Array.toList_push, fndI_push es.toList k v c g2.symm h2 k', h3]
  | some p =>
    obtain ⟨j, e, q1, q2, q3, q4⟩ := g3 p rfl
    have hj : es[p.1]? = some e := by
      rw [q1, Nat.zero_add, ← Array.getElem?_toList]
      exact q2
    have hrun : (Instr.mapUpdate T (.map (some r)) (.int .i64 k) v).run P w = .ok () { w with heap := w.heap.setIfInBounds r (.map (es.modify p.1 fun e => { e with key := .int .i64 k, val := v }) c) } := by
      obtain ⟨a, b⟩ := p
      simp only at hj
      simp [Instr.mapUpdate, run_underlying hu, Sem.run_bind, hc, Instr.findKey, run_underlying hk, g1, getObj, setObj, Sem.run, h1, Result.andThen, hj, q3]
      have := MapKept.run_keyThatStays (P := P) (w := w) (d := .int .i64) (k := .int .i64 k) (by simp [MapKept.IsKey])
      rw [this]
      simp [h1]
    refine ⟨_, hrun, hW _, _, _, hH _, ?_, ?_⟩
    · rw [Array.toList_modify]
      exact intKeys_modify _ h2 _ _ _
    · intro k'
      rw [Array.toList_modify, q1, Nat.zero_add, q4 v k', h3]
theorem mapI_look {w : World} {r : Nat} {kn : Int → Option Value} (h : MapI w r kn) (k : Int) {z : Value} (hz : ∀ w, (zeroValue E).run P w = .ok z w) :
    (Instr.lookup T (.map (some r)) (.int .i64 k) true).run P w = .ok (.tuple #[(kn k).getD z, .bool (kn k).isSome]) w := by
  obtain ⟨es, c, h1, h2, h3⟩ := h
  obtain ⟨o, g1, g2, _⟩ := findNow_int es.toList k 0 h2
  have hc : ∀ b w, (Instr.checkKey b 10000 K (.int .i64 k)).run P w = .ok () w := fun b w => MapKept.run_checkKey hk (by simp [MapKept.IsKey]) b 9999
  have := look_at hu hk w r es c (.int .i64 k) o z h1 hc g1 hz true
  rw [g2, h3] at this
  have e : o.isSome = (kn k).isSome := by rw [← h3 k, ← g2]; cases o <;> rfl
  rw [e] at this
  exact this
end
end Go.Proofs.Ytjanbpchedgoiaa

/- Canon's closure: what its variables hold. No conditions. -/
namespace Go.Proofs.Ytjanbpchedgoiaa
open Go.RowKit
set_option linter.unusedVariables false
set_option linter.unusedSimpArgs false

theorem meets_append {kd : Int → List Int} (k : Nat) : ∀ (l m ord : List Int), meets kd k (l ++ m) ord = meets kd k m (meets kd k l ord) := by
  cases k with
  | zero => intro l m ord; rfl
  | succ k =>
    intro l
    induction l with
    | nil => intro m ord; rw [List.nil_append, meets_nil]
    | cons x l ih => intro m ord; rw [List.cons_append, meets_cons, meets_cons, ih]
theorem meets_drop {kd : Int → List Int} {k j : Nat} {l : List Int} {n : Int} {ord : List Int} (h : l[j]? = some n) : meets kd (k + 1) (l.drop j) ord = meets kd (k + 1) (l.drop (j + 1)) (if n < 10 ∨ n ∈ ord then ord else meets kd k (kd n) (ord ++ [n])) := by
  have hk := (List.getElem?_eq_some_iff.1 h).1
  have e : l[j] = n := (List.getElem?_eq_some_iff.1 h).2
  conv => lhs; rw [List.drop_eq_getElem_cons hk, meets_cons]
  rw [e]
/-- The map from numbers to numbers anew. -/
def numsOf (ord : List Int) (n : Int) : Option Value := (ord.idxOf? n).map fun k => .int .i64 (10 + (k : Int))
theorem idx_push {ord : List Int} {n : Int} (h : n ∉ ord) (j : Int) : (ord ++ [n]).idxOf? j = if j = n then some ord.length else ord.idxOf? j := by
  induction ord with
  | nil =>
    by_cases hj : j = n
    · subst hj
      simp [List.idxOf?]
    · have : (n == j) = false := by simpa using fun e => hj e.symm
      simp [List.idxOf?, hj, this]
  | cons x l ih =>
    have hx : x ≠ n := fun e => h (by simp [e])
    have hl : n ∉ l := fun e => h (by simp [e])
    rw [List.cons_append, List.idxOf?_cons, ih hl]
    by_cases hxj : x = j
    · subst hxj
      rw [if_neg hx]
      simp [List.idxOf?_cons, hx]
    · have hb : (x == j) = false := by simpa using hxj
      by_cases hj : j = n
      · subst hj
        simp [hb]
      · simp [hb, hj, List.idxOf?_cons]
theorem numsOf_push {ord : List Int} {n : Int} (h : n ∉ ord) : (fun j => if j = n then some (Value.int .i64 (10 + (ord.length : Int))) else numsOf ord j) = numsOf (ord ++ [n]) := by
  funext j
  unfold numsOf
  rw [idx_push h]
  by_cases hj : j = n
  · rw [if_pos hj, if_pos hj]
    rfl
  · rw [if_neg hj, if_neg hj]
theorem numsOf_out {ord : List Int} {n : Int} (h : n ∉ ord) : numsOf ord n = none := by
  unfold numsOf
  have : ord.idxOf? n = none := by simpa using h
  rw [this]
  rfl
theorem numsOf_in {ord : List Int} {n : Int} (h : n ∈ ord) : numsOf ord n = some (.int .i64 (anewN ord n)) := by
  obtain ⟨k, h1, _⟩ := idx_some h
  unfold numsOf anewN
  rw [h1]
  rfl

/-- Where the closure's variables lie: blocks from B on are those behind the copy. -/
structure CC where
  B : Nat
  pn : Nat
  po : Nat
  pi : Nat
  pm : Nat
  gn : Nat
def CC.blocks (c : CC) : List Nat := [c.pn, c.po, c.pm, c.gn]
def CC.caps (c : CC) : Array Value := #[.pointer (some ⟨c.pn, 0, none⟩), .pointer (some ⟨c.po, 0, none⟩), .pointer (some ⟨c.pi, 0, none⟩), .pointer (some ⟨c.pm, 0, none⟩)]
structure CC.wf (c : CC) : Prop where
  nodup : c.blocks.Nodup
  low : ∀ b ∈ c.blocks, c.B ≤ b
theorem CC.wf.ne {c : CC} (hc : c.wf) : c.pn ≠ c.po ∧ c.pn ≠ c.pm ∧ c.pn ≠ c.gn ∧ c.po ≠ c.pm ∧ c.po ≠ c.gn ∧ c.pm ≠ c.gn := by
  have h := hc.nodup
  unfold CC.blocks at h
  simp only [List.nodup_cons, List.mem_cons, List.not_mem_nil, or_false, not_or] at h
  obtain ⟨⟨a1, a2, a3⟩, ⟨b1, b2⟩, c1, _⟩ := h
  exact ⟨a1, a2, a3, b1, b2, c1⟩
structure CEnv (c : CC) (w0 : World) (nt : Nat) (ord : List Int) (vo : Value) (w : World) : Prop where
  bel : Below c.B w0 w
  bn : Blk w c.pn 70 #[.map (some c.gn)]
  bo : Blk w c.po 71 #[vo]
  bm : Blk w c.pm 72 #[.func (.func 21) #[] c.caps]
  mn : MapI w c.gn (numsOf ord)
  own : w.ownsRow c.B 3 1 vo ord.length (ord.map (Value.int .i64))
  far : ∀ b, vo.ownBlock = some b → b ∉ c.blocks
  nodup : ord.Nodup
  sub : ∀ x ∈ ord, x ∈ nums nt ∧ 10 ≤ x
/-- What a call of the closure may have done. -/
structure CStep (c : CC) (vo : Value) (w : World) (vo' : Value) (w' : World) : Prop where
  wr : Wr (c.gn :: c.po :: ownL vo) w w'
  own : ∀ g, vo'.ownBlock = some g → vo.ownBlock = some g ∨ w.heap.size ≤ g
/-- A block that it leaves alone. -/
structure CSafe (c : CC) (vo : Value) (w : World) (g : Nat) : Prop where
  lt : g < w.heap.size
  n1 : g ≠ c.gn
  n2 : g ≠ c.po
  n3 : vo.ownBlock ≠ some g
section
variable {c : CC} {w0 w w1 w2 W : World} {nt : Nat} {ord ord' : List Int} {vo vo1 vo2 : Value} {g : Nat}
theorem CStep.refl (c : CC) (vo : Value) (w : World) : CStep c vo w vo w := ⟨Wr.refl _ _, fun g h => .inl h⟩
theorem CStep.trans (h : CStep c vo w vo1 w1) (k : CStep c vo1 w1 vo2 w2) : CStep c vo w vo2 w2 := by
  refine ⟨h.wr.trans' k.wr (fun x hx => ?_), fun g hg => ?_⟩
  · simp only [List.mem_cons] at hx ⊢
    rcases hx with hx | hx | hx
    · exact .inl (.inl hx)
    · exact .inl (.inr (.inl hx))
    · rcases h.own x (mem_ownL.1 hx) with h1 | h1
      · exact .inl (.inr (.inr (mem_ownL.2 h1)))
      · exact .inr h1
  · rcases k.own g hg with h1 | h1
    · exact h.own g h1
    · exact .inr (Nat.le_trans h.wr.size h1)
theorem CStep.wr0 (h : CStep c vo w vo1 w1) (r : Wr [] w1 w2) : CStep c vo w vo1 w2 := ⟨h.wr.trans0 r, h.own⟩
theorem CStep.of0 (r : Wr [] w w1) : CStep c vo w vo w1 := ⟨r.nil, fun g h => .inl h⟩
theorem CSafe.step (h : CSafe c vo w g) (k : CStep c vo w vo1 w1) : CSafe c vo1 w1 g := by
  refine ⟨Nat.lt_of_lt_of_le h.lt k.wr.size, h.n1, h.n2, fun e => ?_⟩
  rcases k.own g e with h1 | h1
  · exact h.n3 h1
  · have := h.lt; omega
theorem CSafe.not (h : CSafe c vo w g) : g ∉ c.gn :: c.po :: ownL vo := by
  simp only [List.mem_cons, not_or]
  exact ⟨h.n1, h.n2, fun e => h.n3 (mem_ownL.1 e)⟩
theorem CSafe.blk {T : TypeId} {cs : Array Value} (h : CSafe c vo w g) (k : CStep c vo w vo1 w1) (hb : Blk w g T cs) : Blk w1 g T cs := hb.wr k.wr h.not
theorem CSafe.cell {o : Nat} {v : Value} (h : CSafe c vo w g) (k : CStep c vo w vo1 w1) (hb : w.cell? ⟨g, o, none⟩ = some v) : w1.cell? ⟨g, o, none⟩ = some v := k.wr.cellOf hb h.not
theorem CEnv.size (h : CEnv c w0 nt ord vo w) (hB : c.B ≤ w0.heap.size) : c.B ≤ w.heap.size := Nat.le_trans hB h.bel.size
/-- A block that is new. -/
theorem CEnv.safeNew (h : CEnv c w0 nt ord vo w) (o : Obj) : CSafe c vo (w.alloc o) w.heap.size := by
  refine ⟨by simp, fun e => ?_, fun e => ?_, fun e => ?_⟩
  · have := h.mn.lt; omega
  · have := h.bo.lt; omega
  · have := (h.own.lt _ e).2; omega
theorem CEnv.wr0 (h : CEnv c w0 nt ord vo w) (hB : c.B ≤ w0.heap.size) (hw : Wr [] w W) : CEnv c w0 nt ord vo W :=
  ⟨h.bel.trans (hw.below (h.size hB) (fun _ hx => by cases hx)), h.bn.wr0 hw, h.bo.wr0 hw, h.bm.wr0 hw, h.mn.wr hw (by simp), own_keep h.own hw (fun _ _ => by simp), h.far, h.nodup, h.sub⟩
theorem CEnv.len (h : CEnv c w0 nt ord vo w) : ord.length ≤ nt := by
  have := len_sub ord (nums nt) h.nodup (fun x hx => (h.sub x hx).1)
  simpa [nums] using this
/-- One more is met: first the map, then the row. -/
theorem CEnv.push (hc : c.wf) (h : CEnv c w0 nt ord vo w) (hB : c.B ≤ w0.heap.size) {n : Int} (hn : n ∉ ord) (hT : n ∈ nums nt) (h10 : 10 ≤ n) {W1 W2 W3 : World} {v' : Value}
    (k1 : Wr [c.gn] w W1) (hm : MapI W1 c.gn (fun j => if j = n then some (.int .i64 (10 + (ord.length : Int))) else numsOf ord j)) (k2 : Wr [] W1 W2)
    (hown : W3.ownsRow c.B 3 1 v' (ord.length + 1) (ord.map (Value.int .i64) ++ [.int .i64 n])) (hg : W2.grownBy W3 vo.ownBlock) (hb : v'.ownBlock = vo.ownBlock ∨ v'.ownBlock = some W2.heap.size) :
    CEnv c w0 nt (ord ++ [n]) v' (W3.setCell ⟨c.po, 0, none⟩ v') ∧ CStep c vo w v' (W3.setCell ⟨c.po, 0, none⟩ v') := by
  obtain ⟨n1, n2, n3, n4, n5, n6⟩ := hc.ne
  have k3 : Wr (ownL vo) W2 W3 := Wr.ofGrownOwn hg
  have hf : ∀ b, b ∈ c.blocks → b ∉ ownL vo := fun b hb hx => h.far b (mem_ownL.1 hx) hb
  have hpo : c.B ≤ c.po := hc.low _ (by simp [CC.blocks])
  have hgn : c.B ≤ c.gn := hc.low _ (by simp [CC.blocks])
  have hlt : ∀ b, b ∈ c.blocks → b < w.heap.size := fun b hm => by
    simp only [CC.blocks, List.mem_cons, List.not_mem_nil, or_false] at hm
    rcases hm with rfl | rfl | rfl | rfl
    · exact h.bn.lt
    · exact h.bo.lt
    · exact h.bm.lt
    · exact h.mn.lt
  have s12 := Nat.le_trans k1.size k2.size
  have hbv : ∀ b, v'.ownBlock = some b → b ∉ c.blocks := fun b hb' hm => by
    rcases hb with h1 | h1
    · exact h.far b (h1 ▸ hb') hm
    · rw [h1] at hb'
      injection hb' with hb'
      have := hlt b hm
      omega
  have k4 : Wr [c.po] W3 (W3.setCell ⟨c.po, 0, none⟩ v') := (Wr.refl [c.po] W3).setOn (by simp) v'
  have m0 : MapI W1 c.gn (numsOf (ord ++ [n])) := by rw [← numsOf_push hn]; exact hm
  have lows : ∀ b, vo.ownBlock = some b → c.B ≤ b := fun b hb => (h.own.lt b hb).1
  refine ⟨⟨?_, ((((h.bn.wr k1 (by simpa using n3)).wr0 k2).wr k3 (hf _ (by simp [CC.blocks]))).wr k4 (by simpa using n1)), ?_, ((((h.bm.wr k1 (by simpa using n6)).wr0 k2).wr k3 (hf _ (by simp [CC.blocks]))).wr k4 (by simpa using fun e => n4 e.symm)), ((m0.wr k2 (by simp)).wr k3 (hf _ (by simp [CC.blocks]))).wr k4 (by simpa using fun e => n5 e.symm), ?_, hbv, ?_, ?_⟩, ⟨?_, ?_⟩⟩
  · have b1 : Below c.B w W1 := k1.below (h.size hB) (fun x hx => by rw [List.mem_singleton] at hx; rw [hx]; exact hgn)
    have b2 : Below c.B W1 W2 := k2.below (Nat.le_trans (h.size hB) k1.size) (fun x hx => by cases hx)
    have b3 : Below c.B W2 W3 := k3.below (Nat.le_trans (h.size hB) s12) (fun x hx => lows x (mem_ownL.1 hx))
    have b4 : Below c.B W3 (W3.setCell ⟨c.po, 0, none⟩ v') := k4.below (Nat.le_trans (h.size hB) (Nat.le_trans s12 k3.size)) (fun x hx => by rw [List.mem_singleton] at hx; rw [hx]; exact hpo)
    exact (((h.bel.trans b1).trans b2).trans b3).trans b4
  · have := (((h.bo.wr k1 (by simpa using n5)).wr0 k2).wr k3 (hf _ (by simp [CC.blocks]))).set_ 0 v'
    simpa using this
  · rw [List.length_append, List.map_append]
    exact own_keep hown k4 (fun b hb hx => hbv b hb (by rw [List.mem_singleton] at hx; rw [hx]; simp [CC.blocks]))
  · rw [List.nodup_append]
    refine ⟨h.nodup, by simp, fun a ha b hb e => ?_⟩
    rw [List.mem_singleton] at hb
    subst hb
    subst e
    exact hn ha
  · intro x hx
    rcases List.mem_append.1 hx with h1 | h1
    · exact h.sub x h1
    · rw [List.mem_singleton] at h1
      rw [h1]
      exact ⟨hT, h10⟩
  · refine (((k1.more (fun x hx => by rw [List.mem_singleton] at hx; simp [hx])).trans0 k2).trans (k3.more (fun x hx => by simp [hx]))).trans (k4.more (fun x hx => by rw [List.mem_singleton] at hx; simp [hx]))
  · intro x hx
    rcases hb with h1 | h1
    · exact .inl (h1 ▸ hx)
    · rw [h1] at hx
      injection hx with hx
      exact .inr (by omega)
end
/-- What the closure answers. -/
def MetR (c : CC) (w0 : World) (nt : Nat) (ord : List Int) (vo : Value) (w : World) (e : Ending) (w' : World) : Prop :=
  e = .returned (.tuple #[]) ∧ ∃ vo', CEnv c w0 nt ord vo' w' ∧ CStep c vo w vo' w'
end Go.Proofs.Ytjanbpchedgoiaa
