/- law 14's Plain: walked. Conditions: numbers are within their kinds. -/
import Derived.Test.YtjanbpchedgoiaaGreatKT30
import Derived.Test.YtjanbpchedgoiaaGreatKT15
import Derived.Test.YtjanbpchedgoiaaGreatKT17
set_option linter.unusedVariables false
set_option linter.unusedSimpArgs false
set_option maxRecDepth 100000
set_option maxHeartbeats 32000000
namespace Go.Proofs.YtjanbpchedgoiaaGreat
open Go.RowKit
def FaceP.val (f : FaceP) (vu vt vi : Value) : Value := .agg #[.string f.module, vu, vt, vi]
def PlainR (f : FaceD) (vu vt : Value) (w : World) (e : Ending) (w' : World) : Prop := ∃ vi, e = .returned ((facePl f).val vu vt vi) ∧ Wr [] w w' ∧ FacePL w' (fun _ => True) vu vt vi (facePl f)
def PlAt (w0 : World) (f : FaceD) (g : Nat) (cs zs : Array Value) (vu vt : Value) (k : Nat) (w : World) : Prop :=
 ∃ v, Wr [g + 1 + 1] w0 w ∧ Blk w g 35 cs ∧ Blk w (g + 1) 27 zs ∧ Blk w (g + 1 + 1) 27 #[.string f.module, vu, vt, v] ∧ w.ownsRow (g + 1 + 1 + 1) 56 8 v k (((f.items.take k).map pitmOf).flatMap PItm.cells)
theorem info_ritm : (Tryz.prog.info? 56).map (fun i => (i.zero, i.size, i.bytes)) = some (some (.agg #[.string ⟨#[]⟩, .int .u8 0, .int .i64 0, .int .i64 0, .int .u8 0, .int .i64 0, .int .i64 0, .string ⟨#[]⟩]), 8, 80) := by kernel_rfl
theorem plain_face (f : FaceD) (vu vt vi : Value) (P : Nat → Prop) (w : World) (h : FaceL w P vu vt vi f) (hs : ∀ x ∈ f.items, anyW x.v) (hn : f.items.length ≤ 1000000) :
  Calls Tryz.prog 9 #[.agg #[.string f.module, vu, vt, vi]] w (PlainR f vu vt w) := by
 obtain ⟨⟨A1, k1, rfl, hn1, hn2⟩, ⟨A2, k2, rfl, hf1, hf2⟩, ⟨A3, k3, rfl, ha1, ha2⟩⟩ := h.forms
 unfold maxLen at hn2 hf2 ha2
 obtain ⟨i0, hi0, hz0, hz1, hz2⟩ := info_parts info_ritm
 obtain ⟨w0, hw0⟩ : ∃ w0, ((w.alloc (.cells #[.string f.module, .slice A1 f.uses.length k1, .slice A2 f.types.length k2, .slice A3 f.items.length k3] 35)).alloc (.cells #[.string ⟨#[]⟩, .slice none 0 0, .slice none 0 0, .slice none 0 0] 27)).alloc (.cells #[.string f.module, .slice A1 f.uses.length k1, .slice A2 f.types.length k2, .slice none 0 0] 27) = w0 := ⟨_, rfl⟩
 obtain ⟨g, hg⟩ : ∃ g, w.heap.size = g := ⟨_, rfl⟩
 have acc : Wr [] w w0 := by rw [← hw0]; exact (((Wr.refl _ _).alloc _).alloc _).alloc _
 have bF : Blk w0 g 35 #[.string f.module, .slice A1 f.uses.length k1, .slice A2 f.types.length k2, .slice A3 f.items.length k3] := by rw [← hw0, ← hg]; exact ((Blk.new _ _ _).alloc _).alloc _
 obtain ⟨a1, ha1'⟩ : ∃ a, w.alloc (.cells #[.string f.module, .slice A1 f.uses.length k1, .slice A2 f.types.length k2, .slice A3 f.items.length k3] 35) = a := ⟨_, rfl⟩
 obtain ⟨a2, ha2'⟩ : ∃ a, a1.alloc (.cells #[.string ⟨#[]⟩, .slice none 0 0, .slice none 0 0, .slice none 0 0] 27) = a := ⟨_, rfl⟩
 have s1 : a1.heap.size = g + 1 := by rw [← ha1', qsiq, hg]
 have s2 : a2.heap.size = g + 1 + 1 := by rw [← ha2', qsiq, s1]
 have bR : Blk w0 (g + 1) 27 #[.string ⟨#[]⟩, .slice none 0 0, .slice none 0 0, .slice none 0 0] := by
  rw [← hw0, ha1', ← s1]
  exact (Blk.new _ _ _).alloc _
 have bB : Blk w0 (g + 1 + 1) 27 #[.string f.module, .slice A1 f.uses.length k1, .slice A2 f.types.length k2, .slice none 0 0] := by
  rw [← hw0, ha1', ha2', ← s2]
  exact Blk.new _ _ _
 have s3 : w0.heap.size = g + 1 + 1 + 1 := by rw [← hw0, ha1', ha2', qsiq, s2]
 have hat0 : PlAt w0 f g #[.string f.module, .slice A1 f.uses.length k1, .slice A2 f.types.length k2, .slice A3 f.items.length k3] #[.string ⟨#[]⟩, .slice none 0 0, .slice none 0 0, .slice none 0 0] (.slice A1 f.uses.length k1) (.slice A2 f.types.length k2) 0 w0 := ⟨.slice none 0 0, Wr.refl _ _, bF, bR, bB, by simp only [List.take_zero, List.map_nil, List.flatMap_nil]; exact World.ownsRow_nil _ _ _ _⟩
 have HAT0 := qh hat0
 have Hw0 := qh hw0
 have Hg := qh hg
 have ACC := qh acc
 have HL := qh (h.into (Q := fun b => b < w.heap.size) (fun b _ hb => hb))
 have HS := qh hs
 have S3 := qh s3
 clear hw0 hg acc bF bR bB s1 s2 s3 hat0 h hs ha1' ha2' a1 a2
 go_enter Tryz.func9, Tryz.ntmps9
 go_upto_region 2 with (fail)
 rw [Hw0.out, Hg.out]
 go_wp2_with fail
 go_loopw [4] (fun s4 wr => ∃ k : Nat, k ≤ f.items.length ∧ s4 = .int .i64 k ∧ PlAt w0 f g #[.string f.module, .slice A1 f.uses.length k1, .slice A2 f.types.length k2, .slice A3 f.items.length k3] #[.string ⟨#[]⟩, .slice none 0 0, .slice none 0 0, .slice none 0 0] (.slice A1 f.uses.length k1) (.slice A2 f.types.length k2) k wr) (fun s4 _ => f.items.length - (intOf s4).toNat)
 case atStart => exact ⟨0, by omega, rfl, HAT0.out⟩
 case round =>
  obtain ⟨k, hk, rfl, v, rk, bf, br, bb, ow⟩ := hrel
  have f3 := bf.cell 3
  simp only [qgaq, qgzq, qgsq] at f3
  by_cases hlt : k < f.items.length
  ·obtain ⟨x, hx⟩ : ∃ x, f.items[k]? = some x := ⟨_, qgeq hlt⟩
   obtain ⟨b, off, c', e, hP, hcx⟩ := itm_at HL.out.items hx
   injection e with e1 _ e3
   subst e1 e3
   have hbg : b ∉ [g + 1 + 1] := fun hm => by rw [qmsq] at hm; have h1 : b < w.heap.size := hP; have := Hg.out; omega
   have x0 := rk.cellOf (ACC.out.cellOf (hcx 0 _ rfl) (by simp)) hbg
   have x1 := rk.cellOf (ACC.out.cellOf (hcx 1 _ rfl) (by simp)) hbg
   have x2 := rk.cellOf (ACC.out.cellOf (hcx 2 _ rfl) (by simp)) hbg
   have x3 := rk.cellOf (ACC.out.cellOf (hcx 3 _ rfl) (by simp)) hbg
   have x4 := rk.cellOf (ACC.out.cellOf (hcx 4 _ rfl) (by simp)) hbg
   simp only [Nat.add_zero] at x0
   have hany := fun W => value_any x.v (HS.out x (List.mem_of_getElem? hx)) W
   have hv1 := x.v.val_one
   have hvc := val_cells x.v
   have hstep : ((f.items.take (k + 1)).map pitmOf).flatMap PItm.cells = ((f.items.take k).map pitmOf).flatMap PItm.cells ++ (pitmOf x).cells := by
    rw [List.take_succ_eq_append_getElem hlt, (List.getElem?_eq_some_iff.1 hx).2, List.map_append, qfaq]
    simp
   unfold pitmOf PItm.cells at hstep
   unfold PVal.cells at hany
   obtain ⟨p, hp⟩ : ∃ p, valOf x.v = p := ⟨_, rfl⟩
   rw [hp] at hany
   have hstep' : ((f.items.take (k + 1)).map pitmOf).flatMap PItm.cells = ((f.items.take k).map pitmOf).flatMap PItm.cells ++ [.string x.name, .int .u8 x.kind, .int .i64 x.type, .int .i64 x.at_, .int .u8 p.sort, .int .i64 p.n, .int .i64 p.type, .string p.text] := by
    rw [← hp]
    exact hstep
   replace hstep := hstep'
   generalize x.v.val = V at *
   simp only [Value.cells] at hvc
   clear hp hstep'
   obtain ⟨Av, cv, hv, hv1', hv2'⟩ := own_form ow
   subst hv
   obtain ⟨wz, hwz⟩ : ∃ q, wr.alloc (.cells #[.string x.name, .int .u8 x.kind, .int .i64 x.type, V, .int .i64 x.at_] 59) = q := ⟨_, rfl⟩
   obtain ⟨z, hz⟩ : ∃ z, wr.heap.size = z := ⟨_, rfl⟩
   have qz : Wr [] wr wz := by rw [← hwz]; exact (Wr.refl _ _).alloc _
   have bz : Blk wz z 59 #[.string x.name, .int .u8 x.kind, .int .i64 x.type, V, .int .i64 x.at_] := by rw [← hwz, ← hz]; exact Blk.new _ _ _
   have hgz : g + 1 + 1 < z := by rw [← hz]; exact bb.lt
   have hnv : ∀ q, q ∈ ownL (.slice Av k cv) → g + 1 + 1 + 1 ≤ q ∧ q < z := fun q hq => by rw [← hz]; exact ow.lt q (mem_ownL.1 hq)
   have hn1 : g + 1 + 1 ∉ ownL (.slice Av k cv) := fun hm => by have := (hnv _ hm).1; omega
   have hn2 : z ∉ ownL (.slice Av k cv) := fun hm => by have := (hnv _ hm).2; omega
   have BF := qh (bf.wr0 qz)
   have BR := qh (br.wr0 qz)
   have BB := qh (bb.wr0 qz)
   have OW := qh (own_keep ow qz (fun _ _ => by simp))
   have RK := qh (rk.trans0 qz)
   have BZ := qh bz
   have HWZ := qh hwz
   have HZ := qh hz
   have HANY := qh hany
   have HV1 := qh hv1
   have HSTEP := qh hstep
   have HN1 := qh hn1
   have HN2 := qh hn2
   have HNV := qh hnv
   have HX := qh hx
   have hst := stored_any V hv1
   have h0 : (0 : Int) ≤ (k : Int) := by omega
   have h1 : (k : Int) < (f.items.length : Int) := by omega
   clear hcx hbg hany hv1 hstep hwz hz qz bz hn1 hn2 hnv hx rk bf br bb ow
   go_upto_region 6 with (fail)
   rw [HWZ.out, HZ.out]
   clear x0 x1 x2 x3 x4 f3
   have g3 := BB.out.cell 3
   have y0 := BZ.out.cell 0
   have y1 := BZ.out.cell 1
   have y2 := BZ.out.cell 2
   have y3 := BZ.out.cell 3
   have y4 := BZ.out.cell 4
   simp only [qgaq, qgzq, qgsq] at g3 y0 y1 y2 y3 y4
   have hC : ∀ W, Wr (ownL (.slice Av k cv)) wz W → W.cell? ⟨g + 1 + 1, 3, none⟩ = some (.slice Av k cv) ∧ W.cell? ⟨z, 0, none⟩ = some (.string x.name) ∧ W.cell? ⟨z, 1, none⟩ = some (.int .u8 x.kind) ∧ W.cell? ⟨z, 2, none⟩ = some (.int .i64 x.type) ∧ W.cell? ⟨z, 3, none⟩ = some (V) ∧ W.cell? ⟨z, 4, none⟩ = some (.int .i64 x.at_) := fun W hW => ⟨hW.cellOf g3 HN1.out, hW.cellOf y0 HN2.out, hW.cellOf y1 HN2.out, hW.cellOf y2 HN2.out, hW.cellOf y3 HN2.out, hW.cellOf y4 HN2.out⟩
   have HC := qh hC
   clear hC
   refine wp_region_noPanic ?_
   refine wp_region_L (Until 17 fun w' => w'.cell? ⟨g + 1 + 1, 3, none⟩ = some (.slice Av k cv) ∧ w'.cell? ⟨z, 0, none⟩ = some (.string x.name) ∧ w'.cell? ⟨z, 1, none⟩ = some (.int .u8 x.kind) ∧ w'.cell? ⟨z, 2, none⟩ = some (.int .i64 x.type) ∧ w'.cell? ⟨z, 3, none⟩ = some (V) ∧ w'.cell? ⟨z, 4, none⟩ = some (.int .i64 x.at_)) (by kernel_rfl) (fun hcl => ?_)
   have hS : Until 17 (fun w' => w'.cell? ⟨g + 1 + 1, 3, none⟩ = some (.slice Av k cv) ∧ w'.cell? ⟨z, 0, none⟩ = some (.string x.name) ∧ w'.cell? ⟨z, 1, none⟩ = some (.int .u8 x.kind) ∧ w'.cell? ⟨z, 2, none⟩ = some (.int .i64 x.type) ∧ w'.cell? ⟨z, 3, none⟩ = some (V) ∧ w'.cell? ⟨z, 4, none⟩ = some (.int .i64 x.at_)) (Array.replicate 18 false) wz.drew := fun _ => ⟨g3, y0, y1, y2, y3, y4⟩
   refine wpAnyL_take (i := 0) (oi := ?oi1) (v := ?v1) ?hi1 (by kernel_rfl) (by kernel_rfl) (by kernel_rfl) (fun _ _ _ h => h) (until_take 17 _ (by decide)) ?hy1 hcl hS ?rest1
   case hi1 =>
    simp only [qgaq, qgsq, qgzq]
    rfl
   case hy1 =>
    refine yields_until (by kernel_rfl) (Or.inl ⟨by rfl, fun w' hS => ?_⟩)
    try go_split_ands
    go_simp
    try rfl
   case rest1 =>
   intro hcl1 hS1
   clear hcl hS
   try simp only [Act.put, qsaq, qszq, qssq]
   refine wpAnyL_take (i := 1) (oi := ?oi2) (v := ?v2) ?hi2 (by kernel_rfl) (by kernel_rfl) (by kernel_rfl) (fun _ _ _ h => h) (until_take 17 _ (by decide)) ?hy2 hcl1 hS1 ?rest2
   case hi2 =>
    simp only [qgaq, qgsq, qgzq]
    rfl
   case hy2 =>
    refine yields_until (by kernel_rfl) (Or.inl ⟨by rfl, fun w' hS => ?_⟩)
    try go_split_ands
    go_simp
    try rfl
   case rest2 =>
   intro hcl2 hS2
   clear hcl1 hS1
   try simp only [Act.put, qsaq, qszq, qssq]
   refine wpAnyL_take (i := 2) (oi := ?oi3) (v := ?v3) ?hi3 (by kernel_rfl) (by kernel_rfl) (by kernel_rfl) (fun _ _ _ h => h) (until_take 17 _ (by decide)) ?hy3 hcl2 hS2 ?rest3
   case hi3 =>
    simp only [qgaq, qgsq, qgzq]
    rfl
   case hy3 =>
    refine yields_until (by kernel_rfl) (Or.inl ⟨by rfl, fun w' hS => ?_⟩)
    try go_split_ands
    go_simp
    try rfl
   case rest3 =>
   intro hcl3 hS3
   clear hcl2 hS2
   try simp only [Act.put, qsaq, qszq, qssq]
   refine wpAnyL_take (i := 3) (oi := ?oi4) (v := ?v4) ?hi4 (by kernel_rfl) (by kernel_rfl) (by kernel_rfl) (fun _ _ _ h => h) (until_take 17 _ (by decide)) ?hy4 hcl3 hS3 ?rest4
   case hi4 =>
    simp only [qgaq, qgsq, qgzq]
    rfl
   case hy4 =>
    refine yields_until (by kernel_rfl) (Or.inl ⟨by rfl, fun w' hS => ?_⟩)
    try go_split_ands
    go_simp
    try rfl
   case rest4 =>
   intro hcl4 hS4
   clear hcl3 hS3
   try simp only [Act.put, qsaq, qszq, qssq]
   refine wpAnyL_take (i := 4) (oi := ?oi5) (v := ?v5) ?hi5 (by kernel_rfl) (by kernel_rfl) (by kernel_rfl) (fun _ _ _ h => h) (until_take 17 _ (by decide)) ?hy5 hcl4 hS4 ?rest5
   case hi5 =>
    simp only [qgaq, qgsq, qgzq]
    rfl
   case hy5 =>
    refine yields_until (by kernel_rfl) (Or.inl ⟨by rfl, fun w' hS => ?_⟩)
    try go_split_ands
    go_simp
    try rfl
   case rest5 =>
   intro hcl5 hS5
   clear hcl4 hS4
   try simp only [Act.put, qsaq, qszq, qssq]
   refine wpAnyL_take (i := 5) (oi := ?oi6) (v := ?v6) ?hi6 (by kernel_rfl) (by kernel_rfl) (by kernel_rfl) (fun _ _ _ h => h) (until_take 17 _ (by decide)) ?hy6 hcl5 hS5 ?rest6
   case hi6 =>
    simp only [qgaq, qgsq, qgzq]
    rfl
   case hy6 =>
    refine yields_until (by kernel_rfl) (Or.inl ⟨by rfl, fun w' hS => ?_⟩)
    try go_split_ands
    go_simp
    try rfl
   case rest6 =>
   intro hcl6 hS6
   clear hcl5 hS5
   try simp only [Act.put, qsaq, qszq, qssq]
   refine wpAnyL_take (i := 6) (oi := ?oi7) (v := ?v7) ?hi7 (by kernel_rfl) (by kernel_rfl) (by kernel_rfl) (fun _ _ _ h => h) (until_take 17 _ (by decide)) ?hy7 hcl6 hS6 ?rest7
   case hi7 =>
    simp only [qgaq, qgsq, qgzq]
    rfl
   case hy7 =>
    refine yields_until (by kernel_rfl) (Or.inl ⟨by rfl, fun w' hS => ?_⟩)
    try go_split_ands
    go_simp
    try rfl
   case rest7 =>
   intro hcl7 hS7
   clear hcl6 hS6
   try simp only [Act.put, qsaq, qszq, qssq]
   refine wpAnyL_take (i := 7) (oi := ?oi8) (v := ?v8) ?hi8 (by kernel_rfl) (by kernel_rfl) (by kernel_rfl) (fun _ _ _ h => h) (until_take 17 _ (by decide)) ?hy8 hcl7 hS7 ?rest8
   case hi8 =>
    simp only [qgaq, qgsq, qgzq]
    rfl
   case hy8 =>
    refine yields_until (by kernel_rfl) (Or.inl ⟨by rfl, fun w' hS => ?_⟩)
    try go_split_ands
    go_simp
    try rfl
   case rest8 =>
   intro hcl8 hS8
   clear hcl7 hS7
   try simp only [Act.put, qsaq, qszq, qssq]
   refine wpAnyL_take (i := 8) (oi := ?oi9) (v := ?v9) ?hi9 (by kernel_rfl) (by kernel_rfl) (by kernel_rfl) (fun _ _ _ h => h) (until_take 17 _ (by decide)) ?hy9 hcl8 hS8 ?rest9
   case hi9 =>
    simp only [qgaq, qgsq, qgzq]
    rfl
   case hy9 =>
    refine yields_until (by kernel_rfl) (Or.inl ⟨by rfl, fun w' hS => ?_⟩)
    try go_split_ands
    go_simp
    try rfl
   case rest9 =>
   intro hcl9 hS9
   clear hcl8 hS8
   try simp only [Act.put, qsaq, qszq, qssq]
   refine wpAnyL_take (i := 9) (oi := ?oi10) (v := ?v10) ?hi10 (by kernel_rfl) (by kernel_rfl) (by kernel_rfl) (fun _ _ _ h => h) (until_take 17 _ (by decide)) ?hy10 hcl9 hS9 ?rest10
   case hi10 =>
    simp only [qgaq, qgsq, qgzq]
    rfl
   case hy10 =>
    refine yields_until (by kernel_rfl) (Or.inl ⟨by rfl, fun w' hS => ?_⟩)
    try go_split_ands
    go_simp
    try rfl
   case rest10 =>
   intro hcl10 hS10
   clear hcl9 hS9
   try simp only [Act.put, qsaq, qszq, qssq]
   refine wpAnyL_take (i := 10) (oi := ?oi11) (v := ?v11) ?hi11 (by kernel_rfl) (by kernel_rfl) (by kernel_rfl) (fun _ _ _ h => h) (until_take 17 _ (by decide)) ?hy11 hcl10 hS10 ?rest11
   case hi11 =>
    simp only [qgaq, qgsq, qgzq]
    rfl
   case hy11 =>
    refine yields_until (by kernel_rfl) (Or.inl ⟨by rfl, fun w' hS => ?_⟩)
    try go_split_ands
    go_simp
    try rfl
   case rest11 =>
   intro hcl11 hS11
   clear hcl10 hS10
   try simp only [Act.put, qsaq, qszq, qssq]
   refine wpAnyL_take (i := 11) (oi := ?oi12) (v := ?v12) ?hi12 (by kernel_rfl) (by kernel_rfl) (by kernel_rfl) (fun _ _ _ h => h) (until_take 17 _ (by decide)) ?hy12 hcl11 hS11 ?rest12
   case hi12 =>
    simp only [qgaq, qgsq, qgzq]
    rfl
   case hy12 =>
    refine yields_until (by kernel_rfl) (Or.inl ⟨by rfl, fun w' hS => ?_⟩)
    try go_split_ands
    go_simp
    try rfl
   case rest12 =>
   intro hcl12 hS12
   clear hcl11 hS11
   try simp only [Act.put, qsaq, qszq, qssq]
   refine wpAnyL_step (i := 12) (o := ?oi13) ?hi13 (by kernel_rfl) hcl12 ?rest13
   case hi13 =>
    simp only [qgaq, qgsq, qgzq]
    rfl
   case rest13 =>
   intro K hK
   go_simp
   refine (HANY.out _).mono ?_
   rintro e w5 ⟨rfl, r5⟩
   obtain ⟨W6, hW6⟩ : ∃ q, w5.alloc (.cells #[.string x.name, .int .u8 x.kind, .int .i64 x.type, .int .i64 x.at_, .int .u8 p.sort, .int .i64 p.n, .int .i64 p.type, .string p.text] 56) = q := ⟨_, rfl⟩
   have r6 : Wr [] w5 W6 := by rw [← hW6]; exact (Wr.refl _ _).alloc _
   have n6 : Blk W6 w5.heap.size 56 #[.string x.name, .int .u8 x.kind, .int .i64 x.type, .int .i64 x.at_, .int .u8 p.sort, .int .i64 p.n, .int .i64 p.type, .string p.text] := by rw [← hW6]; exact Blk.new _ _ _
   have rz6 : Wr [] wz W6 := (Wr.refl [] wz).drew.trans (r5.trans r6)
   have ho1 : ∀ u ∈ ([.string x.name, .int .u8 x.kind, .int .i64 x.type, .int .i64 x.at_, .int .u8 p.sort, .int .i64 p.n, .int .i64 p.type, .string p.text] : List Value), u.oneCell' = true := by simp [Value.oneCell']
   obtain ⟨v', W7, hrun, hown, hgrow, _, hbk⟩ := run_append_own_at (P := Tryz.prog) W6 (g + 1 + 1 + 1) 25 25 56 i0 _ 8 80 Tryz.underlying25 hi0 hz0 hz1 hz2 rfl (by decide) (.slice Av k cv) k _ (own_keep OW.out rz6 (fun _ _ => by simp)) ⟨w5.heap.size, 0, none⟩ 1 1 [.string x.name, .int .u8 x.kind, .int .i64 x.type, .int .i64 x.at_, .int .u8 p.sort, .int .i64 p.n, .int .i64 p.type, .string p.text] rfl (fun jj u hu => by
    rw [Addr.add_lit, Nat.zero_add, n6.cell, qgaq]
    exact hu) ho1 (by unfold maxLen; omega) (by omega) (by have h1 := BB.out.lt; have h2 := rz6.size; have h3 := HNV.out; have h4 := BZ.out.lt; omega)
   obtain ⟨A7, c7, hv7⟩ : ∃ A c, v' = .slice A (k + 1) c := by
    rcases hown.2 with ⟨_, h0⟩ | ⟨gg, cap, cur, e, _⟩
    ·omega
    ·exact ⟨_, _, e⟩
   subst hv7
   have b7 := ((BB.out.wr0 rz6).wr (Wr.ofGrownOwn hgrow) HN1.out)
   have c7' := b7.cell 3
   have f7 := b7.frozen 3
   simp only [qgaq, qgzq, qgsq] at c7'
   have hfin : PlAt w0 f g #[.string f.module, .slice A1 f.uses.length k1, .slice A2 f.types.length k2, .slice (some ⟨b, off, none⟩) f.items.length k3] #[.string ⟨#[]⟩, .slice none 0 0, .slice none 0 0, .slice none 0 0] (.slice A1 f.uses.length k1) (.slice A2 f.types.length k2) (k + 1) (W7.setCell ⟨g + 1 + 1, 3, none⟩ (.slice A7 (k + 1) c7)) := by
    have rA : Wr (ownL (.slice Av k cv)) W6 W7 := Wr.ofGrownOwn hgrow
    have rS : Wr [g + 1 + 1] W7 (W7.setCell ⟨g + 1 + 1, 3, none⟩ (.slice A7 (k + 1) c7)) := (Wr.refl _ _).setOn (by simp) _
    have hlo : ∀ q, q < g + 1 + 1 + 1 → q ∉ ownL (.slice Av k cv) := fun q hq hm => by have := (HNV.out q hm).1; omega
    refine ⟨.slice A7 (k + 1) c7, ((RK.out.trans0 rz6).trans' rA (fun q hq => .inr (by have := (HNV.out q hq).1; have := S3.out; omega))).trans rS, ((BF.out.wr0 rz6).wr rA (hlo _ (by omega))).wr rS (by simp; omega), ((BR.out.wr0 rz6).wr rA (hlo _ (by omega))).wr rS (by simp), ?_, ?_⟩
    ·have := b7.set_ 3 (.slice A7 (k + 1) c7)
     simp at this
     exact this
    ·rw [HSTEP.out]
     exact own_keep hown rS (fun q hq hm => by have := (hown.lt q hq).1; simp at hm; omega)
   have HRUN := qh hrun
   have HGR := qh hgrow
   have HFIN := qh hfin
   have R5 := qh r5
   have HW6 := qh hW6
   clear hrun hown hgrow hbk b7 hfin n6 r6 rz6 hW6
   refine hK _ _ (fun _ => HC.out _ ((Wr.refl (ownL (.slice Av k cv)) wz).drew.trans0 r5)) (fun hcl13 => ?_)
   clear hK K hcl12 hS12
   try simp only [Act.put, qsaq, qszq, qssq]
   refine wpAnyL_step (i := 13) (o := ?oi14) ?hi14 (by kernel_rfl) hcl13 ?rest14
   case hi14 =>
    simp only [qgaq, qgsq, qgzq]
    rfl
   case rest14 =>
   intro K hK
   go_simp
   refine hK _ _ (fun _ => HC.out _ ((Wr.refl (ownL (.slice Av k cv)) wz).drew.trans0 r5)) (fun hcl14 => ?_)
   clear hK K hcl13
   try simp only [Act.put, qsaq, qszq, qssq]
   refine wpAnyL_step (i := 14) (o := ?oi15) ?hi15 (by kernel_rfl) hcl14 ?rest15
   case hi15 =>
    simp only [qgaq, qgsq, qgzq]
    rfl
   case rest15 =>
   intro K hK
   go_simp
   rw [HW6.out]
   refine hK _ _ (fun _ => HC.out _ (((Wr.refl (ownL (.slice Av k cv)) wz).drew.trans0 r5).trans0 (by rw [← HW6.out]; exact (Wr.refl _ _).alloc _ : Wr [] w5 W6))) (fun hcl15 => ?_)
   clear hK K hcl14
   try simp only [Act.put, qsaq, qszq, qssq]
   refine wpAnyL_step (i := 15) (o := ?oi16) ?hi16 (by kernel_rfl) hcl15 ?rest16
   case hi16 =>
    simp only [qgaq, qgsq, qgzq]
    rfl
   case rest16 =>
   intro K hK
   refine step_append_run (by rfl) _ _ _ (by rfl) _ _ (by rfl) (by rfl) _ _ HRUN.out ?_
   refine hK _ _ (fun _ => HC.out _ ((((Wr.refl (ownL (.slice Av k cv)) wz).drew.trans0 r5).trans0 (by rw [← HW6.out]; exact (Wr.refl _ _).alloc _ : Wr [] w5 W6)).trans (Wr.ofGrownOwn HGR.out))) (fun hcl16 => ?_)
   clear hK K hcl15
   try simp only [Act.put, qsaq, qszq, qssq]
   refine wpAnyL_step (i := 16) (o := ?oi17) ?hi17 (by kernel_rfl) hcl16 ?rest17
   case hi17 =>
    simp only [qgaq, qgsq, qgzq]
    rfl
   case rest17 =>
   intro K hK
   go_simp
   refine hK _ _ (fun _ => HC.out _ ((((Wr.refl (ownL (.slice Av k cv)) wz).drew.trans0 r5).trans0 (by rw [← HW6.out]; exact (Wr.refl _ _).alloc _ : Wr [] w5 W6)).trans (Wr.ofGrownOwn HGR.out))) (fun hcl17 => ?_)
   clear hK K hcl16
   try simp only [Act.put, qsaq, qszq, qssq]
   refine wpAnyL_step (i := 17) (o := ?oi18) ?hi18 (by kernel_rfl) hcl17 ?rest18
   case hi18 =>
    simp only [qgaq, qgsq, qgzq]
    rfl
   case rest18 =>
   intro K hK
   go_simp
   refine hK _ _ (fun hb => absurd hb (by decide)) (fun hcl999 => ?_)
   clear hK K hcl17
   refine wpAnyL_done (by kernel_rfl) (NoPanic.normal ?_) _
   try simp only [Act.put, qsaq, qszq, qssq]
   go_wp2_with fail
   go_roundw
   case rel => exact ⟨k + 1, by omega, by go_num, HFIN.out⟩
   case measure => simp [intOf]; omega
  ·obtain rfl : k = f.items.length := by omega
   rw [List.take_length] at ow
   obtain ⟨Av, cv, hv, _, _⟩ := own_form ow
   subst hv
   have t0 := bb.cell 0
   have t1 := bb.cell 1
   have t2 := bb.cell 2
   have t3 := bb.cell 3
   have s0 := br.cell 0
   have s1 := br.cell 1
   have s2 := br.cell 2
   have s3 := br.cell 3
   simp only [qgaq, qgzq, qgsq] at t0 t1 t2 t3 s0 s1 s2 s3
   have z0 := br.frozen 0
   have z1 := br.frozen 1
   have z2 := br.frozen 2
   have z3 := br.frozen 3
   have RK := qh rk
   have BR := qh br
   have OW := qh ow
   clear rk br bb bf ow
   go_wp2_with fail
   have r4 := wr4 wr (g + 1) (.string f.module) (.slice A1 f.uses.length k1) (.slice A2 f.types.length k2) (.slice Av f.items.length cv)
   have rw4 : Wr [] w wr := ACC.out.trans' RK.out (fun q hq => .inr (by rw [qmsq] at hq; have := Hg.out; omega))
   have hlw := HL.out.wr0 rw4
   have hne : ∀ q, q < w.heap.size → q ∉ [g + 1] := fun q hq hm => by rw [qmsq] at hm; have := Hg.out; omega
   have hl4 := (hlw.keep r4 hne).into (Q := fun _ => True) (fun _ _ _ => trivial)
   have oi := own_keep OW.out r4 (fun q hq hm => by have := (OW.out.lt q hq).1; simp at hm; omega)
   refine bodyPost_ret (v := (facePl f).val (.slice A1 f.uses.length k1) (.slice A2 f.types.length k2) (.slice Av f.items.length cv)) ?_ rfl ⟨_, rfl, rw4.new r4 (by have := Hg.out; omega), hl4.uses, hl4.types, ?_⟩
   ·have cc := blk4 wr (g + 1) 27 _ _ _ _ (.string f.module) (.slice A1 f.uses.length k1) (.slice A2 f.types.length k2) (.slice Av f.items.length cv) BR.out
    have u0 := cc.cell 0
    have u1 := cc.cell 1
    have u2 := cc.cell 2
    have u3 := cc.cell 3
    simp only [qgaq, qgzq, qgsq] at u0 u1 u2 u3
    simp [results, Tryz.results9, go_sem, u0, u1, u2, u3, FaceP.val, facePl]
   ·have := Sl.ofOwn oi (P := fun _ => True) (fun _ _ => trivial)
    unfold SlPItms facePl
    rw [qlmq]
    exact this
def AlwaysC (C : World → Prop) : Array Bool → World → Prop := fun _ w => C w
section
variable {P : Program} {md : Region.Mode} {ops : Array Oper}
theorem alwaysC_take (C : World → Prop) {i : Nat} (l : Array Bool) (w : World) : AlwaysC C (l.setIfInBounds i true) w ↔ AlwaysC C l w := Iff.rfl
theorem yields_alwaysC {C : World → Prop} {i : Nat} {o : Oper} {v : Value} {a : Act}
  (h : (Region.wanted o (yielded ops a.tmps) = true ∧ ∀ w, C w → (execOp a.eval o).run P w = .ok (.value v) w) ∨ (Region.wanted o (yielded ops a.tmps) = false ∧ v = undef)) : YieldsL P md ops (AlwaysC C) i o v a :=
 h.imp (fun ⟨hw, hv⟩ => ⟨hw, fun l w hc hun hS => hv w hS⟩) id
end
def AnewR (ord : List Int) (n : Int) (g o : Nat) (w : World) (e : Ending) (w' : World) : Prop :=
 e = .returned (.tuple #[]) ∧ ∃ wd : World, Wr [] w wd ∧ wd.heap = w.heap ∧ w' = wd.setCell ⟨g, o, none⟩ (.int .i64 (anewN ord n))
theorem wr_set {w wd w' : World} {g o : Nat} {u : Value} (r : Wr [] w wd) (e : w' = wd.setCell ⟨g, o, none⟩ u) : Wr [g] w w' := by
 subst e
 exact r.nil.setOn (by simp) u
theorem row_set {w wd w' : World} {B g o size n : Nat} {T : TypeId} {v u : Value} {xs : List Value} (h : w.ownsRow B T size v n xs) (hg : v.ownBlock = some g) (hh : wd.heap = w.heap) (e : w' = wd.setCell ⟨g, o, none⟩ u) : w'.ownsRow B T size v n (xs.set o u) := by
 subst e
 have h1 : wd.ownsRow B T size v n xs := by
  refine ⟨h.1, ?_⟩
  rcases h.2 with h0 | ⟨g', cap, cur, rfl, hb, hh', rest⟩
  ·exact .inl h0
  ·exact .inr ⟨g', cap, cur, rfl, hb, by rw [hh]; exact hh', rest⟩
 rcases h1.2 with ⟨rfl, _⟩ | ⟨g', cap, cur, rfl, _⟩
 ·cases hg
 ·obtain rfl : g' = g := by simpa [Value.ownBlock] using hg
  exact (h1.stored o u).1
theorem blk_set' {w wd w' : World} {g o : Nat} {T : TypeId} {cs : Array Value} {u : Value} (h : Blk w g T cs) (hh : wd.heap = w.heap) (e : w' = wd.setCell ⟨g, o, none⟩ u) : Blk w' g T (cs.setIfInBounds o u) := by
 subst e
 have h1 : Blk wd g T cs := by
  unfold Blk at h ⊢
  rw [hh]
  exact h
 exact h1.set_ o u
theorem anew_any (pn gn g o : Nat) (ord : List Int) (n : Int) (w : World) (bn : Blk w pn 79 #[.map (some gn)]) (mn : MapI w gn (numsOf ord)) (ct : Own w ⟨g, o, none⟩ (.int .i64 n)) :
  Calls Tryz.prog 28 #[.pointer (some ⟨g, o, none⟩), .pointer (some ⟨pn, 0, none⟩)] w (AnewR ord n g o w) := by
 have c0 := bn.cell 0
 have c1 := ct.cell
 have f1 := ct.frozen
 simp only [qgaq, qgzq] at c0
 have hl1 := mapI_look Tryz.underlying79 Tryz.underlying3 (mn.wr (Wr.refl [] w).drew (by simp)) n Tryz.zeroValue3
 by_cases hm : n ∈ ord
 ·rw [numsOf_in hm] at hl1
  simp only [Option.getD_some, Option.isSome_some] at hl1
  clear hm
  go_enter Tryz.func28, Tryz.ntmps28
  go_upto_region 0 with (fail)
  refine wp_region_noPanic ?_
  refine wp_region_L (AlwaysC fun w' => w'.cell? ⟨pn, 0, none⟩ = some (.map (some gn)) ∧ w'.cell? ⟨g, o, none⟩ = some (.int .i64 n) ∧ (Instr.lookup 79 (.map (some gn)) (.int .i64 n) true).run Tryz.prog w' = .ok (.tuple #[.int .i64 (anewN ord n), .bool true]) w') (by kernel_rfl) (fun hcl => ?_)
  have hS : AlwaysC (fun w' => w'.cell? ⟨pn, 0, none⟩ = some (.map (some gn)) ∧ w'.cell? ⟨g, o, none⟩ = some (.int .i64 n) ∧ (Instr.lookup 79 (.map (some gn)) (.int .i64 n) true).run Tryz.prog w' = .ok (.tuple #[.int .i64 (anewN ord n), .bool true]) w') (Array.replicate 10 false) w.drew := ⟨c0, c1, hl1⟩
  refine wpAnyL_take (i := 0) (oi := ?oi1) (v := ?v1) ?hi1 (by kernel_rfl) (by kernel_rfl) (by kernel_rfl) (fun _ _ _ h => h) (alwaysC_take _) ?hy1 hcl hS ?rest1
  case hi1 =>
   simp only [qgaq, qgsq, qgzq]
   rfl
  case hy1 =>
   refine yields_alwaysC (Or.inl ⟨by rfl, fun w' hS => ?_⟩)
   try go_split_ands
   go_simp
   try rfl
  case rest1 =>
  intro hcl1 hS1
  clear hcl hS
  try simp only [Act.put, qsaq, qszq, qssq]
  refine wpAnyL_take (i := 1) (oi := ?oi2) (v := ?v2) ?hi2 (by kernel_rfl) (by kernel_rfl) (by kernel_rfl) (fun _ _ _ h => h) (alwaysC_take _) ?hy2 hcl1 hS1 ?rest2
  case hi2 =>
   simp only [qgaq, qgsq, qgzq]
   rfl
  case hy2 =>
   refine yields_alwaysC (Or.inl ⟨by rfl, fun w' hS => ?_⟩)
   try go_split_ands
   go_simp
   try rfl
  case rest2 =>
  intro hcl2 hS2
  clear hcl1 hS1
  try simp only [Act.put, qsaq, qszq, qssq]
  refine wpAnyL_take (i := 2) (oi := ?oi3) (v := ?v3) ?hi3 (by kernel_rfl) (by kernel_rfl) (by kernel_rfl) (fun _ _ _ h => h) (alwaysC_take _) ?hy3 hcl2 hS2 ?rest3
  case hi3 =>
   simp only [qgaq, qgsq, qgzq]
   rfl
  case hy3 =>
   refine yields_alwaysC (Or.inl ⟨by rfl, fun w' hS => ?_⟩)
   try go_split_ands
   go_simp
   try rfl
  case rest3 =>
  intro hcl3 hS3
  clear hcl2 hS2
  try simp only [Act.put, qsaq, qszq, qssq]
  refine wpAnyL_take (i := 3) (oi := ?oi4) (v := ?v4) ?hi4 (by kernel_rfl) (by kernel_rfl) (by kernel_rfl) (fun _ _ _ h => h) (alwaysC_take _) ?hy4 hcl3 hS3 ?rest4
  case hi4 =>
   simp only [qgaq, qgsq, qgzq]
   rfl
  case hy4 =>
   refine yields_alwaysC (Or.inl ⟨by rfl, fun w' hS => ?_⟩)
   try go_split_ands
   go_simp
   try rfl
  case rest4 =>
  intro hcl4 hS4
  clear hcl3 hS3
  try simp only [Act.put, qsaq, qszq, qssq]
  refine wpAnyL_take (i := 4) (oi := ?oi5) (v := ?v5) ?hi5 (by kernel_rfl) (by kernel_rfl) (by kernel_rfl) (fun _ _ _ h => h) (alwaysC_take _) ?hy5 hcl4 hS4 ?rest5
  case hi5 =>
   simp only [qgaq, qgsq, qgzq]
   rfl
  case hy5 =>
   refine yields_alwaysC (Or.inl ⟨by rfl, fun w' hS => ?_⟩)
   try go_split_ands
   go_simp
   try rfl
  case rest5 =>
  intro hcl5 hS5
  clear hcl4 hS4
  try simp only [Act.put, qsaq, qszq, qssq]
  refine wpAnyL_take (i := 5) (oi := ?oi6) (v := ?v6) ?hi6 (by kernel_rfl) (by kernel_rfl) (by kernel_rfl) (fun _ _ _ h => h) (alwaysC_take _) ?hy6 hcl5 hS5 ?rest6
  case hi6 =>
   simp only [qgaq, qgsq, qgzq]
   rfl
  case hy6 =>
   refine yields_alwaysC (Or.inl ⟨by rfl, fun w' hS => ?_⟩)
   try go_split_ands
   go_simp
   try rfl
  case rest6 =>
  intro hcl6 hS6
  clear hcl5 hS5
  try simp only [Act.put, qsaq, qszq, qssq]
  refine wpAnyL_take (i := 6) (oi := ?oi7) (v := ?v7) ?hi7 (by kernel_rfl) (by kernel_rfl) (by kernel_rfl) (fun _ _ _ h => h) (alwaysC_take _) ?hy7 hcl6 hS6 ?rest7
  case hi7 =>
   simp only [qgaq, qgsq, qgzq]
   rfl
  case hy7 =>
   refine yields_alwaysC (Or.inl ⟨by rfl, fun w' hS => ?_⟩)
   try go_split_ands
   go_simp
   try rfl
  case rest7 =>
  intro hcl7 hS7
  clear hcl6 hS6
  try simp only [Act.put, qsaq, qszq, qssq]
  refine wpAnyL_take (i := 7) (oi := ?oi8) (v := ?v8) ?hi8 (by kernel_rfl) (by kernel_rfl) (by kernel_rfl) (fun _ _ _ h => h) (alwaysC_take _) ?hy8 hcl7 hS7 ?rest8
  case hi8 =>
   simp only [qgaq, qgsq, qgzq]
   rfl
  case hy8 =>
   refine yields_alwaysC (Or.inl ⟨by rfl, fun w' hS => ?_⟩)
   try go_split_ands
   go_simp
   try rfl
  case rest8 =>
  intro hcl8 hS8
  clear hcl7 hS7
  try simp only [Act.put, qsaq, qszq, qssq]
  refine wpAnyL_take (i := 8) (oi := ?oi9) (v := ?v9) ?hi9 (by kernel_rfl) (by kernel_rfl) (by kernel_rfl) (fun _ _ _ h => h) (alwaysC_take _) ?hy9 hcl8 hS8 ?rest9
  case hi9 =>
   simp only [qgaq, qgsq, qgzq]
   rfl
  case hy9 =>
   refine yields_alwaysC (Or.inl ⟨by rfl, fun w' hS => ?_⟩)
   try go_split_ands
   go_simp
   try rfl
  case rest9 =>
  intro hcl9 hS9
  clear hcl8 hS8
  try simp only [Act.put, qsaq, qszq, qssq]
  refine wpAnyL_take (i := 9) (oi := ?oi10) (v := ?v10) ?hi10 (by kernel_rfl) (by kernel_rfl) (by kernel_rfl) (fun _ _ _ h => h) (alwaysC_take _) ?hy10 hcl9 hS9 ?rest10
  case hi10 =>
   simp only [qgaq, qgsq, qgzq]
   rfl
  case hy10 =>
   refine yields_alwaysC (Or.inl ⟨by rfl, fun w' hS => ?_⟩)
   try go_split_ands
   go_simp
   try rfl
  case rest10 =>
  intro hcl10 hS10
  clear hcl9 hS9
  try simp only [Act.put, qsaq, qszq, qssq]
  refine wpAnyL_done (by kernel_rfl) (NoPanic.normal ?_) _
  clear hl1
  go_wp2_with fail
  refine bodyPost_end (results_none Tryz.results28 _ _ _) rfl ?_
  exact ⟨rfl, w.drew, (Wr.refl [] w).drew, rfl, rfl⟩
 ·rw [numsOf_out hm] at hl1
  simp only [Option.getD_none, Option.isSome_none] at hl1
  have hout := qh (anewN_out hm)
  clear hm
  go_enter Tryz.func28, Tryz.ntmps28
  go_upto_region 0 with (fail)
  refine wp_region_noPanic ?_
  refine wp_region_L (AlwaysC fun w' => w'.cell? ⟨pn, 0, none⟩ = some (.map (some gn)) ∧ w'.cell? ⟨g, o, none⟩ = some (.int .i64 n) ∧ (Instr.lookup 79 (.map (some gn)) (.int .i64 n) true).run Tryz.prog w' = .ok (.tuple #[.int .i64 0, .bool false]) w') (by kernel_rfl) (fun hcl => ?_)
  have hS : AlwaysC (fun w' => w'.cell? ⟨pn, 0, none⟩ = some (.map (some gn)) ∧ w'.cell? ⟨g, o, none⟩ = some (.int .i64 n) ∧ (Instr.lookup 79 (.map (some gn)) (.int .i64 n) true).run Tryz.prog w' = .ok (.tuple #[.int .i64 0, .bool false]) w') (Array.replicate 10 false) w.drew := ⟨c0, c1, hl1⟩
  refine wpAnyL_take (i := 0) (oi := ?pi1) (v := ?pv1) ?phi1 (by kernel_rfl) (by kernel_rfl) (by kernel_rfl) (fun _ _ _ h => h) (alwaysC_take _) ?phy1 hcl hS ?prest1
  case phi1 =>
   simp only [qgaq, qgsq, qgzq]
   rfl
  case phy1 =>
   refine yields_alwaysC (Or.inl ⟨by rfl, fun w' hS => ?_⟩)
   try go_split_ands
   go_simp
   try rfl
  case prest1 =>
  intro hcl1 hS1
  clear hcl hS
  try simp only [Act.put, qsaq, qszq, qssq]
  refine wpAnyL_take (i := 1) (oi := ?pi2) (v := ?pv2) ?phi2 (by kernel_rfl) (by kernel_rfl) (by kernel_rfl) (fun _ _ _ h => h) (alwaysC_take _) ?phy2 hcl1 hS1 ?prest2
  case phi2 =>
   simp only [qgaq, qgsq, qgzq]
   rfl
  case phy2 =>
   refine yields_alwaysC (Or.inl ⟨by rfl, fun w' hS => ?_⟩)
   try go_split_ands
   go_simp
   try rfl
  case prest2 =>
  intro hcl2 hS2
  clear hcl1 hS1
  try simp only [Act.put, qsaq, qszq, qssq]
  refine wpAnyL_take (i := 2) (oi := ?pi3) (v := ?pv3) ?phi3 (by kernel_rfl) (by kernel_rfl) (by kernel_rfl) (fun _ _ _ h => h) (alwaysC_take _) ?phy3 hcl2 hS2 ?prest3
  case phi3 =>
   simp only [qgaq, qgsq, qgzq]
   rfl
  case phy3 =>
   refine yields_alwaysC (Or.inl ⟨by rfl, fun w' hS => ?_⟩)
   try go_split_ands
   go_simp
   try rfl
  case prest3 =>
  intro hcl3 hS3
  clear hcl2 hS2
  try simp only [Act.put, qsaq, qszq, qssq]
  refine wpAnyL_take (i := 3) (oi := ?pi4) (v := ?pv4) ?phi4 (by kernel_rfl) (by kernel_rfl) (by kernel_rfl) (fun _ _ _ h => h) (alwaysC_take _) ?phy4 hcl3 hS3 ?prest4
  case phi4 =>
   simp only [qgaq, qgsq, qgzq]
   rfl
  case phy4 =>
   refine yields_alwaysC (Or.inl ⟨by rfl, fun w' hS => ?_⟩)
   try go_split_ands
   go_simp
   try rfl
  case prest4 =>
  intro hcl4 hS4
  clear hcl3 hS3
  try simp only [Act.put, qsaq, qszq, qssq]
  refine wpAnyL_take (i := 4) (oi := ?pi5) (v := ?pv5) ?phi5 (by kernel_rfl) (by kernel_rfl) (by kernel_rfl) (fun _ _ _ h => h) (alwaysC_take _) ?phy5 hcl4 hS4 ?prest5
  case phi5 =>
   simp only [qgaq, qgsq, qgzq]
   rfl
  case phy5 =>
   refine yields_alwaysC (Or.inl ⟨by rfl, fun w' hS => ?_⟩)
   try go_split_ands
   go_simp
   try rfl
  case prest5 =>
  intro hcl5 hS5
  clear hcl4 hS4
  try simp only [Act.put, qsaq, qszq, qssq]
  refine wpAnyL_take (i := 5) (oi := ?pi6) (v := ?pv6) ?phi6 (by kernel_rfl) (by kernel_rfl) (by kernel_rfl) (fun _ _ _ h => h) (alwaysC_take _) ?phy6 hcl5 hS5 ?prest6
  case phi6 =>
   simp only [qgaq, qgsq, qgzq]
   rfl
  case phy6 =>
   refine yields_alwaysC (Or.inl ⟨by rfl, fun w' hS => ?_⟩)
   try go_split_ands
   go_simp
   try rfl
  case prest6 =>
  intro hcl6 hS6
  clear hcl5 hS5
  try simp only [Act.put, qsaq, qszq, qssq]
  refine wpAnyL_take (i := 6) (oi := ?pi7) (v := ?pv7) ?phi7 (by kernel_rfl) (by kernel_rfl) (by kernel_rfl) (fun _ _ _ h => h) (alwaysC_take _) ?phy7 hcl6 hS6 ?prest7
  case phi7 =>
   simp only [qgaq, qgsq, qgzq]
   rfl
  case phy7 =>
   refine yields_alwaysC (Or.inl ⟨by rfl, fun w' hS => ?_⟩)
   try go_split_ands
   go_simp
   try rfl
  case prest7 =>
  intro hcl7 hS7
  clear hcl6 hS6
  try simp only [Act.put, qsaq, qszq, qssq]
  refine wpAnyL_take (i := 7) (oi := ?pi8) (v := ?pv8) ?phi8 (by kernel_rfl) (by kernel_rfl) (by kernel_rfl) (fun _ _ _ h => h) (alwaysC_take _) ?phy8 hcl7 hS7 ?prest8
  case phi8 =>
   simp only [qgaq, qgsq, qgzq]
   rfl
  case phy8 =>
   refine yields_alwaysC (Or.inl ⟨by rfl, fun w' hS => ?_⟩)
   try go_split_ands
   go_simp
   try rfl
  case prest8 =>
  intro hcl8 hS8
  clear hcl7 hS7
  try simp only [Act.put, qsaq, qszq, qssq]
  refine wpAnyL_take (i := 8) (oi := ?pi9) (v := ?pv9) ?phi9 (by kernel_rfl) (by kernel_rfl) (by kernel_rfl) (fun _ _ _ h => h) (alwaysC_take _) ?phy9 hcl8 hS8 ?prest9
  case phi9 =>
   simp only [qgaq, qgsq, qgzq]
   rfl
  case phy9 =>
   refine yields_alwaysC (Or.inl ⟨by rfl, fun w' hS => ?_⟩)
   try go_split_ands
   go_simp
   try rfl
  case prest9 =>
  intro hcl9 hS9
  clear hcl8 hS8
  try simp only [Act.put, qsaq, qszq, qssq]
  refine wpAnyL_take (i := 9) (oi := ?pi10) (v := ?pv10) ?phi10 (by kernel_rfl) (by kernel_rfl) (by kernel_rfl) (fun _ _ _ h => h) (alwaysC_take _) ?phy10 hcl9 hS9 ?prest10
  case phi10 =>
   simp only [qgaq, qgsq, qgzq]
   rfl
  case phy10 =>
   refine yields_alwaysC (Or.inl ⟨by rfl, fun w' hS => ?_⟩)
   try go_split_ands
   go_simp
   try rfl
  case prest10 =>
  intro hcl10 hS10
  clear hcl9 hS9
  try simp only [Act.put, qsaq, qszq, qssq]
  refine wpAnyL_done (by kernel_rfl) (NoPanic.normal ?_) _
  clear hl1
  go_wp2_with fail
  refine bodyPost_end (results_none Tryz.results28 _ _ _) rfl ?_
  exact ⟨rfl, w.drew, (Wr.refl [] w).drew, rfl, by rw [hout.out]; exact (setCell_self (w := w.drew) c1).symm⟩
end Go.Proofs.YtjanbpchedgoiaaGreat
