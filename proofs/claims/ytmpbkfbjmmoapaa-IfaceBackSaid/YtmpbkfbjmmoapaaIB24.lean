/- law 14's Same: walked. Conditions: numbers are within their kinds. -/
import Derived.Test.YtmpbkfbjmmoapaaIB17
import Derived.Test.YtmpbkfbjmmoapaaIB19
import Derived.Test.YtmpbkfbjmmoapaaIB23
import Derived.Test.YtmpbkfbjmmoapaaIB02
import Derived.Test.YtmpbkfbjmmoapaaIB12
import Derived.Laws.Bits64b
import Derived.Laws.IdiomStrings
import Derived.Deep.Cut
import Derived.Deep.DeepCutAuto
import Derived.LoopN
import Derived.Test.YtmpbkfbjmmoapaaIB11
import Derived.Deep.DrawnRows
namespace Go.Proofs.Ytmpbkfbjmmoapaa
open Go.RowKit
set_option linter.unusedVariables false
set_option linter.unusedSimpArgs false
set_option maxRecDepth 100000 in
set_option maxHeartbeats 8000000 in
theorem lawSame_any (x y : FaceD) (vu vt vi uu ut ui : Value) (P Q : Nat → Prop) (w : World) (hx : FaceL w P vu vt vi x) (hy : FaceL w Q uu ut ui y) (wx : faceW x) (wy : faceW y) (nx : x.items.length ≤ 1000000) (ny : y.items.length ≤ 1000000) :
    Calls Try.prog 10 #[.agg #[.string x.module, vu, vt, vi], .agg #[.string y.module, uu, ut, ui]] w (BoolE (eqB (facePl x) (facePl y)) w) := by
  obtain ⟨⟨A1, a1, rfl, la1, ma1⟩, ⟨A2, a2, rfl, la2, ma2⟩, ⟨A3, a3, rfl, la3, ma3⟩⟩ := hx.forms
  obtain ⟨⟨B1, b1, rfl, lb1, mb1⟩, ⟨B2, b2, rfl, lb2, mb2⟩, ⟨B3, b3, rfl, lb3, mb3⟩⟩ := hy.forms
  unfold maxLen at ma1 ma2 ma3 mb1 mb2 mb3
  obtain ⟨wa, hwa⟩ : ∃ q, w.alloc (.cells #[.string x.module, .slice A1 x.uses.length a1, .slice A2 x.types.length a2, .slice A3 x.items.length a3] 31) = q := ⟨_, rfl⟩
  obtain ⟨g, hg⟩ : ∃ q, w.heap.size = q := ⟨_, rfl⟩
  have sa : wa.heap.size = g + 1 := by rw [← hwa, World.size_alloc, hg]
  obtain ⟨w0, hw0⟩ : ∃ q, wa.alloc (.cells #[.string y.module, .slice B1 y.uses.length b1, .slice B2 y.types.length b2, .slice B3 y.items.length b3] 31) = q := ⟨_, rfl⟩
  have ra : Wr [] w wa := by rw [← hwa]; exact (Wr.refl _ _).alloc _
  have rb : Wr [] wa w0 := by rw [← hw0]; exact (Wr.refl _ _).alloc _
  have bX : Blk w0 g 31 #[.string x.module, .slice A1 x.uses.length a1, .slice A2 x.types.length a2, .slice A3 x.items.length a3] := by
    have := (show Blk wa g 31 #[.string x.module, .slice A1 x.uses.length a1, .slice A2 x.types.length a2, .slice A3 x.items.length a3] by rw [← hwa, ← hg]; exact Blk.new _ _ _)
    exact this.wr0 rb
  have bY : Blk w0 (g + 1) 31 #[.string y.module, .slice B1 y.uses.length b1, .slice B2 y.types.length b2, .slice B3 y.items.length b3] := by rw [← hw0, ← sa]; exact Blk.new _ _ _
  have hw0' : (w.alloc (.cells #[.string x.module, .slice A1 x.uses.length a1, .slice A2 x.types.length a2, .slice A3 x.items.length a3] 31)).alloc (.cells #[.string y.module, .slice B1 y.uses.length b1, .slice B2 y.types.length b2, .slice B3 y.items.length b3] 31) = w0 := by rw [hwa, hw0]
  have acc := ra.trans rb
  have hpx := fun W (hW : Wr [] w0 W) => plain_face x _ _ _ _ W (hx.wr0 (acc.trans hW)) wx.vals nx
  have hpy := fun W (hW : Wr [] w0 W) => plain_face y _ _ _ _ W (hy.wr0 (acc.trans hW)) wy.vals ny
  have x0 := bX.cell 0
  have y0 := bY.cell 0
  have x1 := bX.cell 1
  have y1 := bY.cell 1
  have x2 := bX.cell 2
  have y2 := bY.cell 2
  have x3 := bX.cell 3
  have y3 := bY.cell 3
  simp only [List.getElem?_toArray, List.getElem?_cons_zero, List.getElem?_cons_succ] at x0 x1 x2 x3 y0 y1 y2 y3
  have ACC := Lib.hid acc
  have HPX := Lib.hid hpx
  have HPY := Lib.hid hpy
  have Hw0 := Lib.hid hw0'
  have Hg := Lib.hid hg
  clear hx hy hwa hw0 hw0' hg sa ra rb acc bX bY hpx hpy
  go_enter Try.func10, Try.ntmps10
  go_upto_region 1 with (fail)
  rw [Hw0.out, Hg.out]
  have hC : ∀ W, Wr [] w0 W → W.cell? ⟨g, 0, none⟩ = some (.string x.module) ∧ W.cell? ⟨g, 1, none⟩ = some (.slice A1 x.uses.length a1) ∧ W.cell? ⟨g, 2, none⟩ = some (.slice A2 x.types.length a2) ∧ W.cell? ⟨g, 3, none⟩ = some (.slice A3 x.items.length a3) ∧ W.cell? ⟨g + 1, 0, none⟩ = some (.string y.module) ∧ W.cell? ⟨g + 1, 1, none⟩ = some (.slice B1 y.uses.length b1) ∧ W.cell? ⟨g + 1, 2, none⟩ = some (.slice B2 y.types.length b2) ∧ W.cell? ⟨g + 1, 3, none⟩ = some (.slice B3 y.items.length b3) := fun W hW => ⟨hW.cellOf x0 (by simp), hW.cellOf x1 (by simp), hW.cellOf x2 (by simp), hW.cellOf x3 (by simp), hW.cellOf y0 (by simp), hW.cellOf y1 (by simp), hW.cellOf y2 (by simp), hW.cellOf y3 (by simp)⟩
  have HC := Lib.hid hC
  clear hC
  refine wp_region_noPanic ?_
  refine wp_region_L (AlwaysC fun w' => w'.cell? ⟨g, 0, none⟩ = some (.string x.module) ∧ w'.cell? ⟨g, 1, none⟩ = some (.slice A1 x.uses.length a1) ∧ w'.cell? ⟨g, 2, none⟩ = some (.slice A2 x.types.length a2) ∧ w'.cell? ⟨g, 3, none⟩ = some (.slice A3 x.items.length a3) ∧ w'.cell? ⟨g + 1, 0, none⟩ = some (.string y.module) ∧ w'.cell? ⟨g + 1, 1, none⟩ = some (.slice B1 y.uses.length b1) ∧ w'.cell? ⟨g + 1, 2, none⟩ = some (.slice B2 y.types.length b2) ∧ w'.cell? ⟨g + 1, 3, none⟩ = some (.slice B3 y.items.length b3)) (by kernel_rfl) (fun hcl => ?_)
  have hS : AlwaysC (fun w' => w'.cell? ⟨g, 0, none⟩ = some (.string x.module) ∧ w'.cell? ⟨g, 1, none⟩ = some (.slice A1 x.uses.length a1) ∧ w'.cell? ⟨g, 2, none⟩ = some (.slice A2 x.types.length a2) ∧ w'.cell? ⟨g, 3, none⟩ = some (.slice A3 x.items.length a3) ∧ w'.cell? ⟨g + 1, 0, none⟩ = some (.string y.module) ∧ w'.cell? ⟨g + 1, 1, none⟩ = some (.slice B1 y.uses.length b1) ∧ w'.cell? ⟨g + 1, 2, none⟩ = some (.slice B2 y.types.length b2) ∧ w'.cell? ⟨g + 1, 3, none⟩ = some (.slice B3 y.items.length b3)) (Array.replicate 6 false) w0.drew := ⟨x0, x1, x2, x3, y0, y1, y2, y3⟩
  refine wpAnyL_take (i := 0) (oi := ?oi1) (v := ?v1) ?hi1 (by kernel_rfl) (by kernel_rfl) (by kernel_rfl) (fun _ _ _ h => h) (alwaysC_take _) ?hy1 hcl hS ?rest1
  case hi1 =>
    simp only [List.getElem?_toArray, List.getElem?_cons_succ, List.getElem?_cons_zero]
    rfl
  case hy1 =>
    refine yields_alwaysC (Or.inl ⟨by rfl, fun w' hS => ?_⟩)
    try go_split_ands
    go_simp
    try rfl
  case rest1 =>
  intro hcl1 hS1
  clear hcl hS
  try simp only [Act.put, List.setIfInBounds_toArray, List.set_cons_zero, List.set_cons_succ]
  refine wpAnyL_take (i := 2) (oi := ?oi2) (v := ?v2) ?hi2 (by kernel_rfl) (by kernel_rfl) (by kernel_rfl) (fun _ _ _ h => h) (alwaysC_take _) ?hy2 hcl1 hS1 ?rest2
  case hi2 =>
    simp only [List.getElem?_toArray, List.getElem?_cons_succ, List.getElem?_cons_zero]
    rfl
  case hy2 =>
    refine yields_alwaysC (Or.inl ⟨by rfl, fun w' hS => ?_⟩)
    try go_split_ands
    go_simp
    try rfl
  case rest2 =>
  intro hcl2 hS2
  clear hcl1 hS1
  try simp only [Act.put, List.setIfInBounds_toArray, List.set_cons_zero, List.set_cons_succ]
  refine wpAnyL_step (i := 1) (o := ?oi3) ?hi3 (by kernel_rfl) hcl2 ?rest3
  case hi3 =>
    simp only [List.getElem?_toArray, List.getElem?_cons_succ, List.getElem?_cons_zero]
    rfl
  case rest3 =>
  intro K hK
  go_simp
  refine (HPX.out _ (Wr.refl [] w0).drew).mono ?_
  rintro e w1 ⟨pi, rfl, r1, p1⟩
  have P1 := Lib.hid p1
  clear p1
  refine hK _ _ (HC.out _ ((Wr.refl [] w0).drew.trans r1)) (fun hcl3 => ?_)
  clear hK K hcl2 hS2
  try simp only [Act.put, List.setIfInBounds_toArray, List.set_cons_zero, List.set_cons_succ]
  refine wpAnyL_step (i := 3) (o := ?oi4) ?hi4 (by kernel_rfl) hcl3 ?rest4
  case hi4 =>
    simp only [List.getElem?_toArray, List.getElem?_cons_succ, List.getElem?_cons_zero]
    rfl
  case rest4 =>
  intro K hK
  go_simp
  refine (HPY.out _ ((Wr.refl [] w0).drew.trans r1)).mono ?_
  rintro e w2 ⟨qi, rfl, r2, p2⟩
  have h3 := refSame_any (facePl x) (facePl y) _ _ _ _ _ _ _ _ w2 (P1.out.wr0 r2) p2
  have H3 := Lib.hid h3
  clear p2 h3
  refine hK _ _ (HC.out _ (((Wr.refl [] w0).drew.trans r1).trans r2)) (fun hcl4 => ?_)
  clear hK K hcl3
  try simp only [Act.put, List.setIfInBounds_toArray, List.set_cons_zero, List.set_cons_succ]
  refine wpAnyL_step (i := 4) (o := ?oi5) ?hi5 (by kernel_rfl) hcl4 ?rest5
  case hi5 =>
    simp only [List.getElem?_toArray, List.getElem?_cons_succ, List.getElem?_cons_zero]
    rfl
  case rest5 =>
  intro K hK
  go_simp
  refine H3.out.mono ?_
  rintro e w3 ⟨rfl, r3⟩
  refine hK _ _ (HC.out _ ((((Wr.refl [] w0).drew.trans r1).trans r2).trans r3)) (fun hcl5 => ?_)
  clear hK K hcl4
  try simp only [Act.put, List.setIfInBounds_toArray, List.set_cons_zero, List.set_cons_succ]
  refine wpAnyL_step (i := 5) (o := ?oi6) ?hi6 (by kernel_rfl) hcl5 ?rest6
  case hi6 =>
    simp only [List.getElem?_toArray, List.getElem?_cons_succ, List.getElem?_cons_zero]
    rfl
  case rest6 =>
  intro K hK
  go_simp
  refine hK _ _ (HC.out _ ((((Wr.refl [] w0).drew.trans r1).trans r2).trans r3)) (fun hcl6 => ?_)
  clear hK K hcl5
  try simp only [Act.put, List.setIfInBounds_toArray, List.set_cons_zero, List.set_cons_succ]
  refine wpAnyL_done (by kernel_rfl) (NoPanic.normal ?_) _
  go_wp2_with fail
  go_ret
  exact ⟨rfl, ((((ACC.out.trans (Wr.refl [] w0).drew).trans r1).trans r2).trans r3)⟩
end Go.Proofs.Ytmpbkfbjmmoapaa

/- iface's walk, reading: so many bytes of a number: walked. Conditions: the walk reads. -/
namespace Go.Proofs.Ytmpbkfbjmmoapaa
open Go.RowKit
set_option linter.unusedVariables false
set_option linter.unusedSimpArgs false
/-- A walk that reads. -/
def WlkR (w : World) (b : Nat) (r : Rd) : Prop := Blk w b 67 #[.string ⟨r.s.toArray⟩, .bool true, .bool r.bad]
theorem or_step (n c : Nat) (hn : n < 72057594037927936) (hc : c < 256) : bits .or .u64 (((256 * n : Nat) : Int)) (c : Int) = ((256 * n + c : Nat) : Int) := by
  rw [bits_or_u64_nat _ _ (by omega) (by omega)]
  congr 1
  rw [show 256 * n = n <<< 8 by rw [Nat.shiftLeft_eq]; omega]
  rw [← Nat.shiftLeft_add_eq_or_of_lt (show c < 2 ^ 8 from hc)]
set_option maxRecDepth 100000 in
set_option maxHeartbeats 4000000 in
theorem bytes_r (b size : Nat) (n : Int) (r : Rd) (hs : size ≤ 8) (w : World) (hb : WlkR w b r) :
    Calls Try.prog 47 #[.pointer (some ⟨b, 0, none⟩), .int .u64 n, .int .i64 (size : Int)] w fun e w' => e = .returned (.int .u64 ((r.num size).1 : Int)) ∧ Wr [b] w w' ∧ WlkR w' b (r.num size).2 := by
  obtain ⟨l, bad⟩ := r
  obtain ⟨S, hS⟩ : ∃ S : ByteArray, ⟨l.toArray⟩ = S := ⟨_, rfl⟩
  have hsz : S.size = l.length := by rw [← hS]; show l.toArray.size = _; simp
  have hb' : Blk w b 67 #[.string S, .bool true, .bool bad] := by rw [← hS]; exact hb
  have c0 := hb'.cell 0
  have c1 := hb'.cell 1
  have c2 := hb'.cell 2
  simp only [List.getElem?_toArray, List.getElem?_cons_zero, List.getElem?_cons_succ] at c0 c1 c2
  have z0 := hb'.frozen 0
  have z2 := hb'.frozen 2
  cases bad with
  | true =>
    have hr : (Rd.mk l true).num size = (0, ⟨l, true⟩) := by unfold Rd.num Rd.raw; simp [valN]
    rw [hr]
    have HB := Lib.hid hb'
    clear hb hb' hr
    go_enter Try.func47, Try.ntmps47
    go_wp2_with fail
    go_ret
    exact ⟨rfl, (Wr.refl _ _).setOn (by simp) _, by have := HB.out.set_ 2 (.bool true); rw [← hS] at this; exact this⟩
  | false =>
    by_cases hlt : l.length < size
    · have hr : (Rd.mk l false).num size = (0, ⟨l, true⟩) := by unfold Rd.num Rd.raw; simp [valN, hlt]
      rw [hr]
      have HB := Lib.hid hb'
      have e0 : (S.size : Int) < (size : Int) := by omega
      clear hb hb' hr
      go_enter Try.func47, Try.ntmps47
      go_wp2_with fail
      go_ret
      exact ⟨rfl, (Wr.refl _ _).setOn (by simp) _, by have := HB.out.set_ 2 (.bool true); rw [← hS] at this; exact this⟩
    · have hr : (Rd.mk l false).num size = (valN (l.take size), ⟨l.drop size, false⟩) := by unfold Rd.num Rd.raw; simp [hlt]
      rw [hr]
      have HB := Lib.hid hb'
      have e0 : ¬ (S.size : Int) < (size : Int) := by omega
      clear hb hb' hr
      go_enter Try.func47, Try.ntmps47
      have htl : (l.take size).length = size := by rw [List.length_take]; omega
      obtain ⟨T, hT⟩ : ∃ T : ByteArray, S.extract 0 size = T := ⟨_, rfl⟩
      have hTe : T = ⟨(l.take size).toArray⟩ := by
        rw [← hT, ← hS]
        apply ByteArray.ext
        rw [ByteArray.data_extract]
        simp
      have hTs : T.size = size := by rw [hTe]; show (l.take size).toArray.size = _; rw [List.size_toArray, htl]
      obtain ⟨w1, hw1⟩ : ∃ q, w.setCell ⟨b, 2, none⟩ (.bool false) = q := ⟨_, rfl⟩
      have b1 : Blk w1 b 67 #[.string S, .bool true, .bool false] := by rw [← hw1]; exact HB.out.set_ 2 (.bool false)
      have r1 : Wr [b] w w1 := by rw [← hw1]; exact (Wr.refl _ _).setOn (by simp) _
      have hconv := run_bytes_of_string (P := Try.prog) w1 9 41 5 T Try.underlying9 Try.underlying41 Try.underlying5
      obtain ⟨cap, hcap⟩ : ∃ cap, grownCap w1 T.size 0 5 = cap := ⟨_, rfl⟩
      rw [hcap] at hconv
      obtain ⟨w2, hw2⟩ : ∃ q, (w1.drew.alloc (.cells (bytesRow T cap) 5 ((bytesRow T cap).size, (bytesRow T cap).size + 1))) = q := ⟨_, rfl⟩
      rw [hw2] at hconv
      obtain ⟨g, hg⟩ : ∃ q, w1.heap.size = q := ⟨_, rfl⟩
      have hcell : ∀ j (hj : j < T.data.size), w2.cell? ⟨g, j, none⟩ = some (.int .u8 ((T.data[j]'hj).toNat : Int)) := fun j hj => by
        rw [← hw2, ← hg]
        exact (World.cell?_alloc_mark w1.drew _ _ _ j).trans (bytesRow_at T cap j hj)
      rw [hg] at hconv
      have r2 : Wr [] w1 w2 := by rw [← hw2]; exact ((Wr.refl [] w1).drew).alloc _
      have b2 := b1.wr0 r2
      have acc : Wr [b] w w2 := r1.trans r2.nil
      have y0 := b1.cell 0
      have y2 := b1.cell 2
      simp only [List.getElem?_toArray, List.getElem?_cons_zero, List.getElem?_cons_succ] at y0 y2
      have x0 := b2.cell 0
      have x1 := b2.frozen 0
      simp only [List.getElem?_toArray, List.getElem?_cons_zero] at x0
      have hsl : S.extract size l.length = ⟨(l.drop size).toArray⟩ := by
        rw [← hS]
        apply ByteArray.ext
        rw [ByteArray.data_extract]
        simp
        exact List.take_of_length_le (by simp)
      rw [hTs] at hconv
      have B2 := Lib.hid b2
      have HCELL := Lib.hid hcell
      have HTE := Lib.hid hTe
      have HTS := Lib.hid hTs
      have HSL := Lib.hid hsl
      have ACC := Lib.hid acc
      clear hcell hTe b2 b1 r1 r2 hw2 hsl acc HB hTs hS
      go_upto_region 13 with (fail)
      clear c0 c1 c2 z0 z2 y0 y2 hconv hw1
      go_loop [1, 66] (fun v i => ∃ k : Nat, k ≤ size ∧ i = .int .i64 k ∧ v = .int .u64 ((valN (l.take k) : Nat) : Int)) (fun _ i => size - (intOf i).toNat)
      case atStart => exact ⟨0, by omega, rfl, rfl⟩
      case round =>
        obtain ⟨k, hk, rfl, rfl⟩ := hrel
        by_cases hkl : k < size
        · have hi0 : (0 : Int) ≤ (k : Int) := by omega
          have hi1 : (k : Int) < (size : Int) := by omega
          have hkl2 : k < l.length := by omega
          have hkT : k < T.data.size := by have := HTS.out; show k < T.size; omega
          have hc := HCELL.out k hkT
          have hb : T.data[k]'hkT = l[k]'hkl2 := by
            have e := HTE.out
            have e2 : T.data[k]? = l[k]? := by
              rw [e, List.getElem?_toArray, List.getElem?_take_of_lt hkl]
            rw [Array.getElem?_eq_getElem hkT, List.getElem?_eq_getElem hkl2] at e2
            exact Option.some.inj e2
          rw [hb] at hc
          have hv : valN (l.take (k + 1)) = 256 * valN (l.take k) + (l[k]'hkl2).toNat := by
            rw [List.take_succ_eq_append_getElem hkl2, valN_snoc]
          have hn : valN (l.take k) < 72057594037927936 := by
            have h1 := (numL_valN k (l.take k) (by rw [List.length_take]; omega)).2
            have h2 : 256 ^ k ≤ 256 ^ 7 := Nat.pow_le_pow_right (by decide) (by omega)
            have h3 : (256 : Nat) ^ 7 = 72057594037927936 := by decide
            omega
          have hor := or_step _ _ hn (l[k]'hkl2).toNat_lt
          rw [← hv] at hor
          have hcw : IntKind.u64.wrap (((l[k]'hkl2).toNat : Nat) : Int) = (((l[k]'hkl2).toNat : Nat) : Int) := by have := (l[k]'hkl2).toNat_lt; rw [IntKind.wrap_u64]; omega
          generalize (l[k]'hkl2).toNat = c at *
          obtain ⟨N2, hN2⟩ : ∃ q, valN (l.take (k + 1)) = q := ⟨_, rfl⟩
          rw [hN2] at hor hv
          have HN2 := Lib.hid hN2
          clear hN2
          generalize valN (l.take k) = N1 at *
          rw [show ((256 * N1 : Nat) : Int) = (N1 : Int) * 256 by omega] at hor
          clear hb
          go_wp2_with fail
          refine ⟨⟨k + 1, by omega, by push_cast; rfl, ?_⟩, by simp only [intOf]; omega⟩
          rw [HN2.out]
          congr 1
          omega
        · obtain rfl : k = size := by omega
          go_wp2_with fail
          go_ret
          refine ⟨rfl, ACC.out.trans ((Wr.refl _ _).setOn (by simp) _), ?_⟩
          have := B2.out.set_ 0 (.string (S.extract k l.length))
          rw [HSL.out] at this ⊢
          exact this
end Go.Proofs.Ytmpbkfbjmmoapaa

/- iface's walk, reading: numbers, bytes, truths: walked. Conditions: the walk reads. -/
namespace Go.Proofs.Ytmpbkfbjmmoapaa
open Go.RowKit
set_option linter.unusedVariables false
set_option linter.unusedSimpArgs false
/-- What is read is put where it belongs, last. -/
def PutL (b : Nat) (p : Addr) (v : Value) (r : Rd) (w : World) (e : Ending) (w' : World) : Prop := e = .returned (.tuple #[]) ∧ ∃ w1, Wr [b] w w1 ∧ WlkR w1 b r ∧ w' = w1.setCell p v
theorem WlkR.lt {w : World} {b : Nat} {r : Rd} (h : WlkR w b r) : b < w.heap.size := Blk.lt h
theorem num_lt {k : Nat} (hk : k ≤ 8) (r : Rd) : (r.num k).1 < 256 ^ k := by
  unfold Rd.num Rd.raw
  split
  · show 0 < _
    exact Nat.pow_pos (by decide)
  · rename_i h
    have := (numL_valN k (r.s.take k) (by rw [List.length_take]; omega)).2
    exact this
theorem sign_eq (n : Nat) (h : n < 4294967296) : wrap64 (wrap32 (n : Int)) = signN n := by
  unfold wrap64 wrap32 signN
  split <;> omega
theorem sign_64 (n : Nat) (h : n < 4294967296) : wrap64 (signN n) = signN n := by
  unfold wrap64 signN
  split <;> omega
section
variable (b g j : Nat) (r : Rd) (w : World) (hb : WlkR w b r) (hg : g ≠ b)
include hb
theorem count_r (n : Int) :
    Calls Try.prog 73 #[.pointer (some ⟨b, 0, none⟩), .int .i64 n] w fun e w' => e = .returned (.int .i64 ((r.num 2).1 : Int)) ∧ Wr [b] w w' ∧ WlkR w' b (r.num 2).2 := by
  have h := fun m => bytes_r b 2 m r (by omega) w hb
  have hl := num_lt (k := 2) (by omega) r
  generalize r.num 2 = rr at *
  obtain ⟨v, r'⟩ := rr
  simp only at hl h ⊢
  have e1 : IntKind.i64.wrap (v : Int) = (v : Int) := by rw [IntKind.wrap_i64]; omega
  have e2 : wrap64 (v : Int) = (v : Int) := by unfold wrap64; omega
  have H := Lib.hid h
  clear hb h
  go_enter Try.func73, Try.ntmps73
  go_wp2_with fail
  refine (H.out _).mono ?_
  rintro e w1 ⟨rfl, r1, b1⟩
  go_wp2_with fail
  go_ret
  exact ⟨rfl, r1, b1⟩
include hg
set_option maxHeartbeats 1000000 in
theorem number_r (x : Int) (hc : w.cell? ⟨g, j, none⟩ = some (.int .i64 x)) (hz : w.frozen? ⟨g, j, none⟩ = false) :
    Calls Try.prog 74 #[.pointer (some ⟨b, 0, none⟩), .pointer (some ⟨g, j, none⟩)] w (PutL b ⟨g, j, none⟩ (.int .i64 r.four.1) r.four.2 w) := by
  have h := fun m => bytes_r b 4 m r (by omega) w hb
  have hl := num_lt (k := 4) (by omega) r
  unfold Rd.four
  generalize r.num 4 = rr at *
  obtain ⟨v, r'⟩ := rr
  simp only at hl h ⊢
  have e1 := sign_eq v hl
  have H := Lib.hid h
  have HC := Lib.hid hc
  have HZ := Lib.hid hz
  clear hb h hz
  go_enter Try.func74, Try.ntmps74
  go_wp2_with fail
  refine (H.out _).mono ?_
  rintro e w1 ⟨rfl, r1, b1⟩
  have c1 := r1.cellOf HC.out (by simpa using hg)
  have z1 := r1.frozenOf HC.out HZ.out (by simpa using hg)
  clear hc
  go_wp2_with fail
  refine bodyPost_end (results_none Try.results74 _ _ _) rfl ?_
  exact ⟨rfl, w1, r1, b1, rfl⟩
set_option maxHeartbeats 1000000 in
theorem place_r (x : Int) (hc : w.cell? ⟨g, j, none⟩ = some (.int .i64 x)) (hz : w.frozen? ⟨g, j, none⟩ = false) :
    Calls Try.prog 53 #[.pointer (some ⟨b, 0, none⟩), .pointer (some ⟨g, j, none⟩)] w (PutL b ⟨g, j, none⟩ (.int .i64 r.four.1) r.four.2 w) := by
  have hbl := hb.lt
  obtain ⟨w0, hw0⟩ : ∃ q, w.alloc (.cells #[.int .i64 x] 2) = q := ⟨_, rfl⟩
  obtain ⟨g0, hg0⟩ : ∃ q, w.heap.size = q := ⟨_, rfl⟩
  have r0 : Wr [] w w0 := by rw [← hw0]; exact (Wr.refl _ _).alloc _
  have b0 : Blk w0 g0 2 #[.int .i64 x] := by rw [← hw0, ← hg0]; exact Blk.new _ _ _
  have hgb : g0 ≠ b := by omega
  have h := number_r b g0 0 r w0 (Blk.wr0 hb r0) hgb x (b0.cell 0) (b0.frozen 0)
  have hl := num_lt (k := 4) (by omega) r
  unfold Rd.four at h ⊢
  generalize r.num 4 = rr at *
  obtain ⟨v, r'⟩ := rr
  simp only at hl h ⊢
  have e64 := sign_64 v hl
  generalize signN v = sv at *
  have hwg : w.heap.size ≤ g0 := by omega
  have hlt : g0 < w0.heap.size := b0.lt
  have H := Lib.hid h
  have HC := Lib.hid hc
  have HZ := Lib.hid hz
  have R0 := Lib.hid r0
  have HW0 := Lib.hid hw0
  have HG0 := Lib.hid hg0
  have B0 := Lib.hid b0
  clear hb h hz b0 r0 hw0 hg0
  go_enter Try.func53, Try.ntmps53
  go_upto_region 1 with (fail)
  rw [HG0.out]
  rw [HW0.out]
  clear hc
  go_wp2_with fail
  refine H.out.mono ?_
  rintro e w1 ⟨rfl, w2, r2, b2, rfl⟩
  have q2 := (B0.out.wr r2 (by simpa using hgb)).set_ 0 (.int .i64 sv)
  have r3 : Wr [b] w (w2.setCell ⟨g0, 0, none⟩ (.int .i64 sv)) := (R0.out.nil.trans r2).setNew hwg _
  have b3 : WlkR (w2.setCell ⟨g0, 0, none⟩ (.int .i64 sv)) b r' := Blk.far b2 (fun e => hgb e.symm) _
  generalize w2.setCell ⟨g0, 0, none⟩ (.int .i64 sv) = w3 at *
  have c0 := q2.cell 0
  simp only [List.setIfInBounds_toArray, List.set_cons_zero, List.getElem?_toArray, List.getElem?_cons_zero] at c0
  have c1 := r3.cellOf HC.out (by simpa using hg)
  have z1 := r3.frozenOf HC.out HZ.out (by simpa using hg)
  go_wp2_with fail
  refine bodyPost_end (results_none Try.results53 _ _ _) rfl ?_
  exact ⟨rfl, w3, r3, b3, rfl⟩
set_option maxHeartbeats 1000000 in
theorem byte_r (x : Int) (hc : w.cell? ⟨g, j, none⟩ = some (.int .u8 x)) (hz : w.frozen? ⟨g, j, none⟩ = false) :
    Calls Try.prog 52 #[.pointer (some ⟨b, 0, none⟩), .pointer (some ⟨g, j, none⟩)] w (PutL b ⟨g, j, none⟩ (.int .u8 r.one.1) r.one.2 w) := by
  have h := fun m => bytes_r b 1 m r (by omega) w hb
  have hl := num_lt (k := 1) (by omega) r
  unfold Rd.one
  generalize r.num 1 = rr at *
  obtain ⟨v, r'⟩ := rr
  simp only at hl h ⊢
  have e1 : IntKind.u8.wrap (v : Int) = (v : Int) := by rw [IntKind.wrap_u8]; omega
  have H := Lib.hid h
  have HC := Lib.hid hc
  have HZ := Lib.hid hz
  clear hb h hz
  go_enter Try.func52, Try.ntmps52
  go_wp2_with fail
  refine (H.out _).mono ?_
  rintro e w1 ⟨rfl, r1, b1⟩
  have c1 := r1.cellOf HC.out (by simpa using hg)
  have z1 := r1.frozenOf HC.out HZ.out (by simpa using hg)
  clear hc
  go_wp2_with fail
  refine bodyPost_end (results_none Try.results52 _ _ _) rfl ?_
  exact ⟨rfl, w1, r1, b1, rfl⟩
end
end Go.Proofs.Ytmpbkfbjmmoapaa

/- IfaceBack: what holds in the region that makes both interfaces, whatever order is drawn; the plain part. No conditions. -/
namespace Go.Proofs.Ytmpbkfbjmmoapaa
open Go.RowKit
set_option linter.unusedVariables false
set_option linter.unusedSimpArgs false
def zeroI : Array Value := #[.string ⟨#[]⟩, .slice none 0 0, .slice none 0 0, .slice none 0 0]
/-- What Of answers, its lists in blocks that Q lets in. -/
def OfX (Q : Nat → Prop) (d : FaceD) (v : Value) (w' : World) : Prop := ∃ (A1 : Option Addr) (c1 : Nat) (A2 : Option Addr) (c2 : Nat) (A3 : Option Addr) (c3 : Nat), v = .agg #[.string d.module, .slice A1 d.uses.length c1, .slice A2 d.types.length c2, .slice A3 d.items.length c3] ∧ FaceL w' (fun b => b < w'.heap.size ∧ Q b) (.slice A1 d.uses.length c1) (.slice A2 d.types.length c2) (.slice A3 d.items.length c3) d
theorem OfX.keep {Q Q' : Nat → Prop} {d : FaceD} {v : Value} {w1 w2 : World} {bs : List Nat} (h : OfX Q d v w1) (r : Wr bs w1 w2) (hq : ∀ b, b < w1.heap.size → Q b → b ∉ bs ∧ Q' b) : OfX Q' d v w2 := by
  obtain ⟨A1, c1, A2, c2, A3, c3, e, s⟩ := h
  refine ⟨A1, c1, A2, c2, A3, c3, e, (s.keep r (fun b hb => (hq b hb.1 hb.2).1)).into (fun b hb _ => ⟨Nat.lt_of_lt_of_le hb.1 r.size, (hq b hb.1 hb.2).2⟩)⟩
def ibQ (σ : Nat → Value) (l : Array Bool) (b : Nat) : Prop := (lst l 4 = true → σ 4 ≠ .pointer (some ⟨b, 0, none⟩)) ∧ (lst l 5 = true → σ 5 ≠ .pointer (some ⟨b, 0, none⟩))
theorem ibQ_ne {σ : Nat → Value} {l : Array Bool} {i b : Nat} {v : Value} (h6 : i ≠ 4) (h7 : i ≠ 5) : ibQ (upd σ i v) (l.setIfInBounds i true) b ↔ ibQ σ l b := by
  unfold ibQ
  rw [lst_ne (fun e => h6 e.symm), lst_ne (fun e => h7 e.symm), upd_ne σ v (fun e => h6 e.symm), upd_ne σ v (fun e => h7 e.symm)]
def ibX (x y : FaceD) (σ : Nat → Value) (l : Array Bool) (w' : World) : Prop := (lst l 1 = true → OfX (ibQ σ l) x (σ 1) w') ∧ (lst l 3 = true → OfX (ibQ σ l) y (σ 3) w')
section
variable {x y : FaceD} {σ : Nat → Value} {l : Array Bool} {w1 w2 : World} {v : Value}
theorem ibX.quiet (h : ibX x y σ l w1) (r : Wr [] w1 w2) {i : Nat} (h2 : i ≠ 1) (h5 : i ≠ 3) (h6 : i ≠ 4) (h7 : i ≠ 5) : ibX x y (upd σ i v) (l.setIfInBounds i true) w2 := by
  refine ⟨fun k => ?_, fun k => ?_⟩
  · rw [lst_ne (fun e => h2 e.symm)] at k
    rw [upd_ne σ v (fun e => h2 e.symm)]
    exact (h.1 k).keep r (fun b _ hb => ⟨by simp, (ibQ_ne h6 h7).2 hb⟩)
  · rw [lst_ne (fun e => h5 e.symm)] at k
    rw [upd_ne σ v (fun e => h5 e.symm)]
    exact (h.2 k).keep r (fun b _ hb => ⟨by simp, (ibQ_ne h6 h7).2 hb⟩)
theorem OfX.same {Q Q' : Nat → Prop} {d : FaceD} (h : OfX Q d v w1) (hq : ∀ b, Q b → Q' b) : OfX Q' d v w1 := h.keep (Wr.refl [] w1) (fun b _ hb => ⟨by simp, hq b hb⟩)
theorem ibX.one (h : ibX x y σ l w1) (r : Wr [] w1 w2) (ho : OfX (ibQ σ l) x v w2) : ibX x y (upd σ 1 v) (l.setIfInBounds 1 true) w2 := by
  refine ⟨fun _ => ?_, fun k => ?_⟩
  · rw [upd_same]
    exact ho.same (fun b hb => (ibQ_ne (by decide) (by decide)).2 hb)
  · rw [lst_ne (by decide)] at k
    rw [upd_ne σ v (by decide)]
    exact (h.2 k).keep r (fun b _ hb => ⟨by simp, (ibQ_ne (by decide) (by decide)).2 hb⟩)
theorem ibX.three (h : ibX x y σ l w1) (r : Wr [] w1 w2) (ho : OfX (ibQ σ l) y v w2) : ibX x y (upd σ 3 v) (l.setIfInBounds 3 true) w2 := by
  refine ⟨fun k => ?_, fun _ => ?_⟩
  · rw [lst_ne (by decide)] at k
    rw [upd_ne σ v (by decide)]
    exact (h.1 k).keep r (fun b _ hb => ⟨by simp, (ibQ_ne (by decide) (by decide)).2 hb⟩)
  · rw [upd_same]
    exact ho.same (fun b hb => (ibQ_ne (by decide) (by decide)).2 hb)
theorem ibX.alloc (h : ibX x y σ l w1) {i : Nat} (hi : i = 4 ∨ i = 5) (o : Obj) : ibX x y (upd σ i (.pointer (some ⟨w1.heap.size, 0, none⟩))) (l.setIfInBounds i true) (w1.alloc o) := by
  have key : ∀ b, b < w1.heap.size → ibQ σ l b → ibQ (upd σ i (.pointer (some ⟨w1.heap.size, 0, none⟩))) (l.setIfInBounds i true) b := by
    intro b hb hq
    rcases hi with rfl | rfl
    · refine ⟨fun _ => ?_, fun k => ?_⟩
      · rw [upd_same]
        intro he
        simp only [Value.pointer.injEq, Option.some.injEq, Addr.mk.injEq, and_true] at he
        omega
      · rw [lst_ne (by decide)] at k
        rw [upd_ne σ _ (by decide)]
        exact hq.2 k
    · refine ⟨fun k => ?_, fun _ => ?_⟩
      · rw [lst_ne (by decide)] at k
        rw [upd_ne σ _ (by decide)]
        exact hq.1 k
      · rw [upd_same]
        intro he
        simp only [Value.pointer.injEq, Option.some.injEq, Addr.mk.injEq, and_true] at he
        omega
  have n2 : 1 ≠ i := by omega
  have n5 : 3 ≠ i := by omega
  refine ⟨fun k => ?_, fun k => ?_⟩
  · rw [lst_ne n2] at k
    rw [upd_ne σ _ n2]
    exact (h.1 k).keep ((Wr.refl [] w1).alloc o) (fun b hb hq => ⟨by simp, key b hb hq⟩)
  · rw [lst_ne n5] at k
    rw [upd_ne σ _ n5]
    exact (h.2 k).keep ((Wr.refl [] w1).alloc o) (fun b hb hq => ⟨by simp, key b hb hq⟩)
theorem ibX.store (h : ibX x y σ l w1) {i k b : Nat} (hi : i = 6 ∨ i = 7) (hk : k = 4 ∨ k = 5) (hl : lst l k = true) (hb : σ k = .pointer (some ⟨b, 0, none⟩)) (r : Wr [b] w1 w2) : ibX x y (upd σ i v) (l.setIfInBounds i true) w2 := by
  have key : ∀ b', ibQ σ l b' → b' ∉ [b] ∧ ibQ (upd σ i v) (l.setIfInBounds i true) b' := by
    intro b' hq
    refine ⟨?_, (ibQ_ne (by omega) (by omega)).2 hq⟩
    rw [List.mem_singleton]
    rintro rfl
    rcases hk with rfl | rfl
    · exact hq.1 hl hb
    · exact hq.2 hl hb
  have n2 : 1 ≠ i := by omega
  have n5 : 3 ≠ i := by omega
  refine ⟨fun k => ?_, fun k => ?_⟩
  · rw [lst_ne n2] at k
    rw [upd_ne σ v n2]
    exact (h.1 k).keep r (fun b _ hq => key b hq)
  · rw [lst_ne n5] at k
    rw [upd_ne σ v n5]
    exact (h.2 k).keep r (fun b _ hq => key b hq)
end
def ibVal (u v : Value) : Nat → Value
  | 0 => u
  | _ => v
def ibV (j : Nat) : Prop := j = 0 ∨ j = 2
instance (j : Nat) : Decidable (ibV j) := inferInstanceAs (Decidable (j = 0 ∨ j = 2))
def ibAl : List MadeJ := [⟨4, 6, 1, 31, zeroI⟩, ⟨5, 7, 3, 31, zeroI⟩]
theorem ibNa (i : Nat) (h : i ≤ 3) : ∀ a ∈ ibAl, a.i ≠ i ∧ a.s ≠ i := by
  intro a ha
  simp [ibAl] at ha
  rcases ha with rfl | rfl <;> simp <;> omega
theorem ibApart : ApartJ ibAl ibV := by
  refine ⟨?_, ?_, ?_, ?_, ?_⟩
  · intro a ha a' ha'
    simp [ibAl] at ha ha'
    rcases ha with rfl | rfl <;> rcases ha' with rfl | rfl <;> simp
  · intro a ha a' ha'
    simp [ibAl] at ha ha'
    rcases ha with rfl | rfl <;> rcases ha' with rfl | rfl <;> simp
  · intro a ha a' ha'
    simp [ibAl] at ha ha'
    rcases ha with rfl | rfl <;> rcases ha' with rfl | rfl <;> simp
  · intro a ha
    simp [ibAl] at ha
    rcases ha with rfl | rfl <;> simp [ibV]
  · intro a ha
    simp [ibAl] at ha
    rcases ha with rfl | rfl <;> simp [ibV]
theorem ib_q {w1 W : World} {x y : FaceD} {u v : Value} {σ : Nat → Value} {l : Array Bool} (h : GridJ W (ibVal u v) ibV ibAl (ibX x y) σ l w1) (b : Nat) (hb : b < W.heap.size ∨ w1.heap.size ≤ b) : ibQ σ l b := by
  have own : ∀ a ∈ ibAl, lst l a.i = true → σ a.i ≠ .pointer (some ⟨b, 0, none⟩) := by
    intro a ha hl he
    obtain ⟨b', e, hb', f, g⟩ := h.b a ha hl
    rw [e] at he
    simp only [Value.pointer.injEq, Option.some.injEq, Addr.mk.injEq, and_true] at he
    subst he
    have h2 : b' < w1.heap.size := by
      cases hc : lst l a.s with
      | false => exact (f hc).lt
      | true =>
        obtain ⟨_, _, e2⟩ := g hc
        exact e2.lt
    omega
  exact ⟨own ⟨4, 6, 1, 31, zeroI⟩ (by simp [ibAl]), own ⟨5, 7, 3, 31, zeroI⟩ (by simp [ibAl])⟩
/-- Behind the two Of. -/
def IbCut (w : World) (x y : FaceD) (s7 s8 : Value) (wx : World) : Prop := ∃ (b7 b8 : Nat) (A1 : Option Addr) (c1 : Nat) (A2 : Option Addr) (c2 : Nat) (A3 : Option Addr) (c3 : Nat) (B1 : Option Addr) (d1 : Nat) (B2 : Option Addr) (d2 : Nat) (B3 : Option Addr) (d3 : Nat),
  s7 = .pointer (some ⟨b7, 0, none⟩) ∧ s8 = .pointer (some ⟨b8, 0, none⟩) ∧ Wr [] w wx ∧ Blk wx b7 31 #[.string x.module, .slice A1 x.uses.length c1, .slice A2 x.types.length c2, .slice A3 x.items.length c3] ∧ Blk wx b8 31 #[.string y.module, .slice B1 y.uses.length d1, .slice B2 y.types.length d2, .slice B3 y.items.length d3] ∧
  FaceL wx (fun _ => True) (.slice A1 x.uses.length c1) (.slice A2 x.types.length c2) (.slice A3 x.items.length c3) x ∧ FaceL wx (fun _ => True) (.slice B1 y.uses.length d1) (.slice B2 y.types.length d2) (.slice B3 y.items.length d3) y
/-- Both of one list, of which each is the same. -/
theorem list_all {α : Type} {one : Rd → α × Rd} {p : α → Prop} (h : ∀ r, p (one r).1) : ∀ n r, ∀ x ∈ (Rd.list one n r).1, p x
  | 0, r, x, hx => by simp [Rd.list] at hx
  | n + 1, r, x, hx => by
    rw [Rd.list] at hx
    split at hx
    · cases hx
    · rcases List.mem_cons.1 hx with rfl | hx
      · exact h r
      · exact list_all h n _ x hx
theorem one_lt (r : Rd) : 0 ≤ r.one.1 ∧ r.one.1 ≤ 255 := by
  have := num_lt (k := 1) (by omega) r
  unfold Rd.one
  simp only
  omega
theorem any_w (r : Rd) : anyW (Rd.any r).1 := by
  obtain ⟨rr, hn⟩ : ∃ rr, r.num 1 = rr := ⟨_, rfl⟩
  obtain ⟨k, r'⟩ := rr
  unfold Rd.any
  rw [hn]
  match k with
  | 0 => exact trivial
  | 1 => exact trivial
  | 2 => exact one_lt r'
  | 3 => exact trivial
  | 4 =>
    have := num_lt (k := 2) (by omega) r'
    show 0 ≤ r'.two.1 ∧ r'.two.1 ≤ 65535
    unfold Rd.two
    simp only
    omega
  | 5 => exact trivial
  | 6 => exact trivial
  | 7 => exact trivial
  | k + 8 => exact trivial
/-- What is read is such as Go has. -/
theorem face_w (r : Rd) : faceW (Rd.face r).1 := by
  refine ⟨fun u hu => ?_, fun t ht => ?_, fun x hx => ?_, fun x hx => ?_⟩
  · have := list_all (one := Rd.use) (p := fun u => 0 ≤ u.key ∧ u.key < 18446744073709551616) (fun r => by
      have := num_lt (k := 8) (by omega) r.text.2
      unfold Rd.use
      simp only
      omega) _ _ u hu
    exact this
  · exact list_all (one := Rd.ty) (p := fun t => 0 ≤ t.kind ∧ t.kind ≤ 255) (fun r => one_lt r) _ _ t ht
  · exact list_all (one := Rd.itm) (p := fun x => 0 ≤ x.kind ∧ x.kind ≤ 255) (fun r => one_lt _) _ _ x hx
  · exact list_all (one := Rd.itm) (p := fun x => anyW x.v) (fun r => any_w _) _ _ x hx
theorem dec_w {l : List UInt8} : faceW (decFaceP l).1 := by
  unfold decFaceP
  split
  · exact ⟨fun u hu => by simp [noFace] at hu, fun u hu => by simp [noFace] at hu, fun u hu => by simp [noFace] at hu, fun u hu => by simp [noFace] at hu⟩
  · exact face_w _
theorem valOf_inj {a b : AnyD} (h : valOf a = valOf b) : a = b := by
  cases a <;> cases b <;> simp [valOf] at h <;> first | rfl | (subst h; rfl) | (obtain ⟨rfl, rfl⟩ := h; rfl) | (rename_i x y; cases x <;> cases y <;> simp at h <;> rfl)
theorem facePl_inj {x y : FaceD} (h : facePl x = facePl y) : x = y := by
  obtain ⟨m, u, t, i⟩ := x
  obtain ⟨m', u', t', i'⟩ := y
  simp only [facePl, FaceP.mk.injEq] at h
  obtain ⟨rfl, rfl, rfl, h⟩ := h
  have key : ∀ l m : List ItmD, l.map pitmOf = m.map pitmOf → l = m := by
    intro l
    induction l with
    | nil => intro m h; cases m <;> simp_all
    | cons a l ih =>
      intro m h
      cases m with
      | nil => simp at h
      | cons b m =>
        simp only [List.map_cons, List.cons.injEq] at h
        rw [ih m h.2]
        have h1 := h.1
        obtain ⟨n1, k1, ty1, a1, v1⟩ := a
        obtain ⟨n2, k2, ty2, a2, v2⟩ := b
        simp only [pitmOf, PItm.mk.injEq] at h1
        obtain ⟨rfl, rfl, rfl, rfl, h1⟩ := h1
        rw [valOf_inj h1]
  rw [key _ _ h]
/-- One has the bytes of another just if it is the other. -/
theorem bytes_same {x y : FaceD} (wx : faceW x) (wy : faceW y) (mx : mayP x = 0) (my : mayP y = 0) : (faceL x = faceL y) ↔ facePl x = facePl y := by
  constructor
  · intro h
    have := (face_prefix x y wx wy mx my [] (by rw [List.append_nil]; exact h)).2
    rw [this]
  · intro h
    rw [facePl_inj h]
end Go.Proofs.Ytmpbkfbjmmoapaa
