/- ObjReads: walked. No conditions. -/
import Derived.Test.YtildcdgobdfieaaGreatRD45
import Derived.Test.YtildcdgobdfieaaGreatRD47
set_option linter.unusedVariables false
set_option linter.unusedSimpArgs false
set_option maxRecDepth 100000
set_option maxHeartbeats 32000000
namespace Go.Proofs.YtildcdgobdfieaaGreat
open Go.RowKit
theorem objReads_any (s : ByteArray) (rt : Bool) (w : World) : Calls Tryz.prog 4 #[.string s, .bool rt] w fun e w' => e = .returned (.bool true) ∧ Wr [] w w' := by
 have HAL := qh alive21
 by_cases hbig : 4096 < s.size
 ·have h1 : (4096 : Int) < (s.size : Int) := by omega
  clear hbig
  go_in
  go_wp2_with fail
  refine (HAL.out _).mono ?_
  rintro e w1 ⟨rfl, k1⟩
  go_wp2_with fail
  go_ret
  exact ⟨rfl, k1⟩
 have h1 : ¬ (4096 : Int) < (s.size : Int) := by omega
 have hbr : (rt = true ∧ 12 ≤ s.size) ∨ (rt = true ∧ s.size < 12) ∨ rt = false := by cases rt <;> simp <;> omega
 have hs4 : s.size ≤ 4096 := by omega
 clear hbig
 go_in
 refine hbr.elim ?wayA (fun h => h.elim ?wayB ?wayC)
 case' wayB =>
  rintro ⟨rfl, hc⟩
  clear hbr
  have h2 : ¬ (12 : Int) ≤ (s.size : Int) := by omega
  go_upto_region 11 with (fail)
  obtain ⟨L, hLX⟩ : ∃ L, s = ansS L := ⟨_, (ansS_of s).symm⟩
  have hL : L.length ≤ 4096 := by rw [← ansS_size, ← hLX]; exact hs4
  subst hLX
  clear hs4 h1
  generalize hwt : w = wt
  have KX : Hid (Wr [] w wt) := qh (by rw [hwt]; exact Wr.refl _ _)
  clear hwt
 case' wayC =>
  rintro rfl
  clear hbr
  go_upto_region 11 with (fail)
  obtain ⟨L, hLX⟩ : ∃ L, s = ansS L := ⟨_, (ansS_of s).symm⟩
  have hL : L.length ≤ 4096 := by rw [← ansS_size, ← hLX]; exact hs4
  subst hLX
  clear hs4 h1
  generalize hwt : w = wt
  have KX : Hid (Wr [] w wt) := qh (by rw [hwt]; exact Wr.refl _ _)
  clear hwt
 case' wayA =>
  rintro ⟨rfl, hc⟩
  clear hbr
  have h2 : (12 : Int) ≤ (s.size : Int) := by omega
  have h3 : (4 : Int) ≤ (s.size : Int) := by omega
  obtain ⟨S1, hS1⟩ : ∃ q, s.extract 12 s.size = q := ⟨_, rfl⟩
  have hs1 : S1.size = s.size - 12 := by rw [← hS1, ByteArray.size_extract]; omega
  obtain ⟨S0, hS0⟩ : ∃ q, s.extract 0 4 = q := ⟨_, rfl⟩
  have hs0 : S0.size = 4 := by rw [← hS0, ByteArray.size_extract]; omega
  have hof := fun W => of_any S1 (by unfold maxLen; omega) W
  obtain ⟨K, hK⟩ : ∃ q, ofN (moreN 14695981039346656037 (natsOf S1)) = q := ⟨_, rfl⟩
  rw [hK] at hof
  have HOF := qh hof
  obtain ⟨bv, wc, hconv, hbm, hwc⟩ := BMark.of w S0 (by omega)
  have hl0 : S0.data.toList.length = 4 := hs0
  have HBM := qh hbm
  have HWC := qh hwc
  clear hof hK hs0 hbm hwc
  go_wp2_with fail
  refine (HOF.out _).mono ?_
  rintro e wA ⟨rfl, rfl⟩
  go_wp2_with fail
  clear hconv hS0
  go_loopw [6, 7] (fun v i wr => ∃ (k : Nat) (l : List UInt8), k ≤ 8 ∧ i = .int .i64 k ∧ l.length = 4 + k ∧ BMark w.heap.size v l wr ∧ Wr [] w wr) (fun _ i _ => 8 - (intOf i).toNat)
  case atStart => exact ⟨0, _, by omega, rfl, hl0, HBM.out, HWC.out⟩
  case' round =>
   obtain ⟨k, l, hk, rfl, hll, hbm, hwr⟩ := hrel
   have hk0 : (0 : Int) ≤ (k : Int) := by omega
   by_cases hk8 : k < 8
   case pos =>
    have hk1 : (k : Int) < 8 := by omega
    obtain ⟨c, hc8⟩ : ∃ c : UInt8, ((K : Int) / 2 ^ (56 - 8 * k) % 256) = (c.toNat : Int) := by
     obtain ⟨q, hq⟩ : ∃ q : Int, (K : Int) / 2 ^ (56 - 8 * k) = q := ⟨_, rfl⟩
     rw [hq]
     exact ⟨UInt8.ofNat (q % 256).toNat, by rw [toNat_ofNat _ (by omega)]; omega⟩
    have r6 : Wr [] wr (wr.alloc (.cells #[.int .u8 (c.toNat : Int)] 5)) := (Wr.refl [] _).alloc _
    have n6 := Blk.new wr 5 #[.int .u8 (c.toNat : Int)]
    have hsl : Sl (wr.alloc (.cells #[.int .u8 (c.toNat : Int)] 5)) (fun _ => True) 1 (.slice (some ⟨wr.heap.size, 0, none⟩) 1 1) 1 [.int .u8 (c.toNat : Int)] :=
     ⟨_, 1, rfl, Nat.le_refl _, by decide, rfl, fun j u hj => ⟨_, 0, rfl, trivial, by rw [Nat.zero_add, n6.cell, qgaq]; exact hj⟩⟩
    obtain ⟨v', w7, hrun, hb7, k7⟩ := (hbm.keep0 r6).app (k := [c]) (u := .slice (some ⟨wr.heap.size, 0, none⟩) 1 1) hsl (by simp) (by simp; omega) (by have := hwr.size; have := r6.size; omega)
    have hw7 : Wr [] w w7 := (hwr.trans r6).trans' k7 (fun q hq => .inr (hbm.lt q hq).1)
    unfold AppR at hrun
    rw [← hc8] at hrun
    have HRUN := qh hrun
    have HB7 := qh hb7
    have HW7 := qh hw7
    clear hbm hwr hrun hb7 hw7 k7 r6 n6 hsl hc8
    go_wp2_with (at_builtin; refine wpList_append_run rfl _ _ _ rfl _ _ rfl rfl _ _ HRUN.out ?_)
    go_roundw
    case rel => exact ⟨k + 1, l ++ [c], by omega, by first | rfl | (go_num), by rw [qlaq, hll]; rfl, HB7.out, HW7.out⟩
    case measure => simp [intOf]; omega
   case' neg =>
    have hk1 : ¬ (k : Int) < 8 := by omega
    have HB := qh hbm
    have HW := qh hwr
    have hcat : ¬ (9223372036854775807 < 4 + k + (s.size - 12)) := by omega
    clear hbm hwr
    go_upto_region 10 with (fail)
    refine beginL (AlwO fun w' => BMark w.heap.size u6 l w') (by kernel_rfl) (HB.out.keep0 (Wr.refl _ _).drew) ?_
    refine mvB 0 (by rfl) (by kernel_rfl) (by rfl) (fun w' hS => by go_simp; try rfl) ?_
    try simp only [Act.put, qsaq, qszq, qssq]
    refine mvB 1 (by rfl) (by kernel_rfl) (by rfl) (fun w' hS => by have hT := BMark.text hS; go_simp; try rfl) ?_
    try simp only [Act.put, qsaq, qszq, qssq]
    refine mvB 2 (by rfl) (by kernel_rfl) (by rfl) (fun w' hS => by go_simp; try rfl) ?_
    try simp only [Act.put, qsaq, qszq, qssq]
    refine mvB 3 (by rfl) (by kernel_rfl) (by rfl) (fun w' hS => by go_simp; try rfl) ?_
    try simp only [Act.put, qsaq, qszq, qssq]
    refine mvB 4 (by rfl) (by kernel_rfl) (by rfl) (fun w' hS => by go_simp; try rfl) ?_
    try simp only [Act.put, qsaq, qszq, qssq]
    refine mvB 5 (by rfl) (by kernel_rfl) (by rfl) (fun w' hS => by go_simp; try rfl) ?_
    try simp only [Act.put, qsaq, qszq, qssq]
    refine endL (by kernel_rfl) ?_
    go_upto_region 11 with (fail)
    obtain ⟨L, hLX⟩ : ∃ L, (⟨l.toArray⟩ : ByteArray) ++ S1 = ansS L := ⟨_, (ansS_of _).symm⟩
    have hL : L.length ≤ 4096 := by
     rw [← ansS_size, ← hLX, ByteArray.size_append, hs1]
     have : (⟨l.toArray⟩ : ByteArray).size = l.length := ansS_size l
     omega
    rw [hLX]
    have KX : Hid (Wr [] w wr.drew) := qh HW.out.drew
    generalize wr.drew = wt at *
    clear hLX HB HW hcat hk hll hk0 hk8 hk1 HBM HWC hl0 HOF hS1 hs1 hs4 hc h1 h2 h3
 all_goals
  have hl : L.length ≤ maxLen := by unfold maxLen; omega
  have hd1 := fun W => odec_any L hl W
  have hd2 := fun W => rodec_any L hl W
  have hu1 := fun W => unpack_any L W
  have hu2 := fun W => runp_any L hl W
  have hy1 := fun W => rsym_any L hl W
  have hy2 := fun W => rrsym_any L hl W
  obtain ⟨hw1, hw2⟩ := read_w L
  rw [rread_eq] at hy2
  unfold ODecR at hd1 hd2
  unfold UnpR at hu1 hu2
  unfold RSymR at hy1
  unfold RRSymR at hy2
  obtain ⟨qd, hqd⟩ : ∃ q, decodeP L = q := ⟨_, rfl⟩
  obtain ⟨od, oe⟩ := qd
  obtain ⟨qu, hqu⟩ : ∃ q, unpackP L = q := ⟨_, rfl⟩
  obtain ⟨um, ur, ue⟩ := qu
  obtain ⟨qy, hqy⟩ : ∃ q, readSymP L = q := ⟨_, rfl⟩
  obtain ⟨sf, sk, se⟩ := qy
  rw [hqd] at hd1 hd2
  rw [hqu] at hu1 hu2
  rw [hqy] at hy1 hy2 hw1 hw2
  simp only at hd1 hd2 hu1 hu2 hy1 hy2 hw1 hw2
  have pn : (facePl sf).module = sf.module := rfl
  rw [pn] at hy2
  have D1 := qh hd1
  have D2 := qh hd2
  have U1 := qh hu1
  have U2 := qh hu2
  have Y1 := qh hy1
  have Y2 := qh hy2
  have HW := qh (And.intro hw1 hw2)
  clear hd1 hd2 hu1 hu2 hy1 hy2 hw1 hw2 hqd hqu hqy hl hL pn
  go_wp2_with fail
  refine (D1.out _).mono ?_
  rintro e v1 ⟨vu, vp, vi, vn, rfl, k1, ml⟩
  obtain ⟨Au1, cu1, rfl, _, _⟩ := Sl.form ml.uses
  obtain ⟨Ap1, cp1, rfl, _, _⟩ := Sl.form ml.mod.procs
  obtain ⟨Ai1, ci1, rfl, _, _⟩ := Sl.form ml.mod.imports
  obtain ⟨An1, cn1, rfl, _, _⟩ := Sl.form ml.mod.init
  unfold ObjD.val ObjD.cells
  obtain ⟨w1, hwn⟩ : ∃ q, v1.alloc (.cells #[.string od.module, .bool od.main, .int .u64 od.key, .slice Au1 od.uses.length cu1, .string od.mod.code, .slice Ap1 od.mod.procs.length cp1, .slice Ai1 od.mod.imports.length ci1, .int .i64 od.mod.data, .slice An1 od.mod.init.length cn1] 30) = q := ⟨_, rfl⟩
  obtain ⟨g1, hgn⟩ : ∃ q, v1.heap.size = q := ⟨_, rfl⟩
  have kn : Wr [] v1 w1 := by rw [← hwn]; exact (Wr.refl _ _).alloc _
  have bn : Blk w1 g1 30 #[.string od.module, .bool od.main, .int .u64 od.key, .slice Au1 od.uses.length cu1, .string od.mod.code, .slice Ap1 od.mod.procs.length cp1, .slice Ai1 od.mod.imports.length ci1, .int .i64 od.mod.data, .slice An1 od.mod.init.length cn1] := by rw [← hwn, ← hgn]; exact Blk.new _ _ _
  have K1 := qh (k1.trans kn)
  have B1 := qh bn
  have L1 := qh (ml.wr0 kn)
  have HWN := qh hwn
  have HGN := qh hgn
  clear hwn hgn kn bn k1 ml D1
  go_upto_region 12 with (fail)
  rw [HGN.out, HWN.out]
  clear HWN HGN
  go_wp2_with fail
  refine (D2.out _).mono ?_
  rintro e v2 ⟨vu, vp, vi, vn, rfl, k1, ml⟩
  obtain ⟨Au2, cu2, rfl, _, _⟩ := Sl.form ml.uses
  obtain ⟨Ap2, cp2, rfl, _, _⟩ := Sl.form ml.mod.procs
  obtain ⟨Ai2, ci2, rfl, _, _⟩ := Sl.form ml.mod.imports
  obtain ⟨An2, cn2, rfl, _, _⟩ := Sl.form ml.mod.init
  unfold ObjD.val ObjD.cells
  obtain ⟨w2, hwn⟩ : ∃ q, v2.alloc (.cells #[.string od.module, .bool od.main, .int .u64 od.key, .slice Au2 od.uses.length cu2, .string od.mod.code, .slice Ap2 od.mod.procs.length cp2, .slice Ai2 od.mod.imports.length ci2, .int .i64 od.mod.data, .slice An2 od.mod.init.length cn2] 30) = q := ⟨_, rfl⟩
  obtain ⟨g2, hgn⟩ : ∃ q, v2.heap.size = q := ⟨_, rfl⟩
  have kn : Wr [] v2 w2 := by rw [← hwn]; exact (Wr.refl _ _).alloc _
  have bn : Blk w2 g2 30 #[.string od.module, .bool od.main, .int .u64 od.key, .slice Au2 od.uses.length cu2, .string od.mod.code, .slice Ap2 od.mod.procs.length cp2, .slice Ai2 od.mod.imports.length ci2, .int .i64 od.mod.data, .slice An2 od.mod.init.length cn2] := by rw [← hwn, ← hgn]; exact Blk.new _ _ _
  have K2 := qh (k1.trans kn)
  have B2 := qh bn
  have L2 := qh (ml.wr0 kn)
  have HWN := qh hwn
  have HGN := qh hgn
  clear hwn hgn kn bn k1 ml D2
  go_upto_region 13 with (fail)
  rw [HGN.out, HWN.out]
  clear HWN HGN
  go_wp2_with fail
  refine (U1.out _).mono ?_
  rintro e v3 ⟨vp, vi, vn, rfl, k1, ml⟩
  obtain ⟨Ap3, cp3, rfl, _, _⟩ := Sl.form ml.procs
  obtain ⟨Ai3, ci3, rfl, _, _⟩ := Sl.form ml.imports
  obtain ⟨An3, cn3, rfl, _, _⟩ := Sl.form ml.init
  unfold ModD.val ModD.cells
  obtain ⟨w3, hwn⟩ : ∃ q, v3.alloc (.cells #[.string um.code, .slice Ap3 um.procs.length cp3, .slice Ai3 um.imports.length ci3, .int .i64 um.data, .slice An3 um.init.length cn3] 28) = q := ⟨_, rfl⟩
  obtain ⟨g3, hgn⟩ : ∃ q, v3.heap.size = q := ⟨_, rfl⟩
  have kn : Wr [] v3 w3 := by rw [← hwn]; exact (Wr.refl _ _).alloc _
  have bn : Blk w3 g3 28 #[.string um.code, .slice Ap3 um.procs.length cp3, .slice Ai3 um.imports.length ci3, .int .i64 um.data, .slice An3 um.init.length cn3] := by rw [← hwn, ← hgn]; exact Blk.new _ _ _
  have K3 := qh (k1.trans kn)
  have B3 := qh bn
  have L3 := qh (ml.wr0 kn)
  have HWN := qh hwn
  have HGN := qh hgn
  clear hwn hgn kn bn k1 ml U1
  go_upto_region 14 with (fail)
  rw [HGN.out, HWN.out]
  clear HWN HGN
  go_wp2_with fail
  refine (U2.out _).mono ?_
  rintro e v4 ⟨vp, vi, vn, rfl, k1, ml⟩
  obtain ⟨Ap4, cp4, rfl, _, _⟩ := Sl.form ml.procs
  obtain ⟨Ai4, ci4, rfl, _, _⟩ := Sl.form ml.imports
  obtain ⟨An4, cn4, rfl, _, _⟩ := Sl.form ml.init
  unfold ModD.val ModD.cells
  obtain ⟨w4, hwn⟩ : ∃ q, v4.alloc (.cells #[.string um.code, .slice Ap4 um.procs.length cp4, .slice Ai4 um.imports.length ci4, .int .i64 um.data, .slice An4 um.init.length cn4] 28) = q := ⟨_, rfl⟩
  obtain ⟨g4, hgn⟩ : ∃ q, v4.heap.size = q := ⟨_, rfl⟩
  have kn : Wr [] v4 w4 := by rw [← hwn]; exact (Wr.refl _ _).alloc _
  have bn : Blk w4 g4 28 #[.string um.code, .slice Ap4 um.procs.length cp4, .slice Ai4 um.imports.length ci4, .int .i64 um.data, .slice An4 um.init.length cn4] := by rw [← hwn, ← hgn]; exact Blk.new _ _ _
  have K4 := qh (k1.trans kn)
  have B4 := qh bn
  have L4 := qh (ml.wr0 kn)
  have HWN := qh hwn
  have HGN := qh hgn
  clear hwn hgn kn bn k1 ml U2
  go_upto_region 15 with (fail)
  rw [HGN.out, HWN.out]
  clear HWN HGN
  go_wp2_with fail
  refine (Y1.out _).mono ?_
  rintro e v5 ⟨vu, vt, vi, rfl, k1, ml⟩
  obtain ⟨⟨Au5, cu5, rfl, _, _⟩, ⟨At5, ct5, rfl, _, _⟩, ⟨Ai5, ci5, rfl, _, _⟩⟩ := ml.forms
  try unfold FaceD.val
  obtain ⟨w5, hwn⟩ : ∃ q, v5.alloc (.cells #[.string sf.module, .slice Au5 sf.uses.length cu5, .slice At5 sf.types.length ct5, .slice Ai5 sf.items.length ci5] 55) = q := ⟨_, rfl⟩
  obtain ⟨g5, hgn⟩ : ∃ q, v5.heap.size = q := ⟨_, rfl⟩
  have kn : Wr [] v5 w5 := by rw [← hwn]; exact (Wr.refl _ _).alloc _
  have bn : Blk w5 g5 55 #[.string sf.module, .slice Au5 sf.uses.length cu5, .slice At5 sf.types.length ct5, .slice Ai5 sf.items.length ci5] := by rw [← hwn, ← hgn]; exact Blk.new _ _ _
  have K5 := qh (k1.trans kn)
  have B5 := qh bn
  have L5 := qh (ml.wr0 kn)
  have HWN := qh hwn
  have HGN := qh hgn
  clear hwn hgn kn bn k1 ml Y1
  go_upto_region 16 with (fail)
  rw [HGN.out, HWN.out]
  clear HWN HGN
  go_wp2_with fail
  refine (Y2.out _).mono ?_
  rintro e v6 ⟨vu, vt, vi, rfl, k1, ml⟩
  obtain ⟨⟨Au6, cu6, rfl, _, _⟩, ⟨At6, ct6, rfl, _, _⟩, ⟨Ai6, ci6, rfl, _, _⟩⟩ := ml.forms
  try unfold FaceD.val
  obtain ⟨w6, hwn⟩ : ∃ q, v6.alloc (.cells #[.string sf.module, .slice Au6 (facePl sf).uses.length cu6, .slice At6 (facePl sf).types.length ct6, .slice Ai6 (facePl sf).items.length ci6] 60) = q := ⟨_, rfl⟩
  obtain ⟨g6, hgn⟩ : ∃ q, v6.heap.size = q := ⟨_, rfl⟩
  have kn : Wr [] v6 w6 := by rw [← hwn]; exact (Wr.refl _ _).alloc _
  have bn : Blk w6 g6 60 #[.string sf.module, .slice Au6 (facePl sf).uses.length cu6, .slice At6 (facePl sf).types.length ct6, .slice Ai6 (facePl sf).items.length ci6] := by rw [← hwn, ← hgn]; exact Blk.new _ _ _
  have K6 := qh (k1.trans kn)
  have B6 := qh bn
  have L6 := qh (ml.wr0 kn)
  have HWN := qh hwn
  have HGN := qh hgn
  clear hwn hgn kn bn k1 ml Y2
  go_upto_region 17 with (fail)
  rw [HGN.out, HWN.out]
  clear HWN HGN
  have KK1 : Wr [] w1 w6 := ((((K2.out.trans K3.out).trans K4.out).trans K5.out).trans K6.out)
  have KK2 : Wr [] w2 w6 := (((K3.out.trans K4.out).trans K5.out).trans K6.out)
  have KK3 : Wr [] w3 w6 := ((K4.out.trans K5.out).trans K6.out)
  have KK4 : Wr [] w4 w6 := (K5.out.trans K6.out)
  have KK5 : Wr [] w5 w6 := K6.out
  have KK6 : Wr [] w6 w6 := Wr.refl _ _
  have c1 := B1.out.wr0 KK1
  obtain ⟨x1_0, x1_1, x1_2, x1_3, x1_4, x1_5, x1_6, x1_7, x1_8⟩ := c9q c1
  have c2 := B2.out.wr0 KK2
  obtain ⟨x2_0, x2_1, x2_2, x2_3, x2_4, x2_5, x2_6, x2_7, x2_8⟩ := c9q c2
  have c3 := B3.out.wr0 KK3
  obtain ⟨x3_0, x3_1, x3_2, x3_3, x3_4⟩ := c5q c3
  have c4 := B4.out.wr0 KK4
  obtain ⟨x4_0, x4_1, x4_2, x4_3, x4_4⟩ := c5q c4
  have c5 := B5.out.wr0 KK5
  obtain ⟨x5_0, x5_1, x5_2, x5_3⟩ := c4q c5
  have c6 := B6.out.wr0 KK6
  obtain ⟨x6_0, x6_1, x6_2, x6_3⟩ := c4q c6
  have qo : eqB od od = true := by simp [eqB]
  have qm : eqB um um = true := by simp [eqB]
  have qf : eqB (facePl sf) (facePl sf) = true := by simp [eqB]
  have ho1 := L1.out.wr0 KK1
  have ho2 := L2.out.wr0 KK2
  have hm1 := L3.out.wr0 KK3
  have hm2 := L4.out.wr0 KK4
  have hf1 := L5.out.wr0 KK5
  have hf2 := L6.out.wr0 KK6
  have s1 := fun W (hW : Wr [] w6 W) => rsame_any od od _ _ _ _ _ _ _ _ _ _ W (ho1.wr0 hW) (ho2.wr0 hW)
  have s2 := fun W (hW : Wr [] w6 W) => rsamemod_any um um _ _ _ _ _ _ _ _ W (hm1.wr0 hW) (hm2.wr0 hW)
  have s3 := fun W (hW : Wr [] w6 W) => plain_face sf _ _ _ _ W (hf1.wr0 hW) HW.out.1 HW.out.2
  have s4 := fun W (hW : Wr [] w6 W) vi (fl : FacePL W (fun _ => True) (.slice Au5 sf.uses.length cu5) (.slice At5 sf.types.length ct5) vi (facePl sf)) => refSame_any (facePl sf) (facePl sf) _ _ _ _ _ _ _ _ W fl (hf2.wr0 hW)
  rw [qo] at s1
  rw [qm] at s2
  rw [qf] at s4
  unfold SameE at s1 s2
  unfold BoolE at s4
  unfold ObjD.val ObjD.cells at s1
  unfold ModD.val ModD.cells at s2
  unfold PlainR FaceP.val at s3
  have G1 := qh s1
  have G2 := qh s2
  have G3 := qh s3
  have G4 := qh s4
  have e1 := str_eq (ansS ur)
  clear s1 s2 s3 s4 qo qm qf ho1 ho2 hm1 hm2 hf1 hf2 c1 c2 c3 c4 c5 c6 KK1 KK2 KK3 KK4 KK5 KK6 HW
  refine beginA [] [(g1, 0, .string od.module), (g1, 1, .bool od.main), (g1, 2, .int .u64 od.key), (g1, 3, .slice Au1 od.uses.length cu1), (g1, 4, .string od.mod.code), (g1, 5, .slice Ap1 od.mod.procs.length cp1), (g1, 6, .slice Ai1 od.mod.imports.length ci1), (g1, 7, .int .i64 od.mod.data), (g1, 8, .slice An1 od.mod.init.length cn1), (g2, 0, .string od.module), (g2, 1, .bool od.main), (g2, 2, .int .u64 od.key), (g2, 3, .slice Au2 od.uses.length cu2), (g2, 4, .string od.mod.code), (g2, 5, .slice Ap2 od.mod.procs.length cp2), (g2, 6, .slice Ai2 od.mod.imports.length ci2), (g2, 7, .int .i64 od.mod.data), (g2, 8, .slice An2 od.mod.init.length cn2), (g3, 0, .string um.code), (g3, 1, .slice Ap3 um.procs.length cp3), (g3, 2, .slice Ai3 um.imports.length ci3), (g3, 3, .int .i64 um.data), (g3, 4, .slice An3 um.init.length cn3), (g4, 0, .string um.code), (g4, 1, .slice Ap4 um.procs.length cp4), (g4, 2, .slice Ai4 um.imports.length ci4), (g4, 3, .int .i64 um.data), (g4, 4, .slice An4 um.init.length cn4), (g5, 0, .string sf.module), (g5, 1, .slice Au5 sf.uses.length cu5), (g5, 2, .slice At5 sf.types.length ct5), (g5, 3, .slice Ai5 sf.items.length ci5), (g6, 0, .string sf.module), (g6, 1, .slice Au6 (facePl sf).uses.length cu6), (g6, 2, .slice At6 (facePl sf).types.length ct6), (g6, 3, .slice Ai6 (facePl sf).items.length ci6)] (by kernel_rfl) (by simp only [Cs]; exact ⟨x1_0, x1_1, x1_2, x1_3, x1_4, x1_5, x1_6, x1_7, x1_8, x2_0, x2_1, x2_2, x2_3, x2_4, x2_5, x2_6, x2_7, x2_8, x3_0, x3_1, x3_2, x3_3, x3_4, x4_0, x4_1, x4_2, x4_3, x4_4, x5_0, x5_1, x5_2, x5_3, x6_0, x6_1, x6_2, x6_3, trivial⟩) (by simp) fun HC => ?_
  refine mvB 0 (by rfl) (by kernel_rfl) (by rfl) (fun w' hS => by simp only [Cs] at hS; go_split_ands; go_simp; try rfl) ?_
  try simp only [Act.put, qsaq, qszq, qssq]
  refine mvB 1 (by rfl) (by kernel_rfl) (by rfl) (fun w' hS => by simp only [Cs] at hS; go_split_ands; go_simp; try rfl) ?_
  try simp only [Act.put, qsaq, qszq, qssq]
  refine stL 2 (by rfl) (by kernel_rfl) fun K hK => ?_
  go_simp
  refine (G1.out _ ((Wr.refl [] w6).drew)).mono ?_
  rintro e z1 ⟨rfl, kk1⟩
  refine hK _ _ (HC.out _ (((Wr.refl [] w6).drew).trans kk1)) ?_
  clear hK K
  try simp only [Act.put, qsaq, qszq, qssq]
  refine mvB 3 (by rfl) (by kernel_rfl) (by rfl) (fun w' hS => by simp only [Cs] at hS; go_split_ands; go_simp; try rfl) ?_
  try simp only [Act.put, qsaq, qszq, qssq]
  refine mvB 4 (by rfl) (by kernel_rfl) (by rfl) (fun w' hS => by simp only [Cs] at hS; go_split_ands; go_simp; try rfl) ?_
  try simp only [Act.put, qsaq, qszq, qssq]
  refine mvB 5 (by rfl) (by kernel_rfl) (by rfl) (fun w' hS => by simp only [Cs] at hS; go_split_ands; go_simp; try rfl) ?_
  try simp only [Act.put, qsaq, qszq, qssq]
  refine mvB 6 (by rfl) (by kernel_rfl) (by rfl) (fun w' hS => by simp only [Cs] at hS; go_split_ands; go_simp; try rfl) ?_
  try simp only [Act.put, qsaq, qszq, qssq]
  refine mvB 7 (by rfl) (by kernel_rfl) (by rfl) (fun w' hS => by simp only [Cs] at hS; go_split_ands; go_simp; try rfl) ?_
  try simp only [Act.put, qsaq, qszq, qssq]
  refine mvB 8 (by rfl) (by kernel_rfl) (by rfl) (fun w' hS => by simp only [Cs] at hS; go_split_ands; go_simp; try rfl) ?_
  try simp only [Act.put, qsaq, qszq, qssq]
  refine mvB 9 (by rfl) (by kernel_rfl) (by rfl) (fun w' hS => by simp only [Cs] at hS; go_split_ands; go_simp; try rfl) ?_
  try simp only [Act.put, qsaq, qszq, qssq]
  refine mvB 10 (by rfl) (by kernel_rfl) (by rfl) (fun w' hS => by simp only [Cs] at hS; go_split_ands; go_simp; try rfl) ?_
  try simp only [Act.put, qsaq, qszq, qssq]
  refine stL 11 (by rfl) (by kernel_rfl) fun K hK => ?_
  go_simp
  refine (G2.out _ (((Wr.refl [] w6).drew).trans kk1)).mono ?_
  rintro e z2 ⟨rfl, kk2⟩
  refine hK _ _ (HC.out _ ((((Wr.refl [] w6).drew).trans kk1).trans kk2)) ?_
  clear hK K
  try simp only [Act.put, qsaq, qszq, qssq]
  refine mvB 12 (by rfl) (by kernel_rfl) (by rfl) (fun w' hS => by simp only [Cs] at hS; go_split_ands; go_simp; try rfl) ?_
  try simp only [Act.put, qsaq, qszq, qssq]
  refine mvB 13 (by rfl) (by kernel_rfl) (by rfl) (fun w' hS => by simp only [Cs] at hS; go_split_ands; go_simp; try rfl) ?_
  try simp only [Act.put, qsaq, qszq, qssq]
  refine mvB 14 (by rfl) (by kernel_rfl) (by rfl) (fun w' hS => by simp only [Cs] at hS; go_split_ands; go_simp; try rfl) ?_
  try simp only [Act.put, qsaq, qszq, qssq]
  refine mvB 15 (by rfl) (by kernel_rfl) (by rfl) (fun w' hS => by simp only [Cs] at hS; go_split_ands; go_simp; try rfl) ?_
  try simp only [Act.put, qsaq, qszq, qssq]
  refine mvB 16 (by rfl) (by kernel_rfl) (by rfl) (fun w' hS => by simp only [Cs] at hS; go_split_ands; go_simp; try rfl) ?_
  try simp only [Act.put, qsaq, qszq, qssq]
  refine mvB 17 (by rfl) (by kernel_rfl) (by rfl) (fun w' hS => by simp only [Cs] at hS; go_split_ands; go_simp; try rfl) ?_
  try simp only [Act.put, qsaq, qszq, qssq]
  refine mvB 18 (by rfl) (by kernel_rfl) (by rfl) (fun w' hS => by simp only [Cs] at hS; go_split_ands; go_simp; try rfl) ?_
  try simp only [Act.put, qsaq, qszq, qssq]
  refine mvB 19 (by rfl) (by kernel_rfl) (by rfl) (fun w' hS => by simp only [Cs] at hS; go_split_ands; go_simp; try rfl) ?_
  try simp only [Act.put, qsaq, qszq, qssq]
  refine mvB 20 (by rfl) (by kernel_rfl) (by rfl) (fun w' hS => by simp only [Cs] at hS; go_split_ands; go_simp; try rfl) ?_
  try simp only [Act.put, qsaq, qszq, qssq]
  refine mvB 21 (by rfl) (by kernel_rfl) (by rfl) (fun w' hS => by simp only [Cs] at hS; go_split_ands; go_simp; try rfl) ?_
  try simp only [Act.put, qsaq, qszq, qssq]
  refine mvB 22 (by rfl) (by kernel_rfl) (by rfl) (fun w' hS => by simp only [Cs] at hS; go_split_ands; go_simp; try rfl) ?_
  try simp only [Act.put, qsaq, qszq, qssq]
  refine mvB 23 (by rfl) (by kernel_rfl) (by rfl) (fun w' hS => by simp only [Cs] at hS; go_split_ands; go_simp; try rfl) ?_
  try simp only [Act.put, qsaq, qszq, qssq]
  refine mvB 24 (by rfl) (by kernel_rfl) (by rfl) (fun w' hS => by simp only [Cs] at hS; go_split_ands; go_simp; try rfl) ?_
  try simp only [Act.put, qsaq, qszq, qssq]
  refine mvB 26 (by rfl) (by kernel_rfl) (by rfl) (fun w' hS => by simp only [Cs] at hS; go_split_ands; go_simp; try rfl) ?_
  try simp only [Act.put, qsaq, qszq, qssq]
  refine stL 25 (by rfl) (by kernel_rfl) fun K hK => ?_
  go_simp
  refine (G3.out _ ((((Wr.refl [] w6).drew).trans kk1).trans kk2)).mono ?_
  rintro e z3 ⟨vpi, rfl, kk3, fl3⟩
  obtain ⟨_, _, ⟨Avp, cvp, rfl, _, _⟩⟩ := fl3.forms
  have FL3 := qh fl3
  clear fl3
  refine hK _ _ (HC.out _ (((((Wr.refl [] w6).drew).trans kk1).trans kk2).trans kk3)) ?_
  clear hK K
  try simp only [Act.put, qsaq, qszq, qssq]
  refine stL 27 (by rfl) (by kernel_rfl) fun K hK => ?_
  go_simp
  refine (G4.out _ (((((Wr.refl [] w6).drew).trans kk1).trans kk2).trans kk3) _ FL3.out).mono ?_
  rintro e z4 ⟨rfl, kk4⟩
  refine hK _ _ (HC.out _ ((((((Wr.refl [] w6).drew).trans kk1).trans kk2).trans kk3).trans kk4)) ?_
  clear hK K
  try simp only [Act.put, qsaq, qszq, qssq]
  refine mvB 28 (by rfl) (by kernel_rfl) (by rfl) (fun w' hS => by simp only [Cs] at hS; go_split_ands; go_simp; try rfl) ?_
  try simp only [Act.put, qsaq, qszq, qssq]
  refine mvB 29 (by rfl) (by kernel_rfl) (by rfl) (fun w' hS => by simp only [Cs] at hS; go_split_ands; go_simp; try rfl) ?_
  try simp only [Act.put, qsaq, qszq, qssq]
  refine mvB 30 (by rfl) (by kernel_rfl) (by rfl) (fun w' hS => by simp only [Cs] at hS; go_split_ands; go_simp; try rfl) ?_
  try simp only [Act.put, qsaq, qszq, qssq]
  refine mvB 31 (by rfl) (by kernel_rfl) (by rfl) (fun w' hS => by simp only [Cs] at hS; go_split_ands; go_simp; try rfl) ?_
  try simp only [Act.put, qsaq, qszq, qssq]
  refine mvB 32 (by rfl) (by kernel_rfl) (by rfl) (fun w' hS => by simp only [Cs] at hS; go_split_ands; go_simp; try rfl) ?_
  try simp only [Act.put, qsaq, qszq, qssq]
  refine mvB 33 (by rfl) (by kernel_rfl) (by rfl) (fun w' hS => by simp only [Cs] at hS; go_split_ands; go_simp; try rfl) ?_
  try simp only [Act.put, qsaq, qszq, qssq]
  refine mvB 34 (by rfl) (by kernel_rfl) (by rfl) (fun w' hS => by simp only [Cs] at hS; go_split_ands; go_simp; try rfl) ?_
  try simp only [Act.put, qsaq, qszq, qssq]
  refine mvB 35 (by rfl) (by kernel_rfl) (by rfl) (fun w' hS => by simp only [Cs] at hS; go_split_ands; go_simp; try rfl) ?_
  try simp only [Act.put, qsaq, qszq, qssq]
  refine mvB 36 (by rfl) (by kernel_rfl) (by rfl) (fun w' hS => by simp only [Cs] at hS; go_split_ands; go_simp; try rfl) ?_
  try simp only [Act.put, qsaq, qszq, qssq]
  refine mvB 37 (by rfl) (by kernel_rfl) (by rfl) (fun w' hS => by simp only [Cs] at hS; go_split_ands; go_simp; try rfl) ?_
  try simp only [Act.put, qsaq, qszq, qssq]
  refine mvB 38 (by rfl) (by kernel_rfl) (by rfl) (fun w' hS => by simp only [Cs] at hS; go_split_ands; go_simp; try rfl) ?_
  try simp only [Act.put, qsaq, qszq, qssq]
  refine mvB 39 (by rfl) (by kernel_rfl) (by rfl) (fun w' hS => by simp only [Cs] at hS; go_split_ands; go_simp; try rfl) ?_
  try simp only [Act.put, qsaq, qszq, qssq]
  refine stL 40 (by rfl) (by kernel_rfl) fun K hK => ?_
  go_simp
  refine (HAL.out _).mono ?_
  rintro e z5 ⟨rfl, kk5⟩
  refine hK _ _ (HC.out _ (((((((Wr.refl [] w6).drew).trans kk1).trans kk2).trans kk3).trans kk4).trans kk5)) ?_
  clear hK K
  try simp only [Act.put, qsaq, qszq, qssq]
  refine mvB 41 (by rfl) (by kernel_rfl) (by rfl) (fun w' hS => by simp only [Cs] at hS; go_split_ands; go_simp; try rfl) ?_
  try simp only [Act.put, qsaq, qszq, qssq]
  refine mvB 42 (by rfl) (by kernel_rfl) (by rfl) (fun w' hS => by simp only [Cs] at hS; go_split_ands; go_simp; try rfl) ?_
  try simp only [Act.put, qsaq, qszq, qssq]
  refine endL (by kernel_rfl) ?_
  try simp only [Act.put, qsaq, qszq, qssq]
  go_wp2_with fail
  go_ret
  exact ⟨rfl, ((((((KX.out.trans K1.out).trans K2.out).trans K3.out).trans K4.out).trans K5.out).trans K6.out).trans (((((((Wr.refl [] w6).drew).trans kk1).trans kk2).trans kk3).trans kk4).trans kk5)⟩
theorem objReads_walk (w : World) (s : ByteArray) (hs : s.size ≤ maxLen) (rt : Bool) :
  Calls Tryz.prog 4 #[.string s, .bool rt] w fun e w' => e = .returned (.bool true) ∧ Wr [] w w' := objReads_any s rt w
end Go.Proofs.YtildcdgobdfieaaGreat
