/- law 21's plain, alive: walked; alive answers true. No conditions. -/
import Derived.Test.YtildcdgobdfieaaGreatOT01
import Derived.Test.YtildcdgobdfieaaGreatOT08
import Derived.Test.YtildcdgobdfieaaGreatOT09
import Derived.Test.YtildcdgobdfieaaGreatOT31
import Derived.Deep.RegionHeld3
set_option linter.unusedVariables false
set_option linter.unusedSimpArgs false
set_option maxRecDepth 100000
set_option maxHeartbeats 32000000
namespace Go.Proofs.YtildcdgobdfieaaGreat
open Go.RowKit
def plainPr : PrcD := ⟨0, 0, 0, 0, 1, false⟩
def plainO : ObjD := ⟨⟨#[77]⟩, false, 7, [], ⟨⟨#[]⟩, [plainPr], [], 0, []⟩⟩
def badO : ObjD := ⟨⟨#[77]⟩, false, 7, [⟨⟨#[77]⟩, 0⟩], ⟨⟨#[]⟩, [plainPr], [], 0, []⟩⟩
theorem plain_procs {w : World} {g : Nat} (h : Blk w g 98 #[.int .i64 0, .int .i64 0, .int .i64 0, .int .i64 0, .int .i64 1, .bool false]) : SlPrcs w (fun _ => True) (.slice (some ⟨g, 0, none⟩) 1 1) [plainPr] :=
 ⟨_, _, rfl, Nat.le_refl _, by unfold maxLen; decide, rfl, fun j u hj => ⟨g, 0, rfl, trivial, by rw [h.cell, Nat.zero_add]; simpa [PrcD.cells, plainPr] using hj⟩⟩
theorem plain_objL {w : World} {g : Nat} (h : Blk w g 98 #[.int .i64 0, .int .i64 0, .int .i64 0, .int .i64 0, .int .i64 1, .bool false]) : ObjL w (fun _ => True) (.slice none 0 0) (.slice (some ⟨g, 0, none⟩) 1 1) (.slice none 0 0) (.slice none 0 0) plainO :=
 ⟨Sl.nil _ _ 2, plain_procs h, Sl.nil _ _ 1, Sl.nil _ _ 1⟩
theorem bad_objL {w : World} {g q : Nat} (h : Blk w g 98 #[.int .i64 0, .int .i64 0, .int .i64 0, .int .i64 0, .int .i64 1, .bool false]) (k : Blk w q 72 #[.string ⟨#[77]⟩, .int .u64 0]) : ObjL w (fun _ => True) (.slice (some ⟨q, 0, none⟩) 1 1) (.slice (some ⟨g, 0, none⟩) 1 1) (.slice none 0 0) (.slice none 0 0) badO :=
 ⟨⟨_, _, rfl, Nat.le_refl _, by unfold maxLen; decide, rfl, fun j u hj => ⟨q, 0, rfl, trivial, by rw [k.cell, Nat.zero_add]; simpa [UseD.cells, badO] using hj⟩⟩, plain_procs h, Sl.nil _ _ 1, Sl.nil _ _ 1⟩
def PlainE (w : World) (e : Ending) (w' : World) : Prop := ∃ g, e = .returned (.agg #[.string ⟨#[77]⟩, .bool false, .int .u64 7, .slice none 0 0, .string ⟨#[]⟩, .slice (some ⟨g, 0, none⟩) 1 1, .slice none 0 0, .int .i64 0, .slice none 0 0]) ∧ Wr [] w w' ∧ w.heap.size ≤ g ∧ Blk w' g 98 #[.int .i64 0, .int .i64 0, .int .i64 0, .int .i64 0, .int .i64 1, .bool false]
theorem plain_e (w : World) : Calls Tryz.prog 28 #[] w (PlainE w) := by
 have zn := Blk.new w 30 #[.string ⟨#[]⟩, .bool false, .int .u64 0, .slice none 0 0, .string ⟨#[]⟩, .slice none 0 0, .slice none 0 0, .int .i64 0, .slice none 0 0]
 have rn := (Wr.refl [] w).alloc (.cells #[.string ⟨#[]⟩, .bool false, .int .u64 0, .slice none 0 0, .string ⟨#[]⟩, .slice none 0 0, .slice none 0 0, .int .i64 0, .slice none 0 0] 30)
 obtain ⟨wn, hwn⟩ : ∃ q, w.alloc (.cells #[.string ⟨#[]⟩, .bool false, .int .u64 0, .slice none 0 0, .string ⟨#[]⟩, .slice none 0 0, .slice none 0 0, .int .i64 0, .slice none 0 0] 30) = q := ⟨_, rfl⟩
 obtain ⟨z, hz⟩ : ∃ q, w.heap.size = q := ⟨_, rfl⟩
 rw [hwn] at zn rn
 rw [hz] at zn
 have pn := Blk.new wn 98 #[.int .i64 0, .int .i64 0, .int .i64 0, .int .i64 0, .int .i64 1, .bool false]
 have kp := (Wr.refl [] wn).alloc (.cells #[.int .i64 0, .int .i64 0, .int .i64 0, .int .i64 0, .int .i64 1, .bool false] 98)
 have zp := zn.wr0 kp
 have y0 := (zp).cell 0
 have y1 := (zp).cell 1
 have y2 := (zp).cell 2
 have y3 := (zp).cell 3
 have y4 := (zp).cell 4
 have y5 := (zp).cell 5
 have y6 := (zp).cell 6
 have y7 := (zp).cell 7
 have y8 := (zp).cell 8
 simp only [qgaq, qgzq, qgsq] at y0 y1 y2 y3 y4 y5 y6 y7 y8
 have f0 := (zp).frozen 0
 have f1 := (zp).frozen 1
 have f2 := (zp).frozen 2
 have f3 := (zp).frozen 3
 have f4 := (zp).frozen 4
 have f5 := (zp).frozen 5
 have f6 := (zp).frozen 6
 have f7 := (zp).frozen 7
 have f8 := (zp).frozen 8
 have rp := rn.trans kp
 obtain ⟨wp, hwp⟩ : ∃ q, wn.alloc (.cells #[.int .i64 0, .int .i64 0, .int .i64 0, .int .i64 0, .int .i64 1, .bool false] 98) = q := ⟨_, rfl⟩
 obtain ⟨g, hg⟩ : ∃ q, wn.heap.size = q := ⟨_, rfl⟩
 have hzg : z < g := by rw [← hg]; exact zn.lt
 rw [hwp] at pn kp zp rp
 rw [hg] at pn
 have hwz : w.heap.size ≤ z := by omega
 have HWN := qh hwn
 have HZ := qh hz
 have HWP := qh hwp
 have HG := qh hg
 have ZP := qh zp
 have PN := qh pn
 have RP := qh rp
 clear hwn hz hwp hg zn rn pn kp zp rp
 go_enter Tryz.func28, Tryz.ntmps28
 go_upto_region 1 with (fail)
 rw [HZ.out, HWN.out]
 go_wp2_with fail
 rw [HG.out, HWP.out]
 go_wp2_with fail
 refine bodyPost_ret (v := .agg #[.string ⟨#[77]⟩, .bool false, .int .u64 7, .slice none 0 0, .string ⟨#[]⟩, .slice (some ⟨g, 0, none⟩) 1 1, .slice none 0 0, .int .i64 0, .slice none 0 0]) ?_ rfl ?_
 ·have h9 := blk_set9 ZP.out (.string ⟨#[77]⟩) (.bool false) (.int .u64 7) (.slice none 0 0) (.string ⟨#[]⟩) (.slice (some ⟨g, 0, none⟩) 1 1) (.slice none 0 0) (.int .i64 0) (.slice none 0 0)
  have t0 := (h9).cell 0
  have t1 := (h9).cell 1
  have t2 := (h9).cell 2
  have t3 := (h9).cell 3
  have t4 := (h9).cell 4
  have t5 := (h9).cell 5
  have t6 := (h9).cell 6
  have t7 := (h9).cell 7
  have t8 := (h9).cell 8
  simp only [qgaq, qgzq, qgsq] at t0 t1 t2 t3 t4 t5 t6 t7 t8
  simp [results, Tryz.results28, go_sem, t0, t1, t2, t3, t4, t5, t6, t7, t8]
 ·have k9 := wr_set9 wp z (.string ⟨#[77]⟩) (.bool false) (.int .u64 7) (.slice none 0 0) (.string ⟨#[]⟩) (.slice (some ⟨g, 0, none⟩) 1 1) (.slice none 0 0) (.int .i64 0) (.slice none 0 0)
  exact ⟨g, rfl, wr_own2 (RP.out.nil (l := [z])) k9 hwz hwz, by omega, PN.out.wr k9 (by rw [List.mem_singleton]; omega)⟩
def plS : List UInt8 := fileL objKind (bodyL plainO)
theorem plain_b : objB plainO = true := by decide +kernel
theorem bad_b : objB badO = false := by decide +kernel
theorem plain_w : objW plainO := ⟨by decide, by simp [plainO], by intro i hi; simp [plainO] at hi⟩
theorem plain_enc : encodeP plainO = (plS, 0) := by unfold encodeP; rw [plain_b]; rfl
theorem plain_dec : decodeP plS = (plainO, 0) := decode_encode plainO plain_w plain_b
theorem pl_len : plS.length = 43 := by decide +kernel
theorem pl_drop : plS.drop 12 = [1, 77, 0, 0, 0, 0, 0, 0, 0, 0, 7, 0, 0, 0, 0, 1, 0, 0, 0, 0, 0, 0, 0, 0, 1, 0, 0, 0, 0, 0, 0] := by decide +kernel
theorem pl_take : plS.take 4 = [83, 69, 80, 79] := by decide +kernel
theorem pl_short : (decodeP [83, 69, 80, 79]).2 = 7 := by decide +kernel
theorem pl_more : (decodeP (plS ++ [120])).2 = 210 := by decide +kernel
theorem un_nil : (unpackP []).2.2 = 7 := by decide +kernel
theorem read_sym {f : FaceD} (hW : faceW f) (hm : mayP f = 0) : readSymP (symP f).1 = (canonF f, (symP f).2.1, 0) := by
 have e : symP f = (fileL symKind (faceL (canonF f)), keyL (faceL (canonF f)), 0) := by unfold symP; rw [if_pos hm]
 rw [e]
 unfold readSymP
 simp only
 rw [head_file symKind _ rfl]
 simp only
 rw [dec_enc (canonF f) (faceW_canon hW hm) (canon_may hm)]
 simp
theorem symP_len : (symP bareM).1.length ≤ 50000000000012 := by decide +kernel
theorem plain_may (w : World) (g : Nat) (h : Blk w g 98 #[.int .i64 0, .int .i64 0, .int .i64 0, .int .i64 0, .int .i64 1, .bool false]) : Calls Tryz.prog 14 #[.agg #[.string ⟨#[77]⟩, .bool false, .int .u64 7, .slice none 0 0, .string ⟨#[]⟩, .slice (some ⟨g, 0, none⟩) 1 1, .slice none 0 0, .int .i64 0, .slice none 0 0]] w fun e w' => e = .returned (.bool true) ∧ Wr [] w w' := by
 have := omay_any plainO _ _ _ _ _ w (plain_objL h)
 rw [plain_b] at this
 exact this
theorem bad_may (w : World) (g q : Nat) (h : Blk w g 98 #[.int .i64 0, .int .i64 0, .int .i64 0, .int .i64 0, .int .i64 1, .bool false]) (k : Blk w q 72 #[.string ⟨#[77]⟩, .int .u64 0]) : Calls Tryz.prog 14 #[.agg #[.string ⟨#[77]⟩, .bool false, .int .u64 7, .slice (some ⟨q, 0, none⟩) 1 1, .string ⟨#[]⟩, .slice (some ⟨g, 0, none⟩) 1 1, .slice none 0 0, .int .i64 0, .slice none 0 0]] w fun e w' => e = .returned (.bool false) ∧ Wr [] w w' := by
 have := omay_any badO _ _ _ _ _ w (bad_objL h k)
 rw [bad_b] at this
 exact this
theorem plain_same (w : World) (g : Nat) (vu vp vi vn : Value) (P : Nat → Prop) (hx : ObjL w P vu vp vi vn plainO) (h : Blk w g 98 #[.int .i64 0, .int .i64 0, .int .i64 0, .int .i64 0, .int .i64 1, .bool false]) :
  Calls Tryz.prog 16 #[.agg #[.string ⟨#[77]⟩, .bool false, .int .u64 7, vu, .string ⟨#[]⟩, vp, vi, .int .i64 0, vn], .agg #[.string ⟨#[77]⟩, .bool false, .int .u64 7, .slice none 0 0, .string ⟨#[]⟩, .slice (some ⟨g, 0, none⟩) 1 1, .slice none 0 0, .int .i64 0, .slice none 0 0]] w fun e w' => e = .returned (.bool true) ∧ Wr [] w w' := by
 have := osame_any plainO plainO _ _ _ _ _ _ _ _ _ _ w hx (plain_objL h)
 rw [eqB_true rfl] at this
 exact this
theorem alive21 (w : World) : Calls Tryz.prog 9 #[] w fun e w' => e = .returned (.bool true) ∧ Wr [] w w' := by
 have hplm : (43 : Nat) ≤ maxLen := by unfold maxLen; decide
 have cE := fun w g (h : Blk w g 98 #[.int .i64 0, .int .i64 0, .int .i64 0, .int .i64 0, .int .i64 1, .bool false]) => oenc_any plainO _ _ _ _ _ plain_w w (plain_objL h)
 unfold OEncR at cE
 rw [plain_enc] at cE
 have cD := fun w => odec_any plS (by rw [pl_len]; exact hplm) w
 unfold ODecR at cD
 rw [plain_dec] at cD
 have cS := fun w => odec_any [83, 69, 80, 79] (by unfold maxLen; decide) w
 unfold ODecR at cS
 rw [pl_short] at cS
 have cX := fun w => odec_any (plS ++ [120]) (by rw [List.length_append, pl_len]; unfold maxLen; decide) w
 unfold ODecR at cX
 rw [pl_more] at cX
 have cU := fun w => unpack_any [] w
 unfold UnpR at cU
 rw [un_nil] at cU
 have cY := fun w => symbols_bare w
 unfold SymR at cY
 have cR := fun w => rsym_any (symP bareM).1 (by have := symP_len; unfold maxLen; omega) w
 unfold RSymR at cR
 rw [read_sym bare_w bare_may] at cR
 have hs3 : (symP bareM).2.2 = 0 := by unfold symP; rw [if_pos bare_may]
 have hcm : (canonF bareM).module = ⟨#[77]⟩ := rfl
 rw [hs3] at cY
 obtain ⟨S, hS⟩ : ∃ q, ansS plS = q := ⟨_, rfl⟩
 have hS2 : (⟨plS.toArray⟩ : ByteArray) = S := hS
 have hSz : S.size = 43 := by rw [← hS, ansS_size, pl_len]
 have hS12 : S.extract 12 43 = ansS [1, 77, 0, 0, 0, 0, 0, 0, 0, 0, 7, 0, 0, 0, 0, 1, 0, 0, 0, 0, 0, 0, 0, 0, 1, 0, 0, 0, 0, 0, 0] := by
  have := ansS_drop plS 12
  rw [hS, hSz, pl_drop] at this
  exact this
 have hS4 : S.extract 0 4 = ansS [83, 69, 80, 79] := by
  have := ansS_take plS 4
  rw [hS, pl_take] at this
  exact this
 have hSX : S ++ ⟨#[120]⟩ = ansS (plS ++ [120]) := by
  rw [← hS]
  apply ByteArray.ext
  rw [ByteArray.data_append]
  simp [ansS]
 rw [hS] at cD
 simp only [hS2] at cE
 obtain ⟨T, hT⟩ : ∃ q, ansS (symP bareM).1 = q := ⟨_, rfl⟩
 rw [hT] at cY cR
 obtain ⟨K, hK⟩ : ∃ q, (symP bareM).2.1 = q := ⟨_, rfl⟩
 rw [hK] at cY cR
 obtain ⟨SX, hSXX⟩ : ∃ q, ansS (plS ++ [120]) = q := ⟨_, rfl⟩
 rw [hSXX] at cX hSX
 generalize (decodeP (plS ++ [120])).1 = ox at cX
 generalize (decodeP [83, 69, 80, 79]).1 = os at cS
 generalize (unpackP []).1 = um at cU
 generalize (unpackP []).2.1 = ur at cU
 generalize hcf : canonF bareM = cf at cR hcm
 obtain ⟨cm, cu, ct, ci⟩ := cf
 simp only at hcm
 subst hcm
 have e12 : (S.extract 12 43).toList = [1, 77, 0, 0, 0, 0, 0, 0, 0, 0, 7, 0, 0, 0, 0, 1, 0, 0, 0, 0, 0, 0, 0, 0, 1, 0, 0, 0, 0, 0, 0] := by rw [hS12, ansS_list]
 have e4 : (S.extract 0 4).toList = [83, 69, 80, 79] := by rw [hS4, ansS_list]
 have CE := qh cE
 have CD := qh cD
 have CS := qh cS
 have CX := qh cX
 have CU := qh cU
 have CY := qh cY
 have CR := qh cR
 clear cE cD cS cX cU cY cR hs3 hS hS2 hS12 hS4 hT hK hSXX hcf hplm
 go_enter Tryz.func9, Tryz.ntmps9
 go_wp2_with fail
 refine (plain_e _).mono ?_
 rintro e w1 ⟨g1, rfl, k1, _, b1⟩
 go_wp2_with fail
 refine (CE.out _ _ b1).mono ?_
 rintro e w2 ⟨rfl, k2⟩
 have R2 := qh (k1.trans k2)
 clear b1 k1 k2
 go_wp2_with fail
 refine (CD.out _).mono ?_
 rintro e w3 ⟨vu, vp, vi, vn, rfl, k3, ol⟩
 obtain ⟨Adu, ndu, cdu, rfl⟩ : ∃ A n c, vu = .slice A n c := by obtain ⟨A, c, e, _, _⟩ := Sl.form ol.uses; exact ⟨_, _, _, e⟩
 obtain ⟨Adp, ndp, cdp, rfl⟩ : ∃ A n c, vp = .slice A n c := by obtain ⟨A, c, e, _, _⟩ := Sl.form ol.mod.procs; exact ⟨_, _, _, e⟩
 obtain ⟨Adi, ndi, cdi, rfl⟩ : ∃ A n c, vi = .slice A n c := by obtain ⟨A, c, e, _, _⟩ := Sl.form ol.mod.imports; exact ⟨_, _, _, e⟩
 obtain ⟨Adn, ndn, cdn, rfl⟩ : ∃ A n c, vn = .slice A n c := by obtain ⟨A, c, e, _, _⟩ := Sl.form ol.mod.init; exact ⟨_, _, _, e⟩
 simp only [ObjD.val, ObjD.cells, plainO]
 have kq := (Wr.refl [] w3).alloc (.cells #[.string ⟨#[77]⟩, .bool false, .int .u64 7, .slice Adu ndu cdu, .string ⟨#[]⟩, .slice Adp ndp cdp, .slice Adi ndi cdi, .int .i64 0, .slice Adn ndn cdn] 30)
 have bq := Blk.new w3 30 #[.string ⟨#[77]⟩, .bool false, .int .u64 7, .slice Adu ndu cdu, .string ⟨#[]⟩, .slice Adp ndp cdp, .slice Adi ndi cdi, .int .i64 0, .slice Adn ndn cdn]
 have oq := ol.wr0 kq
 have rq := (R2.out.trans k3).trans kq
 go_upto_region 3 with (fail)
 generalize w3.alloc (.cells #[.string ⟨#[77]⟩, .bool false, .int .u64 7, .slice Adu ndu cdu, .string ⟨#[]⟩, .slice Adp ndp cdp, .slice Adi ndi cdi, .int .i64 0, .slice Adn ndn cdn] 30) = w4 at *
 generalize w3.heap.size = g3 at *
 have Bd := qh bq
 have Od := qh oq
 clear bq oq
 have R4 := qh rq
 clear rq kq k3 ol
 go_wp2_with fail
 refine (CY.out _).mono ?_
 rintro e w5 ⟨rfl, k5⟩
 have R5 := qh (R4.out.trans k5)
 have Bdn := Bd.out.wr0 k5
 have Bd := qh Bdn
 have Odn := Od.out.wr0 k5
 have Od := qh Odn
 clear k5 Bdn Odn
 go_wp2_with fail
 refine (CR.out _).mono ?_
 rintro e w6 ⟨vu, vt, vi, rfl, k6, fl⟩
 obtain ⟨⟨Af, nf, rfl, _, _⟩, ⟨Ag, ng, rfl, _, _⟩, ⟨Ah, nh, rfl, _, _⟩⟩ := fl.forms
 simp only [FaceD.val]
 have kq := (Wr.refl [] w6).alloc (.cells #[.string ⟨#[77]⟩, .slice Af cu.length nf, .slice Ag ct.length ng, .slice Ah ci.length nh] 55)
 have bq := Blk.new w6 55 #[.string ⟨#[77]⟩, .slice Af cu.length nf, .slice Ag ct.length ng, .slice Ah ci.length nh]
 have rq := (R5.out.trans k6).trans kq
 have Bdn := (Bd.out.wr0 k6).wr0 kq
 have Bd := qh Bdn
 have Odn := (Od.out.wr0 k6).wr0 kq
 have Od := qh Odn
 go_upto_region 5 with (fail)
 generalize w6.alloc (.cells #[.string ⟨#[77]⟩, .slice Af cu.length nf, .slice Ag ct.length ng, .slice Ah ci.length nh] 55) = w7 at *
 generalize w6.heap.size = g8 at *
 have Bf := qh bq
 have R7 := qh rq
 clear bq kq rq k6 fl Bdn Odn
 go_wp2_with fail
 refine (CS.out _).mono ?_
 rintro e w8 ⟨vu, vp, vi, vn, rfl, k8, ol⟩
 obtain ⟨Asu, nsu, csu, rfl⟩ : ∃ A n c, vu = .slice A n c := by obtain ⟨A, c, e, _, _⟩ := Sl.form ol.uses; exact ⟨_, _, _, e⟩
 obtain ⟨Asp, nsp, csp, rfl⟩ : ∃ A n c, vp = .slice A n c := by obtain ⟨A, c, e, _, _⟩ := Sl.form ol.mod.procs; exact ⟨_, _, _, e⟩
 obtain ⟨Asi, nsi, csi, rfl⟩ : ∃ A n c, vi = .slice A n c := by obtain ⟨A, c, e, _, _⟩ := Sl.form ol.mod.imports; exact ⟨_, _, _, e⟩
 obtain ⟨Asn, nsn, csn, rfl⟩ : ∃ A n c, vn = .slice A n c := by obtain ⟨A, c, e, _, _⟩ := Sl.form ol.mod.init; exact ⟨_, _, _, e⟩
 simp only [ObjD.val, ObjD.cells]
 have kq := (Wr.refl [] w8).alloc (.cells #[.string os.module, .bool os.main, .int .u64 os.key, .slice Asu nsu csu, .string os.mod.code, .slice Asp nsp csp, .slice Asi nsi csi, .int .i64 os.mod.data, .slice Asn nsn csn] 30)
 have rq := (R7.out.trans k8).trans kq
 have Bdn := (Bd.out.wr0 k8).wr0 kq
 have Bd := qh Bdn
 clear Bdn
 have Odn := (Od.out.wr0 k8).wr0 kq
 have Od := qh Odn
 clear Odn
 have Bfn := (Bf.out.wr0 k8).wr0 kq
 have Bf := qh Bfn
 clear Bfn
 go_upto_region 6 with (fail)
 generalize w8.alloc (.cells #[.string os.module, .bool os.main, .int .u64 os.key, .slice Asu nsu csu, .string os.mod.code, .slice Asp nsp csp, .slice Asi nsi csi, .int .i64 os.mod.data, .slice Asn nsn csn] 30) = w9 at *
 have R9 := qh rq
 clear rq kq k8 ol
 go_wp2_with fail
 refine (CX.out _).mono ?_
 rintro e w10 ⟨vu, vp, vi, vn, rfl, k10, ol⟩
 obtain ⟨Axu, nxu, cxu, rfl⟩ : ∃ A n c, vu = .slice A n c := by obtain ⟨A, c, e, _, _⟩ := Sl.form ol.uses; exact ⟨_, _, _, e⟩
 obtain ⟨Axp, nxp, cxp, rfl⟩ : ∃ A n c, vp = .slice A n c := by obtain ⟨A, c, e, _, _⟩ := Sl.form ol.mod.procs; exact ⟨_, _, _, e⟩
 obtain ⟨Axi, nxi, cxi, rfl⟩ : ∃ A n c, vi = .slice A n c := by obtain ⟨A, c, e, _, _⟩ := Sl.form ol.mod.imports; exact ⟨_, _, _, e⟩
 obtain ⟨Axn, nxn, cxn, rfl⟩ : ∃ A n c, vn = .slice A n c := by obtain ⟨A, c, e, _, _⟩ := Sl.form ol.mod.init; exact ⟨_, _, _, e⟩
 simp only [ObjD.val, ObjD.cells]
 have kq := (Wr.refl [] w10).alloc (.cells #[.string ox.module, .bool ox.main, .int .u64 ox.key, .slice Axu nxu cxu, .string ox.mod.code, .slice Axp nxp cxp, .slice Axi nxi cxi, .int .i64 ox.mod.data, .slice Axn nxn cxn] 30)
 have rq := (R9.out.trans k10).trans kq
 have Bdn := (Bd.out.wr0 k10).wr0 kq
 have Bd := qh Bdn
 clear Bdn
 have Odn := (Od.out.wr0 k10).wr0 kq
 have Od := qh Odn
 clear Odn
 have Bfn := (Bf.out.wr0 k10).wr0 kq
 have Bf := qh Bfn
 clear Bfn
 go_upto_region 7 with (fail)
 generalize w10.alloc (.cells #[.string ox.module, .bool ox.main, .int .u64 ox.key, .slice Axu nxu cxu, .string ox.mod.code, .slice Axp nxp cxp, .slice Axi nxi cxi, .int .i64 ox.mod.data, .slice Axn nxn cxn] 30) = w11 at *
 have R11 := qh rq
 clear rq kq k10 ol
 go_wp2_with fail
 refine (CU.out _).mono ?_
 rintro e w12 ⟨vp, vi, vn, rfl, k12, ml⟩
 obtain ⟨Amp, nmp, cmp, rfl⟩ : ∃ A n c, vp = .slice A n c := by obtain ⟨A, c, e, _, _⟩ := Sl.form ml.procs; exact ⟨_, _, _, e⟩
 obtain ⟨Ami, nmi, cmi, rfl⟩ : ∃ A n c, vi = .slice A n c := by obtain ⟨A, c, e, _, _⟩ := Sl.form ml.imports; exact ⟨_, _, _, e⟩
 obtain ⟨Amn, nmn, cmn, rfl⟩ : ∃ A n c, vn = .slice A n c := by obtain ⟨A, c, e, _, _⟩ := Sl.form ml.init; exact ⟨_, _, _, e⟩
 simp only [ModD.val, ModD.cells]
 have kq := (Wr.refl [] w12).alloc (.cells #[.string um.code, .slice Amp nmp cmp, .slice Ami nmi cmi, .int .i64 um.data, .slice Amn nmn cmn] 28)
 have rq := (R11.out.trans k12).trans kq
 have Bdn := (Bd.out.wr0 k12).wr0 kq
 have Bd := qh Bdn
 have Odn := (Od.out.wr0 k12).wr0 kq
 have Od := qh Odn
 have Bfn := (Bf.out.wr0 k12).wr0 kq
 have Bf := qh Bfn
 go_upto_region 8 with (fail)
 generalize w12.alloc (.cells #[.string um.code, .slice Amp nmp cmp, .slice Ami nmi cmi, .int .i64 um.data, .slice Amn nmn cmn] 28) = w13 at *
 have R13 := qh rq
 clear kq rq k12 ml Bdn Odn Bfn
 go_wp2_with fail
 refine (plain_e _).mono ?_
 rintro e w14 ⟨gp, rfl, k14, hgp, bp⟩
 have kq := (Wr.refl [] w14).alloc (.cells #[.string ⟨#[77]⟩, .bool false, .int .u64 7, .slice none 0 0, .string ⟨#[]⟩, .slice (some ⟨gp, 0, none⟩) 1 1, .slice none 0 0, .int .i64 0, .slice none 0 0] 30)
 have bq := Blk.new w14 30 #[.string ⟨#[77]⟩, .bool false, .int .u64 7, .slice none 0 0, .string ⟨#[]⟩, .slice (some ⟨gp, 0, none⟩) 1 1, .slice none 0 0, .int .i64 0, .slice none 0 0]
 have rq := (R13.out.trans k14).trans kq
 have hlt := bp.lt
 have bp2 := bp.wr0 kq
 have hd3 := (Bd.out.wr0 k14).lt
 have Bdn := (Bd.out.wr0 k14).wr0 kq
 have Bd := qh Bdn
 have hf8 := (Bf.out.wr0 k14).lt
 have Odn := ((Od.out.wr0 k14).into (Q := fun b => b < w14.heap.size) (fun b _ h => h)).wr0 kq
 have Od := qh Odn
 have Bfn := (Bf.out.wr0 k14).wr0 kq
 have Bf := qh Bfn
 go_upto_region 9 with (fail)
 have hw14 : w.heap.size ≤ w14.heap.size := Nat.le_trans R13.out.size k14.size
 generalize hw15 : w14.alloc (.cells #[.string ⟨#[77]⟩, .bool false, .int .u64 7, .slice none 0 0, .string ⟨#[]⟩, .slice (some ⟨gp, 0, none⟩) 1 1, .slice none 0 0, .int .i64 0, .slice none 0 0] 30) = w15 at *
 have hs15 : w15.heap.size = w14.heap.size + 1 := by rw [← hw15, World.size_alloc]
 generalize hg18 : w14.heap.size = g18 at *
 clear hw15
 have HS15 := qh hs15
 have bu := Blk.new w15 72 #[.string ⟨#[77]⟩, .int .u64 0]
 have ku := (Wr.refl [] w15).alloc (.cells #[.string ⟨#[77]⟩, .int .u64 0] 72)
 have bo := bq.wr0 ku
 have f3 := bo.frozen 3
 have y3 := bo.cell 3
 simp only [qgaq, qgzq, qgsq] at y3
 have hgu : g18 < w15.heap.size := by omega
 go_upto_region 10 with (fail)
 have ks : Wr [g18] w15 (w15.setCell ⟨g18, 3, none⟩ (.slice (some ⟨g18 + 1, 0, none⟩) 1 1)) := (Wr.refl _ _).setOn (by simp) _
 have hsx : (w15.setCell ⟨g18, 3, none⟩ (.slice (some ⟨g18 + 1, 0, none⟩) 1 1)).heap.size = g18 + 1 := by simp [hs15]
 have bo1 := bq.set_ 3 (.slice (some ⟨g18 + 1, 0, none⟩) 1 1)
 simp only [qsaq, qszq, qssq] at bo1
 have bpx := bp2.wr ks (by rw [List.mem_singleton]; omega)
 have rwx := rq.setNew (b := g18) (o := 3) (by omega) (.slice (some ⟨g18 + 1, 0, none⟩) 1 1)
 have Bdx := Bd.out.wr ks (by rw [List.mem_singleton]; omega)
 have Odx := Od.out.keep ks (fun x hx => by rw [List.mem_singleton]; omega)
 have Bfx := Bf.out.wr ks (by rw [List.mem_singleton]; omega)
 generalize w15.setCell ⟨g18, 3, none⟩ (.slice (some ⟨g18 + 1, 0, none⟩) 1 1) = wx at *
 have bu2 := Blk.new wx 72 #[.string ⟨#[77]⟩, .int .u64 0]
 have kx := (Wr.refl [] wx).alloc (.cells #[.string ⟨#[77]⟩, .int .u64 0] 72)
 rw [hsx] at bu2
 have bo2 := bo1.wr0 kx
 have bp4 := bpx.wr0 kx
 have rw17 := rwx.trans kx
 have Bdn := Bdx.wr0 kx
 have Odn := Odx.wr0 kx
 have Bfn := Bfx.wr0 kx
 generalize wx.alloc (.cells #[.string ⟨#[77]⟩, .int .u64 0] 72) = wv at *
 generalize g18 + 1 = gq at *
 have d0 := (Bdn).cell 0
 have d1 := (Bdn).cell 1
 have d2 := (Bdn).cell 2
 have d3 := (Bdn).cell 3
 have d4 := (Bdn).cell 4
 have d5 := (Bdn).cell 5
 have d6 := (Bdn).cell 6
 have d7 := (Bdn).cell 7
 have d8 := (Bdn).cell 8
 simp only [qgaq, qgzq, qgsq] at d0 d1 d2 d3 d4 d5 d6 d7 d8
 have RV := qh rw17
 have OD := qh Odn
 have BF := qh Bfn
 have BO := qh bo2
 have BU := qh bu2
 have BP := qh bp4
 have ff := BF.out.cell 0
 simp only [qgaq, qgzq] at ff
 have o0 := (BO.out).cell 0
 have o1 := (BO.out).cell 1
 have o2 := (BO.out).cell 2
 have o3 := (BO.out).cell 3
 have o4 := (BO.out).cell 4
 have o5 := (BO.out).cell 5
 have o6 := (BO.out).cell 6
 have o7 := (BO.out).cell 7
 have o8 := (BO.out).cell 8
 simp only [qgaq, qgzq, qgsq] at o0 o1 o2 o3 o4 o5 o6 o7 o8
 clear Bdn Odn Bfn Bdx Odx Bfx bo bo1 bo2 bu bu2 bp bp2 bpx bp4 ku kx kq k14 rq rwx rw17 ks f3 y3 Bd Od Bf bq
 have Y1 := qh (fun W g (r : Wr [] wv W) (h : Blk W g 98 #[.int .i64 0, .int .i64 0, .int .i64 0, .int .i64 0, .int .i64 1, .bool false]) => plain_same W g _ _ _ _ _ (OD.out.wr0 r) h)
 have Y2 := qh (fun W (r : Wr [] wv W) => bad_may W _ _ (BP.out.wr0 r) (BU.out.wr0 r))
 have Y3 := qh (fun W g (h : Blk W g 98 #[.int .i64 0, .int .i64 0, .int .i64 0, .int .i64 0, .int .i64 1, .bool false]) => plain_may W g h)
 have hpe := qh plain_e
 go_upto_region 11 with (fail)
 have hC : ∀ W, Wr [] wv W → W.cell? ⟨g3, 0, none⟩ = some (.string ⟨#[77]⟩) ∧ W.cell? ⟨g3, 1, none⟩ = some (.bool false) ∧ W.cell? ⟨g3, 2, none⟩ = some (.int .u64 7) ∧ W.cell? ⟨g3, 3, none⟩ = some (.slice Adu ndu cdu) ∧ W.cell? ⟨g3, 4, none⟩ = some (.string ⟨#[]⟩) ∧ W.cell? ⟨g3, 5, none⟩ = some (.slice Adp ndp cdp) ∧ W.cell? ⟨g3, 6, none⟩ = some (.slice Adi ndi cdi) ∧ W.cell? ⟨g3, 7, none⟩ = some (.int .i64 0) ∧ W.cell? ⟨g3, 8, none⟩ = some (.slice Adn ndn cdn) ∧ W.cell? ⟨g18, 0, none⟩ = some (.string ⟨#[77]⟩) ∧ W.cell? ⟨g18, 1, none⟩ = some (.bool false) ∧ W.cell? ⟨g18, 2, none⟩ = some (.int .u64 7) ∧ W.cell? ⟨g18, 3, none⟩ = some (.slice (some ⟨gq, 0, none⟩) 1 1) ∧ W.cell? ⟨g18, 4, none⟩ = some (.string ⟨#[]⟩) ∧ W.cell? ⟨g18, 5, none⟩ = some (.slice (some ⟨gp, 0, none⟩) 1 1) ∧ W.cell? ⟨g18, 6, none⟩ = some (.slice none 0 0) ∧ W.cell? ⟨g18, 7, none⟩ = some (.int .i64 0) ∧ W.cell? ⟨g18, 8, none⟩ = some (.slice none 0 0) ∧ W.cell? ⟨g8, 0, none⟩ = some (.string ⟨#[77]⟩) := fun W hW => ⟨hW.cellOf d0 (by simp), hW.cellOf d1 (by simp), hW.cellOf d2 (by simp), hW.cellOf d3 (by simp), hW.cellOf d4 (by simp), hW.cellOf d5 (by simp), hW.cellOf d6 (by simp), hW.cellOf d7 (by simp), hW.cellOf d8 (by simp), hW.cellOf o0 (by simp), hW.cellOf o1 (by simp), hW.cellOf o2 (by simp), hW.cellOf o3 (by simp), hW.cellOf o4 (by simp), hW.cellOf o5 (by simp), hW.cellOf o6 (by simp), hW.cellOf o7 (by simp), hW.cellOf o8 (by simp), hW.cellOf ff (by simp)⟩
 have HC := qh hC
 clear hC
 refine wp_region_noPanic ?_
 refine wp_region_L (AlwO fun w' => w'.cell? ⟨g3, 0, none⟩ = some (.string ⟨#[77]⟩) ∧ w'.cell? ⟨g3, 1, none⟩ = some (.bool false) ∧ w'.cell? ⟨g3, 2, none⟩ = some (.int .u64 7) ∧ w'.cell? ⟨g3, 3, none⟩ = some (.slice Adu ndu cdu) ∧ w'.cell? ⟨g3, 4, none⟩ = some (.string ⟨#[]⟩) ∧ w'.cell? ⟨g3, 5, none⟩ = some (.slice Adp ndp cdp) ∧ w'.cell? ⟨g3, 6, none⟩ = some (.slice Adi ndi cdi) ∧ w'.cell? ⟨g3, 7, none⟩ = some (.int .i64 0) ∧ w'.cell? ⟨g3, 8, none⟩ = some (.slice Adn ndn cdn) ∧ w'.cell? ⟨g18, 0, none⟩ = some (.string ⟨#[77]⟩) ∧ w'.cell? ⟨g18, 1, none⟩ = some (.bool false) ∧ w'.cell? ⟨g18, 2, none⟩ = some (.int .u64 7) ∧ w'.cell? ⟨g18, 3, none⟩ = some (.slice (some ⟨gq, 0, none⟩) 1 1) ∧ w'.cell? ⟨g18, 4, none⟩ = some (.string ⟨#[]⟩) ∧ w'.cell? ⟨g18, 5, none⟩ = some (.slice (some ⟨gp, 0, none⟩) 1 1) ∧ w'.cell? ⟨g18, 6, none⟩ = some (.slice none 0 0) ∧ w'.cell? ⟨g18, 7, none⟩ = some (.int .i64 0) ∧ w'.cell? ⟨g18, 8, none⟩ = some (.slice none 0 0) ∧ w'.cell? ⟨g8, 0, none⟩ = some (.string ⟨#[77]⟩)) (by kernel_rfl) (fun hcl => ?_)
 have hS : AlwO (fun w' => w'.cell? ⟨g3, 0, none⟩ = some (.string ⟨#[77]⟩) ∧ w'.cell? ⟨g3, 1, none⟩ = some (.bool false) ∧ w'.cell? ⟨g3, 2, none⟩ = some (.int .u64 7) ∧ w'.cell? ⟨g3, 3, none⟩ = some (.slice Adu ndu cdu) ∧ w'.cell? ⟨g3, 4, none⟩ = some (.string ⟨#[]⟩) ∧ w'.cell? ⟨g3, 5, none⟩ = some (.slice Adp ndp cdp) ∧ w'.cell? ⟨g3, 6, none⟩ = some (.slice Adi ndi cdi) ∧ w'.cell? ⟨g3, 7, none⟩ = some (.int .i64 0) ∧ w'.cell? ⟨g3, 8, none⟩ = some (.slice Adn ndn cdn) ∧ w'.cell? ⟨g18, 0, none⟩ = some (.string ⟨#[77]⟩) ∧ w'.cell? ⟨g18, 1, none⟩ = some (.bool false) ∧ w'.cell? ⟨g18, 2, none⟩ = some (.int .u64 7) ∧ w'.cell? ⟨g18, 3, none⟩ = some (.slice (some ⟨gq, 0, none⟩) 1 1) ∧ w'.cell? ⟨g18, 4, none⟩ = some (.string ⟨#[]⟩) ∧ w'.cell? ⟨g18, 5, none⟩ = some (.slice (some ⟨gp, 0, none⟩) 1 1) ∧ w'.cell? ⟨g18, 6, none⟩ = some (.slice none 0 0) ∧ w'.cell? ⟨g18, 7, none⟩ = some (.int .i64 0) ∧ w'.cell? ⟨g18, 8, none⟩ = some (.slice none 0 0) ∧ w'.cell? ⟨g8, 0, none⟩ = some (.string ⟨#[77]⟩)) (Array.replicate 70 false) wv.drew := ⟨d0, d1, d2, d3, d4, d5, d6, d7, d8, o0, o1, o2, o3, o4, o5, o6, o7, o8, ff⟩
 refine wpAnyL_take (i := 0) (oi := ?oi1) (v := ?v1) ?hi1 (by kernel_rfl) (by kernel_rfl) (by kernel_rfl) (fun _ _ _ h => h) (alwO_take _) ?hy1 hcl hS ?rest1
 case hi1 =>
  simp only [qgaq, qgsq, qgzq]
  rfl
 case hy1 =>
  refine yields_alwO (Or.inl ⟨by rfl, fun w' hS => ?_⟩)
  try go_split_ands
  go_simp
  try rfl
 case rest1 =>
 intro hcl1 hS1
 clear hcl hS
 try simp only [Act.put, qsaq, qszq, qssq]
 refine wpAnyL_take (i := 1) (oi := ?oi2) (v := ?v2) ?hi2 (by kernel_rfl) (by kernel_rfl) (by kernel_rfl) (fun _ _ _ h => h) (alwO_take _) ?hy2 hcl1 hS1 ?rest2
 case hi2 =>
  simp only [qgaq, qgsq, qgzq]
  rfl
 case hy2 =>
  refine yields_alwO (Or.inl ⟨by rfl, fun w' hS => ?_⟩)
  try go_split_ands
  go_simp
  try rfl
 case rest2 =>
 intro hcl2 hS2
 clear hcl1 hS1
 try simp only [Act.put, qsaq, qszq, qssq]
 refine wpAnyL_take (i := 2) (oi := ?oi3) (v := ?v3) ?hi3 (by kernel_rfl) (by kernel_rfl) (by kernel_rfl) (fun _ _ _ h => h) (alwO_take _) ?hy3 hcl2 hS2 ?rest3
 case hi3 =>
  simp only [qgaq, qgsq, qgzq]
  rfl
 case hy3 =>
  refine yields_alwO (Or.inl ⟨by rfl, fun w' hS => ?_⟩)
  try go_split_ands
  go_simp
  try rfl
 case rest3 =>
 intro hcl3 hS3
 clear hcl2 hS2
 try simp only [Act.put, qsaq, qszq, qssq]
 refine wpAnyL_take (i := 3) (oi := ?oi4) (v := ?v4) ?hi4 (by kernel_rfl) (by kernel_rfl) (by kernel_rfl) (fun _ _ _ h => h) (alwO_take _) ?hy4 hcl3 hS3 ?rest4
 case hi4 =>
  simp only [qgaq, qgsq, qgzq]
  rfl
 case hy4 =>
  refine yields_alwO (Or.inl ⟨by rfl, fun w' hS => ?_⟩)
  try go_split_ands
  go_simp
  try rfl
 case rest4 =>
 intro hcl4 hS4
 clear hcl3 hS3
 try simp only [Act.put, qsaq, qszq, qssq]
 refine wpAnyL_take (i := 4) (oi := ?oi5) (v := ?v5) ?hi5 (by kernel_rfl) (by kernel_rfl) (by kernel_rfl) (fun _ _ _ h => h) (alwO_take _) ?hy5 hcl4 hS4 ?rest5
 case hi5 =>
  simp only [qgaq, qgsq, qgzq]
  rfl
 case hy5 =>
  refine yields_alwO (Or.inl ⟨by rfl, fun w' hS => ?_⟩)
  try go_split_ands
  go_simp
  try rfl
 case rest5 =>
 intro hcl5 hS5
 clear hcl4 hS4
 try simp only [Act.put, qsaq, qszq, qssq]
 refine wpAnyL_take (i := 5) (oi := ?oi6) (v := ?v6) ?hi6 (by kernel_rfl) (by kernel_rfl) (by kernel_rfl) (fun _ _ _ h => h) (alwO_take _) ?hy6 hcl5 hS5 ?rest6
 case hi6 =>
  simp only [qgaq, qgsq, qgzq]
  rfl
 case hy6 =>
  refine yields_alwO (Or.inl ⟨by rfl, fun w' hS => ?_⟩)
  try go_split_ands
  go_simp
  try rfl
 case rest6 =>
 intro hcl6 hS6
 clear hcl5 hS5
 try simp only [Act.put, qsaq, qszq, qssq]
 refine wpAnyL_take (i := 6) (oi := ?oi7) (v := ?v7) ?hi7 (by kernel_rfl) (by kernel_rfl) (by kernel_rfl) (fun _ _ _ h => h) (alwO_take _) ?hy7 hcl6 hS6 ?rest7
 case hi7 =>
  simp only [qgaq, qgsq, qgzq]
  rfl
 case hy7 =>
  refine yields_alwO (Or.inl ⟨by rfl, fun w' hS => ?_⟩)
  try go_split_ands
  go_simp
  try rfl
 case rest7 =>
 intro hcl7 hS7
 clear hcl6 hS6
 try simp only [Act.put, qsaq, qszq, qssq]
 refine wpAnyL_take (i := 7) (oi := ?oi8) (v := ?v8) ?hi8 (by kernel_rfl) (by kernel_rfl) (by kernel_rfl) (fun _ _ _ h => h) (alwO_take _) ?hy8 hcl7 hS7 ?rest8
 case hi8 =>
  simp only [qgaq, qgsq, qgzq]
  rfl
 case hy8 =>
  refine yields_alwO (Or.inl ⟨by rfl, fun w' hS => ?_⟩)
  try go_split_ands
  go_simp
  try rfl
 case rest8 =>
 intro hcl8 hS8
 clear hcl7 hS7
 try simp only [Act.put, qsaq, qszq, qssq]
 refine wpAnyL_take (i := 8) (oi := ?oi9) (v := ?v9) ?hi9 (by kernel_rfl) (by kernel_rfl) (by kernel_rfl) (fun _ _ _ h => h) (alwO_take _) ?hy9 hcl8 hS8 ?rest9
 case hi9 =>
  simp only [qgaq, qgsq, qgzq]
  rfl
 case hy9 =>
  refine yields_alwO (Or.inl ⟨by rfl, fun w' hS => ?_⟩)
  try go_split_ands
  go_simp
  try rfl
 case rest9 =>
 intro hcl9 hS9
 clear hcl8 hS8
 try simp only [Act.put, qsaq, qszq, qssq]
 refine wpAnyL_take (i := 9) (oi := ?oi10) (v := ?v10) ?hi10 (by kernel_rfl) (by kernel_rfl) (by kernel_rfl) (fun _ _ _ h => h) (alwO_take _) ?hy10 hcl9 hS9 ?rest10
 case hi10 =>
  simp only [qgaq, qgsq, qgzq]
  rfl
 case hy10 =>
  refine yields_alwO (Or.inl ⟨by rfl, fun w' hS => ?_⟩)
  try go_split_ands
  go_simp
  try rfl
 case rest10 =>
 intro hcl10 hS10
 clear hcl9 hS9
 try simp only [Act.put, qsaq, qszq, qssq]
 refine wpAnyL_take (i := 10) (oi := ?oi11) (v := ?v11) ?hi11 (by kernel_rfl) (by kernel_rfl) (by kernel_rfl) (fun _ _ _ h => h) (alwO_take _) ?hy11 hcl10 hS10 ?rest11
 case hi11 =>
  simp only [qgaq, qgsq, qgzq]
  rfl
 case hy11 =>
  refine yields_alwO (Or.inl ⟨by rfl, fun w' hS => ?_⟩)
  try go_split_ands
  go_simp
  try rfl
 case rest11 =>
 intro hcl11 hS11
 clear hcl10 hS10
 try simp only [Act.put, qsaq, qszq, qssq]
 refine wpAnyL_take (i := 11) (oi := ?oi12) (v := ?v12) ?hi12 (by kernel_rfl) (by kernel_rfl) (by kernel_rfl) (fun _ _ _ h => h) (alwO_take _) ?hy12 hcl11 hS11 ?rest12
 case hi12 =>
  simp only [qgaq, qgsq, qgzq]
  rfl
 case hy12 =>
  refine yields_alwO (Or.inl ⟨by rfl, fun w' hS => ?_⟩)
  try go_split_ands
  go_simp
  try rfl
 case rest12 =>
 intro hcl12 hS12
 clear hcl11 hS11
 try simp only [Act.put, qsaq, qszq, qssq]
 refine wpAnyL_take (i := 12) (oi := ?oi13) (v := ?v13) ?hi13 (by kernel_rfl) (by kernel_rfl) (by kernel_rfl) (fun _ _ _ h => h) (alwO_take _) ?hy13 hcl12 hS12 ?rest13
 case hi13 =>
  simp only [qgaq, qgsq, qgzq]
  rfl
 case hy13 =>
  refine yields_alwO (Or.inl ⟨by rfl, fun w' hS => ?_⟩)
  try go_split_ands
  go_simp
  try rfl
 case rest13 =>
 intro hcl13 hS13
 clear hcl12 hS12
 try simp only [Act.put, qsaq, qszq, qssq]
 refine wpAnyL_take (i := 13) (oi := ?oi14) (v := ?v14) ?hi14 (by kernel_rfl) (by kernel_rfl) (by kernel_rfl) (fun _ _ _ h => h) (alwO_take _) ?hy14 hcl13 hS13 ?rest14
 case hi14 =>
  simp only [qgaq, qgsq, qgzq]
  rfl
 case hy14 =>
  refine yields_alwO (Or.inl ⟨by rfl, fun w' hS => ?_⟩)
  try go_split_ands
  go_simp
  try rfl
 case rest14 =>
 intro hcl14 hS14
 clear hcl13 hS13
 try simp only [Act.put, qsaq, qszq, qssq]
 refine wpAnyL_take (i := 14) (oi := ?oi15) (v := ?v15) ?hi15 (by kernel_rfl) (by kernel_rfl) (by kernel_rfl) (fun _ _ _ h => h) (alwO_take _) ?hy15 hcl14 hS14 ?rest15
 case hi15 =>
  simp only [qgaq, qgsq, qgzq]
  rfl
 case hy15 =>
  refine yields_alwO (Or.inl ⟨by rfl, fun w' hS => ?_⟩)
  try go_split_ands
  go_simp
  try rfl
 case rest15 =>
 intro hcl15 hS15
 clear hcl14 hS14
 try simp only [Act.put, qsaq, qszq, qssq]
 refine wpAnyL_take (i := 15) (oi := ?oi16) (v := ?v16) ?hi16 (by kernel_rfl) (by kernel_rfl) (by kernel_rfl) (fun _ _ _ h => h) (alwO_take _) ?hy16 hcl15 hS15 ?rest16
 case hi16 =>
  simp only [qgaq, qgsq, qgzq]
  rfl
 case hy16 =>
  refine yields_alwO (Or.inl ⟨by rfl, fun w' hS => ?_⟩)
  try go_split_ands
  go_simp
  try rfl
 case rest16 =>
 intro hcl16 hS16
 clear hcl15 hS15
 try simp only [Act.put, qsaq, qszq, qssq]
 refine wpAnyL_take (i := 16) (oi := ?oi17) (v := ?v17) ?hi17 (by kernel_rfl) (by kernel_rfl) (by kernel_rfl) (fun _ _ _ h => h) (alwO_take _) ?hy17 hcl16 hS16 ?rest17
 case hi17 =>
  simp only [qgaq, qgsq, qgzq]
  rfl
 case hy17 =>
  refine yields_alwO (Or.inl ⟨by rfl, fun w' hS => ?_⟩)
  try go_split_ands
  go_simp
  try rfl
 case rest17 =>
 intro hcl17 hS17
 clear hcl16 hS16
 try simp only [Act.put, qsaq, qszq, qssq]
 refine wpAnyL_take (i := 17) (oi := ?oi18) (v := ?v18) ?hi18 (by kernel_rfl) (by kernel_rfl) (by kernel_rfl) (fun _ _ _ h => h) (alwO_take _) ?hy18 hcl17 hS17 ?rest18
 case hi18 =>
  simp only [qgaq, qgsq, qgzq]
  rfl
 case hy18 =>
  refine yields_alwO (Or.inl ⟨by rfl, fun w' hS => ?_⟩)
  try go_split_ands
  go_simp
  try rfl
 case rest18 =>
 intro hcl18 hS18
 clear hcl17 hS17
 try simp only [Act.put, qsaq, qszq, qssq]
 refine wpAnyL_take (i := 18) (oi := ?oi19) (v := ?v19) ?hi19 (by kernel_rfl) (by kernel_rfl) (by kernel_rfl) (fun _ _ _ h => h) (alwO_take _) ?hy19 hcl18 hS18 ?rest19
 case hi19 =>
  simp only [qgaq, qgsq, qgzq]
  rfl
 case hy19 =>
  refine yields_alwO (Or.inl ⟨by rfl, fun w' hS => ?_⟩)
  try go_split_ands
  go_simp
  try rfl
 case rest19 =>
 intro hcl19 hS19
 clear hcl18 hS18
 try simp only [Act.put, qsaq, qszq, qssq]
 refine wpAnyL_take (i := 19) (oi := ?oi20) (v := ?v20) ?hi20 (by kernel_rfl) (by kernel_rfl) (by kernel_rfl) (fun _ _ _ h => h) (alwO_take _) ?hy20 hcl19 hS19 ?rest20
 case hi20 =>
  simp only [qgaq, qgsq, qgzq]
  rfl
 case hy20 =>
  refine yields_alwO (Or.inl ⟨by rfl, fun w' hS => ?_⟩)
  try go_split_ands
  go_simp
  try rfl
 case rest20 =>
 intro hcl20 hS20
 clear hcl19 hS19
 try simp only [Act.put, qsaq, qszq, qssq]
 refine wpAnyL_take (i := 20) (oi := ?oi21) (v := ?v21) ?hi21 (by kernel_rfl) (by kernel_rfl) (by kernel_rfl) (fun _ _ _ h => h) (alwO_take _) ?hy21 hcl20 hS20 ?rest21
 case hi21 =>
  simp only [qgaq, qgsq, qgzq]
  rfl
 case hy21 =>
  refine yields_alwO (Or.inl ⟨by rfl, fun w' hS => ?_⟩)
  try go_split_ands
  go_simp
  try rfl
 case rest21 =>
 intro hcl21 hS21
 clear hcl20 hS20
 try simp only [Act.put, qsaq, qszq, qssq]
 refine wpAnyL_take (i := 21) (oi := ?oi22) (v := ?v22) ?hi22 (by kernel_rfl) (by kernel_rfl) (by kernel_rfl) (fun _ _ _ h => h) (alwO_take _) ?hy22 hcl21 hS21 ?rest22
 case hi22 =>
  simp only [qgaq, qgsq, qgzq]
  rfl
 case hy22 =>
  refine yields_alwO (Or.inl ⟨by rfl, fun w' hS => ?_⟩)
  try go_split_ands
  go_simp
  try rfl
 case rest22 =>
 intro hcl22 hS22
 clear hcl21 hS21
 try simp only [Act.put, qsaq, qszq, qssq]
 refine wpAnyL_take (i := 22) (oi := ?oi23) (v := ?v23) ?hi23 (by kernel_rfl) (by kernel_rfl) (by kernel_rfl) (fun _ _ _ h => h) (alwO_take _) ?hy23 hcl22 hS22 ?rest23
 case hi23 =>
  simp only [qgaq, qgsq, qgzq]
  rfl
 case hy23 =>
  refine yields_alwO (Or.inl ⟨by rfl, fun w' hS => ?_⟩)
  try go_split_ands
  go_simp
  try rfl
 case rest23 =>
 intro hcl23 hS23
 clear hcl22 hS22
 try simp only [Act.put, qsaq, qszq, qssq]
 refine wpAnyL_take (i := 23) (oi := ?oi24) (v := ?v24) ?hi24 (by kernel_rfl) (by kernel_rfl) (by kernel_rfl) (fun _ _ _ h => h) (alwO_take _) ?hy24 hcl23 hS23 ?rest24
 case hi24 =>
  simp only [qgaq, qgsq, qgzq]
  rfl
 case hy24 =>
  refine yields_alwO (Or.inl ⟨by rfl, fun w' hS => ?_⟩)
  try go_split_ands
  go_simp
  try rfl
 case rest24 =>
 intro hcl24 hS24
 clear hcl23 hS23
 try simp only [Act.put, qsaq, qszq, qssq]
 refine wpAnyL_take (i := 24) (oi := ?oi25) (v := ?v25) ?hi25 (by kernel_rfl) (by kernel_rfl) (by kernel_rfl) (fun _ _ _ h => h) (alwO_take _) ?hy25 hcl24 hS24 ?rest25
 case hi25 =>
  simp only [qgaq, qgsq, qgzq]
  rfl
 case hy25 =>
  refine yields_alwO (Or.inl ⟨by rfl, fun w' hS => ?_⟩)
  try go_split_ands
  go_simp
  try rfl
 case rest25 =>
 intro hcl25 hS25
 clear hcl24 hS24
 try simp only [Act.put, qsaq, qszq, qssq]
 refine wpAnyL_take (i := 25) (oi := ?oi26) (v := ?v26) ?hi26 (by kernel_rfl) (by kernel_rfl) (by kernel_rfl) (fun _ _ _ h => h) (alwO_take _) ?hy26 hcl25 hS25 ?rest26
 case hi26 =>
  simp only [qgaq, qgsq, qgzq]
  rfl
 case hy26 =>
  refine yields_alwO (Or.inl ⟨by rfl, fun w' hS => ?_⟩)
  try go_split_ands
  go_simp
  try rfl
 case rest26 =>
 intro hcl26 hS26
 clear hcl25 hS25
 try simp only [Act.put, qsaq, qszq, qssq]
 refine wpAnyL_take (i := 26) (oi := ?oi27) (v := ?v27) ?hi27 (by kernel_rfl) (by kernel_rfl) (by kernel_rfl) (fun _ _ _ h => h) (alwO_take _) ?hy27 hcl26 hS26 ?rest27
 case hi27 =>
  simp only [qgaq, qgsq, qgzq]
  rfl
 case hy27 =>
  refine yields_alwO (Or.inl ⟨by rfl, fun w' hS => ?_⟩)
  try go_split_ands
  go_simp
  try rfl
 case rest27 =>
 intro hcl27 hS27
 clear hcl26 hS26
 try simp only [Act.put, qsaq, qszq, qssq]
 refine wpAnyL_step (i := 27) (o := ?oi28) ?hi28 (by kernel_rfl) hcl27 ?rest28
 case hi28 =>
  simp only [qgaq, qgsq, qgzq]
  rfl
 case rest28 =>
 intro K hK
 go_simp
 refine (hpe.out _).mono ?_
 rintro e v1 ⟨p1, rfl, s1, _, b1⟩
 have B1 := qh b1
 clear b1
 refine hK _ _ (HC.out _ ((Wr.refl [] wv).drew.trans s1)) (fun hcl28 => ?_)
 clear hK K hcl27 hS27
 try simp only [Act.put, qsaq, qszq, qssq]
 refine wpAnyL_step (i := 28) (o := ?oi29) ?hi29 (by kernel_rfl) hcl28 ?rest29
 case hi29 =>
  simp only [qgaq, qgsq, qgzq]
  rfl
 case rest29 =>
 intro K hK
 go_simp
 refine (Y1.out _ _ ((Wr.refl [] wv).drew.trans s1) B1.out).mono ?_
 rintro e v2 ⟨rfl, s2⟩
 refine hK _ _ (HC.out _ (((Wr.refl [] wv).drew.trans s1).trans s2)) (fun hcl29 => ?_)
 clear hK K hcl28
 try simp only [Act.put, qsaq, qszq, qssq]
 refine wpAnyL_take (i := 29) (oi := ?oi30) (v := ?v30) ?hi30 (by kernel_rfl) (by kernel_rfl) (by kernel_rfl) (fun _ _ _ h => h) (alwO_take _) ?hy30 hcl29 (HC.out _ (((Wr.refl [] wv).drew.trans s1).trans s2)) ?rest30
 case hi30 =>
  simp only [qgaq, qgsq, qgzq]
  rfl
 case hy30 =>
  refine yields_alwO (Or.inl ⟨by rfl, fun w' hS => ?_⟩)
  try go_split_ands
  go_simp
  try rfl
 case rest30 =>
 intro hcl30 hS30
 clear hcl29
 try simp only [Act.put, qsaq, qszq, qssq]
 refine wpAnyL_take (i := 30) (oi := ?oi31) (v := ?v31) ?hi31 (by kernel_rfl) (by kernel_rfl) (by kernel_rfl) (fun _ _ _ h => h) (alwO_take _) ?hy31 hcl30 hS30 ?rest31
 case hi31 =>
  simp only [qgaq, qgsq, qgzq]
  rfl
 case hy31 =>
  refine yields_alwO (Or.inl ⟨by rfl, fun w' hS => ?_⟩)
  try go_split_ands
  go_simp
  try rfl
 case rest31 =>
 intro hcl31 hS31
 clear hcl30 hS30
 try simp only [Act.put, qsaq, qszq, qssq]
 refine wpAnyL_take (i := 31) (oi := ?oi32) (v := ?v32) ?hi32 (by kernel_rfl) (by kernel_rfl) (by kernel_rfl) (fun _ _ _ h => h) (alwO_take _) ?hy32 hcl31 hS31 ?rest32
 case hi32 =>
  simp only [qgaq, qgsq, qgzq]
  rfl
 case hy32 =>
  refine yields_alwO (Or.inl ⟨by rfl, fun w' hS => ?_⟩)
  try go_split_ands
  go_simp
  try rfl
 case rest32 =>
 intro hcl32 hS32
 clear hcl31 hS31
 try simp only [Act.put, qsaq, qszq, qssq]
 refine wpAnyL_take (i := 32) (oi := ?oi33) (v := ?v33) ?hi33 (by kernel_rfl) (by kernel_rfl) (by kernel_rfl) (fun _ _ _ h => h) (alwO_take _) ?hy33 hcl32 hS32 ?rest33
 case hi33 =>
  simp only [qgaq, qgsq, qgzq]
  rfl
 case hy33 =>
  refine yields_alwO (Or.inl ⟨by rfl, fun w' hS => ?_⟩)
  try go_split_ands
  go_simp
  try rfl
 case rest33 =>
 intro hcl33 hS33
 clear hcl32 hS32
 try simp only [Act.put, qsaq, qszq, qssq]
 refine wpAnyL_take (i := 33) (oi := ?oi34) (v := ?v34) ?hi34 (by kernel_rfl) (by kernel_rfl) (by kernel_rfl) (fun _ _ _ h => h) (alwO_take _) ?hy34 hcl33 hS33 ?rest34
 case hi34 =>
  simp only [qgaq, qgsq, qgzq]
  rfl
 case hy34 =>
  refine yields_alwO (Or.inl ⟨by rfl, fun w' hS => ?_⟩)
  try go_split_ands
  go_simp
  try rfl
 case rest34 =>
 intro hcl34 hS34
 clear hcl33 hS33
 try simp only [Act.put, qsaq, qszq, qssq]
 refine wpAnyL_take (i := 34) (oi := ?oi35) (v := ?v35) ?hi35 (by kernel_rfl) (by kernel_rfl) (by kernel_rfl) (fun _ _ _ h => h) (alwO_take _) ?hy35 hcl34 hS34 ?rest35
 case hi35 =>
  simp only [qgaq, qgsq, qgzq]
  rfl
 case hy35 =>
  refine yields_alwO (Or.inl ⟨by rfl, fun w' hS => ?_⟩)
  try go_split_ands
  go_simp
  try rfl
 case rest35 =>
 intro hcl35 hS35
 clear hcl34 hS34
 try simp only [Act.put, qsaq, qszq, qssq]
 refine wpAnyL_take (i := 35) (oi := ?oi36) (v := ?v36) ?hi36 (by kernel_rfl) (by kernel_rfl) (by kernel_rfl) (fun _ _ _ h => h) (alwO_take _) ?hy36 hcl35 hS35 ?rest36
 case hi36 =>
  simp only [qgaq, qgsq, qgzq]
  rfl
 case hy36 =>
  refine yields_alwO (Or.inl ⟨by rfl, fun w' hS => ?_⟩)
  try go_split_ands
  go_simp
  try rfl
 case rest36 =>
 intro hcl36 hS36
 clear hcl35 hS35
 try simp only [Act.put, qsaq, qszq, qssq]
 refine wpAnyL_take (i := 36) (oi := ?oi37) (v := ?v37) ?hi37 (by kernel_rfl) (by kernel_rfl) (by kernel_rfl) (fun _ _ _ h => h) (alwO_take _) ?hy37 hcl36 hS36 ?rest37
 case hi37 =>
  simp only [qgaq, qgsq, qgzq]
  rfl
 case hy37 =>
  refine yields_alwO (Or.inl ⟨by rfl, fun w' hS => ?_⟩)
  try go_split_ands
  go_simp
  try rfl
 case rest37 =>
 intro hcl37 hS37
 clear hcl36 hS36
 try simp only [Act.put, qsaq, qszq, qssq]
 refine wpAnyL_take (i := 37) (oi := ?oi38) (v := ?v38) ?hi38 (by kernel_rfl) (by kernel_rfl) (by kernel_rfl) (fun _ _ _ h => h) (alwO_take _) ?hy38 hcl37 hS37 ?rest38
 case hi38 =>
  simp only [qgaq, qgsq, qgzq]
  rfl
 case hy38 =>
  refine yields_alwO (Or.inl ⟨by rfl, fun w' hS => ?_⟩)
  try go_split_ands
  go_simp
  try rfl
 case rest38 =>
 intro hcl38 hS38
 clear hcl37 hS37
 try simp only [Act.put, qsaq, qszq, qssq]
 refine wpAnyL_take (i := 38) (oi := ?oi39) (v := ?v39) ?hi39 (by kernel_rfl) (by kernel_rfl) (by kernel_rfl) (fun _ _ _ h => h) (alwO_take _) ?hy39 hcl38 hS38 ?rest39
 case hi39 =>
  simp only [qgaq, qgsq, qgzq]
  rfl
 case hy39 =>
  refine yields_alwO (Or.inl ⟨by rfl, fun w' hS => ?_⟩)
  try go_split_ands
  go_simp
  try rfl
 case rest39 =>
 intro hcl39 hS39
 clear hcl38 hS38
 try simp only [Act.put, qsaq, qszq, qssq]
 refine wpAnyL_take (i := 39) (oi := ?oi40) (v := ?v40) ?hi40 (by kernel_rfl) (by kernel_rfl) (by kernel_rfl) (fun _ _ _ h => h) (alwO_take _) ?hy40 hcl39 hS39 ?rest40
 case hi40 =>
  simp only [qgaq, qgsq, qgzq]
  rfl
 case hy40 =>
  refine yields_alwO (Or.inl ⟨by rfl, fun w' hS => ?_⟩)
  try go_split_ands
  go_simp
  try rfl
 case rest40 =>
 intro hcl40 hS40
 clear hcl39 hS39
 try simp only [Act.put, qsaq, qszq, qssq]
 refine wpAnyL_take (i := 40) (oi := ?oi41) (v := ?v41) ?hi41 (by kernel_rfl) (by kernel_rfl) (by kernel_rfl) (fun _ _ _ h => h) (alwO_take _) ?hy41 hcl40 hS40 ?rest41
 case hi41 =>
  simp only [qgaq, qgsq, qgzq]
  rfl
 case hy41 =>
  refine yields_alwO (Or.inl ⟨by rfl, fun w' hS => ?_⟩)
  try go_split_ands
  go_simp
  try rfl
 case rest41 =>
 intro hcl41 hS41
 clear hcl40 hS40
 try simp only [Act.put, qsaq, qszq, qssq]
 refine wpAnyL_take (i := 41) (oi := ?oi42) (v := ?v42) ?hi42 (by kernel_rfl) (by kernel_rfl) (by kernel_rfl) (fun _ _ _ h => h) (alwO_take _) ?hy42 hcl41 hS41 ?rest42
 case hi42 =>
  simp only [qgaq, qgsq, qgzq]
  rfl
 case hy42 =>
  refine yields_alwO (Or.inl ⟨by rfl, fun w' hS => ?_⟩)
  try go_split_ands
  go_simp
  try rfl
 case rest42 =>
 intro hcl42 hS42
 clear hcl41 hS41
 try simp only [Act.put, qsaq, qszq, qssq]
 refine wpAnyL_take (i := 42) (oi := ?oi43) (v := ?v43) ?hi43 (by kernel_rfl) (by kernel_rfl) (by kernel_rfl) (fun _ _ _ h => h) (alwO_take _) ?hy43 hcl42 hS42 ?rest43
 case hi43 =>
  simp only [qgaq, qgsq, qgzq]
  rfl
 case hy43 =>
  refine yields_alwO (Or.inl ⟨by rfl, fun w' hS => ?_⟩)
  try go_split_ands
  go_simp
  try rfl
 case rest43 =>
 intro hcl43 hS43
 clear hcl42 hS42
 try simp only [Act.put, qsaq, qszq, qssq]
 refine wpAnyL_take (i := 43) (oi := ?oi44) (v := ?v44) ?hi44 (by kernel_rfl) (by kernel_rfl) (by kernel_rfl) (fun _ _ _ h => h) (alwO_take _) ?hy44 hcl43 hS43 ?rest44
 case hi44 =>
  simp only [qgaq, qgsq, qgzq]
  rfl
 case hy44 =>
  refine yields_alwO (Or.inl ⟨by rfl, fun w' hS => ?_⟩)
  try go_split_ands
  go_simp
  try rfl
 case rest44 =>
 intro hcl44 hS44
 clear hcl43 hS43
 try simp only [Act.put, qsaq, qszq, qssq]
 refine wpAnyL_take (i := 44) (oi := ?oi45) (v := ?v45) ?hi45 (by kernel_rfl) (by kernel_rfl) (by kernel_rfl) (fun _ _ _ h => h) (alwO_take _) ?hy45 hcl44 hS44 ?rest45
 case hi45 =>
  simp only [qgaq, qgsq, qgzq]
  rfl
 case hy45 =>
  refine yields_alwO (Or.inl ⟨by rfl, fun w' hS => ?_⟩)
  try go_split_ands
  go_simp
  try rfl
 case rest45 =>
 intro hcl45 hS45
 clear hcl44 hS44
 try simp only [Act.put, qsaq, qszq, qssq]
 refine wpAnyL_take (i := 45) (oi := ?oi46) (v := ?v46) ?hi46 (by kernel_rfl) (by kernel_rfl) (by kernel_rfl) (fun _ _ _ h => h) (alwO_take _) ?hy46 hcl45 hS45 ?rest46
 case hi46 =>
  simp only [qgaq, qgsq, qgzq]
  rfl
 case hy46 =>
  refine yields_alwO (Or.inl ⟨by rfl, fun w' hS => ?_⟩)
  try go_split_ands
  go_simp
  try rfl
 case rest46 =>
 intro hcl46 hS46
 clear hcl45 hS45
 try simp only [Act.put, qsaq, qszq, qssq]
 refine wpAnyL_take (i := 46) (oi := ?oi47) (v := ?v47) ?hi47 (by kernel_rfl) (by kernel_rfl) (by kernel_rfl) (fun _ _ _ h => h) (alwO_take _) ?hy47 hcl46 hS46 ?rest47
 case hi47 =>
  simp only [qgaq, qgsq, qgzq]
  rfl
 case hy47 =>
  refine yields_alwO (Or.inl ⟨by rfl, fun w' hS => ?_⟩)
  try go_split_ands
  go_simp
  try rfl
 case rest47 =>
 intro hcl47 hS47
 clear hcl46 hS46
 try simp only [Act.put, qsaq, qszq, qssq]
 refine wpAnyL_take (i := 47) (oi := ?oi48) (v := ?v48) ?hi48 (by kernel_rfl) (by kernel_rfl) (by kernel_rfl) (fun _ _ _ h => h) (alwO_take _) ?hy48 hcl47 hS47 ?rest48
 case hi48 =>
  simp only [qgaq, qgsq, qgzq]
  rfl
 case hy48 =>
  refine yields_alwO (Or.inl ⟨by rfl, fun w' hS => ?_⟩)
  try go_split_ands
  go_simp
  try rfl
 case rest48 =>
 intro hcl48 hS48
 clear hcl47 hS47
 try simp only [Act.put, qsaq, qszq, qssq]
 refine wpAnyL_take (i := 48) (oi := ?oi49) (v := ?v49) ?hi49 (by kernel_rfl) (by kernel_rfl) (by kernel_rfl) (fun _ _ _ h => h) (alwO_take _) ?hy49 hcl48 hS48 ?rest49
 case hi49 =>
  simp only [qgaq, qgsq, qgzq]
  rfl
 case hy49 =>
  refine yields_alwO (Or.inl ⟨by rfl, fun w' hS => ?_⟩)
  try go_split_ands
  go_simp
  try rfl
 case rest49 =>
 intro hcl49 hS49
 clear hcl48 hS48
 try simp only [Act.put, qsaq, qszq, qssq]
 refine wpAnyL_take (i := 49) (oi := ?oi50) (v := ?v50) ?hi50 (by kernel_rfl) (by kernel_rfl) (by kernel_rfl) (fun _ _ _ h => h) (alwO_take _) ?hy50 hcl49 hS49 ?rest50
 case hi50 =>
  simp only [qgaq, qgsq, qgzq]
  rfl
 case hy50 =>
  refine yields_alwO (Or.inl ⟨by rfl, fun w' hS => ?_⟩)
  try go_split_ands
  go_simp
  try rfl
 case rest50 =>
 intro hcl50 hS50
 clear hcl49 hS49
 try simp only [Act.put, qsaq, qszq, qssq]
 refine wpAnyL_take (i := 50) (oi := ?oi51) (v := ?v51) ?hi51 (by kernel_rfl) (by kernel_rfl) (by kernel_rfl) (fun _ _ _ h => h) (alwO_take _) ?hy51 hcl50 hS50 ?rest51
 case hi51 =>
  simp only [qgaq, qgsq, qgzq]
  rfl
 case hy51 =>
  refine yields_alwO (Or.inl ⟨by rfl, fun w' hS => ?_⟩)
  try go_split_ands
  go_simp
  try rfl
 case rest51 =>
 intro hcl51 hS51
 clear hcl50 hS50
 try simp only [Act.put, qsaq, qszq, qssq]
 refine wpAnyL_take (i := 51) (oi := ?oi52) (v := ?v52) ?hi52 (by kernel_rfl) (by kernel_rfl) (by kernel_rfl) (fun _ _ _ h => h) (alwO_take _) ?hy52 hcl51 hS51 ?rest52
 case hi52 =>
  simp only [qgaq, qgsq, qgzq]
  rfl
 case hy52 =>
  refine yields_alwO (Or.inl ⟨by rfl, fun w' hS => ?_⟩)
  try go_split_ands
  go_simp
  try rfl
 case rest52 =>
 intro hcl52 hS52
 clear hcl51 hS51
 try simp only [Act.put, qsaq, qszq, qssq]
 refine wpAnyL_take (i := 52) (oi := ?oi53) (v := ?v53) ?hi53 (by kernel_rfl) (by kernel_rfl) (by kernel_rfl) (fun _ _ _ h => h) (alwO_take _) ?hy53 hcl52 hS52 ?rest53
 case hi53 =>
  simp only [qgaq, qgsq, qgzq]
  rfl
 case hy53 =>
  refine yields_alwO (Or.inl ⟨by rfl, fun w' hS => ?_⟩)
  try go_split_ands
  go_simp
  try rfl
 case rest53 =>
 intro hcl53 hS53
 clear hcl52 hS52
 try simp only [Act.put, qsaq, qszq, qssq]
 refine wpAnyL_take (i := 53) (oi := ?oi54) (v := ?v54) ?hi54 (by kernel_rfl) (by kernel_rfl) (by kernel_rfl) (fun _ _ _ h => h) (alwO_take _) ?hy54 hcl53 hS53 ?rest54
 case hi54 =>
  simp only [qgaq, qgsq, qgzq]
  rfl
 case hy54 =>
  refine yields_alwO (Or.inl ⟨by rfl, fun w' hS => ?_⟩)
  try go_split_ands
  go_simp
  try rfl
 case rest54 =>
 intro hcl54 hS54
 clear hcl53 hS53
 try simp only [Act.put, qsaq, qszq, qssq]
 refine wpAnyL_take (i := 54) (oi := ?oi55) (v := ?v55) ?hi55 (by kernel_rfl) (by kernel_rfl) (by kernel_rfl) (fun _ _ _ h => h) (alwO_take _) ?hy55 hcl54 hS54 ?rest55
 case hi55 =>
  simp only [qgaq, qgsq, qgzq]
  rfl
 case hy55 =>
  refine yields_alwO (Or.inl ⟨by rfl, fun w' hS => ?_⟩)
  try go_split_ands
  go_simp
  try rfl
 case rest55 =>
 intro hcl55 hS55
 clear hcl54 hS54
 try simp only [Act.put, qsaq, qszq, qssq]
 refine wpAnyL_take (i := 55) (oi := ?oi56) (v := ?v56) ?hi56 (by kernel_rfl) (by kernel_rfl) (by kernel_rfl) (fun _ _ _ h => h) (alwO_take _) ?hy56 hcl55 hS55 ?rest56
 case hi56 =>
  simp only [qgaq, qgsq, qgzq]
  rfl
 case hy56 =>
  refine yields_alwO (Or.inl ⟨by rfl, fun w' hS => ?_⟩)
  try go_split_ands
  go_simp
  try rfl
 case rest56 =>
 intro hcl56 hS56
 clear hcl55 hS55
 try simp only [Act.put, qsaq, qszq, qssq]
 refine wpAnyL_take (i := 56) (oi := ?oi57) (v := ?v57) ?hi57 (by kernel_rfl) (by kernel_rfl) (by kernel_rfl) (fun _ _ _ h => h) (alwO_take _) ?hy57 hcl56 hS56 ?rest57
 case hi57 =>
  simp only [qgaq, qgsq, qgzq]
  rfl
 case hy57 =>
  refine yields_alwO (Or.inl ⟨by rfl, fun w' hS => ?_⟩)
  try go_split_ands
  go_simp
  try rfl
 case rest57 =>
 intro hcl57 hS57
 clear hcl56 hS56
 try simp only [Act.put, qsaq, qszq, qssq]
 refine wpAnyL_take (i := 57) (oi := ?oi58) (v := ?v58) ?hi58 (by kernel_rfl) (by kernel_rfl) (by kernel_rfl) (fun _ _ _ h => h) (alwO_take _) ?hy58 hcl57 hS57 ?rest58
 case hi58 =>
  simp only [qgaq, qgsq, qgzq]
  rfl
 case hy58 =>
  refine yields_alwO (Or.inl ⟨by rfl, fun w' hS => ?_⟩)
  try go_split_ands
  go_simp
  try rfl
 case rest58 =>
 intro hcl58 hS58
 clear hcl57 hS57
 try simp only [Act.put, qsaq, qszq, qssq]
 refine wpAnyL_take (i := 58) (oi := ?oi59) (v := ?v59) ?hi59 (by kernel_rfl) (by kernel_rfl) (by kernel_rfl) (fun _ _ _ h => h) (alwO_take _) ?hy59 hcl58 hS58 ?rest59
 case hi59 =>
  simp only [qgaq, qgsq, qgzq]
  rfl
 case hy59 =>
  refine yields_alwO (Or.inl ⟨by rfl, fun w' hS => ?_⟩)
  try go_split_ands
  go_simp
  try rfl
 case rest59 =>
 intro hcl59 hS59
 clear hcl58 hS58
 try simp only [Act.put, qsaq, qszq, qssq]
 refine wpAnyL_take (i := 59) (oi := ?oi60) (v := ?v60) ?hi60 (by kernel_rfl) (by kernel_rfl) (by kernel_rfl) (fun _ _ _ h => h) (alwO_take _) ?hy60 hcl59 hS59 ?rest60
 case hi60 =>
  simp only [qgaq, qgsq, qgzq]
  rfl
 case hy60 =>
  refine yields_alwO (Or.inl ⟨by rfl, fun w' hS => ?_⟩)
  try go_split_ands
  go_simp
  try rfl
 case rest60 =>
 intro hcl60 hS60
 clear hcl59 hS59
 try simp only [Act.put, qsaq, qszq, qssq]
 refine wpAnyL_take (i := 60) (oi := ?oi61) (v := ?v61) ?hi61 (by kernel_rfl) (by kernel_rfl) (by kernel_rfl) (fun _ _ _ h => h) (alwO_take _) ?hy61 hcl60 hS60 ?rest61
 case hi61 =>
  simp only [qgaq, qgsq, qgzq]
  rfl
 case hy61 =>
  refine yields_alwO (Or.inl ⟨by rfl, fun w' hS => ?_⟩)
  try go_split_ands
  go_simp
  try rfl
 case rest61 =>
 intro hcl61 hS61
 clear hcl60 hS60
 try simp only [Act.put, qsaq, qszq, qssq]
 refine wpAnyL_take (i := 61) (oi := ?oi62) (v := ?v62) ?hi62 (by kernel_rfl) (by kernel_rfl) (by kernel_rfl) (fun _ _ _ h => h) (alwO_take _) ?hy62 hcl61 hS61 ?rest62
 case hi62 =>
  simp only [qgaq, qgsq, qgzq]
  rfl
 case hy62 =>
  refine yields_alwO (Or.inl ⟨by rfl, fun w' hS => ?_⟩)
  try go_split_ands
  go_simp
  try rfl
 case rest62 =>
 intro hcl62 hS62
 clear hcl61 hS61
 try simp only [Act.put, qsaq, qszq, qssq]
 refine wpAnyL_step (i := 62) (o := ?oi63) ?hi63 (by kernel_rfl) hcl62 ?rest63
 case hi63 =>
  simp only [qgaq, qgsq, qgzq]
  rfl
 case rest63 =>
 intro K hK
 go_simp
 refine (Y2.out _ (((Wr.refl [] wv).drew.trans s1).trans s2)).mono ?_
 rintro e v3 ⟨rfl, s3⟩
 refine hK _ _ (HC.out _ ((((Wr.refl [] wv).drew.trans s1).trans s2).trans s3)) (fun hcl63 => ?_)
 clear hK K hcl62 hS62
 try simp only [Act.put, qsaq, qszq, qssq]
 refine wpAnyL_take (i := 63) (oi := ?oi64) (v := ?v64) ?hi64 (by kernel_rfl) (by kernel_rfl) (by kernel_rfl) (fun _ _ _ h => h) (alwO_take _) ?hy64 hcl63 (HC.out _ ((((Wr.refl [] wv).drew.trans s1).trans s2).trans s3)) ?rest64
 case hi64 =>
  simp only [qgaq, qgsq, qgzq]
  rfl
 case hy64 =>
  refine yields_alwO (Or.inl ⟨by rfl, fun w' hS => ?_⟩)
  try go_split_ands
  go_simp
  try rfl
 case rest64 =>
 intro hcl64 hS64
 clear hcl63
 try simp only [Act.put, qsaq, qszq, qssq]
 refine wpAnyL_take (i := 64) (oi := ?oi65) (v := ?v65) ?hi65 (by kernel_rfl) (by kernel_rfl) (by kernel_rfl) (fun _ _ _ h => h) (alwO_take _) ?hy65 hcl64 hS64 ?rest65
 case hi65 =>
  simp only [qgaq, qgsq, qgzq]
  rfl
 case hy65 =>
  refine yields_alwO (Or.inl ⟨by rfl, fun w' hS => ?_⟩)
  try go_split_ands
  go_simp
  try rfl
 case rest65 =>
 intro hcl65 hS65
 clear hcl64 hS64
 try simp only [Act.put, qsaq, qszq, qssq]
 refine wpAnyL_take (i := 65) (oi := ?oi66) (v := ?v66) ?hi66 (by kernel_rfl) (by kernel_rfl) (by kernel_rfl) (fun _ _ _ h => h) (alwO_take _) ?hy66 hcl65 hS65 ?rest66
 case hi66 =>
  simp only [qgaq, qgsq, qgzq]
  rfl
 case hy66 =>
  refine yields_alwO (Or.inl ⟨by rfl, fun w' hS => ?_⟩)
  try go_split_ands
  go_simp
  try rfl
 case rest66 =>
 intro hcl66 hS66
 clear hcl65 hS65
 try simp only [Act.put, qsaq, qszq, qssq]
 refine wpAnyL_step (i := 66) (o := ?oi67) ?hi67 (by kernel_rfl) hcl66 ?rest67
 case hi67 =>
  simp only [qgaq, qgsq, qgzq]
  rfl
 case rest67 =>
 intro K hK
 go_simp
 refine (hpe.out _).mono ?_
 rintro e v4 ⟨p4, rfl, s4, _, b4⟩
 have B4 := qh b4
 clear b4
 refine hK _ _ (HC.out _ (((((Wr.refl [] wv).drew.trans s1).trans s2).trans s3).trans s4)) (fun hcl67 => ?_)
 clear hK K hcl66 hS66
 try simp only [Act.put, qsaq, qszq, qssq]
 refine wpAnyL_step (i := 67) (o := ?oi68) ?hi68 (by kernel_rfl) hcl67 ?rest68
 case hi68 =>
  simp only [qgaq, qgsq, qgzq]
  rfl
 case rest68 =>
 intro K hK
 go_simp
 refine (Y3.out _ _ B4.out).mono ?_
 rintro e v5 ⟨rfl, s5⟩
 refine hK _ _ (HC.out _ ((((((Wr.refl [] wv).drew.trans s1).trans s2).trans s3).trans s4).trans s5)) (fun hcl68 => ?_)
 clear hK K hcl67
 try simp only [Act.put, qsaq, qszq, qssq]
 refine wpAnyL_take (i := 68) (oi := ?oi69) (v := ?v69) ?hi69 (by kernel_rfl) (by kernel_rfl) (by kernel_rfl) (fun _ _ _ h => h) (alwO_take _) ?hy69 hcl68 (HC.out _ ((((((Wr.refl [] wv).drew.trans s1).trans s2).trans s3).trans s4).trans s5)) ?rest69
 case hi69 =>
  simp only [qgaq, qgsq, qgzq]
  rfl
 case hy69 =>
  refine yields_alwO (Or.inl ⟨by rfl, fun w' hS => ?_⟩)
  try go_split_ands
  go_simp
  try rfl
 case rest69 =>
 intro hcl69 hS69
 clear hcl68
 try simp only [Act.put, qsaq, qszq, qssq]
 refine wpAnyL_take (i := 69) (oi := ?oi70) (v := ?v70) ?hi70 (by kernel_rfl) (by kernel_rfl) (by kernel_rfl) (fun _ _ _ h => h) (alwO_take _) ?hy70 hcl69 hS69 ?rest70
 case hi70 =>
  simp only [qgaq, qgsq, qgzq]
  rfl
 case hy70 =>
  refine yields_alwO (Or.inl ⟨by rfl, fun w' hS => ?_⟩)
  try go_split_ands
  go_simp
  try rfl
 case rest70 =>
 intro hcl70 hS70
 clear hcl69 hS69
 try simp only [Act.put, qsaq, qszq, qssq]
 refine wpAnyL_done (by kernel_rfl) (NoPanic.normal ?_) _
 try simp only [Act.put, qsaq, qszq, qssq]
 go_wp2_with fail
 go_ret
 exact ⟨rfl, RV.out.trans (((((((Wr.refl [] wv).drew.trans s1).trans s2).trans s3).trans s4).trans s5))⟩
end Go.Proofs.YtildcdgobdfieaaGreat
