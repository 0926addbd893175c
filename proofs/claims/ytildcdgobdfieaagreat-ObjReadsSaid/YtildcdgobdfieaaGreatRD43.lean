/- law 21's plain, alive: walked; alive answers true. No conditions. -/
import Derived.Test.YtildcdgobdfieaaGreatRD41
import Derived.Test.YtildcdgobdfieaaGreatRD42
set_option linter.unusedVariables false
set_option linter.unusedSimpArgs false
set_option maxRecDepth 100000
set_option maxHeartbeats 32000000
namespace Go.Proofs.YtildcdgobdfieaaGreat
open Go.RowKit
def plainPr : PrcD := ⟨0, 0, 0, 0, 1, false⟩
def plainO : ObjD := ⟨⟨#[77]⟩, false, 7, [], ⟨⟨#[]⟩, [plainPr], [], 0, []⟩⟩
def badO : ObjD := ⟨⟨#[77]⟩, false, 7, [⟨⟨#[77]⟩, 0⟩], ⟨⟨#[]⟩, [plainPr], [], 0, []⟩⟩
theorem plain_procs {w : World} {g : Nat} (h : Blk w g 98 #[.int .i64 0, .int .i64 0, .int .i64 0, .int .i64 0, .int .i64 1, .bool false]) : SlPrcs w (fun _ => True) (.slice (some ⟨g, 0, none⟩) 1 1) [plainPr] :=
 ⟨_, _, rfl, Nat.le_refl _, by unfold maxLen; decide, rfl, fun j u hj => ⟨g, 0, rfl, trivial, by rw [h.cell, Nat.zero_add]; simpa [PrcD.cells, plainPr] using hj⟩⟩
theorem plain_objL {w : World} {g : Nat} (h : Blk w g 98 #[.int .i64 0, .int .i64 0, .int .i64 0, .int .i64 0, .int .i64 1, .bool false]) : ObjL w (fun _ => True) (.slice none 0 0) (.slice (some ⟨g, 0, none⟩) 1 1) (.slice none 0 0) (.slice none 0 0) plainO :=
 ⟨Sl.nil _ _ 2, plain_procs h, Sl.nil _ _ 1, Sl.nil _ _ 1⟩
theorem bad_objL {w : World} {g q : Nat} (h : Blk w g 98 #[.int .i64 0, .int .i64 0, .int .i64 0, .int .i64 0, .int .i64 1, .bool false]) (k : Blk w q 72 #[.string ⟨#[77]⟩, .int .u64 0]) : ObjL w (fun _ => True) (.slice (some ⟨q, 0, none⟩) 1 1) (.slice (some ⟨g, 0, none⟩) 1 1) (.slice none 0 0) (.slice none 0 0) badO :=
 ⟨⟨_, _, rfl, Nat.le_refl _, by unfold maxLen; decide, rfl, fun j u hj => ⟨q, 0, rfl, trivial, by rw [k.cell, Nat.zero_add]; simpa [UseD.cells, badO] using hj⟩⟩, plain_procs h, Sl.nil _ _ 1, Sl.nil _ _ 1⟩
def PlainE (w : World) (e : Ending) (w' : World) : Prop := ∃ g, e = .returned (.agg #[.string ⟨#[77]⟩, .bool false, .int .u64 7, .slice none 0 0, .string ⟨#[]⟩, .slice (some ⟨g, 0, none⟩) 1 1, .slice none 0 0, .int .i64 0, .slice none 0 0]) ∧ Wr [] w w' ∧ w.heap.size ≤ g ∧ Blk w' g 98 #[.int .i64 0, .int .i64 0, .int .i64 0, .int .i64 0, .int .i64 1, .bool false]
theorem plain_e (w : World) : Calls Tryz.prog 28 #[] w (PlainE w) := by
 have zn := Blk.new w 30 #[.string ⟨#[]⟩, .bool false, .int .u64 0, .slice none 0 0, .string ⟨#[]⟩, .slice none 0 0, .slice none 0 0, .int .i64 0, .slice none 0 0]
 have rn := (Wr.refl [] w).alloc (.cells #[.string ⟨#[]⟩, .bool false, .int .u64 0, .slice none 0 0, .string ⟨#[]⟩, .slice none 0 0, .slice none 0 0, .int .i64 0, .slice none 0 0] 30)
 obtain ⟨wn, hwn⟩ : ∃ q, w.alloc (.cells #[.string ⟨#[]⟩, .bool false, .int .u64 0, .slice none 0 0, .string ⟨#[]⟩, .slice none 0 0, .slice none 0 0, .int .i64 0, .slice none 0 0] 30) = q := ⟨_, rfl⟩
 obtain ⟨z, hz⟩ : ∃ q, w.heap.size = q := ⟨_, rfl⟩
 rw [hwn] at zn rn
 rw [hz] at zn
 have pn := Blk.new wn 98 #[.int .i64 0, .int .i64 0, .int .i64 0, .int .i64 0, .int .i64 1, .bool false]
 have kp := (Wr.refl [] wn).alloc (.cells #[.int .i64 0, .int .i64 0, .int .i64 0, .int .i64 0, .int .i64 1, .bool false] 98)
 have zp := zn.wr0 kp
 obtain ⟨y0, y1, y2, y3, y4, y5, y6, y7, y8⟩ := c9q (zp)
 obtain ⟨f0, f1, f2, f3, f4, f5, f6, f7, f8⟩ := z9q (zp)
 have rp := rn.trans kp
 obtain ⟨wp, hwp⟩ : ∃ q, wn.alloc (.cells #[.int .i64 0, .int .i64 0, .int .i64 0, .int .i64 0, .int .i64 1, .bool false] 98) = q := ⟨_, rfl⟩
 obtain ⟨g, hg⟩ : ∃ q, wn.heap.size = q := ⟨_, rfl⟩
 have hzg : z < g := by rw [← hg]; exact zn.lt
 rw [hwp] at pn kp zp rp
 rw [hg] at pn
 have hwz : w.heap.size ≤ z := by omega
 have HWN := qh hwn
 have HZ := qh hz
 have HWP := qh hwp
 have HG := qh hg
 have ZP := qh zp
 have PN := qh pn
 have RP := qh rp
 clear hwn hz hwp hg zn rn pn kp zp rp
 go_in
 go_upto_region 1 with (fail)
 rw [HZ.out, HWN.out]
 go_wp2_with fail
 rw [HG.out, HWP.out]
 go_wp2_with fail
 refine bodyPost_ret (v := .agg #[.string ⟨#[77]⟩, .bool false, .int .u64 7, .slice none 0 0, .string ⟨#[]⟩, .slice (some ⟨g, 0, none⟩) 1 1, .slice none 0 0, .int .i64 0, .slice none 0 0]) ?_ rfl ?_
 ·have h9 := blk_set9 ZP.out (.string ⟨#[77]⟩) (.bool false) (.int .u64 7) (.slice none 0 0) (.string ⟨#[]⟩) (.slice (some ⟨g, 0, none⟩) 1 1) (.slice none 0 0) (.int .i64 0) (.slice none 0 0)
  obtain ⟨t0, t1, t2, t3, t4, t5, t6, t7, t8⟩ := c9q (h9)
  simp [results, Tryz.results28, go_sem, t0, t1, t2, t3, t4, t5, t6, t7, t8]
 ·have k9 := wr_set9 wp z (.string ⟨#[77]⟩) (.bool false) (.int .u64 7) (.slice none 0 0) (.string ⟨#[]⟩) (.slice (some ⟨g, 0, none⟩) 1 1) (.slice none 0 0) (.int .i64 0) (.slice none 0 0)
  exact ⟨g, rfl, wr_own2 (RP.out.nil (l := [z])) k9 hwz hwz, by omega, PN.out.wr k9 (by rw [qmsq]; omega)⟩
def plS : List UInt8 := fileL objKind (bodyL plainO)
theorem plain_b : objB plainO = true := by decide +kernel
theorem bad_b : objB badO = false := by decide +kernel
theorem plain_w : objW plainO := ⟨by decide, by simp [plainO], by intro i hi; simp [plainO] at hi⟩
theorem plain_enc : encodeP plainO = (plS, 0) := by unfold encodeP; rw [plain_b]; rfl
theorem plain_dec : decodeP plS = (plainO, 0) := decode_encode plainO plain_w plain_b
theorem pl_len : plS.length = 43 := by decide +kernel
theorem pl_drop : plS.drop 12 = [1, 77, 0, 0, 0, 0, 0, 0, 0, 0, 7, 0, 0, 0, 0, 1, 0, 0, 0, 0, 0, 0, 0, 0, 1, 0, 0, 0, 0, 0, 0] := by decide +kernel
theorem pl_take : plS.take 4 = [83, 69, 80, 79] := by decide +kernel
theorem pl_short : (decodeP [83, 69, 80, 79]).2 = 7 := by decide +kernel
theorem pl_more : (decodeP (plS ++ [120])).2 = 210 := by decide +kernel
theorem un_nil : (unpackP []).2.2 = 7 := by decide +kernel
theorem read_sym {f : FaceD} (hW : faceW f) (hm : mayP f = 0) : readSymP (symP f).1 = (canonF f, (symP f).2.1, 0) := by
 have e : symP f = (fileL symKind (faceL (canonF f)), keyL (faceL (canonF f)), 0) := by unfold symP; rw [if_pos hm]
 rw [e]
 unfold readSymP
 simp only
 rw [head_file symKind _ rfl]
 simp only
 rw [dec_enc (canonF f) (faceW_canon hW hm) (canon_may hm)]
 simp
theorem symP_len : (symP bareM).1.length ≤ 50000000000012 := by decide +kernel
theorem plain_may (w : World) (g : Nat) (h : Blk w g 98 #[.int .i64 0, .int .i64 0, .int .i64 0, .int .i64 0, .int .i64 1, .bool false]) : Calls Tryz.prog 14 #[.agg #[.string ⟨#[77]⟩, .bool false, .int .u64 7, .slice none 0 0, .string ⟨#[]⟩, .slice (some ⟨g, 0, none⟩) 1 1, .slice none 0 0, .int .i64 0, .slice none 0 0]] w fun e w' => e = .returned (.bool true) ∧ Wr [] w w' := by
 have := omay_any plainO _ _ _ _ _ w (plain_objL h)
 rw [plain_b] at this
 exact this
theorem bad_may (w : World) (g q : Nat) (h : Blk w g 98 #[.int .i64 0, .int .i64 0, .int .i64 0, .int .i64 0, .int .i64 1, .bool false]) (k : Blk w q 72 #[.string ⟨#[77]⟩, .int .u64 0]) : Calls Tryz.prog 14 #[.agg #[.string ⟨#[77]⟩, .bool false, .int .u64 7, .slice (some ⟨q, 0, none⟩) 1 1, .string ⟨#[]⟩, .slice (some ⟨g, 0, none⟩) 1 1, .slice none 0 0, .int .i64 0, .slice none 0 0]] w fun e w' => e = .returned (.bool false) ∧ Wr [] w w' := by
 have := omay_any badO _ _ _ _ _ w (bad_objL h k)
 rw [bad_b] at this
 exact this
theorem plain_same (w : World) (g : Nat) (vu vp vi vn : Value) (P : Nat → Prop) (hx : ObjL w P vu vp vi vn plainO) (h : Blk w g 98 #[.int .i64 0, .int .i64 0, .int .i64 0, .int .i64 0, .int .i64 1, .bool false]) :
  Calls Tryz.prog 16 #[.agg #[.string ⟨#[77]⟩, .bool false, .int .u64 7, vu, .string ⟨#[]⟩, vp, vi, .int .i64 0, vn], .agg #[.string ⟨#[77]⟩, .bool false, .int .u64 7, .slice none 0 0, .string ⟨#[]⟩, .slice (some ⟨g, 0, none⟩) 1 1, .slice none 0 0, .int .i64 0, .slice none 0 0]] w fun e w' => e = .returned (.bool true) ∧ Wr [] w w' := by
 have := osame_any plainO plainO _ _ _ _ _ _ _ _ _ _ w hx (plain_objL h)
 rw [eqB_true rfl] at this
 exact this
theorem alive21 (w : World) : Calls Tryz.prog 9 #[] w fun e w' => e = .returned (.bool true) ∧ Wr [] w w' := by
 have hplm : (43 : Nat) ≤ maxLen := by unfold maxLen; decide
 have cE := fun w g (h : Blk w g 98 #[.int .i64 0, .int .i64 0, .int .i64 0, .int .i64 0, .int .i64 1, .bool false]) => oenc_any plainO _ _ _ _ _ plain_w w (plain_objL h)
 unfold OEncR at cE
 rw [plain_enc] at cE
 have cD := fun w => odec_any plS (by rw [pl_len]; exact hplm) w
 unfold ODecR at cD
 rw [plain_dec] at cD
 have cS := fun w => odec_any [83, 69, 80, 79] (by unfold maxLen; decide) w
 unfold ODecR at cS
 rw [pl_short] at cS
 have cX := fun w => odec_any (plS ++ [120]) (by rw [qlaq, pl_len]; unfold maxLen; decide) w
 unfold ODecR at cX
 rw [pl_more] at cX
 have cU := fun w => unpack_any [] w
 unfold UnpR at cU
 rw [un_nil] at cU
 have cY := fun w => symbols_bare w
 unfold SymR at cY
 have cR := fun w => rsym_any (symP bareM).1 (by have := symP_len; unfold maxLen; omega) w
 unfold RSymR at cR
 rw [read_sym bare_w bare_may] at cR
 have hs3 : (symP bareM).2.2 = 0 := by unfold symP; rw [if_pos bare_may]
 have hcm : (canonF bareM).module = ⟨#[77]⟩ := rfl
 rw [hs3] at cY
 obtain ⟨S, hS⟩ : ∃ q, ansS plS = q := ⟨_, rfl⟩
 have hS2 : (⟨plS.toArray⟩ : ByteArray) = S := hS
 have hSz : S.size = 43 := by rw [← hS, ansS_size, pl_len]
 have hS12 : S.extract 12 43 = ansS [1, 77, 0, 0, 0, 0, 0, 0, 0, 0, 7, 0, 0, 0, 0, 1, 0, 0, 0, 0, 0, 0, 0, 0, 1, 0, 0, 0, 0, 0, 0] := by
  have := ansS_drop plS 12
  rw [hS, hSz, pl_drop] at this
  exact this
 have hS4 : S.extract 0 4 = ansS [83, 69, 80, 79] := by
  have := ansS_take plS 4
  rw [hS, pl_take] at this
  exact this
 have hSX : S ++ ⟨#[120]⟩ = ansS (plS ++ [120]) := by
  rw [← hS]
  apply ByteArray.ext
  rw [ByteArray.data_append]
  simp [ansS]
 rw [hS] at cD
 simp only [hS2] at cE
 obtain ⟨T, hT⟩ : ∃ q, ansS (symP bareM).1 = q := ⟨_, rfl⟩
 rw [hT] at cY cR
 obtain ⟨K, hK⟩ : ∃ q, (symP bareM).2.1 = q := ⟨_, rfl⟩
 rw [hK] at cY cR
 obtain ⟨SX, hSXX⟩ : ∃ q, ansS (plS ++ [120]) = q := ⟨_, rfl⟩
 rw [hSXX] at cX hSX
 generalize (decodeP (plS ++ [120])).1 = ox at cX
 generalize (decodeP [83, 69, 80, 79]).1 = os at cS
 generalize (unpackP []).1 = um at cU
 generalize (unpackP []).2.1 = ur at cU
 generalize hcf : canonF bareM = cf at cR hcm
 obtain ⟨cm, cu, ct, ci⟩ := cf
 simp only at hcm
 subst hcm
 have e12 : (S.extract 12 43).toList = [1, 77, 0, 0, 0, 0, 0, 0, 0, 0, 7, 0, 0, 0, 0, 1, 0, 0, 0, 0, 0, 0, 0, 0, 1, 0, 0, 0, 0, 0, 0] := by rw [hS12, ansS_list]
 have e4 : (S.extract 0 4).toList = [83, 69, 80, 79] := by rw [hS4, ansS_list]
 have CE := qh cE
 have CD := qh cD
 have CS := qh cS
 have CX := qh cX
 have CU := qh cU
 have CY := qh cY
 have CR := qh cR
 clear cE cD cS cX cU cY cR hs3 hS hS2 hS12 hS4 hT hK hSXX hcf hplm
 go_in
 go_wp2_with fail
 refine (plain_e _).mono ?_
 rintro e w1 ⟨g1, rfl, k1, _, b1⟩
 go_wp2_with fail
 refine (CE.out _ _ b1).mono ?_
 rintro e w2 ⟨rfl, k2⟩
 have R2 := qh (k1.trans k2)
 clear b1 k1 k2
 go_wp2_with fail
 refine (CD.out _).mono ?_
 rintro e w3 ⟨vu, vp, vi, vn, rfl, k3, ol⟩
 obtain ⟨Adu, ndu, cdu, rfl⟩ : ∃ A n c, vu = .slice A n c := by obtain ⟨A, c, e, _, _⟩ := Sl.form ol.uses; exact ⟨_, _, _, e⟩
 obtain ⟨Adp, ndp, cdp, rfl⟩ : ∃ A n c, vp = .slice A n c := by obtain ⟨A, c, e, _, _⟩ := Sl.form ol.mod.procs; exact ⟨_, _, _, e⟩
 obtain ⟨Adi, ndi, cdi, rfl⟩ : ∃ A n c, vi = .slice A n c := by obtain ⟨A, c, e, _, _⟩ := Sl.form ol.mod.imports; exact ⟨_, _, _, e⟩
 obtain ⟨Adn, ndn, cdn, rfl⟩ : ∃ A n c, vn = .slice A n c := by obtain ⟨A, c, e, _, _⟩ := Sl.form ol.mod.init; exact ⟨_, _, _, e⟩
 simp only [ObjD.val, ObjD.cells, plainO]
 have kq := (Wr.refl [] w3).alloc (.cells #[.string ⟨#[77]⟩, .bool false, .int .u64 7, .slice Adu ndu cdu, .string ⟨#[]⟩, .slice Adp ndp cdp, .slice Adi ndi cdi, .int .i64 0, .slice Adn ndn cdn] 30)
 have bq := Blk.new w3 30 #[.string ⟨#[77]⟩, .bool false, .int .u64 7, .slice Adu ndu cdu, .string ⟨#[]⟩, .slice Adp ndp cdp, .slice Adi ndi cdi, .int .i64 0, .slice Adn ndn cdn]
 have oq := ol.wr0 kq
 have rq := (R2.out.trans k3).trans kq
 go_upto_region 3 with (fail)
 generalize w3.alloc (.cells #[.string ⟨#[77]⟩, .bool false, .int .u64 7, .slice Adu ndu cdu, .string ⟨#[]⟩, .slice Adp ndp cdp, .slice Adi ndi cdi, .int .i64 0, .slice Adn ndn cdn] 30) = w4 at *
 generalize w3.heap.size = g3 at *
 have Bd := qh bq
 have Od := qh oq
 clear bq oq
 have R4 := qh rq
 clear rq kq k3 ol
 go_wp2_with fail
 refine (CY.out _).mono ?_
 rintro e w5 ⟨rfl, k5⟩
 have R5 := qh (R4.out.trans k5)
 have Bdn := Bd.out.wr0 k5
 have Bd := qh Bdn
 have Odn := Od.out.wr0 k5
 have Od := qh Odn
 clear k5 Bdn Odn
 go_wp2_with fail
 refine (CR.out _).mono ?_
 rintro e w6 ⟨vu, vt, vi, rfl, k6, fl⟩
 obtain ⟨⟨Af, nf, rfl, _, _⟩, ⟨Ag, ng, rfl, _, _⟩, ⟨Ah, nh, rfl, _, _⟩⟩ := fl.forms
 simp only [FaceD.val]
 have kq := (Wr.refl [] w6).alloc (.cells #[.string ⟨#[77]⟩, .slice Af cu.length nf, .slice Ag ct.length ng, .slice Ah ci.length nh] 55)
 have bq := Blk.new w6 55 #[.string ⟨#[77]⟩, .slice Af cu.length nf, .slice Ag ct.length ng, .slice Ah ci.length nh]
 have rq := (R5.out.trans k6).trans kq
 have Bdn := (Bd.out.wr0 k6).wr0 kq
 have Bd := qh Bdn
 have Odn := (Od.out.wr0 k6).wr0 kq
 have Od := qh Odn
 go_upto_region 5 with (fail)
 generalize w6.alloc (.cells #[.string ⟨#[77]⟩, .slice Af cu.length nf, .slice Ag ct.length ng, .slice Ah ci.length nh] 55) = w7 at *
 generalize w6.heap.size = g8 at *
 have Bf := qh bq
 have R7 := qh rq
 clear bq kq rq k6 fl Bdn Odn
 go_wp2_with fail
 refine (CS.out _).mono ?_
 rintro e w8 ⟨vu, vp, vi, vn, rfl, k8, ol⟩
 obtain ⟨Asu, nsu, csu, rfl⟩ : ∃ A n c, vu = .slice A n c := by obtain ⟨A, c, e, _, _⟩ := Sl.form ol.uses; exact ⟨_, _, _, e⟩
 obtain ⟨Asp, nsp, csp, rfl⟩ : ∃ A n c, vp = .slice A n c := by obtain ⟨A, c, e, _, _⟩ := Sl.form ol.mod.procs; exact ⟨_, _, _, e⟩
 obtain ⟨Asi, nsi, csi, rfl⟩ : ∃ A n c, vi = .slice A n c := by obtain ⟨A, c, e, _, _⟩ := Sl.form ol.mod.imports; exact ⟨_, _, _, e⟩
 obtain ⟨Asn, nsn, csn, rfl⟩ : ∃ A n c, vn = .slice A n c := by obtain ⟨A, c, e, _, _⟩ := Sl.form ol.mod.init; exact ⟨_, _, _, e⟩
 simp only [ObjD.val, ObjD.cells]
 have kq := (Wr.refl [] w8).alloc (.cells #[.string os.module, .bool os.main, .int .u64 os.key, .slice Asu nsu csu, .string os.mod.code, .slice Asp nsp csp, .slice Asi nsi csi, .int .i64 os.mod.data, .slice Asn nsn csn] 30)
 have rq := (R7.out.trans k8).trans kq
 have Bdn := (Bd.out.wr0 k8).wr0 kq
 have Bd := qh Bdn
 clear Bdn
 have Odn := (Od.out.wr0 k8).wr0 kq
 have Od := qh Odn
 clear Odn
 have Bfn := (Bf.out.wr0 k8).wr0 kq
 have Bf := qh Bfn
 clear Bfn
 go_upto_region 6 with (fail)
 generalize w8.alloc (.cells #[.string os.module, .bool os.main, .int .u64 os.key, .slice Asu nsu csu, .string os.mod.code, .slice Asp nsp csp, .slice Asi nsi csi, .int .i64 os.mod.data, .slice Asn nsn csn] 30) = w9 at *
 have R9 := qh rq
 clear rq kq k8 ol
 go_wp2_with fail
 refine (CX.out _).mono ?_
 rintro e w10 ⟨vu, vp, vi, vn, rfl, k10, ol⟩
 obtain ⟨Axu, nxu, cxu, rfl⟩ : ∃ A n c, vu = .slice A n c := by obtain ⟨A, c, e, _, _⟩ := Sl.form ol.uses; exact ⟨_, _, _, e⟩
 obtain ⟨Axp, nxp, cxp, rfl⟩ : ∃ A n c, vp = .slice A n c := by obtain ⟨A, c, e, _, _⟩ := Sl.form ol.mod.procs; exact ⟨_, _, _, e⟩
 obtain ⟨Axi, nxi, cxi, rfl⟩ : ∃ A n c, vi = .slice A n c := by obtain ⟨A, c, e, _, _⟩ := Sl.form ol.mod.imports; exact ⟨_, _, _, e⟩
 obtain ⟨Axn, nxn, cxn, rfl⟩ : ∃ A n c, vn = .slice A n c := by obtain ⟨A, c, e, _, _⟩ := Sl.form ol.mod.init; exact ⟨_, _, _, e⟩
 simp only [ObjD.val, ObjD.cells]
 have kq := (Wr.refl [] w10).alloc (.cells #[.string ox.module, .bool ox.main, .int .u64 ox.key, .slice Axu nxu cxu, .string ox.mod.code, .slice Axp nxp cxp, .slice Axi nxi cxi, .int .i64 ox.mod.data, .slice Axn nxn cxn] 30)
 have rq := (R9.out.trans k10).trans kq
 have Bdn := (Bd.out.wr0 k10).wr0 kq
 have Bd := qh Bdn
 clear Bdn
 have Odn := (Od.out.wr0 k10).wr0 kq
 have Od := qh Odn
 clear Odn
 have Bfn := (Bf.out.wr0 k10).wr0 kq
 have Bf := qh Bfn
 clear Bfn
 go_upto_region 7 with (fail)
 generalize w10.alloc (.cells #[.string ox.module, .bool ox.main, .int .u64 ox.key, .slice Axu nxu cxu, .string ox.mod.code, .slice Axp nxp cxp, .slice Axi nxi cxi, .int .i64 ox.mod.data, .slice Axn nxn cxn] 30) = w11 at *
 have R11 := qh rq
 clear rq kq k10 ol
 go_wp2_with fail
 refine (CU.out _).mono ?_
 rintro e w12 ⟨vp, vi, vn, rfl, k12, ml⟩
 obtain ⟨Amp, nmp, cmp, rfl⟩ : ∃ A n c, vp = .slice A n c := by obtain ⟨A, c, e, _, _⟩ := Sl.form ml.procs; exact ⟨_, _, _, e⟩
 obtain ⟨Ami, nmi, cmi, rfl⟩ : ∃ A n c, vi = .slice A n c := by obtain ⟨A, c, e, _, _⟩ := Sl.form ml.imports; exact ⟨_, _, _, e⟩
 obtain ⟨Amn, nmn, cmn, rfl⟩ : ∃ A n c, vn = .slice A n c := by obtain ⟨A, c, e, _, _⟩ := Sl.form ml.init; exact ⟨_, _, _, e⟩
 simp only [ModD.val, ModD.cells]
 have kq := (Wr.refl [] w12).alloc (.cells #[.string um.code, .slice Amp nmp cmp, .slice Ami nmi cmi, .int .i64 um.data, .slice Amn nmn cmn] 28)
 have rq := (R11.out.trans k12).trans kq
 have Bdn := (Bd.out.wr0 k12).wr0 kq
 have Bd := qh Bdn
 have Odn := (Od.out.wr0 k12).wr0 kq
 have Od := qh Odn
 have Bfn := (Bf.out.wr0 k12).wr0 kq
 have Bf := qh Bfn
 go_upto_region 8 with (fail)
 generalize w12.alloc (.cells #[.string um.code, .slice Amp nmp cmp, .slice Ami nmi cmi, .int .i64 um.data, .slice Amn nmn cmn] 28) = w13 at *
 have R13 := qh rq
 clear kq rq k12 ml Bdn Odn Bfn
 go_wp2_with fail
 refine (plain_e _).mono ?_
 rintro e w14 ⟨gp, rfl, k14, hgp, bp⟩
 have kq := (Wr.refl [] w14).alloc (.cells #[.string ⟨#[77]⟩, .bool false, .int .u64 7, .slice none 0 0, .string ⟨#[]⟩, .slice (some ⟨gp, 0, none⟩) 1 1, .slice none 0 0, .int .i64 0, .slice none 0 0] 30)
 have bq := Blk.new w14 30 #[.string ⟨#[77]⟩, .bool false, .int .u64 7, .slice none 0 0, .string ⟨#[]⟩, .slice (some ⟨gp, 0, none⟩) 1 1, .slice none 0 0, .int .i64 0, .slice none 0 0]
 have rq := (R13.out.trans k14).trans kq
 have hlt := bp.lt
 have bp2 := bp.wr0 kq
 have hd3 := (Bd.out.wr0 k14).lt
 have Bdn := (Bd.out.wr0 k14).wr0 kq
 have Bd := qh Bdn
 have hf8 := (Bf.out.wr0 k14).lt
 have Odn := ((Od.out.wr0 k14).into (Q := fun b => b < w14.heap.size) (fun b _ h => h)).wr0 kq
 have Od := qh Odn
 have Bfn := (Bf.out.wr0 k14).wr0 kq
 have Bf := qh Bfn
 go_upto_region 9 with (fail)
 have hw14 : w.heap.size ≤ w14.heap.size := Nat.le_trans R13.out.size k14.size
 generalize hw15 : w14.alloc (.cells #[.string ⟨#[77]⟩, .bool false, .int .u64 7, .slice none 0 0, .string ⟨#[]⟩, .slice (some ⟨gp, 0, none⟩) 1 1, .slice none 0 0, .int .i64 0, .slice none 0 0] 30) = w15 at *
 have hs15 : w15.heap.size = w14.heap.size + 1 := by rw [← hw15, qsiq]
 generalize hg18 : w14.heap.size = g18 at *
 clear hw15
 have HS15 := qh hs15
 have bu := Blk.new w15 72 #[.string ⟨#[77]⟩, .int .u64 0]
 have ku := (Wr.refl [] w15).alloc (.cells #[.string ⟨#[77]⟩, .int .u64 0] 72)
 have bo := bq.wr0 ku
 have f3 := bo.frozen 3
 have y3 := bo.cell 3
 simp only [qgaq, qgzq, qgsq] at y3
 have hgu : g18 < w15.heap.size := by omega
 go_upto_region 10 with (fail)
 have ks : Wr [g18] w15 (w15.setCell ⟨g18, 3, none⟩ (.slice (some ⟨g18 + 1, 0, none⟩) 1 1)) := (Wr.refl _ _).setOn (by simp) _
 have hsx : (w15.setCell ⟨g18, 3, none⟩ (.slice (some ⟨g18 + 1, 0, none⟩) 1 1)).heap.size = g18 + 1 := by simp [hs15]
 have bo1 := bq.set_ 3 (.slice (some ⟨g18 + 1, 0, none⟩) 1 1)
 simp only [qsaq, qszq, qssq] at bo1
 have bpx := bp2.wr ks (by rw [qmsq]; omega)
 have rwx := rq.setNew (b := g18) (o := 3) (by omega) (.slice (some ⟨g18 + 1, 0, none⟩) 1 1)
 have Bdx := Bd.out.wr ks (by rw [qmsq]; omega)
 have Odx := Od.out.keep ks (fun x hx => by rw [qmsq]; omega)
 have Bfx := Bf.out.wr ks (by rw [qmsq]; omega)
 generalize w15.setCell ⟨g18, 3, none⟩ (.slice (some ⟨g18 + 1, 0, none⟩) 1 1) = wx at *
 have bu2 := Blk.new wx 72 #[.string ⟨#[77]⟩, .int .u64 0]
 have kx := (Wr.refl [] wx).alloc (.cells #[.string ⟨#[77]⟩, .int .u64 0] 72)
 rw [hsx] at bu2
 have bo2 := bo1.wr0 kx
 have bp4 := bpx.wr0 kx
 have rw17 := rwx.trans kx
 have Bdn := Bdx.wr0 kx
 have Odn := Odx.wr0 kx
 have Bfn := Bfx.wr0 kx
 generalize wx.alloc (.cells #[.string ⟨#[77]⟩, .int .u64 0] 72) = wv at *
 generalize g18 + 1 = gq at *
 obtain ⟨d0, d1, d2, d3, d4, d5, d6, d7, d8⟩ := c9q (Bdn)
 have RV := qh rw17
 have OD := qh Odn
 have BF := qh Bfn
 have BO := qh bo2
 have BU := qh bu2
 have BP := qh bp4
 have ff := BF.out.cell 0
 simp only [qgaq, qgzq] at ff
 obtain ⟨o0, o1, o2, o3, o4, o5, o6, o7, o8⟩ := c9q (BO.out)
 clear Bdn Odn Bfn Bdx Odx Bfx bo bo1 bo2 bu bu2 bp bp2 bpx bp4 ku kx kq k14 rq rwx rw17 ks f3 y3 Bd Od Bf bq
 have Y1 := qh (fun W g (r : Wr [] wv W) (h : Blk W g 98 #[.int .i64 0, .int .i64 0, .int .i64 0, .int .i64 0, .int .i64 1, .bool false]) => plain_same W g _ _ _ _ _ (OD.out.wr0 r) h)
 have Y2 := qh (fun W (r : Wr [] wv W) => bad_may W _ _ (BP.out.wr0 r) (BU.out.wr0 r))
 have Y3 := qh (fun W g (h : Blk W g 98 #[.int .i64 0, .int .i64 0, .int .i64 0, .int .i64 0, .int .i64 1, .bool false]) => plain_may W g h)
 have hpe := qh plain_e
 go_upto_region 11 with (fail)
 refine begin2 [] (fun w' => w'.cell? ⟨g3, 0, none⟩ = some (.string ⟨#[77]⟩) ∧ w'.cell? ⟨g3, 1, none⟩ = some (.bool false) ∧ w'.cell? ⟨g3, 2, none⟩ = some (.int .u64 7) ∧ w'.cell? ⟨g3, 3, none⟩ = some (.slice Adu ndu cdu) ∧ w'.cell? ⟨g3, 4, none⟩ = some (.string ⟨#[]⟩) ∧ w'.cell? ⟨g3, 5, none⟩ = some (.slice Adp ndp cdp) ∧ w'.cell? ⟨g3, 6, none⟩ = some (.slice Adi ndi cdi) ∧ w'.cell? ⟨g3, 7, none⟩ = some (.int .i64 0) ∧ w'.cell? ⟨g3, 8, none⟩ = some (.slice Adn ndn cdn) ∧ w'.cell? ⟨g18, 0, none⟩ = some (.string ⟨#[77]⟩) ∧ w'.cell? ⟨g18, 1, none⟩ = some (.bool false) ∧ w'.cell? ⟨g18, 2, none⟩ = some (.int .u64 7) ∧ w'.cell? ⟨g18, 3, none⟩ = some (.slice (some ⟨gq, 0, none⟩) 1 1) ∧ w'.cell? ⟨g18, 4, none⟩ = some (.string ⟨#[]⟩) ∧ w'.cell? ⟨g18, 5, none⟩ = some (.slice (some ⟨gp, 0, none⟩) 1 1) ∧ w'.cell? ⟨g18, 6, none⟩ = some (.slice none 0 0) ∧ w'.cell? ⟨g18, 7, none⟩ = some (.int .i64 0) ∧ w'.cell? ⟨g18, 8, none⟩ = some (.slice none 0 0) ∧ w'.cell? ⟨g8, 0, none⟩ = some (.string ⟨#[77]⟩)) (by kernel_rfl) (fun W hW => ⟨hW.cellOf d0 (by simp), hW.cellOf d1 (by simp), hW.cellOf d2 (by simp), hW.cellOf d3 (by simp), hW.cellOf d4 (by simp), hW.cellOf d5 (by simp), hW.cellOf d6 (by simp), hW.cellOf d7 (by simp), hW.cellOf d8 (by simp), hW.cellOf o0 (by simp), hW.cellOf o1 (by simp), hW.cellOf o2 (by simp), hW.cellOf o3 (by simp), hW.cellOf o4 (by simp), hW.cellOf o5 (by simp), hW.cellOf o6 (by simp), hW.cellOf o7 (by simp), hW.cellOf o8 (by simp), hW.cellOf ff (by simp)⟩) fun HC hcl hS => ?_
 refine mva 0 (by rfl) (by kernel_rfl) (by rfl) (fun w' hS => by (try go_split_ands); go_simp; try rfl) hcl hS fun hcl1 hS1 => ?_
 clear hcl hS
 try simp only [Act.put, qsaq, qszq, qssq]
 refine mva 1 (by rfl) (by kernel_rfl) (by rfl) (fun w' hS => by (try go_split_ands); go_simp; try rfl) hcl1 hS1 fun hcl2 hS2 => ?_
 clear hcl1 hS1
 try simp only [Act.put, qsaq, qszq, qssq]
 refine mva 2 (by rfl) (by kernel_rfl) (by rfl) (fun w' hS => by (try go_split_ands); go_simp; try rfl) hcl2 hS2 fun hcl3 hS3 => ?_
 clear hcl2 hS2
 try simp only [Act.put, qsaq, qszq, qssq]
 refine mva 3 (by rfl) (by kernel_rfl) (by rfl) (fun w' hS => by (try go_split_ands); go_simp; try rfl) hcl3 hS3 fun hcl4 hS4 => ?_
 clear hcl3 hS3
 try simp only [Act.put, qsaq, qszq, qssq]
 refine mva 4 (by rfl) (by kernel_rfl) (by rfl) (fun w' hS => by (try go_split_ands); go_simp; try rfl) hcl4 hS4 fun hcl5 hS5 => ?_
 clear hcl4 hS4
 try simp only [Act.put, qsaq, qszq, qssq]
 refine mva 5 (by rfl) (by kernel_rfl) (by rfl) (fun w' hS => by (try go_split_ands); go_simp; try rfl) hcl5 hS5 fun hcl6 hS6 => ?_
 clear hcl5 hS5
 try simp only [Act.put, qsaq, qszq, qssq]
 refine mva 6 (by rfl) (by kernel_rfl) (by rfl) (fun w' hS => by (try go_split_ands); go_simp; try rfl) hcl6 hS6 fun hcl7 hS7 => ?_
 clear hcl6 hS6
 try simp only [Act.put, qsaq, qszq, qssq]
 refine mva 7 (by rfl) (by kernel_rfl) (by rfl) (fun w' hS => by (try go_split_ands); go_simp; try rfl) hcl7 hS7 fun hcl8 hS8 => ?_
 clear hcl7 hS7
 try simp only [Act.put, qsaq, qszq, qssq]
 refine mva 8 (by rfl) (by kernel_rfl) (by rfl) (fun w' hS => by (try go_split_ands); go_simp; try rfl) hcl8 hS8 fun hcl9 hS9 => ?_
 clear hcl8 hS8
 try simp only [Act.put, qsaq, qszq, qssq]
 refine mva 9 (by rfl) (by kernel_rfl) (by rfl) (fun w' hS => by (try go_split_ands); go_simp; try rfl) hcl9 hS9 fun hcl10 hS10 => ?_
 clear hcl9 hS9
 try simp only [Act.put, qsaq, qszq, qssq]
 refine mva 10 (by rfl) (by kernel_rfl) (by rfl) (fun w' hS => by (try go_split_ands); go_simp; try rfl) hcl10 hS10 fun hcl11 hS11 => ?_
 clear hcl10 hS10
 try simp only [Act.put, qsaq, qszq, qssq]
 refine mva 11 (by rfl) (by kernel_rfl) (by rfl) (fun w' hS => by (try go_split_ands); go_simp; try rfl) hcl11 hS11 fun hcl12 hS12 => ?_
 clear hcl11 hS11
 try simp only [Act.put, qsaq, qszq, qssq]
 refine mva 12 (by rfl) (by kernel_rfl) (by rfl) (fun w' hS => by (try go_split_ands); go_simp; try rfl) hcl12 hS12 fun hcl13 hS13 => ?_
 clear hcl12 hS12
 try simp only [Act.put, qsaq, qszq, qssq]
 refine mva 13 (by rfl) (by kernel_rfl) (by rfl) (fun w' hS => by (try go_split_ands); go_simp; try rfl) hcl13 hS13 fun hcl14 hS14 => ?_
 clear hcl13 hS13
 try simp only [Act.put, qsaq, qszq, qssq]
 refine mva 14 (by rfl) (by kernel_rfl) (by rfl) (fun w' hS => by (try go_split_ands); go_simp; try rfl) hcl14 hS14 fun hcl15 hS15 => ?_
 clear hcl14 hS14
 try simp only [Act.put, qsaq, qszq, qssq]
 refine mva 15 (by rfl) (by kernel_rfl) (by rfl) (fun w' hS => by (try go_split_ands); go_simp; try rfl) hcl15 hS15 fun hcl16 hS16 => ?_
 clear hcl15 hS15
 try simp only [Act.put, qsaq, qszq, qssq]
 refine mva 16 (by rfl) (by kernel_rfl) (by rfl) (fun w' hS => by (try go_split_ands); go_simp; try rfl) hcl16 hS16 fun hcl17 hS17 => ?_
 clear hcl16 hS16
 try simp only [Act.put, qsaq, qszq, qssq]
 refine mva 17 (by rfl) (by kernel_rfl) (by rfl) (fun w' hS => by (try go_split_ands); go_simp; try rfl) hcl17 hS17 fun hcl18 hS18 => ?_
 clear hcl17 hS17
 try simp only [Act.put, qsaq, qszq, qssq]
 refine mva 18 (by rfl) (by kernel_rfl) (by rfl) (fun w' hS => by (try go_split_ands); go_simp; try rfl) hcl18 hS18 fun hcl19 hS19 => ?_
 clear hcl18 hS18
 try simp only [Act.put, qsaq, qszq, qssq]
 refine mva 19 (by rfl) (by kernel_rfl) (by rfl) (fun w' hS => by (try go_split_ands); go_simp; try rfl) hcl19 hS19 fun hcl20 hS20 => ?_
 clear hcl19 hS19
 try simp only [Act.put, qsaq, qszq, qssq]
 refine mva 20 (by rfl) (by kernel_rfl) (by rfl) (fun w' hS => by (try go_split_ands); go_simp; try rfl) hcl20 hS20 fun hcl21 hS21 => ?_
 clear hcl20 hS20
 try simp only [Act.put, qsaq, qszq, qssq]
 refine mva 21 (by rfl) (by kernel_rfl) (by rfl) (fun w' hS => by (try go_split_ands); go_simp; try rfl) hcl21 hS21 fun hcl22 hS22 => ?_
 clear hcl21 hS21
 try simp only [Act.put, qsaq, qszq, qssq]
 refine mva 22 (by rfl) (by kernel_rfl) (by rfl) (fun w' hS => by (try go_split_ands); go_simp; try rfl) hcl22 hS22 fun hcl23 hS23 => ?_
 clear hcl22 hS22
 try simp only [Act.put, qsaq, qszq, qssq]
 refine mva 23 (by rfl) (by kernel_rfl) (by rfl) (fun w' hS => by (try go_split_ands); go_simp; try rfl) hcl23 hS23 fun hcl24 hS24 => ?_
 clear hcl23 hS23
 try simp only [Act.put, qsaq, qszq, qssq]
 refine mva 24 (by rfl) (by kernel_rfl) (by rfl) (fun w' hS => by (try go_split_ands); go_simp; try rfl) hcl24 hS24 fun hcl25 hS25 => ?_
 clear hcl24 hS24
 try simp only [Act.put, qsaq, qszq, qssq]
 refine mva 25 (by rfl) (by kernel_rfl) (by rfl) (fun w' hS => by (try go_split_ands); go_simp; try rfl) hcl25 hS25 fun hcl26 hS26 => ?_
 clear hcl25 hS25
 try simp only [Act.put, qsaq, qszq, qssq]
 refine mva 26 (by rfl) (by kernel_rfl) (by rfl) (fun w' hS => by (try go_split_ands); go_simp; try rfl) hcl26 hS26 fun hcl27 hS27 => ?_
 clear hcl26 hS26
 try simp only [Act.put, qsaq, qszq, qssq]
 refine st0 27 (by rfl) (by kernel_rfl) hcl27 fun K hK => ?_
 go_simp
 refine (hpe.out _).mono ?_
 rintro e v1 ⟨p1, rfl, s1, _, b1⟩
 have B1 := qh b1
 clear b1
 refine hK _ _ (HC.out _ ((Wr.refl [] wv).drew.trans s1)) (fun hcl28 => ?_)
 clear hK K hcl27 hS27
 try simp only [Act.put, qsaq, qszq, qssq]
 refine st0 28 (by rfl) (by kernel_rfl) hcl28 fun K hK => ?_
 go_simp
 refine (Y1.out _ _ ((Wr.refl [] wv).drew.trans s1) B1.out).mono ?_
 rintro e v2 ⟨rfl, s2⟩
 refine hK _ _ (HC.out _ (((Wr.refl [] wv).drew.trans s1).trans s2)) (fun hcl29 => ?_)
 clear hK K hcl28
 try simp only [Act.put, qsaq, qszq, qssq]
 refine wpAnyL_take (i := 29) (oi := ?oi30) (v := ?v30) ?hi30 (by kernel_rfl) (by kernel_rfl) (by kernel_rfl) (fun _ _ _ h => h) (alwO_take _) ?hy30 hcl29 (HC.out _ (((Wr.refl [] wv).drew.trans s1).trans s2)) ?rest30
 case hi30 =>
  simp only [qgaq, qgsq, qgzq]
  rfl
 case hy30 =>
  refine yields_alwO (Or.inl ⟨by rfl, fun w' hS => ?_⟩)
  try go_split_ands
  go_simp
  try rfl
 case rest30 =>
 intro hcl30 hS30
 clear hcl29
 try simp only [Act.put, qsaq, qszq, qssq]
 refine mva 30 (by rfl) (by kernel_rfl) (by rfl) (fun w' hS => by (try go_split_ands); go_simp; try rfl) hcl30 hS30 fun hcl31 hS31 => ?_
 clear hcl30 hS30
 try simp only [Act.put, qsaq, qszq, qssq]
 refine mva 31 (by rfl) (by kernel_rfl) (by rfl) (fun w' hS => by (try go_split_ands); go_simp; try rfl) hcl31 hS31 fun hcl32 hS32 => ?_
 clear hcl31 hS31
 try simp only [Act.put, qsaq, qszq, qssq]
 refine mva 32 (by rfl) (by kernel_rfl) (by rfl) (fun w' hS => by (try go_split_ands); go_simp; try rfl) hcl32 hS32 fun hcl33 hS33 => ?_
 clear hcl32 hS32
 try simp only [Act.put, qsaq, qszq, qssq]
 refine mva 33 (by rfl) (by kernel_rfl) (by rfl) (fun w' hS => by (try go_split_ands); go_simp; try rfl) hcl33 hS33 fun hcl34 hS34 => ?_
 clear hcl33 hS33
 try simp only [Act.put, qsaq, qszq, qssq]
 refine mva 34 (by rfl) (by kernel_rfl) (by rfl) (fun w' hS => by (try go_split_ands); go_simp; try rfl) hcl34 hS34 fun hcl35 hS35 => ?_
 clear hcl34 hS34
 try simp only [Act.put, qsaq, qszq, qssq]
 refine mva 35 (by rfl) (by kernel_rfl) (by rfl) (fun w' hS => by (try go_split_ands); go_simp; try rfl) hcl35 hS35 fun hcl36 hS36 => ?_
 clear hcl35 hS35
 try simp only [Act.put, qsaq, qszq, qssq]
 refine mva 36 (by rfl) (by kernel_rfl) (by rfl) (fun w' hS => by (try go_split_ands); go_simp; try rfl) hcl36 hS36 fun hcl37 hS37 => ?_
 clear hcl36 hS36
 try simp only [Act.put, qsaq, qszq, qssq]
 refine mva 37 (by rfl) (by kernel_rfl) (by rfl) (fun w' hS => by (try go_split_ands); go_simp; try rfl) hcl37 hS37 fun hcl38 hS38 => ?_
 clear hcl37 hS37
 try simp only [Act.put, qsaq, qszq, qssq]
 refine mva 38 (by rfl) (by kernel_rfl) (by rfl) (fun w' hS => by (try go_split_ands); go_simp; try rfl) hcl38 hS38 fun hcl39 hS39 => ?_
 clear hcl38 hS38
 try simp only [Act.put, qsaq, qszq, qssq]
 refine mva 39 (by rfl) (by kernel_rfl) (by rfl) (fun w' hS => by (try go_split_ands); go_simp; try rfl) hcl39 hS39 fun hcl40 hS40 => ?_
 clear hcl39 hS39
 try simp only [Act.put, qsaq, qszq, qssq]
 refine mva 40 (by rfl) (by kernel_rfl) (by rfl) (fun w' hS => by (try go_split_ands); go_simp; try rfl) hcl40 hS40 fun hcl41 hS41 => ?_
 clear hcl40 hS40
 try simp only [Act.put, qsaq, qszq, qssq]
 refine mva 41 (by rfl) (by kernel_rfl) (by rfl) (fun w' hS => by (try go_split_ands); go_simp; try rfl) hcl41 hS41 fun hcl42 hS42 => ?_
 clear hcl41 hS41
 try simp only [Act.put, qsaq, qszq, qssq]
 refine mva 42 (by rfl) (by kernel_rfl) (by rfl) (fun w' hS => by (try go_split_ands); go_simp; try rfl) hcl42 hS42 fun hcl43 hS43 => ?_
 clear hcl42 hS42
 try simp only [Act.put, qsaq, qszq, qssq]
 refine mva 43 (by rfl) (by kernel_rfl) (by rfl) (fun w' hS => by (try go_split_ands); go_simp; try rfl) hcl43 hS43 fun hcl44 hS44 => ?_
 clear hcl43 hS43
 try simp only [Act.put, qsaq, qszq, qssq]
 refine mva 44 (by rfl) (by kernel_rfl) (by rfl) (fun w' hS => by (try go_split_ands); go_simp; try rfl) hcl44 hS44 fun hcl45 hS45 => ?_
 clear hcl44 hS44
 try simp only [Act.put, qsaq, qszq, qssq]
 refine mva 45 (by rfl) (by kernel_rfl) (by rfl) (fun w' hS => by (try go_split_ands); go_simp; try rfl) hcl45 hS45 fun hcl46 hS46 => ?_
 clear hcl45 hS45
 try simp only [Act.put, qsaq, qszq, qssq]
 refine mva 46 (by rfl) (by kernel_rfl) (by rfl) (fun w' hS => by (try go_split_ands); go_simp; try rfl) hcl46 hS46 fun hcl47 hS47 => ?_
 clear hcl46 hS46
 try simp only [Act.put, qsaq, qszq, qssq]
 refine mva 47 (by rfl) (by kernel_rfl) (by rfl) (fun w' hS => by (try go_split_ands); go_simp; try rfl) hcl47 hS47 fun hcl48 hS48 => ?_
 clear hcl47 hS47
 try simp only [Act.put, qsaq, qszq, qssq]
 refine mva 48 (by rfl) (by kernel_rfl) (by rfl) (fun w' hS => by (try go_split_ands); go_simp; try rfl) hcl48 hS48 fun hcl49 hS49 => ?_
 clear hcl48 hS48
 try simp only [Act.put, qsaq, qszq, qssq]
 refine mva 49 (by rfl) (by kernel_rfl) (by rfl) (fun w' hS => by (try go_split_ands); go_simp; try rfl) hcl49 hS49 fun hcl50 hS50 => ?_
 clear hcl49 hS49
 try simp only [Act.put, qsaq, qszq, qssq]
 refine mva 50 (by rfl) (by kernel_rfl) (by rfl) (fun w' hS => by (try go_split_ands); go_simp; try rfl) hcl50 hS50 fun hcl51 hS51 => ?_
 clear hcl50 hS50
 try simp only [Act.put, qsaq, qszq, qssq]
 refine mva 51 (by rfl) (by kernel_rfl) (by rfl) (fun w' hS => by (try go_split_ands); go_simp; try rfl) hcl51 hS51 fun hcl52 hS52 => ?_
 clear hcl51 hS51
 try simp only [Act.put, qsaq, qszq, qssq]
 refine mva 52 (by rfl) (by kernel_rfl) (by rfl) (fun w' hS => by (try go_split_ands); go_simp; try rfl) hcl52 hS52 fun hcl53 hS53 => ?_
 clear hcl52 hS52
 try simp only [Act.put, qsaq, qszq, qssq]
 refine mva 53 (by rfl) (by kernel_rfl) (by rfl) (fun w' hS => by (try go_split_ands); go_simp; try rfl) hcl53 hS53 fun hcl54 hS54 => ?_
 clear hcl53 hS53
 try simp only [Act.put, qsaq, qszq, qssq]
 refine mva 54 (by rfl) (by kernel_rfl) (by rfl) (fun w' hS => by (try go_split_ands); go_simp; try rfl) hcl54 hS54 fun hcl55 hS55 => ?_
 clear hcl54 hS54
 try simp only [Act.put, qsaq, qszq, qssq]
 refine mva 55 (by rfl) (by kernel_rfl) (by rfl) (fun w' hS => by (try go_split_ands); go_simp; try rfl) hcl55 hS55 fun hcl56 hS56 => ?_
 clear hcl55 hS55
 try simp only [Act.put, qsaq, qszq, qssq]
 refine mva 56 (by rfl) (by kernel_rfl) (by rfl) (fun w' hS => by (try go_split_ands); go_simp; try rfl) hcl56 hS56 fun hcl57 hS57 => ?_
 clear hcl56 hS56
 try simp only [Act.put, qsaq, qszq, qssq]
 refine mva 57 (by rfl) (by kernel_rfl) (by rfl) (fun w' hS => by (try go_split_ands); go_simp; try rfl) hcl57 hS57 fun hcl58 hS58 => ?_
 clear hcl57 hS57
 try simp only [Act.put, qsaq, qszq, qssq]
 refine mva 58 (by rfl) (by kernel_rfl) (by rfl) (fun w' hS => by (try go_split_ands); go_simp; try rfl) hcl58 hS58 fun hcl59 hS59 => ?_
 clear hcl58 hS58
 try simp only [Act.put, qsaq, qszq, qssq]
 refine mva 59 (by rfl) (by kernel_rfl) (by rfl) (fun w' hS => by (try go_split_ands); go_simp; try rfl) hcl59 hS59 fun hcl60 hS60 => ?_
 clear hcl59 hS59
 try simp only [Act.put, qsaq, qszq, qssq]
 refine mva 60 (by rfl) (by kernel_rfl) (by rfl) (fun w' hS => by (try go_split_ands); go_simp; try rfl) hcl60 hS60 fun hcl61 hS61 => ?_
 clear hcl60 hS60
 try simp only [Act.put, qsaq, qszq, qssq]
 refine mva 61 (by rfl) (by kernel_rfl) (by rfl) (fun w' hS => by (try go_split_ands); go_simp; try rfl) hcl61 hS61 fun hcl62 hS62 => ?_
 clear hcl61 hS61
 try simp only [Act.put, qsaq, qszq, qssq]
 refine st0 62 (by rfl) (by kernel_rfl) hcl62 fun K hK => ?_
 go_simp
 refine (Y2.out _ (((Wr.refl [] wv).drew.trans s1).trans s2)).mono ?_
 rintro e v3 ⟨rfl, s3⟩
 refine hK _ _ (HC.out _ ((((Wr.refl [] wv).drew.trans s1).trans s2).trans s3)) (fun hcl63 => ?_)
 clear hK K hcl62 hS62
 try simp only [Act.put, qsaq, qszq, qssq]
 refine wpAnyL_take (i := 63) (oi := ?oi64) (v := ?v64) ?hi64 (by kernel_rfl) (by kernel_rfl) (by kernel_rfl) (fun _ _ _ h => h) (alwO_take _) ?hy64 hcl63 (HC.out _ ((((Wr.refl [] wv).drew.trans s1).trans s2).trans s3)) ?rest64
 case hi64 =>
  simp only [qgaq, qgsq, qgzq]
  rfl
 case hy64 =>
  refine yields_alwO (Or.inl ⟨by rfl, fun w' hS => ?_⟩)
  try go_split_ands
  go_simp
  try rfl
 case rest64 =>
 intro hcl64 hS64
 clear hcl63
 try simp only [Act.put, qsaq, qszq, qssq]
 refine mva 64 (by rfl) (by kernel_rfl) (by rfl) (fun w' hS => by (try go_split_ands); go_simp; try rfl) hcl64 hS64 fun hcl65 hS65 => ?_
 clear hcl64 hS64
 try simp only [Act.put, qsaq, qszq, qssq]
 refine mva 65 (by rfl) (by kernel_rfl) (by rfl) (fun w' hS => by (try go_split_ands); go_simp; try rfl) hcl65 hS65 fun hcl66 hS66 => ?_
 clear hcl65 hS65
 try simp only [Act.put, qsaq, qszq, qssq]
 refine st0 66 (by rfl) (by kernel_rfl) hcl66 fun K hK => ?_
 go_simp
 refine (hpe.out _).mono ?_
 rintro e v4 ⟨p4, rfl, s4, _, b4⟩
 have B4 := qh b4
 clear b4
 refine hK _ _ (HC.out _ (((((Wr.refl [] wv).drew.trans s1).trans s2).trans s3).trans s4)) (fun hcl67 => ?_)
 clear hK K hcl66 hS66
 try simp only [Act.put, qsaq, qszq, qssq]
 refine st0 67 (by rfl) (by kernel_rfl) hcl67 fun K hK => ?_
 go_simp
 refine (Y3.out _ _ B4.out).mono ?_
 rintro e v5 ⟨rfl, s5⟩
 refine hK _ _ (HC.out _ ((((((Wr.refl [] wv).drew.trans s1).trans s2).trans s3).trans s4).trans s5)) (fun hcl68 => ?_)
 clear hK K hcl67
 try simp only [Act.put, qsaq, qszq, qssq]
 refine wpAnyL_take (i := 68) (oi := ?oi69) (v := ?v69) ?hi69 (by kernel_rfl) (by kernel_rfl) (by kernel_rfl) (fun _ _ _ h => h) (alwO_take _) ?hy69 hcl68 (HC.out _ ((((((Wr.refl [] wv).drew.trans s1).trans s2).trans s3).trans s4).trans s5)) ?rest69
 case hi69 =>
  simp only [qgaq, qgsq, qgzq]
  rfl
 case hy69 =>
  refine yields_alwO (Or.inl ⟨by rfl, fun w' hS => ?_⟩)
  try go_split_ands
  go_simp
  try rfl
 case rest69 =>
 intro hcl69 hS69
 clear hcl68
 try simp only [Act.put, qsaq, qszq, qssq]
 refine mva 69 (by rfl) (by kernel_rfl) (by rfl) (fun w' hS => by (try go_split_ands); go_simp; try rfl) hcl69 hS69 fun hcl70 hS70 => ?_
 clear hcl69 hS69
 try simp only [Act.put, qsaq, qszq, qssq]
 refine wpAnyL_done (by kernel_rfl) (NoPanic.normal ?_) _
 try simp only [Act.put, qsaq, qszq, qssq]
 go_wp2_with fail
 go_ret
 exact ⟨rfl, RV.out.trans (((((((Wr.refl [] wv).drew.trans s1).trans s2).trans s3).trans s4).trans s5))⟩
end Go.Proofs.YtildcdgobdfieaaGreat
namespace Go.Proofs.YtildcdgobdfieaaGreat
open Go.RowKit
open Go.RowKit
end Go.Proofs.YtildcdgobdfieaaGreat
