/- ObjBack: walked. Conditions: numbers are within their kinds. -/
import Derived.Test.YtildcdgobdfieaaGreatBK01
import Derived.Test.YtildcdgobdfieaaGreatBK43
import Derived.Test.YtildcdgobdfieaaGreatBK44
set_option linter.unusedVariables false
set_option linter.unusedSimpArgs false
set_option maxRecDepth 100000
set_option maxHeartbeats 32000000
namespace Go.Proofs.YtildcdgobdfieaaGreat
open Go.RowKit
theorem file_len (kind l : List UInt8) : (fileL kind l).length = kind.length + 8 + l.length := by
 unfold fileL
 rw [List.length_append, List.length_append, numL_len]
theorem back_enc {a b : ObjD} (wa : objW a) (wb : objW b) (ka : objB a = true) (kb : objB b = true) : ((ansS (fileL objKind (bodyL a))).toList == (ansS (fileL objKind (bodyL b))).toList) = eqB a b := by
 rw [ansS_list, ansS_list]
 by_cases h : a = b
 ·rw [h, eqB_true rfl]
  simp
 ·rw [eqB_false h, beq_eq_false_iff_ne]
  intro e
  exact h (encode_inj a b wa wb ka kb e)
theorem back_set {a : ObjD} (wa : objW a) (ka : objB a = true) (k byN : Nat) (hk : k < (fileL objKind (bodyL a)).length) (hb : byN < 256) :
  ((decodeP ((fileL objKind (bodyL a)).set k (UInt8.ofNat (((fileL objKind (bodyL a))[k]'hk).toNat ^^^ byN)))).2 == 0) = ((byN : Int) == 0) := by
 by_cases h : byN = 0
 ·subst h
  rw [Nat.xor_zero, UInt8.ofNat_toNat, List.set_getElem_self, decode_encode a wa ka]
  rfl
 ·have h1 := decode_set (bodyL a) k (UInt8.ofNat (((fileL objKind (bodyL a))[k]'hk).toNat ^^^ byN)) hk (fun e => by
   have e2 := congrArg UInt8.toNat e
   rw [UInt8.toNat_ofNat', Nat.mod_eq_of_lt (Nat.xor_lt_two_pow (n := 8) (UInt8.toNat_lt _) (by omega))] at e2
   exact h ((xorO_zero _ _).1 e2))
  have h2 : ((byN : Int) == 0) = false := by simp only [beq_eq_false_iff_ne, ne_eq]; omega
  rw [h2, beq_eq_false_iff_ne]
  exact h1
theorem objBack_any (a b : ObjD) (vu vp vi vn uu up ui un : Value) (wa : objW a) (wb : objW b) (behind : ByteArray) (at_ byN : Nat) (hat : at_ < 65536) (hby : byN < 256) (w : World)
  (hx : ObjL w (fun _ => True) vu vp vi vn a) (hy : ObjL w (fun _ => True) uu up ui un b) :
  Calls Tryz.prog 5 #[a.val vu vp vi vn, b.val uu up ui un, .string behind, .int .u16 (at_ : Int), .int .u8 (byN : Int)] w fun e w' => e = .returned (.bool true) ∧ Wr [] w w' := by
 unfold ObjD.val ObjD.cells
 obtain ⟨Au, cu, rfl, lcu, mcu⟩ := Sl.form hx.uses
 obtain ⟨Ap, cp, rfl, lcp, mcp⟩ := Sl.form hx.mod.procs
 obtain ⟨Ai, ci, rfl, lci, mci⟩ := Sl.form hx.mod.imports
 obtain ⟨An, cn, rfl, lcn, mcn⟩ := Sl.form hx.mod.init
 obtain ⟨Bu, du, rfl, ldu, mdu⟩ := Sl.form hy.uses
 obtain ⟨Bp, dp, rfl, ldp, mdp⟩ := Sl.form hy.mod.procs
 obtain ⟨Bi, di, rfl, ldi, mdi⟩ := Sl.form hy.mod.imports
 obtain ⟨Bn, dn, rfl, ldn, mdn⟩ := Sl.form hy.mod.init
 obtain ⟨wa0, hwa⟩ : ∃ q, w.alloc (.cells #[.string a.module, .bool a.main, .int .u64 a.key, .slice Au a.uses.length cu, .string a.mod.code, .slice Ap a.mod.procs.length cp, .slice Ai a.mod.imports.length ci, .int .i64 a.mod.data, .slice An a.mod.init.length cn] 30) = q := ⟨_, rfl⟩
 obtain ⟨g, hg⟩ : ∃ q, w.heap.size = q := ⟨_, rfl⟩
 have sa : wa0.heap.size = g + 1 := by rw [← hwa, World.size_alloc, hg]
 obtain ⟨w0, hw0⟩ : ∃ q, wa0.alloc (.cells #[.string b.module, .bool b.main, .int .u64 b.key, .slice Bu b.uses.length du, .string b.mod.code, .slice Bp b.mod.procs.length dp, .slice Bi b.mod.imports.length di, .int .i64 b.mod.data, .slice Bn b.mod.init.length dn] 30) = q := ⟨_, rfl⟩
 have ra : Wr [] w wa0 := by rw [← hwa]; exact (Wr.refl _ _).alloc _
 have rb : Wr [] wa0 w0 := by rw [← hw0]; exact (Wr.refl _ _).alloc _
 have bX : Blk w0 g 30 #[.string a.module, .bool a.main, .int .u64 a.key, .slice Au a.uses.length cu, .string a.mod.code, .slice Ap a.mod.procs.length cp, .slice Ai a.mod.imports.length ci, .int .i64 a.mod.data, .slice An a.mod.init.length cn] := by
  have := (show Blk wa0 g 30 #[.string a.module, .bool a.main, .int .u64 a.key, .slice Au a.uses.length cu, .string a.mod.code, .slice Ap a.mod.procs.length cp, .slice Ai a.mod.imports.length ci, .int .i64 a.mod.data, .slice An a.mod.init.length cn] by rw [← hwa, ← hg]; exact Blk.new _ _ _)
  exact this.wr0 rb
 have bY : Blk w0 (g + 1) 30 #[.string b.module, .bool b.main, .int .u64 b.key, .slice Bu b.uses.length du, .string b.mod.code, .slice Bp b.mod.procs.length dp, .slice Bi b.mod.imports.length di, .int .i64 b.mod.data, .slice Bn b.mod.init.length dn] := by rw [← hw0, ← sa]; exact Blk.new _ _ _
 have hw0' : (w.alloc (.cells #[.string a.module, .bool a.main, .int .u64 a.key, .slice Au a.uses.length cu, .string a.mod.code, .slice Ap a.mod.procs.length cp, .slice Ai a.mod.imports.length ci, .int .i64 a.mod.data, .slice An a.mod.init.length cn] 30)).alloc (.cells #[.string b.module, .bool b.main, .int .u64 b.key, .slice Bu b.uses.length du, .string b.mod.code, .slice Bp b.mod.procs.length dp, .slice Bi b.mod.imports.length di, .int .i64 b.mod.data, .slice Bn b.mod.init.length dn] 30) = w0 := by rw [hwa, hw0]
 have acc := ra.trans rb
 have HX := qh (hx.wr0 acc)
 have HY := qh (hy.wr0 acc)
 have ACC := qh acc
 have BX := qh bX
 have BY := qh bY
 have Hw0 := qh hw0'
 have Hg := qh hg
 have HAL := qh alive21
 clear hx hy hwa hw0 hw0' hg sa ra rb acc bX bY
 have hla := large21_any a _ _ _ _ _ w0 HX.out
 have hlb := fun W (hW : Wr [] w0 W) => large21_any b _ _ _ _ _ W (HY.out.wr0 hW)
 have hea := fun W (hW : Wr [] w0 W) => oenc_any a _ _ _ _ _ wa W (HX.out.wr0 hW)
 have heb := fun W (hW : Wr [] w0 W) => oenc_any b _ _ _ _ _ wb W (HY.out.wr0 hW)
 have hma := fun W (hW : Wr [] w0 W) => omay_any a _ _ _ _ _ W (HX.out.wr0 hW)
 unfold ObjD.val ObjD.cells at hla hlb hea heb hma
 have HLA := qh hla
 have HLB := qh hlb
 have HEAW := qh hea
 have HOBW := qh heb
 have HMA := qh hma
 obtain ⟨FA, hFA⟩ : ∃ q, fileL objKind (bodyL a) = q := ⟨_, rfl⟩
 have HFA := qh hFA
 clear hla hlb hea heb hma hFA
 go_enter Tryz.func5, Tryz.ntmps5
 go_upto_region 1 with (fail)
 rw [Hw0.out, Hg.out]
 have x0 := (BX.out).cell 0
 have x1 := (BX.out).cell 1
 have x2 := (BX.out).cell 2
 have x3 := (BX.out).cell 3
 have x4 := (BX.out).cell 4
 have x5 := (BX.out).cell 5
 have x6 := (BX.out).cell 6
 have x7 := (BX.out).cell 7
 have x8 := (BX.out).cell 8
 simp only [qgaq, qgzq, qgsq] at x0 x1 x2 x3 x4 x5 x6 x7 x8
 have y0 := (BY.out).cell 0
 have y1 := (BY.out).cell 1
 have y2 := (BY.out).cell 2
 have y3 := (BY.out).cell 3
 have y4 := (BY.out).cell 4
 have y5 := (BY.out).cell 5
 have y6 := (BY.out).cell 6
 have y7 := (BY.out).cell 7
 have y8 := (BY.out).cell 8
 simp only [qgaq, qgzq, qgsq] at y0 y1 y2 y3 y4 y5 y6 y7 y8
 go_wp2_with fail
 refine HLA.out.mono ?_
 rintro e w1 ⟨ra, rfl, k1⟩
 have R1 := qh k1
 clear k1 x0 x1 x2 x3 x4 x5 x6 x7 x8 y0 y1 y2 y3 y4 y5 y6 y7 y8
 cases ra with
 | true =>
  go_wp2_with fail
  refine (HAL.out _).mono ?_
  rintro e wz ⟨rfl, kz⟩
  go_wp2_with fail
  go_ret
  exact ⟨rfl, ACC.out.trans ((R1.out).trans kz)⟩
 | false =>
  have y0 := (BY.out.wr0 R1.out).cell 0
  have y1 := (BY.out.wr0 R1.out).cell 1
  have y2 := (BY.out.wr0 R1.out).cell 2
  have y3 := (BY.out.wr0 R1.out).cell 3
  have y4 := (BY.out.wr0 R1.out).cell 4
  have y5 := (BY.out.wr0 R1.out).cell 5
  have y6 := (BY.out.wr0 R1.out).cell 6
  have y7 := (BY.out.wr0 R1.out).cell 7
  have y8 := (BY.out.wr0 R1.out).cell 8
  simp only [qgaq, qgzq, qgsq] at y0 y1 y2 y3 y4 y5 y6 y7 y8
  have hlb := HLB.out w1 R1.out
  have HLB1 := qh hlb
  clear hlb
  go_wp2_with fail
  refine HLB1.out.mono ?_
  rintro e w2 ⟨rb, rfl, k2⟩
  have R2 := qh (R1.out.trans k2)
  clear k2 y0 y1 y2 y3 y4 y5 y6 y7 y8
  cases rb with
  | true =>
   go_wp2_with fail
   refine (HAL.out _).mono ?_
   rintro e wz ⟨rfl, kz⟩
   go_wp2_with fail
   go_ret
   exact ⟨rfl, ACC.out.trans ((R2.out).trans kz)⟩
  | false =>
  by_cases hlen : (behind.size : Int) > 4096
  ·clear HLB1
   go_wp2_with fail
   refine (HAL.out _).mono ?_
   rintro e wz ⟨rfl, kz⟩
   go_wp2_with fail
   go_ret
   exact ⟨rfl, ACC.out.trans ((R2.out).trans kz)⟩
  ·have hbh : behind.size ≤ 4096 := by omega
   have HEA := qh (HEAW.out w2 R2.out)
   have x0 := (BX.out.wr0 R2.out).cell 0
   have x1 := (BX.out.wr0 R2.out).cell 1
   have x2 := (BX.out.wr0 R2.out).cell 2
   have x3 := (BX.out.wr0 R2.out).cell 3
   have x4 := (BX.out.wr0 R2.out).cell 4
   have x5 := (BX.out.wr0 R2.out).cell 5
   have x6 := (BX.out.wr0 R2.out).cell 6
   have x7 := (BX.out.wr0 R2.out).cell 7
   have x8 := (BX.out.wr0 R2.out).cell 8
   simp only [qgaq, qgzq, qgsq] at x0 x1 x2 x3 x4 x5 x6 x7 x8
   clear HLB1 HLA HLB
   cases ha : objB a with
   | false =>
    have hoe := HEA.out
    unfold OEncR encodeP at hoe
    rw [ha] at hoe
    simp only [Bool.false_eq_true, if_false] at hoe
    have HOA := qh hoe
    clear hoe HEA
    go_wp2_with fail
    refine HOA.out.mono ?_
    rintro e w3 ⟨rfl, k3⟩
    have R3 := qh (R2.out.trans k3)
    clear k3 x0 x1 x2 x3 x4 x5 x6 x7 x8
    have y0 := (BY.out.wr0 R3.out).cell 0
    have y1 := (BY.out.wr0 R3.out).cell 1
    have y2 := (BY.out.wr0 R3.out).cell 2
    have y3 := (BY.out.wr0 R3.out).cell 3
    have y4 := (BY.out.wr0 R3.out).cell 4
    have y5 := (BY.out.wr0 R3.out).cell 5
    have y6 := (BY.out.wr0 R3.out).cell 6
    have y7 := (BY.out.wr0 R3.out).cell 7
    have y8 := (BY.out.wr0 R3.out).cell 8
    simp only [qgaq, qgzq, qgsq] at y0 y1 y2 y3 y4 y5 y6 y7 y8
    have hob := HOBW.out w3 R3.out
    unfold OEncR at hob
    generalize (encodeP b).2 = fb at hob
    generalize hTT : (⟨(encodeP b).1.toArray⟩ : ByteArray) = TB at hob
    have HOB := qh hob
    clear hob hTT
    go_wp2_with fail
    refine HOB.out.mono ?_
    rintro e w4 ⟨rfl, k4⟩
    have R4 := qh (R3.out.trans k4)
    clear k4 y0 y1 y2 y3 y4 y5 y6 y7 y8
    have x0 := (BX.out.wr0 R4.out).cell 0
    have x1 := (BX.out.wr0 R4.out).cell 1
    have x2 := (BX.out.wr0 R4.out).cell 2
    have x3 := (BX.out.wr0 R4.out).cell 3
    have x4 := (BX.out.wr0 R4.out).cell 4
    have x5 := (BX.out.wr0 R4.out).cell 5
    have x6 := (BX.out.wr0 R4.out).cell 6
    have x7 := (BX.out.wr0 R4.out).cell 7
    have x8 := (BX.out.wr0 R4.out).cell 8
    simp only [qgaq, qgzq, qgsq] at x0 x1 x2 x3 x4 x5 x6 x7 x8
    have hm4 := HMA.out w4 R4.out
    rw [ha] at hm4
    have HM4 := qh hm4
    clear hm4 ha
    go_wp2_with fail
    refine HM4.out.mono ?_
    rintro e w5 ⟨rfl, k5⟩
    have R5 := qh (R4.out.trans k5)
    clear k5
    go_wp2_with fail
    refine (HAL.out _).mono ?_
    rintro e wz ⟨rfl, kz⟩
    go_wp2_with fail
    go_ret
    exact ⟨rfl, ACC.out.trans ((R5.out).trans kz)⟩
   | true =>
   cases hb : objB b with
   | true =>
    have hoe := HEA.out
    unfold OEncR encodeP at hoe
    rw [ha] at hoe
    simp only [if_true] at hoe
    have hoka := obj_ok ha
    have hbl := bodyL_len hoka
    have hfl : FA.length = 12 + (bodyL a).length := by rw [← HFA.out, file_len]; rfl
    have hkm : ((at_ : Nat) : Int).tmod (FA.length : Int) = ((at_ % FA.length : Nat) : Int) := by
     rw [Int.tmod_eq_emod_of_nonneg (by omega), Int.natCast_emod]
    have hk : at_ % FA.length < FA.length := Nat.mod_lt _ (by omega)
    have hset := back_set wa ha
    rw [HFA.out] at hset
    have HSET := qh (hset (at_ % FA.length) byN hk hby)
    generalize at_ % FA.length = k at hk hkm HSET
    have hk0 : (0 : Int) ≤ (k : Int) := by omega
    have hk1 : (k : Int) < (FA.length : Int) := by omega
    have hwat : IntKind.i64.wrap ((at_ : Nat) : Int) = (at_ : Int) := by rw [IntKind.wrap_i64]; omega
    have HFL : Hid (FA.length ≤ 400012) := qh (by omega)
    have hF12 : ¬ (FA.length : Int) < 12 := by omega
    have hFne : ¬ (FA.length : Int) = 0 := by omega
    have hFnz : ((FA.length : Int) == 0) = false := by simp only [beq_eq_false_iff_ne, ne_eq]; exact hFne
    have hde := fun W => odec_any FA (by have := HFL.out; unfold maxLen; omega) W
    unfold ODecR at hde
    rw [← HFA.out, decode_encode a wa ha, HFA.out] at hde
    have HDA := qh hde
    have hsaa := fun W vu vp vi vn P (h : ObjL W P vu vp vi vn a) (hW : Wr [] w0 W) => rsame_any a a _ _ _ _ _ _ _ _ _ _ W h (HX.out.wr0 hW)
    rw [eqB_true rfl] at hsaa
    unfold ObjD.val ObjD.cells at hsaa
    have HSAA := qh hsaa
    have hsz := ansS_size FA
    have hpa := fun W (h : ModL W (fun _ => True) (.slice Ap a.mod.procs.length cp) (.slice Ai a.mod.imports.length ci) (.slice An a.mod.init.length cn) a.mod) => pack_any a.mod _ _ _ _ wa.words W h
    unfold PackR packP at hpa
    rw [hoka.mod, if_pos rfl] at hpa
    unfold ModD.val ModD.cells at hpa
    have hun := fun W => unpack_any (packL a.mod ++ behind.data.toList) W
    unfold UnpR at hun
    rw [unpack_pack a.mod wa.words hoka.mod] at hun
    simp only [ansS_of] at hun
    obtain ⟨PB, hPB⟩ : ∃ q, ansS (packL a.mod ++ behind.data.toList) = q := ⟨_, rfl⟩
    rw [hPB] at hun
    have hcat : ansS (packL a.mod) ++ behind = PB := by
     rw [← hPB]
     apply ByteArray.ext
     rw [ByteArray.data_append]
     apply Array.ext'
     simp [ansS]
    have hpl : (packL a.mod).length ≤ 300000 := packL_len (mod_ok hoka.mod)
    have hpz := ansS_size (packL a.mod)
    obtain ⟨PS, hPS⟩ : ∃ q, ansS (packL a.mod) = q := ⟨_, rfl⟩
    have hPS2 : (⟨(packL a.mod).toArray⟩ : ByteArray) = PS := hPS
    rw [hPS] at hcat hpz
    simp only [hPS2] at hpa
    have HPA := qh hpa
    have HUN := qh hun
    have HCAT := qh hcat
    have HCS : Hid (¬ 9223372036854775807 < PS.size + behind.size) := qh (by omega)
    have hsab := fun W (hW : Wr [] w0 W) => rsame_any a b _ _ _ _ _ _ _ _ _ _ W (HX.out.wr0 hW) (HY.out.wr0 hW)
    unfold ObjD.val ObjD.cells at hsab
    have hst := back_enc wa wb ha hb
    rw [HFA.out] at hst
    obtain ⟨rab, hrab⟩ : ∃ q, eqB a b = q := ⟨_, rfl⟩
    rw [hrab] at hsab hst
    have HSAB := qh hsab
    obtain ⟨T, hT⟩ : ∃ q, ansS (fileL objKind (bodyL b)) = q := ⟨_, rfl⟩
    have hT2 : (⟨(fileL objKind (bodyL b)).toArray⟩ : ByteArray) = T := hT
    rw [hT] at hst
    clear hsab hrab hT
    have hFA2 : (⟨(fileL objKind (bodyL a)).toArray⟩ : ByteArray) = ansS FA := by rw [← HFA.out]; rfl
    simp only [hFA2] at hoe
    obtain ⟨S, hS⟩ : ∃ q, ansS FA = q := ⟨_, rfl⟩
    have hS0 := hS
    rw [hS] at hst
    have HST := qh hst
    rw [hS] at hoe hsz
    have hde := HDA.out
    rw [hS] at hde
    have HDB := qh hde
    have HOA := qh (hoe)
    clear hoe hde hsaa hpa hun hPB hcat hpl hpz hPS hPS2 hst hFA2 hset hfl hbl hoka HDA ha hlen HEA
    go_wp2_with fail
    refine HOA.out.mono ?_
    rintro e w3 ⟨rfl, k3⟩
    have R3 := qh (R2.out.trans k3)
    clear k3 x0 x1 x2 x3 x4 x5 x6 x7 x8
    have y0 := (BY.out.wr0 R3.out).cell 0
    have y1 := (BY.out.wr0 R3.out).cell 1
    have y2 := (BY.out.wr0 R3.out).cell 2
    have y3 := (BY.out.wr0 R3.out).cell 3
    have y4 := (BY.out.wr0 R3.out).cell 4
    have y5 := (BY.out.wr0 R3.out).cell 5
    have y6 := (BY.out.wr0 R3.out).cell 6
    have y7 := (BY.out.wr0 R3.out).cell 7
    have y8 := (BY.out.wr0 R3.out).cell 8
    simp only [qgaq, qgzq, qgsq] at y0 y1 y2 y3 y4 y5 y6 y7 y8
    have hob := HOBW.out w3 R3.out
    unfold OEncR encodeP at hob
    rw [hb] at hob
    simp only [if_true, if_false, Bool.false_eq_true] at hob
    simp only [hT2] at hob
    have HOB := qh hob
    clear hob hb hT2
    go_wp2_with fail
    refine HOB.out.mono ?_
    rintro e w4 ⟨rfl, k4⟩
    have R4 := qh (R3.out.trans k4)
    clear k4 y0 y1 y2 y3 y4 y5 y6 y7 y8
    go_wp2_with fail
    refine (HDB.out _).mono ?_
    rintro e w5 ⟨vu, vp, vi, vn, rfl, k5, ol⟩
    obtain ⟨Qu, qu, rfl, _, _⟩ := Sl.form ol.uses
    obtain ⟨Qp, qp, rfl, _, _⟩ := Sl.form ol.mod.procs
    obtain ⟨Qi, qi, rfl, _, _⟩ := Sl.form ol.mod.imports
    obtain ⟨Qn, qn, rfl, _, _⟩ := Sl.form ol.mod.init
    simp only [ObjD.val, ObjD.cells]
    have kq := (Wr.refl [] w5).alloc (.cells #[.string a.module, .bool a.main, .int .u64 a.key, .slice Qu a.uses.length qu, .string a.mod.code, .slice Qp a.mod.procs.length qp, .slice Qi a.mod.imports.length qi, .int .i64 a.mod.data, .slice Qn a.mod.init.length qn] 30)
    have b15 := Blk.new w5 30 #[.string a.module, .bool a.main, .int .u64 a.key, .slice Qu a.uses.length qu, .string a.mod.code, .slice Qp a.mod.procs.length qp, .slice Qi a.mod.imports.length qi, .int .i64 a.mod.data, .slice Qn a.mod.init.length qn]
    have ol6 := ol.wr0 kq
    have R6 := qh ((R4.out.trans k5).trans kq)
    clear k5 ol
    go_upto_region 8 with (fail)
    generalize w5.alloc (.cells #[.string a.module, .bool a.main, .int .u64 a.key, .slice Qu a.uses.length qu, .string a.mod.code, .slice Qp a.mod.procs.length qp, .slice Qi a.mod.imports.length qi, .int .i64 a.mod.data, .slice Qn a.mod.init.length qn] 30) = w6 at *
    generalize w5.heap.size = z15 at *
    have t0 := (b15).cell 0
    have t1 := (b15).cell 1
    have t2 := (b15).cell 2
    have t3 := (b15).cell 3
    have t4 := (b15).cell 4
    have t5 := (b15).cell 5
    have t6 := (b15).cell 6
    have t7 := (b15).cell 7
    have t8 := (b15).cell 8
    simp only [qgaq, qgzq, qgsq] at t0 t1 t2 t3 t4 t5 t6 t7 t8
    have x0 := (BX.out.wr0 R6.out).cell 0
    have x1 := (BX.out.wr0 R6.out).cell 1
    have x2 := (BX.out.wr0 R6.out).cell 2
    have x3 := (BX.out.wr0 R6.out).cell 3
    have x4 := (BX.out.wr0 R6.out).cell 4
    have x5 := (BX.out.wr0 R6.out).cell 5
    have x6 := (BX.out.wr0 R6.out).cell 6
    have x7 := (BX.out.wr0 R6.out).cell 7
    have x8 := (BX.out.wr0 R6.out).cell 8
    simp only [qgaq, qgzq, qgsq] at x0 x1 x2 x3 x4 x5 x6 x7 x8
    have hs1 := HSAA.out w6 _ _ _ _ _ ol6 R6.out
    have HS1 := qh hs1
    have hst := HST.out
    clear hs1 kq b15 ol6
    go_wp2_with fail
    refine HS1.out.mono ?_
    rintro e w7 ⟨rfl, k7⟩
    have R7 := qh (R6.out.trans k7)
    clear k7 t0 t1 t2 t3 t4 t5 t6 t7 t8 x0 x1 x2 x3 x4 x5 x6 x7 x8
    have x0 := (BX.out.wr0 R7.out).cell 0
    have x1 := (BX.out.wr0 R7.out).cell 1
    have x2 := (BX.out.wr0 R7.out).cell 2
    have x3 := (BX.out.wr0 R7.out).cell 3
    have x4 := (BX.out.wr0 R7.out).cell 4
    have x5 := (BX.out.wr0 R7.out).cell 5
    have x6 := (BX.out.wr0 R7.out).cell 6
    have x7 := (BX.out.wr0 R7.out).cell 7
    have x8 := (BX.out.wr0 R7.out).cell 8
    simp only [qgaq, qgzq, qgsq] at x0 x1 x2 x3 x4 x5 x6 x7 x8
    have y0 := (BY.out.wr0 R7.out).cell 0
    have y1 := (BY.out.wr0 R7.out).cell 1
    have y2 := (BY.out.wr0 R7.out).cell 2
    have y3 := (BY.out.wr0 R7.out).cell 3
    have y4 := (BY.out.wr0 R7.out).cell 4
    have y5 := (BY.out.wr0 R7.out).cell 5
    have y6 := (BY.out.wr0 R7.out).cell 6
    have y7 := (BY.out.wr0 R7.out).cell 7
    have y8 := (BY.out.wr0 R7.out).cell 8
    simp only [qgaq, qgzq, qgsq] at y0 y1 y2 y3 y4 y5 y6 y7 y8
    have hs2 := HSAB.out w7 R7.out
    have HS2 := qh hs2
    clear hs2
    go_wp2_with fail
    refine HS2.out.mono ?_
    rintro e w8 ⟨rfl, k8⟩
    have R8 := qh (R7.out.trans k8)
    clear k8 x0 x1 x2 x3 x4 x5 x6 x7 x8 y0 y1 y2 y3 y4 y5 y6 y7 y8
    cases rab with
    | true =>
     obtain ⟨wm, cap, hconv, mo⟩ := made_of w8 FA
     have hconv2 := hconv
     rw [hS] at hconv2
     have c0 := mo.cell k hk
     have f0 := mo.free k hk
     have hgz := World.block_lt_of_cell? wm _ c0
     have hxx := xor8O (FA[k]'hk).toNat byN (UInt8.toNat_lt _) hby
     have hyl : (FA[k]'hk).toNat ^^^ byN < 256 := Nat.xor_lt_two_pow (n := 8) (UInt8.toNat_lt _) (by omega)
     have hback := made_back mo cap k _ hk hyl
     have km := mo.wr
     go_upto_region 12 with (fail)
     have ks : Wr [] w8 (wm.setCell ⟨w8.heap.size, k, none⟩ (.int .u8 (((FA[k]'hk).toNat ^^^ byN : Nat) : Int))) := (km.new ((Wr.refl [w8.heap.size] wm).setOn (by simp) _) (Nat.le_refl _))
     generalize wm.setCell ⟨w8.heap.size, k, none⟩ (.int .u8 (((FA[k]'hk).toNat ^^^ byN : Nat) : Int)) = wn at *
     have hset := HSET.out
     have HNE := qh hyl
     obtain ⟨LS, hLS⟩ : ∃ q, FA.set k (UInt8.ofNat ((FA[k]'hk).toNat ^^^ byN)) = q := ⟨_, rfl⟩
     rw [hLS] at hset hback
     have hdl : LS.length ≤ maxLen := by rw [← hLS, List.length_set]; have := HFL.out; unfold maxLen; omega
     have hde := odec_any LS hdl wn
     unfold ODecR at hde
     obtain ⟨dq, hdq⟩ : ∃ q, decodeP LS = q := ⟨_, rfl⟩
     obtain ⟨od, H⟩ := dq
     rw [hdq] at hde hset
     simp only at hde hset
     obtain ⟨SL, hSL⟩ : ∃ q, ansS LS = q := ⟨_, rfl⟩
     rw [hSL] at hde hback
     have HDE := qh hde
     have RN := qh (R8.out.trans ks)
     clear hconv hconv2 mo c0 f0 hgz hxx hyl km ks hLS hdl hde hdq hSL
     go_wp2_with fail
     refine HDE.out.mono ?_
     rintro e wd ⟨vu, vp, vi, vn, rfl, kd, ol⟩
     obtain ⟨Du, du, rfl, _, _⟩ := Sl.form ol.uses
     obtain ⟨Dp, dp, rfl, _, _⟩ := Sl.form ol.mod.procs
     obtain ⟨Di, di, rfl, _, _⟩ := Sl.form ol.mod.imports
     obtain ⟨Dn, dn, rfl, _, _⟩ := Sl.form ol.mod.init
     simp only [ObjD.val, ObjD.cells]
     have kq := (Wr.refl [] wd).alloc (.cells #[.string od.module, .bool od.main, .int .u64 od.key, .slice Du od.uses.length du, .string od.mod.code, .slice Dp od.mod.procs.length dp, .slice Di od.mod.imports.length di, .int .i64 od.mod.data, .slice Dn od.mod.init.length dn] 30)
     have RD := qh ((RN.out.trans kd).trans kq)
     clear hback kd ol
     go_upto_region 13 with (fail)
     generalize wd.alloc (.cells #[.string od.module, .bool od.main, .int .u64 od.key, .slice Du od.uses.length du, .string od.mod.code, .slice Dp od.mod.procs.length dp, .slice Di od.mod.imports.length di, .int .i64 od.mod.data, .slice Dn od.mod.init.length dn] 30) = we at *
     clear kq
     have m4 := (BX.out.wr0 RD.out).cell 4
     have m5 := (BX.out.wr0 RD.out).cell 5
     have m6 := (BX.out.wr0 RD.out).cell 6
     have m7 := (BX.out.wr0 RD.out).cell 7
     have m8 := (BX.out.wr0 RD.out).cell 8
     simp only [qgaq, qgzq, qgsq] at m4 m5 m6 m7 m8
     have hpa := HPA.out we (HX.out.mod.wr0 RD.out)
     have HPQ := qh hpa
     clear hpa
     go_wp2_with fail
     refine HPQ.out.mono ?_
     rintro e wf ⟨rfl, kf⟩
     have RF := qh (RD.out.trans kf)
     clear kf m4 m5 m6 m7 m8
     have hun := HUN.out wf
     have HUQ := qh hun
     have hcat := HCAT.out
     have hcs := HCS.out
     clear hun
     go_wp2_with fail
     refine HUQ.out.mono ?_
     rintro e wh ⟨vp, vi, vn, rfl, kh, ml⟩
     obtain ⟨Ep, ep, rfl, _, _⟩ := Sl.form ml.procs
     obtain ⟨Ei, ei, rfl, _, _⟩ := Sl.form ml.imports
     obtain ⟨En, en, rfl, _, _⟩ := Sl.form ml.init
     simp only [ModD.val, ModD.cells]
     have kq := (Wr.refl [] wh).alloc (.cells #[.string a.mod.code, .slice Ep a.mod.procs.length ep, .slice Ei a.mod.imports.length ei, .int .i64 a.mod.data, .slice En a.mod.init.length en] 28)
     have b22 := Blk.new wh 28 #[.string a.mod.code, .slice Ep a.mod.procs.length ep, .slice Ei a.mod.imports.length ei, .int .i64 a.mod.data, .slice En a.mod.init.length en]
     have ml2 := ml.wr0 kq
     have RH := qh ((RF.out.trans kh).trans kq)
     clear kh ml hcat hcs
     go_upto_region 15 with (fail)
     generalize wh.alloc (.cells #[.string a.mod.code, .slice Ep a.mod.procs.length ep, .slice Ei a.mod.imports.length ei, .int .i64 a.mod.data, .slice En a.mod.init.length en] 28) = wi at *
     generalize wh.heap.size = z22 at *
     have q0 := (b22).cell 0
     have q1 := (b22).cell 1
     have q2 := (b22).cell 2
     have q3 := (b22).cell 3
     have q4 := (b22).cell 4
     simp only [qgaq, qgzq, qgsq] at q0 q1 q2 q3 q4
     have m4 := (BX.out.wr0 RH.out).cell 4
     have m5 := (BX.out.wr0 RH.out).cell 5
     have m6 := (BX.out.wr0 RH.out).cell 6
     have m7 := (BX.out.wr0 RH.out).cell 7
     have m8 := (BX.out.wr0 RH.out).cell 8
     simp only [qgaq, qgzq, qgsq] at m4 m5 m6 m7 m8
     have hsm := rsamemod_any a.mod a.mod _ _ _ _ _ _ _ _ wi ml2 (HX.out.mod.wr0 RH.out)
     rw [eqB_true rfl] at hsm
     unfold ModD.val ModD.cells at hsm
     have HSM := qh hsm
     obtain ⟨bb, hbb⟩ : ∃ q, ((byN : Int) == 0) = q := ⟨_, rfl⟩
     rw [hbb] at hset
     have hstr := str_eq behind
     clear hsm kq ml2 b22
     go_wp2_with fail
     refine HSM.out.mono ?_
     rintro e wj ⟨rfl, kj⟩
     have RJ := qh (RH.out.trans kj)
     clear kj
     go_wp2_with fail
     refine (HAL.out _).mono ?_
     rintro e wz ⟨rfl, kz⟩
     go_wp2_with fail
     go_ret
     exact ⟨rfl, ACC.out.trans (RJ.out.trans kz)⟩
    | false =>
     obtain ⟨wm, cap, hconv, mo⟩ := made_of w8 FA
     have hconv2 := hconv
     rw [hS] at hconv2
     have c0 := mo.cell k hk
     have f0 := mo.free k hk
     have hgz := World.block_lt_of_cell? wm _ c0
     have hxx := xor8O (FA[k]'hk).toNat byN (UInt8.toNat_lt _) hby
     have hyl : (FA[k]'hk).toNat ^^^ byN < 256 := Nat.xor_lt_two_pow (n := 8) (UInt8.toNat_lt _) (by omega)
     have hback := made_back mo cap k _ hk hyl
     have km := mo.wr
     go_upto_region 12 with (fail)
     have ks : Wr [] w8 (wm.setCell ⟨w8.heap.size, k, none⟩ (.int .u8 (((FA[k]'hk).toNat ^^^ byN : Nat) : Int))) := (km.new ((Wr.refl [w8.heap.size] wm).setOn (by simp) _) (Nat.le_refl _))
     generalize wm.setCell ⟨w8.heap.size, k, none⟩ (.int .u8 (((FA[k]'hk).toNat ^^^ byN : Nat) : Int)) = wn at *
     have hset := HSET.out
     have HNE := qh hyl
     obtain ⟨LS, hLS⟩ : ∃ q, FA.set k (UInt8.ofNat ((FA[k]'hk).toNat ^^^ byN)) = q := ⟨_, rfl⟩
     rw [hLS] at hset hback
     have hdl : LS.length ≤ maxLen := by rw [← hLS, List.length_set]; have := HFL.out; unfold maxLen; omega
     have hde := odec_any LS hdl wn
     unfold ODecR at hde
     obtain ⟨dq, hdq⟩ : ∃ q, decodeP LS = q := ⟨_, rfl⟩
     obtain ⟨od, H⟩ := dq
     rw [hdq] at hde hset
     simp only at hde hset
     obtain ⟨SL, hSL⟩ : ∃ q, ansS LS = q := ⟨_, rfl⟩
     rw [hSL] at hde hback
     have HDE := qh hde
     have RN := qh (R8.out.trans ks)
     clear hconv hconv2 mo c0 f0 hgz hxx hyl km ks hLS hdl hde hdq hSL
     go_wp2_with fail
     refine HDE.out.mono ?_
     rintro e wd ⟨vu, vp, vi, vn, rfl, kd, ol⟩
     obtain ⟨Du, du, rfl, _, _⟩ := Sl.form ol.uses
     obtain ⟨Dp, dp, rfl, _, _⟩ := Sl.form ol.mod.procs
     obtain ⟨Di, di, rfl, _, _⟩ := Sl.form ol.mod.imports
     obtain ⟨Dn, dn, rfl, _, _⟩ := Sl.form ol.mod.init
     simp only [ObjD.val, ObjD.cells]
     have kq := (Wr.refl [] wd).alloc (.cells #[.string od.module, .bool od.main, .int .u64 od.key, .slice Du od.uses.length du, .string od.mod.code, .slice Dp od.mod.procs.length dp, .slice Di od.mod.imports.length di, .int .i64 od.mod.data, .slice Dn od.mod.init.length dn] 30)
     have RD := qh ((RN.out.trans kd).trans kq)
     clear hback kd ol
     go_upto_region 13 with (fail)
     generalize wd.alloc (.cells #[.string od.module, .bool od.main, .int .u64 od.key, .slice Du od.uses.length du, .string od.mod.code, .slice Dp od.mod.procs.length dp, .slice Di od.mod.imports.length di, .int .i64 od.mod.data, .slice Dn od.mod.init.length dn] 30) = we at *
     clear kq
     have m4 := (BX.out.wr0 RD.out).cell 4
     have m5 := (BX.out.wr0 RD.out).cell 5
     have m6 := (BX.out.wr0 RD.out).cell 6
     have m7 := (BX.out.wr0 RD.out).cell 7
     have m8 := (BX.out.wr0 RD.out).cell 8
     simp only [qgaq, qgzq, qgsq] at m4 m5 m6 m7 m8
     have hpa := HPA.out we (HX.out.mod.wr0 RD.out)
     have HPQ := qh hpa
     clear hpa
     go_wp2_with fail
     refine HPQ.out.mono ?_
     rintro e wf ⟨rfl, kf⟩
     have RF := qh (RD.out.trans kf)
     clear kf m4 m5 m6 m7 m8
     have hun := HUN.out wf
     have HUQ := qh hun
     have hcat := HCAT.out
     have hcs := HCS.out
     clear hun
     go_wp2_with fail
     refine HUQ.out.mono ?_
     rintro e wh ⟨vp, vi, vn, rfl, kh, ml⟩
     obtain ⟨Ep, ep, rfl, _, _⟩ := Sl.form ml.procs
     obtain ⟨Ei, ei, rfl, _, _⟩ := Sl.form ml.imports
     obtain ⟨En, en, rfl, _, _⟩ := Sl.form ml.init
     simp only [ModD.val, ModD.cells]
     have kq := (Wr.refl [] wh).alloc (.cells #[.string a.mod.code, .slice Ep a.mod.procs.length ep, .slice Ei a.mod.imports.length ei, .int .i64 a.mod.data, .slice En a.mod.init.length en] 28)
     have b22 := Blk.new wh 28 #[.string a.mod.code, .slice Ep a.mod.procs.length ep, .slice Ei a.mod.imports.length ei, .int .i64 a.mod.data, .slice En a.mod.init.length en]
     have ml2 := ml.wr0 kq
     have RH := qh ((RF.out.trans kh).trans kq)
     clear kh ml hcat hcs
     go_upto_region 15 with (fail)
     generalize wh.alloc (.cells #[.string a.mod.code, .slice Ep a.mod.procs.length ep, .slice Ei a.mod.imports.length ei, .int .i64 a.mod.data, .slice En a.mod.init.length en] 28) = wi at *
     generalize wh.heap.size = z22 at *
     have q0 := (b22).cell 0
     have q1 := (b22).cell 1
     have q2 := (b22).cell 2
     have q3 := (b22).cell 3
     have q4 := (b22).cell 4
     simp only [qgaq, qgzq, qgsq] at q0 q1 q2 q3 q4
     have m4 := (BX.out.wr0 RH.out).cell 4
     have m5 := (BX.out.wr0 RH.out).cell 5
     have m6 := (BX.out.wr0 RH.out).cell 6
     have m7 := (BX.out.wr0 RH.out).cell 7
     have m8 := (BX.out.wr0 RH.out).cell 8
     simp only [qgaq, qgzq, qgsq] at m4 m5 m6 m7 m8
     have hsm := rsamemod_any a.mod a.mod _ _ _ _ _ _ _ _ wi ml2 (HX.out.mod.wr0 RH.out)
     rw [eqB_true rfl] at hsm
     unfold ModD.val ModD.cells at hsm
     have HSM := qh hsm
     obtain ⟨bb, hbb⟩ : ∃ q, ((byN : Int) == 0) = q := ⟨_, rfl⟩
     rw [hbb] at hset
     have hstr := str_eq behind
     clear hsm kq ml2 b22
     go_wp2_with fail
     refine HSM.out.mono ?_
     rintro e wj ⟨rfl, kj⟩
     have RJ := qh (RH.out.trans kj)
     clear kj
     go_wp2_with fail
     refine (HAL.out _).mono ?_
     rintro e wz ⟨rfl, kz⟩
     go_wp2_with fail
     go_ret
     exact ⟨rfl, ACC.out.trans (RJ.out.trans kz)⟩
   | false =>
    have hoe := HEA.out
    unfold OEncR encodeP at hoe
    rw [ha] at hoe
    simp only [if_true] at hoe
    have hoka := obj_ok ha
    have hbl := bodyL_len hoka
    have hfl : FA.length = 12 + (bodyL a).length := by rw [← HFA.out, file_len]; rfl
    have hkm : ((at_ : Nat) : Int).tmod (FA.length : Int) = ((at_ % FA.length : Nat) : Int) := by
     rw [Int.tmod_eq_emod_of_nonneg (by omega), Int.natCast_emod]
    have hk : at_ % FA.length < FA.length := Nat.mod_lt _ (by omega)
    have hset := back_set wa ha
    rw [HFA.out] at hset
    have HSET := qh (hset (at_ % FA.length) byN hk hby)
    generalize at_ % FA.length = k at hk hkm HSET
    have hk0 : (0 : Int) ≤ (k : Int) := by omega
    have hk1 : (k : Int) < (FA.length : Int) := by omega
    have hwat : IntKind.i64.wrap ((at_ : Nat) : Int) = (at_ : Int) := by rw [IntKind.wrap_i64]; omega
    have HFL : Hid (FA.length ≤ 400012) := qh (by omega)
    have hF12 : ¬ (FA.length : Int) < 12 := by omega
    have hFne : ¬ (FA.length : Int) = 0 := by omega
    have hFnz : ((FA.length : Int) == 0) = false := by simp only [beq_eq_false_iff_ne, ne_eq]; exact hFne
    have hde := fun W => odec_any FA (by have := HFL.out; unfold maxLen; omega) W
    unfold ODecR at hde
    rw [← HFA.out, decode_encode a wa ha, HFA.out] at hde
    have HDA := qh hde
    have hsaa := fun W vu vp vi vn P (h : ObjL W P vu vp vi vn a) (hW : Wr [] w0 W) => rsame_any a a _ _ _ _ _ _ _ _ _ _ W h (HX.out.wr0 hW)
    rw [eqB_true rfl] at hsaa
    unfold ObjD.val ObjD.cells at hsaa
    have HSAA := qh hsaa
    have hsz := ansS_size FA
    have hpa := fun W (h : ModL W (fun _ => True) (.slice Ap a.mod.procs.length cp) (.slice Ai a.mod.imports.length ci) (.slice An a.mod.init.length cn) a.mod) => pack_any a.mod _ _ _ _ wa.words W h
    unfold PackR packP at hpa
    rw [hoka.mod, if_pos rfl] at hpa
    unfold ModD.val ModD.cells at hpa
    have hun := fun W => unpack_any (packL a.mod ++ behind.data.toList) W
    unfold UnpR at hun
    rw [unpack_pack a.mod wa.words hoka.mod] at hun
    simp only [ansS_of] at hun
    obtain ⟨PB, hPB⟩ : ∃ q, ansS (packL a.mod ++ behind.data.toList) = q := ⟨_, rfl⟩
    rw [hPB] at hun
    have hcat : ansS (packL a.mod) ++ behind = PB := by
     rw [← hPB]
     apply ByteArray.ext
     rw [ByteArray.data_append]
     apply Array.ext'
     simp [ansS]
    have hpl : (packL a.mod).length ≤ 300000 := packL_len (mod_ok hoka.mod)
    have hpz := ansS_size (packL a.mod)
    obtain ⟨PS, hPS⟩ : ∃ q, ansS (packL a.mod) = q := ⟨_, rfl⟩
    have hPS2 : (⟨(packL a.mod).toArray⟩ : ByteArray) = PS := hPS
    rw [hPS] at hcat hpz
    simp only [hPS2] at hpa
    have HPA := qh hpa
    have HUN := qh hun
    have HCAT := qh hcat
    have HCS : Hid (¬ 9223372036854775807 < PS.size + behind.size) := qh (by omega)
    have hst := trivial
    have hFA2 : (⟨(fileL objKind (bodyL a)).toArray⟩ : ByteArray) = ansS FA := by rw [← HFA.out]; rfl
    simp only [hFA2] at hoe
    obtain ⟨S, hS⟩ : ∃ q, ansS FA = q := ⟨_, rfl⟩
    have hS0 := hS
    have HST := qh hst
    rw [hS] at hoe hsz
    have hde := HDA.out
    rw [hS] at hde
    have HDB := qh hde
    have HOA := qh (hoe)
    clear hoe hde hsaa hpa hun hPB hcat hpl hpz hPS hPS2 hst hFA2 hset hfl hbl hoka HDA ha hlen HEA
    go_wp2_with fail
    refine HOA.out.mono ?_
    rintro e w3 ⟨rfl, k3⟩
    have R3 := qh (R2.out.trans k3)
    clear k3 x0 x1 x2 x3 x4 x5 x6 x7 x8
    have y0 := (BY.out.wr0 R3.out).cell 0
    have y1 := (BY.out.wr0 R3.out).cell 1
    have y2 := (BY.out.wr0 R3.out).cell 2
    have y3 := (BY.out.wr0 R3.out).cell 3
    have y4 := (BY.out.wr0 R3.out).cell 4
    have y5 := (BY.out.wr0 R3.out).cell 5
    have y6 := (BY.out.wr0 R3.out).cell 6
    have y7 := (BY.out.wr0 R3.out).cell 7
    have y8 := (BY.out.wr0 R3.out).cell 8
    simp only [qgaq, qgzq, qgsq] at y0 y1 y2 y3 y4 y5 y6 y7 y8
    have hob := HOBW.out w3 R3.out
    unfold OEncR encodeP at hob
    rw [hb] at hob
    simp only [if_true, if_false, Bool.false_eq_true] at hob
    have HOB := qh hob
    clear hob hb 
    go_wp2_with fail
    refine HOB.out.mono ?_
    rintro e w4 ⟨rfl, k4⟩
    have R4 := qh (R3.out.trans k4)
    clear k4 y0 y1 y2 y3 y4 y5 y6 y7 y8
    go_wp2_with fail
    refine (HDB.out _).mono ?_
    rintro e w5 ⟨vu, vp, vi, vn, rfl, k5, ol⟩
    obtain ⟨Qu, qu, rfl, _, _⟩ := Sl.form ol.uses
    obtain ⟨Qp, qp, rfl, _, _⟩ := Sl.form ol.mod.procs
    obtain ⟨Qi, qi, rfl, _, _⟩ := Sl.form ol.mod.imports
    obtain ⟨Qn, qn, rfl, _, _⟩ := Sl.form ol.mod.init
    simp only [ObjD.val, ObjD.cells]
    have kq := (Wr.refl [] w5).alloc (.cells #[.string a.module, .bool a.main, .int .u64 a.key, .slice Qu a.uses.length qu, .string a.mod.code, .slice Qp a.mod.procs.length qp, .slice Qi a.mod.imports.length qi, .int .i64 a.mod.data, .slice Qn a.mod.init.length qn] 30)
    have b15 := Blk.new w5 30 #[.string a.module, .bool a.main, .int .u64 a.key, .slice Qu a.uses.length qu, .string a.mod.code, .slice Qp a.mod.procs.length qp, .slice Qi a.mod.imports.length qi, .int .i64 a.mod.data, .slice Qn a.mod.init.length qn]
    have ol6 := ol.wr0 kq
    have R6 := qh ((R4.out.trans k5).trans kq)
    clear k5 ol
    go_upto_region 8 with (fail)
    generalize w5.alloc (.cells #[.string a.module, .bool a.main, .int .u64 a.key, .slice Qu a.uses.length qu, .string a.mod.code, .slice Qp a.mod.procs.length qp, .slice Qi a.mod.imports.length qi, .int .i64 a.mod.data, .slice Qn a.mod.init.length qn] 30) = w6 at *
    generalize w5.heap.size = z15 at *
    have t0 := (b15).cell 0
    have t1 := (b15).cell 1
    have t2 := (b15).cell 2
    have t3 := (b15).cell 3
    have t4 := (b15).cell 4
    have t5 := (b15).cell 5
    have t6 := (b15).cell 6
    have t7 := (b15).cell 7
    have t8 := (b15).cell 8
    simp only [qgaq, qgzq, qgsq] at t0 t1 t2 t3 t4 t5 t6 t7 t8
    have x0 := (BX.out.wr0 R6.out).cell 0
    have x1 := (BX.out.wr0 R6.out).cell 1
    have x2 := (BX.out.wr0 R6.out).cell 2
    have x3 := (BX.out.wr0 R6.out).cell 3
    have x4 := (BX.out.wr0 R6.out).cell 4
    have x5 := (BX.out.wr0 R6.out).cell 5
    have x6 := (BX.out.wr0 R6.out).cell 6
    have x7 := (BX.out.wr0 R6.out).cell 7
    have x8 := (BX.out.wr0 R6.out).cell 8
    simp only [qgaq, qgzq, qgsq] at x0 x1 x2 x3 x4 x5 x6 x7 x8
    have hs1 := HSAA.out w6 _ _ _ _ _ ol6 R6.out
    have HS1 := qh hs1
    clear hs1 kq b15 ol6
    go_wp2_with fail
    refine HS1.out.mono ?_
    rintro e w7 ⟨rfl, k7⟩
    have R7 := qh (R6.out.trans k7)
    clear k7 t0 t1 t2 t3 t4 t5 t6 t7 t8 x0 x1 x2 x3 x4 x5 x6 x7 x8
    obtain ⟨wm, cap, hconv, mo⟩ := made_of w7 FA
    have hconv2 := hconv
    rw [hS] at hconv2
    have c0 := mo.cell k hk
    have f0 := mo.free k hk
    have hgz := World.block_lt_of_cell? wm _ c0
    have hxx := xor8O (FA[k]'hk).toNat byN (UInt8.toNat_lt _) hby
    have hyl : (FA[k]'hk).toNat ^^^ byN < 256 := Nat.xor_lt_two_pow (n := 8) (UInt8.toNat_lt _) (by omega)
    have hback := made_back mo cap k _ hk hyl
    have km := mo.wr
    go_upto_region 12 with (fail)
    have ks : Wr [] w7 (wm.setCell ⟨w7.heap.size, k, none⟩ (.int .u8 (((FA[k]'hk).toNat ^^^ byN : Nat) : Int))) := (km.new ((Wr.refl [w7.heap.size] wm).setOn (by simp) _) (Nat.le_refl _))
    generalize wm.setCell ⟨w7.heap.size, k, none⟩ (.int .u8 (((FA[k]'hk).toNat ^^^ byN : Nat) : Int)) = wn at *
    have hset := HSET.out
    have HNE := qh hyl
    obtain ⟨LS, hLS⟩ : ∃ q, FA.set k (UInt8.ofNat ((FA[k]'hk).toNat ^^^ byN)) = q := ⟨_, rfl⟩
    rw [hLS] at hset hback
    have hdl : LS.length ≤ maxLen := by rw [← hLS, List.length_set]; have := HFL.out; unfold maxLen; omega
    have hde := odec_any LS hdl wn
    unfold ODecR at hde
    obtain ⟨dq, hdq⟩ : ∃ q, decodeP LS = q := ⟨_, rfl⟩
    obtain ⟨od, H⟩ := dq
    rw [hdq] at hde hset
    simp only at hde hset
    obtain ⟨SL, hSL⟩ : ∃ q, ansS LS = q := ⟨_, rfl⟩
    rw [hSL] at hde hback
    have HDE := qh hde
    have RN := qh (R7.out.trans ks)
    clear hconv hconv2 mo c0 f0 hgz hxx hyl km ks hLS hdl hde hdq hSL
    go_wp2_with fail
    refine HDE.out.mono ?_
    rintro e wd ⟨vu, vp, vi, vn, rfl, kd, ol⟩
    obtain ⟨Du, du, rfl, _, _⟩ := Sl.form ol.uses
    obtain ⟨Dp, dp, rfl, _, _⟩ := Sl.form ol.mod.procs
    obtain ⟨Di, di, rfl, _, _⟩ := Sl.form ol.mod.imports
    obtain ⟨Dn, dn, rfl, _, _⟩ := Sl.form ol.mod.init
    simp only [ObjD.val, ObjD.cells]
    have kq := (Wr.refl [] wd).alloc (.cells #[.string od.module, .bool od.main, .int .u64 od.key, .slice Du od.uses.length du, .string od.mod.code, .slice Dp od.mod.procs.length dp, .slice Di od.mod.imports.length di, .int .i64 od.mod.data, .slice Dn od.mod.init.length dn] 30)
    have RD := qh ((RN.out.trans kd).trans kq)
    clear hback kd ol
    go_upto_region 13 with (fail)
    generalize wd.alloc (.cells #[.string od.module, .bool od.main, .int .u64 od.key, .slice Du od.uses.length du, .string od.mod.code, .slice Dp od.mod.procs.length dp, .slice Di od.mod.imports.length di, .int .i64 od.mod.data, .slice Dn od.mod.init.length dn] 30) = we at *
    clear kq
    have m4 := (BX.out.wr0 RD.out).cell 4
    have m5 := (BX.out.wr0 RD.out).cell 5
    have m6 := (BX.out.wr0 RD.out).cell 6
    have m7 := (BX.out.wr0 RD.out).cell 7
    have m8 := (BX.out.wr0 RD.out).cell 8
    simp only [qgaq, qgzq, qgsq] at m4 m5 m6 m7 m8
    have hpa := HPA.out we (HX.out.mod.wr0 RD.out)
    have HPQ := qh hpa
    clear hpa
    go_wp2_with fail
    refine HPQ.out.mono ?_
    rintro e wf ⟨rfl, kf⟩
    have RF := qh (RD.out.trans kf)
    clear kf m4 m5 m6 m7 m8
    have hun := HUN.out wf
    have HUQ := qh hun
    have hcat := HCAT.out
    have hcs := HCS.out
    clear hun
    go_wp2_with fail
    refine HUQ.out.mono ?_
    rintro e wh ⟨vp, vi, vn, rfl, kh, ml⟩
    obtain ⟨Ep, ep, rfl, _, _⟩ := Sl.form ml.procs
    obtain ⟨Ei, ei, rfl, _, _⟩ := Sl.form ml.imports
    obtain ⟨En, en, rfl, _, _⟩ := Sl.form ml.init
    simp only [ModD.val, ModD.cells]
    have kq := (Wr.refl [] wh).alloc (.cells #[.string a.mod.code, .slice Ep a.mod.procs.length ep, .slice Ei a.mod.imports.length ei, .int .i64 a.mod.data, .slice En a.mod.init.length en] 28)
    have b22 := Blk.new wh 28 #[.string a.mod.code, .slice Ep a.mod.procs.length ep, .slice Ei a.mod.imports.length ei, .int .i64 a.mod.data, .slice En a.mod.init.length en]
    have ml2 := ml.wr0 kq
    have RH := qh ((RF.out.trans kh).trans kq)
    clear kh ml hcat hcs
    go_upto_region 15 with (fail)
    generalize wh.alloc (.cells #[.string a.mod.code, .slice Ep a.mod.procs.length ep, .slice Ei a.mod.imports.length ei, .int .i64 a.mod.data, .slice En a.mod.init.length en] 28) = wi at *
    generalize wh.heap.size = z22 at *
    have q0 := (b22).cell 0
    have q1 := (b22).cell 1
    have q2 := (b22).cell 2
    have q3 := (b22).cell 3
    have q4 := (b22).cell 4
    simp only [qgaq, qgzq, qgsq] at q0 q1 q2 q3 q4
    have m4 := (BX.out.wr0 RH.out).cell 4
    have m5 := (BX.out.wr0 RH.out).cell 5
    have m6 := (BX.out.wr0 RH.out).cell 6
    have m7 := (BX.out.wr0 RH.out).cell 7
    have m8 := (BX.out.wr0 RH.out).cell 8
    simp only [qgaq, qgzq, qgsq] at m4 m5 m6 m7 m8
    have hsm := rsamemod_any a.mod a.mod _ _ _ _ _ _ _ _ wi ml2 (HX.out.mod.wr0 RH.out)
    rw [eqB_true rfl] at hsm
    unfold ModD.val ModD.cells at hsm
    have HSM := qh hsm
    obtain ⟨bb, hbb⟩ : ∃ q, ((byN : Int) == 0) = q := ⟨_, rfl⟩
    rw [hbb] at hset
    have hstr := str_eq behind
    clear hsm kq ml2 b22
    go_wp2_with fail
    refine HSM.out.mono ?_
    rintro e wj ⟨rfl, kj⟩
    have RJ := qh (RH.out.trans kj)
    clear kj
    go_wp2_with fail
    refine (HAL.out _).mono ?_
    rintro e wz ⟨rfl, kz⟩
    go_wp2_with fail
    go_ret
    exact ⟨rfl, ACC.out.trans (RJ.out.trans kz)⟩
end Go.Proofs.YtildcdgobdfieaaGreat
