/- ObjTells: walked. Conditions: numbers are within their kinds. -/
import Derived.Test.YtildcdgobdfieaaGreatOT01
import Derived.Test.YtildcdgobdfieaaGreatOT33
import Derived.Test.YtildcdgobdfieaaGreatOT36
import Derived.ProofKit
import Derived.OpenShut
import Derived.Deep.Slices
import Derived.Deep.Fields
import Derived.ChangeSame
set_option linter.unusedVariables false
set_option linter.unusedSimpArgs false
set_option maxRecDepth 100000
set_option maxHeartbeats 32000000
namespace Go.Proofs.YtildcdgobdfieaaGreat
open Go.RowKit
theorem objTells_any (a b : ObjD) (vu vp vi vn uu up ui un : Value) (wa : objW a) (wb : objW b) (w : World)
  (hx : ObjL w (fun _ => True) vu vp vi vn a) (hy : ObjL w (fun _ => True) uu up ui un b) :
  Calls Tryz.prog 3 #[a.val vu vp vi vn, b.val uu up ui un] w fun e w' => e = .returned (.bool true) ∧ Wr [] w w' := by
 unfold ObjD.val ObjD.cells
 obtain ⟨Au, cu, rfl, _, _⟩ := Sl.form hx.uses
 obtain ⟨Ap, cp, rfl, _, _⟩ := Sl.form hx.mod.procs
 obtain ⟨Ai, ci, rfl, _, _⟩ := Sl.form hx.mod.imports
 obtain ⟨An, cn, rfl, _, _⟩ := Sl.form hx.mod.init
 obtain ⟨Bu, du, rfl, _, _⟩ := Sl.form hy.uses
 obtain ⟨Bp, dp, rfl, _, _⟩ := Sl.form hy.mod.procs
 obtain ⟨Bi, di, rfl, _, _⟩ := Sl.form hy.mod.imports
 obtain ⟨Bn, dn, rfl, _, _⟩ := Sl.form hy.mod.init
 obtain ⟨wa0, hwa⟩ : ∃ q, w.alloc (.cells #[.string a.module, .bool a.main, .int .u64 a.key, .slice Au a.uses.length cu, .string a.mod.code, .slice Ap a.mod.procs.length cp, .slice Ai a.mod.imports.length ci, .int .i64 a.mod.data, .slice An a.mod.init.length cn] 30) = q := ⟨_, rfl⟩
 obtain ⟨g, hg⟩ : ∃ q, w.heap.size = q := ⟨_, rfl⟩
 have sa : wa0.heap.size = g + 1 := by rw [← hwa, World.size_alloc, hg]
 obtain ⟨w0, hw0⟩ : ∃ q, wa0.alloc (.cells #[.string b.module, .bool b.main, .int .u64 b.key, .slice Bu b.uses.length du, .string b.mod.code, .slice Bp b.mod.procs.length dp, .slice Bi b.mod.imports.length di, .int .i64 b.mod.data, .slice Bn b.mod.init.length dn] 30) = q := ⟨_, rfl⟩
 have ra : Wr [] w wa0 := by rw [← hwa]; exact (Wr.refl _ _).alloc _
 have rb : Wr [] wa0 w0 := by rw [← hw0]; exact (Wr.refl _ _).alloc _
 have bX : Blk w0 g 30 #[.string a.module, .bool a.main, .int .u64 a.key, .slice Au a.uses.length cu, .string a.mod.code, .slice Ap a.mod.procs.length cp, .slice Ai a.mod.imports.length ci, .int .i64 a.mod.data, .slice An a.mod.init.length cn] := by
  have := (show Blk wa0 g 30 #[.string a.module, .bool a.main, .int .u64 a.key, .slice Au a.uses.length cu, .string a.mod.code, .slice Ap a.mod.procs.length cp, .slice Ai a.mod.imports.length ci, .int .i64 a.mod.data, .slice An a.mod.init.length cn] by rw [← hwa, ← hg]; exact Blk.new _ _ _)
  exact this.wr0 rb
 have bY : Blk w0 (g + 1) 30 #[.string b.module, .bool b.main, .int .u64 b.key, .slice Bu b.uses.length du, .string b.mod.code, .slice Bp b.mod.procs.length dp, .slice Bi b.mod.imports.length di, .int .i64 b.mod.data, .slice Bn b.mod.init.length dn] := by rw [← hw0, ← sa]; exact Blk.new _ _ _
 have hw0' : (w.alloc (.cells #[.string a.module, .bool a.main, .int .u64 a.key, .slice Au a.uses.length cu, .string a.mod.code, .slice Ap a.mod.procs.length cp, .slice Ai a.mod.imports.length ci, .int .i64 a.mod.data, .slice An a.mod.init.length cn] 30)).alloc (.cells #[.string b.module, .bool b.main, .int .u64 b.key, .slice Bu b.uses.length du, .string b.mod.code, .slice Bp b.mod.procs.length dp, .slice Bi b.mod.imports.length di, .int .i64 b.mod.data, .slice Bn b.mod.init.length dn] 30) = w0 := by rw [hwa, hw0]
 have acc := ra.trans rb
 have HX := qh (hx.wr0 acc)
 have HY := qh (hy.wr0 acc)
 have ACC := qh acc
 have BX := qh bX
 have BY := qh bY
 have Hw0 := qh hw0'
 have Hg := qh hg
 have HAL := qh alive21
 clear hx hy hwa hw0 hw0' hg sa ra rb acc bX bY
 have hla := large21_any a _ _ _ _ _ w0 HX.out
 have hlb := fun W (hW : Wr [] w0 W) => large21_any b _ _ _ _ _ W (HY.out.wr0 hW)
 have hea := fun W (hW : Wr [] w0 W) => oenc_any a _ _ _ _ _ wa W (HX.out.wr0 hW)
 have her := fun W (hW : Wr [] w0 W) => renc_any a _ _ _ _ _ wa W (HX.out.wr0 hW)
 have hpa := fun W (hW : Wr [] w0 W) => pack_any a.mod _ _ _ _ wa.words W (HX.out.mod.wr0 hW)
 have hpr := fun W (hW : Wr [] w0 W) => rpack_any a.mod _ _ _ _ wa.words W (HX.out.mod.wr0 hW)
 have hma := fun W (hW : Wr [] w0 W) => omay_any a _ _ _ _ _ W (HX.out.wr0 hW)
 have hmr := fun W (hW : Wr [] w0 W) => romay_any a _ _ _ _ _ W (HX.out.wr0 hW)
 have hsa := fun W (hW : Wr [] w0 W) => osame_any a b _ _ _ _ _ _ _ _ _ _ W (HX.out.wr0 hW) (HY.out.wr0 hW)
 have hsr := fun W (hW : Wr [] w0 W) => rsame_any a b _ _ _ _ _ _ _ _ _ _ W (HX.out.wr0 hW) (HY.out.wr0 hW)
 unfold ObjD.val ObjD.cells at hla hlb hea her hma hmr hsa hsr
 unfold ModD.val ModD.cells at hpa hpr
 unfold OEncR at hea her
 unfold PackR at hpa hpr
 obtain ⟨S, hS⟩ : ∃ q : ByteArray, (⟨(encodeP a).1.toArray⟩ : ByteArray) = q := ⟨_, rfl⟩
 obtain ⟨T, hT⟩ : ∃ q : ByteArray, (⟨(packP a.mod).1.toArray⟩ : ByteArray) = q := ⟨_, rfl⟩
 obtain ⟨sn, hsn⟩ : ∃ q, (encodeP a).2 = q := ⟨_, rfl⟩
 obtain ⟨tn, htn⟩ : ∃ q, (packP a.mod).2 = q := ⟨_, rfl⟩
 obtain ⟨mb, hmb⟩ : ∃ q, objB a = q := ⟨_, rfl⟩
 obtain ⟨sb, hsb⟩ : ∃ q, eqB a b = q := ⟨_, rfl⟩
 simp only [hS, hsn] at hea her
 simp only [hT, htn] at hpa hpr
 rw [hmb] at hma hmr
 rw [hsb] at hsa hsr
 have e1 := str_eq S
 have e2 := str_eq T
 have HLA := qh hla
 have HLB := qh hlb
 have HEA := qh hea
 have HER := qh her
 have HPA := qh hpa
 have HPR := qh hpr
 have HMA := qh hma
 have HMR := qh hmr
 have HSA := qh hsa
 have HSR := qh hsr
 clear hla hlb hea her hpa hpr hma hmr hsa hsr hS hT hsn htn hmb hsb
 go_enter Tryz.func3, Tryz.ntmps3
 go_upto_region 1 with (fail)
 rw [Hw0.out, Hg.out]
 have x0 := (BX.out).cell 0
 have x1 := (BX.out).cell 1
 have x2 := (BX.out).cell 2
 have x3 := (BX.out).cell 3
 have x4 := (BX.out).cell 4
 have x5 := (BX.out).cell 5
 have x6 := (BX.out).cell 6
 have x7 := (BX.out).cell 7
 have x8 := (BX.out).cell 8
 simp only [qgaq, qgzq, qgsq] at x0 x1 x2 x3 x4 x5 x6 x7 x8
 have y0 := (BY.out).cell 0
 have y1 := (BY.out).cell 1
 have y2 := (BY.out).cell 2
 have y3 := (BY.out).cell 3
 have y4 := (BY.out).cell 4
 have y5 := (BY.out).cell 5
 have y6 := (BY.out).cell 6
 have y7 := (BY.out).cell 7
 have y8 := (BY.out).cell 8
 simp only [qgaq, qgzq, qgsq] at y0 y1 y2 y3 y4 y5 y6 y7 y8
 go_wp2_with fail
 refine HLA.out.mono ?_
 rintro e w1 ⟨ra, rfl, k1⟩
 have R1 := qh k1
 clear k1 x0 x1 x2 x3 x4 x5 x6 x7 x8 y0 y1 y2 y3 y4 y5 y6 y7 y8
 cases ra with
 | true =>
  go_wp2_with fail
  refine (HAL.out _).mono ?_
  rintro e wz ⟨rfl, kz⟩
  go_wp2_with fail
  go_ret
  exact ⟨rfl, ACC.out.trans ((R1.out).trans kz)⟩
 | false =>
  have y0 := (BY.out.wr0 R1.out).cell 0
  have y1 := (BY.out.wr0 R1.out).cell 1
  have y2 := (BY.out.wr0 R1.out).cell 2
  have y3 := (BY.out.wr0 R1.out).cell 3
  have y4 := (BY.out.wr0 R1.out).cell 4
  have y5 := (BY.out.wr0 R1.out).cell 5
  have y6 := (BY.out.wr0 R1.out).cell 6
  have y7 := (BY.out.wr0 R1.out).cell 7
  have y8 := (BY.out.wr0 R1.out).cell 8
  simp only [qgaq, qgzq, qgsq] at y0 y1 y2 y3 y4 y5 y6 y7 y8
  have hlb := HLB.out w1 R1.out
  have HLB1 := qh hlb
  clear hlb
  go_wp2_with fail
  refine HLB1.out.mono ?_
  rintro e w2 ⟨rb, rfl, k2⟩
  have R2 := qh (R1.out.trans k2)
  clear k2 y0 y1 y2 y3 y4 y5 y6 y7 y8
  cases rb with
  | true =>
   go_wp2_with fail
   refine (HAL.out _).mono ?_
   rintro e wz ⟨rfl, kz⟩
   go_wp2_with fail
   go_ret
   exact ⟨rfl, ACC.out.trans ((R2.out).trans kz)⟩
  | false =>
   have x0 := (BX.out.wr0 R2.out).cell 0
   have x1 := (BX.out.wr0 R2.out).cell 1
   have x2 := (BX.out.wr0 R2.out).cell 2
   have x3 := (BX.out.wr0 R2.out).cell 3
   have x4 := (BX.out.wr0 R2.out).cell 4
   have x5 := (BX.out.wr0 R2.out).cell 5
   have x6 := (BX.out.wr0 R2.out).cell 6
   have x7 := (BX.out.wr0 R2.out).cell 7
   have x8 := (BX.out.wr0 R2.out).cell 8
   simp only [qgaq, qgzq, qgsq] at x0 x1 x2 x3 x4 x5 x6 x7 x8
   go_wp2_with fail
   refine (HEA.out _ R2.out).mono ?_
   rintro e w3 ⟨rfl, k3⟩
   have R3 := qh (R2.out.trans k3)
   clear k3 x0 x1 x2 x3 x4 x5 x6 x7 x8
   have x0 := (BX.out.wr0 R3.out).cell 0
   have x1 := (BX.out.wr0 R3.out).cell 1
   have x2 := (BX.out.wr0 R3.out).cell 2
   have x3 := (BX.out.wr0 R3.out).cell 3
   have x4 := (BX.out.wr0 R3.out).cell 4
   have x5 := (BX.out.wr0 R3.out).cell 5
   have x6 := (BX.out.wr0 R3.out).cell 6
   have x7 := (BX.out.wr0 R3.out).cell 7
   have x8 := (BX.out.wr0 R3.out).cell 8
   simp only [qgaq, qgzq, qgsq] at x0 x1 x2 x3 x4 x5 x6 x7 x8
   go_wp2_with fail
   refine (HER.out _ R3.out).mono ?_
   rintro e w4 ⟨rfl, k4⟩
   have R4 := qh (R3.out.trans k4)
   clear k4 x0 x1 x2 x3 x4 x5 x6 x7 x8
   have x4 := (BX.out.wr0 R4.out).cell 4
   have x5 := (BX.out.wr0 R4.out).cell 5
   have x6 := (BX.out.wr0 R4.out).cell 6
   have x7 := (BX.out.wr0 R4.out).cell 7
   have x8 := (BX.out.wr0 R4.out).cell 8
   simp only [qgaq, qgzq, qgsq] at x4 x5 x6 x7 x8
   go_wp2_with fail
   refine (HPA.out _ R4.out).mono ?_
   rintro e w5 ⟨rfl, k5⟩
   have R5 := qh (R4.out.trans k5)
   clear k5 x4 x5 x6 x7 x8
   have x4 := (BX.out.wr0 R5.out).cell 4
   have x5 := (BX.out.wr0 R5.out).cell 5
   have x6 := (BX.out.wr0 R5.out).cell 6
   have x7 := (BX.out.wr0 R5.out).cell 7
   have x8 := (BX.out.wr0 R5.out).cell 8
   simp only [qgaq, qgzq, qgsq] at x4 x5 x6 x7 x8
   go_wp2_with fail
   refine (HPR.out _ R5.out).mono ?_
   rintro e w6 ⟨rfl, k6⟩
   have R6 := qh (R5.out.trans k6)
   clear k6 x4 x5 x6 x7 x8
   have x0 := (BX.out.wr0 R6.out).cell 0
   have x1 := (BX.out.wr0 R6.out).cell 1
   have x2 := (BX.out.wr0 R6.out).cell 2
   have x3 := (BX.out.wr0 R6.out).cell 3
   have x4 := (BX.out.wr0 R6.out).cell 4
   have x5 := (BX.out.wr0 R6.out).cell 5
   have x6 := (BX.out.wr0 R6.out).cell 6
   have x7 := (BX.out.wr0 R6.out).cell 7
   have x8 := (BX.out.wr0 R6.out).cell 8
   simp only [qgaq, qgzq, qgsq] at x0 x1 x2 x3 x4 x5 x6 x7 x8
   have y0 := (BY.out.wr0 R6.out).cell 0
   have y1 := (BY.out.wr0 R6.out).cell 1
   have y2 := (BY.out.wr0 R6.out).cell 2
   have y3 := (BY.out.wr0 R6.out).cell 3
   have y4 := (BY.out.wr0 R6.out).cell 4
   have y5 := (BY.out.wr0 R6.out).cell 5
   have y6 := (BY.out.wr0 R6.out).cell 6
   have y7 := (BY.out.wr0 R6.out).cell 7
   have y8 := (BY.out.wr0 R6.out).cell 8
   simp only [qgaq, qgzq, qgsq] at y0 y1 y2 y3 y4 y5 y6 y7 y8
   go_upto_region 7 with (fail)
   have hC : ∀ W, Wr [] w6 W → W.cell? ⟨g, 0, none⟩ = some (.string a.module) ∧ W.cell? ⟨g, 1, none⟩ = some (.bool a.main) ∧ W.cell? ⟨g, 2, none⟩ = some (.int .u64 a.key) ∧ W.cell? ⟨g, 3, none⟩ = some (.slice Au a.uses.length cu) ∧ W.cell? ⟨g, 4, none⟩ = some (.string a.mod.code) ∧ W.cell? ⟨g, 5, none⟩ = some (.slice Ap a.mod.procs.length cp) ∧ W.cell? ⟨g, 6, none⟩ = some (.slice Ai a.mod.imports.length ci) ∧ W.cell? ⟨g, 7, none⟩ = some (.int .i64 a.mod.data) ∧ W.cell? ⟨g, 8, none⟩ = some (.slice An a.mod.init.length cn) ∧ W.cell? ⟨g + 1, 0, none⟩ = some (.string b.module) ∧ W.cell? ⟨g + 1, 1, none⟩ = some (.bool b.main) ∧ W.cell? ⟨g + 1, 2, none⟩ = some (.int .u64 b.key) ∧ W.cell? ⟨g + 1, 3, none⟩ = some (.slice Bu b.uses.length du) ∧ W.cell? ⟨g + 1, 4, none⟩ = some (.string b.mod.code) ∧ W.cell? ⟨g + 1, 5, none⟩ = some (.slice Bp b.mod.procs.length dp) ∧ W.cell? ⟨g + 1, 6, none⟩ = some (.slice Bi b.mod.imports.length di) ∧ W.cell? ⟨g + 1, 7, none⟩ = some (.int .i64 b.mod.data) ∧ W.cell? ⟨g + 1, 8, none⟩ = some (.slice Bn b.mod.init.length dn) := fun W hW => ⟨hW.cellOf x0 (by simp), hW.cellOf x1 (by simp), hW.cellOf x2 (by simp), hW.cellOf x3 (by simp), hW.cellOf x4 (by simp), hW.cellOf x5 (by simp), hW.cellOf x6 (by simp), hW.cellOf x7 (by simp), hW.cellOf x8 (by simp), hW.cellOf y0 (by simp), hW.cellOf y1 (by simp), hW.cellOf y2 (by simp), hW.cellOf y3 (by simp), hW.cellOf y4 (by simp), hW.cellOf y5 (by simp), hW.cellOf y6 (by simp), hW.cellOf y7 (by simp), hW.cellOf y8 (by simp)⟩
   have HC := qh hC
   clear hC
   refine wp_region_noPanic ?_
   refine wp_region_L (AlwO fun w' => w'.cell? ⟨g, 0, none⟩ = some (.string a.module) ∧ w'.cell? ⟨g, 1, none⟩ = some (.bool a.main) ∧ w'.cell? ⟨g, 2, none⟩ = some (.int .u64 a.key) ∧ w'.cell? ⟨g, 3, none⟩ = some (.slice Au a.uses.length cu) ∧ w'.cell? ⟨g, 4, none⟩ = some (.string a.mod.code) ∧ w'.cell? ⟨g, 5, none⟩ = some (.slice Ap a.mod.procs.length cp) ∧ w'.cell? ⟨g, 6, none⟩ = some (.slice Ai a.mod.imports.length ci) ∧ w'.cell? ⟨g, 7, none⟩ = some (.int .i64 a.mod.data) ∧ w'.cell? ⟨g, 8, none⟩ = some (.slice An a.mod.init.length cn) ∧ w'.cell? ⟨g + 1, 0, none⟩ = some (.string b.module) ∧ w'.cell? ⟨g + 1, 1, none⟩ = some (.bool b.main) ∧ w'.cell? ⟨g + 1, 2, none⟩ = some (.int .u64 b.key) ∧ w'.cell? ⟨g + 1, 3, none⟩ = some (.slice Bu b.uses.length du) ∧ w'.cell? ⟨g + 1, 4, none⟩ = some (.string b.mod.code) ∧ w'.cell? ⟨g + 1, 5, none⟩ = some (.slice Bp b.mod.procs.length dp) ∧ w'.cell? ⟨g + 1, 6, none⟩ = some (.slice Bi b.mod.imports.length di) ∧ w'.cell? ⟨g + 1, 7, none⟩ = some (.int .i64 b.mod.data) ∧ w'.cell? ⟨g + 1, 8, none⟩ = some (.slice Bn b.mod.init.length dn)) (by kernel_rfl) (fun hcl => ?_)
   have hS : AlwO (fun w' => w'.cell? ⟨g, 0, none⟩ = some (.string a.module) ∧ w'.cell? ⟨g, 1, none⟩ = some (.bool a.main) ∧ w'.cell? ⟨g, 2, none⟩ = some (.int .u64 a.key) ∧ w'.cell? ⟨g, 3, none⟩ = some (.slice Au a.uses.length cu) ∧ w'.cell? ⟨g, 4, none⟩ = some (.string a.mod.code) ∧ w'.cell? ⟨g, 5, none⟩ = some (.slice Ap a.mod.procs.length cp) ∧ w'.cell? ⟨g, 6, none⟩ = some (.slice Ai a.mod.imports.length ci) ∧ w'.cell? ⟨g, 7, none⟩ = some (.int .i64 a.mod.data) ∧ w'.cell? ⟨g, 8, none⟩ = some (.slice An a.mod.init.length cn) ∧ w'.cell? ⟨g + 1, 0, none⟩ = some (.string b.module) ∧ w'.cell? ⟨g + 1, 1, none⟩ = some (.bool b.main) ∧ w'.cell? ⟨g + 1, 2, none⟩ = some (.int .u64 b.key) ∧ w'.cell? ⟨g + 1, 3, none⟩ = some (.slice Bu b.uses.length du) ∧ w'.cell? ⟨g + 1, 4, none⟩ = some (.string b.mod.code) ∧ w'.cell? ⟨g + 1, 5, none⟩ = some (.slice Bp b.mod.procs.length dp) ∧ w'.cell? ⟨g + 1, 6, none⟩ = some (.slice Bi b.mod.imports.length di) ∧ w'.cell? ⟨g + 1, 7, none⟩ = some (.int .i64 b.mod.data) ∧ w'.cell? ⟨g + 1, 8, none⟩ = some (.slice Bn b.mod.init.length dn)) (Array.replicate 38 false) w6.drew := ⟨x0, x1, x2, x3, x4, x5, x6, x7, x8, y0, y1, y2, y3, y4, y5, y6, y7, y8⟩
   refine wpAnyL_take (i := 0) (oi := ?oi101) (v := ?v101) ?hi101 (by kernel_rfl) (by kernel_rfl) (by kernel_rfl) (fun _ _ _ h => h) (alwO_take _) ?hy101 hcl hS ?rest101
   case hi101 =>
    simp only [qgaq, qgsq, qgzq]
    rfl
   case hy101 =>
    refine yields_alwO (Or.inl ⟨by rfl, fun w' hS => ?_⟩)
    try go_split_ands
    go_simp
    try rfl
   case rest101 =>
   intro hcl101 hS101
   clear hcl hS
   try simp only [Act.put, qsaq, qszq, qssq]
   refine wpAnyL_take (i := 2) (oi := ?oi102) (v := ?v102) ?hi102 (by kernel_rfl) (by kernel_rfl) (by kernel_rfl) (fun _ _ _ h => h) (alwO_take _) ?hy102 hcl101 hS101 ?rest102
   case hi102 =>
    simp only [qgaq, qgsq, qgzq]
    rfl
   case hy102 =>
    refine yields_alwO (Or.inl ⟨by rfl, fun w' hS => ?_⟩)
    try go_split_ands
    go_simp
    try rfl
   case rest102 =>
   intro hcl102 hS102
   clear hcl101 hS101
   try simp only [Act.put, qsaq, qszq, qssq]
   refine wpAnyL_step (i := 1) (o := ?oi103) ?hi103 (by kernel_rfl) hcl102 ?rest103
   case hi103 =>
    simp only [qgaq, qgsq, qgzq]
    rfl
   case rest103 =>
   intro K hK
   go_simp
   go_at_call 14
   refine (HMA.out _ (R6.out.trans ((Wr.refl [] w6).drew))).mono ?_
   rintro e w7 ⟨rfl, w7q⟩
   have w7r := ((Wr.refl [] w6).drew).trans w7q
   clear w7q
   refine hK _ _ (HC.out _ w7r) (fun hcl103 => ?_)
   clear hK K hcl102 hS102
   try simp only [Act.put, qsaq, qszq, qssq]
   refine wpAnyL_step (i := 3) (o := ?oi104) ?hi104 (by kernel_rfl) hcl103 ?rest104
   case hi104 =>
    simp only [qgaq, qgsq, qgzq]
    rfl
   case rest104 =>
   intro K hK
   go_simp
   go_at_call 15
   refine (HMR.out _ (R6.out.trans w7r)).mono ?_
   rintro e w8 ⟨rfl, w8q⟩
   have w8r := (w7r).trans w8q
   clear w8q
   refine hK _ _ (HC.out _ w8r) (fun hcl104 => ?_)
   clear hK K hcl103
   try simp only [Act.put, qsaq, qszq, qssq]
   refine wpAnyL_take (i := 4) (oi := ?oi105) (v := ?v105) ?hi105 (by kernel_rfl) (by kernel_rfl) (by kernel_rfl) (fun _ _ _ h => h) (alwO_take _) ?hy105 hcl104 (HC.out _ w8r) ?rest105
   case hi105 =>
    simp only [qgaq, qgsq, qgzq]
    rfl
   case hy105 =>
    refine yields_alwO (Or.inl ⟨by rfl, fun w' hS => ?_⟩)
    try go_split_ands
    go_simp
    try rfl
   case rest105 =>
   intro hcl105 hS105
   clear hcl104
   try simp only [Act.put, qsaq, qszq, qssq]
   refine wpAnyL_take (i := 5) (oi := ?oi106) (v := ?v106) ?hi106 (by kernel_rfl) (by kernel_rfl) (by kernel_rfl) (fun _ _ _ h => h) (alwO_take _) ?hy106 hcl105 hS105 ?rest106
   case hi106 =>
    simp only [qgaq, qgsq, qgzq]
    rfl
   case hy106 =>
    refine yields_alwO (Or.inl ⟨by rfl, fun w' hS => ?_⟩)
    try go_split_ands
    go_simp
    try rfl
   case rest106 =>
   intro hcl106 hS106
   clear hcl105 hS105
   try simp only [Act.put, qsaq, qszq, qssq]
   refine wpAnyL_take (i := 6) (oi := ?oi107) (v := ?v107) ?hi107 (by kernel_rfl) (by kernel_rfl) (by kernel_rfl) (fun _ _ _ h => h) (alwO_take _) ?hy107 hcl106 hS106 ?rest107
   case hi107 =>
    simp only [qgaq, qgsq, qgzq]
    rfl
   case hy107 =>
    refine yields_alwO (Or.inl ⟨by rfl, fun w' hS => ?_⟩)
    try go_split_ands
    go_simp
    try rfl
   case rest107 =>
   intro hcl107 hS107
   clear hcl106 hS106
   try simp only [Act.put, qsaq, qszq, qssq]
   refine wpAnyL_take (i := 7) (oi := ?oi108) (v := ?v108) ?hi108 (by kernel_rfl) (by kernel_rfl) (by kernel_rfl) (fun _ _ _ h => h) (alwO_take _) ?hy108 hcl107 hS107 ?rest108
   case hi108 =>
    simp only [qgaq, qgsq, qgzq]
    rfl
   case hy108 =>
    refine yields_alwO (Or.inl ⟨by rfl, fun w' hS => ?_⟩)
    try go_split_ands
    go_simp
    try rfl
   case rest108 =>
   intro hcl108 hS108
   clear hcl107 hS107
   try simp only [Act.put, qsaq, qszq, qssq]
   refine wpAnyL_take (i := 8) (oi := ?oi109) (v := ?v109) ?hi109 (by kernel_rfl) (by kernel_rfl) (by kernel_rfl) (fun _ _ _ h => h) (alwO_take _) ?hy109 hcl108 hS108 ?rest109
   case hi109 =>
    simp only [qgaq, qgsq, qgzq]
    rfl
   case hy109 =>
    refine yields_alwO (Or.inl ⟨by rfl, fun w' hS => ?_⟩)
    try go_split_ands
    go_simp
    try rfl
   case rest109 =>
   intro hcl109 hS109
   clear hcl108 hS108
   try simp only [Act.put, qsaq, qszq, qssq]
   refine wpAnyL_take (i := 9) (oi := ?oi110) (v := ?v110) ?hi110 (by kernel_rfl) (by kernel_rfl) (by kernel_rfl) (fun _ _ _ h => h) (alwO_take _) ?hy110 hcl109 hS109 ?rest110
   case hi110 =>
    simp only [qgaq, qgsq, qgzq]
    rfl
   case hy110 =>
    refine yields_alwO (Or.inl ⟨by rfl, fun w' hS => ?_⟩)
    try go_split_ands
    go_simp
    try rfl
   case rest110 =>
   intro hcl110 hS110
   clear hcl109 hS109
   try simp only [Act.put, qsaq, qszq, qssq]
   refine wpAnyL_take (i := 10) (oi := ?oi111) (v := ?v111) ?hi111 (by kernel_rfl) (by kernel_rfl) (by kernel_rfl) (fun _ _ _ h => h) (alwO_take _) ?hy111 hcl110 hS110 ?rest111
   case hi111 =>
    simp only [qgaq, qgsq, qgzq]
    rfl
   case hy111 =>
    refine yields_alwO (Or.inl ⟨by rfl, fun w' hS => ?_⟩)
    try go_split_ands
    go_simp
    try rfl
   case rest111 =>
   intro hcl111 hS111
   clear hcl110 hS110
   try simp only [Act.put, qsaq, qszq, qssq]
   refine wpAnyL_take (i := 11) (oi := ?oi112) (v := ?v112) ?hi112 (by kernel_rfl) (by kernel_rfl) (by kernel_rfl) (fun _ _ _ h => h) (alwO_take _) ?hy112 hcl111 hS111 ?rest112
   case hi112 =>
    simp only [qgaq, qgsq, qgzq]
    rfl
   case hy112 =>
    refine yields_alwO (Or.inl ⟨by rfl, fun w' hS => ?_⟩)
    try go_split_ands
    go_simp
    try rfl
   case rest112 =>
   intro hcl112 hS112
   clear hcl111 hS111
   try simp only [Act.put, qsaq, qszq, qssq]
   refine wpAnyL_take (i := 12) (oi := ?oi113) (v := ?v113) ?hi113 (by kernel_rfl) (by kernel_rfl) (by kernel_rfl) (fun _ _ _ h => h) (alwO_take _) ?hy113 hcl112 hS112 ?rest113
   case hi113 =>
    simp only [qgaq, qgsq, qgzq]
    rfl
   case hy113 =>
    refine yields_alwO (Or.inl ⟨by rfl, fun w' hS => ?_⟩)
    try go_split_ands
    go_simp
    try rfl
   case rest113 =>
   intro hcl113 hS113
   clear hcl112 hS112
   try simp only [Act.put, qsaq, qszq, qssq]
   refine wpAnyL_take (i := 13) (oi := ?oi114) (v := ?v114) ?hi114 (by kernel_rfl) (by kernel_rfl) (by kernel_rfl) (fun _ _ _ h => h) (alwO_take _) ?hy114 hcl113 hS113 ?rest114
   case hi114 =>
    simp only [qgaq, qgsq, qgzq]
    rfl
   case hy114 =>
    refine yields_alwO (Or.inl ⟨by rfl, fun w' hS => ?_⟩)
    try go_split_ands
    go_simp
    try rfl
   case rest114 =>
   intro hcl114 hS114
   clear hcl113 hS113
   try simp only [Act.put, qsaq, qszq, qssq]
   refine wpAnyL_take (i := 14) (oi := ?oi115) (v := ?v115) ?hi115 (by kernel_rfl) (by kernel_rfl) (by kernel_rfl) (fun _ _ _ h => h) (alwO_take _) ?hy115 hcl114 hS114 ?rest115
   case hi115 =>
    simp only [qgaq, qgsq, qgzq]
    rfl
   case hy115 =>
    refine yields_alwO (Or.inl ⟨by rfl, fun w' hS => ?_⟩)
    try go_split_ands
    go_simp
    try rfl
   case rest115 =>
   intro hcl115 hS115
   clear hcl114 hS114
   try simp only [Act.put, qsaq, qszq, qssq]
   refine wpAnyL_take (i := 15) (oi := ?oi116) (v := ?v116) ?hi116 (by kernel_rfl) (by kernel_rfl) (by kernel_rfl) (fun _ _ _ h => h) (alwO_take _) ?hy116 hcl115 hS115 ?rest116
   case hi116 =>
    simp only [qgaq, qgsq, qgzq]
    rfl
   case hy116 =>
    refine yields_alwO (Or.inl ⟨by rfl, fun w' hS => ?_⟩)
    try go_split_ands
    go_simp
    try rfl
   case rest116 =>
   intro hcl116 hS116
   clear hcl115 hS115
   try simp only [Act.put, qsaq, qszq, qssq]
   refine wpAnyL_take (i := 16) (oi := ?oi117) (v := ?v117) ?hi117 (by kernel_rfl) (by kernel_rfl) (by kernel_rfl) (fun _ _ _ h => h) (alwO_take _) ?hy117 hcl116 hS116 ?rest117
   case hi117 =>
    simp only [qgaq, qgsq, qgzq]
    rfl
   case hy117 =>
    refine yields_alwO (Or.inl ⟨by rfl, fun w' hS => ?_⟩)
    try go_split_ands
    go_simp
    try rfl
   case rest117 =>
   intro hcl117 hS117
   clear hcl116 hS116
   try simp only [Act.put, qsaq, qszq, qssq]
   refine wpAnyL_take (i := 17) (oi := ?oi118) (v := ?v118) ?hi118 (by kernel_rfl) (by kernel_rfl) (by kernel_rfl) (fun _ _ _ h => h) (alwO_take _) ?hy118 hcl117 hS117 ?rest118
   case hi118 =>
    simp only [qgaq, qgsq, qgzq]
    rfl
   case hy118 =>
    refine yields_alwO (Or.inl ⟨by rfl, fun w' hS => ?_⟩)
    try go_split_ands
    go_simp
    try rfl
   case rest118 =>
   intro hcl118 hS118
   clear hcl117 hS117
   try simp only [Act.put, qsaq, qszq, qssq]
   refine wpAnyL_take (i := 18) (oi := ?oi119) (v := ?v119) ?hi119 (by kernel_rfl) (by kernel_rfl) (by kernel_rfl) (fun _ _ _ h => h) (alwO_take _) ?hy119 hcl118 hS118 ?rest119
   case hi119 =>
    simp only [qgaq, qgsq, qgzq]
    rfl
   case hy119 =>
    refine yields_alwO (Or.inl ⟨by rfl, fun w' hS => ?_⟩)
    try go_split_ands
    go_simp
    try rfl
   case rest119 =>
   intro hcl119 hS119
   clear hcl118 hS118
   try simp only [Act.put, qsaq, qszq, qssq]
   refine wpAnyL_take (i := 19) (oi := ?oi120) (v := ?v120) ?hi120 (by kernel_rfl) (by kernel_rfl) (by kernel_rfl) (fun _ _ _ h => h) (alwO_take _) ?hy120 hcl119 hS119 ?rest120
   case hi120 =>
    simp only [qgaq, qgsq, qgzq]
    rfl
   case hy120 =>
    refine yields_alwO (Or.inl ⟨by rfl, fun w' hS => ?_⟩)
    try go_split_ands
    go_simp
    try rfl
   case rest120 =>
   intro hcl120 hS120
   clear hcl119 hS119
   try simp only [Act.put, qsaq, qszq, qssq]
   refine wpAnyL_take (i := 20) (oi := ?oi121) (v := ?v121) ?hi121 (by kernel_rfl) (by kernel_rfl) (by kernel_rfl) (fun _ _ _ h => h) (alwO_take _) ?hy121 hcl120 hS120 ?rest121
   case hi121 =>
    simp only [qgaq, qgsq, qgzq]
    rfl
   case hy121 =>
    refine yields_alwO (Or.inl ⟨by rfl, fun w' hS => ?_⟩)
    try go_split_ands
    go_simp
    try rfl
   case rest121 =>
   intro hcl121 hS121
   clear hcl120 hS120
   try simp only [Act.put, qsaq, qszq, qssq]
   refine wpAnyL_take (i := 21) (oi := ?oi122) (v := ?v122) ?hi122 (by kernel_rfl) (by kernel_rfl) (by kernel_rfl) (fun _ _ _ h => h) (alwO_take _) ?hy122 hcl121 hS121 ?rest122
   case hi122 =>
    simp only [qgaq, qgsq, qgzq]
    rfl
   case hy122 =>
    refine yields_alwO (Or.inl ⟨by rfl, fun w' hS => ?_⟩)
    try go_split_ands
    go_simp
    try rfl
   case rest122 =>
   intro hcl122 hS122
   clear hcl121 hS121
   try simp only [Act.put, qsaq, qszq, qssq]
   refine wpAnyL_take (i := 22) (oi := ?oi123) (v := ?v123) ?hi123 (by kernel_rfl) (by kernel_rfl) (by kernel_rfl) (fun _ _ _ h => h) (alwO_take _) ?hy123 hcl122 hS122 ?rest123
   case hi123 =>
    simp only [qgaq, qgsq, qgzq]
    rfl
   case hy123 =>
    refine yields_alwO (Or.inl ⟨by rfl, fun w' hS => ?_⟩)
    try go_split_ands
    go_simp
    try rfl
   case rest123 =>
   intro hcl123 hS123
   clear hcl122 hS122
   try simp only [Act.put, qsaq, qszq, qssq]
   refine wpAnyL_take (i := 23) (oi := ?oi124) (v := ?v124) ?hi124 (by kernel_rfl) (by kernel_rfl) (by kernel_rfl) (fun _ _ _ h => h) (alwO_take _) ?hy124 hcl123 hS123 ?rest124
   case hi124 =>
    simp only [qgaq, qgsq, qgzq]
    rfl
   case hy124 =>
    refine yields_alwO (Or.inl ⟨by rfl, fun w' hS => ?_⟩)
    try go_split_ands
    go_simp
    try rfl
   case rest124 =>
   intro hcl124 hS124
   clear hcl123 hS123
   try simp only [Act.put, qsaq, qszq, qssq]
   refine wpAnyL_take (i := 24) (oi := ?oi125) (v := ?v125) ?hi125 (by kernel_rfl) (by kernel_rfl) (by kernel_rfl) (fun _ _ _ h => h) (alwO_take _) ?hy125 hcl124 hS124 ?rest125
   case hi125 =>
    simp only [qgaq, qgsq, qgzq]
    rfl
   case hy125 =>
    refine yields_alwO (Or.inl ⟨by rfl, fun w' hS => ?_⟩)
    try go_split_ands
    go_simp
    try rfl
   case rest125 =>
   intro hcl125 hS125
   clear hcl124 hS124
   try simp only [Act.put, qsaq, qszq, qssq]
   refine wpAnyL_take (i := 25) (oi := ?oi126) (v := ?v126) ?hi126 (by kernel_rfl) (by kernel_rfl) (by kernel_rfl) (fun _ _ _ h => h) (alwO_take _) ?hy126 hcl125 hS125 ?rest126
   case hi126 =>
    simp only [qgaq, qgsq, qgzq]
    rfl
   case hy126 =>
    refine yields_alwO (Or.inl ⟨by rfl, fun w' hS => ?_⟩)
    try go_split_ands
    go_simp
    try rfl
   case rest126 =>
   intro hcl126 hS126
   clear hcl125 hS125
   try simp only [Act.put, qsaq, qszq, qssq]
   refine wpAnyL_take (i := 26) (oi := ?oi127) (v := ?v127) ?hi127 (by kernel_rfl) (by kernel_rfl) (by kernel_rfl) (fun _ _ _ h => h) (alwO_take _) ?hy127 hcl126 hS126 ?rest127
   case hi127 =>
    simp only [qgaq, qgsq, qgzq]
    rfl
   case hy127 =>
    refine yields_alwO (Or.inl ⟨by rfl, fun w' hS => ?_⟩)
    try go_split_ands
    go_simp
    try rfl
   case rest127 =>
   intro hcl127 hS127
   clear hcl126 hS126
   try simp only [Act.put, qsaq, qszq, qssq]
   refine wpAnyL_take (i := 27) (oi := ?oi128) (v := ?v128) ?hi128 (by kernel_rfl) (by kernel_rfl) (by kernel_rfl) (fun _ _ _ h => h) (alwO_take _) ?hy128 hcl127 hS127 ?rest128
   case hi128 =>
    simp only [qgaq, qgsq, qgzq]
    rfl
   case hy128 =>
    refine yields_alwO (Or.inl ⟨by rfl, fun w' hS => ?_⟩)
    try go_split_ands
    go_simp
    try rfl
   case rest128 =>
   intro hcl128 hS128
   clear hcl127 hS127
   try simp only [Act.put, qsaq, qszq, qssq]
   refine wpAnyL_take (i := 29) (oi := ?oi129) (v := ?v129) ?hi129 (by kernel_rfl) (by kernel_rfl) (by kernel_rfl) (fun _ _ _ h => h) (alwO_take _) ?hy129 hcl128 hS128 ?rest129
   case hi129 =>
    simp only [qgaq, qgsq, qgzq]
    rfl
   case hy129 =>
    refine yields_alwO (Or.inl ⟨by rfl, fun w' hS => ?_⟩)
    try go_split_ands
    go_simp
    try rfl
   case rest129 =>
   intro hcl129 hS129
   clear hcl128 hS128
   try simp only [Act.put, qsaq, qszq, qssq]
   refine wpAnyL_take (i := 30) (oi := ?oi130) (v := ?v130) ?hi130 (by kernel_rfl) (by kernel_rfl) (by kernel_rfl) (fun _ _ _ h => h) (alwO_take _) ?hy130 hcl129 hS129 ?rest130
   case hi130 =>
    simp only [qgaq, qgsq, qgzq]
    rfl
   case hy130 =>
    refine yields_alwO (Or.inl ⟨by rfl, fun w' hS => ?_⟩)
    try go_split_ands
    go_simp
    try rfl
   case rest130 =>
   intro hcl130 hS130
   clear hcl129 hS129
   try simp only [Act.put, qsaq, qszq, qssq]
   refine wpAnyL_step (i := 28) (o := ?oi131) ?hi131 (by kernel_rfl) hcl130 ?rest131
   case hi131 =>
    simp only [qgaq, qgsq, qgzq]
    rfl
   case rest131 =>
   intro K hK
   go_simp
   go_at_call 16
   refine (HSA.out _ (R6.out.trans w8r)).mono ?_
   rintro e w9 ⟨rfl, w9q⟩
   have w9r := (w8r).trans w9q
   clear w9q
   refine hK _ _ (HC.out _ w9r) (fun hcl131 => ?_)
   clear hK K hcl130 hS130
   try simp only [Act.put, qsaq, qszq, qssq]
   refine wpAnyL_step (i := 31) (o := ?oi132) ?hi132 (by kernel_rfl) hcl131 ?rest132
   case hi132 =>
    simp only [qgaq, qgsq, qgzq]
    rfl
   case rest132 =>
   intro K hK
   go_simp
   go_at_call 17
   refine (HSR.out _ (R6.out.trans w9r)).mono ?_
   rintro e w10 ⟨rfl, w10q⟩
   have w10r := (w9r).trans w10q
   clear w10q
   refine hK _ _ (HC.out _ w10r) (fun hcl132 => ?_)
   clear hK K hcl131
   try simp only [Act.put, qsaq, qszq, qssq]
   refine wpAnyL_take (i := 32) (oi := ?oi133) (v := ?v133) ?hi133 (by kernel_rfl) (by kernel_rfl) (by kernel_rfl) (fun _ _ _ h => h) (alwO_take _) ?hy133 hcl132 (HC.out _ w10r) ?rest133
   case hi133 =>
    simp only [qgaq, qgsq, qgzq]
    rfl
   case hy133 =>
    refine yields_alwO (Or.inl ⟨by rfl, fun w' hS => ?_⟩)
    try go_split_ands
    go_simp
    try rfl
   case rest133 =>
   intro hcl133 hS133
   clear hcl132
   try simp only [Act.put, qsaq, qszq, qssq]
   refine wpAnyL_take (i := 33) (oi := ?oi134) (v := ?v134) ?hi134 (by kernel_rfl) (by kernel_rfl) (by kernel_rfl) (fun _ _ _ h => h) (alwO_take _) ?hy134 hcl133 hS133 ?rest134
   case hi134 =>
    simp only [qgaq, qgsq, qgzq]
    rfl
   case hy134 =>
    refine yields_alwO (Or.inl ⟨by rfl, fun w' hS => ?_⟩)
    try go_split_ands
    go_simp
    try rfl
   case rest134 =>
   intro hcl134 hS134
   clear hcl133 hS133
   try simp only [Act.put, qsaq, qszq, qssq]
   refine wpAnyL_take (i := 34) (oi := ?oi135) (v := ?v135) ?hi135 (by kernel_rfl) (by kernel_rfl) (by kernel_rfl) (fun _ _ _ h => h) (alwO_take _) ?hy135 hcl134 hS134 ?rest135
   case hi135 =>
    simp only [qgaq, qgsq, qgzq]
    rfl
   case hy135 =>
    refine yields_alwO (Or.inl ⟨by rfl, fun w' hS => ?_⟩)
    try go_split_ands
    go_simp
    try rfl
   case rest135 =>
   intro hcl135 hS135
   clear hcl134 hS134
   try simp only [Act.put, qsaq, qszq, qssq]
   refine wpAnyL_step (i := 35) (o := ?oi136) ?hi136 (by kernel_rfl) hcl135 ?rest136
   case hi136 =>
    simp only [qgaq, qgsq, qgzq]
    rfl
   case rest136 =>
   intro K hK
   go_simp
   go_at_call 9
   refine (HAL.out _).mono ?_
   rintro e w11 ⟨rfl, w11q⟩
   have w11r := (w10r).trans w11q
   clear w11q
   refine hK _ _ (HC.out _ w11r) (fun hcl136 => ?_)
   clear hK K hcl135 hS135
   try simp only [Act.put, qsaq, qszq, qssq]
   refine wpAnyL_take (i := 36) (oi := ?oi137) (v := ?v137) ?hi137 (by kernel_rfl) (by kernel_rfl) (by kernel_rfl) (fun _ _ _ h => h) (alwO_take _) ?hy137 hcl136 (HC.out _ w11r) ?rest137
   case hi137 =>
    simp only [qgaq, qgsq, qgzq]
    rfl
   case hy137 =>
    refine yields_alwO (Or.inl ⟨by rfl, fun w' hS => ?_⟩)
    try go_split_ands
    go_simp
    try rfl
   case rest137 =>
   intro hcl137 hS137
   clear hcl136
   try simp only [Act.put, qsaq, qszq, qssq]
   refine wpAnyL_take (i := 37) (oi := ?oi138) (v := ?v138) ?hi138 (by kernel_rfl) (by kernel_rfl) (by kernel_rfl) (fun _ _ _ h => h) (alwO_take _) ?hy138 hcl137 hS137 ?rest138
   case hi138 =>
    simp only [qgaq, qgsq, qgzq]
    rfl
   case hy138 =>
    refine yields_alwO (Or.inl ⟨by rfl, fun w' hS => ?_⟩)
    try go_split_ands
    go_simp
    try rfl
   case rest138 =>
   intro hcl138 hS138
   clear hcl137 hS137
   try simp only [Act.put, qsaq, qszq, qssq]
   refine wpAnyL_done (by kernel_rfl) (NoPanic.normal ?_) _
   try simp only [Act.put, qsaq, qszq, qssq]
   go_wp2_with fail
   go_ret
   exact ⟨rfl, ACC.out.trans (R6.out.trans w11r)⟩
end Go.Proofs.YtildcdgobdfieaaGreat

namespace Go.Proofs.YtildcdgobdfieaaGreat
open Go.ChangeShapes Go.WideShapes Go.ChangeAt Go.RowKit
end Go.Proofs.YtildcdgobdfieaaGreat

namespace Go.Proofs.YtildcdgobdfieaaGreat
open Go.ChangeShapes Go.WideShapes Go.ChangeAt Go.RowKit Go.Deep
section
variable {H : Type} {enc : TypeId × Value → H} {P : Program} {w : World} {base : Nat} {spare : Nat → Bool} {held : Bool}
end
end Go.Proofs.YtildcdgobdfieaaGreat
