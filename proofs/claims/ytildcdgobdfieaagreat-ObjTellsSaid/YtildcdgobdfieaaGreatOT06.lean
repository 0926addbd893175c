/- obj.Pack: walked. Conditions: words of 16 bits. -/
import Derived.Test.YtildcdgobdfieaaGreatOT01
import Derived.Test.YtildcdgobdfieaaGreatOT05
import Derived.Deep.Cut
import Derived.Deep.DeepCutAuto
import Derived.Deep.RegionHeld3
set_option linter.unusedVariables false
set_option linter.unusedSimpArgs false
set_option maxRecDepth 100000
set_option maxHeartbeats 32000000
namespace Go.Proofs.YtildcdgobdfieaaGreat
open Go.RowKit
theorem pack_no (m : ModD) (vp vi vn : Value) (P : Nat → Prop) (hm : omodB m = false) (w : World) (h : ModL w P vp vi vn m) :
  Calls Tryz.prog 12 #[m.val vp vi vn] w fun e w' => e = .returned (.tuple #[.string ⟨#[]⟩, .int .i64 2]) ∧ Wr [] w w' := by
 obtain ⟨Ap, cp, rfl, lp1, lp2⟩ := Sl.form h.procs
 obtain ⟨Ai, ci, rfl, li1, li2⟩ := Sl.form h.imports
 obtain ⟨An, cn, rfl, ln1, ln2⟩ := Sl.form h.init
 have acc := (Wr.refl [] w).alloc (.cells #[.string m.code, .slice Ap m.procs.length cp, .slice Ai m.imports.length ci, .int .i64 m.data, .slice An m.init.length cn] 28)
 have bA := Blk.new w 28 #[.string m.code, .slice Ap m.procs.length cp, .slice Ai m.imports.length ci, .int .i64 m.data, .slice An m.init.length cn]
 have hc := omod_any m _ _ _ P _ (h.wr0 acc)
 rw [hm] at hc
 unfold ModD.val ModD.cells at hc ⊢
 obtain ⟨w0, hw0⟩ : ∃ w0, w.alloc (.cells #[.string m.code, .slice Ap m.procs.length cp, .slice Ai m.imports.length ci, .int .i64 m.data, .slice An m.init.length cn] 28) = w0 := ⟨_, rfl⟩
 obtain ⟨g, hg⟩ : ∃ g, w.heap.size = g := ⟨_, rfl⟩
 rw [hw0] at acc bA hc
 rw [hg] at bA
 have Hw0 := qh hw0
 have Hg := qh hg
 have HC := qh hc
 clear hw0 hg h hc
 go_enter Tryz.func12, Tryz.ntmps12
 go_upto_region 1 with (fail)
 rw [Hw0.out, Hg.out]
 have c0 := bA.cell 0
 have c1 := bA.cell 1
 have c2 := bA.cell 2
 have c3 := bA.cell 3
 have c4 := bA.cell 4
 simp only [qgaq, qgzq, qgsq] at c0 c1 c2 c3 c4
 go_wp2_with fail
 refine HC.out.mono ?_
 rintro e w1 ⟨rfl, r1⟩
 go_wp2_with fail
 go_ret2
 exact ⟨rfl, acc.trans r1⟩
theorem pack_yes (m : ModD) (vp vi vn : Value) (P : Nat → Prop) (hm : omodB m = true) (hwd : wordsB m) (w : World) (h : ModL w P vp vi vn m) :
  Calls Tryz.prog 12 #[m.val vp vi vn] w fun e w' => e = .returned (.tuple #[.string ⟨(packL m).toArray⟩, .int .i64 0]) ∧ Wr [] w w' := by
 have okm := mod_ok hm
 have OKM := qh okm
 obtain ⟨PL, hPL⟩ : ∃ q : List UInt8, packL m = q := ⟨_, rfl⟩
 rw [hPL]
 have HPL := qh hPL
 clear hPL
 have HWD := qh hwd
 obtain ⟨Ap, cp, rfl, lp1, lp2⟩ := Sl.form h.procs
 obtain ⟨Ai, ci, rfl, li1, li2⟩ := Sl.form h.imports
 obtain ⟨An, cn, rfl, ln1, ln2⟩ := Sl.form h.init
 have acc := (Wr.refl [] w).alloc (.cells #[.string m.code, .slice Ap m.procs.length cp, .slice Ai m.imports.length ci, .int .i64 m.data, .slice An m.init.length cn] 28)
 have bA := Blk.new w 28 #[.string m.code, .slice Ap m.procs.length cp, .slice Ai m.imports.length ci, .int .i64 m.data, .slice An m.init.length cn]
 have hc := omod_any m _ _ _ P _ (h.wr0 acc)
 rw [hm] at hc
 unfold ModD.val ModD.cells at hc ⊢
 obtain ⟨w0, hw0⟩ : ∃ w0, w.alloc (.cells #[.string m.code, .slice Ap m.procs.length cp, .slice Ai m.imports.length ci, .int .i64 m.data, .slice An m.init.length cn] 28) = w0 := ⟨_, rfl⟩
 obtain ⟨g, hg⟩ : ∃ g, w.heap.size = g := ⟨_, rfl⟩
 rw [hw0] at acc bA hc
 rw [hg] at bA
 have k1 := okm.code
 have k2 := okm.procs
 have k3 := okm.imports
 have k4 := okm.init
 have HN1 := qh (fun w => number_int m.code.size 2 (by omega) (by decide) (by decide) w)
 have HN2 := qh (fun w => number_int m.procs.length 2 (by omega) (by decide) (by decide) w)
 have HN3 := qh (fun w => number_int m.imports.length 1 (by omega) (by decide) (by decide) w)
 have HN4 := qh (fun w => number_int m.init.length 2 (by omega) (by decide) (by decide) w)
 have Hw0 := qh hw0
 have Hg := qh hg
 have HC0 := qh hc
 have HH := qh h
 have ACC := qh acc
 have hns := numS_size
 have hts := truS_size
 have s1 : ¬ 9223372036854775807 < 2 + m.code.size := by omega
 have s2 : ¬ 9223372036854775807 < 2 + m.code.size + 2 := by omega
 clear hw0 hg h hc okm hwd acc
 go_enter Tryz.func12, Tryz.ntmps12
 go_upto_region 1 with (fail)
 rw [Hw0.out, Hg.out]
 have c0 := bA.cell 0
 have c1 := bA.cell 1
 have c2 := bA.cell 2
 have c3 := bA.cell 3
 have c4 := bA.cell 4
 simp only [qgaq, qgzq, qgsq] at c0 c1 c2 c3 c4
 go_wp2_with fail
 refine HC0.out.mono ?_
 rintro e w1 ⟨rfl, r1⟩
 go_upto_region 4 with (fail)
 have bld0 := Bld.new w1
 have r2 : Wr [] w0 (w1.alloc (.cells #[.pointer none, .slice none 0 0] 92)) := r1.alloc _
 have gb : g < w1.heap.size := Nat.lt_of_lt_of_le bA.lt r1.size
 have hg1 : w.heap.size ≤ g := by rw [Hg.out]; exact Nat.le_refl _
 generalize w1.alloc (.cells #[.pointer none, .slice none 0 0] 92) = wb at *
 generalize w1.heap.size = b at *
 have BLD := qh bld0
 have GB : g < b := gb
 have BS : b ≤ wb.heap.size := Nat.le_of_lt bld0.lt
 replace c0 := r2.cellOf c0 (by simp)
 replace c1 := r2.cellOf c1 (by simp)
 replace c2 := r2.cellOf c2 (by simp)
 replace c3 := r2.cellOf c3 (by simp)
 replace c4 := r2.cellOf c4 (by simp)
 have R2 := qh r2
 clear bld0 r2 gb r1 bA
 have hC : ∀ W, Below b wb W → W.cell? ⟨g, 0, none⟩ = some (.string m.code) ∧ W.cell? ⟨g, 1, none⟩ = some (.slice Ap m.procs.length cp) := fun W hW => ⟨bel_cell hW c0 GB, bel_cell hW c1 GB⟩
 have HC := qh hC
 clear hC
 refine wp_region_noPanic ?_
 refine wp_region_L (AlwO fun w' => w'.cell? ⟨g, 0, none⟩ = some (.string m.code) ∧ w'.cell? ⟨g, 1, none⟩ = some (.slice Ap m.procs.length cp)) (by kernel_rfl) (fun hcl => ?_)
 have hS : AlwO (fun w' => w'.cell? ⟨g, 0, none⟩ = some (.string m.code) ∧ w'.cell? ⟨g, 1, none⟩ = some (.slice Ap m.procs.length cp)) (Array.replicate 13 false) wb.drew := ⟨c0, c1⟩
 refine wpAnyL_take (i := 0) (oi := ?oi101) (v := ?v101) ?hi101 (by kernel_rfl) (by kernel_rfl) (by kernel_rfl) (fun _ _ _ h => h) (alwO_take _) ?hy101 hcl hS ?rest101
 case hi101 =>
  simp only [qgaq, qgsq, qgzq]
  rfl
 case hy101 =>
  refine yields_alwO (Or.inl ⟨by rfl, fun w' hS => ?_⟩)
  try go_split_ands
  go_simp
  try rfl
 case rest101 =>
 intro hcl101 hS101
 clear hcl hS
 try simp only [Act.put, qsaq, qszq, qssq]
 refine wpAnyL_take (i := 1) (oi := ?oi102) (v := ?v102) ?hi102 (by kernel_rfl) (by kernel_rfl) (by kernel_rfl) (fun _ _ _ h => h) (alwO_take _) ?hy102 hcl101 hS101 ?rest102
 case hi102 =>
  simp only [qgaq, qgsq, qgzq]
  rfl
 case hy102 =>
  refine yields_alwO (Or.inl ⟨by rfl, fun w' hS => ?_⟩)
  try go_split_ands
  go_simp
  try rfl
 case rest102 =>
 intro hcl102 hS102
 clear hcl101 hS101
 try simp only [Act.put, qsaq, qszq, qssq]
 refine wpAnyL_take (i := 2) (oi := ?oi103) (v := ?v103) ?hi103 (by kernel_rfl) (by kernel_rfl) (by kernel_rfl) (fun _ _ _ h => h) (alwO_take _) ?hy103 hcl102 hS102 ?rest103
 case hi103 =>
  simp only [qgaq, qgsq, qgzq]
  rfl
 case hy103 =>
  refine yields_alwO (Or.inl ⟨by rfl, fun w' hS => ?_⟩)
  try go_split_ands
  go_simp
  try rfl
 case rest103 =>
 intro hcl103 hS103
 clear hcl102 hS102
 try simp only [Act.put, qsaq, qszq, qssq]
 refine wpAnyL_take (i := 4) (oi := ?oi104) (v := ?v104) ?hi104 (by kernel_rfl) (by kernel_rfl) (by kernel_rfl) (fun _ _ _ h => h) (alwO_take _) ?hy104 hcl103 hS103 ?rest104
 case hi104 =>
  simp only [qgaq, qgsq, qgzq]
  rfl
 case hy104 =>
  refine yields_alwO (Or.inl ⟨by rfl, fun w' hS => ?_⟩)
  try go_split_ands
  go_simp
  try rfl
 case rest104 =>
 intro hcl104 hS104
 clear hcl103 hS103
 try simp only [Act.put, qsaq, qszq, qssq]
 refine wpAnyL_take (i := 5) (oi := ?oi105) (v := ?v105) ?hi105 (by kernel_rfl) (by kernel_rfl) (by kernel_rfl) (fun _ _ _ h => h) (alwO_take _) ?hy105 hcl104 hS104 ?rest105
 case hi105 =>
  simp only [qgaq, qgsq, qgzq]
  rfl
 case hy105 =>
  refine yields_alwO (Or.inl ⟨by rfl, fun w' hS => ?_⟩)
  try go_split_ands
  go_simp
  try rfl
 case rest105 =>
 intro hcl105 hS105
 clear hcl104 hS104
 try simp only [Act.put, qsaq, qszq, qssq]
 refine wpAnyL_take (i := 7) (oi := ?oi106) (v := ?v106) ?hi106 (by kernel_rfl) (by kernel_rfl) (by kernel_rfl) (fun _ _ _ h => h) (alwO_take _) ?hy106 hcl105 hS105 ?rest106
 case hi106 =>
  simp only [qgaq, qgsq, qgzq]
  rfl
 case hy106 =>
  refine yields_alwO (Or.inl ⟨by rfl, fun w' hS => ?_⟩)
  try go_split_ands
  go_simp
  try rfl
 case rest106 =>
 intro hcl106 hS106
 clear hcl105 hS105
 try simp only [Act.put, qsaq, qszq, qssq]
 refine wpAnyL_take (i := 8) (oi := ?oi107) (v := ?v107) ?hi107 (by kernel_rfl) (by kernel_rfl) (by kernel_rfl) (fun _ _ _ h => h) (alwO_take _) ?hy107 hcl106 hS106 ?rest107
 case hi107 =>
  simp only [qgaq, qgsq, qgzq]
  rfl
 case hy107 =>
  refine yields_alwO (Or.inl ⟨by rfl, fun w' hS => ?_⟩)
  try go_split_ands
  go_simp
  try rfl
 case rest107 =>
 intro hcl107 hS107
 clear hcl106 hS106
 try simp only [Act.put, qsaq, qszq, qssq]
 refine wpAnyL_take (i := 9) (oi := ?oi108) (v := ?v108) ?hi108 (by kernel_rfl) (by kernel_rfl) (by kernel_rfl) (fun _ _ _ h => h) (alwO_take _) ?hy108 hcl107 hS107 ?rest108
 case hi108 =>
  simp only [qgaq, qgsq, qgzq]
  rfl
 case hy108 =>
  refine yields_alwO (Or.inl ⟨by rfl, fun w' hS => ?_⟩)
  try go_split_ands
  go_simp
  try rfl
 case rest108 =>
 intro hcl108 hS108
 clear hcl107 hS107
 try simp only [Act.put, qsaq, qszq, qssq]
 refine wpAnyL_step (i := 3) (o := ?oi109) ?hi109 (by kernel_rfl) hcl108 ?rest109
 case hi109 =>
  simp only [qgaq, qgsq, qgzq]
  rfl
 case rest109 =>
 intro K hK
 go_simp
 go_at_call 37
 refine (HN1.out _).mono ?_
 rintro e n1 ⟨rfl, n1q⟩
 have n1r := ((Wr.refl [] wb).drew).trans n1q
 clear n1q
 refine hK _ _ (HC.out _ (wr_bel n1r BS)) (fun hcl109 => ?_)
 clear hK K hcl108 hS108
 try simp only [Act.put, qsaq, qszq, qssq]
 refine wpAnyL_take (i := 6) (oi := ?oi110) (v := ?v110) ?hi110 (by kernel_rfl) (by kernel_rfl) (by kernel_rfl) (fun _ _ _ h => h) (alwO_take _) ?hy110 hcl109 (HC.out _ (wr_bel n1r BS)) ?rest110
 case hi110 =>
  simp only [qgaq, qgsq, qgzq]
  rfl
 case hy110 =>
  refine yields_alwO (Or.inl ⟨by rfl, fun w' hS => ?_⟩)
  try go_split_ands
  go_simp
  try rfl
 case rest110 =>
 intro hcl110 hS110
 clear hcl109
 try simp only [Act.put, qsaq, qszq, qssq]
 refine wpAnyL_step (i := 10) (o := ?oi111) ?hi111 (by kernel_rfl) hcl110 ?rest111
 case hi111 =>
  simp only [qgaq, qgsq, qgzq]
  rfl
 case rest111 =>
 intro K hK
 go_simp
 go_at_call 37
 refine (HN2.out _).mono ?_
 rintro e n2 ⟨rfl, n2q⟩
 have n2r := (n1r).trans n2q
 clear n2q
 refine hK _ _ (HC.out _ (wr_bel n2r BS)) (fun hcl111 => ?_)
 clear hK K hcl110 hS110
 try simp only [Act.put, qsaq, qszq, qssq]
 refine wpAnyL_take (i := 11) (oi := ?oi112) (v := ?v112) ?hi112 (by kernel_rfl) (by kernel_rfl) (by kernel_rfl) (fun _ _ _ h => h) (alwO_take _) ?hy112 hcl111 (HC.out _ (wr_bel n2r BS)) ?rest112
 case hi112 =>
  simp only [qgaq, qgsq, qgzq]
  rfl
 case hy112 =>
  refine yields_alwO (Or.inl ⟨by rfl, fun w' hS => ?_⟩)
  try go_split_ands
  go_simp
  try rfl
 case rest112 =>
 intro hcl112 hS112
 clear hcl111
 try simp only [Act.put, qsaq, qszq, qssq]
 refine wpAnyL_step (i := 12) (o := ?oi113) ?hi113 (by kernel_rfl) hcl112 ?rest113
 case hi113 =>
  simp only [qgaq, qgsq, qgzq]
  rfl
 case rest113 =>
 intro K hK
 go_simp
 go_at_call 44
 refine (write_b b [] _ _ (BLD.out.keep n2r) (by simp) (by simp only [ByteArray.size_append, hns]; omega)).mono ?_
 rintro e wC ⟨nwC, rfl, bldC, belC⟩
 refine hK _ _ (HC.out _ ((wr_bel n2r BS).trans belC)) (fun hcl113 => ?_)
 clear hK K hcl112 hS112
 try simp only [Act.put, qsaq, qszq, qssq]
 refine wpAnyL_done (by kernel_rfl) (NoPanic.normal ?_) _
 try simp only [Act.put, qsaq, qszq, qssq]
 have bel1 := (wr_bel n2r BS).trans belC
 rw [bytesA] at bldC
 have BEL1 := qh bel1
 have BLC := qh bldC
 replace c0 := bel_cell bel1 c0 GB
 replace c1 := bel_cell bel1 c1 GB
 replace c2 := bel_cell bel1 c2 GB
 replace c3 := bel_cell bel1 c3 GB
 replace c4 := bel_cell bel1 c4 GB
 clear bel1 bldC belC n1r n2r HC
 go_wp2_with fail
 go_loopw [30] (fun i wr => ∃ k : Nat, k ≤ m.procs.length ∧ i = .int .i64 k ∧ PkAt b wC (packA m ++ (m.procs.take k).flatMap prcL) wr) (fun i _ => m.procs.length - (intOf i).toNat)
 case atStart => exact ⟨0, by omega, rfl, Below.refl _ _, by simpa using BLC.out⟩
 case round =>
  obtain ⟨k, hk, rfl, hb1, hb2⟩ := hrel
  have HB1 := qh hb1
  have HB2 := qh hb2
  clear hb1 hb2
  by_cases hlt : k < m.procs.length
  ·obtain ⟨p, hp⟩ : ∃ p, m.procs[k]? = some p := ⟨_, List.getElem?_eq_getElem hlt⟩
   obtain ⟨bp, off, c, e, _, _, hcs⟩ := prc_at HH.out.procs hp
   injection e with e1 e2 e3
   subst e1
   subst e3
   have OK := OKM.out.prc p (List.mem_of_getElem? hp)
   have hbp : bp < b := by
    have := World.block_lt_of_cell? _ _ (hcs 0 _ rfl)
    have h2 : (⟨bp, off + k * 6 + 0, none⟩ : Addr).block = bp := rfl
    rw [h2] at this
    omega
   have tr : ∀ j u, p.cells[j]? = some u → wr.cell? ⟨bp, off + k * 6 + j, none⟩ = some u := fun j u hu =>
    bel_cell HB1.out (bel_cell BEL1.out (R2.out.cellOf (ACC.out.cellOf (hcs j u hu) (by simp)) (by simp)) hbp) hbp
   have x0 := tr 0 _ rfl
   have x1 := tr 1 _ rfl
   have x2 := tr 2 _ rfl
   have x3 := tr 3 _ rfl
   have x4 := tr 4 _ rfl
   have x5 := tr 5 _ rfl
   simp only [Nat.add_zero] at x0
   have hlti : (k : Int) < (m.procs.length : Int) := by omega
   have hk0 : (0 : Int) ≤ (k : Int) := by omega
   have hla : (packA m ++ (m.procs.take k).flatMap prcL).length ≤ 90000 := by
    have h1 := packA_len OKM.out
    have h2 := flat_take_len prcL 10 1024 prcL_len m.procs k (by omega)
    rw [List.length_append]
    omega
   have LB := qh hla
   have HX := qh hp
   clear hcs e2 hp tr hla
   go_upto_region 8 with (fail)
   have bz := Blk.new wr 98 #[.int .i64 p.at_, .int .i64 p.params, .int .i64 p.locals, .int .i64 p.depth, .int .i64 p.level, .bool p.func]
   have rz := (Wr.refl [] wr).alloc (.cells #[.int .i64 p.at_, .int .i64 p.params, .int .i64 p.locals, .int .i64 p.depth, .int .i64 p.level, .bool p.func] 98)
   have blz := HB2.out.keep rz
   generalize wr.alloc (.cells #[.int .i64 p.at_, .int .i64 p.params, .int .i64 p.locals, .int .i64 p.depth, .int .i64 p.level, .bool p.func] 98) = wz at *
   generalize wr.heap.size = z at *
   have y0 := bz.cell 0
   have y1 := bz.cell 1
   have y2 := bz.cell 2
   have y3 := bz.cell 3
   have y4 := bz.cell 4
   have y5 := bz.cell 5
   simp only [qgaq, qgzq, qgsq] at y0 y1 y2 y3 y4 y5
   have BLZ := qh blz
   have RZ := qh rz
   clear bz rz blz
   have hC : ∀ W, Wr [] wz W → W.cell? ⟨z, 0, none⟩ = some (.int .i64 p.at_) ∧ W.cell? ⟨z, 1, none⟩ = some (.int .i64 p.params) ∧ W.cell? ⟨z, 2, none⟩ = some (.int .i64 p.locals) ∧ W.cell? ⟨z, 3, none⟩ = some (.int .i64 p.depth) ∧ W.cell? ⟨z, 4, none⟩ = some (.int .i64 p.level) ∧ W.cell? ⟨z, 5, none⟩ = some (.bool p.func) := fun W hW => ⟨hW.cellOf y0 (by simp), hW.cellOf y1 (by simp), hW.cellOf y2 (by simp), hW.cellOf y3 (by simp), hW.cellOf y4 (by simp), hW.cellOf y5 (by simp)⟩
   have HC := qh hC
   clear hC
   refine wp_region_noPanic ?_
   refine wp_region_L (Until 23 fun w' => w'.cell? ⟨z, 0, none⟩ = some (.int .i64 p.at_) ∧ w'.cell? ⟨z, 1, none⟩ = some (.int .i64 p.params) ∧ w'.cell? ⟨z, 2, none⟩ = some (.int .i64 p.locals) ∧ w'.cell? ⟨z, 3, none⟩ = some (.int .i64 p.depth) ∧ w'.cell? ⟨z, 4, none⟩ = some (.int .i64 p.level) ∧ w'.cell? ⟨z, 5, none⟩ = some (.bool p.func)) (by kernel_rfl) (fun hcl => ?_)
   have hS : Until 23 (fun w' => w'.cell? ⟨z, 0, none⟩ = some (.int .i64 p.at_) ∧ w'.cell? ⟨z, 1, none⟩ = some (.int .i64 p.params) ∧ w'.cell? ⟨z, 2, none⟩ = some (.int .i64 p.locals) ∧ w'.cell? ⟨z, 3, none⟩ = some (.int .i64 p.depth) ∧ w'.cell? ⟨z, 4, none⟩ = some (.int .i64 p.level) ∧ w'.cell? ⟨z, 5, none⟩ = some (.bool p.func)) (Array.replicate 24 false) wz.drew := fun _ => ⟨y0, y1, y2, y3, y4, y5⟩
   refine wpAnyL_take (i := 0) (oi := ?oi201) (v := ?v201) ?hi201 (by kernel_rfl) (by kernel_rfl) (by kernel_rfl) (fun _ _ _ h => h) (until_take 23 _ (by decide)) ?hy201 hcl hS ?rest201
   case hi201 =>
    simp only [qgaq, qgsq, qgzq]
    rfl
   case hy201 =>
    refine yields_waitsO 30 (by kernel_rfl) (Or.inl ⟨by rfl, fun w' hS => ?_⟩)
    try go_split_ands
    go_simp
    try rfl
   case rest201 =>
   intro hcl201 hS201
   clear hcl hS
   try simp only [Act.put, qsaq, qszq, qssq]
   refine wpAnyL_take (i := 1) (oi := ?oi202) (v := ?v202) ?hi202 (by kernel_rfl) (by kernel_rfl) (by kernel_rfl) (fun _ _ _ h => h) (until_take 23 _ (by decide)) ?hy202 hcl201 hS201 ?rest202
   case hi202 =>
    simp only [qgaq, qgsq, qgzq]
    rfl
   case hy202 =>
    refine yields_waitsO 30 (by kernel_rfl) (Or.inl ⟨by rfl, fun w' hS => ?_⟩)
    try go_split_ands
    go_simp
    try rfl
   case rest202 =>
   intro hcl202 hS202
   clear hcl201 hS201
   try simp only [Act.put, qsaq, qszq, qssq]
   refine wpAnyL_take (i := 3) (oi := ?oi203) (v := ?v203) ?hi203 (by kernel_rfl) (by kernel_rfl) (by kernel_rfl) (fun _ _ _ h => h) (until_take 23 _ (by decide)) ?hy203 hcl202 hS202 ?rest203
   case hi203 =>
    simp only [qgaq, qgsq, qgzq]
    rfl
   case hy203 =>
    refine yields_waitsO 30 (by kernel_rfl) (Or.inl ⟨by rfl, fun w' hS => ?_⟩)
    try go_split_ands
    go_simp
    try rfl
   case rest203 =>
   intro hcl203 hS203
   clear hcl202 hS202
   try simp only [Act.put, qsaq, qszq, qssq]
   refine wpAnyL_take (i := 4) (oi := ?oi204) (v := ?v204) ?hi204 (by kernel_rfl) (by kernel_rfl) (by kernel_rfl) (fun _ _ _ h => h) (until_take 23 _ (by decide)) ?hy204 hcl203 hS203 ?rest204
   case hi204 =>
    simp only [qgaq, qgsq, qgzq]
    rfl
   case hy204 =>
    refine yields_waitsO 30 (by kernel_rfl) (Or.inl ⟨by rfl, fun w' hS => ?_⟩)
    try go_split_ands
    go_simp
    try rfl
   case rest204 =>
   intro hcl204 hS204
   clear hcl203 hS203
   try simp only [Act.put, qsaq, qszq, qssq]
   refine wpAnyL_take (i := 7) (oi := ?oi205) (v := ?v205) ?hi205 (by kernel_rfl) (by kernel_rfl) (by kernel_rfl) (fun _ _ _ h => h) (until_take 23 _ (by decide)) ?hy205 hcl204 hS204 ?rest205
   case hi205 =>
    simp only [qgaq, qgsq, qgzq]
    rfl
   case hy205 =>
    refine yields_waitsO 30 (by kernel_rfl) (Or.inl ⟨by rfl, fun w' hS => ?_⟩)
    try go_split_ands
    go_simp
    try rfl
   case rest205 =>
   intro hcl205 hS205
   clear hcl204 hS204
   try simp only [Act.put, qsaq, qszq, qssq]
   refine wpAnyL_take (i := 8) (oi := ?oi206) (v := ?v206) ?hi206 (by kernel_rfl) (by kernel_rfl) (by kernel_rfl) (fun _ _ _ h => h) (until_take 23 _ (by decide)) ?hy206 hcl205 hS205 ?rest206
   case hi206 =>
    simp only [qgaq, qgsq, qgzq]
    rfl
   case hy206 =>
    refine yields_waitsO 30 (by kernel_rfl) (Or.inl ⟨by rfl, fun w' hS => ?_⟩)
    try go_split_ands
    go_simp
    try rfl
   case rest206 =>
   intro hcl206 hS206
   clear hcl205 hS205
   try simp only [Act.put, qsaq, qszq, qssq]
   refine wpAnyL_take (i := 11) (oi := ?oi207) (v := ?v207) ?hi207 (by kernel_rfl) (by kernel_rfl) (by kernel_rfl) (fun _ _ _ h => h) (until_take 23 _ (by decide)) ?hy207 hcl206 hS206 ?rest207
   case hi207 =>
    simp only [qgaq, qgsq, qgzq]
    rfl
   case hy207 =>
    refine yields_waitsO 30 (by kernel_rfl) (Or.inl ⟨by rfl, fun w' hS => ?_⟩)
    try go_split_ands
    go_simp
    try rfl
   case rest207 =>
   intro hcl207 hS207
   clear hcl206 hS206
   try simp only [Act.put, qsaq, qszq, qssq]
   refine wpAnyL_take (i := 12) (oi := ?oi208) (v := ?v208) ?hi208 (by kernel_rfl) (by kernel_rfl) (by kernel_rfl) (fun _ _ _ h => h) (until_take 23 _ (by decide)) ?hy208 hcl207 hS207 ?rest208
   case hi208 =>
    simp only [qgaq, qgsq, qgzq]
    rfl
   case hy208 =>
    refine yields_waitsO 30 (by kernel_rfl) (Or.inl ⟨by rfl, fun w' hS => ?_⟩)
    try go_split_ands
    go_simp
    try rfl
   case rest208 =>
   intro hcl208 hS208
   clear hcl207 hS207
   try simp only [Act.put, qsaq, qszq, qssq]
   refine wpAnyL_take (i := 15) (oi := ?oi209) (v := ?v209) ?hi209 (by kernel_rfl) (by kernel_rfl) (by kernel_rfl) (fun _ _ _ h => h) (until_take 23 _ (by decide)) ?hy209 hcl208 hS208 ?rest209
   case hi209 =>
    simp only [qgaq, qgsq, qgzq]
    rfl
   case hy209 =>
    refine yields_waitsO 30 (by kernel_rfl) (Or.inl ⟨by rfl, fun w' hS => ?_⟩)
    try go_split_ands
    go_simp
    try rfl
   case rest209 =>
   intro hcl209 hS209
   clear hcl208 hS208
   try simp only [Act.put, qsaq, qszq, qssq]
   refine wpAnyL_take (i := 16) (oi := ?oi210) (v := ?v210) ?hi210 (by kernel_rfl) (by kernel_rfl) (by kernel_rfl) (fun _ _ _ h => h) (until_take 23 _ (by decide)) ?hy210 hcl209 hS209 ?rest210
   case hi210 =>
    simp only [qgaq, qgsq, qgzq]
    rfl
   case hy210 =>
    refine yields_waitsO 30 (by kernel_rfl) (Or.inl ⟨by rfl, fun w' hS => ?_⟩)
    try go_split_ands
    go_simp
    try rfl
   case rest210 =>
   intro hcl210 hS210
   clear hcl209 hS209
   try simp only [Act.put, qsaq, qszq, qssq]
   refine wpAnyL_take (i := 19) (oi := ?oi211) (v := ?v211) ?hi211 (by kernel_rfl) (by kernel_rfl) (by kernel_rfl) (fun _ _ _ h => h) (until_take 23 _ (by decide)) ?hy211 hcl210 hS210 ?rest211
   case hi211 =>
    simp only [qgaq, qgsq, qgzq]
    rfl
   case hy211 =>
    refine yields_waitsO 30 (by kernel_rfl) (Or.inl ⟨by rfl, fun w' hS => ?_⟩)
    try go_split_ands
    go_simp
    try rfl
   case rest211 =>
   intro hcl211 hS211
   clear hcl210 hS210
   try simp only [Act.put, qsaq, qszq, qssq]
   refine wpAnyL_take (i := 20) (oi := ?oi212) (v := ?v212) ?hi212 (by kernel_rfl) (by kernel_rfl) (by kernel_rfl) (fun _ _ _ h => h) (until_take 23 _ (by decide)) ?hy212 hcl211 hS211 ?rest212
   case hi212 =>
    simp only [qgaq, qgsq, qgzq]
    rfl
   case hy212 =>
    refine yields_waitsO 30 (by kernel_rfl) (Or.inl ⟨by rfl, fun w' hS => ?_⟩)
    try go_split_ands
    go_simp
    try rfl
   case rest212 =>
   intro hcl212 hS212
   clear hcl211 hS211
   try simp only [Act.put, qsaq, qszq, qssq]
   refine wpAnyL_step (i := 2) (o := ?oi213) ?hi213 (by kernel_rfl) hcl212 ?rest213
   case hi213 =>
    simp only [qgaq, qgsq, qgzq]
    rfl
   case rest213 =>
   intro K hK
   go_simp
   go_at_call 37
   refine (numI p.at_ 2 OK.a.1 OK.a.2 (by decide) (by decide) _).mono ?_
   rintro e a1 ⟨rfl, a1q⟩
   have a1r := ((Wr.refl [] wz).drew).trans a1q
   clear a1q
   refine hK _ _ (fun _ => HC.out _ a1r) (fun hcl213 => ?_)
   clear hK K hcl212 hS212
   try simp only [Act.put, qsaq, qszq, qssq]
   refine wpAnyL_step (i := 5) (o := ?oi214) ?hi214 (by kernel_rfl) hcl213 ?rest214
   case hi214 =>
    simp only [qgaq, qgsq, qgzq]
    rfl
   case rest214 =>
   intro K hK
   go_simp
   go_at_call 37
   refine (numI p.params 2 OK.b.1 OK.b.2 (by decide) (by decide) _).mono ?_
   rintro e a2 ⟨rfl, a2q⟩
   have a2r := (a1r).trans a2q
   clear a2q
   refine hK _ _ (fun _ => HC.out _ a2r) (fun hcl214 => ?_)
   clear hK K hcl213
   try simp only [Act.put, qsaq, qszq, qssq]
   refine wpAnyL_take (i := 6) (oi := ?oi215) (v := ?v215) ?hi215 (by kernel_rfl) (by kernel_rfl) (by kernel_rfl) (fun _ _ _ h => h) (until_take 23 _ (by decide)) ?hy215 hcl214 (fun _ => HC.out _ a2r) ?rest215
   case hi215 =>
    simp only [qgaq, qgsq, qgzq]
    rfl
   case hy215 =>
    refine yields_waitsO 30 (by kernel_rfl) (Or.inl ⟨by rfl, fun w' hS => ?_⟩)
    try go_split_ands
    go_simp
    try rfl
   case rest215 =>
   intro hcl215 hS215
   clear hcl214
   try simp only [Act.put, qsaq, qszq, qssq]
   refine wpAnyL_step (i := 9) (o := ?oi216) ?hi216 (by kernel_rfl) hcl215 ?rest216
   case hi216 =>
    simp only [qgaq, qgsq, qgzq]
    rfl
   case rest216 =>
   intro K hK
   go_simp
   go_at_call 37
   refine (numI p.locals 2 OK.c.1 OK.c.2 (by decide) (by decide) _).mono ?_
   rintro e a3 ⟨rfl, a3q⟩
   have a3r := (a2r).trans a3q
   clear a3q
   refine hK _ _ (fun _ => HC.out _ a3r) (fun hcl216 => ?_)
   clear hK K hcl215 hS215
   try simp only [Act.put, qsaq, qszq, qssq]
   refine wpAnyL_take (i := 10) (oi := ?oi217) (v := ?v217) ?hi217 (by kernel_rfl) (by kernel_rfl) (by kernel_rfl) (fun _ _ _ h => h) (until_take 23 _ (by decide)) ?hy217 hcl216 (fun _ => HC.out _ a3r) ?rest217
   case hi217 =>
    simp only [qgaq, qgsq, qgzq]
    rfl
   case hy217 =>
    refine yields_waitsO 30 (by kernel_rfl) (Or.inl ⟨by rfl, fun w' hS => ?_⟩)
    try go_split_ands
    go_simp
    try rfl
   case rest217 =>
   intro hcl217 hS217
   clear hcl216
   try simp only [Act.put, qsaq, qszq, qssq]
   refine wpAnyL_step (i := 13) (o := ?oi218) ?hi218 (by kernel_rfl) hcl217 ?rest218
   case hi218 =>
    simp only [qgaq, qgsq, qgzq]
    rfl
   case rest218 =>
   intro K hK
   go_simp
   go_at_call 37
   refine (numI p.depth 2 OK.d.1 OK.d.2 (by decide) (by decide) _).mono ?_
   rintro e a4 ⟨rfl, a4q⟩
   have a4r := (a3r).trans a4q
   clear a4q
   refine hK _ _ (fun _ => HC.out _ a4r) (fun hcl218 => ?_)
   clear hK K hcl217 hS217
   try simp only [Act.put, qsaq, qszq, qssq]
   refine wpAnyL_take (i := 14) (oi := ?oi219) (v := ?v219) ?hi219 (by kernel_rfl) (by kernel_rfl) (by kernel_rfl) (fun _ _ _ h => h) (until_take 23 _ (by decide)) ?hy219 hcl218 (fun _ => HC.out _ a4r) ?rest219
   case hi219 =>
    simp only [qgaq, qgsq, qgzq]
    rfl
   case hy219 =>
    refine yields_waitsO 30 (by kernel_rfl) (Or.inl ⟨by rfl, fun w' hS => ?_⟩)
    try go_split_ands
    go_simp
    try rfl
   case rest219 =>
   intro hcl219 hS219
   clear hcl218
   try simp only [Act.put, qsaq, qszq, qssq]
   refine wpAnyL_step (i := 17) (o := ?oi220) ?hi220 (by kernel_rfl) hcl219 ?rest220
   case hi220 =>
    simp only [qgaq, qgsq, qgzq]
    rfl
   case rest220 =>
   intro K hK
   go_simp
   go_at_call 37
   refine (numI p.level 1 OK.e.1 (by have := OK.e.2; omega) (by decide) (by decide) _).mono ?_
   rintro e a5 ⟨rfl, a5q⟩
   have a5r := (a4r).trans a5q
   clear a5q
   refine hK _ _ (fun _ => HC.out _ a5r) (fun hcl220 => ?_)
   clear hK K hcl219 hS219
   try simp only [Act.put, qsaq, qszq, qssq]
   refine wpAnyL_take (i := 18) (oi := ?oi221) (v := ?v221) ?hi221 (by kernel_rfl) (by kernel_rfl) (by kernel_rfl) (fun _ _ _ h => h) (until_take 23 _ (by decide)) ?hy221 hcl220 (fun _ => HC.out _ a5r) ?rest221
   case hi221 =>
    simp only [qgaq, qgsq, qgzq]
    rfl
   case hy221 =>
    refine yields_waitsO 30 (by kernel_rfl) (Or.inl ⟨by rfl, fun w' hS => ?_⟩)
    try go_split_ands
    go_simp
    try rfl
   case rest221 =>
   intro hcl221 hS221
   clear hcl220
   try simp only [Act.put, qsaq, qszq, qssq]
   refine wpAnyL_step (i := 21) (o := ?oi222) ?hi222 (by kernel_rfl) hcl221 ?rest222
   case hi222 =>
    simp only [qgaq, qgsq, qgzq]
    rfl
   case rest222 =>
   intro K hK
   go_simp
   go_at_call 35
   refine (otruth_any p.func _).mono ?_
   rintro e a6 ⟨rfl, rfl⟩
   refine hK _ _ (fun _ => HC.out _ a5r) (fun hcl222 => ?_)
   clear hK K hcl221 hS221
   try simp only [Act.put, qsaq, qszq, qssq]
   refine wpAnyL_take (i := 22) (oi := ?oi223) (v := ?v223) ?hi223 (by kernel_rfl) (by kernel_rfl) (by kernel_rfl) (fun _ _ _ h => h) (until_take 23 _ (by decide)) ?hy223 hcl222 (fun _ => HC.out _ a5r) ?rest223
   case hi223 =>
    simp only [qgaq, qgsq, qgzq]
    rfl
   case hy223 =>
    refine yields_waitsO 30 (by kernel_rfl) (Or.inl ⟨by rfl, fun w' hS => ?_⟩)
    try go_split_ands
    go_simp
    try rfl
   case rest223 =>
   intro hcl223 hS223
   clear hcl222
   try simp only [Act.put, qsaq, qszq, qssq]
   refine wpAnyL_step (i := 23) (o := ?oi224) ?hi224 (by kernel_rfl) hcl223 ?rest224
   case hi224 =>
    simp only [qgaq, qgsq, qgzq]
    rfl
   case rest224 =>
   intro K hK
   go_simp
   go_at_call 44
   refine (write_b b _ _ _ (BLZ.out.keep a5r) (by have := LB.out; omega) (by simp only [ByteArray.size_append, hns, hts]; omega)).mono ?_
   rintro e wD ⟨nwD, rfl, bldD, belD⟩
   refine hK _ _ (fun hb => absurd hb (by decide)) (fun hcl999 => ?_)
   clear hK K hcl223 hS223
   refine wpAnyL_done (by kernel_rfl) (NoPanic.normal ?_) _
   try simp only [Act.put, qsaq, qszq, qssq]
   rw [bytesP] at bldD
   have hPK : PkAt b wC (packA m ++ (m.procs.take (k + 1)).flatMap prcL) wD := by
    refine ⟨HB1.out.trans ((wr_bel (RZ.out.trans a5r) (Nat.le_of_lt HB2.out.lt)).trans belD), ?_⟩
    rw [flat_take_succ prcL HX.out, ← List.append_assoc]
    exact bldD
   have HPK := qh hPK
   clear hPK bldD belD a1r a2r a3r a4r a5r HC
   go_wp2_with fail
   go_roundw
   case rel => exact ⟨k + 1, by omega, by go_num, HPK.out⟩
   case measure => simp [intOf]; omega
  ·have hkn : k = m.procs.length := by omega
   subst hkn
   have hb2 := HB2.out
   rw [List.take_length] at hb2
   have hb3 : Bld b (packB m) wr := hb2
   have BLB := qh hb3
   have BS3 : b ≤ wr.heap.size := Nat.le_of_lt hb3.lt
   have d0 := bel_cell HB1.out c0 GB
   have d2 := bel_cell HB1.out c2 GB
   have d3 := bel_cell HB1.out c3 GB
   have d4 := bel_cell HB1.out c4 GB
   clear c0 c1 c2 c3 c4 hb2 hb3
   go_wp2_with fail
   refine (HN3.out _).mono ?_
   rintro e n3 ⟨rfl, n3r⟩
   go_wp2_with fail
   refine (write_b b _ _ _ (BLB.out.keep n3r) (by have := packB_len OKM.out; omega) (by rw [hns]; omega)).mono ?_
   rintro e wF ⟨nwF, rfl, bldF, belF⟩
   have blF : Bld b (packC m) wF := bldF
   have belG := HB1.out.trans ((wr_bel n3r BS3).trans belF)
   have hq2 := bel_cell ((wr_bel n3r BS3).trans belF) d2 GB
   have hq3 := bel_cell ((wr_bel n3r BS3).trans belF) d3 GB
   have hq4 := bel_cell ((wr_bel n3r BS3).trans belF) d4 GB
   have BELG := qh belG
   have BLF := qh blF
   clear bldF belF n3r blF belG d0 d2 d3 d4
   go_wp2_with fail
   go_loopw [67] (fun i wr => ∃ k : Nat, k ≤ m.imports.length ∧ i = .int .i64 k ∧ PkAt b wF (packC m ++ (m.imports.take k).flatMap (fun i => numL i.toNat 1)) wr) (fun i _ => m.imports.length - (intOf i).toNat)
   case atStart => exact ⟨0, by omega, rfl, Below.refl _ _, by simpa using BLF.out⟩
   case round =>
    obtain ⟨k, hk, rfl, hb1, hb2⟩ := hrel
    have HI1 := qh hb1
    have HI2 := qh hb2
    have BS4 : b ≤ wr.heap.size := Nat.le_of_lt hb2.lt
    clear hb1 hb2
    by_cases hlt : k < m.imports.length
    ·obtain ⟨x, hx⟩ : ∃ x, m.imports[k]? = some x := ⟨_, List.getElem?_eq_getElem hlt⟩
     obtain ⟨bp, off, c, e, _, _, hcs⟩ := i64_at HH.out.imports hx
     injection e with e1 e2 e3
     subst e1
     subst e3
     have OK := OKM.out.imp x (List.mem_of_getElem? hx)
     have hbp : bp < b := by
      have := World.block_lt_of_cell? _ _ hcs
      have h2 : (⟨bp, off + k, none⟩ : Addr).block = bp := rfl
      rw [h2] at this
      omega
     have x0 := bel_cell HI1.out (bel_cell BELG.out (bel_cell BEL1.out (R2.out.cellOf (ACC.out.cellOf hcs (by simp)) (by simp)) hbp) hbp) hbp
     have hlti : (k : Int) < (m.imports.length : Int) := by omega
     have hk0 : (0 : Int) ≤ (k : Int) := by omega
     have hla : (packC m ++ (m.imports.take k).flatMap (fun i => numL i.toNat 1)).length ≤ 91000 := by
      have h1 := packC_len OKM.out
      have h2 := flat_take_len (fun i : Int => numL i.toNat 1) 1 255 (fun i => numL_len _ _) m.imports k (by omega)
      rw [List.length_append]
      omega
     have LB := qh hla
     have HX := qh hx
     have HNX := qh (fun w => numI x 1 OK.1 (by have := OK.2; omega) (by decide) (by decide) w)
     clear hcs e2 hx hla OK
     go_wp2_with fail
     refine (HNX.out _).mono ?_
     rintro e n4 ⟨rfl, n4r⟩
     go_wp2_with fail
     refine (write_b b _ _ _ (HI2.out.keep n4r) (by have := LB.out; omega) (by rw [hns]; omega)).mono ?_
     rintro e wG ⟨nwG, rfl, bldG, belH⟩
     have hPK : PkAt b wF (packC m ++ (m.imports.take (k + 1)).flatMap (fun i => numL i.toNat 1)) wG := by
      refine ⟨HI1.out.trans ((wr_bel n4r BS4).trans belH), ?_⟩
      rw [flat_take_succ _ HX.out, ← List.append_assoc]
      exact bldG
     have HPK := qh hPK
     clear hPK bldG belH n4r
     go_wp2_with fail
     refine ⟨⟨k + 1, by omega, by push_cast; rfl, HPK.out⟩, ?_⟩
     show m.imports.length - (intOf (.int .i64 ((k : Int) + 1))).toNat < m.imports.length - (intOf (.int .i64 (k : Int))).toNat
     simp only [intOf]
     omega
    ·have hkn : k = m.imports.length := by omega
     subst hkn
     have hb2 := HI2.out
     rw [List.take_length] at hb2
     have hb3 : Bld b (packD m) wr := hb2
     have BLR := qh hb3
     have BS2 : b ≤ wr.heap.size := BS4
     have c3 := bel_cell HI1.out hq3 GB
     have c4 := bel_cell HI1.out hq4 GB
     clear hq2 hq3 hq4 hb2 hb3
     go_wp2_with fail
     have hC : ∀ W, Below b wr W → W.cell? ⟨g, 3, none⟩ = some (.int .i64 m.data) ∧ W.cell? ⟨g, 4, none⟩ = some (.slice An m.init.length cn) := fun W hW => ⟨bel_cell hW c3 GB, bel_cell hW c4 GB⟩
     have HC := qh hC
     clear hC
     refine wp_region_noPanic ?_
     refine wp_region_L (AlwO fun w' => w'.cell? ⟨g, 3, none⟩ = some (.int .i64 m.data) ∧ w'.cell? ⟨g, 4, none⟩ = some (.slice An m.init.length cn)) (by kernel_rfl) (fun hcl => ?_)
     have hS : AlwO (fun w' => w'.cell? ⟨g, 3, none⟩ = some (.int .i64 m.data) ∧ w'.cell? ⟨g, 4, none⟩ = some (.slice An m.init.length cn)) (Array.replicate 9 false) wr.drew := ⟨c3, c4⟩
     refine wpAnyL_take (i := 0) (oi := ?oi301) (v := ?v301) ?hi301 (by kernel_rfl) (by kernel_rfl) (by kernel_rfl) (fun _ _ _ h => h) (alwO_take _) ?hy301 hcl hS ?rest301
     case hi301 =>
      simp only [qgaq, qgsq, qgzq]
      rfl
     case hy301 =>
      refine yields_alwO (Or.inl ⟨by rfl, fun w' hS => ?_⟩)
      try go_split_ands
      go_simp
      try rfl
     case rest301 =>
     intro hcl301 hS301
     clear hcl hS
     try simp only [Act.put, qsaq, qszq, qssq]
     refine wpAnyL_take (i := 1) (oi := ?oi302) (v := ?v302) ?hi302 (by kernel_rfl) (by kernel_rfl) (by kernel_rfl) (fun _ _ _ h => h) (alwO_take _) ?hy302 hcl301 hS301 ?rest302
     case hi302 =>
      simp only [qgaq, qgsq, qgzq]
      rfl
     case hy302 =>
      refine yields_alwO (Or.inl ⟨by rfl, fun w' hS => ?_⟩)
      try go_split_ands
      go_simp
      try rfl
     case rest302 =>
     intro hcl302 hS302
     clear hcl301 hS301
     try simp only [Act.put, qsaq, qszq, qssq]
     refine wpAnyL_take (i := 3) (oi := ?oi303) (v := ?v303) ?hi303 (by kernel_rfl) (by kernel_rfl) (by kernel_rfl) (fun _ _ _ h => h) (alwO_take _) ?hy303 hcl302 hS302 ?rest303
     case hi303 =>
      simp only [qgaq, qgsq, qgzq]
      rfl
     case hy303 =>
      refine yields_alwO (Or.inl ⟨by rfl, fun w' hS => ?_⟩)
      try go_split_ands
      go_simp
      try rfl
     case rest303 =>
     intro hcl303 hS303
     clear hcl302 hS302
     try simp only [Act.put, qsaq, qszq, qssq]
     refine wpAnyL_take (i := 4) (oi := ?oi304) (v := ?v304) ?hi304 (by kernel_rfl) (by kernel_rfl) (by kernel_rfl) (fun _ _ _ h => h) (alwO_take _) ?hy304 hcl303 hS303 ?rest304
     case hi304 =>
      simp only [qgaq, qgsq, qgzq]
      rfl
     case hy304 =>
      refine yields_alwO (Or.inl ⟨by rfl, fun w' hS => ?_⟩)
      try go_split_ands
      go_simp
      try rfl
     case rest304 =>
     intro hcl304 hS304
     clear hcl303 hS303
     try simp only [Act.put, qsaq, qszq, qssq]
     refine wpAnyL_take (i := 5) (oi := ?oi305) (v := ?v305) ?hi305 (by kernel_rfl) (by kernel_rfl) (by kernel_rfl) (fun _ _ _ h => h) (alwO_take _) ?hy305 hcl304 hS304 ?rest305
     case hi305 =>
      simp only [qgaq, qgsq, qgzq]
      rfl
     case hy305 =>
      refine yields_alwO (Or.inl ⟨by rfl, fun w' hS => ?_⟩)
      try go_split_ands
      go_simp
      try rfl
     case rest305 =>
     intro hcl305 hS305
     clear hcl304 hS304
     try simp only [Act.put, qsaq, qszq, qssq]
     refine wpAnyL_step (i := 2) (o := ?oi306) ?hi306 (by kernel_rfl) hcl305 ?rest306
     case hi306 =>
      simp only [qgaq, qgsq, qgzq]
      rfl
     case rest306 =>
     intro K hK
     go_simp
     go_at_call 37
     refine (numI m.data 2 OKM.out.data.1 OKM.out.data.2 (by decide) (by decide) _).mono ?_
     rintro e e1 ⟨rfl, e1q⟩
     have e1r := ((Wr.refl [] wr).drew).trans e1q
     clear e1q
     refine hK _ _ (HC.out _ (wr_bel e1r BS2)) (fun hcl306 => ?_)
     clear hK K hcl305 hS305
     try simp only [Act.put, qsaq, qszq, qssq]
     refine wpAnyL_step (i := 6) (o := ?oi307) ?hi307 (by kernel_rfl) hcl306 ?rest307
     case hi307 =>
      simp only [qgaq, qgsq, qgzq]
      rfl
     case rest307 =>
     intro K hK
     go_simp
     go_at_call 37
     refine (HN4.out _).mono ?_
     rintro e e2 ⟨rfl, e2q⟩
     have e2r := (e1r).trans e2q
     clear e2q
     refine hK _ _ (HC.out _ (wr_bel e2r BS2)) (fun hcl307 => ?_)
     clear hK K hcl306
     try simp only [Act.put, qsaq, qszq, qssq]
     refine wpAnyL_take (i := 7) (oi := ?oi308) (v := ?v308) ?hi308 (by kernel_rfl) (by kernel_rfl) (by kernel_rfl) (fun _ _ _ h => h) (alwO_take _) ?hy308 hcl307 (HC.out _ (wr_bel e2r BS2)) ?rest308
     case hi308 =>
      simp only [qgaq, qgsq, qgzq]
      rfl
     case hy308 =>
      refine yields_alwO (Or.inl ⟨by rfl, fun w' hS => ?_⟩)
      try go_split_ands
      go_simp
      try rfl
     case rest308 =>
     intro hcl308 hS308
     clear hcl307
     try simp only [Act.put, qsaq, qszq, qssq]
     refine wpAnyL_step (i := 8) (o := ?oi309) ?hi309 (by kernel_rfl) hcl308 ?rest309
     case hi309 =>
      simp only [qgaq, qgsq, qgzq]
      rfl
     case rest309 =>
     intro K hK
     go_simp
     go_at_call 44
     refine (write_b b _ _ _ (BLR.out.keep e2r) (by have := packD_len OKM.out; omega) (by simp only [ByteArray.size_append, hns]; omega)).mono ?_
     rintro e wE ⟨nwE, rfl, bldE, belC⟩
     refine hK _ _ (HC.out _ ((wr_bel e2r BS2).trans belC)) (fun hcl309 => ?_)
     clear hK K hcl308 hS308
     try simp only [Act.put, qsaq, qszq, qssq]
     refine wpAnyL_done (by kernel_rfl) (NoPanic.normal ?_) _
     try simp only [Act.put, qsaq, qszq, qssq]
     have belJ := (wr_bel e2r BS2).trans belC
     rw [bytesE] at bldE
     have BLE := qh bldE
     have BELJ := qh (BELG.out.trans (HI1.out.trans belJ))
     replace c4 := bel_cell belJ c4 GB
     clear bldE belC belJ e1r e2r HC c3
     go_wp2_with fail
     go_loopw [87] (fun i wr => ∃ k : Nat, k ≤ m.init.length ∧ i = .int .i64 k ∧ PkAt b wE (packE m ++ (m.init.take k).flatMap (fun i => numL i.toNat 2)) wr) (fun i _ => m.init.length - (intOf i).toNat)
     case atStart => exact ⟨0, by omega, rfl, Below.refl _ _, by simpa using BLE.out⟩
     case round =>
      obtain ⟨k, hk, rfl, hb1, hb2⟩ := hrel
      have HJ1 := qh hb1
      have HJ2 := qh hb2
      have BS5 : b ≤ wr.heap.size := Nat.le_of_lt hb2.lt
      clear hb1 hb2
      by_cases hlt : k < m.init.length
      ·obtain ⟨x, hx⟩ : ∃ x, m.init[k]? = some x := ⟨_, List.getElem?_eq_getElem hlt⟩
       obtain ⟨bp, off, c, e, _, _, hcs⟩ := u16_at HH.out.init hx
       injection e with e1 e2 e3
       subst e1
       subst e3
       have OK := HWD.out x (List.mem_of_getElem? hx)
       have hbp : bp < b := by
        have := World.block_lt_of_cell? _ _ hcs
        have h2 : (⟨bp, off + k, none⟩ : Addr).block = bp := rfl
        rw [h2] at this
        omega
       have x0 := bel_cell HJ1.out (bel_cell BELJ.out (bel_cell BEL1.out (R2.out.cellOf (ACC.out.cellOf hcs (by simp)) (by simp)) hbp) hbp) hbp
       have hlti : (k : Int) < (m.init.length : Int) := by omega
       have hk0 : (0 : Int) ≤ (k : Int) := by omega
       have hla : (packE m ++ (m.init.take k).flatMap (fun i => numL i.toNat 2)).length ≤ 300000 := by
        have h1 := packE_len OKM.out
        have h2 := flat_take_len (fun i : Int => numL i.toNat 2) 2 65535 (fun i => numL_len _ _) m.init k (by omega)
        rw [List.length_append]
        omega
       have LB := qh hla
       have HX := qh hx
       have HNX := qh (fun w => numW x 2 OK.1 OK.2 (by decide) (by decide) w)
       clear hcs e2 hx hla OK
       go_wp2_with fail
       refine (HNX.out _).mono ?_
       rintro e n5 ⟨rfl, n5r⟩
       go_wp2_with fail
       refine (write_b b _ _ _ (HJ2.out.keep n5r) (by have := LB.out; omega) (by rw [hns]; omega)).mono ?_
       rintro e wG ⟨nwG, rfl, bldG, belH⟩
       have hPK : PkAt b wE (packE m ++ (m.init.take (k + 1)).flatMap (fun i => numL i.toNat 2)) wG := by
        refine ⟨HJ1.out.trans ((wr_bel n5r BS5).trans belH), ?_⟩
        rw [flat_take_succ _ HX.out, ← List.append_assoc]
        exact bldG
       have HPK := qh hPK
       clear hPK bldG belH n5r
       go_wp2_with fail
       go_roundw
       case rel => exact ⟨k + 1, by omega, by go_num, HPK.out⟩
       case measure => simp [intOf]; omega
      ·have hkn : k = m.init.length := by omega
       subst hkn
       have hb2 := HJ2.out
       rw [List.take_length] at hb2
       replace hb2 : Bld b (packL m) wr := by rw [pack_eq]; exact hb2
       have hst := string_b b _ _ hb2
       rw [HPL.out] at hst
       have HST := qh hst
       have hfin := fun (w' : World) (hx : Below b wr w') => bel_wr (ACC.out.trans R2.out) (by omega) (BEL1.out.trans (BELJ.out.trans (HJ1.out.trans hx)))
       have HFIN := qh hfin
       clear hb2 hst hfin
       go_wp2_with fail
       refine HST.out.mono ?_
       rintro e wZ ⟨rfl, belZ⟩
       go_wp2_with fail
       go_ret2
       exact ⟨rfl, HFIN.out _ belZ⟩
def packP (m : ModD) : List UInt8 × Int := if omodB m then (packL m, 0) else ([], 2)
def PackR (m : ModD) (w : World) (e : Ending) (w' : World) : Prop := e = .returned (.tuple #[.string ⟨(packP m).1.toArray⟩, .int .i64 (packP m).2]) ∧ Wr [] w w'
theorem pack_any (m : ModD) (vp vi vn : Value) (P : Nat → Prop) (hwd : wordsB m) (w : World) (h : ModL w P vp vi vn m) : Calls Tryz.prog 12 #[m.val vp vi vn] w (PackR m w) := by
 unfold PackR packP
 cases hm : omodB m with
 | false => exact pack_no m vp vi vn P hm w h
 | true => exact pack_yes m vp vi vn P hm hwd w h
end Go.Proofs.YtildcdgobdfieaaGreat
