/- obj.Encode: walked. Conditions: keys of 64 bits, words of 16. -/
import Derived.Test.YtildcdgobdfieaaGreatOT01
import Derived.Test.YtildcdgobdfieaaGreatOT07
import Derived.Deep.Cut
import Derived.Deep.DeepCutAuto
import Derived.Deep.RegionHeld3
set_option linter.unusedVariables false
set_option linter.unusedSimpArgs false
set_option maxRecDepth 100000
set_option maxHeartbeats 32000000
namespace Go.Proofs.YtildcdgobdfieaaGreat
open Go.RowKit
theorem oenc_no (o : ObjD) (vu vp vi vn : Value) (P : Nat → Prop) (hm : objB o = false) (w : World) (h : ObjL w P vu vp vi vn o) :
  Calls Tryz.prog 10 #[o.val vu vp vi vn] w fun e w' => e = .returned (.tuple #[.string ⟨#[]⟩, .int .i64 2]) ∧ Wr [] w w' := by
 obtain ⟨Au, cu, rfl, lu1, lu2⟩ := Sl.form h.uses
 obtain ⟨Ap, cp, rfl, lp1, lp2⟩ := Sl.form h.mod.procs
 obtain ⟨Ai, ci, rfl, li1, li2⟩ := Sl.form h.mod.imports
 obtain ⟨An, cn, rfl, ln1, ln2⟩ := Sl.form h.mod.init
 unfold maxLen at lu2
 have acc := (Wr.refl [] w).alloc (.cells #[.string o.module, .bool o.main, .int .u64 o.key, .slice Au o.uses.length cu, .string o.mod.code, .slice Ap o.mod.procs.length cp, .slice Ai o.mod.imports.length ci, .int .i64 o.mod.data, .slice An o.mod.init.length cn] 30)
 have bA := Blk.new w 30 #[.string o.module, .bool o.main, .int .u64 o.key, .slice Au o.uses.length cu, .string o.mod.code, .slice Ap o.mod.procs.length cp, .slice Ai o.mod.imports.length ci, .int .i64 o.mod.data, .slice An o.mod.init.length cn]
 have hc := omay_any o _ _ _ _ P _ (h.wr0 acc)
 rw [hm] at hc
 unfold ObjD.val ObjD.cells at hc ⊢
 obtain ⟨w0, hw0⟩ : ∃ w0, w.alloc (.cells #[.string o.module, .bool o.main, .int .u64 o.key, .slice Au o.uses.length cu, .string o.mod.code, .slice Ap o.mod.procs.length cp, .slice Ai o.mod.imports.length ci, .int .i64 o.mod.data, .slice An o.mod.init.length cn] 30) = w0 := ⟨_, rfl⟩
 obtain ⟨g, hg⟩ : ∃ g, w.heap.size = g := ⟨_, rfl⟩
 rw [hw0] at acc bA hc
 rw [hg] at bA
 have Hw0 := qh hw0
 have Hg := qh hg
 have HC0 := qh hc
 have ACC := qh acc
 have HH := qh (h.wr0 acc)
 clear hw0 hg h hc acc
 go_enter Tryz.func10, Tryz.ntmps10
 go_upto_region 1 with (fail)
 rw [Hw0.out, Hg.out]
 have c0 := (bA).cell 0
 have c1 := (bA).cell 1
 have c2 := (bA).cell 2
 have c3 := (bA).cell 3
 have c4 := (bA).cell 4
 have c5 := (bA).cell 5
 have c6 := (bA).cell 6
 have c7 := (bA).cell 7
 have c8 := (bA).cell 8
 simp only [qgaq, qgzq, qgsq] at c0 c1 c2 c3 c4 c5 c6 c7 c8
 go_wp2_with fail
 refine HC0.out.mono ?_
 rintro e w1 ⟨rfl, r1⟩
 go_wp2_with fail
 go_ret2
 exact ⟨rfl, ACC.out.trans r1⟩
theorem oenc_yes (o : ObjD) (vu vp vi vn : Value) (P : Nat → Prop) (hm : objB o = true) (hW : objW o) (w : World) (h : ObjL w P vu vp vi vn o) :
  Calls Tryz.prog 10 #[o.val vu vp vi vn] w fun e w' => e = .returned (.tuple #[.string ⟨(fileL objKind (bodyL o)).toArray⟩, .int .i64 0]) ∧ Wr [] w w' := by
 have okm := obj_ok hm
 have OKM := qh okm
 have HW := qh hW
 obtain ⟨FL, hFL⟩ : ∃ q : ByteArray, (⟨(fileL objKind (bodyL o)).toArray⟩ : ByteArray) = q := ⟨_, rfl⟩
 rw [hFL]
 have HFL := qh hFL
 have q1 := okm.name
 have q2 := okm.uses
 have HTX := qh (fun w => otext_any o.module q1 w)
 have HNU := qh (fun w => numU o.key hW.key w)
 have HNI := qh (fun w => number_int o.uses.length 1 (by omega) (by decide) (by decide) w)
 have hpk := fun w (h : ModL w P vp vi vn o.mod) => pack_any o.mod _ _ _ P hW.words w h
 unfold PackR packP at hpk
 rw [okm.mod, if_pos rfl] at hpk
 clear hFL okm hW
 obtain ⟨Au, cu, rfl, lu1, lu2⟩ := Sl.form h.uses
 obtain ⟨Ap, cp, rfl, lp1, lp2⟩ := Sl.form h.mod.procs
 obtain ⟨Ai, ci, rfl, li1, li2⟩ := Sl.form h.mod.imports
 obtain ⟨An, cn, rfl, ln1, ln2⟩ := Sl.form h.mod.init
 unfold maxLen at lu2
 have acc := (Wr.refl [] w).alloc (.cells #[.string o.module, .bool o.main, .int .u64 o.key, .slice Au o.uses.length cu, .string o.mod.code, .slice Ap o.mod.procs.length cp, .slice Ai o.mod.imports.length ci, .int .i64 o.mod.data, .slice An o.mod.init.length cn] 30)
 have bA := Blk.new w 30 #[.string o.module, .bool o.main, .int .u64 o.key, .slice Au o.uses.length cu, .string o.mod.code, .slice Ap o.mod.procs.length cp, .slice Ai o.mod.imports.length ci, .int .i64 o.mod.data, .slice An o.mod.init.length cn]
 have hc := omay_any o _ _ _ _ P _ (h.wr0 acc)
 rw [hm] at hc
 unfold ObjD.val ObjD.cells at hc ⊢
 obtain ⟨w0, hw0⟩ : ∃ w0, w.alloc (.cells #[.string o.module, .bool o.main, .int .u64 o.key, .slice Au o.uses.length cu, .string o.mod.code, .slice Ap o.mod.procs.length cp, .slice Ai o.mod.imports.length ci, .int .i64 o.mod.data, .slice An o.mod.init.length cn] 30) = w0 := ⟨_, rfl⟩
 obtain ⟨g, hg⟩ : ∃ g, w.heap.size = g := ⟨_, rfl⟩
 rw [hw0] at acc bA hc
 rw [hg] at bA
 have Hw0 := qh hw0
 have Hg := qh hg
 have HC0 := qh hc
 have ACC := qh acc
 have HH := qh (h.wr0 acc)
 unfold ModD.val ModD.cells at hpk
 have HPK := qh hpk
 clear hpk
 clear hw0 hg h hc acc
 go_enter Tryz.func10, Tryz.ntmps10
 go_upto_region 1 with (fail)
 rw [Hw0.out, Hg.out]
 have c0 := (bA).cell 0
 have c1 := (bA).cell 1
 have c2 := (bA).cell 2
 have c3 := (bA).cell 3
 have c4 := (bA).cell 4
 have c5 := (bA).cell 5
 have c6 := (bA).cell 6
 have c7 := (bA).cell 7
 have c8 := (bA).cell 8
 simp only [qgaq, qgzq, qgsq] at c0 c1 c2 c3 c4 c5 c6 c7 c8
 go_wp2_with fail
 refine HC0.out.mono ?_
 rintro e w1 ⟨rfl, r1⟩
 have R1 := qh r1
 replace c0 := r1.cellOf c0 (by simp)
 replace c1 := r1.cellOf c1 (by simp)
 replace c2 := r1.cellOf c2 (by simp)
 replace c3 := r1.cellOf c3 (by simp)
 replace c4 := r1.cellOf c4 (by simp)
 replace c5 := r1.cellOf c5 (by simp)
 replace c6 := r1.cellOf c6 (by simp)
 replace c7 := r1.cellOf c7 (by simp)
 replace c8 := r1.cellOf c8 (by simp)
 have hns := numS_size
 have hts := truS_size
 have hxs := texS_size
 have s1 : ¬ 9223372036854775807 < 1 + o.module.size + 1 := by omega
 have s2 : ¬ 9223372036854775807 < 1 + o.module.size + 1 + 8 := by omega
 have s3 : ¬ 9223372036854775807 < 1 + o.module.size + 1 + 8 + 1 := by omega
 clear r1 bA
 go_wp2_with fail
 have hC : ∀ W, Wr [] w1 W → W.cell? ⟨g, 0, none⟩ = some (.string o.module) ∧ W.cell? ⟨g, 1, none⟩ = some (.bool o.main) ∧ W.cell? ⟨g, 2, none⟩ = some (.int .u64 o.key) ∧ W.cell? ⟨g, 3, none⟩ = some (.slice Au o.uses.length cu) := fun W hW => ⟨hW.cellOf c0 (by simp), hW.cellOf c1 (by simp), hW.cellOf c2 (by simp), hW.cellOf c3 (by simp)⟩
 have HC := qh hC
 clear hC
 refine wp_region_noPanic ?_
 refine wp_region_L (AlwO fun w' => w'.cell? ⟨g, 0, none⟩ = some (.string o.module) ∧ w'.cell? ⟨g, 1, none⟩ = some (.bool o.main) ∧ w'.cell? ⟨g, 2, none⟩ = some (.int .u64 o.key) ∧ w'.cell? ⟨g, 3, none⟩ = some (.slice Au o.uses.length cu)) (by kernel_rfl) (fun hcl => ?_)
 have hS : AlwO (fun w' => w'.cell? ⟨g, 0, none⟩ = some (.string o.module) ∧ w'.cell? ⟨g, 1, none⟩ = some (.bool o.main) ∧ w'.cell? ⟨g, 2, none⟩ = some (.int .u64 o.key) ∧ w'.cell? ⟨g, 3, none⟩ = some (.slice Au o.uses.length cu)) (Array.replicate 17 false) w1.drew := ⟨c0, c1, c2, c3⟩
 refine wpAnyL_take (i := 0) (oi := ?oi101) (v := ?v101) ?hi101 (by kernel_rfl) (by kernel_rfl) (by kernel_rfl) (fun _ _ _ h => h) (alwO_take _) ?hy101 hcl hS ?rest101
 case hi101 =>
  simp only [qgaq, qgsq, qgzq]
  rfl
 case hy101 =>
  refine yields_alwO (Or.inl ⟨by rfl, fun w' hS => ?_⟩)
  try go_split_ands
  go_simp
  try rfl
 case rest101 =>
 intro hcl101 hS101
 clear hcl hS
 try simp only [Act.put, qsaq, qszq, qssq]
 refine wpAnyL_take (i := 1) (oi := ?oi102) (v := ?v102) ?hi102 (by kernel_rfl) (by kernel_rfl) (by kernel_rfl) (fun _ _ _ h => h) (alwO_take _) ?hy102 hcl101 hS101 ?rest102
 case hi102 =>
  simp only [qgaq, qgsq, qgzq]
  rfl
 case hy102 =>
  refine yields_alwO (Or.inl ⟨by rfl, fun w' hS => ?_⟩)
  try go_split_ands
  go_simp
  try rfl
 case rest102 =>
 intro hcl102 hS102
 clear hcl101 hS101
 try simp only [Act.put, qsaq, qszq, qssq]
 refine wpAnyL_take (i := 3) (oi := ?oi103) (v := ?v103) ?hi103 (by kernel_rfl) (by kernel_rfl) (by kernel_rfl) (fun _ _ _ h => h) (alwO_take _) ?hy103 hcl102 hS102 ?rest103
 case hi103 =>
  simp only [qgaq, qgsq, qgzq]
  rfl
 case hy103 =>
  refine yields_alwO (Or.inl ⟨by rfl, fun w' hS => ?_⟩)
  try go_split_ands
  go_simp
  try rfl
 case rest103 =>
 intro hcl103 hS103
 clear hcl102 hS102
 try simp only [Act.put, qsaq, qszq, qssq]
 refine wpAnyL_take (i := 4) (oi := ?oi104) (v := ?v104) ?hi104 (by kernel_rfl) (by kernel_rfl) (by kernel_rfl) (fun _ _ _ h => h) (alwO_take _) ?hy104 hcl103 hS103 ?rest104
 case hi104 =>
  simp only [qgaq, qgsq, qgzq]
  rfl
 case hy104 =>
  refine yields_alwO (Or.inl ⟨by rfl, fun w' hS => ?_⟩)
  try go_split_ands
  go_simp
  try rfl
 case rest104 =>
 intro hcl104 hS104
 clear hcl103 hS103
 try simp only [Act.put, qsaq, qszq, qssq]
 refine wpAnyL_take (i := 7) (oi := ?oi105) (v := ?v105) ?hi105 (by kernel_rfl) (by kernel_rfl) (by kernel_rfl) (fun _ _ _ h => h) (alwO_take _) ?hy105 hcl104 hS104 ?rest105
 case hi105 =>
  simp only [qgaq, qgsq, qgzq]
  rfl
 case hy105 =>
  refine yields_alwO (Or.inl ⟨by rfl, fun w' hS => ?_⟩)
  try go_split_ands
  go_simp
  try rfl
 case rest105 =>
 intro hcl105 hS105
 clear hcl104 hS104
 try simp only [Act.put, qsaq, qszq, qssq]
 refine wpAnyL_take (i := 8) (oi := ?oi106) (v := ?v106) ?hi106 (by kernel_rfl) (by kernel_rfl) (by kernel_rfl) (fun _ _ _ h => h) (alwO_take _) ?hy106 hcl105 hS105 ?rest106
 case hi106 =>
  simp only [qgaq, qgsq, qgzq]
  rfl
 case hy106 =>
  refine yields_alwO (Or.inl ⟨by rfl, fun w' hS => ?_⟩)
  try go_split_ands
  go_simp
  try rfl
 case rest106 =>
 intro hcl106 hS106
 clear hcl105 hS105
 try simp only [Act.put, qsaq, qszq, qssq]
 refine wpAnyL_take (i := 11) (oi := ?oi107) (v := ?v107) ?hi107 (by kernel_rfl) (by kernel_rfl) (by kernel_rfl) (fun _ _ _ h => h) (alwO_take _) ?hy107 hcl106 hS106 ?rest107
 case hi107 =>
  simp only [qgaq, qgsq, qgzq]
  rfl
 case hy107 =>
  refine yields_alwO (Or.inl ⟨by rfl, fun w' hS => ?_⟩)
  try go_split_ands
  go_simp
  try rfl
 case rest107 =>
 intro hcl107 hS107
 clear hcl106 hS106
 try simp only [Act.put, qsaq, qszq, qssq]
 refine wpAnyL_take (i := 12) (oi := ?oi108) (v := ?v108) ?hi108 (by kernel_rfl) (by kernel_rfl) (by kernel_rfl) (fun _ _ _ h => h) (alwO_take _) ?hy108 hcl107 hS107 ?rest108
 case hi108 =>
  simp only [qgaq, qgsq, qgzq]
  rfl
 case hy108 =>
  refine yields_alwO (Or.inl ⟨by rfl, fun w' hS => ?_⟩)
  try go_split_ands
  go_simp
  try rfl
 case rest108 =>
 intro hcl108 hS108
 clear hcl107 hS107
 try simp only [Act.put, qsaq, qszq, qssq]
 refine wpAnyL_take (i := 13) (oi := ?oi109) (v := ?v109) ?hi109 (by kernel_rfl) (by kernel_rfl) (by kernel_rfl) (fun _ _ _ h => h) (alwO_take _) ?hy109 hcl108 hS108 ?rest109
 case hi109 =>
  simp only [qgaq, qgsq, qgzq]
  rfl
 case hy109 =>
  refine yields_alwO (Or.inl ⟨by rfl, fun w' hS => ?_⟩)
  try go_split_ands
  go_simp
  try rfl
 case rest109 =>
 intro hcl109 hS109
 clear hcl108 hS108
 try simp only [Act.put, qsaq, qszq, qssq]
 refine wpAnyL_step (i := 2) (o := ?oi110) ?hi110 (by kernel_rfl) hcl109 ?rest110
 case hi110 =>
  simp only [qgaq, qgsq, qgzq]
  rfl
 case rest110 =>
 intro K hK
 go_simp
 go_at_call 34
 refine (HTX.out _).mono ?_
 rintro e a1 ⟨rfl, a1q⟩
 have a1r := ((Wr.refl [] w1).drew).trans a1q
 clear a1q
 refine hK _ _ (HC.out _ a1r) (fun hcl110 => ?_)
 clear hK K hcl109 hS109
 try simp only [Act.put, qsaq, qszq, qssq]
 refine wpAnyL_step (i := 5) (o := ?oi111) ?hi111 (by kernel_rfl) hcl110 ?rest111
 case hi111 =>
  simp only [qgaq, qgsq, qgzq]
  rfl
 case rest111 =>
 intro K hK
 go_simp
 go_at_call 35
 refine (otruth_any o.main _).mono ?_
 rintro e a2 ⟨rfl, rfl⟩
 refine hK _ _ (HC.out _ a1r) (fun hcl111 => ?_)
 clear hK K hcl110
 try simp only [Act.put, qsaq, qszq, qssq]
 refine wpAnyL_take (i := 6) (oi := ?oi112) (v := ?v112) ?hi112 (by kernel_rfl) (by kernel_rfl) (by kernel_rfl) (fun _ _ _ h => h) (alwO_take _) ?hy112 hcl111 (HC.out _ a1r) ?rest112
 case hi112 =>
  simp only [qgaq, qgsq, qgzq]
  rfl
 case hy112 =>
  refine yields_alwO (Or.inl ⟨by rfl, fun w' hS => ?_⟩)
  try go_split_ands
  go_simp
  try rfl
 case rest112 =>
 intro hcl112 hS112
 clear hcl111
 try simp only [Act.put, qsaq, qszq, qssq]
 refine wpAnyL_step (i := 9) (o := ?oi113) ?hi113 (by kernel_rfl) hcl112 ?rest113
 case hi113 =>
  simp only [qgaq, qgsq, qgzq]
  rfl
 case rest113 =>
 intro K hK
 go_simp
 go_at_call 36
 refine (HNU.out _).mono ?_
 rintro e a3 ⟨rfl, a3q⟩
 have a3r := (a1r).trans a3q
 clear a3q
 refine hK _ _ (HC.out _ a3r) (fun hcl113 => ?_)
 clear hK K hcl112 hS112
 try simp only [Act.put, qsaq, qszq, qssq]
 refine wpAnyL_take (i := 10) (oi := ?oi114) (v := ?v114) ?hi114 (by kernel_rfl) (by kernel_rfl) (by kernel_rfl) (fun _ _ _ h => h) (alwO_take _) ?hy114 hcl113 (HC.out _ a3r) ?rest114
 case hi114 =>
  simp only [qgaq, qgsq, qgzq]
  rfl
 case hy114 =>
  refine yields_alwO (Or.inl ⟨by rfl, fun w' hS => ?_⟩)
  try go_split_ands
  go_simp
  try rfl
 case rest114 =>
 intro hcl114 hS114
 clear hcl113
 try simp only [Act.put, qsaq, qszq, qssq]
 refine wpAnyL_step (i := 14) (o := ?oi115) ?hi115 (by kernel_rfl) hcl114 ?rest115
 case hi115 =>
  simp only [qgaq, qgsq, qgzq]
  rfl
 case rest115 =>
 intro K hK
 go_simp
 go_at_call 37
 refine (HNI.out _).mono ?_
 rintro e a4 ⟨rfl, a4q⟩
 have a4r := (a3r).trans a4q
 clear a4q
 refine hK _ _ (HC.out _ a4r) (fun hcl115 => ?_)
 clear hK K hcl114 hS114
 try simp only [Act.put, qsaq, qszq, qssq]
 refine wpAnyL_take (i := 15) (oi := ?oi116) (v := ?v116) ?hi116 (by kernel_rfl) (by kernel_rfl) (by kernel_rfl) (fun _ _ _ h => h) (alwO_take _) ?hy116 hcl115 (HC.out _ a4r) ?rest116
 case hi116 =>
  simp only [qgaq, qgsq, qgzq]
  rfl
 case hy116 =>
  refine yields_alwO (Or.inl ⟨by rfl, fun w' hS => ?_⟩)
  try go_split_ands
  go_simp
  try rfl
 case rest116 =>
 intro hcl116 hS116
 clear hcl115
 try simp only [Act.put, qsaq, qszq, qssq]
 refine wpAnyL_take (i := 16) (oi := ?oi117) (v := ?v117) ?hi117 (by kernel_rfl) (by kernel_rfl) (by kernel_rfl) (fun _ _ _ h => h) (alwO_take _) ?hy117 hcl116 hS116 ?rest117
 case hi117 =>
  simp only [qgaq, qgsq, qgzq]
  rfl
 case hy117 =>
  refine yields_alwO (Or.inl ⟨by rfl, fun w' hS => ?_⟩)
  try go_split_ands
  go_simp
  try rfl
 case rest117 =>
 intro hcl117 hS117
 clear hcl116 hS116
 try simp only [Act.put, qsaq, qszq, qssq]
 refine wpAnyL_done (by kernel_rfl) (NoPanic.normal ?_) _
 try simp only [Act.put, qsaq, qszq, qssq]
 obtain ⟨S, hS⟩ : ∃ q, texS o.module ++ truS o.main ++ numS o.key.toNat 8 ++ numS o.uses.length 1 = q := ⟨_, rfl⟩
 have hSl : S.data.toList = headO o := by
  rw [← hS]
  simp only [bytes_app, numS_list, truS_list]
  rfl
 rw [hS]
 have HSL := qh hSl
 replace c0 := a4r.cellOf c0 (by simp)
 replace c3 := a4r.cellOf c3 (by simp)
 replace c4 := a4r.cellOf c4 (by simp)
 replace c5 := a4r.cellOf c5 (by simp)
 replace c6 := a4r.cellOf c6 (by simp)
 replace c7 := a4r.cellOf c7 (by simp)
 replace c8 := a4r.cellOf c8 (by simp)
 have R4 := qh a4r
 clear hS hSl a4r a3r a1r HC c1 c2 s1 s2 s3
 go_wp2_with fail
 go_loopw [4, 31] (fun s4 i wr => ∃ k : Nat, k ≤ o.uses.length ∧ i = .int .i64 k ∧ EnAt a4 (headO o ++ (o.uses.take k).flatMap useL) s4 wr) (fun _ i _ => o.uses.length - (intOf i).toNat)
 case atStart => exact ⟨0, by omega, rfl, S, rfl, by simpa using HSL.out, Wr.refl _ _⟩
 case round =>
  obtain ⟨k, hk, rfl, s, rfl, hs, hr⟩ := hrel
  have RR := qh hr
  have hsz : s.size ≤ 70000 := by rw [bytes_len hs]; exact uses_len OKM.out k
  have SS := qh hs
  clear hr hs
  by_cases hlt : k < o.uses.length
  ·obtain ⟨u, hu⟩ : ∃ u, o.uses[k]? = some u := ⟨_, List.getElem?_eq_getElem hlt⟩
   obtain ⟨bu, off, c, e, _, _, hcs⟩ := use_at HH.out.uses hu
   injection e with e1 e2 e3
   subst e1
   subst e3
   have OK := OKM.out.use u (List.mem_of_getElem? hu)
   have HTU := qh (fun w => otext_any u.module OK w)
   have HNK := qh (fun w => numU u.key (HW.out.keys u (List.mem_of_getElem? hu)) w)
   have rwr := (R1.out.trans R4.out).trans RR.out
   have x0 := rwr.cellOf (hcs 0 _ rfl) (by simp)
   have x1 := rwr.cellOf (hcs 1 _ rfl) (by simp)
   simp only [Nat.add_zero] at x0
   have hlti : (k : Int) < (o.uses.length : Int) := by omega
   have hk0 : (0 : Int) ≤ (k : Int) := by omega
   have HX := qh hu
   clear hcs e2 hu rwr
   go_upto_region 7 with (fail)
   have bz := Blk.new wr 72 #[.string u.module, .int .u64 u.key]
   have rz := (Wr.refl [] wr).alloc (.cells #[.string u.module, .int .u64 u.key] 72)
   generalize wr.alloc (.cells #[.string u.module, .int .u64 u.key] 72) = wz at *
   generalize wr.heap.size = z at *
   have y0 := bz.cell 0
   have y1 := bz.cell 1
   simp only [qgaq, qgzq, qgsq] at y0 y1
   have s1 : ¬ 9223372036854775807 < 1 + u.module.size + 8 := by omega
   have s2 : ¬ 9223372036854775807 < s.size + (1 + u.module.size + 8) := by omega
   clear bz
   have hC : ∀ W, Wr [] wz W → W.cell? ⟨z, 0, none⟩ = some (.string u.module) ∧ W.cell? ⟨z, 1, none⟩ = some (.int .u64 u.key) := fun W hW => ⟨hW.cellOf y0 (by simp), hW.cellOf y1 (by simp)⟩
   have HC := qh hC
   clear hC
   refine wp_region_noPanic ?_
   refine wp_region_L (AlwO fun w' => w'.cell? ⟨z, 0, none⟩ = some (.string u.module) ∧ w'.cell? ⟨z, 1, none⟩ = some (.int .u64 u.key)) (by kernel_rfl) (fun hcl => ?_)
   have hS : AlwO (fun w' => w'.cell? ⟨z, 0, none⟩ = some (.string u.module) ∧ w'.cell? ⟨z, 1, none⟩ = some (.int .u64 u.key)) (Array.replicate 10 false) wz.drew := ⟨y0, y1⟩
   refine wpAnyL_take (i := 0) (oi := ?oi201) (v := ?v201) ?hi201 (by kernel_rfl) (by kernel_rfl) (by kernel_rfl) (fun _ _ _ h => h) (alwO_take _) ?hy201 hcl hS ?rest201
   case hi201 =>
    simp only [qgaq, qgsq, qgzq]
    rfl
   case hy201 =>
    refine yields_alwO (Or.inl ⟨by rfl, fun w' hS => ?_⟩)
    try go_split_ands
    go_simp
    try rfl
   case rest201 =>
   intro hcl201 hS201
   clear hcl hS
   try simp only [Act.put, qsaq, qszq, qssq]
   refine wpAnyL_take (i := 1) (oi := ?oi202) (v := ?v202) ?hi202 (by kernel_rfl) (by kernel_rfl) (by kernel_rfl) (fun _ _ _ h => h) (alwO_take _) ?hy202 hcl201 hS201 ?rest202
   case hi202 =>
    simp only [qgaq, qgsq, qgzq]
    rfl
   case hy202 =>
    refine yields_alwO (Or.inl ⟨by rfl, fun w' hS => ?_⟩)
    try go_split_ands
    go_simp
    try rfl
   case rest202 =>
   intro hcl202 hS202
   clear hcl201 hS201
   try simp only [Act.put, qsaq, qszq, qssq]
   refine wpAnyL_take (i := 2) (oi := ?oi203) (v := ?v203) ?hi203 (by kernel_rfl) (by kernel_rfl) (by kernel_rfl) (fun _ _ _ h => h) (alwO_take _) ?hy203 hcl202 hS202 ?rest203
   case hi203 =>
    simp only [qgaq, qgsq, qgzq]
    rfl
   case hy203 =>
    refine yields_alwO (Or.inl ⟨by rfl, fun w' hS => ?_⟩)
    try go_split_ands
    go_simp
    try rfl
   case rest203 =>
   intro hcl203 hS203
   clear hcl202 hS202
   try simp only [Act.put, qsaq, qszq, qssq]
   refine wpAnyL_take (i := 4) (oi := ?oi204) (v := ?v204) ?hi204 (by kernel_rfl) (by kernel_rfl) (by kernel_rfl) (fun _ _ _ h => h) (alwO_take _) ?hy204 hcl203 hS203 ?rest204
   case hi204 =>
    simp only [qgaq, qgsq, qgzq]
    rfl
   case hy204 =>
    refine yields_alwO (Or.inl ⟨by rfl, fun w' hS => ?_⟩)
    try go_split_ands
    go_simp
    try rfl
   case rest204 =>
   intro hcl204 hS204
   clear hcl203 hS203
   try simp only [Act.put, qsaq, qszq, qssq]
   refine wpAnyL_take (i := 5) (oi := ?oi205) (v := ?v205) ?hi205 (by kernel_rfl) (by kernel_rfl) (by kernel_rfl) (fun _ _ _ h => h) (alwO_take _) ?hy205 hcl204 hS204 ?rest205
   case hi205 =>
    simp only [qgaq, qgsq, qgzq]
    rfl
   case hy205 =>
    refine yields_alwO (Or.inl ⟨by rfl, fun w' hS => ?_⟩)
    try go_split_ands
    go_simp
    try rfl
   case rest205 =>
   intro hcl205 hS205
   clear hcl204 hS204
   try simp only [Act.put, qsaq, qszq, qssq]
   refine wpAnyL_step (i := 3) (o := ?oi206) ?hi206 (by kernel_rfl) hcl205 ?rest206
   case hi206 =>
    simp only [qgaq, qgsq, qgzq]
    rfl
   case rest206 =>
   intro K hK
   go_simp
   go_at_call 34
   refine (HTU.out _).mono ?_
   rintro e b1 ⟨rfl, b1q⟩
   have b1r := ((Wr.refl [] wz).drew).trans b1q
   clear b1q
   refine hK _ _ (HC.out _ b1r) (fun hcl206 => ?_)
   clear hK K hcl205 hS205
   try simp only [Act.put, qsaq, qszq, qssq]
   refine wpAnyL_step (i := 6) (o := ?oi207) ?hi207 (by kernel_rfl) hcl206 ?rest207
   case hi207 =>
    simp only [qgaq, qgsq, qgzq]
    rfl
   case rest207 =>
   intro K hK
   go_simp
   go_at_call 36
   refine (HNK.out _).mono ?_
   rintro e b2 ⟨rfl, b2q⟩
   have b2r := (b1r).trans b2q
   clear b2q
   refine hK _ _ (HC.out _ b2r) (fun hcl207 => ?_)
   clear hK K hcl206
   try simp only [Act.put, qsaq, qszq, qssq]
   refine wpAnyL_take (i := 7) (oi := ?oi208) (v := ?v208) ?hi208 (by kernel_rfl) (by kernel_rfl) (by kernel_rfl) (fun _ _ _ h => h) (alwO_take _) ?hy208 hcl207 (HC.out _ b2r) ?rest208
   case hi208 =>
    simp only [qgaq, qgsq, qgzq]
    rfl
   case hy208 =>
    refine yields_alwO (Or.inl ⟨by rfl, fun w' hS => ?_⟩)
    try go_split_ands
    go_simp
    try rfl
   case rest208 =>
   intro hcl208 hS208
   clear hcl207
   try simp only [Act.put, qsaq, qszq, qssq]
   refine wpAnyL_take (i := 8) (oi := ?oi209) (v := ?v209) ?hi209 (by kernel_rfl) (by kernel_rfl) (by kernel_rfl) (fun _ _ _ h => h) (alwO_take _) ?hy209 hcl208 hS208 ?rest209
   case hi209 =>
    simp only [qgaq, qgsq, qgzq]
    rfl
   case hy209 =>
    refine yields_alwO (Or.inl ⟨by rfl, fun w' hS => ?_⟩)
    try go_split_ands
    go_simp
    try rfl
   case rest209 =>
   intro hcl209 hS209
   clear hcl208 hS208
   try simp only [Act.put, qsaq, qszq, qssq]
   refine wpAnyL_take (i := 9) (oi := ?oi210) (v := ?v210) ?hi210 (by kernel_rfl) (by kernel_rfl) (by kernel_rfl) (fun _ _ _ h => h) (alwO_take _) ?hy210 hcl209 hS209 ?rest210
   case hi210 =>
    simp only [qgaq, qgsq, qgzq]
    rfl
   case hy210 =>
    refine yields_alwO (Or.inl ⟨by rfl, fun w' hS => ?_⟩)
    try go_split_ands
    go_simp
    try rfl
   case rest210 =>
   intro hcl210 hS210
   clear hcl209 hS209
   try simp only [Act.put, qsaq, qszq, qssq]
   refine wpAnyL_done (by kernel_rfl) (NoPanic.normal ?_) _
   try simp only [Act.put, qsaq, qszq, qssq]
   have hEn : EnAt a4 (headO o ++ (o.uses.take (k + 1)).flatMap useL) (.string (s ++ (texS u.module ++ numS u.key.toNat 8))) b2 := by
    refine ⟨_, rfl, ?_, (RR.out.trans rz).trans b2r⟩
    rw [flat_take_succ useL HX.out, ← List.append_assoc, bytes_app, bytes_app, SS.out]
    rfl
   have HEN := qh hEn
   clear hEn rz b1r b2r HC s1 s2
   go_wp2_with fail
   go_roundw
   case rel => exact ⟨k + 1, by omega, by go_num, HEN.out⟩
   case measure => simp [intOf]; omega
  ·have hkn : k = o.uses.length := by omega
   subst hkn
   have rq := R4.out.trans RR.out
   have d4 := RR.out.cellOf c4 (by simp)
   have d5 := RR.out.cellOf c5 (by simp)
   have d6 := RR.out.cellOf c6 (by simp)
   have d7 := RR.out.cellOf c7 (by simp)
   have d8 := RR.out.cellOf c8 (by simp)
   have hpq := HPK.out wr (HH.out.mod.wr0 (R1.out.trans rq))
   obtain ⟨pk, hpk⟩ : ∃ q : ByteArray, (⟨(packL o.mod).toArray⟩ : ByteArray) = q := ⟨_, rfl⟩
   rw [hpk] at hpq
   have hpl : pk.size ≤ 300000 := by
    rw [← hpk]
    exact packL_len (mod_ok OKM.out.mod)
   have hbo : (s ++ pk).data.toList = bodyL o := by
    rw [bytes_app, SS.out, ← hpk, body_eq]
   have HPQ := qh hpq
   have HBO := qh hbo
   have RQ := qh rq
   have s1 : ¬ 9223372036854775807 < s.size + pk.size := by omega
   have e1 : (s ++ pk).size = s.size + pk.size := ByteArray.size_append
   have hof := fun w => of_any (s ++ pk) (by rw [e1]; unfold maxLen; omega) w
   rw [keyL_nats hbo] at hof
   have hk8 := keyL_lt (bodyL o)
   have hnk := fun w => number_uint64 (keyL (bodyL o)) 8 hk8 (by decide) (by decide) w
   have hfe := file_eq hbo
   rw [HFL.out] at hfe
   obtain ⟨K, hK⟩ : ∃ q, keyL (bodyL o) = q := ⟨_, rfl⟩
   rw [hK] at hof hnk hfe
   have HOF := qh hof
   have HNK := qh hnk
   have HFE := qh hfe
   have s2 : ¬ 9223372036854775807 < 4 + 8 + (s.size + pk.size) := by omega
   clear c0 c3 c4 c5 c6 c7 c8 hpk hpq hbo rq e1 hof hk8 hnk hfe hK
   go_wp2_with fail
   refine HPQ.out.mono ?_
   rintro e w5 ⟨rfl, r5⟩
   go_wp2_with fail
   refine (HOF.out _).mono ?_
   rintro e w6 ⟨rfl, rfl⟩
   go_wp2_with fail
   refine (HNK.out _).mono ?_
   rintro e w7 ⟨rfl, r7⟩
   go_wp2_with fail
   go_ret2
   refine ⟨?_, ((ACC.out.trans R1.out).trans RQ.out).trans (r5.trans r7)⟩
   rw [← HFE.out]
   rfl
def OEncR (o : ObjD) (w : World) (e : Ending) (w' : World) : Prop := e = .returned (.tuple #[.string ⟨(encodeP o).1.toArray⟩, .int .i64 (encodeP o).2]) ∧ Wr [] w w'
theorem oenc_any (o : ObjD) (vu vp vi vn : Value) (P : Nat → Prop) (hW : objW o) (w : World) (h : ObjL w P vu vp vi vn o) : Calls Tryz.prog 10 #[o.val vu vp vi vn] w (OEncR o w) := by
 unfold OEncR encodeP
 cases hm : objB o with
 | false => exact oenc_no o vu vp vi vn P hm w h
 | true => exact oenc_yes o vu vp vi vn P hm hW w h
end Go.Proofs.YtildcdgobdfieaaGreat

namespace Go.Proofs.YtildcdgobdfieaaGreat
noncomputable def eqB {α : Type} (a b : α) : Bool := @decide (a = b) (Classical.propDecidable _)
theorem eqB_true {α : Type} {a b : α} (h : a = b) : eqB a b = true := by exact @decide_eq_true _ (Classical.propDecidable _) h
theorem eqB_false {α : Type} {a b : α} (h : a ≠ b) : eqB a b = false := by exact @decide_eq_false _ (Classical.propDecidable _) h
theorem eqB_iff {α : Type} {a b : α} : eqB a b = true ↔ a = b := by exact @decide_eq_true_iff _ (Classical.propDecidable _)
theorem str_ne {s t : ByteArray} (h : s ≠ t) : (s.toList == t.toList) = false := by
 rw [beq_eq_false_iff_ne]
 intro e
 apply h
 rw [ByteArray.toList_eq, ByteArray.toList_eq] at e
 obtain ⟨⟨l⟩⟩ := s
 obtain ⟨⟨m⟩⟩ := t
 simp at e
 rw [e]
theorem str_eq (s : ByteArray) : (s.toList == s.toList) = true := by simp
theorem same_next {α : Type} {l m : List α} {k : Nat} {x : α} (h : l.take k = m.take k) (hx : l[k]? = some x) (hy : m[k]? = some x) : l.take (k + 1) = m.take (k + 1) := by
 have h1 := (List.getElem?_eq_some_iff.1 hx).1
 have h2 := (List.getElem?_eq_some_iff.1 hy).1
 rw [List.take_succ_eq_append_getElem h1, List.take_succ_eq_append_getElem h2, h, (List.getElem?_eq_some_iff.1 hx).2, (List.getElem?_eq_some_iff.1 hy).2]
theorem ne_at {α : Type} {l m : List α} {k : Nat} {x y : α} (hx : l[k]? = some x) (hy : m[k]? = some y) (h : x ≠ y) : l ≠ m := fun e => by
 rw [e, hy] at hx
 injection hx with hx
 exact h hx.symm
theorem take_full {α : Type} {l m : List α} (hl : l.length = m.length) (h : l.take l.length = m.take l.length) : l = m := by
 rw [List.take_length, hl, List.take_length] at h
 exact h
end Go.Proofs.YtildcdgobdfieaaGreat
