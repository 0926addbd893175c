/- TypesProcs, walked. Conditions: its arguments are such as Go has; no more than twenty parameters. -/
import Derived.Test.YtcpgkeceefoljaaTyPg
import Derived.Deep.CutBlock
namespace Go.Proofs.Ytcpgkeceefoljaa
open Go.RowKit
set_option linter.unusedVariables false
set_option linter.unusedSimpArgs false
attribute [local go_sem ↓] Go.wp_at_zero Go.wp_at_succ

set_option maxRecDepth 100000 in
set_option maxHeartbeats 16000000 in
theorem procs_main (w : World) (A : Option Addr) (n c : Nat) (zs : List Int) (hcc : n ≤ c ∧ c ≤ maxLen) (hpc : ∀ i, i < n → ∃ bb off, A = some ⟨bb, off, none⟩ ∧ w.cell? ⟨bb, off + i, none⟩ = some (.int .u8 (zs.getD i 0))) (hzb : ∀ i, i < n → 0 ≤ zs.getD i 0 ∧ zs.getD i 0 ≤ 255)
    (o1 o2 : Int) (ho1 : 0 ≤ o1 ∧ o1 ≤ 255) (ho2 : 0 ≤ o2 ∧ o2 ≤ 255) (hn : n ≤ 20) :
    Calls Try.prog 3 #[.slice A n c, .int .u8 o1, .int .u8 o2] w fun e w' => e = .returned (.bool true) ∧ Wr [] w w' := by
  have HZ := Lib.hid hzb
  have HPC0 := Lib.hid hpc
  unfold maxLen at hcc
  have hn20 : ¬(n : Int) > 20 := by omega
  clear hzb hpc
  go_enter Try.func3, Try.ntmps3
  go_wp2_with fail
  refine (newN (Wr.refl [] w)).mono ?_
  rintro e w1 ⟨t, rfl, h1⟩
  have HT := Lib.hid (TabG.ofN h1)
  have acc := h1.wr
  have hpc : ∀ i, i < n → ∃ bb off, A = some ⟨bb, off, none⟩ ∧ bb < w1.heap.size ∧ w1.cell? ⟨bb, off + i, none⟩ = some (.int .u8 (zs.getD i 0)) := fun i hi => by
    obtain ⟨bb, off, e1, e2⟩ := HPC0.out i hi
    have e3 := acc.cellOf e2 (by simp)
    exact ⟨bb, off, e1, World.block_lt_of_cell? w1 _ e3, e3⟩
  have HPC := Lib.hid hpc
  have ACC := Lib.hid acc
  clear h1 HPC0 hpc acc
  go_wp2_with fail
  have at0 : PrAt w1 zs n w1.heap.size (.int .i64 0) (w1.alloc (.cells #[.int .u8 16, .string ⟨#[]⟩, .string ⟨#[]⟩, .int .i64 0, .int .i64 0, .int .i64 0, .int .i64 0, .slice none 0 0, .slice none 0 0, .slice none 0 0, .slice none 0 0, .int .i64 3] 31)) :=
    ⟨0, .slice none 0 0, by omega, rfl, (Wr.refl [] w1).alloc _, Blk.new w1 _ _, World.ownsRow_nil _ _ _ _⟩
  have AT0 := Lib.hid at0
  clear at0
  obtain ⟨h, hh⟩ : ∃ h, h = w1.heap.size := ⟨_, rfl⟩
  rw [← hh]
  rw [← hh] at AT0
  have hle : w1.heap.size ≤ h := by omega
  have HH := Lib.hid hh
  clear hh
  go_loopw [9] (fun s9 wr => PrAt w1 zs n h s9 wr) (fun s _ => n - (intOf s).toNat)
  case atStart => exact AT0.out
  case round =>
    obtain ⟨j, v, hj, rfl, hw, hbt, ho⟩ := hrel
    obtain ⟨Ao, co, hvo, _, _⟩ := Sl.form (P := fun _ => True) (Sl.ofOwn ho (fun _ _ => trivial))
    subst hvo
    have HW := Lib.hid hw
    have HBT := Lib.hid hbt
    have HO := Lib.hid ho
    have t10 := hbt.cell 10
    simp only [List.getElem?_toArray, List.getElem?_cons_zero, List.getElem?_cons_succ] at t10
    have zh := hbt.lt
    have zw := hw.size
    by_cases hlt : j < n
    · obtain ⟨bp, op, rfl, hpb, hpcell⟩ := HPC.out j hlt
      obtain ⟨p0, p1⟩ := HZ.out j hlt
      replace hpcell := hw.cellOf hpcell (by simp)
      obtain ⟨zz, hzz⟩ : ∃ zz, zz = zs.getD j 0 := ⟨_, rfl⟩
      rw [← hzz] at hpcell p0 p1
      have q1 : Int.tdiv zz 2 = zz / 2 := Int.tdiv_eq_ediv_of_nonneg p0
      have q2 : Int.tmod (zz / 2) 4 = zz / 2 % 4 := Int.tmod_eq_emod_of_nonneg (by omega)
      have q3 : IntKind.i64.wrap (zz / 2) = zz / 2 := by rw [IntKind.wrap_i64]; omega
      have q4 : IntKind.i64.wrap (1 + zz / 2 % 4) = 1 + zz / 2 % 4 := by rw [IntKind.wrap_i64]; omega
      have q5 : IntKind.u8.wrap (zz / 2) = zz / 2 := by rw [IntKind.wrap_u8]; omega
      have hi0 : (0 : Int) ≤ (j : Int) := by omega
      have hi1 : (j : Int) < (n : Int) := by omega
      have hpa : parU (zs.getD j 0) = ⟨bits .and .u8 zz 1 == 1, 1 + zz / 2 % 4⟩ := by rw [← hzz, parU]
      obtain ⟨v3, w3, hrun, ho3, r3, hat3⟩ := append_par (h + 1) _ j _ wr.drew HO.out.drew (parU (zs.getD j 0)) (by omega) (by show h + 1 ≤ wr.heap.size; omega)
      obtain ⟨g3, cap3, rfl, hcap3, hlt3⟩ := ho3.form (by omega)
      have hnown : ∀ y, y ≤ h → y ∉ ownL (Value.slice Ao j co) := fun y hy hm => by
        have := (HO.out.lt y (mem_ownL.1 hm)).1
        omega
      have hb3 := HBT.out.drew.wr r3 (hnown h (Nat.le_refl _))
      have a3 := hb3.cell 10
      have f3 := hb3.frozen 10
      have z3 := hb3.lt
      simp only [List.getElem?_toArray, List.getElem?_cons_zero, List.getElem?_cons_succ] at a3
      rw [hpa] at hrun
      simp only at hrun
      have HRUN := Lib.hid hrun
      have HB3 := Lib.hid hb3
      have HO3 := Lib.hid ho3
      have R3 := Lib.hid r3
      have HNO := Lib.hid hnown
      clear hrun hb3 ho3 r3 hnown hat3 hpa hzz hw hbt ho AT0
      go_wp2_with fail
      have hC : ∀ W, Wr (ownL (Value.slice Ao j co)) wr W → W.cell? ⟨h, 10, none⟩ = some (.slice Ao j co) ∧ W.cell? ⟨bp, op + j, none⟩ = some (.int .u8 zz) := fun W hW => ⟨hW.cellOf t10 (HNO.out h (Nat.le_refl _)), hW.cellOf hpcell (HNO.out bp (by omega))⟩
      have HC := Lib.hid hC
      clear hC
      refine wp_region_noPanic ?_
      refine wp_region_L (Until 20 fun w' => w'.cell? ⟨h, 10, none⟩ = some (.slice Ao j co) ∧ w'.cell? ⟨bp, op + j, none⟩ = some (.int .u8 zz)) (by kernel_rfl) (fun hcl => ?_)
      have hS : Until 20 (fun w' => w'.cell? ⟨h, 10, none⟩ = some (.slice Ao j co) ∧ w'.cell? ⟨bp, op + j, none⟩ = some (.int .u8 zz)) (Array.replicate 21 false) wr.drew := fun _ => ⟨t10, hpcell⟩
      refine wpAnyL_take (i := 0) (oi := ?oi1) (v := ?v1) ?hi1 (by kernel_rfl) (by kernel_rfl) (by kernel_rfl) (fun _ _ _ h => h) (until_take 20 _ (by decide)) ?hy1 hcl hS ?rest1
      case hi1 =>
        simp only [List.getElem?_toArray, List.getElem?_cons_succ, List.getElem?_cons_zero]
        rfl
      case hy1 =>
        refine yields_until (by kernel_rfl) (Or.inl ⟨by rfl, fun w' hS => ?_⟩)
        try go_split_ands
        go_simp
        try rfl
      case rest1 =>
      intro hcl1 hS1
      clear hcl hS
      try simp only [Act.put, List.setIfInBounds_toArray, List.set_cons_zero, List.set_cons_succ]
      refine wpAnyL_take (i := 1) (oi := ?oi2) (v := ?v2) ?hi2 (by kernel_rfl) (by kernel_rfl) (by kernel_rfl) (fun _ _ _ h => h) (until_take 20 _ (by decide)) ?hy2 hcl1 hS1 ?rest2
      case hi2 =>
        simp only [List.getElem?_toArray, List.getElem?_cons_succ, List.getElem?_cons_zero]
        rfl
      case hy2 =>
        refine yields_until (by kernel_rfl) (Or.inl ⟨by rfl, fun w' hS => ?_⟩)
        try go_split_ands
        go_simp
        try rfl
      case rest2 =>
      intro hcl2 hS2
      clear hcl1 hS1
      try simp only [Act.put, List.setIfInBounds_toArray, List.set_cons_zero, List.set_cons_succ]
      refine wpAnyL_take (i := 2) (oi := ?oi3) (v := ?v3) ?hi3 (by kernel_rfl) (by kernel_rfl) (by kernel_rfl) (fun _ _ _ h => h) (until_take 20 _ (by decide)) ?hy3 hcl2 hS2 ?rest3
      case hi3 =>
        simp only [List.getElem?_toArray, List.getElem?_cons_succ, List.getElem?_cons_zero]
        rfl
      case hy3 =>
        refine yields_until (by kernel_rfl) (Or.inl ⟨by rfl, fun w' hS => ?_⟩)
        try go_split_ands
        go_simp
        try rfl
      case rest3 =>
      intro hcl3 hS3
      clear hcl2 hS2
      try simp only [Act.put, List.setIfInBounds_toArray, List.set_cons_zero, List.set_cons_succ]
      refine wpAnyL_take (i := 3) (oi := ?oi4) (v := ?v4) ?hi4 (by kernel_rfl) (by kernel_rfl) (by kernel_rfl) (fun _ _ _ h => h) (until_take 20 _ (by decide)) ?hy4 hcl3 hS3 ?rest4
      case hi4 =>
        simp only [List.getElem?_toArray, List.getElem?_cons_succ, List.getElem?_cons_zero]
        rfl
      case hy4 =>
        refine yields_until (by kernel_rfl) (Or.inl ⟨by rfl, fun w' hS => ?_⟩)
        try go_split_ands
        go_simp
        try rfl
      case rest4 =>
      intro hcl4 hS4
      clear hcl3 hS3
      try simp only [Act.put, List.setIfInBounds_toArray, List.set_cons_zero, List.set_cons_succ]
      refine wpAnyL_take (i := 4) (oi := ?oi5) (v := ?v5) ?hi5 (by kernel_rfl) (by kernel_rfl) (by kernel_rfl) (fun _ _ _ h => h) (until_take 20 _ (by decide)) ?hy5 hcl4 hS4 ?rest5
      case hi5 =>
        simp only [List.getElem?_toArray, List.getElem?_cons_succ, List.getElem?_cons_zero]
        rfl
      case hy5 =>
        refine yields_until (by kernel_rfl) (Or.inl ⟨by rfl, fun w' hS => ?_⟩)
        try go_split_ands
        go_simp
        try rfl
      case rest5 =>
      intro hcl5 hS5
      clear hcl4 hS4
      try simp only [Act.put, List.setIfInBounds_toArray, List.set_cons_zero, List.set_cons_succ]
      refine wpAnyL_take (i := 5) (oi := ?oi6) (v := ?v6) ?hi6 (by kernel_rfl) (by kernel_rfl) (by kernel_rfl) (fun _ _ _ h => h) (until_take 20 _ (by decide)) ?hy6 hcl5 hS5 ?rest6
      case hi6 =>
        simp only [List.getElem?_toArray, List.getElem?_cons_succ, List.getElem?_cons_zero]
        rfl
      case hy6 =>
        refine yields_until (by kernel_rfl) (Or.inl ⟨by rfl, fun w' hS => ?_⟩)
        try go_split_ands
        go_simp
        try rfl
      case rest6 =>
      intro hcl6 hS6
      clear hcl5 hS5
      try simp only [Act.put, List.setIfInBounds_toArray, List.set_cons_zero, List.set_cons_succ]
      refine wpAnyL_take (i := 6) (oi := ?oi7) (v := ?v7) ?hi7 (by kernel_rfl) (by kernel_rfl) (by kernel_rfl) (fun _ _ _ h => h) (until_take 20 _ (by decide)) ?hy7 hcl6 hS6 ?rest7
      case hi7 =>
        simp only [List.getElem?_toArray, List.getElem?_cons_succ, List.getElem?_cons_zero]
        rfl
      case hy7 =>
        refine yields_until (by kernel_rfl) (Or.inl ⟨by rfl, fun w' hS => ?_⟩)
        try go_split_ands
        go_simp
        try rfl
      case rest7 =>
      intro hcl7 hS7
      clear hcl6 hS6
      try simp only [Act.put, List.setIfInBounds_toArray, List.set_cons_zero, List.set_cons_succ]
      refine wpAnyL_take (i := 7) (oi := ?oi8) (v := ?v8) ?hi8 (by kernel_rfl) (by kernel_rfl) (by kernel_rfl) (fun _ _ _ h => h) (until_take 20 _ (by decide)) ?hy8 hcl7 hS7 ?rest8
      case hi8 =>
        simp only [List.getElem?_toArray, List.getElem?_cons_succ, List.getElem?_cons_zero]
        rfl
      case hy8 =>
        refine yields_until (by kernel_rfl) (Or.inl ⟨by rfl, fun w' hS => ?_⟩)
        try go_split_ands
        go_simp
        try rfl
      case rest8 =>
      intro hcl8 hS8
      clear hcl7 hS7
      try simp only [Act.put, List.setIfInBounds_toArray, List.set_cons_zero, List.set_cons_succ]
      refine wpAnyL_take (i := 8) (oi := ?oi9) (v := ?v9) ?hi9 (by kernel_rfl) (by kernel_rfl) (by kernel_rfl) (fun _ _ _ h => h) (until_take 20 _ (by decide)) ?hy9 hcl8 hS8 ?rest9
      case hi9 =>
        simp only [List.getElem?_toArray, List.getElem?_cons_succ, List.getElem?_cons_zero]
        rfl
      case hy9 =>
        refine yields_until (by kernel_rfl) (Or.inl ⟨by rfl, fun w' hS => ?_⟩)
        try go_split_ands
        go_simp
        try rfl
      case rest9 =>
      intro hcl9 hS9
      clear hcl8 hS8
      try simp only [Act.put, List.setIfInBounds_toArray, List.set_cons_zero, List.set_cons_succ]
      refine wpAnyL_take (i := 9) (oi := ?oi10) (v := ?v10) ?hi10 (by kernel_rfl) (by kernel_rfl) (by kernel_rfl) (fun _ _ _ h => h) (until_take 20 _ (by decide)) ?hy10 hcl9 hS9 ?rest10
      case hi10 =>
        simp only [List.getElem?_toArray, List.getElem?_cons_succ, List.getElem?_cons_zero]
        rfl
      case hy10 =>
        refine yields_until (by kernel_rfl) (Or.inl ⟨by rfl, fun w' hS => ?_⟩)
        try go_split_ands
        go_simp
        try rfl
      case rest10 =>
      intro hcl10 hS10
      clear hcl9 hS9
      try simp only [Act.put, List.setIfInBounds_toArray, List.set_cons_zero, List.set_cons_succ]
      refine wpAnyL_take (i := 10) (oi := ?oi11) (v := ?v11) ?hi11 (by kernel_rfl) (by kernel_rfl) (by kernel_rfl) (fun _ _ _ h => h) (until_take 20 _ (by decide)) ?hy11 hcl10 hS10 ?rest11
      case hi11 =>
        simp only [List.getElem?_toArray, List.getElem?_cons_succ, List.getElem?_cons_zero]
        rfl
      case hy11 =>
        refine yields_until (by kernel_rfl) (Or.inl ⟨by rfl, fun w' hS => ?_⟩)
        try go_split_ands
        go_simp
        try rfl
      case rest11 =>
      intro hcl11 hS11
      clear hcl10 hS10
      try simp only [Act.put, List.setIfInBounds_toArray, List.set_cons_zero, List.set_cons_succ]
      refine wpAnyL_take (i := 11) (oi := ?oi12) (v := ?v12) ?hi12 (by kernel_rfl) (by kernel_rfl) (by kernel_rfl) (fun _ _ _ h => h) (until_take 20 _ (by decide)) ?hy12 hcl11 hS11 ?rest12
      case hi12 =>
        simp only [List.getElem?_toArray, List.getElem?_cons_succ, List.getElem?_cons_zero]
        rfl
      case hy12 =>
        refine yields_until (by kernel_rfl) (Or.inl ⟨by rfl, fun w' hS => ?_⟩)
        try go_split_ands
        go_simp
        try rfl
      case rest12 =>
      intro hcl12 hS12
      clear hcl11 hS11
      try simp only [Act.put, List.setIfInBounds_toArray, List.set_cons_zero, List.set_cons_succ]
      refine wpAnyL_take (i := 12) (oi := ?oi13) (v := ?v13) ?hi13 (by kernel_rfl) (by kernel_rfl) (by kernel_rfl) (fun _ _ _ h => h) (until_take 20 _ (by decide)) ?hy13 hcl12 hS12 ?rest13
      case hi13 =>
        simp only [List.getElem?_toArray, List.getElem?_cons_succ, List.getElem?_cons_zero]
        rfl
      case hy13 =>
        refine yields_until (by kernel_rfl) (Or.inl ⟨by rfl, fun w' hS => ?_⟩)
        try go_split_ands
        go_simp
        try rfl
      case rest13 =>
      intro hcl13 hS13
      clear hcl12 hS12
      try simp only [Act.put, List.setIfInBounds_toArray, List.set_cons_zero, List.set_cons_succ]
      refine wpAnyL_take (i := 13) (oi := ?oi14) (v := ?v14) ?hi14 (by kernel_rfl) (by kernel_rfl) (by kernel_rfl) (fun _ _ _ h => h) (until_take 20 _ (by decide)) ?hy14 hcl13 hS13 ?rest14
      case hi14 =>
        simp only [List.getElem?_toArray, List.getElem?_cons_succ, List.getElem?_cons_zero]
        rfl
      case hy14 =>
        refine yields_until (by kernel_rfl) (Or.inl ⟨by rfl, fun w' hS => ?_⟩)
        try go_split_ands
        go_simp
        try rfl
      case rest14 =>
      intro hcl14 hS14
      clear hcl13 hS13
      try simp only [Act.put, List.setIfInBounds_toArray, List.set_cons_zero, List.set_cons_succ]
      refine wpAnyL_take (i := 14) (oi := ?oi15) (v := ?v15) ?hi15 (by kernel_rfl) (by kernel_rfl) (by kernel_rfl) (fun _ _ _ h => h) (until_take 20 _ (by decide)) ?hy15 hcl14 hS14 ?rest15
      case hi15 =>
        simp only [List.getElem?_toArray, List.getElem?_cons_succ, List.getElem?_cons_zero]
        rfl
      case hy15 =>
        refine yields_until (by kernel_rfl) (Or.inl ⟨by rfl, fun w' hS => ?_⟩)
        try go_split_ands
        go_simp
        try rfl
      case rest15 =>
      intro hcl15 hS15
      clear hcl14 hS14
      try simp only [Act.put, List.setIfInBounds_toArray, List.set_cons_zero, List.set_cons_succ]
      refine wpAnyL_take (i := 15) (oi := ?oi16) (v := ?v16) ?hi16 (by kernel_rfl) (by kernel_rfl) (by kernel_rfl) (fun _ _ _ h => h) (until_take 20 _ (by decide)) ?hy16 hcl15 hS15 ?rest16
      case hi16 =>
        simp only [List.getElem?_toArray, List.getElem?_cons_succ, List.getElem?_cons_zero]
        rfl
      case hy16 =>
        refine yields_until (by kernel_rfl) (Or.inl ⟨by rfl, fun w' hS => ?_⟩)
        try go_split_ands
        go_simp
        try rfl
      case rest16 =>
      intro hcl16 hS16
      clear hcl15 hS15
      try simp only [Act.put, List.setIfInBounds_toArray, List.set_cons_zero, List.set_cons_succ]
      refine wpAnyL_take (i := 16) (oi := ?oi17) (v := ?v17) ?hi17 (by kernel_rfl) (by kernel_rfl) (by kernel_rfl) (fun _ _ _ h => h) (until_take 20 _ (by decide)) ?hy17 hcl16 hS16 ?rest17
      case hi17 =>
        simp only [List.getElem?_toArray, List.getElem?_cons_succ, List.getElem?_cons_zero]
        rfl
      case hy17 =>
        refine yields_until (by kernel_rfl) (Or.inl ⟨by rfl, fun w' hS => ?_⟩)
        try go_split_ands
        go_simp
        try rfl
      case rest17 =>
      intro hcl17 hS17
      clear hcl16 hS16
      try simp only [Act.put, List.setIfInBounds_toArray, List.set_cons_zero, List.set_cons_succ]
      refine wpAnyL_step (i := 17) (o := ?oi18) ?hi18 (by kernel_rfl) hcl17 ?rest18
      case hi18 =>
        simp only [List.getElem?_toArray, List.getElem?_cons_succ, List.getElem?_cons_zero]
        rfl
      case rest18 =>
      intro K hK
      go_simp
      refine hK _ _ (fun _ => HC.out _ (((Wr.refl _ wr).alloc _).drew)) (fun hcl18 => ?_)
      clear hK K hcl17 hS17
      try simp only [Act.put, List.setIfInBounds_toArray, List.set_cons_zero, List.set_cons_succ]
      refine wpAnyL_step (i := 18) (o := ?oi19) ?hi19 (by kernel_rfl) hcl18 ?rest19
      case hi19 =>
        simp only [List.getElem?_toArray, List.getElem?_cons_succ, List.getElem?_cons_zero]
        rfl
      case rest19 =>
      intro K hK
      refine step_append_run (by rfl) _ _ _ (by rfl) _ _ (by rfl) (by rfl) _ _ HRUN.out ?_
      refine hK _ _ (fun _ => HC.out _ ((Wr.refl _ wr).drew.trans R3.out)) (fun hcl19 => ?_)
      clear hK K hcl18
      try simp only [Act.put, List.setIfInBounds_toArray, List.set_cons_zero, List.set_cons_succ]
      refine wpAnyL_take (i := 19) (oi := ?oi20) (v := ?v20) ?hi20 (by kernel_rfl) (by kernel_rfl) (by kernel_rfl) (fun _ _ _ h => h) (until_take 20 _ (by decide)) ?hy20 hcl19 (fun _ => HC.out _ ((Wr.refl _ wr).drew.trans R3.out)) ?rest20
      case hi20 =>
        simp only [List.getElem?_toArray, List.getElem?_cons_succ, List.getElem?_cons_zero]
        rfl
      case hy20 =>
        refine yields_until (by kernel_rfl) (Or.inl ⟨by rfl, fun w' hS => ?_⟩)
        try go_split_ands
        go_simp
        try rfl
      case rest20 =>
      intro hcl20 hS20
      clear hcl19
      try simp only [Act.put, List.setIfInBounds_toArray, List.set_cons_zero, List.set_cons_succ]
      refine wpAnyL_step (i := 20) (o := ?oi21) ?hi21 (by kernel_rfl) hcl20 ?rest21
      case hi21 =>
        simp only [List.getElem?_toArray, List.getElem?_cons_succ, List.getElem?_cons_zero]
        rfl
      case rest21 =>
      intro K hK
      go_simp
      refine hK _ _ (fun hb => absurd hb (by decide)) (fun hcl999 => ?_)
      clear hK K hcl20 hS20
      refine wpAnyL_done (by kernel_rfl) (NoPanic.normal ?_) _
      try simp only [Act.put, List.setIfInBounds_toArray, List.set_cons_zero, List.set_cons_succ]

      all_goals
        go_wp2_with fail
        go_roundw
        case rel =>
          have hset := (HB3.out.set_ 10 (.slice (some ⟨g3, 0, none⟩) (j + 1) cap3))
          have hWs : Wr [h] w3 (w3.setCell ⟨h, 10, none⟩ (.slice (some ⟨g3, 0, none⟩) (j + 1) cap3)) := (Wr.refl _ _).setOn (by simp) _
          have hR : Wr (h :: ownL (Value.slice Ao j co)) wr (w3.setCell ⟨h, 10, none⟩ (.slice (some ⟨g3, 0, none⟩) (j + 1) cap3)) :=
            ((Wr.refl _ wr).drew.trans (R3.out.more (fun y hy => List.mem_cons_of_mem _ hy))).setOn (by simp) _
          refine ⟨j + 1, _, by omega, by go_num, HW.out.trans' hR (fun y hy => .inr ?_), hset, ?_⟩
          · rcases List.mem_cons.1 hy with e | e
            · omega
            · have := (HO.out.lt y (mem_ownL.1 e)).1
              omega
          · rw [parsU_succ, List.flatMap_append]
            simp only [List.flatMap_cons, List.flatMap_nil, List.append_nil]
            exact ownsRow_wr HO3.out hWs (fun y hy hm => by
              rw [List.mem_singleton] at hm
              have := (HO3.out.lt y hy).1
              omega)
        case measure => simp [intOf]; omega
    · have hjn : j = n := by omega
      subst hjn
      clear HPC HZ AT0 t10 hlt
      unfold maxLen at *
      have t0 := HBT.out.cell 0
      have t1 := HBT.out.cell 1
      have t2 := HBT.out.cell 2
      have t3 := HBT.out.cell 3
      have t4 := HBT.out.cell 4
      have t5 := HBT.out.cell 5
      have t6 := HBT.out.cell 6
      have t7 := HBT.out.cell 7
      have t8 := HBT.out.cell 8
      have t9 := HBT.out.cell 9
      have t10 := HBT.out.cell 10
      have t11 := HBT.out.cell 11
      simp only [List.getElem?_toArray, List.getElem?_cons_zero, List.getElem?_cons_succ] at t0 t1 t2 t3 t4 t5 t6 t7 t8 t9 t10 t11
      have hlen := parsU_len zs j
      have ne10 := World.new_ne wr _ t10
      obtain ⟨Ay, cy, W2, hrun1, rr1, b1, oy, ly1, ly2⟩ := copy_pars wr Ao co j (parsU zs j) hlen (by omega) (h + 1) HO.out #[.int .u8 16, .string ⟨#[]⟩, .string ⟨#[]⟩, .int .i64 0, .int .i64 0, .int .i64 0, .int .i64 0, .slice none 0 0, .slice none 0 0, .slice none 0 0, .slice Ao j co, .int .i64 3]
      have HRUN1 := Lib.hid hrun1
      have c10 := b1.cell 10
      have f10 := b1.frozen 10
      simp only [List.getElem?_toArray, List.getElem?_cons_zero, List.getElem?_cons_succ] at c10
      clear hrun1 hw ho
      go_upto_region 11 with (at_builtin; refine wpList_append_run rfl _ _ _ rfl _ _ rfl rfl _ _ HRUN1.out ?_)
      obtain ⟨g2, hg2⟩ : ∃ g2, wr.heap.size = g2 := ⟨_, rfl⟩
      rw [hg2] at b1 oy c10 f10 zh zw
      rw [hg2]
      obtain ⟨W3, hW3⟩ : ∃ W3, W2.setCell ⟨g2, 10, none⟩ (.slice Ay j cy) = W3 := ⟨_, rfl⟩
      have hWs1 : Wr [g2] W2 W3 := by rw [← hW3]; exact (Wr.refl _ _).setOn (by simp) _
      have by3 : Blk W3 g2 31 #[.int .u8 16, .string ⟨#[]⟩, .string ⟨#[]⟩, .int .i64 0, .int .i64 0, .int .i64 0, .int .i64 0, .slice none 0 0, .slice none 0 0, .slice none 0 0, .slice Ay j cy, .int .i64 3] := by rw [← hW3]; exact set_ten b1
      have bx3 : Blk W3 h 31 #[.int .u8 16, .string ⟨#[]⟩, .string ⟨#[]⟩, .int .i64 0, .int .i64 0, .int .i64 0, .int .i64 0, .slice none 0 0, .slice none 0 0, .slice none 0 0, .slice Ao j co, .int .i64 3] := (HBT.out.wr0 rr1).wr hWs1 (by simp; omega)
      have ox3 : W3.ownsRow (h + 1) 33 2 (.slice Ao j co) j ((parsU zs j).flatMap Par.cells) := ownsRow_wr (ownsRow_wr HO.out rr1 (by simp)) hWs1 (fun k hk hm => by
        rw [List.mem_singleton] at hm
        have := (HO.out.lt k hk).2
        omega)
      have oy3 : W3.ownsRow (g2 + 1) 33 2 (.slice Ay j cy) j ((parsU zs j).flatMap Par.cells) := ownsRow_wr oy hWs1 (fun k hk hm => by
        rw [List.mem_singleton] at hm
        have := (oy.lt k hk).1
        omega)
      have kx3 : ∀ k, (Value.slice Ao j co).ownBlock = some k → k < g2 := fun k hk => by
        have := (HO.out.lt k hk).2
        omega
      have acc3 : Wr [] w1 W3 := (HW.out.trans rr1).new hWs1 (by omega)
      rw [hW3]
      clear hW3 hWs1 b1 oy rr1 HRUN1 c10 f10 ne10 HO HBT HW t0 t1 t2 t3 t4 t5 t6 t7 t8 t9 t10 t11
      have BX := Lib.hid bx3
      have BY := Lib.hid by3
      have OX := Lib.hid ox3
      have OY := Lib.hid oy3
      have AC := Lib.hid acc3
      have KX := Lib.hid kx3
      have t0 := by3.cell 0
      have t1 := by3.cell 1
      have t2 := by3.cell 2
      have t3 := by3.cell 3
      have t4 := by3.cell 4
      have t5 := by3.cell 5
      have t6 := by3.cell 6
      have t7 := by3.cell 7
      have t8 := by3.cell 8
      have t9 := by3.cell 9
      have t10 := by3.cell 10
      have t11 := by3.cell 11
      simp only [List.getElem?_toArray, List.getElem?_cons_zero, List.getElem?_cons_succ] at t0 t1 t2 t3 t4 t5 t6 t7 t8 t9 t10 t11
      have x10 := bx3.cell 10
      simp only [List.getElem?_toArray, List.getElem?_cons_zero, List.getElem?_cons_succ] at x10
      have ne10 := World.new_ne W3 _ x10
      obtain ⟨Az, cz, W5, hrun2, rr2, b2, oz, lz1, lz2⟩ := copy_pars W3 Ao co j (parsU zs j) hlen (by omega) (h + 1) OX.out #[.int .u8 16, .string ⟨#[]⟩, .string ⟨#[]⟩, .int .i64 0, .int .i64 0, .int .i64 0, .int .i64 0, .slice none 0 0, .slice none 0 0, .slice none 0 0, .slice Ay j cy, .int .i64 3]
      have HRUN2 := Lib.hid hrun2
      have c10 := b2.cell 10
      have f10 := b2.frozen 10
      have zg2 := by3.lt
      simp only [List.getElem?_toArray, List.getElem?_cons_zero, List.getElem?_cons_succ] at c10
      have zx3 : h < W3.heap.size := by omega
      have L10 := fun o => ((Wr.refl [] W3).alloc o).cellOf x10 (by simp)
      clear hrun2 bx3 by3 ox3 oy3 acc3 ne10 kx3
      go_upto_block 2 with (at_builtin; refine wpList_append_run rfl _ _ _ rfl _ _ rfl rfl _ _ HRUN2.out ?_)
      obtain ⟨g3, hg3⟩ : ∃ g3, W3.heap.size = g3 := ⟨_, rfl⟩
      rw [hg3] at b2 oz c10 f10 zg2
      rw [hg3]
      obtain ⟨W6, hW6⟩ : ∃ W6, W5.setCell ⟨g3, 10, none⟩ (.slice Az j cz) = W6 := ⟨_, rfl⟩
      have hWs2 : Wr [g3] W5 W6 := by rw [← hW6]; exact (Wr.refl _ _).setOn (by simp) _
      have bz6 : Blk W6 g3 31 #[.int .u8 16, .string ⟨#[]⟩, .string ⟨#[]⟩, .int .i64 0, .int .i64 0, .int .i64 0, .int .i64 0, .slice none 0 0, .slice none 0 0, .slice none 0 0, .slice Az j cz, .int .i64 3] := by rw [← hW6]; exact set_ten b2
      have bx6 : Blk W6 h 31 #[.int .u8 16, .string ⟨#[]⟩, .string ⟨#[]⟩, .int .i64 0, .int .i64 0, .int .i64 0, .int .i64 0, .slice none 0 0, .slice none 0 0, .slice none 0 0, .slice Ao j co, .int .i64 3] := (BX.out.wr0 rr2).wr hWs2 (by simp; omega)
      have by6 : Blk W6 g2 31 #[.int .u8 16, .string ⟨#[]⟩, .string ⟨#[]⟩, .int .i64 0, .int .i64 0, .int .i64 0, .int .i64 0, .slice none 0 0, .slice none 0 0, .slice none 0 0, .slice Ay j cy, .int .i64 3] := (BY.out.wr0 rr2).wr hWs2 (by simp; omega)
      have kx : ∀ k, (Value.slice Ao j co).ownBlock = some k → k < g2 := fun k hk => KX.out k hk
      have ky : ∀ k, (Value.slice Ay j cy).ownBlock = some k → k < g3 := fun k hk => by
        have := (OY.out.lt k hk).2
        omega
      have ox6 : W6.ownsRow (h + 1) 33 2 (.slice Ao j co) j ((parsU zs j).flatMap Par.cells) := ownsRow_wr (ownsRow_wr OX.out rr2 (by simp)) hWs2 (fun k hk hm => by
        rw [List.mem_singleton] at hm
        have := kx k hk
        omega)
      have oy6 : W6.ownsRow (g2 + 1) 33 2 (.slice Ay j cy) j ((parsU zs j).flatMap Par.cells) := ownsRow_wr (ownsRow_wr OY.out rr2 (by simp)) hWs2 (fun k hk hm => by
        rw [List.mem_singleton] at hm
        have := ky k hk
        omega)
      have oz6 : W6.ownsRow (g3 + 1) 33 2 (.slice Az j cz) j ((parsU zs j).flatMap Par.cells) := ownsRow_wr oz hWs2 (fun k hk hm => by
        rw [List.mem_singleton] at hm
        have := (oz.lt k hk).1
        omega)
      have acc6 : Wr [] w1 W6 := (AC.out.trans rr2).new hWs2 (by omega)
      have sz6 := bz6.lt
      rw [hW6]
      clear hW6 hWs2 b2 oz rr2 HRUN2 c10 f10 L10 x10 BX BY OX OY AC hg2 hg3 zx3 t0 t1 t2 t3 t4 t5 t6 t7 t8 t9 t10 t11
      have BX := Lib.hid bx6
      have BY := Lib.hid by6
      have BZ := Lib.hid bz6
      have OX := Lib.hid ox6
      have OY := Lib.hid oy6
      have OZ := Lib.hid oz6
      have AC := Lib.hid acc6
      have KY := Lib.hid ky
      have hp14 := parsU_14 zs j
      generalize parsU zs j = ps at *
      clear bx6 by6 bz6 ox6 oy6 oz6 acc6 kx ky
      go_cut [11] (fun s11 wx => PrCut w1 ps j h g2 g3 (.slice Ao j co) (.slice Ay j cy) s11 wx)
      case first =>
        obtain ⟨oa, ob⟩ := ho2
        have hm4 : o2.tmod 4 = o2 % 4 := Int.tmod_eq_emod_of_nonneg oa
        have hmod : o2 % 4 = 0 ∨ o2 % 4 = 1 ∨ o2 % 4 = 2 ∨ o2 % 4 = 3 := by omega
        rcases hmod with hm | hm | hm | hm
        · rw [hm] at hm4
          have c11 := BZ.out.cell 11
          have f11 := BZ.out.frozen 11
          simp only [List.getElem?_toArray, List.getElem?_cons_zero, List.getElem?_cons_succ] at c11
          go_wp2_with fail
          go_meet
          have hWs : Wr [g3] W6 (W6.setCell ⟨g3, 11, none⟩ (.int .i64 0)) := (Wr.refl _ _).setOn (by simp) _
          refine ⟨ps, 0, .slice Az j cz, ownL (.slice Az j cz), rfl, AC.out.new hWs (by omega), BX.out.wr hWs (by simp; omega), BY.out.wr hWs (by simp; omega), ?_, ownsRow_wr OX.out hWs (fun k hk hm => ?_), KX.out, ownsRow_wr OY.out hWs (fun k hk hm => ?_), KY.out, ?_, fun b hb => ?_, hp14, by omega, by simp⟩
          · have := BZ.out.set_ 11 (.int .i64 0)
            simpa using this
          · rw [List.mem_singleton] at hm
            have := KX.out k hk
            omega
          · rw [List.mem_singleton] at hm
            have := KY.out k hk
            omega
          · have := Sl.keep (Sl.ofOwn OZ.out (fun b hb => mem_ownL.2 hb) : Sl W6 (fun b => b ∈ ownL (.slice Az j cz)) 2 _ j _) hWs (fun b hb hm => by
              rw [List.mem_singleton] at hm
              have := (OZ.out.lt b (mem_ownL.1 hb)).1
              omega)
            unfold SlPars
            rw [hlen]
            exact this
          · have := OZ.out.lt b (mem_ownL.1 hb)
            simp
            omega
        · rw [hm] at hm4
          have c10 := BZ.out.cell 10
          simp only [List.getElem?_toArray, List.getElem?_cons_zero, List.getElem?_cons_succ] at c10
          obtain ⟨v3, w3, hrun, ho3, r3, _⟩ := append_par (g3 + 1) _ j _ W6 OZ.out ⟨false, 1⟩ (by omega) (by omega)
          simp only at hrun
          obtain ⟨gz, cap3, rfl, hcap3, hlt3⟩ := ho3.form (by omega)
          have nz : ∀ y, y ≤ g3 → y ∉ ownL (.slice Az j cz) := fun y hy hmm => by
            have := (OZ.out.lt y (mem_ownL.1 hmm)).1
            omega
          have b3 := BZ.out.wr r3 (nz g3 (Nat.le_refl _))
          have d10 := b3.cell 10
          have f10 := b3.frozen 10
          simp only [List.getElem?_toArray, List.getElem?_cons_zero, List.getElem?_cons_succ] at d10
          have HB3 := Lib.hid b3
          have R3 := Lib.hid r3
          have HO3 := Lib.hid ho3
          have HRUN3 := Lib.hid hrun
          have HNZ := Lib.hid nz
          clear b3 r3 ho3 hrun nz
          go_wp2_with (at_builtin; refine wpList_append_run rfl _ _ _ rfl _ _ rfl rfl _ _ HRUN3.out ?_)
          go_meet
          have hWs : Wr [g3] w3 (w3.setCell ⟨g3, 10, none⟩ (.slice (some ⟨gz, 0, none⟩) (j + 1) cap3)) := (Wr.refl _ _).setOn (by simp) _
          have hR : Wr (g3 :: ownL (.slice Az j cz)) W6 (w3.setCell ⟨g3, 10, none⟩ (.slice (some ⟨gz, 0, none⟩) (j + 1) cap3)) :=
            (R3.out.more (fun y hy => List.mem_cons_of_mem _ hy)).setOn (by simp) _
          have hsm : ∀ y, y < g3 → y ∉ g3 :: ownL (.slice Az j cz) := fun y hy hmm => by
            rcases List.mem_cons.1 hmm with e | e
            · omega
            · exact HNZ.out y (by omega) e
          have ho4 := ownsRow_wr HO3.out hWs (fun y hy hmm => by
            rw [List.mem_singleton] at hmm
            have := (HO3.out.lt y hy).1
            omega)
          refine ⟨ps ++ [⟨false, 1⟩], 3, .slice (some ⟨gz, 0, none⟩) (j + 1) cap3, [gz], rfl, AC.out.trans' hR (fun y hy => .inr ?_), BX.out.wr hR (hsm _ (by omega)), BY.out.wr hR (hsm _ (by omega)), set_ten HB3.out, ownsRow_wr OX.out hR (fun k hk => hsm k ?_), KX.out, ownsRow_wr OY.out hR (fun k hk => hsm k (KY.out k hk)), KY.out, ?_, fun b hb => ?_, ?_, ?_, ?_⟩
          · rcases List.mem_cons.1 hy with e | e
            · omega
            · have := (OZ.out.lt y (mem_ownL.1 e)).1
              omega
          · have := KX.out k hk
            omega
          · have := (Sl.ofOwn ho4 (fun b hb => (by simp only [Value.ownBlock, Option.some.injEq] at hb; simp [← hb]) : ∀ b, (Value.slice (some ⟨gz, 0, none⟩) (j + 1) cap3).ownBlock = some b → b ∈ [gz]) : Sl _ (fun b => b ∈ [gz]) 2 _ (j + 1) _)
            unfold SlPars
            rw [List.length_append, hlen, List.flatMap_append]
            simpa using this
          · rw [List.mem_singleton] at hb
            subst hb
            simp
            omega
          · intro q hq
            rcases List.mem_append.1 hq with e | e
            · exact hp14 q e
            · rw [List.mem_singleton] at e
              subst e
              simp
          · rw [List.length_append, hlen]
            simp
            omega
          · rintro ⟨_, e⟩
            have := congrArg List.length e
            simp at this
        · by_cases hj0 : j = 0
          · rw [hm] at hm4
            have hj1 : ((j : Int) == 0) = true := by simp [hj0]
            clear hj0
            have c10 := BZ.out.cell 10
            simp only [List.getElem?_toArray, List.getElem?_cons_zero, List.getElem?_cons_succ] at c10
            obtain ⟨v3, w3, hrun, ho3, r3, _⟩ := append_par (g3 + 1) _ j _ W6 OZ.out ⟨false, 1⟩ (by omega) (by omega)
            simp only at hrun
            obtain ⟨gz, cap3, rfl, hcap3, hlt3⟩ := ho3.form (by omega)
            have nz : ∀ y, y ≤ g3 → y ∉ ownL (.slice Az j cz) := fun y hy hmm => by
              have := (OZ.out.lt y (mem_ownL.1 hmm)).1
              omega
            have b3 := BZ.out.wr r3 (nz g3 (Nat.le_refl _))
            have d10 := b3.cell 10
            have f10 := b3.frozen 10
            simp only [List.getElem?_toArray, List.getElem?_cons_zero, List.getElem?_cons_succ] at d10
            have HB3 := Lib.hid b3
            have R3 := Lib.hid r3
            have HO3 := Lib.hid ho3
            have HRUN3 := Lib.hid hrun
            have HNZ := Lib.hid nz
            clear b3 r3 ho3 hrun nz
            go_wp2_with (at_builtin; refine wpList_append_run rfl _ _ _ rfl _ _ rfl rfl _ _ HRUN3.out ?_)
            go_meet
            have hWs : Wr [g3] w3 (w3.setCell ⟨g3, 10, none⟩ (.slice (some ⟨gz, 0, none⟩) (j + 1) cap3)) := (Wr.refl _ _).setOn (by simp) _
            have hR : Wr (g3 :: ownL (.slice Az j cz)) W6 (w3.setCell ⟨g3, 10, none⟩ (.slice (some ⟨gz, 0, none⟩) (j + 1) cap3)) :=
              (R3.out.more (fun y hy => List.mem_cons_of_mem _ hy)).setOn (by simp) _
            have hsm : ∀ y, y < g3 → y ∉ g3 :: ownL (.slice Az j cz) := fun y hy hmm => by
              rcases List.mem_cons.1 hmm with e | e
              · omega
              · exact HNZ.out y (by omega) e
            have ho4 := ownsRow_wr HO3.out hWs (fun y hy hmm => by
              rw [List.mem_singleton] at hmm
              have := (HO3.out.lt y hy).1
              omega)
            refine ⟨ps ++ [⟨false, 1⟩], 3, .slice (some ⟨gz, 0, none⟩) (j + 1) cap3, [gz], rfl, AC.out.trans' hR (fun y hy => .inr ?_), BX.out.wr hR (hsm _ (by omega)), BY.out.wr hR (hsm _ (by omega)), set_ten HB3.out, ownsRow_wr OX.out hR (fun k hk => hsm k ?_), KX.out, ownsRow_wr OY.out hR (fun k hk => hsm k (KY.out k hk)), KY.out, ?_, fun b hb => ?_, ?_, ?_, ?_⟩
            · rcases List.mem_cons.1 hy with e | e
              · omega
              · have := (OZ.out.lt y (mem_ownL.1 e)).1
                omega
            · have := KX.out k hk
              omega
            · have := (Sl.ofOwn ho4 (fun b hb => (by simp only [Value.ownBlock, Option.some.injEq] at hb; simp [← hb]) : ∀ b, (Value.slice (some ⟨gz, 0, none⟩) (j + 1) cap3).ownBlock = some b → b ∈ [gz]) : Sl _ (fun b => b ∈ [gz]) 2 _ (j + 1) _)
              unfold SlPars
              rw [List.length_append, hlen, List.flatMap_append]
              simpa using this
            · rw [List.mem_singleton] at hb
              subst hb
              simp
              omega
            · intro q hq
              rcases List.mem_append.1 hq with e | e
              · exact hp14 q e
              · rw [List.mem_singleton] at e
                subst e
                simp
            · rw [List.length_append, hlen]
              simp
              omega
            · rintro ⟨_, e⟩
              have := congrArg List.length e
              simp at this
          · rw [hm] at hm4
            have hj1 : ((j : Int) == 0) = false := by simp [hj0]
            have hj2 : ¬(j : Int) = 0 := by omega
            obtain ⟨pa, pb⟩ := ho1
            have hw1 : IntKind.i64.wrap o1 = o1 := by rw [IntKind.wrap_i64]; omega
            have hk : o1.toNat % j < j := Nat.mod_lt _ (by omega)
            have hkm : o1.tmod (j : Int) = ((o1.toNat % j : Nat) : Int) := by
              rw [Int.tmod_eq_emod_of_nonneg pa, Int.natCast_emod, Int.toNat_of_nonneg pa]
            generalize o1.toNat % j = k at hk hkm
            have hk0 : (0 : Int) ≤ (k : Int) := by omega
            have hk1 : (k : Int) < (j : Int) := by omega
            obtain ⟨gz, capz, hv, hgz, hgzl⟩ := OZ.out.form (by omega)
            simp only [Value.slice.injEq, true_and] at hv
            obtain ⟨rfl, rfl⟩ := hv
            obtain ⟨q, hq⟩ : ∃ q, ps[k]? = some q := ⟨ps[k]'(by omega), List.getElem?_eq_getElem (by omega)⟩
            have hq14 := hp14 q (List.mem_of_getElem? hq)
            obtain ⟨fa, fb⟩ := flat_at ps k q hq
            have SZ : Sl W6 (fun b => b ∈ [gz]) 2 (.slice (some ⟨gz, 0, none⟩) j cz) j (ps.flatMap Par.cells) := Sl.ofOwn OZ.out (fun b hb => by simp only [Value.ownBlock, Option.some.injEq] at hb; simp [← hb])
            have xx : ∀ i u, (ps.flatMap Par.cells)[i]? = some u → W6.cell? ⟨gz, i, none⟩ = some u := fun i u hi => by
              obtain ⟨A', c', hv', _, _, _, h4⟩ := SZ
              obtain ⟨b, off, e, _, hc⟩ := h4 i u hi
              simp only [Value.slice.injEq, true_and] at hv'
              obtain ⟨e1, _⟩ := hv'
              rw [← e1] at e
              simp only [Option.some.injEq, Addr.mk.injEq, and_true] at e
              obtain ⟨rfl, rfl⟩ := e
              simpa using hc
            have x0 := xx _ _ fa
            have x1 := xx _ _ fb
            have fz : ∀ i, W6.frozen? ⟨gz, i, none⟩ = false := fun i => own_soft OZ.out rfl i
            have z0 := fz (k * 2)
            have z1 := fz (k * 2 + 1)
            have c10 := BZ.out.cell 10
            simp only [List.getElem?_toArray, List.getElem?_cons_zero, List.getElem?_cons_succ] at c10
            have L10 := fun o => ((Wr.refl [] W6).alloc o).cellOf c10 (by simp)
            have L0 := fun o => ((Wr.refl [] W6).alloc o).cellOf x0 (by simp)
            have L1 := fun o => ((Wr.refl [] W6).alloc o).cellOf x1 (by simp)
            have M0 := fun o => ((Wr.refl [] W6).alloc o).frozenOf x0 z0 (by simp)
            have M1 := fun o => ((Wr.refl [] W6).alloc o).frozenOf x1 z1 (by simp)
            have HSZ := Lib.hid SZ
            clear SZ xx fz fa fb hm hj0
            go_wp2_with fail
            go_meet
            have hgn : g3 < gz := by omega
            have hWs : Wr [gz] W6 (((W6.setCell ⟨gz, k * 2, none⟩ (.bool (!q.var))).setCell ⟨gz, k * 2 + 1, none⟩ (.int .i64 q.type)).alloc (.cells #[.bool (!q.var), .int .i64 q.type] 33)) := (((Wr.refl [gz] W6).setOn (by simp) _).setOn (by simp) _).alloc _
            refine ⟨ps.set k ⟨!q.var, q.type⟩, 3, .slice (some ⟨gz, 0, none⟩) j cz, [gz], rfl, AC.out.new hWs (by omega), BX.out.wr hWs (by simp; omega), BY.out.wr hWs (by simp; omega), BZ.out.wr hWs (by simp; omega), ownsRow_wr OX.out hWs (fun y hy hm => ?_), KX.out, ownsRow_wr OY.out hWs (fun y hy hm => ?_), KY.out, ?_, fun b hb => ?_, ?_, ?_, ?_⟩
            · rw [List.mem_singleton] at hm
              have := KX.out y hy
              omega
            · rw [List.mem_singleton] at hm
              have := KY.out y hy
              omega
            · have hL : (ps.flatMap Par.cells).length = j * 2 := by rw [flat_len2, hlen]
              have s1 := Sl.put HSZ.out (k * 2) (.bool (!q.var)) (by omega)
              have s2 := Sl.put s1 (k * 2 + 1) (.int .i64 q.type) (by rw [List.length_set]; omega)
              simp only [Nat.zero_add] at s2
              unfold SlPars
              rw [List.length_set, hlen, flat_set _ ps k (by omega)]
              exact Sl.wr0 s2 ((Wr.refl [] _).alloc _)
            · rw [List.mem_singleton] at hb
              subst hb
              simp
              omega
            · intro y hy
              rcases List.mem_or_eq_of_mem_set hy with e | e
              · exact hp14 y e
              · subst e
                simp only
                omega
            · rw [List.length_set]
              omega
            · rintro ⟨_, e⟩
              have h2 := congrArg (fun l => l[k]?) e
              simp only [List.getElem?_set, hlen, hk, if_true, hq, Option.some.injEq] at h2
              have h3 := congrArg Par.var h2
              simp only at h3
              cases hqv : q.var <;> simp [hqv] at h3
        · by_cases hj0 : j = 0
          · rw [hm] at hm4
            have hj1 : ((j : Int) == 0) = true := by simp [hj0]
            clear hj0
            have c10 := BZ.out.cell 10
            simp only [List.getElem?_toArray, List.getElem?_cons_zero, List.getElem?_cons_succ] at c10
            obtain ⟨v3, w3, hrun, ho3, r3, _⟩ := append_par (g3 + 1) _ j _ W6 OZ.out ⟨false, 1⟩ (by omega) (by omega)
            simp only at hrun
            obtain ⟨gz, cap3, rfl, hcap3, hlt3⟩ := ho3.form (by omega)
            have nz : ∀ y, y ≤ g3 → y ∉ ownL (.slice Az j cz) := fun y hy hmm => by
              have := (OZ.out.lt y (mem_ownL.1 hmm)).1
              omega
            have b3 := BZ.out.wr r3 (nz g3 (Nat.le_refl _))
            have d10 := b3.cell 10
            have f10 := b3.frozen 10
            simp only [List.getElem?_toArray, List.getElem?_cons_zero, List.getElem?_cons_succ] at d10
            have HB3 := Lib.hid b3
            have R3 := Lib.hid r3
            have HO3 := Lib.hid ho3
            have HRUN3 := Lib.hid hrun
            have HNZ := Lib.hid nz
            clear b3 r3 ho3 hrun nz
            go_wp2_with (at_builtin; refine wpList_append_run rfl _ _ _ rfl _ _ rfl rfl _ _ HRUN3.out ?_)
            go_meet
            have hWs : Wr [g3] w3 (w3.setCell ⟨g3, 10, none⟩ (.slice (some ⟨gz, 0, none⟩) (j + 1) cap3)) := (Wr.refl _ _).setOn (by simp) _
            have hR : Wr (g3 :: ownL (.slice Az j cz)) W6 (w3.setCell ⟨g3, 10, none⟩ (.slice (some ⟨gz, 0, none⟩) (j + 1) cap3)) :=
              (R3.out.more (fun y hy => List.mem_cons_of_mem _ hy)).setOn (by simp) _
            have hsm : ∀ y, y < g3 → y ∉ g3 :: ownL (.slice Az j cz) := fun y hy hmm => by
              rcases List.mem_cons.1 hmm with e | e
              · omega
              · exact HNZ.out y (by omega) e
            have ho4 := ownsRow_wr HO3.out hWs (fun y hy hmm => by
              rw [List.mem_singleton] at hmm
              have := (HO3.out.lt y hy).1
              omega)
            refine ⟨ps ++ [⟨false, 1⟩], 3, .slice (some ⟨gz, 0, none⟩) (j + 1) cap3, [gz], rfl, AC.out.trans' hR (fun y hy => .inr ?_), BX.out.wr hR (hsm _ (by omega)), BY.out.wr hR (hsm _ (by omega)), set_ten HB3.out, ownsRow_wr OX.out hR (fun k hk => hsm k ?_), KX.out, ownsRow_wr OY.out hR (fun k hk => hsm k (KY.out k hk)), KY.out, ?_, fun b hb => ?_, ?_, ?_, ?_⟩
            · rcases List.mem_cons.1 hy with e | e
              · omega
              · have := (OZ.out.lt y (mem_ownL.1 e)).1
                omega
            · have := KX.out k hk
              omega
            · have := (Sl.ofOwn ho4 (fun b hb => (by simp only [Value.ownBlock, Option.some.injEq] at hb; simp [← hb]) : ∀ b, (Value.slice (some ⟨gz, 0, none⟩) (j + 1) cap3).ownBlock = some b → b ∈ [gz]) : Sl _ (fun b => b ∈ [gz]) 2 _ (j + 1) _)
              unfold SlPars
              rw [List.length_append, hlen, List.flatMap_append]
              simpa using this
            · rw [List.mem_singleton] at hb
              subst hb
              simp
              omega
            · intro q hq
              rcases List.mem_append.1 hq with e | e
              · exact hp14 q e
              · rw [List.mem_singleton] at e
                subst e
                simp
            · rw [List.length_append, hlen]
              simp
              omega
            · rintro ⟨_, e⟩
              have := congrArg List.length e
              simp at this
          · rw [hm] at hm4
            have hj1 : ((j : Int) == 0) = false := by simp [hj0]
            have hj2 : ¬(j : Int) = 0 := by omega
            obtain ⟨pa, pb⟩ := ho1
            have hw1 : IntKind.i64.wrap o1 = o1 := by rw [IntKind.wrap_i64]; omega
            have hk : o1.toNat % j < j := Nat.mod_lt _ (by omega)
            have hkm : o1.tmod (j : Int) = ((o1.toNat % j : Nat) : Int) := by
              rw [Int.tmod_eq_emod_of_nonneg pa, Int.natCast_emod, Int.toNat_of_nonneg pa]
            generalize o1.toNat % j = k at hk hkm
            have hk0 : (0 : Int) ≤ (k : Int) := by omega
            have hk1 : (k : Int) < (j : Int) := by omega
            obtain ⟨gz, capz, hv, hgz, hgzl⟩ := OZ.out.form (by omega)
            simp only [Value.slice.injEq, true_and] at hv
            obtain ⟨rfl, rfl⟩ := hv
            obtain ⟨q, hq⟩ : ∃ q, ps[k]? = some q := ⟨ps[k]'(by omega), List.getElem?_eq_getElem (by omega)⟩
            have hq14 := hp14 q (List.mem_of_getElem? hq)
            obtain ⟨fa, fb⟩ := flat_at ps k q hq
            have SZ : Sl W6 (fun b => b ∈ [gz]) 2 (.slice (some ⟨gz, 0, none⟩) j cz) j (ps.flatMap Par.cells) := Sl.ofOwn OZ.out (fun b hb => by simp only [Value.ownBlock, Option.some.injEq] at hb; simp [← hb])
            have xx : ∀ i u, (ps.flatMap Par.cells)[i]? = some u → W6.cell? ⟨gz, i, none⟩ = some u := fun i u hi => by
              obtain ⟨A', c', hv', _, _, _, h4⟩ := SZ
              obtain ⟨b, off, e, _, hc⟩ := h4 i u hi
              simp only [Value.slice.injEq, true_and] at hv'
              obtain ⟨e1, _⟩ := hv'
              rw [← e1] at e
              simp only [Option.some.injEq, Addr.mk.injEq, and_true] at e
              obtain ⟨rfl, rfl⟩ := e
              simpa using hc
            have x0 := xx _ _ fa
            have x1 := xx _ _ fb
            have fz : ∀ i, W6.frozen? ⟨gz, i, none⟩ = false := fun i => own_soft OZ.out rfl i
            have z0 := fz (k * 2)
            have z1 := fz (k * 2 + 1)
            have c10 := BZ.out.cell 10
            simp only [List.getElem?_toArray, List.getElem?_cons_zero, List.getElem?_cons_succ] at c10
            have L10 := fun o => ((Wr.refl [] W6).alloc o).cellOf c10 (by simp)
            have L0 := fun o => ((Wr.refl [] W6).alloc o).cellOf x0 (by simp)
            have L1 := fun o => ((Wr.refl [] W6).alloc o).cellOf x1 (by simp)
            have M0 := fun o => ((Wr.refl [] W6).alloc o).frozenOf x0 z0 (by simp)
            have M1 := fun o => ((Wr.refl [] W6).alloc o).frozenOf x1 z1 (by simp)
            have t4 : q.type.tmod 4 = q.type % 4 := Int.tmod_eq_emod_of_nonneg (by omega)
            have t5 : IntKind.i64.wrap (1 + q.type % 4) = 1 + q.type % 4 := by rw [IntKind.wrap_i64]; omega
            have HSZ := Lib.hid SZ
            clear SZ xx fz fa fb hm hj0
            go_wp2_with fail
            go_meet
            have hgn : g3 < gz := by omega
            have hWs : Wr [gz] W6 (((W6.setCell ⟨gz, k * 2, none⟩ (.bool q.var)).setCell ⟨gz, k * 2 + 1, none⟩ (.int .i64 (1 + q.type % 4))).alloc (.cells #[.bool q.var, .int .i64 (1 + q.type % 4)] 33)) := (((Wr.refl [gz] W6).setOn (by simp) _).setOn (by simp) _).alloc _
            refine ⟨ps.set k ⟨q.var, 1 + q.type % 4⟩, 3, .slice (some ⟨gz, 0, none⟩) j cz, [gz], rfl, AC.out.new hWs (by omega), BX.out.wr hWs (by simp; omega), BY.out.wr hWs (by simp; omega), BZ.out.wr hWs (by simp; omega), ownsRow_wr OX.out hWs (fun y hy hm => ?_), KX.out, ownsRow_wr OY.out hWs (fun y hy hm => ?_), KY.out, ?_, fun b hb => ?_, ?_, ?_, ?_⟩
            · rw [List.mem_singleton] at hm
              have := KX.out y hy
              omega
            · rw [List.mem_singleton] at hm
              have := KY.out y hy
              omega
            · have hL : (ps.flatMap Par.cells).length = j * 2 := by rw [flat_len2, hlen]
              have s1 := Sl.put HSZ.out (k * 2) (.bool q.var) (by omega)
              have s2 := Sl.put s1 (k * 2 + 1) (.int .i64 (1 + q.type % 4)) (by rw [List.length_set]; omega)
              simp only [Nat.zero_add] at s2
              unfold SlPars
              rw [List.length_set, hlen, flat_set _ ps k (by omega)]
              exact Sl.wr0 s2 ((Wr.refl [] _).alloc _)
            · rw [List.mem_singleton] at hb
              subst hb
              simp
              omega
            · intro y hy
              rcases List.mem_or_eq_of_mem_set hy with e | e
              · exact hp14 y e
              · subst e
                simp only
                omega
            · rw [List.length_set]
              omega
            · rintro ⟨_, e⟩
              have h2 := congrArg (fun l => l[k]?) e
              simp only [List.getElem?_set, hlen, hk, if_true, hq, Option.some.injEq] at h2
              have h3 := congrArg Par.type h2
              simp only at h3
              omega
      case rest =>
        obtain ⟨zp, zr, vz, zl, rfl, acc, bx, by_, bz, ox, kx, oy, ky, sz, hzl, h14z, hlz, hne⟩ := hcut
        have hG : TabG w wc t tys0 (g2 :: g3 :: (ownL (.slice Ay j cy) ++ zl)) := HT.out.grow acc (fun x hx => by
          refine .inr ?_
          have l2 := by_.lt
          have l3 := bz.lt
          rcases List.mem_cons.1 hx with e | hx
          · omega
          rcases List.mem_cons.1 hx with e | hx
          · omega
          rcases List.mem_append.1 hx with hx | hx
          · have := oy.lt x (mem_ownL.1 hx)
            omega
          · have := hzl x hx
            omega)
        have s1 : SlPars wc (fun _ => True) (.slice Ao j co) ps := by
          have := (Sl.ofOwn ox (fun _ _ => trivial) : Sl wc (fun _ => True) 2 _ j _)
          unfold SlPars
          rw [hlen]
          exact this
        have s2 : SlPars wc (fun b => b ∈ (g2 :: g3 :: (ownL (.slice Ay j cy) ++ zl))) (.slice Ay j cy) ps := by
          have := (Sl.ofOwn oy (fun b hb => List.mem_cons_of_mem _ (List.mem_cons_of_mem _ (List.mem_append_left _ (mem_ownL.2 hb)))) : Sl wc (fun b => b ∈ (g2 :: g3 :: (ownL (.slice Ay j cy) ++ zl))) 2 _ j _)
          unfold SlPars
          rw [hlen]
          exact this
        have s3 : SlPars wc (fun b => b ∈ (g2 :: g3 :: (ownL (.slice Ay j cy) ++ zl))) vz zp := Sl.mono sz (fun b hb => List.mem_cons_of_mem _ (List.mem_cons_of_mem _ (List.mem_append_right _ hb)))
        have m2 : g2 ∈ (g2 :: g3 :: (ownL (.slice Ay j cy) ++ zl)) := by simp
        have m3 : g3 ∈ (g2 :: g3 :: (ownL (.slice Ay j cy) ++ zl)) := by simp
        generalize (g2 :: g3 :: (ownL (.slice Ay j cy) ++ zl)) = G at *
        have t0 := bx.cell 0
        have t1 := bx.cell 1
        have t2 := bx.cell 2
        have t3 := bx.cell 3
        have t4 := bx.cell 4
        have t5 := bx.cell 5
        have t6 := bx.cell 6
        have t7 := bx.cell 7
        have t8 := bx.cell 8
        have t9 := bx.cell 9
        have t10 := bx.cell 10
        have t11 := bx.cell 11
        simp only [List.getElem?_toArray, List.getElem?_cons_zero, List.getElem?_cons_succ] at t0 t1 t2 t3 t4 t5 t6 t7 t8 t9 t10 t11
        have HBY := Lib.hid by_
        have HBZ := Lib.hid bz
        have HS2 := Lib.hid s2
        have HS3 := Lib.hid s3
        clear bx by_ bz ox oy sz s2 s3 acc kx ky BX BY BZ OX OY OZ AC KX KY hzl
        go_wp2_with fail
        refine (addG hG (tyQ ps 3) (.slice none 0 0) (.slice none 0 0) (.slice none 0 0) (.slice Ao j co) (fun _ => True) ⟨Sl.nil _ _ 1, Sl.nil _ _ 3, SlArms.nil _ _, s1⟩ (by rfl) ⟨by simp [tyQ], by simp [tyQ], by simp [tyQ], by show ps.length ≤ _; omega, by simp [tyQ]⟩ 10 (by decide) (by decide)).mono ?_
        rintro e v1 ⟨rfl, T2, K1, z1⟩
        have by1 := K1.blk m2 HBY.out
        have bz1 := K1.blk m3 HBZ.out
        obtain ⟨kl, kr, kn⟩ := K1
        have s2 := Sl.keep HS2.out kr (fun b hb => kn b hb)
        have s3 := Sl.keep HS3.out kr (fun b hb => kn b hb)
        clear HBY HBZ HS2 HS3 kr kn hG t0 t1 t2 t3 t4 t5 t6 t7 t8 t9 t10 t11
        have t0 := by1.cell 0
        have t1 := by1.cell 1
        have t2 := by1.cell 2
        have t3 := by1.cell 3
        have t4 := by1.cell 4
        have t5 := by1.cell 5
        have t6 := by1.cell 6
        have t7 := by1.cell 7
        have t8 := by1.cell 8
        have t9 := by1.cell 9
        have t10 := by1.cell 10
        have t11 := by1.cell 11
        simp only [List.getElem?_toArray, List.getElem?_cons_zero, List.getElem?_cons_succ] at t0 t1 t2 t3 t4 t5 t6 t7 t8 t9 t10 t11
        have HBZ := Lib.hid bz1
        have HS3 := Lib.hid s3
        clear by1 bz1 s3
        go_wp2_with fail
        refine (addG T2 (tyQ ps 3) (.slice none 0 0) (.slice none 0 0) (.slice none 0 0) (.slice Ay j cy) (fun b => b ∈ G) ⟨Sl.nil _ _ 1, Sl.nil _ _ 3, SlArms.nil _ _, s2⟩ (by rfl) ⟨by simp [tyQ], by simp [tyQ], by simp [tyQ], by show ps.length ≤ _; omega, by simp [tyQ]⟩ 11 (by simp [tys0]) (by decide)).mono ?_
        rintro e v2 ⟨rfl, T3, K2, z2⟩
        have bz2 := K2.blk m3 HBZ.out
        obtain ⟨kl2, kr2, kn2⟩ := K2
        have s3 := Sl.keep HS3.out kr2 (fun b hb => kn2 b hb)
        clear HBZ HS3 kr2 kn2 T2 t0 t1 t2 t3 t4 t5 t6 t7 t8 t9 t10 t11
        have t0 := bz2.cell 0
        have t1 := bz2.cell 1
        have t2 := bz2.cell 2
        have t3 := bz2.cell 3
        have t4 := bz2.cell 4
        have t5 := bz2.cell 5
        have t6 := bz2.cell 6
        have t7 := bz2.cell 7
        have t8 := bz2.cell 8
        have t9 := bz2.cell 9
        have t10 := bz2.cell 10
        have t11 := bz2.cell 11
        simp only [List.getElem?_toArray, List.getElem?_cons_zero, List.getElem?_cons_succ] at t0 t1 t2 t3 t4 t5 t6 t7 t8 t9 t10 t11
        clear bz2
        go_wp2_with fail
        refine (addG T3 (tyQ zp zr) (.slice none 0 0) (.slice none 0 0) (.slice none 0 0) vz (fun b => b ∈ G) ⟨Sl.nil _ _ 1, Sl.nil _ _ 3, SlArms.nil _ _, s3⟩ (by rfl) ⟨by simp [tyQ], by simp [tyQ], by simp [tyQ], by show zp.length ≤ _; omega, by simp [tyQ]⟩ 12 (by simp [tys0]) (by decide)).mono ?_
        rintro e v3 ⟨rfl, T4, _, z3⟩
        clear T3 s3 t0 t1 t2 t3 t4 t5 t6 t7 t8 t9 t10 t11
        have T4' : TabG w v3 t (tysQ ps zp zr) G := T4
        have hwv := T4'.wr
        obtain ⟨v, L, hT, _, _, _⟩ := T4'
        have k10 : (tyOf (tysQ ps zp zr) 10).kind = 16 := rfl
        have k11 : (tyOf (tysQ ps zp zr) 11).kind = 16 := rfl
        have k12 : (tyOf (tysQ ps zp zr) 12).kind = 16 := rfl
        have hA1 : ∀ W, Wr [] v3 W → Calls Try.prog 9 #[.pointer (some ⟨t, 0, none⟩), .int .i64 10, .int .i64 11] W fun e w' => e = .returned (.bool true) ∧ Wr [] W w' := fun W r =>
          (alikeT_any W t v L _ (tysQ ps zp zr) (hT.wr0 r) 10 11 (by decide) (by decide) (by decide) k10 k11 (told_of ps zp zr hp14 hp14)).mono (fun e w' hx => by
            obtain ⟨b, rfl, r2, hb⟩ := hx
            have : b = true := hb.2 ⟨rfl, rfl⟩
            subst this
            exact ⟨rfl, r2⟩)
        have hA2 : ∀ W, Wr [] v3 W → Calls Try.prog 9 #[.pointer (some ⟨t, 0, none⟩), .int .i64 10, .int .i64 12] W fun e w' => e = .returned (.bool false) ∧ Wr [] W w' := fun W r =>
          (alikeT_any W t v L _ (tysQ ps zp zr) (hT.wr0 r) 10 12 (by decide) (by decide) (by decide) k10 k12 (told_of ps zp zr hp14 h14z)).mono (fun e w' hx => by
            obtain ⟨b, rfl, r2, hb⟩ := hx
            cases b with
            | true =>
              have h3 := hb.1 rfl
              exact absurd ⟨h3.1.symm, h3.2.symm⟩ hne
            | false => exact ⟨rfl, r2⟩)
        have hA3 : ∀ W, Wr [] v3 W → Calls Try.prog 9 #[.pointer (some ⟨t, 0, none⟩), .int .i64 12, .int .i64 10] W fun e w' => e = .returned (.bool false) ∧ Wr [] W w' := fun W r =>
          (alikeT_any W t v L _ (tysQ ps zp zr) (hT.wr0 r) 12 10 (by decide) (by decide) (by decide) k12 k10 (told_of ps zp zr h14z hp14)).mono (fun e w' hx => by
            obtain ⟨b, rfl, r2, hb⟩ := hx
            cases b with
            | true =>
              have h3 := hb.1 rfl
              exact absurd h3 hne
            | false => exact ⟨rfl, r2⟩)
        have hC1 : ∀ W, Wr [] v3 W → Calls Try.prog 10 #[.pointer (some ⟨t, 0, none⟩), .int .i64 10, .int .i64 11] W fun e w' => e = .returned (.bool true) ∧ Wr [] W w' := fun W r => by
          have := compat_any W t v L _ (tysQ ps zp zr) (hT.wr0 r) true 10 11 (fun _ W' r' => hA1 W' (r.trans r'))
          rwa [comp_of ps zp zr true (by decide) k10 k11] at this
        have hC2 : ∀ W, Wr [] v3 W → Calls Try.prog 10 #[.pointer (some ⟨t, 0, none⟩), .int .i64 10, .int .i64 12] W fun e w' => e = .returned (.bool false) ∧ Wr [] W w' := fun W r => by
          have := compat_any W t v L _ (tysQ ps zp zr) (hT.wr0 r) false 10 12 (fun _ W' r' => hA2 W' (r.trans r'))
          rwa [comp_of ps zp zr false (by decide) k10 k12] at this
        have hS1 : ∀ W, Wr [] v3 W → Calls Try.prog 11 #[.pointer (some ⟨t, 0, none⟩), .int .i64 10, .int .i64 11, .nilIface] W fun e w' => e = .returned (.bool true) ∧ Wr [] W w' := fun W r => by
          have := assign_proc W t v L _ (tysQ ps zp zr) (hT.wr0 r) true 10 11 k10 (fun W' r' => hA1 W' (r.trans r'))
          rwa [comp_of ps zp zr true (by decide) k10 k11] at this
        have hS2 : ∀ W, Wr [] v3 W → Calls Try.prog 11 #[.pointer (some ⟨t, 0, none⟩), .int .i64 12, .int .i64 10, .nilIface] W fun e w' => e = .returned (.bool false) ∧ Wr [] W w' := fun W r => by
          have := assign_proc W t v L _ (tysQ ps zp zr) (hT.wr0 r) false 12 10 k12 (fun W' r' => hA3 W' (r.trans r'))
          rwa [comp_of ps zp zr false (by decide) k12 k10] at this
        clear hA3 T4 hT
        go_wp2_with fail
        refine (hA1 _ (Wr.refl [] _)).mono ?_
        rintro e y1 ⟨rfl, q1⟩
        go_wp2_with fail
        refine (hC1 _ q1).mono ?_
        rintro e y2 ⟨rfl, q2⟩
        replace q2 := q1.trans q2
        go_wp2_with fail
        refine (hS1 _ q2).mono ?_
        rintro e y3 ⟨rfl, q3⟩
        replace q3 := q2.trans q3
        go_wp2_with fail
        refine (hA2 _ q3).mono ?_
        rintro e y4 ⟨rfl, q4⟩
        replace q4 := q3.trans q4
        go_wp2_with fail
        refine (hC2 _ q4).mono ?_
        rintro e y5 ⟨rfl, q5⟩
        replace q5 := q4.trans q5
        go_wp2_with fail
        refine (hS2 _ q5).mono ?_
        rintro e y6 ⟨rfl, q6⟩
        replace q6 := q5.trans q6
        go_wp2_with fail
        refine (works_any _).mono ?_
        rintro e y7 ⟨rfl, q7⟩
        go_wp2_with fail
        go_ret
        exact ⟨rfl, hwv.trans (q6.trans q7)⟩
end Go.Proofs.Ytcpgkeceefoljaa
