/- ref 14's May: walked. No conditions. -/
import Derived.Test.YtjanbpchedgoiaaGreatKT28
set_option linter.unusedVariables false
set_option linter.unusedSimpArgs false
set_option maxRecDepth 100000
set_option maxHeartbeats 32000000
namespace Go.Proofs.YtjanbpchedgoiaaGreat
open Go.RowKit
def pitForm (nt : Nat) (x : PItm) : Bool := tyB nt x.type && smB x.at_ && decide (x.v.sort ≤ 7) && smB x.v.n && tyB nt x.v.type
def rmayP (f : FaceP) : Int :=
 if rfitB f then if onceB [] (f.uses.map UseD.module) && onceB [] (f.items.map PItm.name) then if f.types.all (tyForm f.types.length) && f.items.all (pitForm f.types.length) then 0 else 7 else 6 else 5
theorem rfit_types {f : FaceP} (h : rfitB f = true) : f.types.length ≤ 1024 := by
 unfold rfitB at h
 simp only [Bool.and_eq_true, decide_eq_true_eq] at h
 exact h.1.1.1.1.2
theorem may_r (f : FaceP) (vu vt vi : Value) (P : Nat → Prop) (w : World) (h : FacePL w P vu vt vi f) :
  Calls Tryz.prog 30 #[.agg #[.string f.module, vu, vt, vi]] w fun e w' => e = .returned (.int .i64 (rmayP f)) ∧ Wr [] w w' := by
 obtain ⟨⟨A1, k1, rfl, hn1, hn2⟩, ⟨A2, k2, rfl, hf1, hf2⟩, ⟨A3, k3, rfl, ha1, ha2⟩⟩ := h.forms
 unfold maxLen at hn2 hf2 ha2
 obtain ⟨w0, hw0⟩ : ∃ q, w.alloc (.cells #[.string f.module, .slice A1 f.uses.length k1, .slice A2 f.types.length k2, .slice A3 f.items.length k3] 27) = q := ⟨_, rfl⟩
 obtain ⟨g, hg⟩ : ∃ g, w.heap.size = g := ⟨_, rfl⟩
 have acc : Wr [] w w0 := by rw [← hw0]; exact (Wr.refl [] _).alloc _
 have bF : Blk w0 g 27 #[.string f.module, .slice A1 f.uses.length k1, .slice A2 f.types.length k2, .slice A3 f.items.length k3] := by rw [← hw0, ← hg]; exact Blk.new _ _ _
 have g1 := long_r f _ _ _ P w0 (h.wr0 acc)
 have g2 := fun W (hW : Wr [] w0 W) => twice_r f _ _ _ P W ((h.wr0 acc).wr0 hW)
 obtain ⟨b1, e1⟩ : ∃ q, rfitB f = q := ⟨_, rfl⟩
 obtain ⟨b2, e2⟩ : ∃ q, (onceB [] (f.uses.map UseD.module) && onceB [] (f.items.map PItm.name)) = q := ⟨_, rfl⟩
 obtain ⟨b3, e3⟩ : ∃ q, f.types.all (tyForm f.types.length) = q := ⟨_, rfl⟩
 obtain ⟨b4, e4⟩ : ∃ q, f.items.all (pitForm f.types.length) = q := ⟨_, rfl⟩
 obtain ⟨rr, hrr⟩ : ∃ q, rmayP f = q := ⟨_, rfl⟩
 have hv : rr = if b1 then if b2 then if b3 && b4 then 0 else 7 else 6 else 5 := by
  rw [← hrr]
  unfold rmayP
  rw [e1, e2, e3, e4]
 rw [hrr]
 rw [e1] at g1
 simp only [e2] at g2
 have G1 := qh g1
 have G2 := qh g2
 have E1 := qh e1
 have E3 := qh e3
 have E4 := qh e4
 have HV := qh hv
 have HH := qh (h.wr0 acc)
 have HW0 := qh hw0
 have HG := qh hg
 have ACC := qh acc
 have BF := qh bF
 have d0 := (bF).cell 0
 have d1 := (bF).cell 1
 have d2 := (bF).cell 2
 have d3 := (bF).cell 3
 simp only [qgaq, qgzq, qgsq] at d0 d1 d2 d3
 clear hw0 hg acc bF g1 g2 e1 e2 e3 e4 hv hrr h
 go_enter Tryz.func30, Tryz.ntmps30
 go_upto_region 1 with (fail)
 rw [HW0.out, HG.out]
 go_wp2_with fail
 refine G1.out.mono ?_
 rintro e w1 ⟨rfl, q1⟩
 have R1 := qh q1
 clear q1 d0 d1 d2 d3
 cases b1 with
 | false =>
  obtain rfl : rr = 5 := by rw [HV.out]; rfl
  clear HV
  go_wp2_with fail
  go_ret
  exact ⟨rfl, ACC.out.trans R1.out⟩
 | true =>
 have hnt : f.types.length ≤ 1000000 := by have := rfit_types E1.out; omega
 have d0 := (BF.out.wr0 R1.out).cell 0
 have d1 := (BF.out.wr0 R1.out).cell 1
 have d2 := (BF.out.wr0 R1.out).cell 2
 have d3 := (BF.out.wr0 R1.out).cell 3
 simp only [qgaq, qgzq, qgsq] at d0 d1 d2 d3
 go_wp2_with fail
 refine (G2.out _ R1.out).mono ?_
 rintro e w2 ⟨rfl, q2⟩
 have R2 := qh (R1.out.trans q2)
 clear q2 d0 d1 d2 d3
 cases b2 with
 | false =>
  obtain rfl : rr = 6 := by rw [HV.out]; rfl
  clear HV
  go_wp2_with fail
  go_ret
  exact ⟨rfl, ACC.out.trans R2.out⟩
 | true =>
 go_wp2_with fail
 go_loopw [3] (fun i wr => ∃ k : Nat, k ≤ f.types.length ∧ i = .int .i64 k ∧ LgAt w0 f.types (tyForm f.types.length) k wr) (fun i _ => f.types.length - (intOf i).toNat)
 case atStart => exact ⟨0, by omega, rfl, R2.out, rfl⟩
 case round =>
  obtain ⟨k, hk, rfl, rw1, hall⟩ := hrel
  have RW := qh rw1
  have HALL := qh hall
  have d0 := (BF.out.wr0 rw1).cell 0
  have d1 := (BF.out.wr0 rw1).cell 1
  have d2 := (BF.out.wr0 rw1).cell 2
  have d3 := (BF.out.wr0 rw1).cell 3
  simp only [qgaq, qgzq, qgsq] at d0 d1 d2 d3
  clear hall rw1
  by_cases hlt : k < f.types.length
  ·obtain ⟨x, hx⟩ : ∃ x, f.types[k]? = some x := ⟨_, qgeq hlt⟩
   obtain ⟨b, off, c', un, uf, ua, up, e, _, hc, hl⟩ := ty_at (HH.out.types.wr0 RW.out) hx
   injection e with e1 e2 e3
   subst e1 e3
   obtain ⟨⟨B1, m1, rfl, _, _⟩, ⟨B2, m2, rfl, _, _⟩, ⟨B3, m3, rfl, _, _⟩, ⟨B4, m4, rfl, _, _⟩⟩ := hl.forms
   have x0 := hc 0 _ rfl
   have x1 := hc 1 _ rfl
   have x2 := hc 2 _ rfl
   have x3 := hc 3 _ rfl
   have x4 := hc 4 _ rfl
   have x5 := hc 5 _ rfl
   have x6 := hc 6 _ rfl
   have x7 := hc 7 _ rfl
   have x8 := hc 8 _ rfl
   have x9 := hc 9 _ rfl
   have x10 := hc 10 _ rfl
   have x11 := hc 11 _ rfl
   simp only [Nat.add_zero] at x0
   have gx := fun W (hW : Wr [] wr W) => formed_r f.module A1 (some ⟨b, off, none⟩) A3 f.uses.length k1 f.types.length k2 f.items.length k3 hnt x _ _ _ _ P W (hl.wr0 hW)
   obtain ⟨px, hpx⟩ : ∃ q, tyForm f.types.length x = q := ⟨_, rfl⟩
   simp only [hpx] at gx
   have GX := qh gx
   have HPX := qh hpx
   have HX := qh hx
   have hlti : (k : Int) < (f.types.length : Int) := by omega
   have hk0 : (0 : Int) ≤ (k : Int) := by omega
   clear gx hpx hx hc hl e2
   go_upto_region 8 with (fail)
   have hC : ∀ W, Wr [] wr W → W.cell? ⟨g, 0, none⟩ = some (.string f.module) ∧ W.cell? ⟨g, 1, none⟩ = some (.slice A1 f.uses.length k1) ∧ W.cell? ⟨g, 2, none⟩ = some (.slice (some ⟨b, off, none⟩) f.types.length k2) ∧ W.cell? ⟨g, 3, none⟩ = some (.slice A3 f.items.length k3) ∧ W.cell? ⟨b, off + k * 12, none⟩ = some (.int .u8 x.kind) ∧ W.cell? ⟨b, off + k * 12 + 1, none⟩ = some (.string x.module) ∧ W.cell? ⟨b, off + k * 12 + 2, none⟩ = some (.string x.name) ∧ W.cell? ⟨b, off + k * 12 + 3, none⟩ = some (.int .i64 x.base) ∧ W.cell? ⟨b, off + k * 12 + 4, none⟩ = some (.int .i64 x.index) ∧ W.cell? ⟨b, off + k * 12 + 5, none⟩ = some (.int .i64 x.low) ∧ W.cell? ⟨b, off + k * 12 + 6, none⟩ = some (.int .i64 x.high) ∧ W.cell? ⟨b, off + k * 12 + 7, none⟩ = some (.slice B1 x.names.length m1) ∧ W.cell? ⟨b, off + k * 12 + 8, none⟩ = some (.slice B2 x.fields.length m2) ∧ W.cell? ⟨b, off + k * 12 + 9, none⟩ = some (.slice B3 x.arms.length m3) ∧ W.cell? ⟨b, off + k * 12 + 10, none⟩ = some (.slice B4 x.params.length m4) ∧ W.cell? ⟨b, off + k * 12 + 11, none⟩ = some (.int .i64 x.result) := fun W hW => ⟨hW.cellOf d0 (by simp), hW.cellOf d1 (by simp), hW.cellOf d2 (by simp), hW.cellOf d3 (by simp), hW.cellOf x0 (by simp), hW.cellOf x1 (by simp), hW.cellOf x2 (by simp), hW.cellOf x3 (by simp), hW.cellOf x4 (by simp), hW.cellOf x5 (by simp), hW.cellOf x6 (by simp), hW.cellOf x7 (by simp), hW.cellOf x8 (by simp), hW.cellOf x9 (by simp), hW.cellOf x10 (by simp), hW.cellOf x11 (by simp)⟩
   have HC := qh hC
   clear hC
   refine wp_region_noPanic ?_
   refine wp_region_L (AlwO fun w' => w'.cell? ⟨g, 0, none⟩ = some (.string f.module) ∧ w'.cell? ⟨g, 1, none⟩ = some (.slice A1 f.uses.length k1) ∧ w'.cell? ⟨g, 2, none⟩ = some (.slice (some ⟨b, off, none⟩) f.types.length k2) ∧ w'.cell? ⟨g, 3, none⟩ = some (.slice A3 f.items.length k3) ∧ w'.cell? ⟨b, off + k * 12, none⟩ = some (.int .u8 x.kind) ∧ w'.cell? ⟨b, off + k * 12 + 1, none⟩ = some (.string x.module) ∧ w'.cell? ⟨b, off + k * 12 + 2, none⟩ = some (.string x.name) ∧ w'.cell? ⟨b, off + k * 12 + 3, none⟩ = some (.int .i64 x.base) ∧ w'.cell? ⟨b, off + k * 12 + 4, none⟩ = some (.int .i64 x.index) ∧ w'.cell? ⟨b, off + k * 12 + 5, none⟩ = some (.int .i64 x.low) ∧ w'.cell? ⟨b, off + k * 12 + 6, none⟩ = some (.int .i64 x.high) ∧ w'.cell? ⟨b, off + k * 12 + 7, none⟩ = some (.slice B1 x.names.length m1) ∧ w'.cell? ⟨b, off + k * 12 + 8, none⟩ = some (.slice B2 x.fields.length m2) ∧ w'.cell? ⟨b, off + k * 12 + 9, none⟩ = some (.slice B3 x.arms.length m3) ∧ w'.cell? ⟨b, off + k * 12 + 10, none⟩ = some (.slice B4 x.params.length m4) ∧ w'.cell? ⟨b, off + k * 12 + 11, none⟩ = some (.int .i64 x.result)) (by kernel_rfl) (fun hcl => ?_)
   have hS : AlwO (fun w' => w'.cell? ⟨g, 0, none⟩ = some (.string f.module) ∧ w'.cell? ⟨g, 1, none⟩ = some (.slice A1 f.uses.length k1) ∧ w'.cell? ⟨g, 2, none⟩ = some (.slice (some ⟨b, off, none⟩) f.types.length k2) ∧ w'.cell? ⟨g, 3, none⟩ = some (.slice A3 f.items.length k3) ∧ w'.cell? ⟨b, off + k * 12, none⟩ = some (.int .u8 x.kind) ∧ w'.cell? ⟨b, off + k * 12 + 1, none⟩ = some (.string x.module) ∧ w'.cell? ⟨b, off + k * 12 + 2, none⟩ = some (.string x.name) ∧ w'.cell? ⟨b, off + k * 12 + 3, none⟩ = some (.int .i64 x.base) ∧ w'.cell? ⟨b, off + k * 12 + 4, none⟩ = some (.int .i64 x.index) ∧ w'.cell? ⟨b, off + k * 12 + 5, none⟩ = some (.int .i64 x.low) ∧ w'.cell? ⟨b, off + k * 12 + 6, none⟩ = some (.int .i64 x.high) ∧ w'.cell? ⟨b, off + k * 12 + 7, none⟩ = some (.slice B1 x.names.length m1) ∧ w'.cell? ⟨b, off + k * 12 + 8, none⟩ = some (.slice B2 x.fields.length m2) ∧ w'.cell? ⟨b, off + k * 12 + 9, none⟩ = some (.slice B3 x.arms.length m3) ∧ w'.cell? ⟨b, off + k * 12 + 10, none⟩ = some (.slice B4 x.params.length m4) ∧ w'.cell? ⟨b, off + k * 12 + 11, none⟩ = some (.int .i64 x.result)) (Array.replicate 8 false) wr.drew := ⟨d0, d1, d2, d3, x0, x1, x2, x3, x4, x5, x6, x7, x8, x9, x10, x11⟩
   refine wpAnyL_take (i := 0) (oi := ?oi101) (v := ?v101) ?hi101 (by kernel_rfl) (by kernel_rfl) (by kernel_rfl) (fun _ _ _ h => h) (alwO_take _) ?hy101 hcl hS ?rest101
   case hi101 =>
    simp only [qgaq, qgsq, qgzq]
    rfl
   case hy101 =>
    refine yields_alwO (Or.inl ⟨by rfl, fun w' hS => ?_⟩)
    try go_split_ands
    go_simp
    try rfl
   case rest101 =>
   intro hcl101 hS101
   clear hcl hS
   try simp only [Act.put, qsaq, qszq, qssq]
   refine wpAnyL_take (i := 1) (oi := ?oi102) (v := ?v102) ?hi102 (by kernel_rfl) (by kernel_rfl) (by kernel_rfl) (fun _ _ _ h => h) (alwO_take _) ?hy102 hcl101 hS101 ?rest102
   case hi102 =>
    simp only [qgaq, qgsq, qgzq]
    rfl
   case hy102 =>
    refine yields_alwO (Or.inl ⟨by rfl, fun w' hS => ?_⟩)
    try go_split_ands
    go_simp
    try rfl
   case rest102 =>
   intro hcl102 hS102
   clear hcl101 hS101
   try simp only [Act.put, qsaq, qszq, qssq]
   refine wpAnyL_take (i := 2) (oi := ?oi103) (v := ?v103) ?hi103 (by kernel_rfl) (by kernel_rfl) (by kernel_rfl) (fun _ _ _ h => h) (alwO_take _) ?hy103 hcl102 hS102 ?rest103
   case hi103 =>
    simp only [qgaq, qgsq, qgzq]
    rfl
   case hy103 =>
    refine yields_alwO (Or.inl ⟨by rfl, fun w' hS => ?_⟩)
    try go_split_ands
    go_simp
    try rfl
   case rest103 =>
   intro hcl103 hS103
   clear hcl102 hS102
   try simp only [Act.put, qsaq, qszq, qssq]
   refine wpAnyL_take (i := 3) (oi := ?oi104) (v := ?v104) ?hi104 (by kernel_rfl) (by kernel_rfl) (by kernel_rfl) (fun _ _ _ h => h) (alwO_take _) ?hy104 hcl103 hS103 ?rest104
   case hi104 =>
    simp only [qgaq, qgsq, qgzq]
    rfl
   case hy104 =>
    refine yields_alwO (Or.inl ⟨by rfl, fun w' hS => ?_⟩)
    try go_split_ands
    go_simp
    try rfl
   case rest104 =>
   intro hcl104 hS104
   clear hcl103 hS103
   try simp only [Act.put, qsaq, qszq, qssq]
   refine wpAnyL_take (i := 4) (oi := ?oi105) (v := ?v105) ?hi105 (by kernel_rfl) (by kernel_rfl) (by kernel_rfl) (fun _ _ _ h => h) (alwO_take _) ?hy105 hcl104 hS104 ?rest105
   case hi105 =>
    simp only [qgaq, qgsq, qgzq]
    rfl
   case hy105 =>
    refine yields_alwO (Or.inl ⟨by rfl, fun w' hS => ?_⟩)
    try go_split_ands
    go_simp
    try rfl
   case rest105 =>
   intro hcl105 hS105
   clear hcl104 hS104
   try simp only [Act.put, qsaq, qszq, qssq]
   refine wpAnyL_take (i := 5) (oi := ?oi106) (v := ?v106) ?hi106 (by kernel_rfl) (by kernel_rfl) (by kernel_rfl) (fun _ _ _ h => h) (alwO_take _) ?hy106 hcl105 hS105 ?rest106
   case hi106 =>
    simp only [qgaq, qgsq, qgzq]
    rfl
   case hy106 =>
    refine yields_alwO (Or.inl ⟨by rfl, fun w' hS => ?_⟩)
    try go_split_ands
    go_simp
    try rfl
   case rest106 =>
   intro hcl106 hS106
   clear hcl105 hS105
   try simp only [Act.put, qsaq, qszq, qssq]
   refine wpAnyL_step (i := 6) (o := ?oi107) ?hi107 (by kernel_rfl) hcl106 ?rest107
   case hi107 =>
    simp only [qgaq, qgsq, qgzq]
    rfl
   case rest107 =>
   intro K hK
   go_simp
   go_at_call 66
   refine (GX.out _ ((Wr.refl [] wr).drew)).mono ?_
   rintro e a1 ⟨rfl, a1q⟩
   have a1r := ((Wr.refl [] wr).drew).trans a1q
   clear a1q
   refine hK _ _ (HC.out _ a1r) (fun hcl107 => ?_)
   clear hK K hcl106 hS106
   try simp only [Act.put, qsaq, qszq, qssq]
   refine wpAnyL_take (i := 7) (oi := ?oi108) (v := ?v108) ?hi108 (by kernel_rfl) (by kernel_rfl) (by kernel_rfl) (fun _ _ _ h => h) (alwO_take _) ?hy108 hcl107 (HC.out _ a1r) ?rest108
   case hi108 =>
    simp only [qgaq, qgsq, qgzq]
    rfl
   case hy108 =>
    refine yields_alwO (Or.inl ⟨by rfl, fun w' hS => ?_⟩)
    try go_split_ands
    go_simp
    try rfl
   case rest108 =>
   intro hcl108 hS108
   clear hcl107
   try simp only [Act.put, qsaq, qszq, qssq]
   refine wpAnyL_done (by kernel_rfl) (NoPanic.normal ?_) _
   try simp only [Act.put, qsaq, qszq, qssq]
   cases px with
   | false =>
    obtain rfl : b3 = false := by rw [← E3.out]; exact allF_no HX.out HPX.out
    obtain rfl : rr = 7 := by rw [HV.out]; simp
    clear HV
    go_wp2_with fail
    go_ret
    exact ⟨rfl, ACC.out.trans (RW.out.trans a1r)⟩
   | true =>
    have hs := allF_step HALL.out HX.out HPX.out
    have HS := qh hs
    have RF := qh (RW.out.trans a1r)
    clear hs HC
    go_wp2_with fail
    go_roundw
    case rel => exact ⟨k + 1, by omega, by go_num, RF.out, HS.out⟩
    case measure => simp [intOf]; omega
  ·obtain rfl : k = f.types.length := by omega
   obtain rfl : b3 = true := by rw [← E3.out, ← HALL.out, List.take_length]
   go_wp2_with fail
   clear d0 d1 d2 d3
   go_loopw [4] (fun i wr => ∃ k : Nat, k ≤ f.items.length ∧ i = .int .i64 k ∧ LgAt w0 f.items (pitForm f.types.length) k wr) (fun i _ => f.items.length - (intOf i).toNat)
   case atStart => exact ⟨0, by omega, rfl, RW.out, rfl⟩
   case round =>
    clear RW HALL
    obtain ⟨k, hk, rfl, rw1, hall⟩ := hrel
    have RW := qh rw1
    have HALL := qh hall
    have d3 := (BF.out.wr0 rw1).cell 3
    simp only [qgaq, qgzq, qgsq] at d3
    clear hall rw1
    by_cases hlt : k < f.items.length
    ·obtain ⟨x, hx⟩ : ∃ x, f.items[k]? = some x := ⟨_, qgeq hlt⟩
     obtain ⟨b, off, c', e, _, hc⟩ := pitm_at HH.out.items hx
     injection e with e1 e2 e3
     subst e1 e3
     have x0 := RW.out.cellOf (hc 0 _ rfl) (by simp)
     have x1 := RW.out.cellOf (hc 1 _ rfl) (by simp)
     have x2 := RW.out.cellOf (hc 2 _ rfl) (by simp)
     have x3 := RW.out.cellOf (hc 3 _ rfl) (by simp)
     have x4 := RW.out.cellOf (hc 4 _ rfl) (by simp)
     have x5 := RW.out.cellOf (hc 5 _ rfl) (by simp)
     have x6 := RW.out.cellOf (hc 6 _ rfl) (by simp)
     have x7 := RW.out.cellOf (hc 7 _ rfl) (by simp)
     simp only [Nat.add_zero] at x0
     have hlti : (k : Int) < (f.items.length : Int) := by omega
     have hk0 : (0 : Int) ≤ (k : Int) := by omega
     have t1 := fun W => typ_m f.module (.slice A1 f.uses.length k1) (.slice (some ⟨b, off, none⟩) f.items.length k3) A2 f.types.length k2 hnt x.type W
     have t2 := fun W => small_r x.at_ W
     have t4 := fun W => small_r x.v.n W
     have t5 := fun W => typ_m f.module (.slice A1 f.uses.length k1) (.slice (some ⟨b, off, none⟩) f.items.length k3) A2 f.types.length k2 hnt x.v.type W
     obtain ⟨p1, h1⟩ : ∃ q, tyB f.types.length x.type = q := ⟨_, rfl⟩
     obtain ⟨p2, h2⟩ : ∃ q, smB x.at_ = q := ⟨_, rfl⟩
     obtain ⟨p4, h4⟩ : ∃ q, smB x.v.n = q := ⟨_, rfl⟩
     obtain ⟨p5, h5⟩ : ∃ q, tyB f.types.length x.v.type = q := ⟨_, rfl⟩
     have hpp : pitForm f.types.length x = (p1 && p2 && decide (x.v.sort ≤ 7) && p4 && p5) := by unfold pitForm; rw [h1, h2, h4, h5]
     simp only [h1] at t1
     simp only [h2] at t2
     simp only [h4] at t4
     simp only [h5] at t5
     have T1 := qh t1
     have T2 := qh t2
     have T4 := qh t4
     have T5 := qh t5
     have HPP := qh hpp
     have HX := qh hx
     clear t1 t2 t4 t5 h1 h2 h4 h5 hpp hx hc e2
     go_upto_region 14 with (fail)
     have bz := Blk.new wr 56 #[.string x.name, .int .u8 x.kind, .int .i64 x.type, .int .i64 x.at_, .int .u8 x.v.sort, .int .i64 x.v.n, .int .i64 x.v.type, .string x.v.text]
     have rz := (Wr.refl [] wr).alloc (.cells #[.string x.name, .int .u8 x.kind, .int .i64 x.type, .int .i64 x.at_, .int .u8 x.v.sort, .int .i64 x.v.n, .int .i64 x.v.type, .string x.v.text] 56)
     generalize wr.alloc (.cells #[.string x.name, .int .u8 x.kind, .int .i64 x.type, .int .i64 x.at_, .int .u8 x.v.sort, .int .i64 x.v.n, .int .i64 x.v.type, .string x.v.text] 56) = wz at *
     generalize wr.heap.size = z at *
     have y0 := (bz).cell 0
     have y1 := (bz).cell 1
     have y2 := (bz).cell 2
     have y3 := (bz).cell 3
     have y4 := (bz).cell 4
     have y5 := (bz).cell 5
     have y6 := (bz).cell 6
     have y7 := (bz).cell 7
     simp only [qgaq, qgzq, qgsq] at y0 y1 y2 y3 y4 y5 y6 y7
     clear x0 x1 x2 x3 x4 x5 x6 x7 d3
     go_upto_region 15 with (fail)
     have bv := Blk.new wz 54 #[.int .u8 x.v.sort, .int .i64 x.v.n, .int .i64 x.v.type, .string x.v.text]
     have rv := (Wr.refl [] wz).alloc (.cells #[.int .u8 x.v.sort, .int .i64 x.v.n, .int .i64 x.v.type, .string x.v.text] 54)
     generalize wz.alloc (.cells #[.int .u8 x.v.sort, .int .i64 x.v.n, .int .i64 x.v.type, .string x.v.text] 54) = wv at *
     generalize wz.heap.size = q at *
     have RV := qh ((RW.out.trans rz).trans rv)
     have BZ := qh (bz.wr0 rv)
     have BV := qh bv
     clear bz rz bv rv y0 y1 y2 y3 y4 y5 y6 y7
     have d0 := (BF.out.wr0 RV.out).cell 0
     have d1 := (BF.out.wr0 RV.out).cell 1
     have d2 := (BF.out.wr0 RV.out).cell 2
     have d3 := (BF.out.wr0 RV.out).cell 3
     simp only [qgaq, qgzq, qgsq] at d0 d1 d2 d3
     have y2 := (BZ.out).cell 2
     have y3 := (BZ.out).cell 3
     simp only [qgaq, qgzq, qgsq] at y2 y3
     have v0 := (BV.out).cell 0
     have v1 := (BV.out).cell 1
     have v2 := (BV.out).cell 2
     simp only [qgaq, qgzq, qgsq] at v0 v1 v2
     go_wp2_with fail
     refine (T1.out _).mono ?_
     rintro e w6 ⟨rfl, q6⟩
     have R6 := qh (RV.out.trans q6)
     have BZ6 := qh (BZ.out.wr0 q6)
     have BV6 := qh (BV.out.wr0 q6)
     clear q6 d0 d1 d2 d3 y2 y3 v0 v1 v2
     cases p1 with
     | false =>
      obtain rfl : b4 = false := by rw [← E4.out]; exact allF_no HX.out (by rw [HPP.out]; simp)
      obtain rfl : rr = 7 := by rw [HV.out]; simp
      clear HV
      go_wp2_with fail
      go_ret
      exact ⟨rfl, ACC.out.trans (R6.out)⟩
     | true =>
     have d0 := (BF.out.wr0 R6.out).cell 0
     have d1 := (BF.out.wr0 R6.out).cell 1
     have d2 := (BF.out.wr0 R6.out).cell 2
     have d3 := (BF.out.wr0 R6.out).cell 3
     simp only [qgaq, qgzq, qgsq] at d0 d1 d2 d3
     have y2 := (BZ6.out).cell 2
     have y3 := (BZ6.out).cell 3
     simp only [qgaq, qgzq, qgsq] at y2 y3
     have v0 := (BV6.out).cell 0
     have v1 := (BV6.out).cell 1
     have v2 := (BV6.out).cell 2
     simp only [qgaq, qgzq, qgsq] at v0 v1 v2
     go_wp2_with fail
     refine (T2.out _).mono ?_
     rintro e w7 ⟨rfl, rfl⟩
     cases p2 with
     | false =>
      obtain rfl : b4 = false := by rw [← E4.out]; exact allF_no HX.out (by rw [HPP.out]; simp)
      obtain rfl : rr = 7 := by rw [HV.out]; simp
      clear HV
      go_wp2_with fail
      go_ret
      exact ⟨rfl, ACC.out.trans (R6.out)⟩
     | true =>
     by_cases h7 : 7 < x.v.sort
     ·obtain rfl : b4 = false := by rw [← E4.out]; exact allF_no HX.out (by rw [HPP.out, qdfq (show ¬ x.v.sort ≤ 7 by omega)]; simp)
      obtain rfl : rr = 7 := by rw [HV.out]; simp
      clear HV
      go_wp2_with fail
      go_ret
      exact ⟨rfl, ACC.out.trans (R6.out)⟩
     have HPQ := qh (show pitForm f.types.length x = (p4 && p5) by rw [HPP.out, qdtq (show x.v.sort ≤ 7 by omega)]; rfl)
     go_wp2_with fail
     refine (T4.out _).mono ?_
     rintro e w7 ⟨rfl, rfl⟩
     cases p4 with
     | false =>
      obtain rfl : b4 = false := by rw [← E4.out]; exact allF_no HX.out (by rw [HPQ.out]; rfl)
      obtain rfl : rr = 7 := by rw [HV.out]; simp
      clear HV
      go_wp2_with fail
      go_ret
      exact ⟨rfl, ACC.out.trans (R6.out)⟩
     | true =>
     go_wp2_with fail
     refine (T5.out _).mono ?_
     rintro e w8 ⟨rfl, q8⟩
     have R8 := qh (R6.out.trans q8)
     clear q8 d0 d1 d2 d3 y2 y3 v0 v1 v2
     cases p5 with
     | false =>
      obtain rfl : b4 = false := by rw [← E4.out]; exact allF_no HX.out (by rw [HPQ.out]; rfl)
      obtain rfl : rr = 7 := by rw [HV.out]; simp
      clear HV
      go_wp2_with fail
      go_ret
      exact ⟨rfl, ACC.out.trans (R8.out)⟩
     | true =>
     have hs := allF_step HALL.out HX.out (by rw [HPQ.out]; rfl)
     have HS := qh hs
     clear hs
     go_wp2_with fail
     go_roundw
     case rel => exact ⟨k + 1, by omega, by go_num, R8.out, HS.out⟩
     case measure => simp [intOf]; omega
    ·obtain rfl : k = f.items.length := by omega
     obtain rfl : b4 = true := by rw [← E4.out, ← HALL.out, List.take_length]
     obtain rfl : rr = 0 := by rw [HV.out]; rfl
     clear HV
     go_wp2_with fail
     go_ret
     exact ⟨rfl, ACC.out.trans RW.out⟩
theorem form_val (nt : Nat) (v : AnyD) (h : anyW v) : (decide ((valOf v).sort ≤ 7) && smB (valOf v).n && tyB nt (valOf v).type) = anyForm nt v := by
 have t0 : tyB nt 0 = true := inB_iff.2 ⟨by omega, by omega⟩
 have s0 : smB 0 = true := by decide
 have s1 : smB 1 = true := by decide
 cases v with
 | nil => simp [valOf, anyForm, t0, s0]
 | whole n => simp [valOf, anyForm, t0]
 | letter n =>
  have : smB n = true := smB_iff.2 (by have := h.1; have := h.2; omega)
  simp [valOf, anyForm, t0, this]
 | truth b => cases b <;> simp [valOf, anyForm, t0, s0, s1]
 | bits n =>
  have : smB n = true := smB_iff.2 (by have := h.1; have := h.2; omega)
  simp [valOf, anyForm, t0, this]
 | str s => simp [valOf, anyForm, t0, s0]
 | item t n => simp [valOf, anyForm, Bool.and_comm]
 | null => simp [valOf, anyForm, t0, s0]
 | other => simp [valOf, anyForm]
theorem fit_val (v : AnyD) : fwB (valOf v).text.size = anyFit v := by
 cases v <;> simp [valOf, anyFit, fwB] <;> rfl
theorem all_congr {α β : Type} {l : List α} {g : α → β} {p : β → Bool} {q : α → Bool} (h : ∀ x ∈ l, p (g x) = q x) : (l.map g).all p = l.all q := by
 rw [List.all_map]
 induction l with
 | nil => rfl
 | cons x l ih =>
  simp only [List.all_cons, Function.comp]
  rw [h x (by simp), ← ih (fun y hy => h y (by simp [hy]))]
theorem may_pl (f : FaceD) (h : ∀ x ∈ f.items, anyW x.v) : rmayP (facePl f) = mayP f := by
 have e1 : rfitB (facePl f) = faceFit f := by
  unfold rfitB faceFit facePl
  simp only [qlmq]
  congr 1
  exact all_congr fun x _ => by unfold pitFit itmFit pitmOf; simp only; rw [fit_val]
 have e2 : (facePl f).items.map PItm.name = f.items.map ItmD.name := by
  unfold facePl
  simp only [List.map_map]
  rfl
 have e3 : (facePl f).items.all (pitForm (facePl f).types.length) = f.items.all (itmForm f.types.length) := all_congr fun x hx => by
  unfold pitForm itmForm pitmOf
  simp only
  rw [← form_val _ _ (h x hx)]
  show _ = (_ && _ && (_ && _ && _))
  simp only [Bool.and_assoc]
  rfl
 unfold rmayP mayP faceForm
 rw [e1, e2, e3]
 rfl
structure RelOk {α : Type} (Rel : World → (Nat → Prop) → List Value → α → Prop) : Prop where
 keep : ∀ {w w' : World} {P : Nat → Prop} {l : List Nat} {ys : List Value} {x : α}, Rel w P ys x → Wr l w w' → (∀ b, P b → b ∉ l) → Rel w' P ys x
 into : ∀ {w : World} {P Q : Nat → Prop} {ys : List Value} {x : α}, Rel w P ys x → (∀ b, P b → b < w.heap.size → Q b) → Rel w Q ys x
theorem RelOk.keep' {α : Type} {Rel : World → (Nat → Prop) → List Value → α → Prop} (h : RelOk Rel) {w w' : World} {P : Nat → Prop} {l : List Nat} {ys : List Value} {x : α} (hr : Rel w P ys x) (r : Wr l w w') (hl : ∀ b, P b → b < w.heap.size → b ∉ l) : Rel w' P ys x :=
 h.into (h.keep (h.into hr (Q := fun b => P b ∧ b < w.heap.size) (fun b h1 h2 => ⟨h1, h2⟩)) r (fun b hb => hl b hb.1 hb.2)) (fun b hb _ => hb.1)
def TyRel (w : World) (P : Nat → Prop) (ys : List Value) (x : Ty) : Prop := ∃ vn vf va vp, ys = x.cells vn vf va vp ∧ Lists w P vn vf va vp x
theorem tyOk : RelOk TyRel where
 keep := fun ⟨va, vb, vc, vd, h, k1⟩ r hl => ⟨va, vb, vc, vd, h, k1.keep r hl⟩
 into := fun ⟨va, vb, vc, vd, h, k1⟩ hP => ⟨va, vb, vc, vd, h, k1.into hP⟩
def SlRel {α : Type} (Rel : World → (Nat → Prop) → List Value → α → Prop) (w : World) (P : Nat → Prop) (size : Nat) (v : Value) (l : List α) : Prop :=
 ∃ xs, Sl w P size v l.length xs ∧ (∀ u ∈ xs, u.oneCell' = true) ∧ ∀ i x, l[i]? = some x → ∃ ys, (∀ (j : Nat) u, ys[j]? = some u → xs[i * size + j]? = some u) ∧ Rel w P ys x
def RowG {α : Type} (Rel : World → (Nat → Prop) → List Value → α → Prop) (G : Nat → Prop) (size base : Nat) (T : TypeId) (v : Value) (acc : List α) (w : World) : Prop :=
 ∃ xs, w.ownsRow base T size v acc.length xs ∧ (∀ u ∈ xs, u.oneCell' = true) ∧ ∀ i x, acc[i]? = some x → ∃ ys, ys.length = size ∧ (∀ (j : Nat) u, ys[j]? = some u → xs[i * size + j]? = some u) ∧ Rel w (fun bl => G bl ∧ v.ownBlock ≠ some bl) ys x
section
variable {α : Type} {Rel : World → (Nat → Prop) → List Value → α → Prop} (ok : RelOk Rel) {G : Nat → Prop} {size base : Nat} {T : TypeId} {v : Value} {acc : List α} {w w' : World}
theorem RowG.nil (w : World) : RowG Rel G size base T (.slice none 0 0) [] w := ⟨[], World.ownsRow_nil _ _ _ _, by simp, fun i x h => by simp at h⟩
include ok
theorem RowG.keep (h : RowG Rel G size base T v acc w) {l : List Nat} (r : Wr l w w') (hl : ∀ q ∈ l, (q < base ∧ ¬ G q) ∨ w.heap.size ≤ q) : RowG Rel G size base T v acc w' := by
 obtain ⟨xs, ho, h1, h2⟩ := h
 refine ⟨xs, own_keep ho r (fun q hq hm => ?_), h1, fun i x hi => ?_⟩
 ·have := ho.lt q hq
  have := hl q hm
  omega
 ·obtain ⟨ys, e1, e2, e3⟩ := h2 i x hi
  exact ⟨ys, e1, e2, ok.keep' e3 r (fun q hq hlt hm => by
   rcases hl q hm with h | h
   ·exact h.2 hq.1
   ·omega)⟩
theorem RowG.out (h : RowG Rel G size base T v acc w) : SlRel Rel w (fun _ => True) size v acc := by
 obtain ⟨xs, ho, h1, h2⟩ := h
 refine ⟨xs, Sl.ofOwn ho (fun b hb => trivial), h1, fun i x hi => ?_⟩
 obtain ⟨ys, e1, e2, e3⟩ := h2 i x hi
 exact ⟨ys, e2, ok.into e3 (fun b hb _ => trivial)⟩
theorem RowG.outQ (h : RowG Rel G size base T v acc w) {Q : Nat → Prop} (hG : ∀ b, G b → Q b) (hB : ∀ b, base ≤ b → Q b) : SlRel Rel w Q size v acc := by
 obtain ⟨xs, ho, h1, h2⟩ := h
 refine ⟨xs, Sl.ofOwn ho (fun b hb => hB b (ho.lt b hb).1), h1, fun i x hi => ?_⟩
 obtain ⟨ys, e1, e2, e3⟩ := h2 i x hi
 exact ⟨ys, e2, ok.into e3 (fun b hb _ => hG b hb.1)⟩
theorem RowG.push {bytes : Nat} {t : TypeId} {i0 : TypeInfo} {z : Value} (hu : Tryz.prog.underlying t = some (.slice T)) (hi : Tryz.prog.info? T = some i0) (hz0 : i0.zero = some z) (hz1 : i0.size = size) (hz2 : i0.bytes = bytes) (hzs : z.cells.size = size) (hsz : 0 < size)
  (h : RowG Rel G size base T v acc w) {B : Nat} {ys : List Value} (hB : Blk w B T ys.toArray) (hys : ys.length = size) (h1 : ∀ u ∈ ys, u.oneCell' = true) {x : α} (hx : Rel w (fun bl => G bl ∧ v.ownBlock ≠ some bl) ys x) (hk : acc.length ≤ 65535) (hby : bytes ≤ 1000) (hbase : base ≤ w.heap.size) :
  ∃ A c w', (Builtin.append_ #[t, t] t #[v, .slice (some ⟨B, 0, none⟩) 1 1]).run Tryz.prog w = .ok (.slice A (acc.length + 1) c) w' ∧ RowG Rel G size base T (.slice A (acc.length + 1) c) (acc ++ [x]) w' ∧ Wr (ownL v) w w' := by
 obtain ⟨xs, ho, h2, h3⟩ := h
 have hbb : (acc.length + 1) * bytes ≤ 140737488355328 := by
  have : (acc.length + 1) * bytes ≤ 65536 * 1000 := Nat.mul_le_mul (by omega) hby
  omega
 obtain ⟨v', w', hrun, hown, hgrow, _, hbk⟩ := run_append_own_at (P := Tryz.prog) w base t t T i0 z size bytes hu hi hz0 hz1 hz2 hzs hsz v acc.length _ ho ⟨B, 0, none⟩ 1 1 ys (by rw [hys]; omega) (fun jj u hu => by
  rw [Addr.add_lit, Nat.zero_add, hB.cell, qgaq]
  exact hu) h1 (by unfold maxLen; omega) hbb hbase
 obtain ⟨A7, c7, hv7⟩ : ∃ A c, v' = .slice A (acc.length + 1) c := by
  rcases hown.2 with ⟨_, h0⟩ | ⟨gg, cap, cur, e, _⟩
  ·omega
  ·exact ⟨_, _, e⟩
 subst hv7
 have rA : Wr (ownL v) w w' := Wr.ofGrownOwn hgrow
 have hnew : ∀ {ys : List Value} {x : α}, Rel w (fun bl => G bl ∧ v.ownBlock ≠ some bl) ys x → Rel w' (fun bl => G bl ∧ (Value.slice A7 (acc.length + 1) c7).ownBlock ≠ some bl) ys x := by
  intro ys x hr
  refine ok.into (ok.keep (ok.into hr (Q := fun bl => (G bl ∧ v.ownBlock ≠ some bl) ∧ bl < w.heap.size) (fun b h1 h2 => ⟨h1, h2⟩)) rA (fun b hb hm => hb.1.2 (mem_ownL.1 hm))) (fun b hb _ => ⟨hb.1.1, fun e => ?_⟩)
  rcases hbk with h | h
  ·exact hb.1.2 (h ▸ e)
  ·rw [h] at e
   injection e with e
   have := hb.2
   omega
 refine ⟨A7, c7, w', hrun, ⟨xs ++ ys, by rw [qlaq]; exact hown, fun u hu => ?_, fun i y hy => ?_⟩, rA⟩
 ·rcases List.mem_append.1 hu with h | h
  ·exact h2 u h
  ·exact h1 u h
 ·by_cases hi : i < acc.length
  ·rw [qglq hi] at hy
   obtain ⟨zs, e1, e2, e3⟩ := h3 i y hy
   refine ⟨zs, e1, fun j u hj => ?_, hnew e3⟩
   have := e2 j u hj
   rw [qglq (List.getElem?_eq_some_iff.1 this).1]
   exact this
  ·have hil := (List.getElem?_eq_some_iff.1 hy).1
   rw [qlaq, List.length_singleton] at hil
   obtain rfl : i = acc.length := by omega
   rw [qgrq (Nat.le_refl _), Nat.sub_self, qgzq] at hy
   obtain rfl : x = y := by simpa using hy
   refine ⟨ys, hys, fun j u hj => ?_, hnew hx⟩
   rw [qgrq (by rw [ho.1]; omega), ho.1, Nat.add_sub_cancel_left]
   exact hj
end
theorem RowG.form {α : Type} {Rel : World → (Nat → Prop) → List Value → α → Prop} {G : Nat → Prop} {size base : Nat} {T : TypeId} {v : Value} {acc : List α} {w : World} (h : RowG Rel G size base T v acc w) : ∃ A c, v = .slice A acc.length c ∧ ∀ q, q ∈ ownL v → base ≤ q ∧ q < w.heap.size := by
 obtain ⟨xs, ho, _⟩ := h
 obtain ⟨A, c, e, _, _⟩ := own_form ho
 exact ⟨A, c, e, fun q hq => ho.lt q (mem_ownL.1 hq)⟩
theorem SlRel.tys {w : World} {P : Nat → Prop} {v : Value} {l : List Ty} (h : SlRel TyRel w P 12 v l) : SlTys w P v l := by
 obtain ⟨xs, h1, h2, h3⟩ := h
 refine ⟨xs, h1, h2, fun i x hi => ?_⟩
 obtain ⟨ys, e, vn, vf, va, vp, rfl, kl⟩ := h3 i x hi
 exact ⟨vn, vf, va, vp, e, kl⟩
end Go.Proofs.YtjanbpchedgoiaaGreat
