/- ref 14's formed: walked. Conditions: no more than 1000000 types. -/
import Derived.Test.YtjanbpchedgoiaaGreatKT27
set_option linter.unusedVariables false
set_option linter.unusedSimpArgs false
set_option maxRecDepth 100000
set_option maxHeartbeats 32000000
namespace Go.Proofs.YtjanbpchedgoiaaGreat
open Go.RowKit
theorem formed_r (s : ByteArray) (Au A Ai : Option Addr) (nu cu nt c ni ci : Nat) (hnt : nt ≤ 1000000) (t : Ty) (vn vf va vp : Value) (P : Nat → Prop) (w : World) (h : Lists w P vn vf va vp t) :
  Calls Tryz.prog 66 #[.agg #[.string s, .slice Au nu cu, .slice A nt c, .slice Ai ni ci], .agg #[.int .u8 t.kind, .string t.module, .string t.name, .int .i64 t.base, .int .i64 t.index, .int .i64 t.low, .int .i64 t.high, vn, vf, va, vp, .int .i64 t.result]] w fun e w' => e = .returned (.bool (tyForm nt t)) ∧ Wr [] w w' := by
 obtain ⟨⟨A1, k1, rfl, hn1, hn2⟩, ⟨A2, k2, rfl, hf1, hf2⟩, ⟨A3, k3, rfl, ha1, ha2⟩, ⟨A4, k4, rfl, hp1, hp2⟩⟩ := h.forms
 unfold maxLen at hn2 hf2 ha2 hp2
 obtain ⟨wa, hwa⟩ : ∃ q, w.alloc (.cells #[.string s, .slice Au nu cu, .slice A nt c, .slice Ai ni ci] 27) = q := ⟨_, rfl⟩
 obtain ⟨g, hg⟩ : ∃ g, w.heap.size = g := ⟨_, rfl⟩
 have sa : wa.heap.size = g + 1 := by rw [← hwa, qsiq, hg]
 obtain ⟨w0, hw0⟩ : ∃ q, wa.alloc (.cells #[.int .u8 t.kind, .string t.module, .string t.name, .int .i64 t.base, .int .i64 t.index, .int .i64 t.low, .int .i64 t.high, .slice A1 t.names.length k1, .slice A2 t.fields.length k2, .slice A3 t.arms.length k3, .slice A4 t.params.length k4, .int .i64 t.result] 52) = q := ⟨_, rfl⟩
 have ra : Wr [] w wa := by rw [← hwa]; exact (Wr.refl _ _).alloc _
 have rb : Wr [] wa w0 := by rw [← hw0]; exact (Wr.refl _ _).alloc _
 have bF : Blk w0 g 27 #[.string s, .slice Au nu cu, .slice A nt c, .slice Ai ni ci] := by
  have := (show Blk wa g 27 #[.string s, .slice Au nu cu, .slice A nt c, .slice Ai ni ci] by rw [← hwa, ← hg]; exact Blk.new _ _ _)
  exact this.wr0 rb
 have bT : Blk w0 (g + 1) 52 #[.int .u8 t.kind, .string t.module, .string t.name, .int .i64 t.base, .int .i64 t.index, .int .i64 t.low, .int .i64 t.high, .slice A1 t.names.length k1, .slice A2 t.fields.length k2, .slice A3 t.arms.length k3, .slice A4 t.params.length k4, .int .i64 t.result] := by rw [← hw0, ← sa]; exact Blk.new _ _ _
 have hw0' : (w.alloc (.cells #[.string s, .slice Au nu cu, .slice A nt c, .slice Ai ni ci] 27)).alloc (.cells #[.int .u8 t.kind, .string t.module, .string t.name, .int .i64 t.base, .int .i64 t.index, .int .i64 t.low, .int .i64 t.high, .slice A1 t.names.length k1, .slice A2 t.fields.length k2, .slice A3 t.arms.length k3, .slice A4 t.params.length k4, .int .i64 t.result] 52) = w0 := by rw [hwa, hw0]
 have acc := ra.trans rb
 have g1 := fun W => typ_m s (.slice Au nu cu) (.slice Ai ni ci) A nt c hnt t.base W
 have g2 := fun W => typ_m s (.slice Au nu cu) (.slice Ai ni ci) A nt c hnt t.index W
 have g3 := fun W => typ_m s (.slice Au nu cu) (.slice Ai ni ci) A nt c hnt t.result W
 have g4 := fun W => small_r t.low W
 have g5 := fun W => small_r t.high W
 obtain ⟨b1, e1⟩ : ∃ q, tyB nt t.base = q := ⟨_, rfl⟩
 obtain ⟨b2, e2⟩ : ∃ q, tyB nt t.index = q := ⟨_, rfl⟩
 obtain ⟨b3, e3⟩ : ∃ q, tyB nt t.result = q := ⟨_, rfl⟩
 obtain ⟨b4, e4⟩ : ∃ q, smB t.low = q := ⟨_, rfl⟩
 obtain ⟨b5, e5⟩ : ∃ q, smB t.high = q := ⟨_, rfl⟩
 obtain ⟨b6, e6⟩ : ∃ q, t.fields.all (fun f => tyB nt f.type && smB f.arm) = q := ⟨_, rfl⟩
 obtain ⟨b7, e7⟩ : ∃ q, t.arms.all armForm = q := ⟨_, rfl⟩
 obtain ⟨b8, e8⟩ : ∃ q, t.params.all (fun p => tyB nt p.type) = q := ⟨_, rfl⟩
 obtain ⟨rr, hrr⟩ : ∃ r, tyForm nt t = r := ⟨_, rfl⟩
 have hv : rr = (b1 && b2 && b3 && b4 && b5 && b6 && b7 && b8) := by
  rw [← hrr]
  unfold tyForm
  rw [e1, e2, e3, e4, e5, e6, e7, e8]
 rw [hrr]
 simp only [e1] at g1
 simp only [e2] at g2
 simp only [e3] at g3
 simp only [e4] at g4
 simp only [e5] at g5
 have G1 := qh g1
 have G2 := qh g2
 have G3 := qh g3
 have G4 := qh g4
 have G5 := qh g5
 have E6 := qh e6
 have E7 := qh e7
 have E8 := qh e8
 have HV := qh hv
 have HW0 := qh hw0'
 have HG := qh hg
 have ACC := qh acc
 have BF := qh bF
 have BT := qh bT
 have HH := qh (h.wr0 acc)
 have d0 := (bF).cell 0
 have d1 := (bF).cell 1
 have d2 := (bF).cell 2
 have d3 := (bF).cell 3
 simp only [qgaq, qgzq, qgsq] at d0 d1 d2 d3
 have c3 := (bT).cell 3
 have c4 := (bT).cell 4
 have c5 := (bT).cell 5
 have c6 := (bT).cell 6
 have c11 := (bT).cell 11
 simp only [qgaq, qgzq, qgsq] at c3 c4 c5 c6 c11
 clear g1 g2 g3 g4 g5 e1 e2 e3 e4 e5 e6 e7 e8 hv hrr hw0 hw0' hwa sa ra rb hg acc bF bT h
 go_enter Tryz.func66, Tryz.ntmps66
 go_upto_region 1 with (fail)
 rw [HW0.out, HG.out]
 go_wp2_with fail
 refine (G1.out _).mono ?_
 rintro e w1 ⟨rfl, q1⟩
 have RR1 := qh ((Wr.refl [] w0).trans q1)
 clear q1 d0 d1 d2 d3 c3 c4 c5 c6 c11
 have d0 := (BF.out.wr0 (RR1.out)).cell 0
 have d1 := (BF.out.wr0 (RR1.out)).cell 1
 have d2 := (BF.out.wr0 (RR1.out)).cell 2
 have d3 := (BF.out.wr0 (RR1.out)).cell 3
 simp only [qgaq, qgzq, qgsq] at d0 d1 d2 d3
 have c3 := (BT.out.wr0 (RR1.out)).cell 3
 have c4 := (BT.out.wr0 (RR1.out)).cell 4
 have c5 := (BT.out.wr0 (RR1.out)).cell 5
 have c6 := (BT.out.wr0 (RR1.out)).cell 6
 have c11 := (BT.out.wr0 (RR1.out)).cell 11
 simp only [qgaq, qgzq, qgsq] at c3 c4 c5 c6 c11
 cases b1 with
 | false =>
  obtain rfl : rr = false := by rw [HV.out]; simp
  clear HV
  go_wp2_with fail
  go_ret
  exact ⟨rfl, ACC.out.trans (RR1.out)⟩
 | true =>
 go_wp2_with fail
 refine (G2.out _).mono ?_
 rintro e w2 ⟨rfl, q2⟩
 have RR2 := qh ((RR1.out).trans q2)
 clear q2 d0 d1 d2 d3 c3 c4 c5 c6 c11
 have d0 := (BF.out.wr0 (RR2.out)).cell 0
 have d1 := (BF.out.wr0 (RR2.out)).cell 1
 have d2 := (BF.out.wr0 (RR2.out)).cell 2
 have d3 := (BF.out.wr0 (RR2.out)).cell 3
 simp only [qgaq, qgzq, qgsq] at d0 d1 d2 d3
 have c3 := (BT.out.wr0 (RR2.out)).cell 3
 have c4 := (BT.out.wr0 (RR2.out)).cell 4
 have c5 := (BT.out.wr0 (RR2.out)).cell 5
 have c6 := (BT.out.wr0 (RR2.out)).cell 6
 have c11 := (BT.out.wr0 (RR2.out)).cell 11
 simp only [qgaq, qgzq, qgsq] at c3 c4 c5 c6 c11
 cases b2 with
 | false =>
  obtain rfl : rr = false := by rw [HV.out]; simp
  clear HV
  go_wp2_with fail
  go_ret
  exact ⟨rfl, ACC.out.trans (RR2.out)⟩
 | true =>
 go_wp2_with fail
 refine (G3.out _).mono ?_
 rintro e w3 ⟨rfl, q3⟩
 have RR3 := qh ((RR2.out).trans q3)
 clear q3 d0 d1 d2 d3 c3 c4 c5 c6 c11
 have d0 := (BF.out.wr0 (RR3.out)).cell 0
 have d1 := (BF.out.wr0 (RR3.out)).cell 1
 have d2 := (BF.out.wr0 (RR3.out)).cell 2
 have d3 := (BF.out.wr0 (RR3.out)).cell 3
 simp only [qgaq, qgzq, qgsq] at d0 d1 d2 d3
 have c3 := (BT.out.wr0 (RR3.out)).cell 3
 have c4 := (BT.out.wr0 (RR3.out)).cell 4
 have c5 := (BT.out.wr0 (RR3.out)).cell 5
 have c6 := (BT.out.wr0 (RR3.out)).cell 6
 have c11 := (BT.out.wr0 (RR3.out)).cell 11
 simp only [qgaq, qgzq, qgsq] at c3 c4 c5 c6 c11
 cases b3 with
 | false =>
  obtain rfl : rr = false := by rw [HV.out]; simp
  clear HV
  go_wp2_with fail
  go_ret
  exact ⟨rfl, ACC.out.trans (RR3.out)⟩
 | true =>
 go_wp2_with fail
 refine (G4.out _).mono ?_
 rintro e w4 ⟨rfl, rfl⟩
 cases b4 with
 | false =>
  obtain rfl : rr = false := by rw [HV.out]; simp
  clear HV
  go_wp2_with fail
  go_ret
  exact ⟨rfl, ACC.out.trans (RR3.out)⟩
 | true =>
 go_wp2_with fail
 refine (G5.out _).mono ?_
 rintro e w5 ⟨rfl, rfl⟩
 cases b5 with
 | false =>
  obtain rfl : rr = false := by rw [HV.out]; simp
  clear HV
  go_wp2_with fail
  go_ret
  exact ⟨rfl, ACC.out.trans (RR3.out)⟩
 | true =>
 go_wp2_with fail
 clear d0 d1 d2 d3 c3 c4 c5 c6 c11
 go_loopw [5] (fun i wr => ∃ k : Nat, k ≤ t.fields.length ∧ i = .int .i64 k ∧ LgAt w0 t.fields (fun f => tyB nt f.type && smB f.arm) k wr) (fun i _ => t.fields.length - (intOf i).toNat)
 case atStart => exact ⟨0, by omega, rfl, RR3.out, rfl⟩
 case round =>
  obtain ⟨k, hk, rfl, rw1, hall⟩ := hrel
  have RW := qh rw1
  have HALL := qh hall
  have c8 := (BT.out.wr0 rw1).cell 8
  simp only [qgaq, qgzq, qgsq] at c8
  clear hall rw1
  by_cases hlt : k < t.fields.length
  ·obtain ⟨x, hx⟩ : ∃ x, t.fields[k]? = some x := ⟨_, qgeq hlt⟩
   obtain ⟨b, off, c', e, _, hc⟩ := fld_at HH.out.fields hx
   injection e with e1 e2 e3
   subst e1 e3
   have x1 := RW.out.cellOf (hc 1 _ rfl) (by simp)
   have x2 := RW.out.cellOf (hc 2 _ rfl) (by simp)
   have gx := fun W => typ_m s (.slice Au nu cu) (.slice Ai ni ci) A nt c hnt x.type W
   have gy := fun W => small_r x.arm W
   obtain ⟨px, hpx⟩ : ∃ q, tyB nt x.type = q := ⟨_, rfl⟩
   obtain ⟨py, hpy⟩ : ∃ q, smB x.arm = q := ⟨_, rfl⟩
   have hpp : (tyB nt x.type && smB x.arm) = (px && py) := by rw [hpx, hpy]
   simp only [hpx] at gx
   simp only [hpy] at gy
   have GX := qh gx
   have GY := qh gy
   have HPP := qh hpp
   have HX := qh hx
   have hlti : (k : Int) < (t.fields.length : Int) := by omega
   have hk0 : (0 : Int) ≤ (k : Int) := by omega
   clear gx gy hpx hpy hpp hx hc e2
   have d0 := (BF.out.wr0 RW.out).cell 0
   have d1 := (BF.out.wr0 RW.out).cell 1
   have d2 := (BF.out.wr0 RW.out).cell 2
   have d3 := (BF.out.wr0 RW.out).cell 3
   simp only [qgaq, qgzq, qgsq] at d0 d1 d2 d3
   go_upto_region 6 with (fail)
   cases px with
   | false =>
    have hC : ∀ W, Wr [] wr W → W.cell? ⟨g, 0, none⟩ = some (.string s) ∧ W.cell? ⟨g, 1, none⟩ = some (.slice Au nu cu) ∧ W.cell? ⟨g, 2, none⟩ = some (.slice A nt c) ∧ W.cell? ⟨g, 3, none⟩ = some (.slice Ai ni ci) ∧ W.cell? ⟨g + 1, 8, none⟩ = some (.slice (some ⟨b, off, none⟩) t.fields.length k2) ∧ W.cell? ⟨b, off + k * 3 + 1, none⟩ = some (.int .i64 x.type) ∧ W.cell? ⟨b, off + k * 3 + 2, none⟩ = some (.int .i64 x.arm) := fun W hW => ⟨hW.cellOf d0 (by simp), hW.cellOf d1 (by simp), hW.cellOf d2 (by simp), hW.cellOf d3 (by simp), hW.cellOf c8 (by simp), hW.cellOf x1 (by simp), hW.cellOf x2 (by simp)⟩
    have HC := qh hC
    clear hC
    refine wp_region_noPanic ?_
    refine wp_region_L (AlwO fun w' => w'.cell? ⟨g, 0, none⟩ = some (.string s) ∧ w'.cell? ⟨g, 1, none⟩ = some (.slice Au nu cu) ∧ w'.cell? ⟨g, 2, none⟩ = some (.slice A nt c) ∧ w'.cell? ⟨g, 3, none⟩ = some (.slice Ai ni ci) ∧ w'.cell? ⟨g + 1, 8, none⟩ = some (.slice (some ⟨b, off, none⟩) t.fields.length k2) ∧ w'.cell? ⟨b, off + k * 3 + 1, none⟩ = some (.int .i64 x.type) ∧ w'.cell? ⟨b, off + k * 3 + 2, none⟩ = some (.int .i64 x.arm)) (by kernel_rfl) (fun hcl => ?_)
    have hS : AlwO (fun w' => w'.cell? ⟨g, 0, none⟩ = some (.string s) ∧ w'.cell? ⟨g, 1, none⟩ = some (.slice Au nu cu) ∧ w'.cell? ⟨g, 2, none⟩ = some (.slice A nt c) ∧ w'.cell? ⟨g, 3, none⟩ = some (.slice Ai ni ci) ∧ w'.cell? ⟨g + 1, 8, none⟩ = some (.slice (some ⟨b, off, none⟩) t.fields.length k2) ∧ w'.cell? ⟨b, off + k * 3 + 1, none⟩ = some (.int .i64 x.type) ∧ w'.cell? ⟨b, off + k * 3 + 2, none⟩ = some (.int .i64 x.arm)) (Array.replicate 19 false) wr.drew := ⟨d0, d1, d2, d3, c8, x1, x2⟩
    refine wpAnyL_take (i := 0) (oi := ?oi201) (v := ?v201) ?hi201 (by kernel_rfl) (by kernel_rfl) (by kernel_rfl) (fun _ _ _ h => h) (alwO_take _) ?hy201 hcl hS ?rest201
    case hi201 =>
     simp only [qgaq, qgsq, qgzq]
     rfl
    case hy201 =>
     refine yields_alwO (Or.inl ⟨by rfl, fun w' hS => ?_⟩)
     try go_split_ands
     go_simp
     try rfl
    case rest201 =>
    intro hcl201 hS201
    clear hcl hS
    try simp only [Act.put, qsaq, qszq, qssq]
    refine wpAnyL_take (i := 1) (oi := ?oi202) (v := ?v202) ?hi202 (by kernel_rfl) (by kernel_rfl) (by kernel_rfl) (fun _ _ _ h => h) (alwO_take _) ?hy202 hcl201 hS201 ?rest202
    case hi202 =>
     simp only [qgaq, qgsq, qgzq]
     rfl
    case hy202 =>
     refine yields_alwO (Or.inl ⟨by rfl, fun w' hS => ?_⟩)
     try go_split_ands
     go_simp
     try rfl
    case rest202 =>
    intro hcl202 hS202
    clear hcl201 hS201
    try simp only [Act.put, qsaq, qszq, qssq]
    refine wpAnyL_take (i := 2) (oi := ?oi203) (v := ?v203) ?hi203 (by kernel_rfl) (by kernel_rfl) (by kernel_rfl) (fun _ _ _ h => h) (alwO_take _) ?hy203 hcl202 hS202 ?rest203
    case hi203 =>
     simp only [qgaq, qgsq, qgzq]
     rfl
    case hy203 =>
     refine yields_alwO (Or.inl ⟨by rfl, fun w' hS => ?_⟩)
     try go_split_ands
     go_simp
     try rfl
    case rest203 =>
    intro hcl203 hS203
    clear hcl202 hS202
    try simp only [Act.put, qsaq, qszq, qssq]
    refine wpAnyL_take (i := 3) (oi := ?oi204) (v := ?v204) ?hi204 (by kernel_rfl) (by kernel_rfl) (by kernel_rfl) (fun _ _ _ h => h) (alwO_take _) ?hy204 hcl203 hS203 ?rest204
    case hi204 =>
     simp only [qgaq, qgsq, qgzq]
     rfl
    case hy204 =>
     refine yields_alwO (Or.inl ⟨by rfl, fun w' hS => ?_⟩)
     try go_split_ands
     go_simp
     try rfl
    case rest204 =>
    intro hcl204 hS204
    clear hcl203 hS203
    try simp only [Act.put, qsaq, qszq, qssq]
    refine wpAnyL_take (i := 4) (oi := ?oi205) (v := ?v205) ?hi205 (by kernel_rfl) (by kernel_rfl) (by kernel_rfl) (fun _ _ _ h => h) (alwO_take _) ?hy205 hcl204 hS204 ?rest205
    case hi205 =>
     simp only [qgaq, qgsq, qgzq]
     rfl
    case hy205 =>
     refine yields_alwO (Or.inl ⟨by rfl, fun w' hS => ?_⟩)
     try go_split_ands
     go_simp
     try rfl
    case rest205 =>
    intro hcl205 hS205
    clear hcl204 hS204
    try simp only [Act.put, qsaq, qszq, qssq]
    refine wpAnyL_take (i := 5) (oi := ?oi206) (v := ?v206) ?hi206 (by kernel_rfl) (by kernel_rfl) (by kernel_rfl) (fun _ _ _ h => h) (alwO_take _) ?hy206 hcl205 hS205 ?rest206
    case hi206 =>
     simp only [qgaq, qgsq, qgzq]
     rfl
    case hy206 =>
     refine yields_alwO (Or.inl ⟨by rfl, fun w' hS => ?_⟩)
     try go_split_ands
     go_simp
     try rfl
    case rest206 =>
    intro hcl206 hS206
    clear hcl205 hS205
    try simp only [Act.put, qsaq, qszq, qssq]
    refine wpAnyL_take (i := 6) (oi := ?oi207) (v := ?v207) ?hi207 (by kernel_rfl) (by kernel_rfl) (by kernel_rfl) (fun _ _ _ h => h) (alwO_take _) ?hy207 hcl206 hS206 ?rest207
    case hi207 =>
     simp only [qgaq, qgsq, qgzq]
     rfl
    case hy207 =>
     refine yields_alwO (Or.inl ⟨by rfl, fun w' hS => ?_⟩)
     try go_split_ands
     go_simp
     try rfl
    case rest207 =>
    intro hcl207 hS207
    clear hcl206 hS206
    try simp only [Act.put, qsaq, qszq, qssq]
    refine wpAnyL_step (i := 7) (o := ?oi208) ?hi208 (by kernel_rfl) hcl207 ?rest208
    case hi208 =>
     simp only [qgaq, qgsq, qgzq]
     rfl
    case rest208 =>
    intro K hK
    go_simp
    go_at_call 67
    refine (GX.out _).mono ?_
    rintro e a1 ⟨rfl, a1q⟩
    have a1r := ((Wr.refl [] wr).drew).trans a1q
    clear a1q
    refine hK _ _ (HC.out _ a1r) (fun hcl208 => ?_)
    clear hK K hcl207 hS207
    try simp only [Act.put, qsaq, qszq, qssq]
    refine wpAnyL_take (i := 8) (oi := ?oi209) (v := ?v209) ?hi209 (by kernel_rfl) (by kernel_rfl) (by kernel_rfl) (fun _ _ _ h => h) (alwO_take _) ?hy209 hcl208 (HC.out _ a1r) ?rest209
    case hi209 =>
     simp only [qgaq, qgsq, qgzq]
     rfl
    case hy209 =>
     refine yields_alwO (Or.inl ⟨by rfl, fun w' hS => ?_⟩)
     try go_split_ands
     go_simp
     try rfl
    case rest209 =>
    intro hcl209 hS209
    clear hcl208
    try simp only [Act.put, qsaq, qszq, qssq]
    refine wpAnyL_take (i := 9) (oi := ?oi210) (v := ?v210) ?hi210 (by kernel_rfl) (by kernel_rfl) (by kernel_rfl) (fun _ _ _ h => h) (alwO_take _) ?hy210 hcl209 hS209 ?rest210
    case hi210 =>
     simp only [qgaq, qgsq, qgzq]
     rfl
    case hy210 =>
     refine yields_alwO (Or.inl ⟨by rfl, fun w' hS => ?_⟩)
     try go_split_ands
     go_simp
     try rfl
    case rest210 =>
    intro hcl210 hS210
    clear hcl209 hS209
    try simp only [Act.put, qsaq, qszq, qssq]
    refine wpAnyL_take (i := 10) (oi := ?oi211) (v := undef) ?hi211 (by kernel_rfl) (by kernel_rfl) (by kernel_rfl) (fun _ _ _ h => h) (alwO_take _) ?hy211 hcl210 hS210 ?rest211
    case hi211 =>
     simp only [qgaq, qgsq, qgzq]
     rfl
    case hy211 => exact yields_alwO (Or.inr ⟨by rfl, rfl⟩)
    case rest211 =>
    intro hcl211 hS211
    clear hcl210 hS210
    try simp only [Act.put, qsaq, qszq, qssq]
    refine wpAnyL_take (i := 11) (oi := ?oi212) (v := undef) ?hi212 (by kernel_rfl) (by kernel_rfl) (by kernel_rfl) (fun _ _ _ h => h) (alwO_take _) ?hy212 hcl211 hS211 ?rest212
    case hi212 =>
     simp only [qgaq, qgsq, qgzq]
     rfl
    case hy212 => exact yields_alwO (Or.inr ⟨by rfl, rfl⟩)
    case rest212 =>
    intro hcl212 hS212
    clear hcl211 hS211
    try simp only [Act.put, qsaq, qszq, qssq]
    refine wpAnyL_take (i := 12) (oi := ?oi213) (v := undef) ?hi213 (by kernel_rfl) (by kernel_rfl) (by kernel_rfl) (fun _ _ _ h => h) (alwO_take _) ?hy213 hcl212 hS212 ?rest213
    case hi213 =>
     simp only [qgaq, qgsq, qgzq]
     rfl
    case hy213 => exact yields_alwO (Or.inr ⟨by rfl, rfl⟩)
    case rest213 =>
    intro hcl213 hS213
    clear hcl212 hS212
    try simp only [Act.put, qsaq, qszq, qssq]
    refine wpAnyL_take (i := 13) (oi := ?oi214) (v := undef) ?hi214 (by kernel_rfl) (by kernel_rfl) (by kernel_rfl) (fun _ _ _ h => h) (alwO_take _) ?hy214 hcl213 hS213 ?rest214
    case hi214 =>
     simp only [qgaq, qgsq, qgzq]
     rfl
    case hy214 => exact yields_alwO (Or.inr ⟨by rfl, rfl⟩)
    case rest214 =>
    intro hcl214 hS214
    clear hcl213 hS213
    try simp only [Act.put, qsaq, qszq, qssq]
    refine wpAnyL_take (i := 14) (oi := ?oi215) (v := undef) ?hi215 (by kernel_rfl) (by kernel_rfl) (by kernel_rfl) (fun _ _ _ h => h) (alwO_take _) ?hy215 hcl214 hS214 ?rest215
    case hi215 =>
     simp only [qgaq, qgsq, qgzq]
     rfl
    case hy215 => exact yields_alwO (Or.inr ⟨by rfl, rfl⟩)
    case rest215 =>
    intro hcl215 hS215
    clear hcl214 hS214
    try simp only [Act.put, qsaq, qszq, qssq]
    refine wpAnyL_take (i := 15) (oi := ?oi216) (v := undef) ?hi216 (by kernel_rfl) (by kernel_rfl) (by kernel_rfl) (fun _ _ _ h => h) (alwO_take _) ?hy216 hcl215 hS215 ?rest216
    case hi216 =>
     simp only [qgaq, qgsq, qgzq]
     rfl
    case hy216 => exact yields_alwO (Or.inr ⟨by rfl, rfl⟩)
    case rest216 =>
    intro hcl216 hS216
    clear hcl215 hS215
    try simp only [Act.put, qsaq, qszq, qssq]
    refine wpAnyL_take (i := 16) (oi := ?oi217) (v := undef) ?hi217 (by kernel_rfl) (by kernel_rfl) (by kernel_rfl) (fun _ _ _ h => h) (alwO_take _) ?hy217 hcl216 hS216 ?rest217
    case hi217 =>
     simp only [qgaq, qgsq, qgzq]
     rfl
    case hy217 => exact yields_alwO (Or.inr ⟨by rfl, rfl⟩)
    case rest217 =>
    intro hcl217 hS217
    clear hcl216 hS216
    try simp only [Act.put, qsaq, qszq, qssq]
    refine wpAnyL_take (i := 17) (oi := ?oi218) (v := undef) ?hi218 (by kernel_rfl) (by kernel_rfl) (by kernel_rfl) (fun _ _ _ h => h) (alwO_take _) ?hy218 hcl217 hS217 ?rest218
    case hi218 =>
     simp only [qgaq, qgsq, qgzq]
     rfl
    case hy218 => exact yields_alwO (Or.inr ⟨by rfl, rfl⟩)
    case rest218 =>
    intro hcl218 hS218
    clear hcl217 hS217
    try simp only [Act.put, qsaq, qszq, qssq]
    refine wpAnyL_take (i := 18) (oi := ?oi219) (v := ?v219) ?hi219 (by kernel_rfl) (by kernel_rfl) (by kernel_rfl) (fun _ _ _ h => h) (alwO_take _) ?hy219 hcl218 hS218 ?rest219
    case hi219 =>
     simp only [qgaq, qgsq, qgzq]
     rfl
    case hy219 =>
     refine yields_alwO (Or.inl ⟨by rfl, fun w' hS => ?_⟩)
     try go_split_ands
     go_simp
     try rfl
    case rest219 =>
    intro hcl219 hS219
    clear hcl218 hS218
    try simp only [Act.put, qsaq, qszq, qssq]
    refine wpAnyL_done (by kernel_rfl) (NoPanic.normal ?_) _
    try simp only [Act.put, qsaq, qszq, qssq]
    obtain rfl : b6 = false := by rw [← E6.out]; exact allF_no HX.out (by rw [HPP.out]; rfl)
    obtain rfl : rr = false := by rw [HV.out]; simp
    clear HV
    go_wp2_with fail
    go_ret
    exact ⟨rfl, ACC.out.trans (RW.out.trans a1r)⟩
   | true =>
    have hC : ∀ W, Wr [] wr W → W.cell? ⟨g, 0, none⟩ = some (.string s) ∧ W.cell? ⟨g, 1, none⟩ = some (.slice Au nu cu) ∧ W.cell? ⟨g, 2, none⟩ = some (.slice A nt c) ∧ W.cell? ⟨g, 3, none⟩ = some (.slice Ai ni ci) ∧ W.cell? ⟨g + 1, 8, none⟩ = some (.slice (some ⟨b, off, none⟩) t.fields.length k2) ∧ W.cell? ⟨b, off + k * 3 + 1, none⟩ = some (.int .i64 x.type) ∧ W.cell? ⟨b, off + k * 3 + 2, none⟩ = some (.int .i64 x.arm) := fun W hW => ⟨hW.cellOf d0 (by simp), hW.cellOf d1 (by simp), hW.cellOf d2 (by simp), hW.cellOf d3 (by simp), hW.cellOf c8 (by simp), hW.cellOf x1 (by simp), hW.cellOf x2 (by simp)⟩
    have HC := qh hC
    clear hC
    refine wp_region_noPanic ?_
    refine wp_region_L (AlwO fun w' => w'.cell? ⟨g, 0, none⟩ = some (.string s) ∧ w'.cell? ⟨g, 1, none⟩ = some (.slice Au nu cu) ∧ w'.cell? ⟨g, 2, none⟩ = some (.slice A nt c) ∧ w'.cell? ⟨g, 3, none⟩ = some (.slice Ai ni ci) ∧ w'.cell? ⟨g + 1, 8, none⟩ = some (.slice (some ⟨b, off, none⟩) t.fields.length k2) ∧ w'.cell? ⟨b, off + k * 3 + 1, none⟩ = some (.int .i64 x.type) ∧ w'.cell? ⟨b, off + k * 3 + 2, none⟩ = some (.int .i64 x.arm)) (by kernel_rfl) (fun hcl => ?_)
    have hS : AlwO (fun w' => w'.cell? ⟨g, 0, none⟩ = some (.string s) ∧ w'.cell? ⟨g, 1, none⟩ = some (.slice Au nu cu) ∧ w'.cell? ⟨g, 2, none⟩ = some (.slice A nt c) ∧ w'.cell? ⟨g, 3, none⟩ = some (.slice Ai ni ci) ∧ w'.cell? ⟨g + 1, 8, none⟩ = some (.slice (some ⟨b, off, none⟩) t.fields.length k2) ∧ w'.cell? ⟨b, off + k * 3 + 1, none⟩ = some (.int .i64 x.type) ∧ w'.cell? ⟨b, off + k * 3 + 2, none⟩ = some (.int .i64 x.arm)) (Array.replicate 19 false) wr.drew := ⟨d0, d1, d2, d3, c8, x1, x2⟩
    refine wpAnyL_take (i := 0) (oi := ?oi101) (v := ?v101) ?hi101 (by kernel_rfl) (by kernel_rfl) (by kernel_rfl) (fun _ _ _ h => h) (alwO_take _) ?hy101 hcl hS ?rest101
    case hi101 =>
     simp only [qgaq, qgsq, qgzq]
     rfl
    case hy101 =>
     refine yields_alwO (Or.inl ⟨by rfl, fun w' hS => ?_⟩)
     try go_split_ands
     go_simp
     try rfl
    case rest101 =>
    intro hcl101 hS101
    clear hcl hS
    try simp only [Act.put, qsaq, qszq, qssq]
    refine wpAnyL_take (i := 1) (oi := ?oi102) (v := ?v102) ?hi102 (by kernel_rfl) (by kernel_rfl) (by kernel_rfl) (fun _ _ _ h => h) (alwO_take _) ?hy102 hcl101 hS101 ?rest102
    case hi102 =>
     simp only [qgaq, qgsq, qgzq]
     rfl
    case hy102 =>
     refine yields_alwO (Or.inl ⟨by rfl, fun w' hS => ?_⟩)
     try go_split_ands
     go_simp
     try rfl
    case rest102 =>
    intro hcl102 hS102
    clear hcl101 hS101
    try simp only [Act.put, qsaq, qszq, qssq]
    refine wpAnyL_take (i := 2) (oi := ?oi103) (v := ?v103) ?hi103 (by kernel_rfl) (by kernel_rfl) (by kernel_rfl) (fun _ _ _ h => h) (alwO_take _) ?hy103 hcl102 hS102 ?rest103
    case hi103 =>
     simp only [qgaq, qgsq, qgzq]
     rfl
    case hy103 =>
     refine yields_alwO (Or.inl ⟨by rfl, fun w' hS => ?_⟩)
     try go_split_ands
     go_simp
     try rfl
    case rest103 =>
    intro hcl103 hS103
    clear hcl102 hS102
    try simp only [Act.put, qsaq, qszq, qssq]
    refine wpAnyL_take (i := 3) (oi := ?oi104) (v := ?v104) ?hi104 (by kernel_rfl) (by kernel_rfl) (by kernel_rfl) (fun _ _ _ h => h) (alwO_take _) ?hy104 hcl103 hS103 ?rest104
    case hi104 =>
     simp only [qgaq, qgsq, qgzq]
     rfl
    case hy104 =>
     refine yields_alwO (Or.inl ⟨by rfl, fun w' hS => ?_⟩)
     try go_split_ands
     go_simp
     try rfl
    case rest104 =>
    intro hcl104 hS104
    clear hcl103 hS103
    try simp only [Act.put, qsaq, qszq, qssq]
    refine wpAnyL_take (i := 4) (oi := ?oi105) (v := ?v105) ?hi105 (by kernel_rfl) (by kernel_rfl) (by kernel_rfl) (fun _ _ _ h => h) (alwO_take _) ?hy105 hcl104 hS104 ?rest105
    case hi105 =>
     simp only [qgaq, qgsq, qgzq]
     rfl
    case hy105 =>
     refine yields_alwO (Or.inl ⟨by rfl, fun w' hS => ?_⟩)
     try go_split_ands
     go_simp
     try rfl
    case rest105 =>
    intro hcl105 hS105
    clear hcl104 hS104
    try simp only [Act.put, qsaq, qszq, qssq]
    refine wpAnyL_take (i := 5) (oi := ?oi106) (v := ?v106) ?hi106 (by kernel_rfl) (by kernel_rfl) (by kernel_rfl) (fun _ _ _ h => h) (alwO_take _) ?hy106 hcl105 hS105 ?rest106
    case hi106 =>
     simp only [qgaq, qgsq, qgzq]
     rfl
    case hy106 =>
     refine yields_alwO (Or.inl ⟨by rfl, fun w' hS => ?_⟩)
     try go_split_ands
     go_simp
     try rfl
    case rest106 =>
    intro hcl106 hS106
    clear hcl105 hS105
    try simp only [Act.put, qsaq, qszq, qssq]
    refine wpAnyL_take (i := 6) (oi := ?oi107) (v := ?v107) ?hi107 (by kernel_rfl) (by kernel_rfl) (by kernel_rfl) (fun _ _ _ h => h) (alwO_take _) ?hy107 hcl106 hS106 ?rest107
    case hi107 =>
     simp only [qgaq, qgsq, qgzq]
     rfl
    case hy107 =>
     refine yields_alwO (Or.inl ⟨by rfl, fun w' hS => ?_⟩)
     try go_split_ands
     go_simp
     try rfl
    case rest107 =>
    intro hcl107 hS107
    clear hcl106 hS106
    try simp only [Act.put, qsaq, qszq, qssq]
    refine wpAnyL_step (i := 7) (o := ?oi108) ?hi108 (by kernel_rfl) hcl107 ?rest108
    case hi108 =>
     simp only [qgaq, qgsq, qgzq]
     rfl
    case rest108 =>
    intro K hK
    go_simp
    go_at_call 67
    refine (GX.out _).mono ?_
    rintro e a1 ⟨rfl, a1q⟩
    have a1r := ((Wr.refl [] wr).drew).trans a1q
    clear a1q
    refine hK _ _ (HC.out _ a1r) (fun hcl108 => ?_)
    clear hK K hcl107 hS107
    try simp only [Act.put, qsaq, qszq, qssq]
    refine wpAnyL_take (i := 8) (oi := ?oi109) (v := ?v109) ?hi109 (by kernel_rfl) (by kernel_rfl) (by kernel_rfl) (fun _ _ _ h => h) (alwO_take _) ?hy109 hcl108 (HC.out _ a1r) ?rest109
    case hi109 =>
     simp only [qgaq, qgsq, qgzq]
     rfl
    case hy109 =>
     refine yields_alwO (Or.inl ⟨by rfl, fun w' hS => ?_⟩)
     try go_split_ands
     go_simp
     try rfl
    case rest109 =>
    intro hcl109 hS109
    clear hcl108
    try simp only [Act.put, qsaq, qszq, qssq]
    refine wpAnyL_take (i := 9) (oi := ?oi110) (v := ?v110) ?hi110 (by kernel_rfl) (by kernel_rfl) (by kernel_rfl) (fun _ _ _ h => h) (alwO_take _) ?hy110 hcl109 hS109 ?rest110
    case hi110 =>
     simp only [qgaq, qgsq, qgzq]
     rfl
    case hy110 =>
     refine yields_alwO (Or.inl ⟨by rfl, fun w' hS => ?_⟩)
     try go_split_ands
     go_simp
     try rfl
    case rest110 =>
    intro hcl110 hS110
    clear hcl109 hS109
    try simp only [Act.put, qsaq, qszq, qssq]
    refine wpAnyL_take (i := 10) (oi := ?oi111) (v := ?v111) ?hi111 (by kernel_rfl) (by kernel_rfl) (by kernel_rfl) (fun _ _ _ h => h) (alwO_take _) ?hy111 hcl110 hS110 ?rest111
    case hi111 =>
     simp only [qgaq, qgsq, qgzq]
     rfl
    case hy111 =>
     refine yields_alwO (Or.inl ⟨by rfl, fun w' hS => ?_⟩)
     try go_split_ands
     go_simp
     try rfl
    case rest111 =>
    intro hcl111 hS111
    clear hcl110 hS110
    try simp only [Act.put, qsaq, qszq, qssq]
    refine wpAnyL_take (i := 11) (oi := ?oi112) (v := ?v112) ?hi112 (by kernel_rfl) (by kernel_rfl) (by kernel_rfl) (fun _ _ _ h => h) (alwO_take _) ?hy112 hcl111 hS111 ?rest112
    case hi112 =>
     simp only [qgaq, qgsq, qgzq]
     rfl
    case hy112 =>
     refine yields_alwO (Or.inl ⟨by rfl, fun w' hS => ?_⟩)
     try go_split_ands
     go_simp
     try rfl
    case rest112 =>
    intro hcl112 hS112
    clear hcl111 hS111
    try simp only [Act.put, qsaq, qszq, qssq]
    refine wpAnyL_take (i := 12) (oi := ?oi113) (v := ?v113) ?hi113 (by kernel_rfl) (by kernel_rfl) (by kernel_rfl) (fun _ _ _ h => h) (alwO_take _) ?hy113 hcl112 hS112 ?rest113
    case hi113 =>
     simp only [qgaq, qgsq, qgzq]
     rfl
    case hy113 =>
     refine yields_alwO (Or.inl ⟨by rfl, fun w' hS => ?_⟩)
     try go_split_ands
     go_simp
     try rfl
    case rest113 =>
    intro hcl113 hS113
    clear hcl112 hS112
    try simp only [Act.put, qsaq, qszq, qssq]
    refine wpAnyL_take (i := 13) (oi := ?oi114) (v := ?v114) ?hi114 (by kernel_rfl) (by kernel_rfl) (by kernel_rfl) (fun _ _ _ h => h) (alwO_take _) ?hy114 hcl113 hS113 ?rest114
    case hi114 =>
     simp only [qgaq, qgsq, qgzq]
     rfl
    case hy114 =>
     refine yields_alwO (Or.inl ⟨by rfl, fun w' hS => ?_⟩)
     try go_split_ands
     go_simp
     try rfl
    case rest114 =>
    intro hcl114 hS114
    clear hcl113 hS113
    try simp only [Act.put, qsaq, qszq, qssq]
    refine wpAnyL_take (i := 14) (oi := ?oi115) (v := ?v115) ?hi115 (by kernel_rfl) (by kernel_rfl) (by kernel_rfl) (fun _ _ _ h => h) (alwO_take _) ?hy115 hcl114 hS114 ?rest115
    case hi115 =>
     simp only [qgaq, qgsq, qgzq]
     rfl
    case hy115 =>
     refine yields_alwO (Or.inl ⟨by rfl, fun w' hS => ?_⟩)
     try go_split_ands
     go_simp
     try rfl
    case rest115 =>
    intro hcl115 hS115
    clear hcl114 hS114
    try simp only [Act.put, qsaq, qszq, qssq]
    refine wpAnyL_take (i := 15) (oi := ?oi116) (v := ?v116) ?hi116 (by kernel_rfl) (by kernel_rfl) (by kernel_rfl) (fun _ _ _ h => h) (alwO_take _) ?hy116 hcl115 hS115 ?rest116
    case hi116 =>
     simp only [qgaq, qgsq, qgzq]
     rfl
    case hy116 =>
     refine yields_alwO (Or.inl ⟨by rfl, fun w' hS => ?_⟩)
     try go_split_ands
     go_simp
     try rfl
    case rest116 =>
    intro hcl116 hS116
    clear hcl115 hS115
    try simp only [Act.put, qsaq, qszq, qssq]
    refine wpAnyL_step (i := 16) (o := ?oi117) ?hi117 (by kernel_rfl) hcl116 ?rest117
    case hi117 =>
     simp only [qgaq, qgsq, qgzq]
     rfl
    case rest117 =>
    intro K hK
    go_simp
    go_at_call 68
    refine (GY.out _).mono ?_
    rintro e a2 ⟨rfl, rfl⟩
    refine hK _ _ (HC.out _ a1r) (fun hcl117 => ?_)
    clear hK K hcl116 hS116
    try simp only [Act.put, qsaq, qszq, qssq]
    refine wpAnyL_take (i := 17) (oi := ?oi118) (v := ?v118) ?hi118 (by kernel_rfl) (by kernel_rfl) (by kernel_rfl) (fun _ _ _ h => h) (alwO_take _) ?hy118 hcl117 (HC.out _ a1r) ?rest118
    case hi118 =>
     simp only [qgaq, qgsq, qgzq]
     rfl
    case hy118 =>
     refine yields_alwO (Or.inl ⟨by rfl, fun w' hS => ?_⟩)
     try go_split_ands
     go_simp
     try rfl
    case rest118 =>
    intro hcl118 hS118
    clear hcl117
    try simp only [Act.put, qsaq, qszq, qssq]
    refine wpAnyL_take (i := 18) (oi := ?oi119) (v := ?v119) ?hi119 (by kernel_rfl) (by kernel_rfl) (by kernel_rfl) (fun _ _ _ h => h) (alwO_take _) ?hy119 hcl118 hS118 ?rest119
    case hi119 =>
     simp only [qgaq, qgsq, qgzq]
     rfl
    case hy119 =>
     refine yields_alwO (Or.inl ⟨by rfl, fun w' hS => ?_⟩)
     try go_split_ands
     go_simp
     try rfl
    case rest119 =>
    intro hcl119 hS119
    clear hcl118 hS118
    try simp only [Act.put, qsaq, qszq, qssq]
    refine wpAnyL_done (by kernel_rfl) (NoPanic.normal ?_) _
    try simp only [Act.put, qsaq, qszq, qssq]
    cases py with
    | false =>
     obtain rfl : b6 = false := by rw [← E6.out]; exact allF_no HX.out (by rw [HPP.out]; rfl)
     obtain rfl : rr = false := by rw [HV.out]; simp
     clear HV
     go_wp2_with fail
     go_ret
     exact ⟨rfl, ACC.out.trans (RW.out.trans a1r)⟩
    | true =>
     have hs := allF_step HALL.out HX.out (by rw [HPP.out]; rfl)
     have HS := qh hs
     have RF := qh (RW.out.trans a1r)
     clear hs HC
     go_wp2_with fail
     go_roundw
     case rel => exact ⟨k + 1, by omega, by go_num, RF.out, HS.out⟩
     case measure => simp [intOf]; omega
  ·obtain rfl : k = t.fields.length := by omega
   obtain rfl : b6 = true := by rw [← E6.out, ← HALL.out, List.take_length]
   have c9 := (BT.out.wr0 RW.out).cell 9
   simp only [qgaq, qgzq, qgsq] at c9
   go_wp2_with fail
   clear c8 c9
   go_loopw [6] (fun i wr => ∃ k : Nat, k ≤ t.arms.length ∧ i = .int .i64 k ∧ LgAt w0 t.arms armForm k wr) (fun i _ => t.arms.length - (intOf i).toNat)
   case atStart => exact ⟨0, by omega, rfl, RW.out, rfl⟩
   case round =>
    clear RW HALL
    obtain ⟨k, hk, rfl, rw1, hall⟩ := hrel
    have RW := qh rw1
    have HALL := qh hall
    have c9 := (BT.out.wr0 rw1).cell 9
    simp only [qgaq, qgzq, qgsq] at c9
    clear hall rw1
    by_cases hlt : k < t.arms.length
    ·obtain ⟨x, hx⟩ : ∃ x, t.arms[k]? = some x := ⟨_, qgeq hlt⟩
     obtain ⟨b, off, c', va, vb, e, _, y0, y1, y2, ka, kb⟩ := arm_at (SlArms.keep HH.out.arms RW.out (fun _ _ => by simp)) hx
     injection e with e1 e2 e3
     subst e1 e3
     obtain ⟨Aa, ca, rfl, la1, la2⟩ := Sl.form ka
     obtain ⟨Ab, cb, rfl, lb1, lb2⟩ := Sl.form kb
     unfold maxLen at la2 lb2
     obtain ⟨px, hpx⟩ : ∃ q, x.frm.all smB = q := ⟨_, rfl⟩
     obtain ⟨py, hpy⟩ : ∃ q, x.to.all smB = q := ⟨_, rfl⟩
     have hpp : armForm x = (decide (x.frm.length = x.to.length) && px && py) := by unfold armForm; rw [hpx, hpy]
     have HPP := qh hpp
     have HPX := qh hpx
     have HPY := qh hpy
     have HX := qh hx
     have hlti : (k : Int) < (t.arms.length : Int) := by omega
     have hk0 : (0 : Int) ≤ (k : Int) := by omega
     clear hpx hpy hpp hx e2
     go_upto_region 12 with (fail)
     have bz := Blk.new wr 76 #[.slice Aa x.frm.length ca, .slice Ab x.to.length cb, .bool x.els]
     have rz := (Wr.refl [] wr).alloc (.cells #[.slice Aa x.frm.length ca, .slice Ab x.to.length cb, .bool x.els] 76)
     generalize wr.alloc (.cells #[.slice Aa x.frm.length ca, .slice Ab x.to.length cb, .bool x.els] 76) = wz at *
     generalize wr.heap.size = z at *
     have z0 := bz.cell 0
     have z1 := bz.cell 1
     simp only [qgaq, qgzq, qgsq] at z0 z1
     have Z0 := qh z0
     have Z1 := qh z1
     have KA := qh (Sl.wr0 ka rz)
     have KB := qh (Sl.wr0 kb rz)
     have RZ := qh (RW.out.trans rz)
     clear bz rz ka kb y0 y1 y2 c9
     by_cases hne : x.frm.length = x.to.length
     case neg =>
      have hnb : ((x.frm.length : Int) != (x.to.length : Int)) = true := by
       rw [bne_iff_ne]
       omega
      obtain rfl : b7 = false := by rw [← E7.out]; exact allF_no HX.out (by rw [HPP.out, qdfq hne]; rfl)
      obtain rfl : rr = false := by rw [HV.out]; simp
      clear HV
      go_wp2_with fail
      go_ret
      exact ⟨rfl, ACC.out.trans RZ.out⟩
     have hnb : ((x.frm.length : Int) != (x.to.length : Int)) = false := by
      rw [hne]
      simp
     have HNE := qh hne
     clear hne
     go_wp2_with fail
     clear z0 z1 hnb
     go_loopw [8] (fun i wi => ∃ j : Nat, j ≤ x.frm.length ∧ i = .int .i64 j ∧ Wr [] wz wi ∧ (x.frm.take j).all smB = true ∧ (x.to.take j).all smB = true) (fun i _ => x.frm.length - (intOf i).toNat)
     case atStart => exact ⟨0, by omega, rfl, Wr.refl _ _, rfl, rfl⟩
     case round =>
      obtain ⟨j, hj, rfl, ri, ha, hb⟩ := hrel
      have RI := qh ri
      have HA := qh ha
      have HB := qh hb
      have z0 := ri.cellOf Z0.out (by simp)
      have z1 := ri.cellOf Z1.out (by simp)
      clear ri ha hb
      by_cases hlt3 : j < x.frm.length
      ·obtain ⟨p, hp⟩ : ∃ p, x.frm[j]? = some p := ⟨_, qgeq hlt3⟩
       obtain ⟨q, hq⟩ : ∃ q, x.to[j]? = some q := ⟨_, qgeq (by have := HNE.out; omega)⟩
       obtain ⟨ba, oa, c1, e, _, _, _, y0⟩ := Sl.at_ (Sl.wr0 KA.out RI.out) (j := j) (u := .int .i64 p) (by rw [qgmq, hp]; rfl)
       injection e with e1 e2 e3
       subst e1 e3
       obtain ⟨bb, ob, c2, e, _, _, _, y1⟩ := Sl.at_ (Sl.wr0 KB.out RI.out) (j := j) (u := .int .i64 q) (by rw [qgmq, hq]; rfl)
       injection e with e1 e2 e3
       subst e1 e3
       have hji : (j : Int) < (x.frm.length : Int) := by omega
       have hji2 : (j : Int) < (x.to.length : Int) := by have := HNE.out; omega
       have hj0 : (0 : Int) ≤ (j : Int) := by omega
       have gx := fun W => small_r p W
       have gy := fun W => small_r q W
       obtain ⟨pp, hpp⟩ : ∃ r, smB p = r := ⟨_, rfl⟩
       obtain ⟨pq, hpq⟩ : ∃ r, smB q = r := ⟨_, rfl⟩
       simp only [hpp] at gx
       simp only [hpq] at gy
       have GX := qh gx
       have GY := qh gy
       have HP := qh hp
       have HQ := qh hq
       have HP2 := qh hpp
       have HQ2 := qh hpq
       clear gx gy hp hq hpp hpq
       go_wp2_with fail
       refine (GX.out _).mono ?_
       rintro e w7 ⟨rfl, rfl⟩
       cases pp with
       | false =>
        obtain rfl : px = false := by rw [← HPX.out]; exact allF_no HP.out HP2.out
        obtain rfl : b7 = false := by rw [← E7.out]; exact allF_no HX.out (by rw [HPP.out]; simp)
        obtain rfl : rr = false := by rw [HV.out]; simp
        clear HV
        go_wp2_with fail
        go_ret
        exact ⟨rfl, ACC.out.trans (RZ.out.trans RI.out)⟩
       | true =>
       go_wp2_with fail
       refine (GY.out _).mono ?_
       rintro e w7 ⟨rfl, rfl⟩
       cases pq with
       | false =>
        obtain rfl : py = false := by rw [← HPY.out]; exact allF_no HQ.out HQ2.out
        obtain rfl : b7 = false := by rw [← E7.out]; exact allF_no HX.out (by rw [HPP.out]; simp)
        obtain rfl : rr = false := by rw [HV.out]; simp
        clear HV
        go_wp2_with fail
        go_ret
        exact ⟨rfl, ACC.out.trans (RZ.out.trans RI.out)⟩
       | true =>
       have hs1 := allF_step HA.out HP.out HP2.out
       have hs2 := allF_step HB.out HQ.out HQ2.out
       have HS1 := qh hs1
       have HS2 := qh hs2
       clear hs1 hs2
       go_wp2_with fail
       go_roundw
       case rel => exact ⟨j + 1, by omega, by go_num, RI.out, HS1.out, HS2.out⟩
       case measure => simp [intOf]; omega
      ·obtain rfl : j = x.frm.length := by omega
       obtain rfl : px = true := by rw [← HPX.out, ← HA.out, List.take_length]
       obtain rfl : py = true := by rw [← HPY.out, ← HB.out, HNE.out, List.take_length]
       have hs := allF_step HALL.out HX.out (by rw [HPP.out, qdtq HNE.out]; rfl)
       have HS := qh hs
       have RF := qh (RZ.out.trans RI.out)
       clear hs
       go_wp2_with fail
       go_roundw
       case rel => exact ⟨k + 1, by omega, by go_num, RF.out, HS.out⟩
       case measure => simp [intOf]; omega
    ·obtain rfl : k = t.arms.length := by omega
     obtain rfl : b7 = true := by rw [← E7.out, ← HALL.out, List.take_length]
     have c10 := (BT.out.wr0 RW.out).cell 10
     simp only [qgaq, qgzq, qgsq] at c10
     go_wp2_with fail
     clear c9 c10
     go_loopw [9] (fun i wr => ∃ k : Nat, k ≤ t.params.length ∧ i = .int .i64 k ∧ LgAt w0 t.params (fun p => tyB nt p.type) k wr) (fun i _ => t.params.length - (intOf i).toNat)
     case atStart => exact ⟨0, by omega, rfl, RW.out, rfl⟩
     case round =>
      clear RW HALL
      obtain ⟨k, hk, rfl, rw1, hall⟩ := hrel
      have RW := qh rw1
      have HALL := qh hall
      have c10 := (BT.out.wr0 rw1).cell 10
      simp only [qgaq, qgzq, qgsq] at c10
      clear hall rw1
      by_cases hlt : k < t.params.length
      ·obtain ⟨x, hx⟩ : ∃ x, t.params[k]? = some x := ⟨_, qgeq hlt⟩
       obtain ⟨b, off, c', e, _, hc⟩ := par_at HH.out.params hx
       injection e with e1 e2 e3
       subst e1 e3
       have x1 := RW.out.cellOf (hc 1 _ rfl) (by simp)
       have gx := fun W => typ_m s (.slice Au nu cu) (.slice Ai ni ci) A nt c hnt x.type W
       obtain ⟨px, hpx⟩ : ∃ q, tyB nt x.type = q := ⟨_, rfl⟩
       simp only [hpx] at gx
       have GX := qh gx
       have HPX := qh hpx
       have HX := qh hx
       have hlti : (k : Int) < (t.params.length : Int) := by omega
       have hk0 : (0 : Int) ≤ (k : Int) := by omega
       clear gx hpx hx hc e2
       have d0 := (BF.out.wr0 RW.out).cell 0
       have d1 := (BF.out.wr0 RW.out).cell 1
       have d2 := (BF.out.wr0 RW.out).cell 2
       have d3 := (BF.out.wr0 RW.out).cell 3
       simp only [qgaq, qgzq, qgsq] at d0 d1 d2 d3
       go_upto_region 22 with (fail)
       have hC : ∀ W, Wr [] wr W → W.cell? ⟨g, 0, none⟩ = some (.string s) ∧ W.cell? ⟨g, 1, none⟩ = some (.slice Au nu cu) ∧ W.cell? ⟨g, 2, none⟩ = some (.slice A nt c) ∧ W.cell? ⟨g, 3, none⟩ = some (.slice Ai ni ci) ∧ W.cell? ⟨g + 1, 10, none⟩ = some (.slice (some ⟨b, off, none⟩) t.params.length k4) ∧ W.cell? ⟨b, off + k * 2 + 1, none⟩ = some (.int .i64 x.type) := fun W hW => ⟨hW.cellOf d0 (by simp), hW.cellOf d1 (by simp), hW.cellOf d2 (by simp), hW.cellOf d3 (by simp), hW.cellOf c10 (by simp), hW.cellOf x1 (by simp)⟩
       have HC := qh hC
       clear hC
       refine wp_region_noPanic ?_
       refine wp_region_L (AlwO fun w' => w'.cell? ⟨g, 0, none⟩ = some (.string s) ∧ w'.cell? ⟨g, 1, none⟩ = some (.slice Au nu cu) ∧ w'.cell? ⟨g, 2, none⟩ = some (.slice A nt c) ∧ w'.cell? ⟨g, 3, none⟩ = some (.slice Ai ni ci) ∧ w'.cell? ⟨g + 1, 10, none⟩ = some (.slice (some ⟨b, off, none⟩) t.params.length k4) ∧ w'.cell? ⟨b, off + k * 2 + 1, none⟩ = some (.int .i64 x.type)) (by kernel_rfl) (fun hcl => ?_)
       have hS : AlwO (fun w' => w'.cell? ⟨g, 0, none⟩ = some (.string s) ∧ w'.cell? ⟨g, 1, none⟩ = some (.slice Au nu cu) ∧ w'.cell? ⟨g, 2, none⟩ = some (.slice A nt c) ∧ w'.cell? ⟨g, 3, none⟩ = some (.slice Ai ni ci) ∧ w'.cell? ⟨g + 1, 10, none⟩ = some (.slice (some ⟨b, off, none⟩) t.params.length k4) ∧ w'.cell? ⟨b, off + k * 2 + 1, none⟩ = some (.int .i64 x.type)) (Array.replicate 9 false) wr.drew := ⟨d0, d1, d2, d3, c10, x1⟩
       refine wpAnyL_take (i := 0) (oi := ?oi301) (v := ?v301) ?hi301 (by kernel_rfl) (by kernel_rfl) (by kernel_rfl) (fun _ _ _ h => h) (alwO_take _) ?hy301 hcl hS ?rest301
       case hi301 =>
        simp only [qgaq, qgsq, qgzq]
        rfl
       case hy301 =>
        refine yields_alwO (Or.inl ⟨by rfl, fun w' hS => ?_⟩)
        try go_split_ands
        go_simp
        try rfl
       case rest301 =>
       intro hcl301 hS301
       clear hcl hS
       try simp only [Act.put, qsaq, qszq, qssq]
       refine wpAnyL_take (i := 1) (oi := ?oi302) (v := ?v302) ?hi302 (by kernel_rfl) (by kernel_rfl) (by kernel_rfl) (fun _ _ _ h => h) (alwO_take _) ?hy302 hcl301 hS301 ?rest302
       case hi302 =>
        simp only [qgaq, qgsq, qgzq]
        rfl
       case hy302 =>
        refine yields_alwO (Or.inl ⟨by rfl, fun w' hS => ?_⟩)
        try go_split_ands
        go_simp
        try rfl
       case rest302 =>
       intro hcl302 hS302
       clear hcl301 hS301
       try simp only [Act.put, qsaq, qszq, qssq]
       refine wpAnyL_take (i := 2) (oi := ?oi303) (v := ?v303) ?hi303 (by kernel_rfl) (by kernel_rfl) (by kernel_rfl) (fun _ _ _ h => h) (alwO_take _) ?hy303 hcl302 hS302 ?rest303
       case hi303 =>
        simp only [qgaq, qgsq, qgzq]
        rfl
       case hy303 =>
        refine yields_alwO (Or.inl ⟨by rfl, fun w' hS => ?_⟩)
        try go_split_ands
        go_simp
        try rfl
       case rest303 =>
       intro hcl303 hS303
       clear hcl302 hS302
       try simp only [Act.put, qsaq, qszq, qssq]
       refine wpAnyL_take (i := 3) (oi := ?oi304) (v := ?v304) ?hi304 (by kernel_rfl) (by kernel_rfl) (by kernel_rfl) (fun _ _ _ h => h) (alwO_take _) ?hy304 hcl303 hS303 ?rest304
       case hi304 =>
        simp only [qgaq, qgsq, qgzq]
        rfl
       case hy304 =>
        refine yields_alwO (Or.inl ⟨by rfl, fun w' hS => ?_⟩)
        try go_split_ands
        go_simp
        try rfl
       case rest304 =>
       intro hcl304 hS304
       clear hcl303 hS303
       try simp only [Act.put, qsaq, qszq, qssq]
       refine wpAnyL_take (i := 4) (oi := ?oi305) (v := ?v305) ?hi305 (by kernel_rfl) (by kernel_rfl) (by kernel_rfl) (fun _ _ _ h => h) (alwO_take _) ?hy305 hcl304 hS304 ?rest305
       case hi305 =>
        simp only [qgaq, qgsq, qgzq]
        rfl
       case hy305 =>
        refine yields_alwO (Or.inl ⟨by rfl, fun w' hS => ?_⟩)
        try go_split_ands
        go_simp
        try rfl
       case rest305 =>
       intro hcl305 hS305
       clear hcl304 hS304
       try simp only [Act.put, qsaq, qszq, qssq]
       refine wpAnyL_take (i := 5) (oi := ?oi306) (v := ?v306) ?hi306 (by kernel_rfl) (by kernel_rfl) (by kernel_rfl) (fun _ _ _ h => h) (alwO_take _) ?hy306 hcl305 hS305 ?rest306
       case hi306 =>
        simp only [qgaq, qgsq, qgzq]
        rfl
       case hy306 =>
        refine yields_alwO (Or.inl ⟨by rfl, fun w' hS => ?_⟩)
        try go_split_ands
        go_simp
        try rfl
       case rest306 =>
       intro hcl306 hS306
       clear hcl305 hS305
       try simp only [Act.put, qsaq, qszq, qssq]
       refine wpAnyL_take (i := 6) (oi := ?oi307) (v := ?v307) ?hi307 (by kernel_rfl) (by kernel_rfl) (by kernel_rfl) (fun _ _ _ h => h) (alwO_take _) ?hy307 hcl306 hS306 ?rest307
       case hi307 =>
        simp only [qgaq, qgsq, qgzq]
        rfl
       case hy307 =>
        refine yields_alwO (Or.inl ⟨by rfl, fun w' hS => ?_⟩)
        try go_split_ands
        go_simp
        try rfl
       case rest307 =>
       intro hcl307 hS307
       clear hcl306 hS306
       try simp only [Act.put, qsaq, qszq, qssq]
       refine wpAnyL_step (i := 7) (o := ?oi308) ?hi308 (by kernel_rfl) hcl307 ?rest308
       case hi308 =>
        simp only [qgaq, qgsq, qgzq]
        rfl
       case rest308 =>
       intro K hK
       go_simp
       go_at_call 67
       refine (GX.out _).mono ?_
       rintro e a1 ⟨rfl, a1q⟩
       have a1r := ((Wr.refl [] wr).drew).trans a1q
       clear a1q
       refine hK _ _ (HC.out _ a1r) (fun hcl308 => ?_)
       clear hK K hcl307 hS307
       try simp only [Act.put, qsaq, qszq, qssq]
       refine wpAnyL_take (i := 8) (oi := ?oi309) (v := ?v309) ?hi309 (by kernel_rfl) (by kernel_rfl) (by kernel_rfl) (fun _ _ _ h => h) (alwO_take _) ?hy309 hcl308 (HC.out _ a1r) ?rest309
       case hi309 =>
        simp only [qgaq, qgsq, qgzq]
        rfl
       case hy309 =>
        refine yields_alwO (Or.inl ⟨by rfl, fun w' hS => ?_⟩)
        try go_split_ands
        go_simp
        try rfl
       case rest309 =>
       intro hcl309 hS309
       clear hcl308
       try simp only [Act.put, qsaq, qszq, qssq]
       refine wpAnyL_done (by kernel_rfl) (NoPanic.normal ?_) _
       try simp only [Act.put, qsaq, qszq, qssq]
       cases px with
       | false =>
        obtain rfl : b8 = false := by rw [← E8.out]; exact allF_no HX.out HPX.out
        obtain rfl : rr = false := by rw [HV.out]; simp
        clear HV
        go_wp2_with fail
        go_ret
        exact ⟨rfl, ACC.out.trans (RW.out.trans a1r)⟩
       | true =>
        have hs := allF_step HALL.out HX.out HPX.out
        have HS := qh hs
        have RF := qh (RW.out.trans a1r)
        clear hs HC
        go_wp2_with fail
        go_roundw
        case rel => exact ⟨k + 1, by omega, by go_num, RF.out, HS.out⟩
        case measure => simp [intOf]; omega
      ·obtain rfl : k = t.params.length := by omega
       obtain rfl : b8 = true := by rw [← E8.out, ← HALL.out, List.take_length]
       obtain rfl : rr = true := by rw [HV.out]; rfl
       clear HV
       go_wp2_with fail
       go_ret
       exact ⟨rfl, ACC.out.trans RW.out⟩
end Go.Proofs.YtjanbpchedgoiaaGreat
