/- ref 14's formed: walked. Conditions: no more than 1000000 types. -/
import Derived.Test.YtildcdgobdfieaaGreatRD29
set_option linter.unusedVariables false
set_option linter.unusedSimpArgs false
set_option maxRecDepth 100000
set_option maxHeartbeats 32000000
namespace Go.Proofs.YtildcdgobdfieaaGreat
open Go.RowKit
theorem formed_r (s : ByteArray) (Au A Ai : Option Addr) (nu cu nt c ni ci : Nat) (hnt : nt ≤ 1000000) (t : Ty) (vn vf va vp : Value) (P : Nat → Prop) (w : World) (h : Lists w P vn vf va vp t) :
  Calls Tryz.prog 127 #[.agg #[.string s, .slice Au nu cu, .slice A nt c, .slice Ai ni ci], .agg #[.int .u8 t.kind, .string t.module, .string t.name, .int .i64 t.base, .int .i64 t.index, .int .i64 t.low, .int .i64 t.high, vn, vf, va, vp, .int .i64 t.result]] w fun e w' => e = .returned (.bool (tyForm nt t)) ∧ Wr [] w w' := by
 obtain ⟨⟨A1, k1, rfl, hn1, hn2⟩, ⟨A2, k2, rfl, hf1, hf2⟩, ⟨A3, k3, rfl, ha1, ha2⟩, ⟨A4, k4, rfl, hp1, hp2⟩⟩ := h.forms
 unfold maxLen at hn2 hf2 ha2 hp2
 obtain ⟨wa, hwa⟩ : ∃ q, w.alloc (.cells #[.string s, .slice Au nu cu, .slice A nt c, .slice Ai ni ci] 60) = q := ⟨_, rfl⟩
 obtain ⟨g, hg⟩ : ∃ g, w.heap.size = g := ⟨_, rfl⟩
 have sa : wa.heap.size = g + 1 := by rw [← hwa, qsiq, hg]
 obtain ⟨w0, hw0⟩ : ∃ q, wa.alloc (.cells #[.int .u8 t.kind, .string t.module, .string t.name, .int .i64 t.base, .int .i64 t.index, .int .i64 t.low, .int .i64 t.high, .slice A1 t.names.length k1, .slice A2 t.fields.length k2, .slice A3 t.arms.length k3, .slice A4 t.params.length k4, .int .i64 t.result] 129) = q := ⟨_, rfl⟩
 have ra : Wr [] w wa := by rw [← hwa]; exact (Wr.refl _ _).alloc _
 have rb : Wr [] wa w0 := by rw [← hw0]; exact (Wr.refl _ _).alloc _
 have bF : Blk w0 g 60 #[.string s, .slice Au nu cu, .slice A nt c, .slice Ai ni ci] := by
  have := (show Blk wa g 60 #[.string s, .slice Au nu cu, .slice A nt c, .slice Ai ni ci] by rw [← hwa, ← hg]; exact Blk.new _ _ _)
  exact this.wr0 rb
 have bT : Blk w0 (g + 1) 129 #[.int .u8 t.kind, .string t.module, .string t.name, .int .i64 t.base, .int .i64 t.index, .int .i64 t.low, .int .i64 t.high, .slice A1 t.names.length k1, .slice A2 t.fields.length k2, .slice A3 t.arms.length k3, .slice A4 t.params.length k4, .int .i64 t.result] := by rw [← hw0, ← sa]; exact Blk.new _ _ _
 have hw0' : (w.alloc (.cells #[.string s, .slice Au nu cu, .slice A nt c, .slice Ai ni ci] 60)).alloc (.cells #[.int .u8 t.kind, .string t.module, .string t.name, .int .i64 t.base, .int .i64 t.index, .int .i64 t.low, .int .i64 t.high, .slice A1 t.names.length k1, .slice A2 t.fields.length k2, .slice A3 t.arms.length k3, .slice A4 t.params.length k4, .int .i64 t.result] 129) = w0 := by rw [hwa, hw0]
 have acc := ra.trans rb
 have g1 := fun W => typ_m s (.slice Au nu cu) (.slice Ai ni ci) A nt c hnt t.base W
 have g2 := fun W => typ_m s (.slice Au nu cu) (.slice Ai ni ci) A nt c hnt t.index W
 have g3 := fun W => typ_m s (.slice Au nu cu) (.slice Ai ni ci) A nt c hnt t.result W
 have g4 := fun W => small_r t.low W
 have g5 := fun W => small_r t.high W
 obtain ⟨b1, e1⟩ : ∃ q, tyB nt t.base = q := ⟨_, rfl⟩
 obtain ⟨b2, e2⟩ : ∃ q, tyB nt t.index = q := ⟨_, rfl⟩
 obtain ⟨b3, e3⟩ : ∃ q, tyB nt t.result = q := ⟨_, rfl⟩
 obtain ⟨b4, e4⟩ : ∃ q, smB t.low = q := ⟨_, rfl⟩
 obtain ⟨b5, e5⟩ : ∃ q, smB t.high = q := ⟨_, rfl⟩
 obtain ⟨b6, e6⟩ : ∃ q, t.fields.all (fun f => tyB nt f.type && smB f.arm) = q := ⟨_, rfl⟩
 obtain ⟨b7, e7⟩ : ∃ q, t.arms.all armForm = q := ⟨_, rfl⟩
 obtain ⟨b8, e8⟩ : ∃ q, t.params.all (fun p => tyB nt p.type) = q := ⟨_, rfl⟩
 obtain ⟨rr, hrr⟩ : ∃ r, tyForm nt t = r := ⟨_, rfl⟩
 have hv : rr = (b1 && b2 && b3 && b4 && b5 && b6 && b7 && b8) := by
  rw [← hrr]
  unfold tyForm
  rw [e1, e2, e3, e4, e5, e6, e7, e8]
 rw [hrr]
 simp only [e1] at g1
 simp only [e2] at g2
 simp only [e3] at g3
 simp only [e4] at g4
 simp only [e5] at g5
 have G1 := qh g1
 have G2 := qh g2
 have G3 := qh g3
 have G4 := qh g4
 have G5 := qh g5
 have E6 := qh e6
 have E7 := qh e7
 have E8 := qh e8
 have HV := qh hv
 have HW0 := qh hw0'
 have HG := qh hg
 have ACC := qh acc
 have BF := qh bF
 have BT := qh bT
 have HH := qh (h.wr0 acc)
 obtain ⟨d0, d1, d2, d3⟩ := c4q (bF)
 have c3 := (bT).cell 3
 have c4 := (bT).cell 4
 have c5 := (bT).cell 5
 have c6 := (bT).cell 6
 have c11 := (bT).cell 11
 simp only [qgaq, qgzq, qgsq] at c3 c4 c5 c6 c11
 clear g1 g2 g3 g4 g5 e1 e2 e3 e4 e5 e6 e7 e8 hv hrr hw0 hw0' hwa sa ra rb hg acc bF bT h
 go_in
 go_upto_region 1 with (fail)
 rw [HW0.out, HG.out]
 go_wp2_with fail
 refine (G1.out _).mono ?_
 rintro e w1 ⟨rfl, q1⟩
 have RR1 := qh ((Wr.refl [] w0).trans q1)
 clear q1 d0 d1 d2 d3 c3 c4 c5 c6 c11
 obtain ⟨d0, d1, d2, d3⟩ := c4q (BF.out.wr0 (RR1.out))
 have c3 := (BT.out.wr0 (RR1.out)).cell 3
 have c4 := (BT.out.wr0 (RR1.out)).cell 4
 have c5 := (BT.out.wr0 (RR1.out)).cell 5
 have c6 := (BT.out.wr0 (RR1.out)).cell 6
 have c11 := (BT.out.wr0 (RR1.out)).cell 11
 simp only [qgaq, qgzq, qgsq] at c3 c4 c5 c6 c11
 cases b1 with
 | false =>
  obtain rfl : rr = false := by rw [HV.out]; simp
  clear HV
  go_wp2_with fail
  go_ret
  exact ⟨rfl, ACC.out.trans (RR1.out)⟩
 | true =>
 go_wp2_with fail
 refine (G2.out _).mono ?_
 rintro e w2 ⟨rfl, q2⟩
 have RR2 := qh ((RR1.out).trans q2)
 clear q2 d0 d1 d2 d3 c3 c4 c5 c6 c11
 obtain ⟨d0, d1, d2, d3⟩ := c4q (BF.out.wr0 (RR2.out))
 have c3 := (BT.out.wr0 (RR2.out)).cell 3
 have c4 := (BT.out.wr0 (RR2.out)).cell 4
 have c5 := (BT.out.wr0 (RR2.out)).cell 5
 have c6 := (BT.out.wr0 (RR2.out)).cell 6
 have c11 := (BT.out.wr0 (RR2.out)).cell 11
 simp only [qgaq, qgzq, qgsq] at c3 c4 c5 c6 c11
 cases b2 with
 | false =>
  obtain rfl : rr = false := by rw [HV.out]; simp
  clear HV
  go_wp2_with fail
  go_ret
  exact ⟨rfl, ACC.out.trans (RR2.out)⟩
 | true =>
 go_wp2_with fail
 refine (G3.out _).mono ?_
 rintro e w3 ⟨rfl, q3⟩
 have RR3 := qh ((RR2.out).trans q3)
 clear q3 d0 d1 d2 d3 c3 c4 c5 c6 c11
 obtain ⟨d0, d1, d2, d3⟩ := c4q (BF.out.wr0 (RR3.out))
 have c3 := (BT.out.wr0 (RR3.out)).cell 3
 have c4 := (BT.out.wr0 (RR3.out)).cell 4
 have c5 := (BT.out.wr0 (RR3.out)).cell 5
 have c6 := (BT.out.wr0 (RR3.out)).cell 6
 have c11 := (BT.out.wr0 (RR3.out)).cell 11
 simp only [qgaq, qgzq, qgsq] at c3 c4 c5 c6 c11
 cases b3 with
 | false =>
  obtain rfl : rr = false := by rw [HV.out]; simp
  clear HV
  go_wp2_with fail
  go_ret
  exact ⟨rfl, ACC.out.trans (RR3.out)⟩
 | true =>
 go_wp2_with fail
 refine (G4.out _).mono ?_
 rintro e w4 ⟨rfl, rfl⟩
 cases b4 with
 | false =>
  obtain rfl : rr = false := by rw [HV.out]; simp
  clear HV
  go_wp2_with fail
  go_ret
  exact ⟨rfl, ACC.out.trans (RR3.out)⟩
 | true =>
 go_wp2_with fail
 refine (G5.out _).mono ?_
 rintro e w5 ⟨rfl, rfl⟩
 cases b5 with
 | false =>
  obtain rfl : rr = false := by rw [HV.out]; simp
  clear HV
  go_wp2_with fail
  go_ret
  exact ⟨rfl, ACC.out.trans (RR3.out)⟩
 | true =>
 go_wp2_with fail
 clear d0 d1 d2 d3 c3 c4 c5 c6 c11
 go_loopw [5] (fun i wr => ∃ k : Nat, k ≤ t.fields.length ∧ i = .int .i64 k ∧ LgAt w0 t.fields (fun f => tyB nt f.type && smB f.arm) k wr) (fun i _ => t.fields.length - (intOf i).toNat)
 case atStart => exact ⟨0, by omega, rfl, RR3.out, rfl⟩
 case round =>
  obtain ⟨k, hk, rfl, rw1, hall⟩ := hrel
  have RW := qh rw1
  have HALL := qh hall
  have c8 := (BT.out.wr0 rw1).cell 8
  simp only [qgaq, qgzq, qgsq] at c8
  clear hall rw1
  by_cases hlt : k < t.fields.length
  ·obtain ⟨x, hx⟩ : ∃ x, t.fields[k]? = some x := ⟨_, qgeq hlt⟩
   obtain ⟨b, off, c', e, _, hc⟩ := fld_at HH.out.fields hx
   injection e with e1 e2 e3
   subst e1 e3
   have x1 := RW.out.cellOf (hc 1 _ rfl) (by simp)
   have x2 := RW.out.cellOf (hc 2 _ rfl) (by simp)
   have gx := fun W => typ_m s (.slice Au nu cu) (.slice Ai ni ci) A nt c hnt x.type W
   have gy := fun W => small_r x.arm W
   obtain ⟨px, hpx⟩ : ∃ q, tyB nt x.type = q := ⟨_, rfl⟩
   obtain ⟨py, hpy⟩ : ∃ q, smB x.arm = q := ⟨_, rfl⟩
   have hpp : (tyB nt x.type && smB x.arm) = (px && py) := by rw [hpx, hpy]
   simp only [hpx] at gx
   simp only [hpy] at gy
   have GX := qh gx
   have GY := qh gy
   have HPP := qh hpp
   have HX := qh hx
   have hlti : (k : Int) < (t.fields.length : Int) := by omega
   have hk0 : (0 : Int) ≤ (k : Int) := by omega
   clear gx gy hpx hpy hpp hx hc e2
   obtain ⟨d0, d1, d2, d3⟩ := c4q (BF.out.wr0 RW.out)
   go_upto_region 6 with (fail)
   cases px with
   | false =>
    refine begin2 [] (fun w' => w'.cell? ⟨g, 0, none⟩ = some (.string s) ∧ w'.cell? ⟨g, 1, none⟩ = some (.slice Au nu cu) ∧ w'.cell? ⟨g, 2, none⟩ = some (.slice A nt c) ∧ w'.cell? ⟨g, 3, none⟩ = some (.slice Ai ni ci) ∧ w'.cell? ⟨g + 1, 8, none⟩ = some (.slice (some ⟨b, off, none⟩) t.fields.length k2) ∧ w'.cell? ⟨b, off + k * 3 + 1, none⟩ = some (.int .i64 x.type) ∧ w'.cell? ⟨b, off + k * 3 + 2, none⟩ = some (.int .i64 x.arm)) (by kernel_rfl) (fun W hW => ⟨hW.cellOf d0 (by simp), hW.cellOf d1 (by simp), hW.cellOf d2 (by simp), hW.cellOf d3 (by simp), hW.cellOf c8 (by simp), hW.cellOf x1 (by simp), hW.cellOf x2 (by simp)⟩) fun HC hcl hS => ?_
    refine mva 0 (by rfl) (by kernel_rfl) (by rfl) (fun w' hS => by (try go_split_ands); go_simp; try rfl) hcl hS fun hcl201 hS201 => ?_
    clear hcl hS
    try simp only [Act.put, qsaq, qszq, qssq]
    refine mva 1 (by rfl) (by kernel_rfl) (by rfl) (fun w' hS => by (try go_split_ands); go_simp; try rfl) hcl201 hS201 fun hcl202 hS202 => ?_
    clear hcl201 hS201
    try simp only [Act.put, qsaq, qszq, qssq]
    refine mva 2 (by rfl) (by kernel_rfl) (by rfl) (fun w' hS => by (try go_split_ands); go_simp; try rfl) hcl202 hS202 fun hcl203 hS203 => ?_
    clear hcl202 hS202
    try simp only [Act.put, qsaq, qszq, qssq]
    refine mva 3 (by rfl) (by kernel_rfl) (by rfl) (fun w' hS => by (try go_split_ands); go_simp; try rfl) hcl203 hS203 fun hcl204 hS204 => ?_
    clear hcl203 hS203
    try simp only [Act.put, qsaq, qszq, qssq]
    refine mva 4 (by rfl) (by kernel_rfl) (by rfl) (fun w' hS => by (try go_split_ands); go_simp; try rfl) hcl204 hS204 fun hcl205 hS205 => ?_
    clear hcl204 hS204
    try simp only [Act.put, qsaq, qszq, qssq]
    refine mva 5 (by rfl) (by kernel_rfl) (by rfl) (fun w' hS => by (try go_split_ands); go_simp; try rfl) hcl205 hS205 fun hcl206 hS206 => ?_
    clear hcl205 hS205
    try simp only [Act.put, qsaq, qszq, qssq]
    refine mva 6 (by rfl) (by kernel_rfl) (by rfl) (fun w' hS => by (try go_split_ands); go_simp; try rfl) hcl206 hS206 fun hcl207 hS207 => ?_
    clear hcl206 hS206
    try simp only [Act.put, qsaq, qszq, qssq]
    refine st0 7 (by rfl) (by kernel_rfl) hcl207 fun K hK => ?_
    go_simp
    go_at_call 128
    refine (GX.out _).mono ?_
    rintro e a1 ⟨rfl, a1q⟩
    have a1r := ((Wr.refl [] wr).drew).trans a1q
    clear a1q
    refine hK _ _ (HC.out _ a1r) (fun hcl208 => ?_)
    clear hK K hcl207 hS207
    try simp only [Act.put, qsaq, qszq, qssq]
    refine mva 8 (by rfl) (by kernel_rfl) (by rfl) (fun w' hS => by (try go_split_ands); go_simp; try rfl) hcl208 (HC.out _ a1r) fun hcl209 hS209 => ?_
    clear hcl208
    try simp only [Act.put, qsaq, qszq, qssq]
    refine mva 9 (by rfl) (by kernel_rfl) (by rfl) (fun w' hS => by (try go_split_ands); go_simp; try rfl) hcl209 hS209 fun hcl210 hS210 => ?_
    clear hcl209 hS209
    try simp only [Act.put, qsaq, qszq, qssq]
    refine ska 10 (by rfl) (by kernel_rfl) (by rfl) hcl210 hS210 fun hcl211 hS211 => ?_
    clear hcl210 hS210
    try simp only [Act.put, qsaq, qszq, qssq]
    refine ska 11 (by rfl) (by kernel_rfl) (by rfl) hcl211 hS211 fun hcl212 hS212 => ?_
    clear hcl211 hS211
    try simp only [Act.put, qsaq, qszq, qssq]
    refine ska 12 (by rfl) (by kernel_rfl) (by rfl) hcl212 hS212 fun hcl213 hS213 => ?_
    clear hcl212 hS212
    try simp only [Act.put, qsaq, qszq, qssq]
    refine ska 13 (by rfl) (by kernel_rfl) (by rfl) hcl213 hS213 fun hcl214 hS214 => ?_
    clear hcl213 hS213
    try simp only [Act.put, qsaq, qszq, qssq]
    refine ska 14 (by rfl) (by kernel_rfl) (by rfl) hcl214 hS214 fun hcl215 hS215 => ?_
    clear hcl214 hS214
    try simp only [Act.put, qsaq, qszq, qssq]
    refine ska 15 (by rfl) (by kernel_rfl) (by rfl) hcl215 hS215 fun hcl216 hS216 => ?_
    clear hcl215 hS215
    try simp only [Act.put, qsaq, qszq, qssq]
    refine ska 16 (by rfl) (by kernel_rfl) (by rfl) hcl216 hS216 fun hcl217 hS217 => ?_
    clear hcl216 hS216
    try simp only [Act.put, qsaq, qszq, qssq]
    refine ska 17 (by rfl) (by kernel_rfl) (by rfl) hcl217 hS217 fun hcl218 hS218 => ?_
    clear hcl217 hS217
    try simp only [Act.put, qsaq, qszq, qssq]
    refine mva 18 (by rfl) (by kernel_rfl) (by rfl) (fun w' hS => by (try go_split_ands); go_simp; try rfl) hcl218 hS218 fun hcl219 hS219 => ?_
    clear hcl218 hS218
    try simp only [Act.put, qsaq, qszq, qssq]
    refine wpAnyL_done (by kernel_rfl) (NoPanic.normal ?_) _
    try simp only [Act.put, qsaq, qszq, qssq]
    obtain rfl : b6 = false := by rw [← E6.out]; exact allF_no HX.out (by rw [HPP.out]; rfl)
    obtain rfl : rr = false := by rw [HV.out]; simp
    clear HV
    go_wp2_with fail
    go_ret
    exact ⟨rfl, ACC.out.trans (RW.out.trans a1r)⟩
   | true =>
    refine begin2 [] (fun w' => w'.cell? ⟨g, 0, none⟩ = some (.string s) ∧ w'.cell? ⟨g, 1, none⟩ = some (.slice Au nu cu) ∧ w'.cell? ⟨g, 2, none⟩ = some (.slice A nt c) ∧ w'.cell? ⟨g, 3, none⟩ = some (.slice Ai ni ci) ∧ w'.cell? ⟨g + 1, 8, none⟩ = some (.slice (some ⟨b, off, none⟩) t.fields.length k2) ∧ w'.cell? ⟨b, off + k * 3 + 1, none⟩ = some (.int .i64 x.type) ∧ w'.cell? ⟨b, off + k * 3 + 2, none⟩ = some (.int .i64 x.arm)) (by kernel_rfl) (fun W hW => ⟨hW.cellOf d0 (by simp), hW.cellOf d1 (by simp), hW.cellOf d2 (by simp), hW.cellOf d3 (by simp), hW.cellOf c8 (by simp), hW.cellOf x1 (by simp), hW.cellOf x2 (by simp)⟩) fun HC hcl hS => ?_
    refine mva 0 (by rfl) (by kernel_rfl) (by rfl) (fun w' hS => by (try go_split_ands); go_simp; try rfl) hcl hS fun hcl101 hS101 => ?_
    clear hcl hS
    try simp only [Act.put, qsaq, qszq, qssq]
    refine mva 1 (by rfl) (by kernel_rfl) (by rfl) (fun w' hS => by (try go_split_ands); go_simp; try rfl) hcl101 hS101 fun hcl102 hS102 => ?_
    clear hcl101 hS101
    try simp only [Act.put, qsaq, qszq, qssq]
    refine mva 2 (by rfl) (by kernel_rfl) (by rfl) (fun w' hS => by (try go_split_ands); go_simp; try rfl) hcl102 hS102 fun hcl103 hS103 => ?_
    clear hcl102 hS102
    try simp only [Act.put, qsaq, qszq, qssq]
    refine mva 3 (by rfl) (by kernel_rfl) (by rfl) (fun w' hS => by (try go_split_ands); go_simp; try rfl) hcl103 hS103 fun hcl104 hS104 => ?_
    clear hcl103 hS103
    try simp only [Act.put, qsaq, qszq, qssq]
    refine mva 4 (by rfl) (by kernel_rfl) (by rfl) (fun w' hS => by (try go_split_ands); go_simp; try rfl) hcl104 hS104 fun hcl105 hS105 => ?_
    clear hcl104 hS104
    try simp only [Act.put, qsaq, qszq, qssq]
    refine mva 5 (by rfl) (by kernel_rfl) (by rfl) (fun w' hS => by (try go_split_ands); go_simp; try rfl) hcl105 hS105 fun hcl106 hS106 => ?_
    clear hcl105 hS105
    try simp only [Act.put, qsaq, qszq, qssq]
    refine mva 6 (by rfl) (by kernel_rfl) (by rfl) (fun w' hS => by (try go_split_ands); go_simp; try rfl) hcl106 hS106 fun hcl107 hS107 => ?_
    clear hcl106 hS106
    try simp only [Act.put, qsaq, qszq, qssq]
    refine st0 7 (by rfl) (by kernel_rfl) hcl107 fun K hK => ?_
    go_simp
    go_at_call 128
    refine (GX.out _).mono ?_
    rintro e a1 ⟨rfl, a1q⟩
    have a1r := ((Wr.refl [] wr).drew).trans a1q
    clear a1q
    refine hK _ _ (HC.out _ a1r) (fun hcl108 => ?_)
    clear hK K hcl107 hS107
    try simp only [Act.put, qsaq, qszq, qssq]
    refine mva 8 (by rfl) (by kernel_rfl) (by rfl) (fun w' hS => by (try go_split_ands); go_simp; try rfl) hcl108 (HC.out _ a1r) fun hcl109 hS109 => ?_
    clear hcl108
    try simp only [Act.put, qsaq, qszq, qssq]
    refine mva 9 (by rfl) (by kernel_rfl) (by rfl) (fun w' hS => by (try go_split_ands); go_simp; try rfl) hcl109 hS109 fun hcl110 hS110 => ?_
    clear hcl109 hS109
    try simp only [Act.put, qsaq, qszq, qssq]
    refine mva 10 (by rfl) (by kernel_rfl) (by rfl) (fun w' hS => by (try go_split_ands); go_simp; try rfl) hcl110 hS110 fun hcl111 hS111 => ?_
    clear hcl110 hS110
    try simp only [Act.put, qsaq, qszq, qssq]
    refine mva 11 (by rfl) (by kernel_rfl) (by rfl) (fun w' hS => by (try go_split_ands); go_simp; try rfl) hcl111 hS111 fun hcl112 hS112 => ?_
    clear hcl111 hS111
    try simp only [Act.put, qsaq, qszq, qssq]
    refine mva 12 (by rfl) (by kernel_rfl) (by rfl) (fun w' hS => by (try go_split_ands); go_simp; try rfl) hcl112 hS112 fun hcl113 hS113 => ?_
    clear hcl112 hS112
    try simp only [Act.put, qsaq, qszq, qssq]
    refine mva 13 (by rfl) (by kernel_rfl) (by rfl) (fun w' hS => by (try go_split_ands); go_simp; try rfl) hcl113 hS113 fun hcl114 hS114 => ?_
    clear hcl113 hS113
    try simp only [Act.put, qsaq, qszq, qssq]
    refine mva 14 (by rfl) (by kernel_rfl) (by rfl) (fun w' hS => by (try go_split_ands); go_simp; try rfl) hcl114 hS114 fun hcl115 hS115 => ?_
    clear hcl114 hS114
    try simp only [Act.put, qsaq, qszq, qssq]
    refine mva 15 (by rfl) (by kernel_rfl) (by rfl) (fun w' hS => by (try go_split_ands); go_simp; try rfl) hcl115 hS115 fun hcl116 hS116 => ?_
    clear hcl115 hS115
    try simp only [Act.put, qsaq, qszq, qssq]
    refine st0 16 (by rfl) (by kernel_rfl) hcl116 fun K hK => ?_
    go_simp
    go_at_call 129
    refine (GY.out _).mono ?_
    rintro e a2 ⟨rfl, rfl⟩
    refine hK _ _ (HC.out _ a1r) (fun hcl117 => ?_)
    clear hK K hcl116 hS116
    try simp only [Act.put, qsaq, qszq, qssq]
    refine mva 17 (by rfl) (by kernel_rfl) (by rfl) (fun w' hS => by (try go_split_ands); go_simp; try rfl) hcl117 (HC.out _ a1r) fun hcl118 hS118 => ?_
    clear hcl117
    try simp only [Act.put, qsaq, qszq, qssq]
    refine mva 18 (by rfl) (by kernel_rfl) (by rfl) (fun w' hS => by (try go_split_ands); go_simp; try rfl) hcl118 hS118 fun hcl119 hS119 => ?_
    clear hcl118 hS118
    try simp only [Act.put, qsaq, qszq, qssq]
    refine wpAnyL_done (by kernel_rfl) (NoPanic.normal ?_) _
    try simp only [Act.put, qsaq, qszq, qssq]
    cases py with
    | false =>
     obtain rfl : b6 = false := by rw [← E6.out]; exact allF_no HX.out (by rw [HPP.out]; rfl)
     obtain rfl : rr = false := by rw [HV.out]; simp
     clear HV
     go_wp2_with fail
     go_ret
     exact ⟨rfl, ACC.out.trans (RW.out.trans a1r)⟩
    | true =>
     have hs := allF_step HALL.out HX.out (by rw [HPP.out]; rfl)
     have HS := qh hs
     have RF := qh (RW.out.trans a1r)
     clear hs HC
     go_wp2_with fail
     go_roundw
     case rel => exact ⟨k + 1, by omega, by go_num, RF.out, HS.out⟩
     case measure => simp [intOf]; omega
  ·obtain rfl : k = t.fields.length := by omega
   obtain rfl : b6 = true := by rw [← E6.out, ← HALL.out, List.take_length]
   have c9 := (BT.out.wr0 RW.out).cell 9
   simp only [qgaq, qgzq, qgsq] at c9
   go_wp2_with fail
   clear c8 c9
   go_loopw [6] (fun i wr => ∃ k : Nat, k ≤ t.arms.length ∧ i = .int .i64 k ∧ LgAt w0 t.arms armForm k wr) (fun i _ => t.arms.length - (intOf i).toNat)
   case atStart => exact ⟨0, by omega, rfl, RW.out, rfl⟩
   case round =>
    clear RW HALL
    obtain ⟨k, hk, rfl, rw1, hall⟩ := hrel
    have RW := qh rw1
    have HALL := qh hall
    have c9 := (BT.out.wr0 rw1).cell 9
    simp only [qgaq, qgzq, qgsq] at c9
    clear hall rw1
    by_cases hlt : k < t.arms.length
    ·obtain ⟨x, hx⟩ : ∃ x, t.arms[k]? = some x := ⟨_, qgeq hlt⟩
     obtain ⟨b, off, c', va, vb, e, _, y0, y1, y2, ka, kb⟩ := arm_at (SlArms.keep HH.out.arms RW.out (fun _ _ => by simp)) hx
     injection e with e1 e2 e3
     subst e1 e3
     obtain ⟨Aa, ca, rfl, la1, la2⟩ := Sl.form ka
     obtain ⟨Ab, cb, rfl, lb1, lb2⟩ := Sl.form kb
     unfold maxLen at la2 lb2
     obtain ⟨px, hpx⟩ : ∃ q, x.frm.all smB = q := ⟨_, rfl⟩
     obtain ⟨py, hpy⟩ : ∃ q, x.to.all smB = q := ⟨_, rfl⟩
     have hpp : armForm x = (decide (x.frm.length = x.to.length) && px && py) := by unfold armForm; rw [hpx, hpy]
     have HPP := qh hpp
     have HPX := qh hpx
     have HPY := qh hpy
     have HX := qh hx
     have hlti : (k : Int) < (t.arms.length : Int) := by omega
     have hk0 : (0 : Int) ≤ (k : Int) := by omega
     clear hpx hpy hpp hx e2
     go_upto_region 12 with (fail)
     have bz := Blk.new wr 187 #[.slice Aa x.frm.length ca, .slice Ab x.to.length cb, .bool x.els]
     have rz := (Wr.refl [] wr).alloc (.cells #[.slice Aa x.frm.length ca, .slice Ab x.to.length cb, .bool x.els] 187)
     generalize wr.alloc (.cells #[.slice Aa x.frm.length ca, .slice Ab x.to.length cb, .bool x.els] 187) = wz at *
     generalize wr.heap.size = z at *
     obtain ⟨z0, z1⟩ := c2q bz
     have Z0 := qh z0
     have Z1 := qh z1
     have KA := qh (Sl.wr0 ka rz)
     have KB := qh (Sl.wr0 kb rz)
     have RZ := qh (RW.out.trans rz)
     clear bz rz ka kb y0 y1 y2 c9
     by_cases hne : x.frm.length = x.to.length
     case neg =>
      have hnb : ((x.frm.length : Int) != (x.to.length : Int)) = true := by
       rw [bne_iff_ne]
       omega
      obtain rfl : b7 = false := by rw [← E7.out]; exact allF_no HX.out (by rw [HPP.out, qdfq hne]; rfl)
      obtain rfl : rr = false := by rw [HV.out]; simp
      clear HV
      go_wp2_with fail
      go_ret
      exact ⟨rfl, ACC.out.trans RZ.out⟩
     have hnb : ((x.frm.length : Int) != (x.to.length : Int)) = false := by
      rw [hne]
      simp
     have HNE := qh hne
     clear hne
     go_wp2_with fail
     clear z0 z1 hnb
     go_loopw [8] (fun i wi => ∃ j : Nat, j ≤ x.frm.length ∧ i = .int .i64 j ∧ Wr [] wz wi ∧ (x.frm.take j).all smB = true ∧ (x.to.take j).all smB = true) (fun i _ => x.frm.length - (intOf i).toNat)
     case atStart => exact ⟨0, by omega, rfl, Wr.refl _ _, rfl, rfl⟩
     case round =>
      obtain ⟨j, hj, rfl, ri, ha, hb⟩ := hrel
      have RI := qh ri
      have HA := qh ha
      have HB := qh hb
      have z0 := ri.cellOf Z0.out (by simp)
      have z1 := ri.cellOf Z1.out (by simp)
      clear ri ha hb
      by_cases hlt3 : j < x.frm.length
      ·obtain ⟨p, hp⟩ : ∃ p, x.frm[j]? = some p := ⟨_, qgeq hlt3⟩
       obtain ⟨q, hq⟩ : ∃ q, x.to[j]? = some q := ⟨_, qgeq (by have := HNE.out; omega)⟩
       obtain ⟨ba, oa, c1, e, _, _, _, y0⟩ := Sl.at_ (Sl.wr0 KA.out RI.out) (j := j) (u := .int .i64 p) (by rw [qgmq, hp]; rfl)
       injection e with e1 e2 e3
       subst e1 e3
       obtain ⟨bb, ob, c2, e, _, _, _, y1⟩ := Sl.at_ (Sl.wr0 KB.out RI.out) (j := j) (u := .int .i64 q) (by rw [qgmq, hq]; rfl)
       injection e with e1 e2 e3
       subst e1 e3
       have hji : (j : Int) < (x.frm.length : Int) := by omega
       have hji2 : (j : Int) < (x.to.length : Int) := by have := HNE.out; omega
       have hj0 : (0 : Int) ≤ (j : Int) := by omega
       have gx := fun W => small_r p W
       have gy := fun W => small_r q W
       obtain ⟨pp, hpp⟩ : ∃ r, smB p = r := ⟨_, rfl⟩
       obtain ⟨pq, hpq⟩ : ∃ r, smB q = r := ⟨_, rfl⟩
       simp only [hpp] at gx
       simp only [hpq] at gy
       have GX := qh gx
       have GY := qh gy
       have HP := qh hp
       have HQ := qh hq
       have HP2 := qh hpp
       have HQ2 := qh hpq
       clear gx gy hp hq hpp hpq
       go_wp2_with fail
       refine (GX.out _).mono ?_
       rintro e w7 ⟨rfl, rfl⟩
       cases pp with
       | false =>
        obtain rfl : px = false := by rw [← HPX.out]; exact allF_no HP.out HP2.out
        obtain rfl : b7 = false := by rw [← E7.out]; exact allF_no HX.out (by rw [HPP.out]; simp)
        obtain rfl : rr = false := by rw [HV.out]; simp
        clear HV
        go_wp2_with fail
        go_ret
        exact ⟨rfl, ACC.out.trans (RZ.out.trans RI.out)⟩
       | true =>
       go_wp2_with fail
       refine (GY.out _).mono ?_
       rintro e w7 ⟨rfl, rfl⟩
       cases pq with
       | false =>
        obtain rfl : py = false := by rw [← HPY.out]; exact allF_no HQ.out HQ2.out
        obtain rfl : b7 = false := by rw [← E7.out]; exact allF_no HX.out (by rw [HPP.out]; simp)
        obtain rfl : rr = false := by rw [HV.out]; simp
        clear HV
        go_wp2_with fail
        go_ret
        exact ⟨rfl, ACC.out.trans (RZ.out.trans RI.out)⟩
       | true =>
       have hs1 := allF_step HA.out HP.out HP2.out
       have hs2 := allF_step HB.out HQ.out HQ2.out
       have HS1 := qh hs1
       have HS2 := qh hs2
       clear hs1 hs2
       go_wp2_with fail
       go_roundw
       case rel => exact ⟨j + 1, by omega, by go_num, RI.out, HS1.out, HS2.out⟩
       case measure => simp [intOf]; omega
      ·obtain rfl : j = x.frm.length := by omega
       obtain rfl : px = true := by rw [← HPX.out, ← HA.out, List.take_length]
       obtain rfl : py = true := by rw [← HPY.out, ← HB.out, HNE.out, List.take_length]
       have hs := allF_step HALL.out HX.out (by rw [HPP.out, qdtq HNE.out]; rfl)
       have HS := qh hs
       have RF := qh (RZ.out.trans RI.out)
       clear hs
       go_wp2_with fail
       go_roundw
       case rel => exact ⟨k + 1, by omega, by go_num, RF.out, HS.out⟩
       case measure => simp [intOf]; omega
    ·obtain rfl : k = t.arms.length := by omega
     obtain rfl : b7 = true := by rw [← E7.out, ← HALL.out, List.take_length]
     have c10 := (BT.out.wr0 RW.out).cell 10
     simp only [qgaq, qgzq, qgsq] at c10
     go_wp2_with fail
     clear c9 c10
     go_loopw [9] (fun i wr => ∃ k : Nat, k ≤ t.params.length ∧ i = .int .i64 k ∧ LgAt w0 t.params (fun p => tyB nt p.type) k wr) (fun i _ => t.params.length - (intOf i).toNat)
     case atStart => exact ⟨0, by omega, rfl, RW.out, rfl⟩
     case round =>
      clear RW HALL
      obtain ⟨k, hk, rfl, rw1, hall⟩ := hrel
      have RW := qh rw1
      have HALL := qh hall
      have c10 := (BT.out.wr0 rw1).cell 10
      simp only [qgaq, qgzq, qgsq] at c10
      clear hall rw1
      by_cases hlt : k < t.params.length
      ·obtain ⟨x, hx⟩ : ∃ x, t.params[k]? = some x := ⟨_, qgeq hlt⟩
       obtain ⟨b, off, c', e, _, hc⟩ := par_at HH.out.params hx
       injection e with e1 e2 e3
       subst e1 e3
       have x1 := RW.out.cellOf (hc 1 _ rfl) (by simp)
       have gx := fun W => typ_m s (.slice Au nu cu) (.slice Ai ni ci) A nt c hnt x.type W
       obtain ⟨px, hpx⟩ : ∃ q, tyB nt x.type = q := ⟨_, rfl⟩
       simp only [hpx] at gx
       have GX := qh gx
       have HPX := qh hpx
       have HX := qh hx
       have hlti : (k : Int) < (t.params.length : Int) := by omega
       have hk0 : (0 : Int) ≤ (k : Int) := by omega
       clear gx hpx hx hc e2
       obtain ⟨d0, d1, d2, d3⟩ := c4q (BF.out.wr0 RW.out)
       go_upto_region 22 with (fail)
       refine begin2 [] (fun w' => w'.cell? ⟨g, 0, none⟩ = some (.string s) ∧ w'.cell? ⟨g, 1, none⟩ = some (.slice Au nu cu) ∧ w'.cell? ⟨g, 2, none⟩ = some (.slice A nt c) ∧ w'.cell? ⟨g, 3, none⟩ = some (.slice Ai ni ci) ∧ w'.cell? ⟨g + 1, 10, none⟩ = some (.slice (some ⟨b, off, none⟩) t.params.length k4) ∧ w'.cell? ⟨b, off + k * 2 + 1, none⟩ = some (.int .i64 x.type)) (by kernel_rfl) (fun W hW => ⟨hW.cellOf d0 (by simp), hW.cellOf d1 (by simp), hW.cellOf d2 (by simp), hW.cellOf d3 (by simp), hW.cellOf c10 (by simp), hW.cellOf x1 (by simp)⟩) fun HC hcl hS => ?_
       refine mva 0 (by rfl) (by kernel_rfl) (by rfl) (fun w' hS => by (try go_split_ands); go_simp; try rfl) hcl hS fun hcl301 hS301 => ?_
       clear hcl hS
       try simp only [Act.put, qsaq, qszq, qssq]
       refine mva 1 (by rfl) (by kernel_rfl) (by rfl) (fun w' hS => by (try go_split_ands); go_simp; try rfl) hcl301 hS301 fun hcl302 hS302 => ?_
       clear hcl301 hS301
       try simp only [Act.put, qsaq, qszq, qssq]
       refine mva 2 (by rfl) (by kernel_rfl) (by rfl) (fun w' hS => by (try go_split_ands); go_simp; try rfl) hcl302 hS302 fun hcl303 hS303 => ?_
       clear hcl302 hS302
       try simp only [Act.put, qsaq, qszq, qssq]
       refine mva 3 (by rfl) (by kernel_rfl) (by rfl) (fun w' hS => by (try go_split_ands); go_simp; try rfl) hcl303 hS303 fun hcl304 hS304 => ?_
       clear hcl303 hS303
       try simp only [Act.put, qsaq, qszq, qssq]
       refine mva 4 (by rfl) (by kernel_rfl) (by rfl) (fun w' hS => by (try go_split_ands); go_simp; try rfl) hcl304 hS304 fun hcl305 hS305 => ?_
       clear hcl304 hS304
       try simp only [Act.put, qsaq, qszq, qssq]
       refine mva 5 (by rfl) (by kernel_rfl) (by rfl) (fun w' hS => by (try go_split_ands); go_simp; try rfl) hcl305 hS305 fun hcl306 hS306 => ?_
       clear hcl305 hS305
       try simp only [Act.put, qsaq, qszq, qssq]
       refine mva 6 (by rfl) (by kernel_rfl) (by rfl) (fun w' hS => by (try go_split_ands); go_simp; try rfl) hcl306 hS306 fun hcl307 hS307 => ?_
       clear hcl306 hS306
       try simp only [Act.put, qsaq, qszq, qssq]
       refine st0 7 (by rfl) (by kernel_rfl) hcl307 fun K hK => ?_
       go_simp
       go_at_call 128
       refine (GX.out _).mono ?_
       rintro e a1 ⟨rfl, a1q⟩
       have a1r := ((Wr.refl [] wr).drew).trans a1q
       clear a1q
       refine hK _ _ (HC.out _ a1r) (fun hcl308 => ?_)
       clear hK K hcl307 hS307
       try simp only [Act.put, qsaq, qszq, qssq]
       refine mva 8 (by rfl) (by kernel_rfl) (by rfl) (fun w' hS => by (try go_split_ands); go_simp; try rfl) hcl308 (HC.out _ a1r) fun hcl309 hS309 => ?_
       clear hcl308
       try simp only [Act.put, qsaq, qszq, qssq]
       refine wpAnyL_done (by kernel_rfl) (NoPanic.normal ?_) _
       try simp only [Act.put, qsaq, qszq, qssq]
       cases px with
       | false =>
        obtain rfl : b8 = false := by rw [← E8.out]; exact allF_no HX.out HPX.out
        obtain rfl : rr = false := by rw [HV.out]; simp
        clear HV
        go_wp2_with fail
        go_ret
        exact ⟨rfl, ACC.out.trans (RW.out.trans a1r)⟩
       | true =>
        have hs := allF_step HALL.out HX.out HPX.out
        have HS := qh hs
        have RF := qh (RW.out.trans a1r)
        clear hs HC
        go_wp2_with fail
        go_roundw
        case rel => exact ⟨k + 1, by omega, by go_num, RF.out, HS.out⟩
        case measure => simp [intOf]; omega
      ·obtain rfl : k = t.params.length := by omega
       obtain rfl : b8 = true := by rw [← E8.out, ← HALL.out, List.take_length]
       obtain rfl : rr = true := by rw [HV.out]; rfl
       clear HV
       go_wp2_with fail
       go_ret
       exact ⟨rfl, ACC.out.trans RW.out⟩
end Go.Proofs.YtildcdgobdfieaaGreat
