/- ref 14's May: walked. No conditions. -/
import Derived.Test.YtildcdgobdfieaaGreatRD30
set_option linter.unusedVariables false
set_option linter.unusedSimpArgs false
set_option maxRecDepth 100000
set_option maxHeartbeats 32000000
namespace Go.Proofs.YtildcdgobdfieaaGreat
open Go.RowKit
def pitForm (nt : Nat) (x : PItm) : Bool := tyB nt x.type && smB x.at_ && decide (x.v.sort ≤ 7) && smB x.v.n && tyB nt x.v.type
def rmayP (f : FaceP) : Int :=
 if rfitB f then if onceB [] (f.uses.map UseD.module) && onceB [] (f.items.map PItm.name) then if f.types.all (tyForm f.types.length) && f.items.all (pitForm f.types.length) then 0 else 7 else 6 else 5
theorem rfit_types {f : FaceP} (h : rfitB f = true) : f.types.length ≤ 1024 := by
 unfold rfitB at h
 simp only [Bool.and_eq_true, decide_eq_true_eq] at h
 exact h.1.1.1.1.2
theorem may_r (f : FaceP) (vu vt vi : Value) (P : Nat → Prop) (w : World) (h : FacePL w P vu vt vi f) :
  Calls Tryz.prog 96 #[.agg #[.string f.module, vu, vt, vi]] w fun e w' => e = .returned (.int .i64 (rmayP f)) ∧ Wr [] w w' := by
 obtain ⟨⟨A1, k1, rfl, hn1, hn2⟩, ⟨A2, k2, rfl, hf1, hf2⟩, ⟨A3, k3, rfl, ha1, ha2⟩⟩ := h.forms
 unfold maxLen at hn2 hf2 ha2
 obtain ⟨w0, hw0⟩ : ∃ q, w.alloc (.cells #[.string f.module, .slice A1 f.uses.length k1, .slice A2 f.types.length k2, .slice A3 f.items.length k3] 60) = q := ⟨_, rfl⟩
 obtain ⟨g, hg⟩ : ∃ g, w.heap.size = g := ⟨_, rfl⟩
 have acc : Wr [] w w0 := by rw [← hw0]; exact (Wr.refl [] _).alloc _
 have bF : Blk w0 g 60 #[.string f.module, .slice A1 f.uses.length k1, .slice A2 f.types.length k2, .slice A3 f.items.length k3] := by rw [← hw0, ← hg]; exact Blk.new _ _ _
 have g1 := long_r f _ _ _ P w0 (h.wr0 acc)
 have g2 := fun W (hW : Wr [] w0 W) => twice_r f _ _ _ P W ((h.wr0 acc).wr0 hW)
 obtain ⟨b1, e1⟩ : ∃ q, rfitB f = q := ⟨_, rfl⟩
 obtain ⟨b2, e2⟩ : ∃ q, (onceB [] (f.uses.map UseD.module) && onceB [] (f.items.map PItm.name)) = q := ⟨_, rfl⟩
 obtain ⟨b3, e3⟩ : ∃ q, f.types.all (tyForm f.types.length) = q := ⟨_, rfl⟩
 obtain ⟨b4, e4⟩ : ∃ q, f.items.all (pitForm f.types.length) = q := ⟨_, rfl⟩
 obtain ⟨rr, hrr⟩ : ∃ q, rmayP f = q := ⟨_, rfl⟩
 have hv : rr = if b1 then if b2 then if b3 && b4 then 0 else 7 else 6 else 5 := by
  rw [← hrr]
  unfold rmayP
  rw [e1, e2, e3, e4]
 rw [hrr]
 rw [e1] at g1
 simp only [e2] at g2
 have G1 := qh g1
 have G2 := qh g2
 have E1 := qh e1
 have E3 := qh e3
 have E4 := qh e4
 have HV := qh hv
 have HH := qh (h.wr0 acc)
 have HW0 := qh hw0
 have HG := qh hg
 have ACC := qh acc
 have BF := qh bF
 obtain ⟨d0, d1, d2, d3⟩ := c4q (bF)
 clear hw0 hg acc bF g1 g2 e1 e2 e3 e4 hv hrr h
 go_in
 go_upto_region 1 with (fail)
 rw [HW0.out, HG.out]
 go_wp2_with fail
 refine G1.out.mono ?_
 rintro e w1 ⟨rfl, q1⟩
 have R1 := qh q1
 clear q1 d0 d1 d2 d3
 cases b1 with
 | false =>
  obtain rfl : rr = 5 := by rw [HV.out]; rfl
  clear HV
  go_wp2_with fail
  go_ret
  exact ⟨rfl, ACC.out.trans R1.out⟩
 | true =>
 have hnt : f.types.length ≤ 1000000 := by have := rfit_types E1.out; omega
 obtain ⟨d0, d1, d2, d3⟩ := c4q (BF.out.wr0 R1.out)
 go_wp2_with fail
 refine (G2.out _ R1.out).mono ?_
 rintro e w2 ⟨rfl, q2⟩
 have R2 := qh (R1.out.trans q2)
 clear q2 d0 d1 d2 d3
 cases b2 with
 | false =>
  obtain rfl : rr = 6 := by rw [HV.out]; rfl
  clear HV
  go_wp2_with fail
  go_ret
  exact ⟨rfl, ACC.out.trans R2.out⟩
 | true =>
 go_wp2_with fail
 go_loopw [3] (fun i wr => ∃ k : Nat, k ≤ f.types.length ∧ i = .int .i64 k ∧ LgAt w0 f.types (tyForm f.types.length) k wr) (fun i _ => f.types.length - (intOf i).toNat)
 case atStart => exact ⟨0, by omega, rfl, R2.out, rfl⟩
 case round =>
  obtain ⟨k, hk, rfl, rw1, hall⟩ := hrel
  have RW := qh rw1
  have HALL := qh hall
  obtain ⟨d0, d1, d2, d3⟩ := c4q (BF.out.wr0 rw1)
  clear hall rw1
  by_cases hlt : k < f.types.length
  ·obtain ⟨x, hx⟩ : ∃ x, f.types[k]? = some x := ⟨_, qgeq hlt⟩
   obtain ⟨b, off, c', un, uf, ua, up, e, _, hc, hl⟩ := ty_at (HH.out.types.wr0 RW.out) hx
   injection e with e1 e2 e3
   subst e1 e3
   obtain ⟨⟨B1, m1, rfl, _, _⟩, ⟨B2, m2, rfl, _, _⟩, ⟨B3, m3, rfl, _, _⟩, ⟨B4, m4, rfl, _, _⟩⟩ := hl.forms
   have x0 := hc 0 _ rfl
   have x1 := hc 1 _ rfl
   have x2 := hc 2 _ rfl
   have x3 := hc 3 _ rfl
   have x4 := hc 4 _ rfl
   have x5 := hc 5 _ rfl
   have x6 := hc 6 _ rfl
   have x7 := hc 7 _ rfl
   have x8 := hc 8 _ rfl
   have x9 := hc 9 _ rfl
   have x10 := hc 10 _ rfl
   have x11 := hc 11 _ rfl
   simp only [Nat.add_zero] at x0
   have gx := fun W (hW : Wr [] wr W) => formed_r f.module A1 (some ⟨b, off, none⟩) A3 f.uses.length k1 f.types.length k2 f.items.length k3 hnt x _ _ _ _ P W (hl.wr0 hW)
   obtain ⟨px, hpx⟩ : ∃ q, tyForm f.types.length x = q := ⟨_, rfl⟩
   simp only [hpx] at gx
   have GX := qh gx
   have HPX := qh hpx
   have HX := qh hx
   have hlti : (k : Int) < (f.types.length : Int) := by omega
   have hk0 : (0 : Int) ≤ (k : Int) := by omega
   clear gx hpx hx hc hl e2
   go_upto_region 8 with (fail)
   refine begin2 [] (fun w' => w'.cell? ⟨g, 0, none⟩ = some (.string f.module) ∧ w'.cell? ⟨g, 1, none⟩ = some (.slice A1 f.uses.length k1) ∧ w'.cell? ⟨g, 2, none⟩ = some (.slice (some ⟨b, off, none⟩) f.types.length k2) ∧ w'.cell? ⟨g, 3, none⟩ = some (.slice A3 f.items.length k3) ∧ w'.cell? ⟨b, off + k * 12, none⟩ = some (.int .u8 x.kind) ∧ w'.cell? ⟨b, off + k * 12 + 1, none⟩ = some (.string x.module) ∧ w'.cell? ⟨b, off + k * 12 + 2, none⟩ = some (.string x.name) ∧ w'.cell? ⟨b, off + k * 12 + 3, none⟩ = some (.int .i64 x.base) ∧ w'.cell? ⟨b, off + k * 12 + 4, none⟩ = some (.int .i64 x.index) ∧ w'.cell? ⟨b, off + k * 12 + 5, none⟩ = some (.int .i64 x.low) ∧ w'.cell? ⟨b, off + k * 12 + 6, none⟩ = some (.int .i64 x.high) ∧ w'.cell? ⟨b, off + k * 12 + 7, none⟩ = some (.slice B1 x.names.length m1) ∧ w'.cell? ⟨b, off + k * 12 + 8, none⟩ = some (.slice B2 x.fields.length m2) ∧ w'.cell? ⟨b, off + k * 12 + 9, none⟩ = some (.slice B3 x.arms.length m3) ∧ w'.cell? ⟨b, off + k * 12 + 10, none⟩ = some (.slice B4 x.params.length m4) ∧ w'.cell? ⟨b, off + k * 12 + 11, none⟩ = some (.int .i64 x.result)) (by kernel_rfl) (fun W hW => ⟨hW.cellOf d0 (by simp), hW.cellOf d1 (by simp), hW.cellOf d2 (by simp), hW.cellOf d3 (by simp), hW.cellOf x0 (by simp), hW.cellOf x1 (by simp), hW.cellOf x2 (by simp), hW.cellOf x3 (by simp), hW.cellOf x4 (by simp), hW.cellOf x5 (by simp), hW.cellOf x6 (by simp), hW.cellOf x7 (by simp), hW.cellOf x8 (by simp), hW.cellOf x9 (by simp), hW.cellOf x10 (by simp), hW.cellOf x11 (by simp)⟩) fun HC hcl hS => ?_
   refine mva 0 (by rfl) (by kernel_rfl) (by rfl) (fun w' hS => by (try go_split_ands); go_simp; try rfl) hcl hS fun hcl101 hS101 => ?_
   clear hcl hS
   try simp only [Act.put, qsaq, qszq, qssq]
   refine mva 1 (by rfl) (by kernel_rfl) (by rfl) (fun w' hS => by (try go_split_ands); go_simp; try rfl) hcl101 hS101 fun hcl102 hS102 => ?_
   clear hcl101 hS101
   try simp only [Act.put, qsaq, qszq, qssq]
   refine mva 2 (by rfl) (by kernel_rfl) (by rfl) (fun w' hS => by (try go_split_ands); go_simp; try rfl) hcl102 hS102 fun hcl103 hS103 => ?_
   clear hcl102 hS102
   try simp only [Act.put, qsaq, qszq, qssq]
   refine mva 3 (by rfl) (by kernel_rfl) (by rfl) (fun w' hS => by (try go_split_ands); go_simp; try rfl) hcl103 hS103 fun hcl104 hS104 => ?_
   clear hcl103 hS103
   try simp only [Act.put, qsaq, qszq, qssq]
   refine mva 4 (by rfl) (by kernel_rfl) (by rfl) (fun w' hS => by (try go_split_ands); go_simp; try rfl) hcl104 hS104 fun hcl105 hS105 => ?_
   clear hcl104 hS104
   try simp only [Act.put, qsaq, qszq, qssq]
   refine mva 5 (by rfl) (by kernel_rfl) (by rfl) (fun w' hS => by (try go_split_ands); go_simp; try rfl) hcl105 hS105 fun hcl106 hS106 => ?_
   clear hcl105 hS105
   try simp only [Act.put, qsaq, qszq, qssq]
   refine st0 6 (by rfl) (by kernel_rfl) hcl106 fun K hK => ?_
   go_simp
   go_at_call 127
   refine (GX.out _ ((Wr.refl [] wr).drew)).mono ?_
   rintro e a1 ⟨rfl, a1q⟩
   have a1r := ((Wr.refl [] wr).drew).trans a1q
   clear a1q
   refine hK _ _ (HC.out _ a1r) (fun hcl107 => ?_)
   clear hK K hcl106 hS106
   try simp only [Act.put, qsaq, qszq, qssq]
   refine mva 7 (by rfl) (by kernel_rfl) (by rfl) (fun w' hS => by (try go_split_ands); go_simp; try rfl) hcl107 (HC.out _ a1r) fun hcl108 hS108 => ?_
   clear hcl107
   try simp only [Act.put, qsaq, qszq, qssq]
   refine wpAnyL_done (by kernel_rfl) (NoPanic.normal ?_) _
   try simp only [Act.put, qsaq, qszq, qssq]
   cases px with
   | false =>
    obtain rfl : b3 = false := by rw [← E3.out]; exact allF_no HX.out HPX.out
    obtain rfl : rr = 7 := by rw [HV.out]; simp
    clear HV
    go_wp2_with fail
    go_ret
    exact ⟨rfl, ACC.out.trans (RW.out.trans a1r)⟩
   | true =>
    have hs := allF_step HALL.out HX.out HPX.out
    have HS := qh hs
    have RF := qh (RW.out.trans a1r)
    clear hs HC
    go_wp2_with fail
    go_roundw
    case rel => exact ⟨k + 1, by omega, by go_num, RF.out, HS.out⟩
    case measure => simp [intOf]; omega
  ·obtain rfl : k = f.types.length := by omega
   obtain rfl : b3 = true := by rw [← E3.out, ← HALL.out, List.take_length]
   go_wp2_with fail
   clear d0 d1 d2 d3
   go_loopw [4] (fun i wr => ∃ k : Nat, k ≤ f.items.length ∧ i = .int .i64 k ∧ LgAt w0 f.items (pitForm f.types.length) k wr) (fun i _ => f.items.length - (intOf i).toNat)
   case atStart => exact ⟨0, by omega, rfl, RW.out, rfl⟩
   case round =>
    clear RW HALL
    obtain ⟨k, hk, rfl, rw1, hall⟩ := hrel
    have RW := qh rw1
    have HALL := qh hall
    have d3 := (BF.out.wr0 rw1).cell 3
    simp only [qgaq, qgzq, qgsq] at d3
    clear hall rw1
    by_cases hlt : k < f.items.length
    ·obtain ⟨x, hx⟩ : ∃ x, f.items[k]? = some x := ⟨_, qgeq hlt⟩
     obtain ⟨b, off, c', e, _, hc⟩ := pitm_at HH.out.items hx
     injection e with e1 e2 e3
     subst e1 e3
     have x0 := RW.out.cellOf (hc 0 _ rfl) (by simp)
     have x1 := RW.out.cellOf (hc 1 _ rfl) (by simp)
     have x2 := RW.out.cellOf (hc 2 _ rfl) (by simp)
     have x3 := RW.out.cellOf (hc 3 _ rfl) (by simp)
     have x4 := RW.out.cellOf (hc 4 _ rfl) (by simp)
     have x5 := RW.out.cellOf (hc 5 _ rfl) (by simp)
     have x6 := RW.out.cellOf (hc 6 _ rfl) (by simp)
     have x7 := RW.out.cellOf (hc 7 _ rfl) (by simp)
     simp only [Nat.add_zero] at x0
     have hlti : (k : Int) < (f.items.length : Int) := by omega
     have hk0 : (0 : Int) ≤ (k : Int) := by omega
     have t1 := fun W => typ_m f.module (.slice A1 f.uses.length k1) (.slice (some ⟨b, off, none⟩) f.items.length k3) A2 f.types.length k2 hnt x.type W
     have t2 := fun W => small_r x.at_ W
     have t4 := fun W => small_r x.v.n W
     have t5 := fun W => typ_m f.module (.slice A1 f.uses.length k1) (.slice (some ⟨b, off, none⟩) f.items.length k3) A2 f.types.length k2 hnt x.v.type W
     obtain ⟨p1, h1⟩ : ∃ q, tyB f.types.length x.type = q := ⟨_, rfl⟩
     obtain ⟨p2, h2⟩ : ∃ q, smB x.at_ = q := ⟨_, rfl⟩
     obtain ⟨p4, h4⟩ : ∃ q, smB x.v.n = q := ⟨_, rfl⟩
     obtain ⟨p5, h5⟩ : ∃ q, tyB f.types.length x.v.type = q := ⟨_, rfl⟩
     have hpp : pitForm f.types.length x = (p1 && p2 && decide (x.v.sort ≤ 7) && p4 && p5) := by unfold pitForm; rw [h1, h2, h4, h5]
     simp only [h1] at t1
     simp only [h2] at t2
     simp only [h4] at t4
     simp only [h5] at t5
     have T1 := qh t1
     have T2 := qh t2
     have T4 := qh t4
     have T5 := qh t5
     have HPP := qh hpp
     have HX := qh hx
     clear t1 t2 t4 t5 h1 h2 h4 h5 hpp hx hc e2
     go_upto_region 14 with (fail)
     have bz := Blk.new wr 134 #[.string x.name, .int .u8 x.kind, .int .i64 x.type, .int .i64 x.at_, .int .u8 x.v.sort, .int .i64 x.v.n, .int .i64 x.v.type, .string x.v.text]
     have rz := (Wr.refl [] wr).alloc (.cells #[.string x.name, .int .u8 x.kind, .int .i64 x.type, .int .i64 x.at_, .int .u8 x.v.sort, .int .i64 x.v.n, .int .i64 x.v.type, .string x.v.text] 134)
     generalize wr.alloc (.cells #[.string x.name, .int .u8 x.kind, .int .i64 x.type, .int .i64 x.at_, .int .u8 x.v.sort, .int .i64 x.v.n, .int .i64 x.v.type, .string x.v.text] 134) = wz at *
     generalize wr.heap.size = z at *
     obtain ⟨y0, y1, y2, y3, y4, y5, y6, y7⟩ := c8q (bz)
     clear x0 x1 x2 x3 x4 x5 x6 x7 d3
     go_upto_region 15 with (fail)
     have bv := Blk.new wz 132 #[.int .u8 x.v.sort, .int .i64 x.v.n, .int .i64 x.v.type, .string x.v.text]
     have rv := (Wr.refl [] wz).alloc (.cells #[.int .u8 x.v.sort, .int .i64 x.v.n, .int .i64 x.v.type, .string x.v.text] 132)
     generalize wz.alloc (.cells #[.int .u8 x.v.sort, .int .i64 x.v.n, .int .i64 x.v.type, .string x.v.text] 132) = wv at *
     generalize wz.heap.size = q at *
     have RV := qh ((RW.out.trans rz).trans rv)
     have BZ := qh (bz.wr0 rv)
     have BV := qh bv
     clear bz rz bv rv y0 y1 y2 y3 y4 y5 y6 y7
     obtain ⟨d0, d1, d2, d3⟩ := c4q (BF.out.wr0 RV.out)
     have y2 := (BZ.out).cell 2
     have y3 := (BZ.out).cell 3
     simp only [qgaq, qgzq, qgsq] at y2 y3
     obtain ⟨v0, v1, v2⟩ := c3q (BV.out)
     go_wp2_with fail
     refine (T1.out _).mono ?_
     rintro e w6 ⟨rfl, q6⟩
     have R6 := qh (RV.out.trans q6)
     have BZ6 := qh (BZ.out.wr0 q6)
     have BV6 := qh (BV.out.wr0 q6)
     clear q6 d0 d1 d2 d3 y2 y3 v0 v1 v2
     cases p1 with
     | false =>
      obtain rfl : b4 = false := by rw [← E4.out]; exact allF_no HX.out (by rw [HPP.out]; simp)
      obtain rfl : rr = 7 := by rw [HV.out]; simp
      clear HV
      go_wp2_with fail
      go_ret
      exact ⟨rfl, ACC.out.trans (R6.out)⟩
     | true =>
     obtain ⟨d0, d1, d2, d3⟩ := c4q (BF.out.wr0 R6.out)
     have y2 := (BZ6.out).cell 2
     have y3 := (BZ6.out).cell 3
     simp only [qgaq, qgzq, qgsq] at y2 y3
     obtain ⟨v0, v1, v2⟩ := c3q (BV6.out)
     go_wp2_with fail
     refine (T2.out _).mono ?_
     rintro e w7 ⟨rfl, rfl⟩
     cases p2 with
     | false =>
      obtain rfl : b4 = false := by rw [← E4.out]; exact allF_no HX.out (by rw [HPP.out]; simp)
      obtain rfl : rr = 7 := by rw [HV.out]; simp
      clear HV
      go_wp2_with fail
      go_ret
      exact ⟨rfl, ACC.out.trans (R6.out)⟩
     | true =>
     by_cases h7 : 7 < x.v.sort
     ·obtain rfl : b4 = false := by rw [← E4.out]; exact allF_no HX.out (by rw [HPP.out, qdfq (show ¬ x.v.sort ≤ 7 by omega)]; simp)
      obtain rfl : rr = 7 := by rw [HV.out]; simp
      clear HV
      go_wp2_with fail
      go_ret
      exact ⟨rfl, ACC.out.trans (R6.out)⟩
     have HPQ := qh (show pitForm f.types.length x = (p4 && p5) by rw [HPP.out, qdtq (show x.v.sort ≤ 7 by omega)]; rfl)
     go_wp2_with fail
     refine (T4.out _).mono ?_
     rintro e w7 ⟨rfl, rfl⟩
     cases p4 with
     | false =>
      obtain rfl : b4 = false := by rw [← E4.out]; exact allF_no HX.out (by rw [HPQ.out]; rfl)
      obtain rfl : rr = 7 := by rw [HV.out]; simp
      clear HV
      go_wp2_with fail
      go_ret
      exact ⟨rfl, ACC.out.trans (R6.out)⟩
     | true =>
     go_wp2_with fail
     refine (T5.out _).mono ?_
     rintro e w8 ⟨rfl, q8⟩
     have R8 := qh (R6.out.trans q8)
     clear q8 d0 d1 d2 d3 y2 y3 v0 v1 v2
     cases p5 with
     | false =>
      obtain rfl : b4 = false := by rw [← E4.out]; exact allF_no HX.out (by rw [HPQ.out]; rfl)
      obtain rfl : rr = 7 := by rw [HV.out]; simp
      clear HV
      go_wp2_with fail
      go_ret
      exact ⟨rfl, ACC.out.trans (R8.out)⟩
     | true =>
     have hs := allF_step HALL.out HX.out (by rw [HPQ.out]; rfl)
     have HS := qh hs
     clear hs
     go_wp2_with fail
     go_roundw
     case rel => exact ⟨k + 1, by omega, by go_num, R8.out, HS.out⟩
     case measure => simp [intOf]; omega
    ·obtain rfl : k = f.items.length := by omega
     obtain rfl : b4 = true := by rw [← E4.out, ← HALL.out, List.take_length]
     obtain rfl : rr = 0 := by rw [HV.out]; rfl
     clear HV
     go_wp2_with fail
     go_ret
     exact ⟨rfl, ACC.out.trans RW.out⟩
theorem FacePL.into {w : World} {P Q : Nat → Prop} {vu vt vi : Value} {f : FaceP} (h : FacePL w P vu vt vi f) (hP : ∀ b, P b → b < w.heap.size → Q b) : FacePL w Q vu vt vi f := ⟨Sl.into h.uses hP, h.types.into hP, Sl.into h.items hP⟩
theorem val_cells (v : AnyD) : v.val.cells = #[v.val] := by cases v <;> rfl
theorem value_nil (w : World) : Calls Tryz.prog 70 #[(.nil : AnyD).val] w fun e w' => e = .returned (.agg (valOf (.nil)).cells.toArray) ∧ Wr [] w w' := by
 have t0 := fun w => anyAs_whole (.nil) w
 have t1 := fun w => anyAs_letter (.nil) w
 have t2 := fun w => anyAs_truth (.nil) w
 have t3 := fun w => anyAs_bits (.nil) w
 have t4 := fun w => anyAs_string (.nil) w
 have t5 := fun w => anyAs_item (.nil) w
 have t6 := fun w => anyAs_null (.nil) w
 simp only [AnyD.val, AnyD.wholeV, AnyD.letterV, AnyD.truthV, AnyD.bitsV, AnyD.strV, AnyD.itemT, AnyD.itemN, AnyD.sort] at t0 t1 t2 t3 t4 t5 t6
 simp only [AnyD.val]
 go_in
 go_wp2_with fail
 refine bodyPost_ret (v := .agg (valOf (.nil)).cells.toArray) (by simp [results, Tryz.results70, go_sem, valOf, PVal.cells]) rfl ⟨rfl, by first | exact (Wr.refl _ _).alloc _ | exact ((Wr.refl _ _).alloc _).alloc _⟩
theorem value_whole (n : Int) (w : World) : Calls Tryz.prog 70 #[(.whole n : AnyD).val] w fun e w' => e = .returned (.agg (valOf (.whole n)).cells.toArray) ∧ Wr [] w w' := by
 have t0 := fun w => anyAs_whole (.whole n) w
 have t1 := fun w => anyAs_letter (.whole n) w
 have t2 := fun w => anyAs_truth (.whole n) w
 have t3 := fun w => anyAs_bits (.whole n) w
 have t4 := fun w => anyAs_string (.whole n) w
 have t5 := fun w => anyAs_item (.whole n) w
 have t6 := fun w => anyAs_null (.whole n) w
 simp only [AnyD.val, AnyD.wholeV, AnyD.letterV, AnyD.truthV, AnyD.bitsV, AnyD.strV, AnyD.itemT, AnyD.itemN, AnyD.sort] at t0 t1 t2 t3 t4 t5 t6
 simp only [AnyD.val]
 go_in
 go_wp2_with fail
 refine bodyPost_ret (v := .agg (valOf (.whole n)).cells.toArray) (by simp [results, Tryz.results70, go_sem, valOf, PVal.cells]) rfl ⟨rfl, by first | exact (Wr.refl _ _).alloc _ | exact ((Wr.refl _ _).alloc _).alloc _⟩
theorem value_letter (n : Int) (hn : 0 ≤ n ∧ n ≤ 255) (w : World) : Calls Tryz.prog 70 #[(.letter n : AnyD).val] w fun e w' => e = .returned (.agg (valOf (.letter n)).cells.toArray) ∧ Wr [] w w' := by
 have t0 := fun w => anyAs_whole (.letter n) w
 have t1 := fun w => anyAs_letter (.letter n) w
 have t2 := fun w => anyAs_truth (.letter n) w
 have t3 := fun w => anyAs_bits (.letter n) w
 have t4 := fun w => anyAs_string (.letter n) w
 have t5 := fun w => anyAs_item (.letter n) w
 have t6 := fun w => anyAs_null (.letter n) w
 simp only [AnyD.val, AnyD.wholeV, AnyD.letterV, AnyD.truthV, AnyD.bitsV, AnyD.strV, AnyD.itemT, AnyD.itemN, AnyD.sort] at t0 t1 t2 t3 t4 t5 t6
 have e1 : IntKind.i64.wrap n = n := by rw [IntKind.wrap_i64]; omega
 simp only [AnyD.val]
 go_in
 go_wp2_with fail
 refine bodyPost_ret (v := .agg (valOf (.letter n)).cells.toArray) (by simp [results, Tryz.results70, go_sem, valOf, PVal.cells]) rfl ⟨rfl, by first | exact (Wr.refl _ _).alloc _ | exact ((Wr.refl _ _).alloc _).alloc _⟩
theorem value_truthT (w : World) : Calls Tryz.prog 70 #[(.truth true : AnyD).val] w fun e w' => e = .returned (.agg (valOf (.truth true)).cells.toArray) ∧ Wr [] w w' := by
 have t0 := fun w => anyAs_whole (.truth true) w
 have t1 := fun w => anyAs_letter (.truth true) w
 have t2 := fun w => anyAs_truth (.truth true) w
 have t3 := fun w => anyAs_bits (.truth true) w
 have t4 := fun w => anyAs_string (.truth true) w
 have t5 := fun w => anyAs_item (.truth true) w
 have t6 := fun w => anyAs_null (.truth true) w
 simp only [AnyD.val, AnyD.wholeV, AnyD.letterV, AnyD.truthV, AnyD.bitsV, AnyD.strV, AnyD.itemT, AnyD.itemN, AnyD.sort] at t0 t1 t2 t3 t4 t5 t6
 simp only [AnyD.val]
 go_in
 go_wp2_with fail
 refine bodyPost_ret (v := .agg (valOf (.truth true)).cells.toArray) (by simp [results, Tryz.results70, go_sem, valOf, PVal.cells]) rfl ⟨rfl, by first | exact (Wr.refl _ _).alloc _ | exact ((Wr.refl _ _).alloc _).alloc _⟩
theorem value_truthF (w : World) : Calls Tryz.prog 70 #[(.truth false : AnyD).val] w fun e w' => e = .returned (.agg (valOf (.truth false)).cells.toArray) ∧ Wr [] w w' := by
 have t0 := fun w => anyAs_whole (.truth false) w
 have t1 := fun w => anyAs_letter (.truth false) w
 have t2 := fun w => anyAs_truth (.truth false) w
 have t3 := fun w => anyAs_bits (.truth false) w
 have t4 := fun w => anyAs_string (.truth false) w
 have t5 := fun w => anyAs_item (.truth false) w
 have t6 := fun w => anyAs_null (.truth false) w
 simp only [AnyD.val, AnyD.wholeV, AnyD.letterV, AnyD.truthV, AnyD.bitsV, AnyD.strV, AnyD.itemT, AnyD.itemN, AnyD.sort] at t0 t1 t2 t3 t4 t5 t6
 simp only [AnyD.val]
 go_in
 go_wp2_with fail
 refine bodyPost_ret (v := .agg (valOf (.truth false)).cells.toArray) (by simp [results, Tryz.results70, go_sem, valOf, PVal.cells]) rfl ⟨rfl, by first | exact (Wr.refl _ _).alloc _ | exact ((Wr.refl _ _).alloc _).alloc _⟩
theorem value_bits (n : Int) (hn : 0 ≤ n ∧ n ≤ 65535) (w : World) : Calls Tryz.prog 70 #[(.bits n : AnyD).val] w fun e w' => e = .returned (.agg (valOf (.bits n)).cells.toArray) ∧ Wr [] w w' := by
 have t0 := fun w => anyAs_whole (.bits n) w
 have t1 := fun w => anyAs_letter (.bits n) w
 have t2 := fun w => anyAs_truth (.bits n) w
 have t3 := fun w => anyAs_bits (.bits n) w
 have t4 := fun w => anyAs_string (.bits n) w
 have t5 := fun w => anyAs_item (.bits n) w
 have t6 := fun w => anyAs_null (.bits n) w
 simp only [AnyD.val, AnyD.wholeV, AnyD.letterV, AnyD.truthV, AnyD.bitsV, AnyD.strV, AnyD.itemT, AnyD.itemN, AnyD.sort] at t0 t1 t2 t3 t4 t5 t6
 have e1 : IntKind.i64.wrap n = n := by rw [IntKind.wrap_i64]; omega
 simp only [AnyD.val]
 go_in
 go_wp2_with fail
 refine bodyPost_ret (v := .agg (valOf (.bits n)).cells.toArray) (by simp [results, Tryz.results70, go_sem, valOf, PVal.cells]) rfl ⟨rfl, by first | exact (Wr.refl _ _).alloc _ | exact ((Wr.refl _ _).alloc _).alloc _⟩
theorem value_str (s : ByteArray) (w : World) : Calls Tryz.prog 70 #[(.str s : AnyD).val] w fun e w' => e = .returned (.agg (valOf (.str s)).cells.toArray) ∧ Wr [] w w' := by
 have t0 := fun w => anyAs_whole (.str s) w
 have t1 := fun w => anyAs_letter (.str s) w
 have t2 := fun w => anyAs_truth (.str s) w
 have t3 := fun w => anyAs_bits (.str s) w
 have t4 := fun w => anyAs_string (.str s) w
 have t5 := fun w => anyAs_item (.str s) w
 have t6 := fun w => anyAs_null (.str s) w
 simp only [AnyD.val, AnyD.wholeV, AnyD.letterV, AnyD.truthV, AnyD.bitsV, AnyD.strV, AnyD.itemT, AnyD.itemN, AnyD.sort] at t0 t1 t2 t3 t4 t5 t6
 simp only [AnyD.val]
 go_in
 go_wp2_with fail
 refine bodyPost_ret (v := .agg (valOf (.str s)).cells.toArray) (by simp [results, Tryz.results70, go_sem, valOf, PVal.cells]) rfl ⟨rfl, by first | exact (Wr.refl _ _).alloc _ | exact ((Wr.refl _ _).alloc _).alloc _⟩
theorem value_item (t n : Int) (w : World) : Calls Tryz.prog 70 #[(.item t n : AnyD).val] w fun e w' => e = .returned (.agg (valOf (.item t n)).cells.toArray) ∧ Wr [] w w' := by
 have t0 := fun w => anyAs_whole (.item t n) w
 have t1 := fun w => anyAs_letter (.item t n) w
 have t2 := fun w => anyAs_truth (.item t n) w
 have t3 := fun w => anyAs_bits (.item t n) w
 have t4 := fun w => anyAs_string (.item t n) w
 have t5 := fun w => anyAs_item (.item t n) w
 have t6 := fun w => anyAs_null (.item t n) w
 simp only [AnyD.val, AnyD.wholeV, AnyD.letterV, AnyD.truthV, AnyD.bitsV, AnyD.strV, AnyD.itemT, AnyD.itemN, AnyD.sort] at t0 t1 t2 t3 t4 t5 t6
 simp only [AnyD.val]
 go_in
 go_wp2_with fail
 refine bodyPost_ret (v := .agg (valOf (.item t n)).cells.toArray) (by simp [results, Tryz.results70, go_sem, valOf, PVal.cells]) rfl ⟨rfl, by first | exact (Wr.refl _ _).alloc _ | exact ((Wr.refl _ _).alloc _).alloc _⟩
theorem value_null (w : World) : Calls Tryz.prog 70 #[(.null : AnyD).val] w fun e w' => e = .returned (.agg (valOf (.null)).cells.toArray) ∧ Wr [] w w' := by
 have t0 := fun w => anyAs_whole (.null) w
 have t1 := fun w => anyAs_letter (.null) w
 have t2 := fun w => anyAs_truth (.null) w
 have t3 := fun w => anyAs_bits (.null) w
 have t4 := fun w => anyAs_string (.null) w
 have t5 := fun w => anyAs_item (.null) w
 have t6 := fun w => anyAs_null (.null) w
 simp only [AnyD.val, AnyD.wholeV, AnyD.letterV, AnyD.truthV, AnyD.bitsV, AnyD.strV, AnyD.itemT, AnyD.itemN, AnyD.sort] at t0 t1 t2 t3 t4 t5 t6
 simp only [AnyD.val]
 go_in
 go_wp2_with fail
 refine bodyPost_ret (v := .agg (valOf (.null)).cells.toArray) (by simp [results, Tryz.results70, go_sem, valOf, PVal.cells]) rfl ⟨rfl, by first | exact (Wr.refl _ _).alloc _ | exact ((Wr.refl _ _).alloc _).alloc _⟩
theorem value_other (w : World) : Calls Tryz.prog 70 #[(.other : AnyD).val] w fun e w' => e = .returned (.agg (valOf (.other)).cells.toArray) ∧ Wr [] w w' := by
 have t0 := fun w => anyAs_whole (.other) w
 have t1 := fun w => anyAs_letter (.other) w
 have t2 := fun w => anyAs_truth (.other) w
 have t3 := fun w => anyAs_bits (.other) w
 have t4 := fun w => anyAs_string (.other) w
 have t5 := fun w => anyAs_item (.other) w
 have t6 := fun w => anyAs_null (.other) w
 simp only [AnyD.val, AnyD.wholeV, AnyD.letterV, AnyD.truthV, AnyD.bitsV, AnyD.strV, AnyD.itemT, AnyD.itemN, AnyD.sort] at t0 t1 t2 t3 t4 t5 t6
 simp only [AnyD.val]
 go_in
 go_wp2_with fail
 refine bodyPost_ret (v := .agg (valOf (.other)).cells.toArray) (by simp [results, Tryz.results70, go_sem, valOf, PVal.cells]) rfl ⟨rfl, by first | exact (Wr.refl _ _).alloc _ | exact ((Wr.refl _ _).alloc _).alloc _⟩
theorem value_any (v : AnyD) (hw : anyW v) (w : World) : Calls Tryz.prog 70 #[v.val] w fun e w' => e = .returned (.agg (valOf v).cells.toArray) ∧ Wr [] w w' := by
 cases v with
 | nil => exact value_nil w
 | whole n => exact value_whole n w
 | letter n => exact value_letter n hw w
 | truth b => cases b; exact value_truthF w; exact value_truthT w
 | bits n => exact value_bits n hw w
 | str s => exact value_str s w
 | item t n => exact value_item t n w
 | null => exact value_null w
 | other => exact value_other w
end Go.Proofs.YtildcdgobdfieaaGreat
