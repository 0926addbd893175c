/- ref 14's reader: value: walked. No conditions. -/
import Derived.Test.YtildcdgobdfieaaGreatRD27
set_option linter.unusedVariables false
set_option linter.unusedSimpArgs false
set_option maxRecDepth 100000
set_option maxHeartbeats 32000000
namespace Go.Proofs.YtildcdgobdfieaaGreat
open Go.RowKit
def Rd.pval (r : Rd) : PVal × Rd :=
 match (r.num 1).1 with
 | 0 => (⟨0, 0, 0, ⟨#[]⟩⟩, (r.num 1).2)
 | 1 => (⟨1, (r.num 1).2.four.1, 0, ⟨#[]⟩⟩, (r.num 1).2.four.2)
 | 2 => (⟨2, ((r.num 1).2.num 1).1, 0, ⟨#[]⟩⟩, ((r.num 1).2.num 1).2)
 | 3 => (⟨3, if (r.num 1).2.truth.1 then 1 else 0, 0, ⟨#[]⟩⟩, (r.num 1).2.truth.2)
 | 4 => (⟨4, ((r.num 1).2.num 2).1, 0, ⟨#[]⟩⟩, ((r.num 1).2.num 2).2)
 | 5 => (⟨5, 0, 0, ansS (((r.num 1).2.num 2).2.raw ((r.num 1).2.num 2).1).1⟩, (((r.num 1).2.num 2).2.raw ((r.num 1).2.num 2).1).2)
 | 6 => (⟨6, (r.num 1).2.four.2.four.1, (r.num 1).2.four.1, ⟨#[]⟩⟩, (r.num 1).2.four.2.four.2)
 | 7 => (⟨7, 0, 0, ⟨#[]⟩⟩, (r.num 1).2)
 | n + 8 => (⟨(n : Int) + 8, 0, 0, ⟨#[]⟩⟩, ⟨(r.num 1).2.s, true⟩)
def PvR (b : Nat) (w : World) (v : PVal) (r : Rd) (e : Ending) (w' : World) : Prop := e = .returned (.agg #[.int .u8 v.sort, .int .i64 v.n, .int .i64 v.type, .string v.text]) ∧ Wr [b] w w' ∧ RdG w' b r
theorem value_g (b : Nat) (r : Rd) (w : World) (hb : RdG w b r) :
  Calls Tryz.prog 95 #[.pointer (some ⟨b, 0, none⟩)] w (PvR b w (Rd.pval r).1 (Rd.pval r).2) := by
 obtain ⟨pv, hpv⟩ : ∃ p, Rd.pval r = p := ⟨_, rfl⟩
 unfold Rd.pval at hpv
 obtain ⟨p0, hp0⟩ : ∃ p, Rd.num r 1 = p := ⟨_, rfl⟩
 obtain ⟨k, r0⟩ := p0
 have q0 := num_ltO (k := 1) (by omega) r
 have h0 := fun W (hW : RdG W b r) => number_g b 1 r (by decide) W hW
 rw [hp0] at q0 h0 hpv
 simp only at q0 h0 hpv
 have e0 : Rd.pval r = pv := by unfold Rd.pval; rw [hp0]; exact hpv
 rw [e0]
 have H0 := qh h0
 have HPV := qh hpv
 have ck : IntKind.u8.wrap (k : Int) = (k : Int) := by rw [IntKind.wrap_u8]; omega
 clear h0 hp0 e0 hpv
 have hbl := hb.lt
 have yn := Blk.new w 132 #[.int .u8 0, .int .i64 0, .int .i64 0, .string ⟨#[]⟩]
 have rn := (Wr.refl [b] w).alloc (.cells #[.int .u8 0, .int .i64 0, .int .i64 0, .string ⟨#[]⟩] 132)
 have bn := Blk.wr0 hb ((Wr.refl [] w).alloc (.cells #[.int .u8 0, .int .i64 0, .int .i64 0, .string ⟨#[]⟩] 132))
 obtain ⟨wn, hwn⟩ : ∃ q, w.alloc (.cells #[.int .u8 0, .int .i64 0, .int .i64 0, .string ⟨#[]⟩] 132) = q := ⟨_, rfl⟩
 obtain ⟨y, hy⟩ : ∃ q, w.heap.size = q := ⟨_, rfl⟩
 rw [hwn] at yn rn bn
 rw [hy] at yn
 have hby0 : b < y := by omega
 have hby : b ≠ y := by omega
 have hwy : w.heap.size ≤ y := by omega
 have YN := qh yn
 have RN := qh rn
 have HWN := qh hwn
 have HY := qh hy
 clear hwn hy hb hbl yn rn
 go_in
 go_upto_region 1 with (fail)
 rw [HY.out, HWN.out]
 go_wp2_with fail
 refine (H0.out _ bn).mono ?_
 rintro e w0 ⟨rfl, k0, b0⟩
 have y0 := YN.out.wr k0 (by simp; omega)
 have zn := Blk.new w0 132 #[.int .u8 (k : Int), .int .i64 0, .int .i64 0, .string ⟨#[]⟩]
 obtain ⟨wz, hwz⟩ : ∃ q, w0.alloc (.cells #[.int .u8 (k : Int), .int .i64 0, .int .i64 0, .string ⟨#[]⟩] 132) = q := ⟨_, rfl⟩
 obtain ⟨z, hz⟩ : ∃ q, w0.heap.size = q := ⟨_, rfl⟩
 have kz : Wr [] w0 wz := by rw [← hwz]; exact (Wr.refl _ _).alloc _
 rw [hwz, hz] at zn
 have hyz : y < z := by have := y0.lt; omega
 have hbz : b < z := by omega
 have hwz0 : w.heap.size ≤ z := by omega
 have m0 : TgS (fun w r => RdG w b r) 132 b y z #[.int .u8 0, .int .i64 0, .int .i64 0, .string ⟨#[]⟩] w r0 #[.int .u8 (k : Int), .int .i64 0, .int .i64 0, .string ⟨#[]⟩] wz := ⟨zn, y0.wr0 kz, Blk.wr0 b0 kz, (RN.out.trans k0).trans0 kz⟩
 have M0 := qh m0
 have HWZ := qh hwz
 have HZ := qh hz
 clear hwz hz kz zn y0 m0 k0 b0 bn YN RN HWN HY H0
 go_upto_region 2 with (fail)
 rw [HZ.out, HWZ.out]
 clear ck HZ HWZ
 have hcase : k = 0 ∨ k = 1 ∨ k = 2 ∨ k = 3 ∨ k = 4 ∨ k = 5 ∨ k = 6 ∨ k = 7 ∨ 8 ≤ k := by omega
 have HQ := qh hcase
 clear hcase q0
 have x0 := M0.out.blk.cell 0
 simp only [qgaq, qgzq, qgsq] at x0
 rcases HQ.out with e | e | e | e | e | e | e | e | e
 ·clear HQ
  subst e
  have hp := HPV.out
  simp only at hp
  replace M0 : Hid (TgS (fun w r => RdG w b r) 132 b y z #[.int .u8 0, .int .i64 0, .int .i64 0, .string ⟨#[]⟩] w r0 #[.int .u8 0, .int .i64 0, .int .i64 0, .string ⟨#[]⟩] wz) := M0
  replace x0 : wz.cell? ⟨z, 0, none⟩ = some (.int .u8 0) := x0
  subst hp
  clear HPV
  have t := M0.out
  obtain ⟨x0, x1, x2, x3⟩ := c4q t.blk
  obtain ⟨g0, g1, g2, g3⟩ := z4q t.res
  obtain ⟨z0, z1, z2, z3⟩ := c4q t.res
  clear t
  go_wp2_with fail
  refine bodyPost_ret (v := .agg #[.int .u8 0, .int .i64 0, .int .i64 0, .string ⟨#[]⟩]) ?_ rfl ?_
  ·have h9 := M0.out.res.setL [.int .u8 0, .int .i64 0, .int .i64 0, .string ⟨#[]⟩] rfl
   obtain ⟨t0, t1, t2, t3⟩ := c4q h9
   simp only [setL] at t0 t1 t2 t3
   simp [results, Tryz.results95, go_sem, t0, t1, t2, t3]
  ·have kw := setL_wr (g := y) [.int .u8 0, .int .i64 0, .int .i64 0, .string ⟨#[]⟩] 0 wz
   exact ⟨rfl, M0.out.wr.new kw hwy, Blk.wr M0.out.rd kw (by simp; omega)⟩
 ·clear HQ
  subst e
  have hp := HPV.out
  simp only at hp
  replace M0 : Hid (TgS (fun w r => RdG w b r) 132 b y z #[.int .u8 0, .int .i64 0, .int .i64 0, .string ⟨#[]⟩] w r0 #[.int .u8 1, .int .i64 0, .int .i64 0, .string ⟨#[]⟩] wz) := M0
  replace x0 : wz.cell? ⟨z, 0, none⟩ = some (.int .u8 1) := x0
  obtain ⟨pa, ha⟩ : ∃ p, Rd.four r0 = p := ⟨_, rfl⟩
  obtain ⟨v, ra⟩ := pa
  have hc := fun W (hW : RdG W b r0) => four_g b r0 W hW
  rw [ha] at hp hc
  simp only at hp hc
  subst hp
  have HC := qh hc
  clear HPV ha hc
  go_wp2_with fail
  refine (HC.out _ M0.out.rd).mono ?_
  rintro e w1a ⟨rfl, k1, b1⟩
  have m := M0.out.call k1 hbz hby b1
  have fz := m.blk.frozen 1
  have yy := m.blk.cell 1
  simp only [qgaq, qgzq, qgsq] at yy
  have s := m.set (rdgOk b) hbz hyz hwz0 1 (.int .i64 v)
  simp only [qsaq, qszq, qssq] at s
  have S1 := qh s
  clear m s k1 b1
  go_upto_region 20 with (fail)
  generalize w1a.setCell ⟨z, 1, none⟩ (.int .i64 v) = w1 at *
  clear fz yy
  have t := S1.out
  obtain ⟨x0, x1, x2, x3⟩ := c4q t.blk
  obtain ⟨g0, g1, g2, g3⟩ := z4q t.res
  obtain ⟨z0, z1, z2, z3⟩ := c4q t.res
  clear t
  go_wp2_with fail
  refine bodyPost_ret (v := .agg #[.int .u8 1, .int .i64 v, .int .i64 0, .string ⟨#[]⟩]) ?_ rfl ?_
  ·have h9 := S1.out.res.setL [.int .u8 1, .int .i64 v, .int .i64 0, .string ⟨#[]⟩] rfl
   obtain ⟨t0, t1, t2, t3⟩ := c4q h9
   simp only [setL] at t0 t1 t2 t3
   simp [results, Tryz.results95, go_sem, t0, t1, t2, t3]
  ·have kw := setL_wr (g := y) [.int .u8 1, .int .i64 v, .int .i64 0, .string ⟨#[]⟩] 0 w1
   exact ⟨rfl, S1.out.wr.new kw hwy, Blk.wr S1.out.rd kw (by simp; omega)⟩
 ·clear HQ
  subst e
  have hp := HPV.out
  simp only at hp
  replace M0 : Hid (TgS (fun w r => RdG w b r) 132 b y z #[.int .u8 0, .int .i64 0, .int .i64 0, .string ⟨#[]⟩] w r0 #[.int .u8 2, .int .i64 0, .int .i64 0, .string ⟨#[]⟩] wz) := M0
  replace x0 : wz.cell? ⟨z, 0, none⟩ = some (.int .u8 2) := x0
  obtain ⟨pa, ha⟩ : ∃ p, Rd.num r0 1 = p := ⟨_, rfl⟩
  obtain ⟨v, ra⟩ := pa
  have hc := fun W (hW : RdG W b r0) => number_g b 1 r0 (by decide) W hW
  have q1 := num_ltO (k := 1) (by omega) r0
  rw [ha] at hp hc q1
  simp only at hp hc q1
  subst hp
  have HC := qh hc
  have CV := qh (show IntKind.i64.wrap (v : Int) = (v : Int) ∧ wrap64 (v : Int) = (v : Int) from ⟨by rw [IntKind.wrap_i64]; omega, by unfold wrap64; omega⟩)
  clear HPV ha hc q1
  obtain ⟨cv, dv⟩ := CV.out
  go_wp2_with fail
  refine (HC.out _ M0.out.rd).mono ?_
  rintro e w1a ⟨rfl, k1, b1⟩
  have m := M0.out.call k1 hbz hby b1
  have fz := m.blk.frozen 1
  have yy := m.blk.cell 1
  simp only [qgaq, qgzq, qgsq] at yy
  have s := m.set (rdgOk b) hbz hyz hwz0 1 (.int .i64 (v : Int))
  simp only [qsaq, qszq, qssq] at s
  have S1 := qh s
  clear m s k1 b1
  go_upto_region 20 with (fail)
  generalize w1a.setCell ⟨z, 1, none⟩ (.int .i64 (v : Int)) = w1 at *
  clear fz yy x0 cv dv
  have t := S1.out
  obtain ⟨x0, x1, x2, x3⟩ := c4q t.blk
  obtain ⟨g0, g1, g2, g3⟩ := z4q t.res
  obtain ⟨z0, z1, z2, z3⟩ := c4q t.res
  clear t
  go_wp2_with fail
  refine bodyPost_ret (v := .agg #[.int .u8 2, .int .i64 (v : Int), .int .i64 0, .string ⟨#[]⟩]) ?_ rfl ?_
  ·have h9 := S1.out.res.setL [.int .u8 2, .int .i64 (v : Int), .int .i64 0, .string ⟨#[]⟩] rfl
   obtain ⟨t0, t1, t2, t3⟩ := c4q h9
   simp only [setL] at t0 t1 t2 t3
   simp [results, Tryz.results95, go_sem, t0, t1, t2, t3]
  ·have kw := setL_wr (g := y) [.int .u8 2, .int .i64 (v : Int), .int .i64 0, .string ⟨#[]⟩] 0 w1
   exact ⟨rfl, S1.out.wr.new kw hwy, Blk.wr S1.out.rd kw (by simp; omega)⟩
 ·clear HQ
  subst e
  have hp := HPV.out
  simp only at hp
  replace M0 : Hid (TgS (fun w r => RdG w b r) 132 b y z #[.int .u8 0, .int .i64 0, .int .i64 0, .string ⟨#[]⟩] w r0 #[.int .u8 3, .int .i64 0, .int .i64 0, .string ⟨#[]⟩] wz) := M0
  replace x0 : wz.cell? ⟨z, 0, none⟩ = some (.int .u8 3) := x0
  obtain ⟨pa, ha⟩ : ∃ p, Rd.truth r0 = p := ⟨_, rfl⟩
  obtain ⟨v, ra⟩ := pa
  have hc := fun W (hW : RdG W b r0) => truth_g b r0 W hW
  rw [ha] at hp hc
  simp only at hp hc
  subst hp
  have HC := qh hc
  clear HPV ha hc
  cases v with
  | true =>
   go_wp2_with fail
   refine (HC.out _ M0.out.rd).mono ?_
   rintro e w1a ⟨rfl, k1, b1⟩
   have m := M0.out.call k1 hbz hby b1
   have fz := m.blk.frozen 1
   have yy := m.blk.cell 1
   simp only [qgaq, qgzq, qgsq] at yy
   have s := m.set (rdgOk b) hbz hyz hwz0 1 (.int .i64 1)
   simp only [qsaq, qszq, qssq] at s
   have S1 := qh s
   clear m s k1 b1
   go_upto_region 20 with (fail)
   generalize w1a.setCell ⟨z, 1, none⟩ (.int .i64 1) = w1 at *
   clear fz yy x0
   have t := S1.out
   obtain ⟨x0, x1, x2, x3⟩ := c4q t.blk
   obtain ⟨g0, g1, g2, g3⟩ := z4q t.res
   obtain ⟨z0, z1, z2, z3⟩ := c4q t.res
   clear t
   go_wp2_with fail
   refine bodyPost_ret (v := .agg #[.int .u8 3, .int .i64 1, .int .i64 0, .string ⟨#[]⟩]) ?_ rfl ?_
   ·have h9 := S1.out.res.setL [.int .u8 3, .int .i64 1, .int .i64 0, .string ⟨#[]⟩] rfl
    obtain ⟨t0, t1, t2, t3⟩ := c4q h9
    simp only [setL] at t0 t1 t2 t3
    simp [results, Tryz.results95, go_sem, t0, t1, t2, t3]
   ·have kw := setL_wr (g := y) [.int .u8 3, .int .i64 1, .int .i64 0, .string ⟨#[]⟩] 0 w1
    exact ⟨rfl, S1.out.wr.new kw hwy, Blk.wr S1.out.rd kw (by simp; omega)⟩
  | false =>
   go_wp2_with fail
   refine (HC.out _ M0.out.rd).mono ?_
   rintro e w1a ⟨rfl, k1, b1⟩
   have S1 := qh (M0.out.call k1 hbz hby b1)
   clear k1 b1 x0
   have t := S1.out
   obtain ⟨x0, x1, x2, x3⟩ := c4q t.blk
   obtain ⟨g0, g1, g2, g3⟩ := z4q t.res
   obtain ⟨z0, z1, z2, z3⟩ := c4q t.res
   clear t
   go_wp2_with fail
   refine bodyPost_ret (v := .agg #[.int .u8 3, .int .i64 0, .int .i64 0, .string ⟨#[]⟩]) ?_ rfl ?_
   ·have h9 := S1.out.res.setL [.int .u8 3, .int .i64 0, .int .i64 0, .string ⟨#[]⟩] rfl
    obtain ⟨t0, t1, t2, t3⟩ := c4q h9
    simp only [setL] at t0 t1 t2 t3
    simp [results, Tryz.results95, go_sem, t0, t1, t2, t3]
   ·have kw := setL_wr (g := y) [.int .u8 3, .int .i64 0, .int .i64 0, .string ⟨#[]⟩] 0 w1a
    exact ⟨rfl, S1.out.wr.new kw hwy, Blk.wr S1.out.rd kw (by simp; omega)⟩
 ·clear HQ
  subst e
  have hp := HPV.out
  simp only at hp
  replace M0 : Hid (TgS (fun w r => RdG w b r) 132 b y z #[.int .u8 0, .int .i64 0, .int .i64 0, .string ⟨#[]⟩] w r0 #[.int .u8 4, .int .i64 0, .int .i64 0, .string ⟨#[]⟩] wz) := M0
  replace x0 : wz.cell? ⟨z, 0, none⟩ = some (.int .u8 4) := x0
  obtain ⟨pa, ha⟩ : ∃ p, Rd.num r0 2 = p := ⟨_, rfl⟩
  obtain ⟨v, ra⟩ := pa
  have hc := fun W (hW : RdG W b r0) => number_g b 2 r0 (by decide) W hW
  have q1 := num_ltO (k := 2) (by omega) r0
  rw [ha] at hp hc q1
  simp only at hp hc q1
  subst hp
  have HC := qh hc
  have CV := qh (show IntKind.i64.wrap (v : Int) = (v : Int) ∧ wrap64 (v : Int) = (v : Int) from ⟨by rw [IntKind.wrap_i64]; omega, by unfold wrap64; omega⟩)
  clear HPV ha hc q1
  obtain ⟨cv, dv⟩ := CV.out
  go_wp2_with fail
  refine (HC.out _ M0.out.rd).mono ?_
  rintro e w1a ⟨rfl, k1, b1⟩
  have m := M0.out.call k1 hbz hby b1
  have fz := m.blk.frozen 1
  have yy := m.blk.cell 1
  simp only [qgaq, qgzq, qgsq] at yy
  have s := m.set (rdgOk b) hbz hyz hwz0 1 (.int .i64 (v : Int))
  simp only [qsaq, qszq, qssq] at s
  have S1 := qh s
  clear m s k1 b1
  go_upto_region 20 with (fail)
  generalize w1a.setCell ⟨z, 1, none⟩ (.int .i64 (v : Int)) = w1 at *
  clear fz yy x0 cv dv
  have t := S1.out
  obtain ⟨x0, x1, x2, x3⟩ := c4q t.blk
  obtain ⟨g0, g1, g2, g3⟩ := z4q t.res
  obtain ⟨z0, z1, z2, z3⟩ := c4q t.res
  clear t
  go_wp2_with fail
  refine bodyPost_ret (v := .agg #[.int .u8 4, .int .i64 (v : Int), .int .i64 0, .string ⟨#[]⟩]) ?_ rfl ?_
  ·have h9 := S1.out.res.setL [.int .u8 4, .int .i64 (v : Int), .int .i64 0, .string ⟨#[]⟩] rfl
   obtain ⟨t0, t1, t2, t3⟩ := c4q h9
   simp only [setL] at t0 t1 t2 t3
   simp [results, Tryz.results95, go_sem, t0, t1, t2, t3]
  ·have kw := setL_wr (g := y) [.int .u8 4, .int .i64 (v : Int), .int .i64 0, .string ⟨#[]⟩] 0 w1
   exact ⟨rfl, S1.out.wr.new kw hwy, Blk.wr S1.out.rd kw (by simp; omega)⟩
 ·clear HQ
  subst e
  have hp := HPV.out
  simp only at hp
  replace M0 : Hid (TgS (fun w r => RdG w b r) 132 b y z #[.int .u8 0, .int .i64 0, .int .i64 0, .string ⟨#[]⟩] w r0 #[.int .u8 5, .int .i64 0, .int .i64 0, .string ⟨#[]⟩] wz) := M0
  replace x0 : wz.cell? ⟨z, 0, none⟩ = some (.int .u8 5) := x0
  obtain ⟨pa, ha⟩ : ∃ p, Rd.num r0 2 = p := ⟨_, rfl⟩
  obtain ⟨v, ra⟩ := pa
  have hc := fun W (hW : RdG W b r0) => number_g b 2 r0 (by decide) W hW
  have q1 := num_ltO (k := 2) (by omega) r0
  rw [ha] at hp hc q1
  simp only at hp hc q1
  obtain ⟨pb, hb⟩ : ∃ p, Rd.raw ra v = p := ⟨_, rfl⟩
  obtain ⟨x, rb⟩ := pb
  have hd := fun W (hW : RdG W b ra) => raw_g b v ra (by omega) W hW
  rw [hb] at hp hd
  simp only at hp hd
  subst hp
  have HC := qh hc
  have HD := qh hd
  have CV := qh (show IntKind.i64.wrap (v : Int) = (v : Int) ∧ wrap64 (v : Int) = (v : Int) from ⟨by rw [IntKind.wrap_i64]; omega, by unfold wrap64; omega⟩)
  clear HPV ha hc q1 hb hd
  obtain ⟨cv, dv⟩ := CV.out
  go_wp2_with fail
  refine (HC.out _ M0.out.rd).mono ?_
  rintro e w0b ⟨rfl, k1, b1⟩
  have M1 := qh (M0.out.call k1 hbz hby b1)
  clear k1 b1 x0
  go_wp2_with fail
  refine (HD.out _ M1.out.rd).mono ?_
  rintro e w1a ⟨rfl, k1, b1⟩
  have m := M1.out.call k1 hbz hby b1
  have fz := m.blk.frozen 3
  have yy := m.blk.cell 3
  simp only [qgaq, qgzq, qgsq] at yy
  have s := m.set (rdgOk b) hbz hyz hwz0 3 (.string (ansS x))
  simp only [qsaq, qszq, qssq] at s
  have S1 := qh s
  clear m s k1 b1
  go_upto_region 20 with (fail)
  generalize w1a.setCell ⟨z, 3, none⟩ (.string (ansS x)) = w1 at *
  clear fz yy cv dv
  have t := S1.out
  obtain ⟨x0, x1, x2, x3⟩ := c4q t.blk
  obtain ⟨g0, g1, g2, g3⟩ := z4q t.res
  obtain ⟨z0, z1, z2, z3⟩ := c4q t.res
  clear t
  go_wp2_with fail
  refine bodyPost_ret (v := .agg #[.int .u8 5, .int .i64 0, .int .i64 0, .string (ansS x)]) ?_ rfl ?_
  ·have h9 := S1.out.res.setL [.int .u8 5, .int .i64 0, .int .i64 0, .string (ansS x)] rfl
   obtain ⟨t0, t1, t2, t3⟩ := c4q h9
   simp only [setL] at t0 t1 t2 t3
   simp [results, Tryz.results95, go_sem, t0, t1, t2, t3]
  ·have kw := setL_wr (g := y) [.int .u8 5, .int .i64 0, .int .i64 0, .string (ansS x)] 0 w1
   exact ⟨rfl, S1.out.wr.new kw hwy, Blk.wr S1.out.rd kw (by simp; omega)⟩
 ·clear HQ
  subst e
  have hp := HPV.out
  simp only at hp
  replace M0 : Hid (TgS (fun w r => RdG w b r) 132 b y z #[.int .u8 0, .int .i64 0, .int .i64 0, .string ⟨#[]⟩] w r0 #[.int .u8 6, .int .i64 0, .int .i64 0, .string ⟨#[]⟩] wz) := M0
  replace x0 : wz.cell? ⟨z, 0, none⟩ = some (.int .u8 6) := x0
  obtain ⟨pa, ha⟩ : ∃ p, Rd.four r0 = p := ⟨_, rfl⟩
  obtain ⟨v, ra⟩ := pa
  have hc := fun W (hW : RdG W b r0) => four_g b r0 W hW
  rw [ha] at hp hc
  simp only at hp hc
  obtain ⟨pb, hb⟩ : ∃ p, Rd.four ra = p := ⟨_, rfl⟩
  obtain ⟨x, rb⟩ := pb
  have hd := fun W (hW : RdG W b ra) => four_g b ra W hW
  rw [hb] at hp hd
  simp only at hp hd
  subst hp
  have HC := qh hc
  have HD := qh hd
  clear HPV ha hc hb hd
  go_wp2_with fail
  refine (HC.out _ M0.out.rd).mono ?_
  rintro e w1a ⟨rfl, k1, b1⟩
  have m := M0.out.call k1 hbz hby b1
  have fz := m.blk.frozen 2
  have yy := m.blk.cell 2
  simp only [qgaq, qgzq, qgsq] at yy
  have s := m.set (rdgOk b) hbz hyz hwz0 2 (.int .i64 v)
  simp only [qsaq, qszq, qssq] at s
  have S1 := qh s
  clear m s k1 b1
  go_upto_region 19 with (fail)
  generalize w1a.setCell ⟨z, 2, none⟩ (.int .i64 v) = w1 at *
  clear fz yy x0
  go_wp2_with fail
  refine (HD.out _ S1.out.rd).mono ?_
  rintro e w2a ⟨rfl, k1, b1⟩
  have m := S1.out.call k1 hbz hby b1
  have fz := m.blk.frozen 1
  have yy := m.blk.cell 1
  simp only [qgaq, qgzq, qgsq] at yy
  have s := m.set (rdgOk b) hbz hyz hwz0 1 (.int .i64 x)
  simp only [qsaq, qszq, qssq] at s
  have S2 := qh s
  clear m s k1 b1
  go_upto_region 20 with (fail)
  generalize w2a.setCell ⟨z, 1, none⟩ (.int .i64 x) = w2 at *
  clear fz yy
  have t := S2.out
  obtain ⟨x0, x1, x2, x3⟩ := c4q t.blk
  obtain ⟨g0, g1, g2, g3⟩ := z4q t.res
  obtain ⟨z0, z1, z2, z3⟩ := c4q t.res
  clear t
  go_wp2_with fail
  refine bodyPost_ret (v := .agg #[.int .u8 6, .int .i64 x, .int .i64 v, .string ⟨#[]⟩]) ?_ rfl ?_
  ·have h9 := S2.out.res.setL [.int .u8 6, .int .i64 x, .int .i64 v, .string ⟨#[]⟩] rfl
   obtain ⟨t0, t1, t2, t3⟩ := c4q h9
   simp only [setL] at t0 t1 t2 t3
   simp [results, Tryz.results95, go_sem, t0, t1, t2, t3]
  ·have kw := setL_wr (g := y) [.int .u8 6, .int .i64 x, .int .i64 v, .string ⟨#[]⟩] 0 w2
   exact ⟨rfl, S2.out.wr.new kw hwy, Blk.wr S2.out.rd kw (by simp; omega)⟩
 ·clear HQ
  subst e
  have hp := HPV.out
  simp only at hp
  replace M0 : Hid (TgS (fun w r => RdG w b r) 132 b y z #[.int .u8 0, .int .i64 0, .int .i64 0, .string ⟨#[]⟩] w r0 #[.int .u8 7, .int .i64 0, .int .i64 0, .string ⟨#[]⟩] wz) := M0
  replace x0 : wz.cell? ⟨z, 0, none⟩ = some (.int .u8 7) := x0
  subst hp
  clear HPV
  have t := M0.out
  obtain ⟨x0, x1, x2, x3⟩ := c4q t.blk
  obtain ⟨g0, g1, g2, g3⟩ := z4q t.res
  obtain ⟨z0, z1, z2, z3⟩ := c4q t.res
  clear t
  go_wp2_with fail
  refine bodyPost_ret (v := .agg #[.int .u8 7, .int .i64 0, .int .i64 0, .string ⟨#[]⟩]) ?_ rfl ?_
  ·have h9 := M0.out.res.setL [.int .u8 7, .int .i64 0, .int .i64 0, .string ⟨#[]⟩] rfl
   obtain ⟨t0, t1, t2, t3⟩ := c4q h9
   simp only [setL] at t0 t1 t2 t3
   simp [results, Tryz.results95, go_sem, t0, t1, t2, t3]
  ·have kw := setL_wr (g := y) [.int .u8 7, .int .i64 0, .int .i64 0, .string ⟨#[]⟩] 0 wz
   exact ⟨rfl, M0.out.wr.new kw hwy, Blk.wr M0.out.rd kw (by simp; omega)⟩
 ·obtain ⟨n, rfl⟩ : ∃ n, k = n + 8 := ⟨k - 8, by omega⟩
  have hp := HPV.out
  simp only at hp
  subst hp
  clear HPV HQ e
  obtain ⟨K, hK⟩ : ∃ K : Int, ((n + 8 : Nat) : Int) = K := ⟨_, rfl⟩
  have hK2 : (n : Int) + 8 = K := by omega
  rw [hK] at x0 ⊢
  have HK2 := qh hK2
  have M1 : Hid (TgS (fun w r => RdG w b r) 132 b y z #[.int .u8 0, .int .i64 0, .int .i64 0, .string ⟨#[]⟩] w r0 #[.int .u8 K, .int .i64 0, .int .i64 0, .string ⟨#[]⟩] wz) := by rw [← hK]; exact M0
  have j0 : ¬ K = 0 := by omega
  have j1 : ¬ K = 1 := by omega
  have j2 : ¬ K = 2 := by omega
  have j3 : ¬ K = 3 := by omega
  have j4 : ¬ K = 4 := by omega
  have j5 : ¬ K = 5 := by omega
  have j6 : ¬ K = 6 := by omega
  have j7 : ¬ K = 7 := by omega
  have J0 : (K == 0) = false := by simpa using j0
  have J1 : (K == 1) = false := by simpa using j1
  have J2 : (K == 2) = false := by simpa using j2
  have J3 : (K == 3) = false := by simpa using j3
  have J4 : (K == 4) = false := by simpa using j4
  have J5 : (K == 5) = false := by simpa using j5
  have J6 : (K == 6) = false := by simpa using j6
  have J7 : (K == 7) = false := by simpa using j7
  have fz := M1.out.rd.frozen 1
  have yy := M1.out.rd.cell 1
  simp only [qgaq, qgzq, qgsq] at yy
  have rq : RdG (wz.setCell ⟨b, 1, none⟩ (.bool true)) b ⟨r0.s, true⟩ := Blk.set_ M1.out.rd 1 (.bool true)
  have kq : Wr [b] wz (wz.setCell ⟨b, 1, none⟩ (.bool true)) := (Wr.refl _ _).setOn (by simp) _
  have S1 := qh (M1.out.call kq hbz hby rq)
  clear hK hK2 M0 rq kq
  go_upto_region 20 with (fail)
  generalize wz.setCell ⟨b, 1, none⟩ (.bool true) = w1 at *
  clear fz yy x0 j0 j1 j2 j3 j4 j5 j6 j7 J0 J1 J2 J3 J4 J5 J6 J7
  have t := S1.out
  obtain ⟨x0, x1, x2, x3⟩ := c4q t.blk
  obtain ⟨g0, g1, g2, g3⟩ := z4q t.res
  obtain ⟨z0, z1, z2, z3⟩ := c4q t.res
  clear t
  go_wp2_with fail
  refine bodyPost_ret (v := .agg #[.int .u8 K, .int .i64 0, .int .i64 0, .string ⟨#[]⟩]) ?_ rfl ?_
  ·have h9 := S1.out.res.setL [.int .u8 K, .int .i64 0, .int .i64 0, .string ⟨#[]⟩] rfl
   obtain ⟨t0, t1, t2, t3⟩ := c4q h9
   simp only [setL] at t0 t1 t2 t3
   simp [results, Tryz.results95, go_sem, t0, t1, t2, t3]
  ·have kw := setL_wr (g := y) [.int .u8 K, .int .i64 0, .int .i64 0, .string ⟨#[]⟩] 0 w1
   exact ⟨by rw [HK2.out], S1.out.wr.new kw hwy, Blk.wr S1.out.rd kw (by simp; omega)⟩
theorem list_r (n : Nat) (w : World) : Calls Tryz.prog 161 #[.int .i64 (n : Int)] w fun e w' => e = .returned (.bool (fwB n)) ∧ w = w' := by
 unfold fwB
 go_in
 by_cases h : (n : Int) ≤ 65535
 ·have h' : n ≤ 65535 := by omega
  rw [qdtq h']
  go_wp2_with fail
  go_ret
  exact ⟨rfl, rfl⟩
 ·have h' : ¬ n ≤ 65535 := by omega
  rw [qdfq h']
  go_wp2_with fail
  go_ret
  exact ⟨rfl, rfl⟩
theorem short_r (s : ByteArray) (w : World) : Calls Tryz.prog 159 #[.string s] w fun e w' => e = .returned (.bool (shB s)) ∧ w = w' := by
 unfold shB
 go_in
 by_cases h : (s.size : Int) ≤ 255
 ·have h' : s.size ≤ 255 := by omega
  rw [qdtq h']
  go_wp2_with fail
  go_ret
  exact ⟨rfl, rfl⟩
 ·have h' : ¬ s.size ≤ 255 := by omega
  rw [qdfq h']
  go_wp2_with fail
  go_ret
  exact ⟨rfl, rfl⟩
theorem small_r (n : Int) (w : World) : Calls Tryz.prog 129 #[.int .i64 n] w fun e w' => e = .returned (.bool (smB n)) ∧ w = w' := by
 unfold smB inB
 go_in
 by_cases h1 : -2147483648 ≤ n
 ·rw [qdtq h1]
  by_cases h2 : n < 2147483648
  ·rw [qdtq (show n ≤ 2147483647 by omega)]
   go_wp2_with fail
   go_ret
   exact ⟨rfl, rfl⟩
  ·rw [qdfq (show ¬ n ≤ 2147483647 by omega)]
   go_wp2_with fail
   go_ret
   exact ⟨rfl, rfl⟩
 ·rw [qdfq h1]
  go_wp2_with fail
  go_ret
  exact ⟨rfl, rfl⟩
theorem typ_m (s : ByteArray) (vu vi : Value) (A : Option Addr) (nt c : Nat) (hc : nt ≤ 1000000) (n : Int) (w : World) :
  Calls Tryz.prog 128 #[.agg #[.string s, vu, .slice A nt c, vi], .int .i64 n] w fun e w' => e = .returned (.bool (tyB nt n)) ∧ Wr [] w w' := by
 have hw : wrap64 (10 + (nt : Int)) = 10 + (nt : Int) := by unfold wrap64; omega
 have acc := (Wr.refl [] w).alloc (.cells #[.string s, vu, .slice A nt c, vi] 60)
 have bA := Blk.new w 60 #[.string s, vu, .slice A nt c, vi]
 have ACC := qh acc
 have c2 := bA.cell 2
 simp only [qgaq, qgzq, qgsq] at c2
 unfold tyB inB
 clear acc bA
 go_in
 by_cases h1 : 0 ≤ n
 ·rw [qdtq h1]
  by_cases h2 : n < 10 + (nt : Int)
  ·rw [qdtq (show n ≤ 9 + (nt : Int) by omega)]
   go_wp2_with fail
   go_ret
   exact ⟨rfl, ACC.out⟩
  ·rw [qdfq (show ¬ n ≤ 9 + (nt : Int) by omega)]
   go_wp2_with fail
   go_ret
   exact ⟨rfl, ACC.out⟩
 ·rw [qdfq h1]
  go_wp2_with fail
  go_ret
  exact ⟨rfl, ACC.out⟩
theorem allF_step {α : Type} {p : α → Bool} {l : List α} {k : Nat} {x : α} (h : (l.take k).all p = true) (hx : l[k]? = some x) (hp : p x = true) : (l.take (k + 1)).all p = true := by
 rw [List.take_add_one, hx, List.all_append, h]
 simpa using hp
theorem allF_no {α : Type} {p : α → Bool} {l : List α} {k : Nat} {x : α} (hx : l[k]? = some x) (hp : p x = false) : l.all p = false := by
 rw [List.all_eq_false]
 exact ⟨x, List.mem_of_getElem? hx, by rw [hp]; decide⟩
theorem fits_r (t : Ty) (vn vf va vp : Value) (P : Nat → Prop) (w : World) (h : Lists w P vn vf va vp t) :
  Calls Tryz.prog 160 #[.agg #[.int .u8 t.kind, .string t.module, .string t.name, .int .i64 t.base, .int .i64 t.index, .int .i64 t.low, .int .i64 t.high, vn, vf, va, vp, .int .i64 t.result]] w fun e w' => e = .returned (.bool (tyFit t)) ∧ Wr [] w w' := by
 obtain ⟨⟨A1, k1, rfl, hn1, hn2⟩, ⟨A2, k2, rfl, hf1, hf2⟩, ⟨A3, k3, rfl, ha1, ha2⟩, ⟨A4, k4, rfl, hp1, hp2⟩⟩ := h.forms
 obtain ⟨w0, hw0⟩ : ∃ q, w.alloc (.cells #[.int .u8 t.kind, .string t.module, .string t.name, .int .i64 t.base, .int .i64 t.index, .int .i64 t.low, .int .i64 t.high, .slice A1 t.names.length k1, .slice A2 t.fields.length k2, .slice A3 t.arms.length k3, .slice A4 t.params.length k4, .int .i64 t.result] 129) = q := ⟨_, rfl⟩
 obtain ⟨g, hg⟩ : ∃ g, w.heap.size = g := ⟨_, rfl⟩
 have acc : Wr [] w w0 := by rw [← hw0]; exact (Wr.refl [] _).alloc _
 have bA : Blk w0 g 129 #[.int .u8 t.kind, .string t.module, .string t.name, .int .i64 t.base, .int .i64 t.index, .int .i64 t.low, .int .i64 t.high, .slice A1 t.names.length k1, .slice A2 t.fields.length k2, .slice A3 t.arms.length k3, .slice A4 t.params.length k4, .int .i64 t.result] := by rw [← hw0, ← hg]; exact Blk.new _ _ _
 have g1 := fun W => short_r t.module W
 have g2 := fun W => short_r t.name W
 have g3 := fun W => list_r t.names.length W
 have g4 := fun W => list_r t.fields.length W
 have g5 := fun W => list_r t.arms.length W
 have g6 := fun W => list_r t.params.length W
 obtain ⟨b1, e1⟩ : ∃ q, shB t.module = q := ⟨_, rfl⟩
 obtain ⟨b2, e2⟩ : ∃ q, shB t.name = q := ⟨_, rfl⟩
 obtain ⟨b3, e3⟩ : ∃ q, fwB t.names.length = q := ⟨_, rfl⟩
 obtain ⟨b4, e4⟩ : ∃ q, fwB t.fields.length = q := ⟨_, rfl⟩
 obtain ⟨b5, e5⟩ : ∃ q, fwB t.arms.length = q := ⟨_, rfl⟩
 obtain ⟨b6, e6⟩ : ∃ q, fwB t.params.length = q := ⟨_, rfl⟩
 obtain ⟨b7, e7⟩ : ∃ q, t.names.all shB = q := ⟨_, rfl⟩
 obtain ⟨b8, e8⟩ : ∃ q, t.fields.all (fun f => shB f.name) = q := ⟨_, rfl⟩
 obtain ⟨b9, e9⟩ : ∃ q, t.arms.all armFit = q := ⟨_, rfl⟩
 obtain ⟨rr, hrr⟩ : ∃ r, tyFit t = r := ⟨_, rfl⟩
 have hv : rr = (b1 && b2 && b3 && b4 && b5 && b6 && b7 && b8 && b9) := by
  rw [← hrr]
  unfold tyFit
  rw [e1, e2, e3, e4, e5, e6, e7, e8, e9]
 rw [hrr]
 simp only [e1] at g1
 simp only [e2] at g2
 simp only [e3] at g3
 simp only [e4] at g4
 simp only [e5] at g5
 simp only [e6] at g6
 unfold maxLen at hn2 hf2 ha2 hp2
 have G1 := qh g1
 have G2 := qh g2
 have G3 := qh g3
 have G4 := qh g4
 have G5 := qh g5
 have G6 := qh g6
 have E7 := qh e7
 have E8 := qh e8
 have E9 := qh e9
 have HV := qh hv
 have HW0 := qh hw0
 have HG := qh hg
 have ACC := qh acc
 have HH := qh h
 have c1 := bA.cell 1
 have c2 := bA.cell 2
 have c7 := bA.cell 7
 have c8 := bA.cell 8
 have c9 := bA.cell 9
 have c10 := bA.cell 10
 simp only [qgaq, qgzq, qgsq] at c1 c2 c7 c8 c9 c10
 clear g1 g2 g3 g4 g5 g6 e1 e2 e3 e4 e5 e6 e7 e8 e9 hv hrr hw0 hg acc bA h
 go_in
 go_upto_region 1 with (fail)
 rw [HW0.out, HG.out]
 go_wp2_with fail
 refine (G1.out _).mono ?_
 rintro e w1 ⟨rfl, rfl⟩
 cases b1 with
 | false =>
  obtain rfl : rr = false := by rw [HV.out]; simp
  clear HV
  go_wp2_with fail
  go_ret
  exact ⟨rfl, ACC.out⟩
 | true =>
 go_wp2_with fail
 refine (G2.out _).mono ?_
 rintro e w1 ⟨rfl, rfl⟩
 cases b2 with
 | false =>
  obtain rfl : rr = false := by rw [HV.out]; simp
  clear HV
  go_wp2_with fail
  go_ret
  exact ⟨rfl, ACC.out⟩
 | true =>
 go_wp2_with fail
 refine (G3.out _).mono ?_
 rintro e w1 ⟨rfl, rfl⟩
 cases b3 with
 | false =>
  obtain rfl : rr = false := by rw [HV.out]; simp
  clear HV
  go_wp2_with fail
  go_ret
  exact ⟨rfl, ACC.out⟩
 | true =>
 go_wp2_with fail
 refine (G4.out _).mono ?_
 rintro e w1 ⟨rfl, rfl⟩
 cases b4 with
 | false =>
  obtain rfl : rr = false := by rw [HV.out]; simp
  clear HV
  go_wp2_with fail
  go_ret
  exact ⟨rfl, ACC.out⟩
 | true =>
 go_wp2_with fail
 refine (G5.out _).mono ?_
 rintro e w1 ⟨rfl, rfl⟩
 cases b5 with
 | false =>
  obtain rfl : rr = false := by rw [HV.out]; simp
  clear HV
  go_wp2_with fail
  go_ret
  exact ⟨rfl, ACC.out⟩
 | true =>
 go_wp2_with fail
 refine (G6.out _).mono ?_
 rintro e w1 ⟨rfl, rfl⟩
 cases b6 with
 | false =>
  obtain rfl : rr = false := by rw [HV.out]; simp
  clear HV
  go_wp2_with fail
  go_ret
  exact ⟨rfl, ACC.out⟩
 | true =>
 go_wp2_with fail
 go_loop [3] (fun i => ∃ k : Nat, k ≤ t.names.length ∧ i = .int .i64 k ∧ (t.names.take k).all shB = true) (fun i => t.names.length - (intOf i).toNat)
 case atStart => exact ⟨0, by omega, rfl, by simp⟩
 case round =>
  obtain ⟨k, hk, rfl, hall⟩ := hrel
  have HALL := qh hall
  clear hall
  by_cases hlt : k < t.names.length
  ·obtain ⟨x, hx⟩ : ∃ x, t.names[k]? = some x := ⟨_, qgeq hlt⟩
   obtain ⟨b, off, c', e, _, _, _, hc⟩ := Sl.at_ (Sl.wr0 HH.out.names ACC.out) (j := k) (u := .string x) (by rw [qgmq, hx]; rfl)
   injection e with e1 e2 e3
   subst e1 e3
   have x0 := hc
   have gx := short_r x w0
   have hlti : (k : Int) < (t.names.length : Int) := by omega
   have hk0 : (0 : Int) ≤ (k : Int) := by omega
   have HX := qh hx
   obtain ⟨px, hpx⟩ : ∃ q, shB x = q := ⟨_, rfl⟩
   rw [hpx] at gx
   have GX := qh gx
   have HPX := qh hpx
   clear gx hpx hx hc
   go_wp2_with fail
   refine GX.out.mono ?_
   rintro e w1 ⟨rfl, rfl⟩
   cases px with
   | false =>
    obtain rfl : b7 = false := by rw [← E7.out]; exact allF_no HX.out HPX.out
    obtain rfl : rr = false := by rw [HV.out]; simp
    clear HV
    go_wp2_with fail
    go_ret
    exact ⟨rfl, ACC.out⟩
   | true =>
    have hs := allF_step HALL.out HX.out HPX.out
    have HS := qh hs
    clear hs
    go_wp2_with fail
    exact ⟨⟨k + 1, by omega, rfl, HS.out⟩, by show _ - ((k + 1 : Nat) : Int).toNat < _ - (k : Int).toNat; omega⟩
  ·obtain rfl : k = t.names.length := by omega
   have hb : b7 = true := by rw [← E7.out, ← HALL.out, List.take_length]
   subst hb
   go_wp2_with fail
   go_loop [4] (fun i => ∃ k : Nat, k ≤ t.fields.length ∧ i = .int .i64 k ∧ (t.fields.take k).all (fun f => shB f.name) = true) (fun i => t.fields.length - (intOf i).toNat)
   case atStart => exact ⟨0, by omega, rfl, by simp⟩
   case round =>
    obtain ⟨k, hk, rfl, hall⟩ := hrel
    have HALL := qh hall
    clear hall
    by_cases hlt : k < t.fields.length
    ·obtain ⟨x, hx⟩ : ∃ x, t.fields[k]? = some x := ⟨_, qgeq hlt⟩
     obtain ⟨b, off, c', e, _, hc⟩ := fld_at (Sl.wr0 HH.out.fields ACC.out) hx
     injection e with e1 e2 e3
     subst e1 e3
     have x0 := hc 0 _ rfl
     simp only [Nat.add_zero] at x0
     have gx := short_r x.name w0
     have hlti : (k : Int) < (t.fields.length : Int) := by omega
     have hk0 : (0 : Int) ≤ (k : Int) := by omega
     have HX := qh hx
     obtain ⟨px, hpx⟩ : ∃ q, shB x.name = q := ⟨_, rfl⟩
     rw [hpx] at gx
     have GX := qh gx
     have HPX := qh hpx
     clear gx hpx hx hc
     go_wp2_with fail
     refine GX.out.mono ?_
     rintro e w1 ⟨rfl, rfl⟩
     cases px with
     | false =>
      obtain rfl : b8 = false := by rw [← E8.out]; exact allF_no HX.out HPX.out
      obtain rfl : rr = false := by rw [HV.out]; simp
      clear HV
      go_wp2_with fail
      go_ret
      exact ⟨rfl, ACC.out⟩
     | true =>
      have hs := allF_step HALL.out HX.out HPX.out
      have HS := qh hs
      clear hs
      go_wp2_with fail
      exact ⟨⟨k + 1, by omega, rfl, HS.out⟩, by show _ - ((k + 1 : Nat) : Int).toNat < _ - (k : Int).toNat; omega⟩
    ·obtain rfl : k = t.fields.length := by omega
     have hb : b8 = true := by rw [← E8.out, ← HALL.out, List.take_length]
     subst hb
     go_wp2_with fail
     go_loop [5] (fun i => ∃ k : Nat, k ≤ t.arms.length ∧ i = .int .i64 k ∧ (t.arms.take k).all armFit = true) (fun i => t.arms.length - (intOf i).toNat)
     case atStart => exact ⟨0, by omega, rfl, by simp⟩
     case round =>
      obtain ⟨k, hk, rfl, hall⟩ := hrel
      have HALL := qh hall
      clear hall
      by_cases hlt : k < t.arms.length
      ·obtain ⟨x, hx⟩ : ∃ x, t.arms[k]? = some x := ⟨_, qgeq hlt⟩
       obtain ⟨b, off, c', va, vb, e, _, y0, y1, _, ka, kb⟩ := arm_at (SlArms.keep HH.out.arms ACC.out (fun _ _ => by simp)) hx
       injection e with e1 e2 e3
       subst e1 e3
       obtain ⟨Aa, ca, rfl, _, _⟩ := Sl.form ka
       obtain ⟨Ab, cb, rfl, _, _⟩ := Sl.form kb
       have hlti : (k : Int) < (t.arms.length : Int) := by omega
       have hk0 : (0 : Int) ≤ (k : Int) := by omega
       have HX := qh hx
       have gx := fun W => list_r x.frm.length W
       have gy := fun W => list_r x.to.length W
       obtain ⟨px, hpx⟩ : ∃ q, fwB x.frm.length = q := ⟨_, rfl⟩
       obtain ⟨py, hpy⟩ : ∃ q, fwB x.to.length = q := ⟨_, rfl⟩
       have hpp : armFit x = (px && py) := by unfold armFit; rw [hpx, hpy]
       simp only [hpx] at gx
       simp only [hpy] at gy
       have GX := qh gx
       have GY := qh gy
       have HPP := qh hpp
       clear gx gy hpx hpy hpp hx ka kb
       go_wp2_with fail
       refine (GX.out _).mono ?_
       rintro e w1 ⟨rfl, rfl⟩
       cases px with
       | false =>
        obtain rfl : b9 = false := by rw [← E9.out]; exact allF_no HX.out (by rw [HPP.out]; rfl)
        obtain rfl : rr = false := by rw [HV.out]; simp
        clear HV
        go_wp2_with fail
        go_ret
        exact ⟨rfl, ACC.out⟩
       | true =>
        go_wp2_with fail
        refine (GY.out _).mono ?_
        rintro e w1 ⟨rfl, rfl⟩
        cases py with
        | false =>
         obtain rfl : b9 = false := by rw [← E9.out]; exact allF_no HX.out (by rw [HPP.out]; rfl)
         obtain rfl : rr = false := by rw [HV.out]; simp
         clear HV
         go_wp2_with fail
         go_ret
         exact ⟨rfl, ACC.out⟩
        | true =>
         have hs := allF_step HALL.out HX.out (by rw [HPP.out]; rfl)
         have HS := qh hs
         clear hs
         go_wp2_with fail
         exact ⟨⟨k + 1, by omega, rfl, HS.out⟩, by show _ - ((k + 1 : Nat) : Int).toNat < _ - (k : Int).toNat; omega⟩
      ·obtain rfl : k = t.arms.length := by omega
       have hb : b9 = true := by rw [← E9.out, ← HALL.out, List.take_length]
       subst hb
       obtain rfl : rr = true := by rw [HV.out]; rfl
       clear HV
       go_wp2_with fail
       go_ret
       exact ⟨rfl, ACC.out⟩
end Go.Proofs.YtildcdgobdfieaaGreat
