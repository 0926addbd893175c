/- iface's walk, reading: truths, bytes, texts: walked. Conditions: the walk reads. -/
import Derived.Test.YtildcdgobdfieaaGreatSY01
import Derived.Test.YtildcdgobdfieaaGreatSY32
import Derived.Test.YtildcdgobdfieaaGreatSY05
import Derived.Deep.RegionHeld3
set_option linter.unusedVariables false
set_option linter.unusedSimpArgs false
set_option maxRecDepth 100000
set_option maxHeartbeats 32000000
namespace Go.Proofs.YtildcdgobdfieaaGreat
open Go.RowKit
theorem truth_r (b g j : Nat) (r : Rd) (w : World) (hb : WlkR w b r) (hg : g ≠ b) (x : Bool) (hc : w.cell? ⟨g, j, none⟩ = some (.bool x)) (hz : w.frozen? ⟨g, j, none⟩ = false) :
  Calls Tryz.prog 150 #[.pointer (some ⟨b, 0, none⟩), .pointer (some ⟨g, j, none⟩)] w (PutL b ⟨g, j, none⟩ (.bool r.truth.1) r.truth.2 w) := by
 have hbl := hb.lt
 obtain ⟨m, hm⟩ : ∃ m : Int, (if x then 1 else 0) = m := ⟨_, rfl⟩
 obtain ⟨w0, hw0⟩ : ∃ q, w.alloc (.cells #[.int .u8 m] 5) = q := ⟨_, rfl⟩
 obtain ⟨g0, hg0⟩ : ∃ q, w.heap.size = q := ⟨_, rfl⟩
 have r0 : Wr [b] w w0 := by rw [← hw0]; exact (Wr.refl _ _).alloc _
 have b0 : Blk w0 g0 5 #[.int .u8 m] := by rw [← hw0, ← hg0]; exact Blk.new _ _ _
 have hgb : g0 ≠ b := by omega
 have hb0 : WlkR w0 b r := by rw [← hw0]; exact Blk.wr0 hb ((Wr.refl _ _).alloc _)
 have h := byte_r b g0 0 r w0 hb0 hgb m (b0.cell 0) (b0.frozen 0)
 unfold Rd.one at h
 unfold Rd.truth
 generalize r.num 1 = rr at *
 obtain ⟨v, l, bad⟩ := rr
 simp only at h ⊢
 have hwg : w.heap.size ≤ g0 := by omega
 have hca := ((Wr.refl [] w).alloc (.cells #[.int .u8 0] 5)).cellOf hc (by simp)
 have hlt : g0 < w0.heap.size := b0.lt
 have H := qh h
 have HC := qh hc
 have HZ := qh hz
 have R0 := qh r0
 have HW0 := qh hw0
 have HG0 := qh hg0
 have B0 := qh b0
 clear hb h hz b0 r0 hw0 hg0 hb0
 generalize hone : decide (v = 1) = one0 at *
 generalize hbig : decide (1 < v) = big0 at *
 have HONE := qh hone
 have HBIG := qh hbig
 clear hone hbig
 cases x with
 | true =>
  simp only [if_true] at hm
  subst hm
  go_enter Tryz.func150, Tryz.ntmps150
  go_upto_region 3 with (fail)
  rw [HG0.out, HW0.out]
  clear hc
  go_wp2_with fail
  refine H.out.mono ?_
  rintro e w1 ⟨rfl, w2, r2, b2, rfl⟩
  have q2 := (B0.out.wr r2 (by simpa using hgb)).set_ 0 (.int .u8 (v : Int))
  have r3 : Wr [b] w (w2.setCell ⟨g0, 0, none⟩ (.int .u8 (v : Int))) := (R0.out.trans r2).setNew hwg _
  have b3 : WlkR (w2.setCell ⟨g0, 0, none⟩ (.int .u8 (v : Int))) b ⟨l, bad⟩ := Blk.far b2 (fun e => hgb e.symm) _
  have bl3 : b < (w2.setCell ⟨g0, 0, none⟩ (.int .u8 (v : Int))).heap.size := b3.lt
  generalize w2.setCell ⟨g0, 0, none⟩ (.int .u8 (v : Int)) = w3 at *
  have c0 := q2.cell 0
  simp only [qsaq, qszq, qgaq, qgzq] at c0
  have c1 := r3.cellOf HC.out (by simpa using hg)
  have z1 := r3.frozenOf HC.out HZ.out (by simpa using hg)
  have d2 := Blk.cell b3 2
  have f2 := Blk.frozen b3 2
  simp only [qgaq, qgzq, qgsq] at d2
  obtain ⟨w4, hw4⟩ : ∃ q, w3.setCell ⟨b, 2, none⟩ (.bool (bad || big0)) = q := ⟨_, rfl⟩
  have b4 : WlkR w4 b ⟨l, bad || big0⟩ := by rw [← hw4]; exact Blk.set_ b3 2 _
  have r4 : Wr [b] w w4 := by rw [← hw4]; exact r3.setOn (by simp) _
  have r34 : Wr [b] w3 w4 := by rw [← hw4]; exact (Wr.refl _ _).setOn (by simp) _
  have k0 := r34.cellOf c0 (by simpa using hgb)
  have k1 := r4.cellOf HC.out (by simpa using hg)
  have y1 := r4.frozenOf HC.out HZ.out (by simpa using hg)
  have e1 : decide ((v : Int) > 1) = big0 := by rw [← HBIG.out]; exact decide_eq_decide.2 (by omega)
  have e2 : ((v : Int) == 1) = one0 := by rw [← HONE.out, Bool.eq_iff_iff]; simp only [beq_iff_eq, decide_eq_true_eq]; omega
  have e3 : decide (1 < (v : Int)) = big0 := by rw [← HBIG.out]; exact decide_eq_decide.2 (by omega)
  have HW4 := qh hw4
  clear hw4 b3 q2 r3 r34 r2 b2
  cases bad with
  | true =>
   simp only [Bool.true_or] at HW4 b4
   go_upto_region 5 with (fail)
   rw [HW4.out]
   clear c0 c1 z1 d2 f2
   go_wp2_with fail
   refine bodyPost_end (results_none Tryz.results150 _ _ _) rfl ?_
   exact ⟨rfl, w4, r4, b4, rfl⟩
  | false =>
   simp only [Bool.false_or] at HW4 b4
   go_upto_region 5 with (fail)
   rw [HW4.out]
   clear c0 c1 z1 d2 f2
   go_wp2_with fail
   refine bodyPost_end (results_none Tryz.results150 _ _ _) rfl ?_
   exact ⟨rfl, w4, r4, b4, rfl⟩
 | false =>
  simp only [Bool.false_eq_true, if_false] at hm
  subst hm
  go_enter Tryz.func150, Tryz.ntmps150
  go_upto_region 3 with (fail)
  rw [HG0.out, HW0.out]
  clear hc
  go_wp2_with fail
  refine H.out.mono ?_
  rintro e w1 ⟨rfl, w2, r2, b2, rfl⟩
  have q2 := (B0.out.wr r2 (by simpa using hgb)).set_ 0 (.int .u8 (v : Int))
  have r3 : Wr [b] w (w2.setCell ⟨g0, 0, none⟩ (.int .u8 (v : Int))) := (R0.out.trans r2).setNew hwg _
  have b3 : WlkR (w2.setCell ⟨g0, 0, none⟩ (.int .u8 (v : Int))) b ⟨l, bad⟩ := Blk.far b2 (fun e => hgb e.symm) _
  have bl3 : b < (w2.setCell ⟨g0, 0, none⟩ (.int .u8 (v : Int))).heap.size := b3.lt
  generalize w2.setCell ⟨g0, 0, none⟩ (.int .u8 (v : Int)) = w3 at *
  have c0 := q2.cell 0
  simp only [qsaq, qszq, qgaq, qgzq] at c0
  have c1 := r3.cellOf HC.out (by simpa using hg)
  have z1 := r3.frozenOf HC.out HZ.out (by simpa using hg)
  have d2 := Blk.cell b3 2
  have f2 := Blk.frozen b3 2
  simp only [qgaq, qgzq, qgsq] at d2
  obtain ⟨w4, hw4⟩ : ∃ q, w3.setCell ⟨b, 2, none⟩ (.bool (bad || big0)) = q := ⟨_, rfl⟩
  have b4 : WlkR w4 b ⟨l, bad || big0⟩ := by rw [← hw4]; exact Blk.set_ b3 2 _
  have r4 : Wr [b] w w4 := by rw [← hw4]; exact r3.setOn (by simp) _
  have r34 : Wr [b] w3 w4 := by rw [← hw4]; exact (Wr.refl _ _).setOn (by simp) _
  have k0 := r34.cellOf c0 (by simpa using hgb)
  have k1 := r4.cellOf HC.out (by simpa using hg)
  have y1 := r4.frozenOf HC.out HZ.out (by simpa using hg)
  have e1 : decide ((v : Int) > 1) = big0 := by rw [← HBIG.out]; exact decide_eq_decide.2 (by omega)
  have e2 : ((v : Int) == 1) = one0 := by rw [← HONE.out, Bool.eq_iff_iff]; simp only [beq_iff_eq, decide_eq_true_eq]; omega
  have e3 : decide (1 < (v : Int)) = big0 := by rw [← HBIG.out]; exact decide_eq_decide.2 (by omega)
  have HW4 := qh hw4
  clear hw4 b3 q2 r3 r34 r2 b2
  cases bad with
  | true =>
   simp only [Bool.true_or] at HW4 b4
   go_upto_region 5 with (fail)
   rw [HW4.out]
   clear c0 c1 z1 d2 f2
   go_wp2_with fail
   refine bodyPost_end (results_none Tryz.results150 _ _ _) rfl ?_
   exact ⟨rfl, w4, r4, b4, rfl⟩
  | false =>
   simp only [Bool.false_or] at HW4 b4
   go_upto_region 5 with (fail)
   rw [HW4.out]
   clear c0 c1 z1 d2 f2
   go_wp2_with fail
   refine bodyPost_end (results_none Tryz.results150 _ _ _) rfl ?_
   exact ⟨rfl, w4, r4, b4, rfl⟩
def PutB (b g j : Nat) (v : Value) (r : Rd) (w : World) (e : Ending) (w' : World) : Prop := e = .returned (.tuple #[]) ∧ Wr [b, g] w w' ∧ WlkR w' b r ∧ ∀ t cs, Blk w g t cs → Blk w' g t (cs.setIfInBounds j v)
theorem PutL.toB {b g j : Nat} {v : Value} {r : Rd} {w w' : World} {e : Ending} (hg : g ≠ b) (h : PutL b ⟨g, j, none⟩ v r w e w') : PutB b g j v r w e w' := by
 obtain ⟨rfl, w1, r1, b1, rfl⟩ := h
 refine ⟨rfl, (r1.more (by simp)).setOn (by simp) _, Blk.far b1 (fun e => hg e.symm) _, fun t cs hc => ?_⟩
 exact (hc.wr r1 (by simpa using hg)).set_ j v
theorem PutB.from {b g j : Nat} {v : Value} {r : Rd} {w w1 w' : World} {e : Ending} (hg : g ≠ b) (r1 : Wr [b] w w1) (h : PutB b g j v r w1 e w') : PutB b g j v r w e w' := by
 obtain ⟨h1, h2, h3, h4⟩ := h
 exact ⟨h1, (r1.more (by simp)).trans h2, h3, fun t cs hc => h4 t cs (hc.wr r1 (by simpa using hg))⟩
theorem raw_r (b g j n : Nat) (r : Rd) (w : World) (hb : WlkR w b r) (hg : g ≠ b) (x : ByteArray) (hc : w.cell? ⟨g, j, none⟩ = some (.string x)) (hz : w.frozen? ⟨g, j, none⟩ = false) :
  Calls Tryz.prog 140 #[.pointer (some ⟨b, 0, none⟩), .pointer (some ⟨g, j, none⟩), .int .i64 (n : Int)] w (PutB b g j (.string ⟨(r.raw n).1.toArray⟩) (r.raw n).2 w) := by
 obtain ⟨l, bad⟩ := r
 obtain ⟨S, hS⟩ : ∃ S : ByteArray, ⟨l.toArray⟩ = S := ⟨_, rfl⟩
 have hsz : S.size = l.length := by rw [← hS]; show l.toArray.size = _; simp
 have hb' : Blk w b 160 #[.string S, .bool true, .bool bad] := by rw [← hS]; exact hb
 have c0 := hb'.cell 0
 have c1 := hb'.cell 1
 have c2 := hb'.cell 2
 simp only [qgaq, qgzq, qgsq] at c0 c1 c2
 have z0 := hb'.frozen 0
 have z2 := hb'.frozen 2
 by_cases hbad : bad = true ∨ l.length < n
 ·have hr : (Rd.mk l bad).raw n = ([], ⟨l, true⟩) := by unfold Rd.raw; rw [if_pos hbad]
  rw [hr]
  obtain ⟨w2, hw2⟩ : ∃ q, w.setCell ⟨b, 2, none⟩ (.bool true) = q := ⟨_, rfl⟩
  have b2 : WlkR w2 b ⟨l, true⟩ := by rw [← hw2]; have := hb'.set_ 2 (.bool true); rw [← hS] at this; exact this
  have r2 : Wr [b] w w2 := by rw [← hw2]; exact (Wr.refl _ _).setOn (by simp) _
  have k1 := r2.cellOf hc (by simpa using hg)
  have y1 := r2.frozenOf hc hz (by simpa using hg)
  have d2 := Blk.cell b2 2
  simp only [qgaq, qgzq, qgsq] at d2
  have hpost : PutB b g j (.string ⟨#[]⟩) ⟨l, true⟩ w (.returned (.tuple #[])) (w2.setCell ⟨g, j, none⟩ (.string ⟨#[]⟩)) := PutL.toB hg ⟨rfl, w2, r2, b2, rfl⟩
  have HP := qh hpost
  clear hb hb' hpost b2 r2 hr hS
  cases bad with
  | true =>
   go_enter Tryz.func140, Tryz.ntmps140
   go_wp2_with fail
   refine bodyPost_end (results_none Tryz.results140 _ _ _) rfl ?_
   exact HP.out
  | false =>
   have hlt : l.length < n := by simpa using hbad
   have e0 : (n : Int) > (S.size : Int) := by omega
   have e1 : (S.size : Int) < (n : Int) := by omega
   have e2 : decide (l.length < n) = true := decide_eq_true hlt
   go_enter Tryz.func140, Tryz.ntmps140
   go_wp2_with fail
   refine bodyPost_end (results_none Tryz.results140 _ _ _) rfl ?_
   exact HP.out
 ·have hbf : bad = false := by cases bad <;> simp_all
  subst hbf
  have hle : n ≤ l.length := by simp at hbad; omega
  have hr : (Rd.mk l false).raw n = (l.take n, ⟨l.drop n, false⟩) := by unfold Rd.raw; rw [if_neg hbad]
  rw [hr]
  obtain ⟨w2, hw2⟩ : ∃ q, w.setCell ⟨b, 2, none⟩ (.bool false) = q := ⟨_, rfl⟩
  have b2 : Blk w2 b 160 #[.string S, .bool true, .bool false] := by rw [← hw2]; exact hb'.set_ 2 (.bool false)
  have r2 : Wr [b] w w2 := by rw [← hw2]; exact (Wr.refl _ _).setOn (by simp) _
  have k1 := r2.cellOf hc (by simpa using hg)
  have y1 := r2.frozenOf hc hz (by simpa using hg)
  have x0 := b2.cell 0
  have d2 := b2.cell 2
  simp only [qgaq, qgzq, qgsq] at x0 d2
  have q0 := b2.frozen 0
  have e0 : ¬ (n : Int) > (S.size : Int) := by omega
  have e1 : ¬ (S.size : Int) < (n : Int) := by omega
  have e2 : decide (l.length < n) = false := decide_eq_false (by omega)
  have t1 : S.extract 0 n = ⟨(l.take n).toArray⟩ := by
   rw [← hS]
   apply ByteArray.ext
   rw [ByteArray.data_extract]
   simp
  have t2 : S.extract n l.length = ⟨(l.drop n).toArray⟩ := by
   rw [← hS]
   apply ByteArray.ext
   rw [ByteArray.data_extract]
   simp
   exact List.take_of_length_le (by simp)
  have HT1 := qh t1
  have HT2 := qh t2
  have R2 := qh r2
  have B2 := qh b2
  clear hb hb' hr hS t1 t2 r2 b2
  go_enter Tryz.func140, Tryz.ntmps140
  go_upto_region 5 with (fail)
  try rw [hw2]
  clear c0 c1 c2 z0 z2 hc hz hw2
  have hC : ∀ W, Wr [g] w2 W → W.cell? ⟨b, 0, none⟩ = some (.string S) := fun W hW => hW.cellOf x0 (by simpa using Ne.symm hg)
  have HC := qh hC
  clear hC
  refine wp_region_noPanic ?_
  refine wp_region_L (Until 18 fun w' => w'.cell? ⟨b, 0, none⟩ = some (.string S)) (by kernel_rfl) (fun hcl => ?_)
  have hS : Until 18 (fun w' => w'.cell? ⟨b, 0, none⟩ = some (.string S)) (Array.replicate 19 false) w2.drew := fun _ => x0
  refine wpAnyL_take (i := 0) (oi := ?oi1) (v := ?v1) ?hi1 (by kernel_rfl) (by kernel_rfl) (by kernel_rfl) (fun _ _ _ h => h) (until_take 18 _ (by decide)) ?hy1 hcl hS ?rest1
  case hi1 =>
   simp only [qgaq, qgsq, qgzq]
   rfl
  case hy1 =>
   refine yields_until (by kernel_rfl) (Or.inl ⟨by rfl, fun w' hS => ?_⟩)
   try go_split_ands
   go_simp
   try rfl
  intro hcl1 hS1
  clear hcl hS
  try simp only [Act.put, qsaq, qszq, qssq]
  refine wpAnyL_take (i := 1) (oi := ?oi2) (v := ?v2) ?hi2 (by kernel_rfl) (by kernel_rfl) (by kernel_rfl) (fun _ _ _ h => h) (until_take 18 _ (by decide)) ?hy2 hcl1 hS1 ?rest2
  case hi2 =>
   simp only [qgaq, qgsq, qgzq]
   rfl
  case hy2 =>
   refine yields_until (by kernel_rfl) (Or.inl ⟨by rfl, fun w' hS => ?_⟩)
   try go_split_ands
   go_simp
   try rfl
  intro hcl2 hS2
  clear hcl1 hS1
  try simp only [Act.put, qsaq, qszq, qssq]
  refine wpAnyL_take (i := 2) (oi := ?oi3) (v := ?v3) ?hi3 (by kernel_rfl) (by kernel_rfl) (by kernel_rfl) (fun _ _ _ h => h) (until_take 18 _ (by decide)) ?hy3 hcl2 hS2 ?rest3
  case hi3 =>
   simp only [qgaq, qgsq, qgzq]
   rfl
  case hy3 =>
   refine yields_until (by kernel_rfl) (Or.inl ⟨by rfl, fun w' hS => ?_⟩)
   try go_split_ands
   go_simp
   try rfl
  intro hcl3 hS3
  clear hcl2 hS2
  try simp only [Act.put, qsaq, qszq, qssq]
  refine wpAnyL_take (i := 3) (oi := ?oi4) (v := ?v4) ?hi4 (by kernel_rfl) (by kernel_rfl) (by kernel_rfl) (fun _ _ _ h => h) (until_take 18 _ (by decide)) ?hy4 hcl3 hS3 ?rest4
  case hi4 =>
   simp only [qgaq, qgsq, qgzq]
   rfl
  case hy4 =>
   refine yields_until (by kernel_rfl) (Or.inl ⟨by rfl, fun w' hS => ?_⟩)
   try go_split_ands
   go_simp
   try rfl
  intro hcl4 hS4
  clear hcl3 hS3
  try simp only [Act.put, qsaq, qszq, qssq]
  refine wpAnyL_take (i := 4) (oi := ?oi5) (v := ?v5) ?hi5 (by kernel_rfl) (by kernel_rfl) (by kernel_rfl) (fun _ _ _ h => h) (until_take 18 _ (by decide)) ?hy5 hcl4 hS4 ?rest5
  case hi5 =>
   simp only [qgaq, qgsq, qgzq]
   rfl
  case hy5 =>
   refine yields_until (by kernel_rfl) (Or.inl ⟨by rfl, fun w' hS => ?_⟩)
   try go_split_ands
   go_simp
   try rfl
  intro hcl5 hS5
  clear hcl4 hS4
  try simp only [Act.put, qsaq, qszq, qssq]
  refine wpAnyL_take (i := 5) (oi := ?oi6) (v := ?v6) ?hi6 (by kernel_rfl) (by kernel_rfl) (by kernel_rfl) (fun _ _ _ h => h) (until_take 18 _ (by decide)) ?hy6 hcl5 hS5 ?rest6
  case hi6 =>
   simp only [qgaq, qgsq, qgzq]
   rfl
  case hy6 =>
   refine yields_until (by kernel_rfl) (Or.inl ⟨by rfl, fun w' hS => ?_⟩)
   try go_split_ands
   go_simp
   try rfl
  intro hcl6 hS6
  clear hcl5 hS5
  try simp only [Act.put, qsaq, qszq, qssq]
  refine wpAnyL_take (i := 6) (oi := ?oi7) (v := ?v7) ?hi7 (by kernel_rfl) (by kernel_rfl) (by kernel_rfl) (fun _ _ _ h => h) (until_take 18 _ (by decide)) ?hy7 hcl6 hS6 ?rest7
  case hi7 =>
   simp only [qgaq, qgsq, qgzq]
   rfl
  case hy7 =>
   refine yields_until (by kernel_rfl) (Or.inl ⟨by rfl, fun w' hS => ?_⟩)
   try go_split_ands
   go_simp
   try rfl
  intro hcl7 hS7
  clear hcl6 hS6
  try simp only [Act.put, qsaq, qszq, qssq]
  refine wpAnyL_take (i := 7) (oi := ?oi8) (v := ?v8) ?hi8 (by kernel_rfl) (by kernel_rfl) (by kernel_rfl) (fun _ _ _ h => h) (until_take 18 _ (by decide)) ?hy8 hcl7 hS7 ?rest8
  case hi8 =>
   simp only [qgaq, qgsq, qgzq]
   rfl
  case hy8 =>
   refine yields_until (by kernel_rfl) (Or.inl ⟨by rfl, fun w' hS => ?_⟩)
   try go_split_ands
   go_simp
   try rfl
  intro hcl8 hS8
  clear hcl7 hS7
  try simp only [Act.put, qsaq, qszq, qssq]
  refine wpAnyL_take (i := 8) (oi := ?oi9) (v := ?v9) ?hi9 (by kernel_rfl) (by kernel_rfl) (by kernel_rfl) (fun _ _ _ h => h) (until_take 18 _ (by decide)) ?hy9 hcl8 hS8 ?rest9
  case hi9 =>
   simp only [qgaq, qgsq, qgzq]
   rfl
  case hy9 =>
   refine yields_until (by kernel_rfl) (Or.inl ⟨by rfl, fun w' hS => ?_⟩)
   try go_split_ands
   go_simp
   try rfl
  intro hcl9 hS9
  clear hcl8 hS8
  try simp only [Act.put, qsaq, qszq, qssq]
  refine wpAnyL_take (i := 9) (oi := ?oi10) (v := ?v10) ?hi10 (by kernel_rfl) (by kernel_rfl) (by kernel_rfl) (fun _ _ _ h => h) (until_take 18 _ (by decide)) ?hy10 hcl9 hS9 ?rest10
  case hi10 =>
   simp only [qgaq, qgsq, qgzq]
   rfl
  case hy10 =>
   refine yields_until (by kernel_rfl) (Or.inl ⟨by rfl, fun w' hS => ?_⟩)
   try go_split_ands
   go_simp
   try rfl
  intro hcl10 hS10
  clear hcl9 hS9
  try simp only [Act.put, qsaq, qszq, qssq]
  refine wpAnyL_take (i := 10) (oi := ?oi11) (v := ?v11) ?hi11 (by kernel_rfl) (by kernel_rfl) (by kernel_rfl) (fun _ _ _ h => h) (until_take 18 _ (by decide)) ?hy11 hcl10 hS10 ?rest11
  case hi11 =>
   simp only [qgaq, qgsq, qgzq]
   rfl
  case hy11 =>
   refine yields_until (by kernel_rfl) (Or.inl ⟨by rfl, fun w' hS => ?_⟩)
   try go_split_ands
   go_simp
   try rfl
  intro hcl11 hS11
  clear hcl10 hS10
  try simp only [Act.put, qsaq, qszq, qssq]
  refine wpAnyL_take (i := 11) (oi := ?oi12) (v := ?v12) ?hi12 (by kernel_rfl) (by kernel_rfl) (by kernel_rfl) (fun _ _ _ h => h) (until_take 18 _ (by decide)) ?hy12 hcl11 hS11 ?rest12
  case hi12 =>
   simp only [qgaq, qgsq, qgzq]
   rfl
  case hy12 =>
   refine yields_until (by kernel_rfl) (Or.inl ⟨by rfl, fun w' hS => ?_⟩)
   try go_split_ands
   go_simp
   try rfl
  intro hcl12 hS12
  clear hcl11 hS11
  try simp only [Act.put, qsaq, qszq, qssq]
  refine wpAnyL_take (i := 12) (oi := ?oi13) (v := ?v13) ?hi13 (by kernel_rfl) (by kernel_rfl) (by kernel_rfl) (fun _ _ _ h => h) (until_take 18 _ (by decide)) ?hy13 hcl12 hS12 ?rest13
  case hi13 =>
   simp only [qgaq, qgsq, qgzq]
   rfl
  case hy13 =>
   refine yields_until (by kernel_rfl) (Or.inl ⟨by rfl, fun w' hS => ?_⟩)
   try go_split_ands
   go_simp
   try rfl
  intro hcl13 hS13
  clear hcl12 hS12
  try simp only [Act.put, qsaq, qszq, qssq]
  refine wpAnyL_take (i := 13) (oi := ?oi14) (v := ?v14) ?hi14 (by kernel_rfl) (by kernel_rfl) (by kernel_rfl) (fun _ _ _ h => h) (until_take 18 _ (by decide)) ?hy14 hcl13 hS13 ?rest14
  case hi14 =>
   simp only [qgaq, qgsq, qgzq]
   rfl
  case hy14 =>
   refine yields_until (by kernel_rfl) (Or.inl ⟨by rfl, fun w' hS => ?_⟩)
   try go_split_ands
   go_simp
   try rfl
  intro hcl14 hS14
  clear hcl13 hS13
  try simp only [Act.put, qsaq, qszq, qssq]
  refine wpAnyL_take (i := 14) (oi := ?oi15) (v := ?v15) ?hi15 (by kernel_rfl) (by kernel_rfl) (by kernel_rfl) (fun _ _ _ h => h) (until_take 18 _ (by decide)) ?hy15 hcl14 hS14 ?rest15
  case hi15 =>
   simp only [qgaq, qgsq, qgzq]
   rfl
  case hy15 =>
   refine yields_until (by kernel_rfl) (Or.inl ⟨by rfl, fun w' hS => ?_⟩)
   try go_split_ands
   go_simp
   try rfl
  intro hcl15 hS15
  clear hcl14 hS14
  try simp only [Act.put, qsaq, qszq, qssq]
  refine wpAnyL_step (i := 15) (o := ?oi16) ?hi16 (by kernel_rfl) hcl15 ?rest16
  case hi16 =>
   simp only [qgaq, qgsq, qgzq]
   rfl
  intro K hK
  go_simp
  refine hK _ _ (fun _ => HC.out _ ((Wr.refl [g] w2).drew.setOn (by simp) _)) (fun hcl16 => ?_)
  clear hK K hcl15 hS15
  try simp only [Act.put, qsaq, qszq, qssq]
  refine wpAnyL_step (i := 16) (o := ?oi17) ?hi17 (by kernel_rfl) hcl16 ?rest17
  case hi17 =>
   simp only [qgaq, qgsq, qgzq]
   rfl
  intro K hK
  go_simp
  refine hK _ _ (fun _ => HC.out _ ((Wr.refl [g] w2).drew.setOn (by simp) _)) (fun hcl17 => ?_)
  clear hK K hcl16
  try simp only [Act.put, qsaq, qszq, qssq]
  refine wpAnyL_step (i := 17) (o := ?oi18) ?hi18 (by kernel_rfl) hcl17 ?rest18
  case hi18 =>
   simp only [qgaq, qgsq, qgzq]
   rfl
  intro K hK
  go_simp
  refine hK _ _ (fun _ => HC.out _ ((Wr.refl [g] w2).drew.setOn (by simp) _)) (fun hcl18 => ?_)
  clear hK K hcl17
  try simp only [Act.put, qsaq, qszq, qssq]
  refine wpAnyL_step (i := 18) (o := ?oi19) ?hi19 (by kernel_rfl) hcl18 ?rest19
  case hi19 =>
   simp only [qgaq, qgsq, qgzq]
   rfl
  intro K hK
  go_simp
  refine hK _ _ (fun hb => absurd hb (by decide)) (fun hcl999 => ?_)
  clear hK K hcl18
  refine wpAnyL_done (by kernel_rfl) (NoPanic.normal ?_) _
  try simp only [Act.put, qsaq, qszq, qssq]
  go_wp2_with fail
  refine bodyPost_end (results_none Tryz.results140 _ _ _) rfl ?_
  rw [HT1.out, HT2.out]
  have k1 : Wr [b, g] w w2 := R2.out.more (by simp)
  refine ⟨rfl, ((k1.setOn (by simp) _).setOn (by simp) _).drew, ?_, fun t cs hcs => ?_⟩
  ·exact Blk.drew (Blk.set_ (Blk.far B2.out (fun e => hg e.symm) _) 0 (.string ⟨(l.drop n).toArray⟩))
  ·exact Blk.drew (Blk.far ((hcs.wr R2.out (by simpa using hg)).set_ j _) hg _)
theorem text_r (b g j : Nat) (r : Rd) (w : World) (hb : WlkR w b r) (hg : g ≠ b) (x : ByteArray) (hc : w.cell? ⟨g, j, none⟩ = some (.string x)) (hz : w.frozen? ⟨g, j, none⟩ = false) :
  Calls Tryz.prog 106 #[.pointer (some ⟨b, 0, none⟩), .pointer (some ⟨g, j, none⟩)] w (PutB b g j (.string r.text.1) r.text.2 w) := by
 have h := fun m => bytes_r b 1 m r (by omega) w hb
 have hl := num_lt (k := 1) (by omega) r
 unfold Rd.text
 generalize r.num 1 = rr at *
 obtain ⟨v, r'⟩ := rr
 simp only at hl h ⊢
 have h2 := fun W (hr : Wr [b] w W) (hb' : WlkR W b r') => raw_r b g j v r' W hb' hg x (hr.cellOf hc (by simpa using hg)) (hr.frozenOf hc hz (by simpa using hg))
 generalize r'.raw v = rr2 at *
 obtain ⟨t, r''⟩ := rr2
 simp only at h2 ⊢
 have e1 : IntKind.i64.wrap (v : Int) = (v : Int) := by rw [IntKind.wrap_i64]; omega
 have e2 : wrap64 (v : Int) = (v : Int) := by unfold wrap64; omega
 have H := qh h
 have H2 := qh h2
 clear hb h h2 hz
 go_enter Tryz.func106, Tryz.ntmps106
 go_wp2_with fail
 refine (H.out _).mono ?_
 rintro e w1 ⟨rfl, r1, b1⟩
 have hcall := H2.out w1 r1 b1
 clear hc
 go_wp2_with fail
 refine hcall.mono ?_
 rintro e w2 hp
 have hp2 := PutB.from hg r1 hp
 obtain ⟨rfl, _⟩ := hp
 have HP := qh hp2
 clear hp2
 go_wp2_with fail
 refine bodyPost_end (results_none Tryz.results106 _ _ _) rfl ?_
 exact HP.out
end Go.Proofs.YtildcdgobdfieaaGreat
