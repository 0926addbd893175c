/- iface's walk, reading: truths, bytes, texts: walked. Conditions: the walk reads. -/
import Derived.Test.YtmpbkfbjmmoapaaGreatIT01
import Derived.Test.YtmpbkfbjmmoapaaGreatIT06
import Derived.Deep.RegionHeld3
import Derived.Test.YtmpbkfbjmmoapaaGreatIT04
import Derived.Laws.IdiomStrings
import Derived.Deep.Cut
import Derived.Deep.DeepCutAuto
import Derived.LoopN
import Derived.Deep.DrawnRows
import Derived.Laws.EntriesVeiled
namespace Go.Proofs.YtmpbkfbjmmoapaaGreat
open Go.RowKit
set_option linter.unusedVariables false
set_option linter.unusedSimpArgs false
set_option maxRecDepth 100000 in
set_option maxHeartbeats 4000000 in
theorem truth_r (b g j : Nat) (r : Rd) (w : World) (hb : WlkR w b r) (hg : g ≠ b) (x : Bool) (hc : w.cell? ⟨g, j, none⟩ = some (.bool x)) (hz : w.frozen? ⟨g, j, none⟩ = false) :
  Calls Tryz.prog 84 #[.pointer (some ⟨b, 0, none⟩), .pointer (some ⟨g, j, none⟩)] w (PutL b ⟨g, j, none⟩ (.bool r.truth.1) r.truth.2 w) := by
 have hbl := hb.lt
 obtain ⟨m, hm⟩ : ∃ m : Int, (if x then 1 else 0) = m := ⟨_, rfl⟩
 obtain ⟨w0, hw0⟩ : ∃ q, w.alloc (.cells #[.int .u8 m] 5) = q := ⟨_, rfl⟩
 obtain ⟨g0, hg0⟩ : ∃ q, w.heap.size = q := ⟨_, rfl⟩
 have r0 : Wr [b] w w0 := by rw [← hw0]; exact (Wr.refl _ _).alloc _
 have b0 : Blk w0 g0 5 #[.int .u8 m] := by rw [← hw0, ← hg0]; exact Blk.new _ _ _
 have hgb : g0 ≠ b := by omega
 have hb0 : WlkR w0 b r := by rw [← hw0]; exact Blk.wr0 hb ((Wr.refl _ _).alloc _)
 have h := byte_r b g0 0 r w0 hb0 hgb m (b0.cell 0) (b0.frozen 0)
 unfold Rd.one at h
 unfold Rd.truth
 generalize r.num 1 = rr at *
 obtain ⟨v, l, bad⟩ := rr
 simp only at h ⊢
 have hwg : w.heap.size ≤ g0 := by omega
 have hca := ((Wr.refl [] w).alloc (.cells #[.int .u8 0] 5)).cellOf hc (by simp)
 have hlt : g0 < w0.heap.size := b0.lt
 have H := Lib.hid h
 have HC := Lib.hid hc
 have HZ := Lib.hid hz
 have R0 := Lib.hid r0
 have HW0 := Lib.hid hw0
 have HG0 := Lib.hid hg0
 have B0 := Lib.hid b0
 clear hb h hz b0 r0 hw0 hg0 hb0
 generalize hone : decide (v = 1) = one0 at *
 generalize hbig : decide (1 < v) = big0 at *
 have HONE := Lib.hid hone
 have HBIG := Lib.hid hbig
 clear hone hbig
 cases x with
 | true =>
  simp only [if_true] at hm
  subst hm
  go_enter Tryz.func84, Tryz.ntmps84
  go_upto_region 3 with (fail)
  rw [HG0.out, HW0.out]
  clear hc
  go_wp2_with fail
  refine H.out.mono ?_
  rintro e w1 ⟨rfl, w2, r2, b2, rfl⟩
  have q2 := (B0.out.wr r2 (by simpa using hgb)).set_ 0 (.int .u8 (v : Int))
  have r3 : Wr [b] w (w2.setCell ⟨g0, 0, none⟩ (.int .u8 (v : Int))) := (R0.out.trans r2).setNew hwg _
  have b3 : WlkR (w2.setCell ⟨g0, 0, none⟩ (.int .u8 (v : Int))) b ⟨l, bad⟩ := Blk.far b2 (fun e => hgb e.symm) _
  have bl3 : b < (w2.setCell ⟨g0, 0, none⟩ (.int .u8 (v : Int))).heap.size := b3.lt
  generalize w2.setCell ⟨g0, 0, none⟩ (.int .u8 (v : Int)) = w3 at *
  have c0 := q2.cell 0
  simp only [qsaq, qszq, qgaq, qgzq] at c0
  have c1 := r3.cellOf HC.out (by simpa using hg)
  have z1 := r3.frozenOf HC.out HZ.out (by simpa using hg)
  have d2 := Blk.cell b3 2
  have f2 := Blk.frozen b3 2
  simp only [qgaq, qgzq, qgsq] at d2
  obtain ⟨w4, hw4⟩ : ∃ q, w3.setCell ⟨b, 2, none⟩ (.bool (bad || big0)) = q := ⟨_, rfl⟩
  have b4 : WlkR w4 b ⟨l, bad || big0⟩ := by rw [← hw4]; exact Blk.set_ b3 2 _
  have r4 : Wr [b] w w4 := by rw [← hw4]; exact r3.setOn (by simp) _
  have r34 : Wr [b] w3 w4 := by rw [← hw4]; exact (Wr.refl _ _).setOn (by simp) _
  have k0 := r34.cellOf c0 (by simpa using hgb)
  have k1 := r4.cellOf HC.out (by simpa using hg)
  have y1 := r4.frozenOf HC.out HZ.out (by simpa using hg)
  have e1 : decide ((v : Int) > 1) = big0 := by rw [← HBIG.out]; exact decide_eq_decide.2 (by omega)
  have e2 : ((v : Int) == 1) = one0 := by rw [← HONE.out, Bool.eq_iff_iff]; simp only [beq_iff_eq, decide_eq_true_eq]; omega
  have e3 : decide (1 < (v : Int)) = big0 := by rw [← HBIG.out]; exact decide_eq_decide.2 (by omega)
  have HW4 := Lib.hid hw4
  clear hw4 b3 q2 r3 r34 r2 b2
  cases bad with
  | true =>
   simp only [Bool.true_or] at HW4 b4
   go_upto_region 5 with (fail)
   rw [HW4.out]
   clear c0 c1 z1 d2 f2
   go_wp2_with fail
   refine bodyPost_end (results_none Tryz.results84 _ _ _) rfl ?_
   exact ⟨rfl, w4, r4, b4, rfl⟩
  | false =>
   simp only [Bool.false_or] at HW4 b4
   go_upto_region 5 with (fail)
   rw [HW4.out]
   clear c0 c1 z1 d2 f2
   go_wp2_with fail
   refine bodyPost_end (results_none Tryz.results84 _ _ _) rfl ?_
   exact ⟨rfl, w4, r4, b4, rfl⟩
 | false =>
  simp only [Bool.false_eq_true, if_false] at hm
  subst hm
  go_enter Tryz.func84, Tryz.ntmps84
  go_upto_region 3 with (fail)
  rw [HG0.out, HW0.out]
  clear hc
  go_wp2_with fail
  refine H.out.mono ?_
  rintro e w1 ⟨rfl, w2, r2, b2, rfl⟩
  have q2 := (B0.out.wr r2 (by simpa using hgb)).set_ 0 (.int .u8 (v : Int))
  have r3 : Wr [b] w (w2.setCell ⟨g0, 0, none⟩ (.int .u8 (v : Int))) := (R0.out.trans r2).setNew hwg _
  have b3 : WlkR (w2.setCell ⟨g0, 0, none⟩ (.int .u8 (v : Int))) b ⟨l, bad⟩ := Blk.far b2 (fun e => hgb e.symm) _
  have bl3 : b < (w2.setCell ⟨g0, 0, none⟩ (.int .u8 (v : Int))).heap.size := b3.lt
  generalize w2.setCell ⟨g0, 0, none⟩ (.int .u8 (v : Int)) = w3 at *
  have c0 := q2.cell 0
  simp only [qsaq, qszq, qgaq, qgzq] at c0
  have c1 := r3.cellOf HC.out (by simpa using hg)
  have z1 := r3.frozenOf HC.out HZ.out (by simpa using hg)
  have d2 := Blk.cell b3 2
  have f2 := Blk.frozen b3 2
  simp only [qgaq, qgzq, qgsq] at d2
  obtain ⟨w4, hw4⟩ : ∃ q, w3.setCell ⟨b, 2, none⟩ (.bool (bad || big0)) = q := ⟨_, rfl⟩
  have b4 : WlkR w4 b ⟨l, bad || big0⟩ := by rw [← hw4]; exact Blk.set_ b3 2 _
  have r4 : Wr [b] w w4 := by rw [← hw4]; exact r3.setOn (by simp) _
  have r34 : Wr [b] w3 w4 := by rw [← hw4]; exact (Wr.refl _ _).setOn (by simp) _
  have k0 := r34.cellOf c0 (by simpa using hgb)
  have k1 := r4.cellOf HC.out (by simpa using hg)
  have y1 := r4.frozenOf HC.out HZ.out (by simpa using hg)
  have e1 : decide ((v : Int) > 1) = big0 := by rw [← HBIG.out]; exact decide_eq_decide.2 (by omega)
  have e2 : ((v : Int) == 1) = one0 := by rw [← HONE.out, Bool.eq_iff_iff]; simp only [beq_iff_eq, decide_eq_true_eq]; omega
  have e3 : decide (1 < (v : Int)) = big0 := by rw [← HBIG.out]; exact decide_eq_decide.2 (by omega)
  have HW4 := Lib.hid hw4
  clear hw4 b3 q2 r3 r34 r2 b2
  cases bad with
  | true =>
   simp only [Bool.true_or] at HW4 b4
   go_upto_region 5 with (fail)
   rw [HW4.out]
   clear c0 c1 z1 d2 f2
   go_wp2_with fail
   refine bodyPost_end (results_none Tryz.results84 _ _ _) rfl ?_
   exact ⟨rfl, w4, r4, b4, rfl⟩
  | false =>
   simp only [Bool.false_or] at HW4 b4
   go_upto_region 5 with (fail)
   rw [HW4.out]
   clear c0 c1 z1 d2 f2
   go_wp2_with fail
   refine bodyPost_end (results_none Tryz.results84 _ _ _) rfl ?_
   exact ⟨rfl, w4, r4, b4, rfl⟩
def PutB (b g j : Nat) (v : Value) (r : Rd) (w : World) (e : Ending) (w' : World) : Prop := e = .returned (.tuple #[]) ∧ Wr [b, g] w w' ∧ WlkR w' b r ∧ ∀ t cs, Blk w g t cs → Blk w' g t (cs.setIfInBounds j v)
theorem PutL.toB {b g j : Nat} {v : Value} {r : Rd} {w w' : World} {e : Ending} (hg : g ≠ b) (h : PutL b ⟨g, j, none⟩ v r w e w') : PutB b g j v r w e w' := by
 obtain ⟨rfl, w1, r1, b1, rfl⟩ := h
 refine ⟨rfl, (r1.more (by simp)).setOn (by simp) _, Blk.far b1 (fun e => hg e.symm) _, fun t cs hc => ?_⟩
 exact (hc.wr r1 (by simpa using hg)).set_ j v
theorem PutB.from {b g j : Nat} {v : Value} {r : Rd} {w w1 w' : World} {e : Ending} (hg : g ≠ b) (r1 : Wr [b] w w1) (h : PutB b g j v r w1 e w') : PutB b g j v r w e w' := by
 obtain ⟨h1, h2, h3, h4⟩ := h
 exact ⟨h1, (r1.more (by simp)).trans h2, h3, fun t cs hc => h4 t cs (hc.wr r1 (by simpa using hg))⟩
set_option maxRecDepth 100000 in
set_option maxHeartbeats 4000000 in
theorem raw_r (b g j n : Nat) (r : Rd) (w : World) (hb : WlkR w b r) (hg : g ≠ b) (x : ByteArray) (hc : w.cell? ⟨g, j, none⟩ = some (.string x)) (hz : w.frozen? ⟨g, j, none⟩ = false) :
  Calls Tryz.prog 74 #[.pointer (some ⟨b, 0, none⟩), .pointer (some ⟨g, j, none⟩), .int .i64 (n : Int)] w (PutB b g j (.string ⟨(r.raw n).1.toArray⟩) (r.raw n).2 w) := by
 obtain ⟨l, bad⟩ := r
 obtain ⟨S, hS⟩ : ∃ S : ByteArray, ⟨l.toArray⟩ = S := ⟨_, rfl⟩
 have hsz : S.size = l.length := by rw [← hS]; show l.toArray.size = _; simp
 have hb' : Blk w b 87 #[.string S, .bool true, .bool bad] := by rw [← hS]; exact hb
 have c0 := hb'.cell 0
 have c1 := hb'.cell 1
 have c2 := hb'.cell 2
 simp only [qgaq, qgzq, qgsq] at c0 c1 c2
 have z0 := hb'.frozen 0
 have z2 := hb'.frozen 2
 by_cases hbad : bad = true ∨ l.length < n
 ·have hr : (Rd.mk l bad).raw n = ([], ⟨l, true⟩) := by unfold Rd.raw; rw [if_pos hbad]
  rw [hr]
  obtain ⟨w2, hw2⟩ : ∃ q, w.setCell ⟨b, 2, none⟩ (.bool true) = q := ⟨_, rfl⟩
  have b2 : WlkR w2 b ⟨l, true⟩ := by rw [← hw2]; have := hb'.set_ 2 (.bool true); rw [← hS] at this; exact this
  have r2 : Wr [b] w w2 := by rw [← hw2]; exact (Wr.refl _ _).setOn (by simp) _
  have k1 := r2.cellOf hc (by simpa using hg)
  have y1 := r2.frozenOf hc hz (by simpa using hg)
  have d2 := Blk.cell b2 2
  simp only [qgaq, qgzq, qgsq] at d2
  have hpost : PutB b g j (.string ⟨#[]⟩) ⟨l, true⟩ w (.returned (.tuple #[])) (w2.setCell ⟨g, j, none⟩ (.string ⟨#[]⟩)) := PutL.toB hg ⟨rfl, w2, r2, b2, rfl⟩
  have HP := Lib.hid hpost
  clear hb hb' hpost b2 r2 hr hS
  cases bad with
  | true =>
   go_enter Tryz.func74, Tryz.ntmps74
   go_wp2_with fail
   refine bodyPost_end (results_none Tryz.results74 _ _ _) rfl ?_
   exact HP.out
  | false =>
   have hlt : l.length < n := by simpa using hbad
   have e0 : (n : Int) > (S.size : Int) := by omega
   have e1 : (S.size : Int) < (n : Int) := by omega
   have e2 : decide (l.length < n) = true := decide_eq_true hlt
   go_enter Tryz.func74, Tryz.ntmps74
   go_wp2_with fail
   refine bodyPost_end (results_none Tryz.results74 _ _ _) rfl ?_
   exact HP.out
 ·have hbf : bad = false := by cases bad <;> simp_all
  subst hbf
  have hle : n ≤ l.length := by simp at hbad; omega
  have hr : (Rd.mk l false).raw n = (l.take n, ⟨l.drop n, false⟩) := by unfold Rd.raw; rw [if_neg hbad]
  rw [hr]
  obtain ⟨w2, hw2⟩ : ∃ q, w.setCell ⟨b, 2, none⟩ (.bool false) = q := ⟨_, rfl⟩
  have b2 : Blk w2 b 87 #[.string S, .bool true, .bool false] := by rw [← hw2]; exact hb'.set_ 2 (.bool false)
  have r2 : Wr [b] w w2 := by rw [← hw2]; exact (Wr.refl _ _).setOn (by simp) _
  have k1 := r2.cellOf hc (by simpa using hg)
  have y1 := r2.frozenOf hc hz (by simpa using hg)
  have x0 := b2.cell 0
  have d2 := b2.cell 2
  simp only [qgaq, qgzq, qgsq] at x0 d2
  have q0 := b2.frozen 0
  have e0 : ¬ (n : Int) > (S.size : Int) := by omega
  have e1 : ¬ (S.size : Int) < (n : Int) := by omega
  have e2 : decide (l.length < n) = false := decide_eq_false (by omega)
  have t1 : S.extract 0 n = ⟨(l.take n).toArray⟩ := by
   rw [← hS]
   apply ByteArray.ext
   rw [ByteArray.data_extract]
   simp
  have t2 : S.extract n l.length = ⟨(l.drop n).toArray⟩ := by
   rw [← hS]
   apply ByteArray.ext
   rw [ByteArray.data_extract]
   simp
   exact List.take_of_length_le (by simp)
  have HT1 := Lib.hid t1
  have HT2 := Lib.hid t2
  have R2 := Lib.hid r2
  have B2 := Lib.hid b2
  clear hb hb' hr hS t1 t2 r2 b2
  go_enter Tryz.func74, Tryz.ntmps74
  go_upto_region 5 with (fail)
  try rw [hw2]
  clear c0 c1 c2 z0 z2 hc hz hw2
  have hC : ∀ W, Wr [g] w2 W → W.cell? ⟨b, 0, none⟩ = some (.string S) := fun W hW => hW.cellOf x0 (by simpa using Ne.symm hg)
  have HC := Lib.hid hC
  clear hC
  refine wp_region_noPanic ?_
  refine wp_region_L (Until 18 fun w' => w'.cell? ⟨b, 0, none⟩ = some (.string S)) (by kernel_rfl) (fun hcl => ?_)
  have hS : Until 18 (fun w' => w'.cell? ⟨b, 0, none⟩ = some (.string S)) (Array.replicate 19 false) w2.drew := fun _ => x0
  refine wpAnyL_take (i := 0) (oi := ?oi1) (v := ?v1) ?hi1 (by kernel_rfl) (by kernel_rfl) (by kernel_rfl) (fun _ _ _ h => h) (until_take 18 _ (by decide)) ?hy1 hcl hS ?rest1
  case hi1 =>
   simp only [qgaq, qgsq, qgzq]
   rfl
  case hy1 =>
   refine yields_until (by kernel_rfl) (Or.inl ⟨by rfl, fun w' hS => ?_⟩)
   try go_split_ands
   go_simp
   try rfl
  intro hcl1 hS1
  clear hcl hS
  try simp only [Act.put, qsaq, qszq, qssq]
  refine wpAnyL_take (i := 1) (oi := ?oi2) (v := ?v2) ?hi2 (by kernel_rfl) (by kernel_rfl) (by kernel_rfl) (fun _ _ _ h => h) (until_take 18 _ (by decide)) ?hy2 hcl1 hS1 ?rest2
  case hi2 =>
   simp only [qgaq, qgsq, qgzq]
   rfl
  case hy2 =>
   refine yields_until (by kernel_rfl) (Or.inl ⟨by rfl, fun w' hS => ?_⟩)
   try go_split_ands
   go_simp
   try rfl
  intro hcl2 hS2
  clear hcl1 hS1
  try simp only [Act.put, qsaq, qszq, qssq]
  refine wpAnyL_take (i := 2) (oi := ?oi3) (v := ?v3) ?hi3 (by kernel_rfl) (by kernel_rfl) (by kernel_rfl) (fun _ _ _ h => h) (until_take 18 _ (by decide)) ?hy3 hcl2 hS2 ?rest3
  case hi3 =>
   simp only [qgaq, qgsq, qgzq]
   rfl
  case hy3 =>
   refine yields_until (by kernel_rfl) (Or.inl ⟨by rfl, fun w' hS => ?_⟩)
   try go_split_ands
   go_simp
   try rfl
  intro hcl3 hS3
  clear hcl2 hS2
  try simp only [Act.put, qsaq, qszq, qssq]
  refine wpAnyL_take (i := 3) (oi := ?oi4) (v := ?v4) ?hi4 (by kernel_rfl) (by kernel_rfl) (by kernel_rfl) (fun _ _ _ h => h) (until_take 18 _ (by decide)) ?hy4 hcl3 hS3 ?rest4
  case hi4 =>
   simp only [qgaq, qgsq, qgzq]
   rfl
  case hy4 =>
   refine yields_until (by kernel_rfl) (Or.inl ⟨by rfl, fun w' hS => ?_⟩)
   try go_split_ands
   go_simp
   try rfl
  intro hcl4 hS4
  clear hcl3 hS3
  try simp only [Act.put, qsaq, qszq, qssq]
  refine wpAnyL_take (i := 4) (oi := ?oi5) (v := ?v5) ?hi5 (by kernel_rfl) (by kernel_rfl) (by kernel_rfl) (fun _ _ _ h => h) (until_take 18 _ (by decide)) ?hy5 hcl4 hS4 ?rest5
  case hi5 =>
   simp only [qgaq, qgsq, qgzq]
   rfl
  case hy5 =>
   refine yields_until (by kernel_rfl) (Or.inl ⟨by rfl, fun w' hS => ?_⟩)
   try go_split_ands
   go_simp
   try rfl
  intro hcl5 hS5
  clear hcl4 hS4
  try simp only [Act.put, qsaq, qszq, qssq]
  refine wpAnyL_take (i := 5) (oi := ?oi6) (v := ?v6) ?hi6 (by kernel_rfl) (by kernel_rfl) (by kernel_rfl) (fun _ _ _ h => h) (until_take 18 _ (by decide)) ?hy6 hcl5 hS5 ?rest6
  case hi6 =>
   simp only [qgaq, qgsq, qgzq]
   rfl
  case hy6 =>
   refine yields_until (by kernel_rfl) (Or.inl ⟨by rfl, fun w' hS => ?_⟩)
   try go_split_ands
   go_simp
   try rfl
  intro hcl6 hS6
  clear hcl5 hS5
  try simp only [Act.put, qsaq, qszq, qssq]
  refine wpAnyL_take (i := 6) (oi := ?oi7) (v := ?v7) ?hi7 (by kernel_rfl) (by kernel_rfl) (by kernel_rfl) (fun _ _ _ h => h) (until_take 18 _ (by decide)) ?hy7 hcl6 hS6 ?rest7
  case hi7 =>
   simp only [qgaq, qgsq, qgzq]
   rfl
  case hy7 =>
   refine yields_until (by kernel_rfl) (Or.inl ⟨by rfl, fun w' hS => ?_⟩)
   try go_split_ands
   go_simp
   try rfl
  intro hcl7 hS7
  clear hcl6 hS6
  try simp only [Act.put, qsaq, qszq, qssq]
  refine wpAnyL_take (i := 7) (oi := ?oi8) (v := ?v8) ?hi8 (by kernel_rfl) (by kernel_rfl) (by kernel_rfl) (fun _ _ _ h => h) (until_take 18 _ (by decide)) ?hy8 hcl7 hS7 ?rest8
  case hi8 =>
   simp only [qgaq, qgsq, qgzq]
   rfl
  case hy8 =>
   refine yields_until (by kernel_rfl) (Or.inl ⟨by rfl, fun w' hS => ?_⟩)
   try go_split_ands
   go_simp
   try rfl
  intro hcl8 hS8
  clear hcl7 hS7
  try simp only [Act.put, qsaq, qszq, qssq]
  refine wpAnyL_take (i := 8) (oi := ?oi9) (v := ?v9) ?hi9 (by kernel_rfl) (by kernel_rfl) (by kernel_rfl) (fun _ _ _ h => h) (until_take 18 _ (by decide)) ?hy9 hcl8 hS8 ?rest9
  case hi9 =>
   simp only [qgaq, qgsq, qgzq]
   rfl
  case hy9 =>
   refine yields_until (by kernel_rfl) (Or.inl ⟨by rfl, fun w' hS => ?_⟩)
   try go_split_ands
   go_simp
   try rfl
  intro hcl9 hS9
  clear hcl8 hS8
  try simp only [Act.put, qsaq, qszq, qssq]
  refine wpAnyL_take (i := 9) (oi := ?oi10) (v := ?v10) ?hi10 (by kernel_rfl) (by kernel_rfl) (by kernel_rfl) (fun _ _ _ h => h) (until_take 18 _ (by decide)) ?hy10 hcl9 hS9 ?rest10
  case hi10 =>
   simp only [qgaq, qgsq, qgzq]
   rfl
  case hy10 =>
   refine yields_until (by kernel_rfl) (Or.inl ⟨by rfl, fun w' hS => ?_⟩)
   try go_split_ands
   go_simp
   try rfl
  intro hcl10 hS10
  clear hcl9 hS9
  try simp only [Act.put, qsaq, qszq, qssq]
  refine wpAnyL_take (i := 10) (oi := ?oi11) (v := ?v11) ?hi11 (by kernel_rfl) (by kernel_rfl) (by kernel_rfl) (fun _ _ _ h => h) (until_take 18 _ (by decide)) ?hy11 hcl10 hS10 ?rest11
  case hi11 =>
   simp only [qgaq, qgsq, qgzq]
   rfl
  case hy11 =>
   refine yields_until (by kernel_rfl) (Or.inl ⟨by rfl, fun w' hS => ?_⟩)
   try go_split_ands
   go_simp
   try rfl
  intro hcl11 hS11
  clear hcl10 hS10
  try simp only [Act.put, qsaq, qszq, qssq]
  refine wpAnyL_take (i := 11) (oi := ?oi12) (v := ?v12) ?hi12 (by kernel_rfl) (by kernel_rfl) (by kernel_rfl) (fun _ _ _ h => h) (until_take 18 _ (by decide)) ?hy12 hcl11 hS11 ?rest12
  case hi12 =>
   simp only [qgaq, qgsq, qgzq]
   rfl
  case hy12 =>
   refine yields_until (by kernel_rfl) (Or.inl ⟨by rfl, fun w' hS => ?_⟩)
   try go_split_ands
   go_simp
   try rfl
  intro hcl12 hS12
  clear hcl11 hS11
  try simp only [Act.put, qsaq, qszq, qssq]
  refine wpAnyL_take (i := 12) (oi := ?oi13) (v := ?v13) ?hi13 (by kernel_rfl) (by kernel_rfl) (by kernel_rfl) (fun _ _ _ h => h) (until_take 18 _ (by decide)) ?hy13 hcl12 hS12 ?rest13
  case hi13 =>
   simp only [qgaq, qgsq, qgzq]
   rfl
  case hy13 =>
   refine yields_until (by kernel_rfl) (Or.inl ⟨by rfl, fun w' hS => ?_⟩)
   try go_split_ands
   go_simp
   try rfl
  intro hcl13 hS13
  clear hcl12 hS12
  try simp only [Act.put, qsaq, qszq, qssq]
  refine wpAnyL_take (i := 13) (oi := ?oi14) (v := ?v14) ?hi14 (by kernel_rfl) (by kernel_rfl) (by kernel_rfl) (fun _ _ _ h => h) (until_take 18 _ (by decide)) ?hy14 hcl13 hS13 ?rest14
  case hi14 =>
   simp only [qgaq, qgsq, qgzq]
   rfl
  case hy14 =>
   refine yields_until (by kernel_rfl) (Or.inl ⟨by rfl, fun w' hS => ?_⟩)
   try go_split_ands
   go_simp
   try rfl
  intro hcl14 hS14
  clear hcl13 hS13
  try simp only [Act.put, qsaq, qszq, qssq]
  refine wpAnyL_take (i := 14) (oi := ?oi15) (v := ?v15) ?hi15 (by kernel_rfl) (by kernel_rfl) (by kernel_rfl) (fun _ _ _ h => h) (until_take 18 _ (by decide)) ?hy15 hcl14 hS14 ?rest15
  case hi15 =>
   simp only [qgaq, qgsq, qgzq]
   rfl
  case hy15 =>
   refine yields_until (by kernel_rfl) (Or.inl ⟨by rfl, fun w' hS => ?_⟩)
   try go_split_ands
   go_simp
   try rfl
  intro hcl15 hS15
  clear hcl14 hS14
  try simp only [Act.put, qsaq, qszq, qssq]
  refine wpAnyL_step (i := 15) (o := ?oi16) ?hi16 (by kernel_rfl) hcl15 ?rest16
  case hi16 =>
   simp only [qgaq, qgsq, qgzq]
   rfl
  intro K hK
  go_simp
  refine hK _ _ (fun _ => HC.out _ ((Wr.refl [g] w2).drew.setOn (by simp) _)) (fun hcl16 => ?_)
  clear hK K hcl15 hS15
  try simp only [Act.put, qsaq, qszq, qssq]
  refine wpAnyL_step (i := 16) (o := ?oi17) ?hi17 (by kernel_rfl) hcl16 ?rest17
  case hi17 =>
   simp only [qgaq, qgsq, qgzq]
   rfl
  intro K hK
  go_simp
  refine hK _ _ (fun _ => HC.out _ ((Wr.refl [g] w2).drew.setOn (by simp) _)) (fun hcl17 => ?_)
  clear hK K hcl16
  try simp only [Act.put, qsaq, qszq, qssq]
  refine wpAnyL_step (i := 17) (o := ?oi18) ?hi18 (by kernel_rfl) hcl17 ?rest18
  case hi18 =>
   simp only [qgaq, qgsq, qgzq]
   rfl
  intro K hK
  go_simp
  refine hK _ _ (fun _ => HC.out _ ((Wr.refl [g] w2).drew.setOn (by simp) _)) (fun hcl18 => ?_)
  clear hK K hcl17
  try simp only [Act.put, qsaq, qszq, qssq]
  refine wpAnyL_step (i := 18) (o := ?oi19) ?hi19 (by kernel_rfl) hcl18 ?rest19
  case hi19 =>
   simp only [qgaq, qgsq, qgzq]
   rfl
  intro K hK
  go_simp
  refine hK _ _ (fun hb => absurd hb (by decide)) (fun hcl999 => ?_)
  clear hK K hcl18
  refine wpAnyL_done (by kernel_rfl) (NoPanic.normal ?_) _
  try simp only [Act.put, qsaq, qszq, qssq]
  go_wp2_with fail
  refine bodyPost_end (results_none Tryz.results74 _ _ _) rfl ?_
  rw [HT1.out, HT2.out]
  have k1 : Wr [b, g] w w2 := R2.out.more (by simp)
  refine ⟨rfl, ((k1.setOn (by simp) _).setOn (by simp) _).drew, ?_, fun t cs hcs => ?_⟩
  ·exact Blk.drew (Blk.set_ (Blk.far B2.out (fun e => hg e.symm) _) 0 (.string ⟨(l.drop n).toArray⟩))
  ·exact Blk.drew (Blk.far ((hcs.wr R2.out (by simpa using hg)).set_ j _) hg _)
set_option maxHeartbeats 4000000 in
theorem text_r (b g j : Nat) (r : Rd) (w : World) (hb : WlkR w b r) (hg : g ≠ b) (x : ByteArray) (hc : w.cell? ⟨g, j, none⟩ = some (.string x)) (hz : w.frozen? ⟨g, j, none⟩ = false) :
  Calls Tryz.prog 48 #[.pointer (some ⟨b, 0, none⟩), .pointer (some ⟨g, j, none⟩)] w (PutB b g j (.string r.text.1) r.text.2 w) := by
 have h := fun m => bytes_r b 1 m r (by omega) w hb
 have hl := num_lt (k := 1) (by omega) r
 unfold Rd.text
 generalize r.num 1 = rr at *
 obtain ⟨v, r'⟩ := rr
 simp only at hl h ⊢
 have h2 := fun W (hr : Wr [b] w W) (hb' : WlkR W b r') => raw_r b g j v r' W hb' hg x (hr.cellOf hc (by simpa using hg)) (hr.frozenOf hc hz (by simpa using hg))
 generalize r'.raw v = rr2 at *
 obtain ⟨t, r''⟩ := rr2
 simp only at h2 ⊢
 have e1 : IntKind.i64.wrap (v : Int) = (v : Int) := by rw [IntKind.wrap_i64]; omega
 have e2 : wrap64 (v : Int) = (v : Int) := by unfold wrap64; omega
 have H := Lib.hid h
 have H2 := Lib.hid h2
 clear hb h h2 hz
 go_enter Tryz.func48, Tryz.ntmps48
 go_wp2_with fail
 refine (H.out _).mono ?_
 rintro e w1 ⟨rfl, r1, b1⟩
 have hcall := H2.out w1 r1 b1
 clear hc
 go_wp2_with fail
 refine hcall.mono ?_
 rintro e w2 hp
 have hp2 := PutB.from hg r1 hp
 obtain ⟨rfl, _⟩ := hp
 have HP := Lib.hid hp2
 clear hp2
 go_wp2_with fail
 refine bodyPost_end (results_none Tryz.results48 _ _ _) rfl ?_
 exact HP.out
end Go.Proofs.YtmpbkfbjmmoapaaGreat

/- iface's short of one text, once of nobody: walked. Conditions: the text is short. -/
namespace Go.Proofs.YtmpbkfbjmmoapaaGreat
open Go.RowKit
set_option linter.unusedVariables false
set_option linter.unusedSimpArgs false
end Go.Proofs.YtmpbkfbjmmoapaaGreat

/- iface's May, of an interface without lists: walked. Conditions: its name is short. -/
namespace Go.Proofs.YtmpbkfbjmmoapaaGreat
open Go.RowKit
set_option linter.unusedVariables false
set_option linter.unusedSimpArgs false
end Go.Proofs.YtmpbkfbjmmoapaaGreat

/- A region that draws its order, walked by what holds of what is listed: each operation once, in any state of the others. No conditions. -/
namespace Go.Proofs.YtmpbkfbjmmoapaaGreat
open Go
section
variable {P : Program} {ops : Array Oper} {Q : Exit → Act → World → Prop} {md : Region.Mode} {S : Array Bool → World → Prop}
def puts (ds : List (Nat × Nat)) (σ : Nat → Value) (a : Act) : Act := ds.foldl (fun a d => a.put (some d.2) (σ d.1)) a
def upd (σ : Nat → Value) (i : Nat) (v : Value) : Nat → Value := fun j => if j = i then v else σ j
theorem upd_same (σ : Nat → Value) (i : Nat) (v : Value) : upd σ i v i = v := if_pos rfl
theorem upd_ne (σ : Nat → Value) {i j : Nat} (v : Value) (h : j ≠ i) : upd σ i v j = σ j := if_neg h
theorem put_none (a : Act) (v : Value) : a.put none v = a := rfl
theorem put_comm (a : Act) {s t : Nat} (u v : Value) (h : s ≠ t) : (a.put (some s) u).put (some t) v = (a.put (some t) v).put (some s) u := by
 simp only [Act.put]
 rw [Array.setIfInBounds_comm _ _ h]
theorem put_again (a : Act) (s : Nat) (u v : Value) : (a.put (some s) u).put (some s) v = a.put (some s) v := by
 simp [Act.put]
theorem puts_far (σ : Nat → Value) {s : Nat} (v : Value) : ∀ (ds : List (Nat × Nat)) (a : Act), s ∉ ds.map (·.2) → (puts ds σ a).put (some s) v = puts ds σ (a.put (some s) v)
 | [], _, _ => rfl
 | (j, t) :: ds, a, h => by
  simp only [List.map_cons, List.mem_cons, not_or] at h
  have h1 := puts_far σ v ds (a.put (some t) (σ j)) h.2
  rw [put_comm a (σ j) v (fun e => h.1 e.symm)] at h1
  exact h1
theorem puts_upd (σ : Nat → Value) {i : Nat} (v : Value) : ∀ (ds : List (Nat × Nat)) (a : Act), i ∉ ds.map (·.1) → puts ds (upd σ i v) a = puts ds σ a
 | [], _, _ => rfl
 | (j, t) :: ds, a, h => by
  simp only [List.map_cons, List.mem_cons, not_or] at h
  have h1 := puts_upd σ v ds (a.put (some t) (upd σ i v j)) h.2
  rw [upd_ne σ v (fun e => h.1 e.symm)] at h1
  show puts ds (upd σ i v) (a.put (some t) (upd σ i v j)) = _
  rw [upd_ne σ v (fun e => h.1 e.symm)]
  exact h1
theorem puts_put (σ : Nat → Value) {i s : Nat} (v : Value) : ∀ (ds : List (Nat × Nat)) (a : Act), (ds.map (·.1)).Nodup → (ds.map (·.2)).Nodup → (i, s) ∈ ds → (puts ds σ a).put (some s) v = puts ds (upd σ i v) a
 | [], _, _, _, h => by cases h
 | (j, t) :: ds, a, n1, n2, h => by
  simp only [List.map_cons, List.nodup_cons] at n1 n2
  rcases List.mem_cons.1 h with h | h
  ·simp only [Prod.mk.injEq] at h
   obtain ⟨rfl, rfl⟩ := h
   show (puts ds σ (a.put (some s) (σ i))).put (some s) v = puts ds (upd σ i v) (a.put (some s) (upd σ i v i))
   rw [upd_same, puts_upd σ v ds _ n1.1, puts_far σ v ds _ n2.1, put_again]
  ·have hji : j ≠ i := fun e => n1.1 (by subst e; exact List.mem_map.2 ⟨(j, s), h, rfl⟩)
   show (puts ds σ (a.put (some t) (σ j))).put (some s) v = puts ds (upd σ i v) (a.put (some t) (upd σ i v j))
   rw [upd_ne σ v hji]
   exact puts_put σ v ds _ n1.2 n2.2 h
def fits (ops : Array Oper) (ds : List (Nat × Nat)) : Bool :=
 (List.range ops.size).all (fun i => match ops[i]? with | none => true | some o => match o.dst with | none => !(ds.map (·.1)).contains i | some s => ds.contains (i, s)) && decide (ds.map (·.1)).Nodup && decide (ds.map (·.2)).Nodup
theorem fits_put {ops : Array Oper} {ds : List (Nat × Nat)} (h : fits ops ds = true) (a0 : Act) (i : Nat) (hi : i < ops.size) (oi : Oper) (ho : ops[i]? = some oi) (σ : Nat → Value) (v : Value) :
  (puts ds σ a0).put oi.dst v = puts ds (upd σ i v) a0 := by
 unfold fits at h
 simp only [Bool.and_eq_true, decide_eq_true_eq] at h
 obtain ⟨⟨h1, h2⟩, h3⟩ := h
 have h4 := List.all_eq_true.1 h1 i (List.mem_range.2 hi)
 rw [ho] at h4
 cases hd : oi.dst with
 | none =>
  simp only [hd] at h4
  rw [put_none]
  exact (puts_upd σ v ds a0 (by simpa using h4)).symm
 | some s =>
  simp only [hd] at h4
  exact puts_put σ v ds a0 h2 h3 (by simpa using h4)
def waits (md : Region.Mode) (ops : Array Oper) (i : Nat) : List Nat := match ops[i]? with | none => [] | some o => (o.after.toList.filter (Region.binds md)).map (·.on)
def unl : Nat → Array Bool → Nat
 | 0, _ => 0
 | k + 1, l => unl k l + (if l.getD k true = true then 0 else 1)
theorem unl_far {l : Array Bool} {i : Nat} : ∀ k, k ≤ i → unl k (l.setIfInBounds i true) = unl k l
 | 0, _ => rfl
 | k + 1, h => by
  have : (l.setIfInBounds i true).getD k true = l.getD k true := getD_set_ne true (by omega)
  have h2 := unl_far (l := l) (i := i) k (by omega)
  simp only [unl, this, h2]
theorem unl_set {l : Array Bool} {i : Nat} (h : l.getD i true = false) : ∀ k, i < k → unl k (l.setIfInBounds i true) + 1 = unl k l
 | 0, hk => absurd hk (by omega)
 | k + 1, hk => by
  by_cases hik : i = k
  ·subst hik
   have hlt : i < l.size := by
    rcases Nat.lt_or_ge i l.size with h' | h'
    ·exact h'
    ·simp [h'] at h
   have h1 : (l.setIfInBounds i true).getD i true = true := by simp [hlt]
   simp only [unl, unl_far i (Nat.le_refl _), h, h1]
   simp
  ·have h1 : (l.setIfInBounds i true).getD k true = l.getD k true := getD_set_ne true hik
   have := unl_set h k (by omega)
   simp only [unl, h1]
   omega
theorem unl_zero {l : Array Bool} : ∀ k, unl k l = 0 → ∀ i, i < k → l.getD i true = true
 | 0, _, i, hi => absurd hi (by omega)
 | k + 1, h, i, hi => by
  simp only [unl] at h
  by_cases hik : i = k
  ·subst hik
   by_cases hl : l.getD i true = true
   ·exact hl
   ·simp [hl] at h
  ·exact unl_zero k (by omega) i (by omega)
theorem getD_both {l : Array Bool} {i : Nat} (hi : i < l.size) : l.getD i true = l.getD i false := by simp [hi]
def lst (l : Array Bool) (i : Nat) : Bool := l.getD i false
theorem lst_same {l : Array Bool} {i : Nat} (h : i < l.size) : lst (l.setIfInBounds i true) i = true := by simp [lst, h]
theorem lst_ne {l : Array Bool} {i j : Nat} (h : j ≠ i) : lst (l.setIfInBounds i true) j = lst l j := getD_set_ne false (fun e => h e.symm)
theorem lst_start (n i : Nat) : lst (Array.replicate n false) i = false := by
 unfold lst
 rcases Nat.lt_or_ge i n with h | h
 ·simp [h]
 ·simp [h]
def GridStep (P : Program) (md : Region.Mode) (ops : Array Oper) (Q : Exit → Act → World → Prop) (ds : List (Nat × Nat)) (a0 : Act) (I : (Nat → Value) → Array Bool → World → Prop) (i : Nat) : Prop :=
 ∀ oi, ops[i]? = some oi → ∀ σ l w, l.size = ops.size → lst l i = false → (∀ d ∈ waits md ops i, lst l d = true) → I σ l w →
  ∀ K : Act → World → Prop, (∀ v w', I (upd σ i v) (l.setIfInBounds i true) w' → K ((puts ds σ a0).put oi.dst v) w') →
   if Region.wanted oi (yielded ops (puts ds σ a0).tmps) = true then Oper.wp P oi (puts ds σ a0) w K Q else K ((puts ds σ a0).put oi.dst undef) w
theorem wpAnyL_grid (ds : List (Nat × Nat)) (core : List Nat) (I : (Nat → Value) → Array Bool → World → Prop) (a0 : Act)
  (hback : (List.range ops.size).all (fun i => (waits md ops i).all (fun d => decide (d < i))) = true)
  (hstep : ∀ i ∈ core, GridStep P md ops Q ds a0 I i)
  (hput : ∀ i ∈ core, ∀ oi, ops[i]? = some oi → ∀ σ v, (puts ds σ a0).put oi.dst v = puts ds (upd σ i v) a0)
  (hS : ∀ σ l w, I σ l w → S l w)
  (hend : ∀ σ l w, (∀ i, i < ops.size → lst l i = true) → I σ l w → Q .normal (puts ds σ a0) w) :
  ∀ (fuel : Nat) (l : Array Bool) (σ : Nat → Value) (w : World), l.size = ops.size → unl ops.size l ≤ fuel → (∀ j, j < ops.size → j ∉ core → l.getD j true = true) → I σ l w →
   wpAnyL P md ops Q S fuel l (puts ds σ a0) w := by
 -- nothing is ready: all is listed
 have all : ∀ l : Array Bool, Region.ready md ops l = [] → ∀ i, i < ops.size → l.getD i true = true := by
  intro l hr i
  induction i using Nat.strongRecOn with
  | _ i ih =>
   intro hi
   by_cases hl : l.getD i true = true
   ·exact hl
   ·exfalso
    have : i ∈ Region.ready md ops l := by
     rw [mem_ready]
     refine ⟨by simpa using hl, ops[i], by simp [hi], fun e he hb => ?_⟩
     have hd : e.on ∈ waits md ops i := by
      unfold waits
      simp only [hi, getElem?_pos]
      exact List.mem_map.2 ⟨e, List.mem_filter.2 ⟨by simpa using he, hb⟩, rfl⟩
     have hlt : e.on < i := by
      have := List.all_eq_true.1 (List.all_eq_true.1 hback i (by simp [hi])) _ hd
      simpa using this
     have h1 := ih e.on hlt (by omega)
     rcases Nat.lt_or_ge e.on l.size with h' | h'
     ·rw [getD_both h'] at h1; exact h1
     ·exfalso
      -- not within: then i is not within, either
      have : l.getD i true = true := by simp [show l.size ≤ i by omega]
      exact hl this
    rw [hr] at this
    cases this
 intro fuel
 induction fuel with
 | zero =>
  intro l σ w hsz hf hcov hI
  have ha : ∀ i, i < ops.size → l.getD i true = true := unl_zero _ (by omega)
  have hr : Region.ready md ops l = [] := by
   refine List.eq_nil_iff_forall_not_mem.2 fun i hi => ?_
   obtain ⟨h1, o, ho, _⟩ := mem_ready.1 hi
   have hlt : i < ops.size := by
    rcases Nat.lt_or_ge i ops.size with h' | h'
    ·exact h'
    ·simp [h'] at ho
   rw [ha i hlt] at h1
   cases h1
  exact ⟨hr, hend σ l w (fun i hi => by unfold lst; rw [← getD_both (by omega)]; exact ha i hi) hI⟩
 | succ fuel ih =>
  intro l σ w hsz hf hcov hI
  refine ⟨fun hr => hend σ l w (fun i hi => by unfold lst; rw [← getD_both (by omega)]; exact all l hr i hi) hI, fun i hi => ?_⟩
  obtain ⟨h1, o, ho, hdep⟩ := mem_ready.1 hi
  have hlt : i < ops.size := by
   rcases Nat.lt_or_ge i ops.size with h' | h'
   ·exact h'
   ·simp [h'] at ho
  have hcore : i ∈ core := by
   by_cases hc : i ∈ core
   ·exact hc
   ·rw [hcov i hlt hc] at h1
    cases h1
  have hl0 : l.getD i false = false := by rw [← getD_both (by omega)]; exact h1
  have hw : ∀ d ∈ waits md ops i, l.getD d false = true := by
   intro d hd
   unfold waits at hd
   rw [ho] at hd
   obtain ⟨e, he, rfl⟩ := List.mem_map.1 hd
   obtain ⟨he, hb⟩ := List.mem_filter.1 he
   exact hdep e (by simpa using he) hb
  have step := hstep i hcore o ho σ l w hsz hl0 hw hI (fun a' w' => S (l.setIfInBounds i true) w' ∧ wpAnyL P md ops Q S fuel (l.setIfInBounds i true) a' w') (fun v w' hI' => by
   refine ⟨hS _ _ _ hI', ?_⟩
   rw [hput i hcore o ho σ v]
   refine ih _ _ _ (by simp [hsz]) ?_ (fun j hj hjc => ?_) hI'
   ·have := unl_set h1 ops.size hlt
    omega
   ·have hji : i ≠ j := fun e => by subst e; exact hjc hcore
    rw [getD_set_ne true hji]
    exact hcov j hj hjc)
  unfold wpOp
  simp only [ho]
  by_cases hwn : Region.wanted o (yielded ops (puts ds σ a0).tmps) = true
  ·rw [if_pos hwn] at step ⊢
   exact .inl step
  ·rw [if_neg hwn] at step ⊢
   exact step
theorem unl_le (l : Array Bool) : ∀ k, unl k l ≤ k
 | 0 => Nat.le_refl _
 | k + 1 => by
  have := unl_le l k
  simp only [unl]
  split <;> omega
theorem wpAnyL_grid0 (ds : List (Nat × Nat)) (I : (Nat → Value) → Array Bool → World → Prop) {a0 : Act} {w : World}
  (hback : (List.range ops.size).all (fun i => (waits md ops i).all (fun d => decide (d < i))) = true)
  (hundef : puts ds (fun _ => undef) a0 = a0)
  (hstep : ∀ i, i < ops.size → GridStep P md ops Q ds a0 I i)
  (hput : fits ops ds = true)
  (hS : ∀ σ l w, I σ l w → S l w)
  (hend : ∀ σ l w, (∀ i, i < ops.size → lst l i = true) → I σ l w → Q .normal (puts ds σ a0) w)
  (h0 : I (fun _ => undef) (Array.replicate ops.size false) w) : wpAnyL P md ops Q S ops.size (Array.replicate ops.size false) a0 w := by
 have h := wpAnyL_grid (P := P) (md := md) (ops := ops) (Q := Q) (S := S) ds (List.range ops.size) I a0 hback (fun i hi => hstep i (List.mem_range.1 hi)) (fun i hi => fits_put hput a0 i (List.mem_range.1 hi)) hS hend
  ops.size (Array.replicate ops.size false) (fun _ => undef) w (by simp) (unl_le _ _) (fun j hj hc => absurd (List.mem_range.2 hj) hc) h0
 rwa [hundef] at h
end
end Go.Proofs.YtmpbkfbjmmoapaaGreat

/- iface's clone, of an interface without lists: walked. No conditions. -/
namespace Go.Proofs.YtmpbkfbjmmoapaaGreat
open Go.RowKit
set_option linter.unusedVariables false
set_option linter.unusedSimpArgs false
theorem wr4 (w : World) (g : Nat) (u0 u1 u2 u3 : Value) : Wr [g] w ((((w.setCell ⟨g, 0, none⟩ u0).setCell ⟨g, 1, none⟩ u1).setCell ⟨g, 2, none⟩ u2).setCell ⟨g, 3, none⟩ u3) :=
 ((((Wr.refl [g] w).setOn (by simp) u0).setOn (by simp) u1).setOn (by simp) u2).setOn (by simp) u3
theorem blk4 (w : World) (g : Nat) (T : TypeId) (x0 x1 x2 x3 u0 u1 u2 u3 : Value) (h : Blk w g T #[x0, x1, x2, x3]) : Blk ((((w.setCell ⟨g, 0, none⟩ u0).setCell ⟨g, 1, none⟩ u1).setCell ⟨g, 2, none⟩ u2).setCell ⟨g, 3, none⟩ u3) g T #[u0, u1, u2, u3] := by
 have := (((h.set_ 0 u0).set_ 1 u1).set_ 2 u2).set_ 3 u3
 simpa using this
def clV (g : Nat) : Nat → Value
 | 0 => .pointer (some ⟨g, 1, none⟩)
 | 3 => .pointer (some ⟨g, 2, none⟩)
 | 6 => .pointer (some ⟨g, 3, none⟩)
 | 9 => .pointer (some ⟨g, 1, none⟩)
 | 11 => .pointer (some ⟨g, 2, none⟩)
 | 13 => .pointer (some ⟨g, 3, none⟩)
 | 10 => undef
 | 12 => undef
 | 14 => undef
 | _ => .slice none 0 0
structure ClI (m : ByteArray) (wd : World) (g : Nat) (σ : Nat → Value) (l : Array Bool) (w' : World) : Prop where
 v : ∀ j, lst l j = true → σ j = clV g j
 b : Blk w' g 33 #[.string m, .slice none 0 0, .slice none 0 0, .slice none 0 0]
 acc : Wr [g] wd w'
theorem ClI.step {m : ByteArray} {wd : World} {g : Nat} {σ : Nat → Value} {l : Array Bool} {w1 w2 : World} (h : ClI m wd g σ l w1) (i : Nat) (hb : Blk w2 g 33 #[.string m, .slice none 0 0, .slice none 0 0, .slice none 0 0]) (r : Wr [g] w1 w2) : ClI m wd g (upd σ i (clV g i)) (l.setIfInBounds i true) w2 := by
 refine ⟨fun j hj => ?_, hb, h.acc.trans r⟩
 by_cases hji : j = i
 ·subst hji
  exact upd_same _ _ _
 ·rw [upd_ne σ _ hji]
  rw [lst_ne hji] at hj
  exact h.v j hj
end Go.Proofs.YtmpbkfbjmmoapaaGreat

/- iface's Canon, of an interface without items: walked. Conditions: what its May and its clone answer. -/
namespace Go.Proofs.YtmpbkfbjmmoapaaGreat
open Go.RowKit
set_option linter.unusedVariables false
set_option linter.unusedSimpArgs false
end Go.Proofs.YtmpbkfbjmmoapaaGreat
