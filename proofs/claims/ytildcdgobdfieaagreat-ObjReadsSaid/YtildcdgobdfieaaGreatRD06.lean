/- iface's walk, reading: numbers, bytes, truths: walked. Conditions: the walk reads. -/
import Derived.Test.YtildcdgobdfieaaGreatRD05
set_option linter.unusedVariables false
set_option linter.unusedSimpArgs false
set_option maxRecDepth 100000
set_option maxHeartbeats 32000000
namespace Go.Proofs.YtildcdgobdfieaaGreat
open Go.RowKit
def PutL (b : Nat) (p : Addr) (v : Value) (r : Rd) (w : World) (e : Ending) (w' : World) : Prop := e = .returned (.tuple #[]) ∧ ∃ w1, Wr [b] w w1 ∧ WlkR w1 b r ∧ w' = w1.setCell p v
theorem WlkR.lt {w : World} {b : Nat} {r : Rd} (h : WlkR w b r) : b < w.heap.size := Blk.lt h
theorem num_lt {k : Nat} (hk : k ≤ 8) (r : Rd) : (r.num k).1 < 256 ^ k := by
 unfold Rd.num Rd.raw
 split
 ·show 0 < _
  exact Nat.pow_pos (by decide)
 ·rename_i h
  have := (numL_valN k (r.s.take k) (by rw [List.length_take]; omega)).2
  exact this
theorem sign_eq (n : Nat) (h : n < 4294967296) : wrap64 (wrap32 (n : Int)) = signN n := by
 unfold wrap64 wrap32 signN
 split <;> omega
theorem sign_64 (n : Nat) (h : n < 4294967296) : wrap64 (signN n) = signN n := by
 unfold wrap64 signN
 split <;> omega
section
variable (b g j : Nat) (r : Rd) (w : World) (hb : WlkR w b r) (hg : g ≠ b)
include hb
theorem count_r (n : Int) :
  Calls Tryz.prog 141 #[.pointer (some ⟨b, 0, none⟩), .int .i64 n] w fun e w' => e = .returned (.int .i64 ((r.num 2).1 : Int)) ∧ Wr [b] w w' ∧ WlkR w' b (r.num 2).2 := by
 have h := fun m => bytes_r b 2 m r (by omega) w hb
 have hl := num_lt (k := 2) (by omega) r
 generalize r.num 2 = rr at *
 obtain ⟨v, r'⟩ := rr
 simp only at hl h ⊢
 have e1 : IntKind.i64.wrap (v : Int) = (v : Int) := by rw [IntKind.wrap_i64]; omega
 have e2 : wrap64 (v : Int) = (v : Int) := by unfold wrap64; omega
 have H := qh h
 clear hb h
 go_in
 go_wp2_with fail
 refine (H.out _).mono ?_
 rintro e w1 ⟨rfl, r1, b1⟩
 go_wp2_with fail
 go_ret
 exact ⟨rfl, r1, b1⟩
include hg
theorem number_r (x : Int) (hc : w.cell? ⟨g, j, none⟩ = some (.int .i64 x)) (hz : w.frozen? ⟨g, j, none⟩ = false) :
  Calls Tryz.prog 142 #[.pointer (some ⟨b, 0, none⟩), .pointer (some ⟨g, j, none⟩)] w (PutL b ⟨g, j, none⟩ (.int .i64 r.four.1) r.four.2 w) := by
 have h := fun m => bytes_r b 4 m r (by omega) w hb
 have hl := num_lt (k := 4) (by omega) r
 unfold Rd.four
 generalize r.num 4 = rr at *
 obtain ⟨v, r'⟩ := rr
 simp only at hl h ⊢
 have e1 := sign_eq v hl
 have H := qh h
 have HC := qh hc
 have HZ := qh hz
 clear hb h hz
 go_in
 go_wp2_with fail
 refine (H.out _).mono ?_
 rintro e w1 ⟨rfl, r1, b1⟩
 have c1 := r1.cellOf HC.out (by simpa using hg)
 have z1 := r1.frozenOf HC.out HZ.out (by simpa using hg)
 clear hc
 go_wp2_with fail
 refine bodyPost_end (results_none Tryz.results142 _ _ _) rfl ?_
 exact ⟨rfl, w1, r1, b1, rfl⟩
theorem place_r (x : Int) (hc : w.cell? ⟨g, j, none⟩ = some (.int .i64 x)) (hz : w.frozen? ⟨g, j, none⟩ = false) :
  Calls Tryz.prog 115 #[.pointer (some ⟨b, 0, none⟩), .pointer (some ⟨g, j, none⟩)] w (PutL b ⟨g, j, none⟩ (.int .i64 r.four.1) r.four.2 w) := by
 have hbl := hb.lt
 obtain ⟨w0, hw0⟩ : ∃ q, w.alloc (.cells #[.int .i64 x] 2) = q := ⟨_, rfl⟩
 obtain ⟨g0, hg0⟩ : ∃ q, w.heap.size = q := ⟨_, rfl⟩
 have r0 : Wr [] w w0 := by rw [← hw0]; exact (Wr.refl _ _).alloc _
 have b0 : Blk w0 g0 2 #[.int .i64 x] := by rw [← hw0, ← hg0]; exact Blk.new _ _ _
 have hgb : g0 ≠ b := by omega
 have h := number_r b g0 0 r w0 (Blk.wr0 hb r0) hgb x (b0.cell 0) (b0.frozen 0)
 have hl := num_lt (k := 4) (by omega) r
 unfold Rd.four at h ⊢
 generalize r.num 4 = rr at *
 obtain ⟨v, r'⟩ := rr
 simp only at hl h ⊢
 have e64 := sign_64 v hl
 generalize signN v = sv at *
 have hwg : w.heap.size ≤ g0 := by omega
 have hlt : g0 < w0.heap.size := b0.lt
 have H := qh h
 have HC := qh hc
 have HZ := qh hz
 have R0 := qh r0
 have HW0 := qh hw0
 have HG0 := qh hg0
 have B0 := qh b0
 clear hb h hz b0 r0 hw0 hg0
 go_in
 go_upto_region 1 with (fail)
 rw [HG0.out]
 rw [HW0.out]
 clear hc
 go_wp2_with fail
 refine H.out.mono ?_
 rintro e w1 ⟨rfl, w2, r2, b2, rfl⟩
 have q2 := (B0.out.wr r2 (by simpa using hgb)).set_ 0 (.int .i64 sv)
 have r3 : Wr [b] w (w2.setCell ⟨g0, 0, none⟩ (.int .i64 sv)) := (R0.out.nil.trans r2).setNew hwg _
 have b3 : WlkR (w2.setCell ⟨g0, 0, none⟩ (.int .i64 sv)) b r' := Blk.far b2 (fun e => hgb e.symm) _
 generalize w2.setCell ⟨g0, 0, none⟩ (.int .i64 sv) = w3 at *
 have c0 := q2.cell 0
 simp only [qsaq, qszq, qgaq, qgzq] at c0
 have c1 := r3.cellOf HC.out (by simpa using hg)
 have z1 := r3.frozenOf HC.out HZ.out (by simpa using hg)
 go_wp2_with fail
 refine bodyPost_end (results_none Tryz.results115 _ _ _) rfl ?_
 exact ⟨rfl, w3, r3, b3, rfl⟩
theorem byte_r (x : Int) (hc : w.cell? ⟨g, j, none⟩ = some (.int .u8 x)) (hz : w.frozen? ⟨g, j, none⟩ = false) :
  Calls Tryz.prog 114 #[.pointer (some ⟨b, 0, none⟩), .pointer (some ⟨g, j, none⟩)] w (PutL b ⟨g, j, none⟩ (.int .u8 r.one.1) r.one.2 w) := by
 have h := fun m => bytes_r b 1 m r (by omega) w hb
 have hl := num_lt (k := 1) (by omega) r
 unfold Rd.one
 generalize r.num 1 = rr at *
 obtain ⟨v, r'⟩ := rr
 simp only at hl h ⊢
 have e1 : IntKind.u8.wrap (v : Int) = (v : Int) := by rw [IntKind.wrap_u8]; omega
 have H := qh h
 have HC := qh hc
 have HZ := qh hz
 clear hb h hz
 go_in
 go_wp2_with fail
 refine (H.out _).mono ?_
 rintro e w1 ⟨rfl, r1, b1⟩
 have c1 := r1.cellOf HC.out (by simpa using hg)
 have z1 := r1.frozenOf HC.out HZ.out (by simpa using hg)
 clear hc
 go_wp2_with fail
 refine bodyPost_end (results_none Tryz.results114 _ _ _) rfl ?_
 exact ⟨rfl, w1, r1, b1, rfl⟩
end
theorem truth_r (b g j : Nat) (r : Rd) (w : World) (hb : WlkR w b r) (hg : g ≠ b) (x : Bool) (hc : w.cell? ⟨g, j, none⟩ = some (.bool x)) (hz : w.frozen? ⟨g, j, none⟩ = false) :
  Calls Tryz.prog 150 #[.pointer (some ⟨b, 0, none⟩), .pointer (some ⟨g, j, none⟩)] w (PutL b ⟨g, j, none⟩ (.bool r.truth.1) r.truth.2 w) := by
 have hbl := hb.lt
 obtain ⟨m, hm⟩ : ∃ m : Int, (if x then 1 else 0) = m := ⟨_, rfl⟩
 obtain ⟨w0, hw0⟩ : ∃ q, w.alloc (.cells #[.int .u8 m] 5) = q := ⟨_, rfl⟩
 obtain ⟨g0, hg0⟩ : ∃ q, w.heap.size = q := ⟨_, rfl⟩
 have r0 : Wr [b] w w0 := by rw [← hw0]; exact (Wr.refl _ _).alloc _
 have b0 : Blk w0 g0 5 #[.int .u8 m] := by rw [← hw0, ← hg0]; exact Blk.new _ _ _
 have hgb : g0 ≠ b := by omega
 have hb0 : WlkR w0 b r := by rw [← hw0]; exact Blk.wr0 hb ((Wr.refl _ _).alloc _)
 have h := byte_r b g0 0 r w0 hb0 hgb m (b0.cell 0) (b0.frozen 0)
 unfold Rd.one at h
 unfold Rd.truth
 generalize r.num 1 = rr at *
 obtain ⟨v, l, bad⟩ := rr
 simp only at h ⊢
 have hwg : w.heap.size ≤ g0 := by omega
 have hca := ((Wr.refl [] w).alloc (.cells #[.int .u8 0] 5)).cellOf hc (by simp)
 have hlt : g0 < w0.heap.size := b0.lt
 have H := qh h
 have HC := qh hc
 have HZ := qh hz
 have R0 := qh r0
 have HW0 := qh hw0
 have HG0 := qh hg0
 have B0 := qh b0
 clear hb h hz b0 r0 hw0 hg0 hb0
 generalize hone : decide (v = 1) = one0 at *
 generalize hbig : decide (1 < v) = big0 at *
 have HONE := qh hone
 have HBIG := qh hbig
 clear hone hbig
 cases x with
 | true =>
  simp only [if_true] at hm
  subst hm
  go_in
  go_upto_region 3 with (fail)
  rw [HG0.out, HW0.out]
  clear hc
  go_wp2_with fail
  refine H.out.mono ?_
  rintro e w1 ⟨rfl, w2, r2, b2, rfl⟩
  have q2 := (B0.out.wr r2 (by simpa using hgb)).set_ 0 (.int .u8 (v : Int))
  have r3 : Wr [b] w (w2.setCell ⟨g0, 0, none⟩ (.int .u8 (v : Int))) := (R0.out.trans r2).setNew hwg _
  have b3 : WlkR (w2.setCell ⟨g0, 0, none⟩ (.int .u8 (v : Int))) b ⟨l, bad⟩ := Blk.far b2 (fun e => hgb e.symm) _
  have bl3 : b < (w2.setCell ⟨g0, 0, none⟩ (.int .u8 (v : Int))).heap.size := b3.lt
  generalize w2.setCell ⟨g0, 0, none⟩ (.int .u8 (v : Int)) = w3 at *
  have c0 := q2.cell 0
  simp only [qsaq, qszq, qgaq, qgzq] at c0
  have c1 := r3.cellOf HC.out (by simpa using hg)
  have z1 := r3.frozenOf HC.out HZ.out (by simpa using hg)
  have d2 := b3.cell 2
  have f2 := b3.frozen 2
  simp only [qgaq, qgzq, qgsq] at d2
  obtain ⟨w4, hw4⟩ : ∃ q, w3.setCell ⟨b, 2, none⟩ (.bool (bad || big0)) = q := ⟨_, rfl⟩
  have b4 : WlkR w4 b ⟨l, bad || big0⟩ := by rw [← hw4]; exact Blk.set_ b3 2 _
  have r4 : Wr [b] w w4 := by rw [← hw4]; exact r3.setOn (by simp) _
  have r34 : Wr [b] w3 w4 := by rw [← hw4]; exact (Wr.refl _ _).setOn (by simp) _
  have k0 := r34.cellOf c0 (by simpa using hgb)
  have k1 := r4.cellOf HC.out (by simpa using hg)
  have y1 := r4.frozenOf HC.out HZ.out (by simpa using hg)
  have e1 : decide ((v : Int) > 1) = big0 := by rw [← HBIG.out]; exact decide_eq_decide.2 (by omega)
  have e2 : ((v : Int) == 1) = one0 := by rw [← HONE.out, Bool.eq_iff_iff]; simp only [beq_iff_eq, decide_eq_true_eq]; omega
  have e3 : decide (1 < (v : Int)) = big0 := by rw [← HBIG.out]; exact decide_eq_decide.2 (by omega)
  have HW4 := qh hw4
  clear hw4 b3 q2 r3 r34 r2 b2
  cases bad with
  | true =>
   simp only [Bool.true_or] at HW4 b4
   go_upto_region 5 with (fail)
   rw [HW4.out]
   clear c0 c1 z1 d2 f2
   go_wp2_with fail
   refine bodyPost_end (results_none Tryz.results150 _ _ _) rfl ?_
   exact ⟨rfl, w4, r4, b4, rfl⟩
  | false =>
   simp only [Bool.false_or] at HW4 b4
   go_upto_region 5 with (fail)
   rw [HW4.out]
   clear c0 c1 z1 d2 f2
   go_wp2_with fail
   refine bodyPost_end (results_none Tryz.results150 _ _ _) rfl ?_
   exact ⟨rfl, w4, r4, b4, rfl⟩
 | false =>
  simp only [Bool.false_eq_true, if_false] at hm
  subst hm
  go_in
  go_upto_region 3 with (fail)
  rw [HG0.out, HW0.out]
  clear hc
  go_wp2_with fail
  refine H.out.mono ?_
  rintro e w1 ⟨rfl, w2, r2, b2, rfl⟩
  have q2 := (B0.out.wr r2 (by simpa using hgb)).set_ 0 (.int .u8 (v : Int))
  have r3 : Wr [b] w (w2.setCell ⟨g0, 0, none⟩ (.int .u8 (v : Int))) := (R0.out.trans r2).setNew hwg _
  have b3 : WlkR (w2.setCell ⟨g0, 0, none⟩ (.int .u8 (v : Int))) b ⟨l, bad⟩ := Blk.far b2 (fun e => hgb e.symm) _
  have bl3 : b < (w2.setCell ⟨g0, 0, none⟩ (.int .u8 (v : Int))).heap.size := b3.lt
  generalize w2.setCell ⟨g0, 0, none⟩ (.int .u8 (v : Int)) = w3 at *
  have c0 := q2.cell 0
  simp only [qsaq, qszq, qgaq, qgzq] at c0
  have c1 := r3.cellOf HC.out (by simpa using hg)
  have z1 := r3.frozenOf HC.out HZ.out (by simpa using hg)
  have d2 := b3.cell 2
  have f2 := b3.frozen 2
  simp only [qgaq, qgzq, qgsq] at d2
  obtain ⟨w4, hw4⟩ : ∃ q, w3.setCell ⟨b, 2, none⟩ (.bool (bad || big0)) = q := ⟨_, rfl⟩
  have b4 : WlkR w4 b ⟨l, bad || big0⟩ := by rw [← hw4]; exact Blk.set_ b3 2 _
  have r4 : Wr [b] w w4 := by rw [← hw4]; exact r3.setOn (by simp) _
  have r34 : Wr [b] w3 w4 := by rw [← hw4]; exact (Wr.refl _ _).setOn (by simp) _
  have k0 := r34.cellOf c0 (by simpa using hgb)
  have k1 := r4.cellOf HC.out (by simpa using hg)
  have y1 := r4.frozenOf HC.out HZ.out (by simpa using hg)
  have e1 : decide ((v : Int) > 1) = big0 := by rw [← HBIG.out]; exact decide_eq_decide.2 (by omega)
  have e2 : ((v : Int) == 1) = one0 := by rw [← HONE.out, Bool.eq_iff_iff]; simp only [beq_iff_eq, decide_eq_true_eq]; omega
  have e3 : decide (1 < (v : Int)) = big0 := by rw [← HBIG.out]; exact decide_eq_decide.2 (by omega)
  have HW4 := qh hw4
  clear hw4 b3 q2 r3 r34 r2 b2
  cases bad with
  | true =>
   simp only [Bool.true_or] at HW4 b4
   go_upto_region 5 with (fail)
   rw [HW4.out]
   clear c0 c1 z1 d2 f2
   go_wp2_with fail
   refine bodyPost_end (results_none Tryz.results150 _ _ _) rfl ?_
   exact ⟨rfl, w4, r4, b4, rfl⟩
  | false =>
   simp only [Bool.false_or] at HW4 b4
   go_upto_region 5 with (fail)
   rw [HW4.out]
   clear c0 c1 z1 d2 f2
   go_wp2_with fail
   refine bodyPost_end (results_none Tryz.results150 _ _ _) rfl ?_
   exact ⟨rfl, w4, r4, b4, rfl⟩
def PutB (b g j : Nat) (v : Value) (r : Rd) (w : World) (e : Ending) (w' : World) : Prop := e = .returned (.tuple #[]) ∧ Wr [b, g] w w' ∧ WlkR w' b r ∧ ∀ t cs, Blk w g t cs → Blk w' g t (cs.setIfInBounds j v)
theorem PutL.toB {b g j : Nat} {v : Value} {r : Rd} {w w' : World} {e : Ending} (hg : g ≠ b) (h : PutL b ⟨g, j, none⟩ v r w e w') : PutB b g j v r w e w' := by
 obtain ⟨rfl, w1, r1, b1, rfl⟩ := h
 refine ⟨rfl, (r1.more (by simp)).setOn (by simp) _, Blk.far b1 (fun e => hg e.symm) _, fun t cs hc => ?_⟩
 exact (hc.wr r1 (by simpa using hg)).set_ j v
theorem PutB.from {b g j : Nat} {v : Value} {r : Rd} {w w1 w' : World} {e : Ending} (hg : g ≠ b) (r1 : Wr [b] w w1) (h : PutB b g j v r w1 e w') : PutB b g j v r w e w' := by
 obtain ⟨h1, h2, h3, h4⟩ := h
 exact ⟨h1, (r1.more (by simp)).trans h2, h3, fun t cs hc => h4 t cs (hc.wr r1 (by simpa using hg))⟩
theorem raw_r (b g j n : Nat) (r : Rd) (w : World) (hb : WlkR w b r) (hg : g ≠ b) (x : ByteArray) (hc : w.cell? ⟨g, j, none⟩ = some (.string x)) (hz : w.frozen? ⟨g, j, none⟩ = false) :
  Calls Tryz.prog 140 #[.pointer (some ⟨b, 0, none⟩), .pointer (some ⟨g, j, none⟩), .int .i64 (n : Int)] w (PutB b g j (.string ⟨(r.raw n).1.toArray⟩) (r.raw n).2 w) := by
 obtain ⟨l, bad⟩ := r
 obtain ⟨S, hS⟩ : ∃ S : ByteArray, ⟨l.toArray⟩ = S := ⟨_, rfl⟩
 have hsz : S.size = l.length := by rw [← hS]; show l.toArray.size = _; simp
 have hb' : Blk w b 160 #[.string S, .bool true, .bool bad] := by rw [← hS]; exact hb
 obtain ⟨c0, c1, c2⟩ := c3q hb'
 have z0 := hb'.frozen 0
 have z2 := hb'.frozen 2
 by_cases hbad : bad = true ∨ l.length < n
 ·have hr : (Rd.mk l bad).raw n = ([], ⟨l, true⟩) := by unfold Rd.raw; rw [if_pos hbad]
  rw [hr]
  obtain ⟨w2, hw2⟩ : ∃ q, w.setCell ⟨b, 2, none⟩ (.bool true) = q := ⟨_, rfl⟩
  have b2 : WlkR w2 b ⟨l, true⟩ := by rw [← hw2]; have := hb'.set_ 2 (.bool true); rw [← hS] at this; exact this
  have r2 : Wr [b] w w2 := by rw [← hw2]; exact (Wr.refl _ _).setOn (by simp) _
  have k1 := r2.cellOf hc (by simpa using hg)
  have y1 := r2.frozenOf hc hz (by simpa using hg)
  have d2 := b2.cell 2
  simp only [qgaq, qgzq, qgsq] at d2
  have hpost : PutB b g j (.string ⟨#[]⟩) ⟨l, true⟩ w (.returned (.tuple #[])) (w2.setCell ⟨g, j, none⟩ (.string ⟨#[]⟩)) := PutL.toB hg ⟨rfl, w2, r2, b2, rfl⟩
  have HP := qh hpost
  clear hb hb' hpost b2 r2 hr hS
  cases bad with
  | true =>
   go_in
   go_wp2_with fail
   refine bodyPost_end (results_none Tryz.results140 _ _ _) rfl ?_
   exact HP.out
  | false =>
   have hlt : l.length < n := by simpa using hbad
   have e0 : (n : Int) > (S.size : Int) := by omega
   have e1 : (S.size : Int) < (n : Int) := by omega
   have e2 : decide (l.length < n) = true := qdtq hlt
   go_in
   go_wp2_with fail
   refine bodyPost_end (results_none Tryz.results140 _ _ _) rfl ?_
   exact HP.out
 ·have hbf : bad = false := by cases bad <;> simp_all
  subst hbf
  have hle : n ≤ l.length := by simp at hbad; omega
  have hr : (Rd.mk l false).raw n = (l.take n, ⟨l.drop n, false⟩) := by unfold Rd.raw; rw [if_neg hbad]
  rw [hr]
  obtain ⟨w2, hw2⟩ : ∃ q, w.setCell ⟨b, 2, none⟩ (.bool false) = q := ⟨_, rfl⟩
  have b2 : Blk w2 b 160 #[.string S, .bool true, .bool false] := by rw [← hw2]; exact hb'.set_ 2 (.bool false)
  have r2 : Wr [b] w w2 := by rw [← hw2]; exact (Wr.refl _ _).setOn (by simp) _
  have k1 := r2.cellOf hc (by simpa using hg)
  have y1 := r2.frozenOf hc hz (by simpa using hg)
  have x0 := b2.cell 0
  have d2 := b2.cell 2
  simp only [qgaq, qgzq, qgsq] at x0 d2
  have q0 := b2.frozen 0
  have e0 : ¬ (n : Int) > (S.size : Int) := by omega
  have e1 : ¬ (S.size : Int) < (n : Int) := by omega
  have e2 : decide (l.length < n) = false := qdfq (by omega)
  have t1 : S.extract 0 n = ⟨(l.take n).toArray⟩ := by
   rw [← hS]
   apply ByteArray.ext
   rw [ByteArray.data_extract]
   simp
  have t2 : S.extract n l.length = ⟨(l.drop n).toArray⟩ := by
   rw [← hS]
   apply ByteArray.ext
   rw [ByteArray.data_extract]
   simp
   exact List.take_of_length_le (by simp)
  have HT1 := qh t1
  have HT2 := qh t2
  have R2 := qh r2
  have B2 := qh b2
  clear hb hb' hr hS t1 t2 r2 b2
  go_in
  go_upto_region 5 with (fail)
  try rw [hw2]
  clear c0 c1 c2 z0 z2 hc hz hw2
  refine begin1 18 [g] (fun w' => w'.cell? ⟨b, 0, none⟩ = some (.string S)) (by kernel_rfl) (fun W hW => hW.cellOf x0 (by simpa using Ne.symm hg)) fun HC hcl hS => ?_
  refine mvu 0 (by rfl) (by kernel_rfl) (by rfl) (fun w' hS => by (try go_split_ands); go_simp; try rfl) hcl hS fun hcl1 hS1 => ?_
  clear hcl hS
  try simp only [Act.put, qsaq, qszq, qssq]
  refine mvu 1 (by rfl) (by kernel_rfl) (by rfl) (fun w' hS => by (try go_split_ands); go_simp; try rfl) hcl1 hS1 fun hcl2 hS2 => ?_
  clear hcl1 hS1
  try simp only [Act.put, qsaq, qszq, qssq]
  refine mvu 2 (by rfl) (by kernel_rfl) (by rfl) (fun w' hS => by (try go_split_ands); go_simp; try rfl) hcl2 hS2 fun hcl3 hS3 => ?_
  clear hcl2 hS2
  try simp only [Act.put, qsaq, qszq, qssq]
  refine mvu 3 (by rfl) (by kernel_rfl) (by rfl) (fun w' hS => by (try go_split_ands); go_simp; try rfl) hcl3 hS3 fun hcl4 hS4 => ?_
  clear hcl3 hS3
  try simp only [Act.put, qsaq, qszq, qssq]
  refine mvu 4 (by rfl) (by kernel_rfl) (by rfl) (fun w' hS => by (try go_split_ands); go_simp; try rfl) hcl4 hS4 fun hcl5 hS5 => ?_
  clear hcl4 hS4
  try simp only [Act.put, qsaq, qszq, qssq]
  refine mvu 5 (by rfl) (by kernel_rfl) (by rfl) (fun w' hS => by (try go_split_ands); go_simp; try rfl) hcl5 hS5 fun hcl6 hS6 => ?_
  clear hcl5 hS5
  try simp only [Act.put, qsaq, qszq, qssq]
  refine mvu 6 (by rfl) (by kernel_rfl) (by rfl) (fun w' hS => by (try go_split_ands); go_simp; try rfl) hcl6 hS6 fun hcl7 hS7 => ?_
  clear hcl6 hS6
  try simp only [Act.put, qsaq, qszq, qssq]
  refine mvu 7 (by rfl) (by kernel_rfl) (by rfl) (fun w' hS => by (try go_split_ands); go_simp; try rfl) hcl7 hS7 fun hcl8 hS8 => ?_
  clear hcl7 hS7
  try simp only [Act.put, qsaq, qszq, qssq]
  refine mvu 8 (by rfl) (by kernel_rfl) (by rfl) (fun w' hS => by (try go_split_ands); go_simp; try rfl) hcl8 hS8 fun hcl9 hS9 => ?_
  clear hcl8 hS8
  try simp only [Act.put, qsaq, qszq, qssq]
  refine mvu 9 (by rfl) (by kernel_rfl) (by rfl) (fun w' hS => by (try go_split_ands); go_simp; try rfl) hcl9 hS9 fun hcl10 hS10 => ?_
  clear hcl9 hS9
  try simp only [Act.put, qsaq, qszq, qssq]
  refine mvu 10 (by rfl) (by kernel_rfl) (by rfl) (fun w' hS => by (try go_split_ands); go_simp; try rfl) hcl10 hS10 fun hcl11 hS11 => ?_
  clear hcl10 hS10
  try simp only [Act.put, qsaq, qszq, qssq]
  refine mvu 11 (by rfl) (by kernel_rfl) (by rfl) (fun w' hS => by (try go_split_ands); go_simp; try rfl) hcl11 hS11 fun hcl12 hS12 => ?_
  clear hcl11 hS11
  try simp only [Act.put, qsaq, qszq, qssq]
  refine mvu 12 (by rfl) (by kernel_rfl) (by rfl) (fun w' hS => by (try go_split_ands); go_simp; try rfl) hcl12 hS12 fun hcl13 hS13 => ?_
  clear hcl12 hS12
  try simp only [Act.put, qsaq, qszq, qssq]
  refine mvu 13 (by rfl) (by kernel_rfl) (by rfl) (fun w' hS => by (try go_split_ands); go_simp; try rfl) hcl13 hS13 fun hcl14 hS14 => ?_
  clear hcl13 hS13
  try simp only [Act.put, qsaq, qszq, qssq]
  refine mvu 14 (by rfl) (by kernel_rfl) (by rfl) (fun w' hS => by (try go_split_ands); go_simp; try rfl) hcl14 hS14 fun hcl15 hS15 => ?_
  clear hcl14 hS14
  try simp only [Act.put, qsaq, qszq, qssq]
  refine st0 15 (by rfl) (by kernel_rfl) hcl15 fun K hK => ?_
  go_simp
  refine hK _ _ (fun _ => HC.out _ ((Wr.refl [g] w2).drew.setOn (by simp) _)) (fun hcl16 => ?_)
  clear hK K hcl15 hS15
  try simp only [Act.put, qsaq, qszq, qssq]
  refine st0 16 (by rfl) (by kernel_rfl) hcl16 fun K hK => ?_
  go_simp
  refine hK _ _ (fun _ => HC.out _ ((Wr.refl [g] w2).drew.setOn (by simp) _)) (fun hcl17 => ?_)
  clear hK K hcl16
  try simp only [Act.put, qsaq, qszq, qssq]
  refine st0 17 (by rfl) (by kernel_rfl) hcl17 fun K hK => ?_
  go_simp
  refine hK _ _ (fun _ => HC.out _ ((Wr.refl [g] w2).drew.setOn (by simp) _)) (fun hcl18 => ?_)
  clear hK K hcl17
  try simp only [Act.put, qsaq, qszq, qssq]
  refine st0 18 (by rfl) (by kernel_rfl) hcl18 fun K hK => ?_
  go_simp
  refine hK _ _ (fun hb => absurd hb (by decide)) (fun hcl999 => ?_)
  clear hK K hcl18
  refine wpAnyL_done (by kernel_rfl) (NoPanic.normal ?_) _
  try simp only [Act.put, qsaq, qszq, qssq]
  go_wp2_with fail
  refine bodyPost_end (results_none Tryz.results140 _ _ _) rfl ?_
  rw [HT1.out, HT2.out]
  have k1 : Wr [b, g] w w2 := R2.out.more (by simp)
  refine ⟨rfl, ((k1.setOn (by simp) _).setOn (by simp) _).drew, ?_, fun t cs hcs => ?_⟩
  ·exact Blk.drew (Blk.set_ (Blk.far B2.out (fun e => hg e.symm) _) 0 (.string ⟨(l.drop n).toArray⟩))
  ·exact Blk.drew (Blk.far ((hcs.wr R2.out (by simpa using hg)).set_ j _) hg _)
theorem text_r (b g j : Nat) (r : Rd) (w : World) (hb : WlkR w b r) (hg : g ≠ b) (x : ByteArray) (hc : w.cell? ⟨g, j, none⟩ = some (.string x)) (hz : w.frozen? ⟨g, j, none⟩ = false) :
  Calls Tryz.prog 106 #[.pointer (some ⟨b, 0, none⟩), .pointer (some ⟨g, j, none⟩)] w (PutB b g j (.string r.text.1) r.text.2 w) := by
 have h := fun m => bytes_r b 1 m r (by omega) w hb
 have hl := num_lt (k := 1) (by omega) r
 unfold Rd.text
 generalize r.num 1 = rr at *
 obtain ⟨v, r'⟩ := rr
 simp only at hl h ⊢
 have h2 := fun W (hr : Wr [b] w W) (hb' : WlkR W b r') => raw_r b g j v r' W hb' hg x (hr.cellOf hc (by simpa using hg)) (hr.frozenOf hc hz (by simpa using hg))
 generalize r'.raw v = rr2 at *
 obtain ⟨t, r''⟩ := rr2
 simp only at h2 ⊢
 have e1 : IntKind.i64.wrap (v : Int) = (v : Int) := by rw [IntKind.wrap_i64]; omega
 have e2 : wrap64 (v : Int) = (v : Int) := by unfold wrap64; omega
 have H := qh h
 have H2 := qh h2
 clear hb h h2 hz
 go_in
 go_wp2_with fail
 refine (H.out _).mono ?_
 rintro e w1 ⟨rfl, r1, b1⟩
 have hcall := H2.out w1 r1 b1
 clear hc
 go_wp2_with fail
 refine hcall.mono ?_
 rintro e w2 hp
 have hp2 := PutB.from hg r1 hp
 obtain ⟨rfl, _⟩ := hp
 have HP := qh hp2
 clear hp2
 go_wp2_with fail
 refine bodyPost_end (results_none Tryz.results106 _ _ _) rfl ?_
 exact HP.out
theorem short1_any (s : ByteArray) (hs : s.size ≤ 255) (w : World) : Calls Tryz.prog 171 #[.string s] w fun e w' => e = .returned (.bool false) ∧ w = w' := by
 have h : decide ((s.size : Int) > 255) = false := by simp; omega
 go_in
 go_wp2_with fail
 go_ret
 exact ⟨rfl, rfl⟩
theorem index_one (g : Nat) (s : ByteArray) (hs : s.size ≤ 255) (w : World) (hc : w.cell? ⟨g, 0, none⟩ = some (.string s)) :
  Calls Tryz.prog 178 #[.slice (some ⟨g, 0, none⟩) 1 1, .func (.func 171) #[] #[]] w fun e w' => e = .returned (.int .i64 (-1)) ∧ w = w' := by
 have hf := fun w => short1_any s hs w
 have hen : ∀ args w, (callFunc 171 args).run Tryz.prog w = .ok (.enter 171 args) w := fun args w => rfl
 go_in
 go_wp2_with fail
 refine wp_loop_rounds 2 ?_
 rw [rounds_succ]
 go_wp2_with fail
 refine (hf _).mono ?_
 rintro e w1 ⟨rfl, rfl⟩
 go_wp2_with fail
 rw [rounds_succ]
 go_wp2_with fail
 go_ret
 exact ⟨rfl, rfl⟩
theorem contains_one (g : Nat) (s : ByteArray) (hs : s.size ≤ 255) (w : World) (hc : w.cell? ⟨g, 0, none⟩ = some (.string s)) :
  Calls Tryz.prog 170 #[.slice (some ⟨g, 0, none⟩) 1 1, .func (.func 171) #[] #[]] w fun e w' => e = .returned (.bool false) ∧ w = w' := by
 have hf := index_one g s hs w hc
 go_in
 go_wp2_with fail
 refine hf.mono ?_
 rintro e w1 ⟨rfl, rfl⟩
 go_wp2_with fail
 go_ret
 exact ⟨rfl, rfl⟩
theorem short_one (g : Nat) (s : ByteArray) (hs : s.size ≤ 255) (w : World) (hc : w.cell? ⟨g, 0, none⟩ = some (.string s)) :
  Calls Tryz.prog 152 #[.slice (some ⟨g, 0, none⟩) 1 1] w fun e w' => e = .returned (.bool true) ∧ w = w' := by
 have hf := contains_one g s hs w hc
 go_in
 go_wp2_with fail
 refine hf.mono ?_
 rintro e w1 ⟨rfl, rfl⟩
 go_wp2_with fail
 go_ret
 exact ⟨rfl, rfl⟩
theorem onceU_nil (w : World) : Calls Tryz.prog 118 #[.slice none 0 0, .func (.func 119) #[] #[]] w fun e w' => e = .returned (.bool true) ∧ Wr [] w w' := by
 have hmm := @run_makeMap Tryz.prog
 go_in
 go_wp2_with fail
 refine wp_loop_rounds 1 ?_
 rw [rounds_succ]
 go_wp2_with fail
 go_ret
 exact ⟨rfl, (Wr.refl [] w).alloc _⟩
theorem onceE_nil (w : World) : Calls Tryz.prog 120 #[.slice none 0 0, .func (.func 121) #[] #[]] w fun e w' => e = .returned (.bool true) ∧ Wr [] w w' := by
 have hmm := @run_makeMap Tryz.prog
 go_in
 go_wp2_with fail
 refine wp_loop_rounds 1 ?_
 rw [rounds_succ]
 go_wp2_with fail
 go_ret
 exact ⟨rfl, (Wr.refl [] w).alloc _⟩
theorem fitting_bare (m : ByteArray) (hm : m.size ≤ 255) (w : World) : Calls Tryz.prog 117 #[.agg #[.string m, .slice none 0 0, .slice none 0 0, .slice none 0 0]] w fun e w' => e = .returned (.bool true) ∧ Wr [] w w' := by
 have hf := fun g w hc => short_one g m hm w hc
 go_in
 go_wp2_with fail
 refine (hf _ _ (by simp [World.cell?_alloc_mark])).mono ?_
 rintro e w1 ⟨rfl, rfl⟩
 go_wp2_with fail
 refine wp_loop_rounds 1 ?_
 rw [rounds_succ]
 go_wp2_with fail
 refine wp_loop_rounds 1 ?_
 rw [rounds_succ]
 go_wp2_with fail
 refine wp_loop_rounds 1 ?_
 rw [rounds_succ]
 go_wp2_with fail
 go_ret
 exact ⟨rfl, ((Wr.refl [] w).alloc _).alloc _⟩
theorem formed_bare (m : ByteArray) (w : World) : Calls Tryz.prog 122 #[.agg #[.string m, .slice none 0 0, .slice none 0 0, .slice none 0 0]] w fun e w' => e = .returned (.bool true) ∧ Wr [] w w' := by
 have hmf : ∀ (fn : Fn) (first cap : Array Value) (w : World), (Instr.makeFunc fn first cap).run Tryz.prog w = .ok (.func fn first cap) w := fun _ _ _ _ => rfl
 go_in
 go_wp2_with fail
 refine wp_loop_rounds 1 ?_
 rw [rounds_succ]
 go_wp2_with fail
 refine wp_loop_rounds 1 ?_
 rw [rounds_succ]
 go_wp2_with fail
 go_ret
 exact ⟨rfl, (Wr.refl [] w).alloc _⟩
theorem may_bare (m : ByteArray) (hm : m.size ≤ 255) (w : World) : Calls Tryz.prog 90 #[.agg #[.string m, .slice none 0 0, .slice none 0 0, .slice none 0 0]] w fun e w' => e = .returned (.int .i64 0) ∧ Wr [] w w' := by
 have h1 := fun w => fitting_bare m hm w
 have h2 := fun w => onceU_nil w
 have h3 := fun w => onceE_nil w
 have h4 := fun w => formed_bare m w
 have bb := Blk.new w 55 #[.string m, .slice none 0 0, .slice none 0 0, .slice none 0 0]
 have r0 := (Wr.refl [] w).alloc (.cells #[.string m, .slice none 0 0, .slice none 0 0, .slice none 0 0] 55)
 go_in
 go_wp2_with fail
 refine (h1 _).mono ?_
 rintro e w1 ⟨rfl, k1⟩
 replace bb := bb.wr0 k1
 replace r0 := r0.trans k1
 obtain ⟨c0, c1, c2, c3⟩ := c4q bb
 go_wp2_with fail
 refine (h2 _).mono ?_
 rintro e w2 ⟨rfl, k2⟩
 replace bb := bb.wr0 k2
 replace r0 := r0.trans k2
 clear c0 c1 c2 c3
 obtain ⟨c0, c1, c2, c3⟩ := c4q bb
 go_wp2_with fail
 refine (h3 _).mono ?_
 rintro e w3 ⟨rfl, k3⟩
 replace bb := bb.wr0 k3
 replace r0 := r0.trans k3
 clear c0 c1 c2 c3
 obtain ⟨c0, c1, c2, c3⟩ := c4q bb
 go_wp2_with fail
 refine (h4 _).mono ?_
 rintro e w4 ⟨rfl, k4⟩
 go_wp2_with fail
 go_ret
 exact ⟨rfl, r0.trans k4⟩
end Go.Proofs.YtildcdgobdfieaaGreat
