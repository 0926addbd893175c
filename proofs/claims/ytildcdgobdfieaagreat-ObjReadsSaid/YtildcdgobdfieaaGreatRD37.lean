/- iface's walk, reading: values: walked. Conditions: the walk reads, no value is there yet. -/
import Derived.Test.YtildcdgobdfieaaGreatRD36
set_option linter.unusedVariables false
set_option linter.unusedSimpArgs false
set_option maxRecDepth 100000
set_option maxHeartbeats 32000000
namespace Go.Proofs.YtildcdgobdfieaaGreat
open Go.RowKit
theorem PutB.self {b g j : Nat} {v : Value} {r : Rd} {w w' : World} (hg : g ≠ b) (r1 : Wr [b] w w') (hb : WlkR w' b r) (hc : w.cell? ⟨g, j, none⟩ = some v) : PutB b g j v r w (.returned (.tuple #[])) w' := by
 refine ⟨rfl, r1.more (by simp), hb, fun t cs h => ?_⟩
 have h2 := h.wr r1 (by simpa using hg)
 have e : cs[j]? = some v := (h.cell j).symm.trans hc
 have : cs.setIfInBounds j v = cs := by
  have hj := (Array.getElem?_eq_some_iff.1 e).1
  apply Array.ext_getElem?
  intro i
  rw [Array.getElem?_setIfInBounds]
  split
  ·rename_i h
   subst h
   first | (rw [if_pos hj, e]; done) | (rw [e])
  ·rfl
 rw [this]
 exact h2
theorem var_nil (b g j : Nat) (r r' : Rd) (w : World) (hb : WlkR w b r) (hg : g ≠ b) (hc : w.cell? ⟨g, j, none⟩ = some .nilIface) (hz : w.frozen? ⟨g, j, none⟩ = false) (hn : r.num 1 = (0, r')) :
  Calls Tryz.prog 116 #[.pointer (some ⟨b, 0, none⟩), .pointer (some ⟨g, j, none⟩)] w (PutB b g j .nilIface r' w) := by
 have hs : Calls Tryz.prog 151 #[.nilIface] w fun e w' => e = .returned (.tuple #[.int .u8 0, .bool true]) ∧ Wr [] w w' := sort_any (.nil) w
 have hbl := Blk.lt hb
 have hb1 := fun W q (hb : WlkR W b r) (hq : q ≠ b) hc hz => byte_r b q 0 r W hb hq 0 hc hz
 unfold Rd.one at hb1
 rw [hn] at hb1
 have HB1 := qh (show ∀ W q (hb : WlkR W b r) (hq : q ≠ b) (hc : W.cell? ⟨q, 0, none⟩ = some (.int .u8 0)) (hz : W.frozen? ⟨q, 0, none⟩ = false), Calls Tryz.prog 114 #[.pointer (some ⟨b, 0, none⟩), .pointer (some ⟨q, 0, none⟩)] W (PutL b ⟨q, 0, none⟩ (.int .u8 0) r' W) from hb1)
 clear hb1
 have HS := qh hs
 have HC := qh hc
 have HZ := qh hz
 have HB := qh hb
 clear hs hz hn hb
 go_in
 go_wp2_with fail
 refine HS.out.mono ?_
 rintro e w1 ⟨rfl, r1⟩
 have b1 := Blk.wr0 HB.out r1
 have R1 := qh (r1.nil (l := [b]))
 have n1 := Blk.new w1 5 #[.int .u8 0]
 have hq1 : w1.heap.size ≠ b := by have := r1.size; omega
 have h1 := HB1.out (w1.alloc (.cells #[.int .u8 0] 5)) w1.heap.size (Blk.wr0 b1 ((Wr.refl _ _).alloc _)) hq1 (n1.cell 0) (n1.frozen 0)
 have R2 := qh (R1.out.alloc (.cells #[.int .u8 0] 5))
 have hnew := r1.size
 have N1 := qh n1
 have HH1 := qh h1
 clear h1 b1 r1 n1 hc
 go_wp2_with fail
 refine HH1.out.mono ?_
 rintro e w2' ⟨rfl, w2, r2, b2, rfl⟩
 have q0 := (N1.out.wr r2 (by simpa using hq1)).set_ 0 (.int .u8 0)
 have R3 := qh ((R2.out.trans r2).setNew hnew (.int .u8 0) (o := 0))
 have b3 : WlkR (w2.setCell ⟨w1.heap.size, 0, none⟩ (.int .u8 0)) b r' := Blk.far b2 (fun e => hq1 e.symm) _
 generalize w2.setCell ⟨w1.heap.size, 0, none⟩ (.int .u8 0) = w3 at *
 replace q0 := q0.cell 0
 simp only [qsaq, qszq, qgaq, qgzq] at q0
 have c0 := R3.out.cellOf HC.out (by simpa using hg)
 have f0 := R3.out.frozenOf HC.out HZ.out (by simpa using hg)
 have B3 := qh b3
 have hbl3 := Blk.lt b3
 clear r2 b2 b3
 have E0 := qh (setCell_self c0)
 go_wp2_with fail
 refine bodyPost_end (results_none Tryz.results116 _ _ _) rfl ?_
 rw [E0.out]
 exact PutB.self hg R3.out B3.out HC.out
theorem var_null (b g j : Nat) (r r' : Rd) (w : World) (hb : WlkR w b r) (hg : g ≠ b) (hc : w.cell? ⟨g, j, none⟩ = some .nilIface) (hz : w.frozen? ⟨g, j, none⟩ = false) (hn : r.num 1 = (7, r')) :
  Calls Tryz.prog 116 #[.pointer (some ⟨b, 0, none⟩), .pointer (some ⟨g, j, none⟩)] w (PutB b g j (AnyD.null).val r' w) := by
 have hs : Calls Tryz.prog 151 #[.nilIface] w fun e w' => e = .returned (.tuple #[.int .u8 0, .bool true]) ∧ Wr [] w w' := sort_any (.nil) w
 have hbl := Blk.lt hb
 have hb1 := fun W q (hb : WlkR W b r) (hq : q ≠ b) hc hz => byte_r b q 0 r W hb hq 0 hc hz
 unfold Rd.one at hb1
 rw [hn] at hb1
 have HB1 := qh (show ∀ W q (hb : WlkR W b r) (hq : q ≠ b) (hc : W.cell? ⟨q, 0, none⟩ = some (.int .u8 0)) (hz : W.frozen? ⟨q, 0, none⟩ = false), Calls Tryz.prog 114 #[.pointer (some ⟨b, 0, none⟩), .pointer (some ⟨q, 0, none⟩)] W (PutL b ⟨q, 0, none⟩ (.int .u8 7) r' W) from hb1)
 clear hb1
 have HS := qh hs
 have HC := qh hc
 have HZ := qh hz
 have HB := qh hb
 clear hs hz hn hb
 go_in
 go_wp2_with fail
 refine HS.out.mono ?_
 rintro e w1 ⟨rfl, r1⟩
 have b1 := Blk.wr0 HB.out r1
 have R1 := qh (r1.nil (l := [b]))
 have n1 := Blk.new w1 5 #[.int .u8 0]
 have hq1 : w1.heap.size ≠ b := by have := r1.size; omega
 have h1 := HB1.out (w1.alloc (.cells #[.int .u8 0] 5)) w1.heap.size (Blk.wr0 b1 ((Wr.refl _ _).alloc _)) hq1 (n1.cell 0) (n1.frozen 0)
 have R2 := qh (R1.out.alloc (.cells #[.int .u8 0] 5))
 have hnew := r1.size
 have N1 := qh n1
 have HH1 := qh h1
 clear h1 b1 r1 n1 hc
 go_wp2_with fail
 refine HH1.out.mono ?_
 rintro e w2' ⟨rfl, w2, r2, b2, rfl⟩
 have q0 := (N1.out.wr r2 (by simpa using hq1)).set_ 0 (.int .u8 7)
 have R3 := qh ((R2.out.trans r2).setNew hnew (.int .u8 7) (o := 0))
 have b3 : WlkR (w2.setCell ⟨w1.heap.size, 0, none⟩ (.int .u8 7)) b r' := Blk.far b2 (fun e => hq1 e.symm) _
 generalize w2.setCell ⟨w1.heap.size, 0, none⟩ (.int .u8 7) = w3 at *
 replace q0 := q0.cell 0
 simp only [qsaq, qszq, qgaq, qgzq] at q0
 have c0 := R3.out.cellOf HC.out (by simpa using hg)
 have f0 := R3.out.frozenOf HC.out HZ.out (by simpa using hg)
 have B3 := qh b3
 have hbl3 := Blk.lt b3
 clear r2 b2 b3
 go_wp2_with fail
 refine bodyPost_end (results_none Tryz.results116 _ _ _) rfl ?_
 exact PutL.toB hg ⟨rfl, w3, R3.out, B3.out, rfl⟩
theorem var_whole (b g j : Nat) (r r' : Rd) (w : World) (hb : WlkR w b r) (hg : g ≠ b) (hc : w.cell? ⟨g, j, none⟩ = some .nilIface) (hz : w.frozen? ⟨g, j, none⟩ = false) (hn : r.num 1 = (1, r')) :
  Calls Tryz.prog 116 #[.pointer (some ⟨b, 0, none⟩), .pointer (some ⟨g, j, none⟩)] w (PutB b g j (AnyD.whole r'.four.1).val r'.four.2 w) := by
 have hs : Calls Tryz.prog 151 #[.nilIface] w fun e w' => e = .returned (.tuple #[.int .u8 0, .bool true]) ∧ Wr [] w w' := sort_any (.nil) w
 have hbl := Blk.lt hb
 have hb1 := fun W q (hb : WlkR W b r) (hq : q ≠ b) hc hz => byte_r b q 0 r W hb hq 0 hc hz
 unfold Rd.one at hb1
 rw [hn] at hb1
 have HB1 := qh (show ∀ W q (hb : WlkR W b r) (hq : q ≠ b) (hc : W.cell? ⟨q, 0, none⟩ = some (.int .u8 0)) (hz : W.frozen? ⟨q, 0, none⟩ = false), Calls Tryz.prog 114 #[.pointer (some ⟨b, 0, none⟩), .pointer (some ⟨q, 0, none⟩)] W (PutL b ⟨q, 0, none⟩ (.int .u8 1) r' W) from hb1)
 clear hb1
 have HS := qh hs
 have HC := qh hc
 have HZ := qh hz
 have HB := qh hb
 clear hs hz hn hb
 go_in
 go_wp2_with fail
 refine HS.out.mono ?_
 rintro e w1 ⟨rfl, r1⟩
 have b1 := Blk.wr0 HB.out r1
 have R1 := qh (r1.nil (l := [b]))
 have n1 := Blk.new w1 5 #[.int .u8 0]
 have hq1 : w1.heap.size ≠ b := by have := r1.size; omega
 have h1 := HB1.out (w1.alloc (.cells #[.int .u8 0] 5)) w1.heap.size (Blk.wr0 b1 ((Wr.refl _ _).alloc _)) hq1 (n1.cell 0) (n1.frozen 0)
 have R2 := qh (R1.out.alloc (.cells #[.int .u8 0] 5))
 have hnew := r1.size
 have N1 := qh n1
 have HH1 := qh h1
 clear h1 b1 r1 n1 hc
 go_wp2_with fail
 refine HH1.out.mono ?_
 rintro e w2' ⟨rfl, w2, r2, b2, rfl⟩
 have q0 := (N1.out.wr r2 (by simpa using hq1)).set_ 0 (.int .u8 1)
 have R3 := qh ((R2.out.trans r2).setNew hnew (.int .u8 1) (o := 0))
 have b3 : WlkR (w2.setCell ⟨w1.heap.size, 0, none⟩ (.int .u8 1)) b r' := Blk.far b2 (fun e => hq1 e.symm) _
 generalize w2.setCell ⟨w1.heap.size, 0, none⟩ (.int .u8 1) = w3 at *
 replace q0 := q0.cell 0
 simp only [qsaq, qszq, qgaq, qgzq] at q0
 have c0 := R3.out.cellOf HC.out (by simpa using hg)
 have f0 := R3.out.frozenOf HC.out HZ.out (by simpa using hg)
 have B3 := qh b3
 have hbl3 := Blk.lt b3
 clear r2 b2 b3
 have hA := fun w => anyAs_whole .nil w
 simp only [AnyD.val, AnyD.wholeV, AnyD.sort] at hA
 have n2 := Blk.new w3 2 #[.int .i64 0]
 have hq2 : w3.heap.size ≠ b := by omega
 have b4 := Blk.wr0 B3.out ((Wr.refl [] w3).alloc (.cells #[.int .i64 0] 2))
 have h2 := number_r b w3.heap.size 0 r' (w3.alloc (.cells #[.int .i64 0] 2)) b4 hq2 0 (n2.cell 0) (n2.frozen 0)
 have R4 := qh (R3.out.alloc (.cells #[.int .i64 0] 2))
 have hnew3 := R3.out.size
 have H2 := qh h2
 have N2 := qh n2
 clear h2 n2 b4
 go_wp2_with fail
 refine H2.out.mono ?_
 rintro e w4' ⟨rfl, w4, r4, b4, rfl⟩
 have q2 := (N2.out.wr r4 (by simpa using hq2)).set_ 0 (.int .i64 r'.four.1)
 have R5 := qh ((R4.out.trans r4).setNew hnew3 (.int .i64 r'.four.1) (o := 0))
 have b5 : WlkR (w4.setCell ⟨w3.heap.size, 0, none⟩ (.int .i64 r'.four.1)) b r'.four.2 := Blk.far b4 (fun e => hq2 e.symm) _
 generalize w4.setCell ⟨w3.heap.size, 0, none⟩ (.int .i64 r'.four.1) = w5 at *
 replace q2 := q2.cell 0
 simp only [qsaq, qszq, qgaq, qgzq] at q2
 clear c0 f0
 have c0 := R5.out.cellOf HC.out (by simpa using hg)
 have f0 := R5.out.frozenOf HC.out HZ.out (by simpa using hg)
 clear r4 b4
 go_wp2_with fail
 refine bodyPost_end (results_none Tryz.results116 _ _ _) rfl ?_
 exact PutL.toB hg ⟨rfl, w5, R5.out, b5, rfl⟩
theorem var_letter (b g j : Nat) (r r' : Rd) (w : World) (hb : WlkR w b r) (hg : g ≠ b) (hc : w.cell? ⟨g, j, none⟩ = some .nilIface) (hz : w.frozen? ⟨g, j, none⟩ = false) (hn : r.num 1 = (2, r')) :
  Calls Tryz.prog 116 #[.pointer (some ⟨b, 0, none⟩), .pointer (some ⟨g, j, none⟩)] w (PutB b g j (AnyD.letter r'.one.1).val r'.one.2 w) := by
 have hs : Calls Tryz.prog 151 #[.nilIface] w fun e w' => e = .returned (.tuple #[.int .u8 0, .bool true]) ∧ Wr [] w w' := sort_any (.nil) w
 have hbl := Blk.lt hb
 have hb1 := fun W q (hb : WlkR W b r) (hq : q ≠ b) hc hz => byte_r b q 0 r W hb hq 0 hc hz
 unfold Rd.one at hb1
 rw [hn] at hb1
 have HB1 := qh (show ∀ W q (hb : WlkR W b r) (hq : q ≠ b) (hc : W.cell? ⟨q, 0, none⟩ = some (.int .u8 0)) (hz : W.frozen? ⟨q, 0, none⟩ = false), Calls Tryz.prog 114 #[.pointer (some ⟨b, 0, none⟩), .pointer (some ⟨q, 0, none⟩)] W (PutL b ⟨q, 0, none⟩ (.int .u8 2) r' W) from hb1)
 clear hb1
 have HS := qh hs
 have HC := qh hc
 have HZ := qh hz
 have HB := qh hb
 clear hs hz hn hb
 go_in
 go_wp2_with fail
 refine HS.out.mono ?_
 rintro e w1 ⟨rfl, r1⟩
 have b1 := Blk.wr0 HB.out r1
 have R1 := qh (r1.nil (l := [b]))
 have n1 := Blk.new w1 5 #[.int .u8 0]
 have hq1 : w1.heap.size ≠ b := by have := r1.size; omega
 have h1 := HB1.out (w1.alloc (.cells #[.int .u8 0] 5)) w1.heap.size (Blk.wr0 b1 ((Wr.refl _ _).alloc _)) hq1 (n1.cell 0) (n1.frozen 0)
 have R2 := qh (R1.out.alloc (.cells #[.int .u8 0] 5))
 have hnew := r1.size
 have N1 := qh n1
 have HH1 := qh h1
 clear h1 b1 r1 n1 hc
 go_wp2_with fail
 refine HH1.out.mono ?_
 rintro e w2' ⟨rfl, w2, r2, b2, rfl⟩
 have q0 := (N1.out.wr r2 (by simpa using hq1)).set_ 0 (.int .u8 2)
 have R3 := qh ((R2.out.trans r2).setNew hnew (.int .u8 2) (o := 0))
 have b3 : WlkR (w2.setCell ⟨w1.heap.size, 0, none⟩ (.int .u8 2)) b r' := Blk.far b2 (fun e => hq1 e.symm) _
 generalize w2.setCell ⟨w1.heap.size, 0, none⟩ (.int .u8 2) = w3 at *
 replace q0 := q0.cell 0
 simp only [qsaq, qszq, qgaq, qgzq] at q0
 have c0 := R3.out.cellOf HC.out (by simpa using hg)
 have f0 := R3.out.frozenOf HC.out HZ.out (by simpa using hg)
 have B3 := qh b3
 have hbl3 := Blk.lt b3
 clear r2 b2 b3
 have hA := fun w => anyAs_letter .nil w
 simp only [AnyD.val, AnyD.letterV, AnyD.sort] at hA
 have n2 := Blk.new w3 5 #[.int .u8 0]
 have hq2 : w3.heap.size ≠ b := by omega
 have b4 := Blk.wr0 B3.out ((Wr.refl [] w3).alloc (.cells #[.int .u8 0] 5))
 have h2 := byte_r b w3.heap.size 0 r' (w3.alloc (.cells #[.int .u8 0] 5)) b4 hq2 0 (n2.cell 0) (n2.frozen 0)
 have R4 := qh (R3.out.alloc (.cells #[.int .u8 0] 5))
 have hnew3 := R3.out.size
 have H2 := qh h2
 have N2 := qh n2
 clear h2 n2 b4
 go_wp2_with fail
 refine H2.out.mono ?_
 rintro e w4' ⟨rfl, w4, r4, b4, rfl⟩
 have q2 := (N2.out.wr r4 (by simpa using hq2)).set_ 0 (.int .u8 r'.one.1)
 have R5 := qh ((R4.out.trans r4).setNew hnew3 (.int .u8 r'.one.1) (o := 0))
 have b5 : WlkR (w4.setCell ⟨w3.heap.size, 0, none⟩ (.int .u8 r'.one.1)) b r'.one.2 := Blk.far b4 (fun e => hq2 e.symm) _
 generalize w4.setCell ⟨w3.heap.size, 0, none⟩ (.int .u8 r'.one.1) = w5 at *
 replace q2 := q2.cell 0
 simp only [qsaq, qszq, qgaq, qgzq] at q2
 clear c0 f0
 have c0 := R5.out.cellOf HC.out (by simpa using hg)
 have f0 := R5.out.frozenOf HC.out HZ.out (by simpa using hg)
 clear r4 b4
 go_wp2_with fail
 refine bodyPost_end (results_none Tryz.results116 _ _ _) rfl ?_
 exact PutL.toB hg ⟨rfl, w5, R5.out, b5, rfl⟩
theorem var_truth (b g j : Nat) (r r' : Rd) (w : World) (hb : WlkR w b r) (hg : g ≠ b) (hc : w.cell? ⟨g, j, none⟩ = some .nilIface) (hz : w.frozen? ⟨g, j, none⟩ = false) (hn : r.num 1 = (3, r')) :
  Calls Tryz.prog 116 #[.pointer (some ⟨b, 0, none⟩), .pointer (some ⟨g, j, none⟩)] w (PutB b g j (AnyD.truth r'.truth.1).val r'.truth.2 w) := by
 have hs : Calls Tryz.prog 151 #[.nilIface] w fun e w' => e = .returned (.tuple #[.int .u8 0, .bool true]) ∧ Wr [] w w' := sort_any (.nil) w
 have hbl := Blk.lt hb
 have hb1 := fun W q (hb : WlkR W b r) (hq : q ≠ b) hc hz => byte_r b q 0 r W hb hq 0 hc hz
 unfold Rd.one at hb1
 rw [hn] at hb1
 have HB1 := qh (show ∀ W q (hb : WlkR W b r) (hq : q ≠ b) (hc : W.cell? ⟨q, 0, none⟩ = some (.int .u8 0)) (hz : W.frozen? ⟨q, 0, none⟩ = false), Calls Tryz.prog 114 #[.pointer (some ⟨b, 0, none⟩), .pointer (some ⟨q, 0, none⟩)] W (PutL b ⟨q, 0, none⟩ (.int .u8 3) r' W) from hb1)
 clear hb1
 have HS := qh hs
 have HC := qh hc
 have HZ := qh hz
 have HB := qh hb
 clear hs hz hn hb
 go_in
 go_wp2_with fail
 refine HS.out.mono ?_
 rintro e w1 ⟨rfl, r1⟩
 have b1 := Blk.wr0 HB.out r1
 have R1 := qh (r1.nil (l := [b]))
 have n1 := Blk.new w1 5 #[.int .u8 0]
 have hq1 : w1.heap.size ≠ b := by have := r1.size; omega
 have h1 := HB1.out (w1.alloc (.cells #[.int .u8 0] 5)) w1.heap.size (Blk.wr0 b1 ((Wr.refl _ _).alloc _)) hq1 (n1.cell 0) (n1.frozen 0)
 have R2 := qh (R1.out.alloc (.cells #[.int .u8 0] 5))
 have hnew := r1.size
 have N1 := qh n1
 have HH1 := qh h1
 clear h1 b1 r1 n1 hc
 go_wp2_with fail
 refine HH1.out.mono ?_
 rintro e w2' ⟨rfl, w2, r2, b2, rfl⟩
 have q0 := (N1.out.wr r2 (by simpa using hq1)).set_ 0 (.int .u8 3)
 have R3 := qh ((R2.out.trans r2).setNew hnew (.int .u8 3) (o := 0))
 have b3 : WlkR (w2.setCell ⟨w1.heap.size, 0, none⟩ (.int .u8 3)) b r' := Blk.far b2 (fun e => hq1 e.symm) _
 generalize w2.setCell ⟨w1.heap.size, 0, none⟩ (.int .u8 3) = w3 at *
 replace q0 := q0.cell 0
 simp only [qsaq, qszq, qgaq, qgzq] at q0
 have c0 := R3.out.cellOf HC.out (by simpa using hg)
 have f0 := R3.out.frozenOf HC.out HZ.out (by simpa using hg)
 have B3 := qh b3
 have hbl3 := Blk.lt b3
 clear r2 b2 b3
 have hA := fun w => anyAs_truth .nil w
 simp only [AnyD.val, AnyD.truthV, AnyD.sort] at hA
 have n2 := Blk.new w3 4 #[.bool false]
 have hq2 : w3.heap.size ≠ b := by omega
 have b4 := Blk.wr0 B3.out ((Wr.refl [] w3).alloc (.cells #[.bool false] 4))
 have h2 := truth_r b w3.heap.size 0 r' (w3.alloc (.cells #[.bool false] 4)) b4 hq2 false (n2.cell 0) (n2.frozen 0)
 have R4 := qh (R3.out.alloc (.cells #[.bool false] 4))
 have hnew3 := R3.out.size
 have H2 := qh h2
 have N2 := qh n2
 clear h2 n2 b4
 go_wp2_with fail
 refine H2.out.mono ?_
 rintro e w4' ⟨rfl, w4, r4, b4, rfl⟩
 have q2 := (N2.out.wr r4 (by simpa using hq2)).set_ 0 (.bool r'.truth.1)
 have R5 := qh ((R4.out.trans r4).setNew hnew3 (.bool r'.truth.1) (o := 0))
 have b5 : WlkR (w4.setCell ⟨w3.heap.size, 0, none⟩ (.bool r'.truth.1)) b r'.truth.2 := Blk.far b4 (fun e => hq2 e.symm) _
 generalize w4.setCell ⟨w3.heap.size, 0, none⟩ (.bool r'.truth.1) = w5 at *
 replace q2 := q2.cell 0
 simp only [qsaq, qszq, qgaq, qgzq] at q2
 clear c0 f0
 have c0 := R5.out.cellOf HC.out (by simpa using hg)
 have f0 := R5.out.frozenOf HC.out HZ.out (by simpa using hg)
 clear r4 b4
 go_wp2_with fail
 refine bodyPost_end (results_none Tryz.results116 _ _ _) rfl ?_
 exact PutL.toB hg ⟨rfl, w5, R5.out, b5, rfl⟩
theorem var_bits (b g j : Nat) (r r' : Rd) (w : World) (hb : WlkR w b r) (hg : g ≠ b) (hc : w.cell? ⟨g, j, none⟩ = some .nilIface) (hz : w.frozen? ⟨g, j, none⟩ = false) (hn : r.num 1 = (4, r')) :
  Calls Tryz.prog 116 #[.pointer (some ⟨b, 0, none⟩), .pointer (some ⟨g, j, none⟩)] w (PutB b g j (AnyD.bits r'.two.1).val r'.two.2 w) := by
 have hs : Calls Tryz.prog 151 #[.nilIface] w fun e w' => e = .returned (.tuple #[.int .u8 0, .bool true]) ∧ Wr [] w w' := sort_any (.nil) w
 have hbl := Blk.lt hb
 have hb1 := fun W q (hb : WlkR W b r) (hq : q ≠ b) hc hz => byte_r b q 0 r W hb hq 0 hc hz
 unfold Rd.one at hb1
 rw [hn] at hb1
 have HB1 := qh (show ∀ W q (hb : WlkR W b r) (hq : q ≠ b) (hc : W.cell? ⟨q, 0, none⟩ = some (.int .u8 0)) (hz : W.frozen? ⟨q, 0, none⟩ = false), Calls Tryz.prog 114 #[.pointer (some ⟨b, 0, none⟩), .pointer (some ⟨q, 0, none⟩)] W (PutL b ⟨q, 0, none⟩ (.int .u8 4) r' W) from hb1)
 clear hb1
 have HS := qh hs
 have HC := qh hc
 have HZ := qh hz
 have HB := qh hb
 clear hs hz hn hb
 go_in
 go_wp2_with fail
 refine HS.out.mono ?_
 rintro e w1 ⟨rfl, r1⟩
 have b1 := Blk.wr0 HB.out r1
 have R1 := qh (r1.nil (l := [b]))
 have n1 := Blk.new w1 5 #[.int .u8 0]
 have hq1 : w1.heap.size ≠ b := by have := r1.size; omega
 have h1 := HB1.out (w1.alloc (.cells #[.int .u8 0] 5)) w1.heap.size (Blk.wr0 b1 ((Wr.refl _ _).alloc _)) hq1 (n1.cell 0) (n1.frozen 0)
 have R2 := qh (R1.out.alloc (.cells #[.int .u8 0] 5))
 have hnew := r1.size
 have N1 := qh n1
 have HH1 := qh h1
 clear h1 b1 r1 n1 hc
 go_wp2_with fail
 refine HH1.out.mono ?_
 rintro e w2' ⟨rfl, w2, r2, b2, rfl⟩
 have q0 := (N1.out.wr r2 (by simpa using hq1)).set_ 0 (.int .u8 4)
 have R3 := qh ((R2.out.trans r2).setNew hnew (.int .u8 4) (o := 0))
 have b3 : WlkR (w2.setCell ⟨w1.heap.size, 0, none⟩ (.int .u8 4)) b r' := Blk.far b2 (fun e => hq1 e.symm) _
 generalize w2.setCell ⟨w1.heap.size, 0, none⟩ (.int .u8 4) = w3 at *
 replace q0 := q0.cell 0
 simp only [qsaq, qszq, qgaq, qgzq] at q0
 have c0 := R3.out.cellOf HC.out (by simpa using hg)
 have f0 := R3.out.frozenOf HC.out HZ.out (by simpa using hg)
 have B3 := qh b3
 have hbl3 := Blk.lt b3
 clear r2 b2 b3
 have hA := fun w => anyAs_bits .nil w
 simp only [AnyD.val, AnyD.bitsV, AnyD.sort] at hA
 have h2 := bytes_r b 2 0 r' (by decide) w3 B3.out
 have hl := num_lt (k := 2) (by omega) r'
 have e1 : IntKind.u16.wrap (((r'.num 2).1 : Nat) : Int) = (((r'.num 2).1 : Nat) : Int) := by
  generalize (r'.num 2).1 = v at *
  simp [IntKind.wrap, IntKind.bits, IntKind.signed]
  omega
 have H2 := qh h2
 clear h2
 go_wp2_with fail
 refine H2.out.mono ?_
 rintro e w4 ⟨rfl, r4, b4⟩
 have R5 := qh (R3.out.trans r4)
 clear c0 f0
 have c0 := R5.out.cellOf HC.out (by simpa using hg)
 have f0 := R5.out.frozenOf HC.out HZ.out (by simpa using hg)
 go_wp2_with fail
 refine bodyPost_end (results_none Tryz.results116 _ _ _) rfl ?_
 exact PutL.toB hg ⟨rfl, w4, R5.out, b4, rfl⟩
theorem var_str (b g j : Nat) (r r' : Rd) (w : World) (hb : WlkR w b r) (hg : g ≠ b) (hc : w.cell? ⟨g, j, none⟩ = some .nilIface) (hz : w.frozen? ⟨g, j, none⟩ = false) (hn : r.num 1 = (5, r')) :
  Calls Tryz.prog 116 #[.pointer (some ⟨b, 0, none⟩), .pointer (some ⟨g, j, none⟩)] w (PutB b g j (AnyD.str ⟨((r'.num 2).2.raw (r'.num 2).1).1.toArray⟩).val ((r'.num 2).2.raw (r'.num 2).1).2 w) := by
 have hs : Calls Tryz.prog 151 #[.nilIface] w fun e w' => e = .returned (.tuple #[.int .u8 0, .bool true]) ∧ Wr [] w w' := sort_any (.nil) w
 have hbl := Blk.lt hb
 have hb1 := fun W q (hb : WlkR W b r) (hq : q ≠ b) hc hz => byte_r b q 0 r W hb hq 0 hc hz
 unfold Rd.one at hb1
 rw [hn] at hb1
 have HB1 := qh (show ∀ W q (hb : WlkR W b r) (hq : q ≠ b) (hc : W.cell? ⟨q, 0, none⟩ = some (.int .u8 0)) (hz : W.frozen? ⟨q, 0, none⟩ = false), Calls Tryz.prog 114 #[.pointer (some ⟨b, 0, none⟩), .pointer (some ⟨q, 0, none⟩)] W (PutL b ⟨q, 0, none⟩ (.int .u8 5) r' W) from hb1)
 clear hb1
 have HS := qh hs
 have HC := qh hc
 have HZ := qh hz
 have HB := qh hb
 clear hs hz hn hb
 go_in
 go_wp2_with fail
 refine HS.out.mono ?_
 rintro e w1 ⟨rfl, r1⟩
 have b1 := Blk.wr0 HB.out r1
 have R1 := qh (r1.nil (l := [b]))
 have n1 := Blk.new w1 5 #[.int .u8 0]
 have hq1 : w1.heap.size ≠ b := by have := r1.size; omega
 have h1 := HB1.out (w1.alloc (.cells #[.int .u8 0] 5)) w1.heap.size (Blk.wr0 b1 ((Wr.refl _ _).alloc _)) hq1 (n1.cell 0) (n1.frozen 0)
 have R2 := qh (R1.out.alloc (.cells #[.int .u8 0] 5))
 have hnew := r1.size
 have N1 := qh n1
 have HH1 := qh h1
 clear h1 b1 r1 n1 hc
 go_wp2_with fail
 refine HH1.out.mono ?_
 rintro e w2' ⟨rfl, w2, r2, b2, rfl⟩
 have q0 := (N1.out.wr r2 (by simpa using hq1)).set_ 0 (.int .u8 5)
 have R3 := qh ((R2.out.trans r2).setNew hnew (.int .u8 5) (o := 0))
 have b3 : WlkR (w2.setCell ⟨w1.heap.size, 0, none⟩ (.int .u8 5)) b r' := Blk.far b2 (fun e => hq1 e.symm) _
 generalize w2.setCell ⟨w1.heap.size, 0, none⟩ (.int .u8 5) = w3 at *
 replace q0 := q0.cell 0
 simp only [qsaq, qszq, qgaq, qgzq] at q0
 have c0 := R3.out.cellOf HC.out (by simpa using hg)
 have f0 := R3.out.frozenOf HC.out HZ.out (by simpa using hg)
 have B3 := qh b3
 have hbl3 := Blk.lt b3
 clear r2 b2 b3
 have hA := fun w => anyAs_string .nil w
 simp only [AnyD.val, AnyD.strV, AnyD.sort] at hA
 have n2 := Blk.new w3 9 #[.string ⟨#[]⟩]
 have hq2 : w3.heap.size ≠ b := by omega
 have b4 := Blk.wr0 B3.out ((Wr.refl [] w3).alloc (.cells #[.string ⟨#[]⟩] 9))
 have h2 := count_r b r' _ b4 0
 have R4 := qh (R3.out.alloc (.cells #[.string ⟨#[]⟩] 9))
 have hnew3 := R3.out.size
 have h3 := fun W hb hc hz => raw_r b w3.heap.size 0 (r'.num 2).1 (r'.num 2).2 W hb hq2 ⟨#[]⟩ hc hz
 have H2 := qh h2
 have H3 := qh h3
 have N2 := qh n2
 clear h2 h3 n2 b4
 go_wp2_with fail
 refine H2.out.mono ?_
 rintro e w4 ⟨rfl, r4, b4⟩
 have hn2 := N2.out.wr r4 (by simpa using hq2)
 have R5 := qh (R4.out.trans r4)
 have h4 := H3.out w4 b4 (hn2.cell 0) (hn2.frozen 0)
 have H4 := qh h4
 have HN2 := qh hn2
 clear h4 hn2 r4 b4 c0 f0
 go_wp2_with fail
 refine H4.out.mono ?_
 rintro e w5 ⟨rfl, r5, b5, x5⟩
 have q2 := (x5 _ _ HN2.out).cell 0
 simp only [qsaq, qszq, qgaq, qgzq] at q2
 have R6 : Wr [b] w w5 := R5.out.trans' r5 (fun q hq => by
  simp only [qmcq, qnnq, or_false] at hq
  rcases hq with e | e
  ·subst e
   exact .inl (by simp)
  ·rw [e]
   exact .inr hnew3)
 have R6 := qh R6
 have c0 := R6.out.cellOf HC.out (by simpa using hg)
 have f0 := R6.out.frozenOf HC.out HZ.out (by simpa using hg)
 clear r5 x5
 go_wp2_with fail
 refine bodyPost_end (results_none Tryz.results116 _ _ _) rfl ?_
 exact PutL.toB hg ⟨rfl, w5, R6.out, b5, rfl⟩
theorem var_item (b g j : Nat) (r r' : Rd) (w : World) (hb : WlkR w b r) (hg : g ≠ b) (hc : w.cell? ⟨g, j, none⟩ = some .nilIface) (hz : w.frozen? ⟨g, j, none⟩ = false) (hn : r.num 1 = (6, r')) :
  Calls Tryz.prog 116 #[.pointer (some ⟨b, 0, none⟩), .pointer (some ⟨g, j, none⟩)] w (PutB b g j (AnyD.item r'.four.1 r'.four.2.four.1).val r'.four.2.four.2 w) := by
 have hs : Calls Tryz.prog 151 #[.nilIface] w fun e w' => e = .returned (.tuple #[.int .u8 0, .bool true]) ∧ Wr [] w w' := sort_any (.nil) w
 have hbl := Blk.lt hb
 have hb1 := fun W q (hb : WlkR W b r) (hq : q ≠ b) hc hz => byte_r b q 0 r W hb hq 0 hc hz
 unfold Rd.one at hb1
 rw [hn] at hb1
 have HB1 := qh (show ∀ W q (hb : WlkR W b r) (hq : q ≠ b) (hc : W.cell? ⟨q, 0, none⟩ = some (.int .u8 0)) (hz : W.frozen? ⟨q, 0, none⟩ = false), Calls Tryz.prog 114 #[.pointer (some ⟨b, 0, none⟩), .pointer (some ⟨q, 0, none⟩)] W (PutL b ⟨q, 0, none⟩ (.int .u8 6) r' W) from hb1)
 clear hb1
 have HS := qh hs
 have HC := qh hc
 have HZ := qh hz
 have HB := qh hb
 clear hs hz hn hb
 go_in
 go_wp2_with fail
 refine HS.out.mono ?_
 rintro e w1 ⟨rfl, r1⟩
 have b1 := Blk.wr0 HB.out r1
 have R1 := qh (r1.nil (l := [b]))
 have n1 := Blk.new w1 5 #[.int .u8 0]
 have hq1 : w1.heap.size ≠ b := by have := r1.size; omega
 have h1 := HB1.out (w1.alloc (.cells #[.int .u8 0] 5)) w1.heap.size (Blk.wr0 b1 ((Wr.refl _ _).alloc _)) hq1 (n1.cell 0) (n1.frozen 0)
 have R2 := qh (R1.out.alloc (.cells #[.int .u8 0] 5))
 have hnew := r1.size
 have N1 := qh n1
 have HH1 := qh h1
 clear h1 b1 r1 n1 hc
 go_wp2_with fail
 refine HH1.out.mono ?_
 rintro e w2' ⟨rfl, w2, r2, b2, rfl⟩
 have q0 := (N1.out.wr r2 (by simpa using hq1)).set_ 0 (.int .u8 6)
 have R3 := qh ((R2.out.trans r2).setNew hnew (.int .u8 6) (o := 0))
 have b3 : WlkR (w2.setCell ⟨w1.heap.size, 0, none⟩ (.int .u8 6)) b r' := Blk.far b2 (fun e => hq1 e.symm) _
 generalize w2.setCell ⟨w1.heap.size, 0, none⟩ (.int .u8 6) = w3 at *
 replace q0 := q0.cell 0
 simp only [qsaq, qszq, qgaq, qgzq] at q0
 have c0 := R3.out.cellOf HC.out (by simpa using hg)
 have f0 := R3.out.frozenOf HC.out HZ.out (by simpa using hg)
 have B3 := qh b3
 have hbl3 := Blk.lt b3
 clear r2 b2 b3
 have hA := fun w => anyAs_item .nil w
 simp only [AnyD.val, AnyD.itemT, AnyD.itemN, AnyD.sort] at hA
 have n2 := Blk.new w3 182 #[.int .i64 0, .int .i64 0]
 have hq2 : w3.heap.size ≠ b := by omega
 have b4 := Blk.wr0 B3.out ((Wr.refl [] w3).alloc (.cells #[.int .i64 0, .int .i64 0] 182))
 have h2 := place_r b w3.heap.size 0 r' _ b4 hq2 0 (n2.cell 0) (n2.frozen 0)
 have R4 := qh (R3.out.alloc (.cells #[.int .i64 0, .int .i64 0] 182))
 have hnew3 := R3.out.size
 have h3 := fun W hb hc hz => number_r b w3.heap.size 1 r'.four.2 W hb hq2 0 hc hz
 have H2 := qh h2
 have H3 := qh h3
 have N2 := qh n2
 clear h2 h3 n2 b4
 go_wp2_with fail
 refine H2.out.mono ?_
 rintro e w4' ⟨rfl, w4, r4, b4, rfl⟩
 have hn2 := (N2.out.wr r4 (by simpa using hq2)).set_ 0 (.int .i64 r'.four.1)
 have R5 := qh ((R4.out.trans r4).setNew hnew3 (.int .i64 r'.four.1) (o := 0))
 have b5 : WlkR (w4.setCell ⟨w3.heap.size, 0, none⟩ (.int .i64 r'.four.1)) b r'.four.2 := Blk.far b4 (fun e => hq2 e.symm) _
 generalize w4.setCell ⟨w3.heap.size, 0, none⟩ (.int .i64 r'.four.1) = w5 at *
 have h4 := H3.out w5 b5 (by have := hn2.cell 1; simpa using this) (hn2.frozen 1)
 have H4 := qh h4
 have HN2 := qh hn2
 clear h4 hn2 r4 b4 b5 c0 f0
 go_wp2_with fail
 refine H4.out.mono ?_
 rintro e w6' ⟨rfl, w6, r6, b6, rfl⟩
 have hn3 := (HN2.out.wr r6 (by simpa using hq2)).set_ 1 (.int .i64 r'.four.2.four.1)
 have R7 := qh ((R5.out.trans r6).setNew hnew3 (.int .i64 r'.four.2.four.1) (o := 1))
 have b7 : WlkR (w6.setCell ⟨w3.heap.size, 1, none⟩ (.int .i64 r'.four.2.four.1)) b r'.four.2.four.2 := Blk.far b6 (fun e => hq2 e.symm) _
 generalize w6.setCell ⟨w3.heap.size, 1, none⟩ (.int .i64 r'.four.2.four.1) = w7 at *
 have q2 := hn3.cell 0
 have q3 := hn3.cell 1
 simp only [qsaq, qszq, qssq, qgaq, qgzq, qgsq] at q2 q3
 have c0 := R7.out.cellOf HC.out (by simpa using hg)
 have f0 := R7.out.frozenOf HC.out HZ.out (by simpa using hg)
 clear r6 b6 hn3
 go_wp2_with fail
 refine bodyPost_end (results_none Tryz.results116 _ _ _) rfl ?_
 exact PutL.toB hg ⟨rfl, w7, R7.out, b7, rfl⟩
theorem var_else (b g j k : Nat) (r r' : Rd) (w : World) (hb : WlkR w b r) (hg : g ≠ b) (hc : w.cell? ⟨g, j, none⟩ = some .nilIface) (hz : w.frozen? ⟨g, j, none⟩ = false) (hn : r.num 1 = (k, r')) (hk : 8 ≤ k) :
  Calls Tryz.prog 116 #[.pointer (some ⟨b, 0, none⟩), .pointer (some ⟨g, j, none⟩)] w (PutB b g j .nilIface ⟨r'.s, true⟩ w) := by
 have hs : Calls Tryz.prog 151 #[.nilIface] w fun e w' => e = .returned (.tuple #[.int .u8 0, .bool true]) ∧ Wr [] w w' := sort_any (.nil) w
 have hbl := Blk.lt hb
 have hb1 := fun W q (hb : WlkR W b r) (hq : q ≠ b) hc hz => byte_r b q 0 r W hb hq 0 hc hz
 unfold Rd.one at hb1
 rw [hn] at hb1
 have HB1 := qh (show ∀ W q (hb : WlkR W b r) (hq : q ≠ b) (hc : W.cell? ⟨q, 0, none⟩ = some (.int .u8 0)) (hz : W.frozen? ⟨q, 0, none⟩ = false), Calls Tryz.prog 114 #[.pointer (some ⟨b, 0, none⟩), .pointer (some ⟨q, 0, none⟩)] W (PutL b ⟨q, 0, none⟩ (.int .u8 (k : Int)) r' W) from hb1)
 clear hb1
 have HS := qh hs
 have HC := qh hc
 have HZ := qh hz
 have HB := qh hb
 clear hs hz hn hb
 go_in
 go_wp2_with fail
 refine HS.out.mono ?_
 rintro e w1 ⟨rfl, r1⟩
 have b1 := Blk.wr0 HB.out r1
 have R1 := qh (r1.nil (l := [b]))
 have n1 := Blk.new w1 5 #[.int .u8 0]
 have hq1 : w1.heap.size ≠ b := by have := r1.size; omega
 have h1 := HB1.out (w1.alloc (.cells #[.int .u8 0] 5)) w1.heap.size (Blk.wr0 b1 ((Wr.refl _ _).alloc _)) hq1 (n1.cell 0) (n1.frozen 0)
 have R2 := qh (R1.out.alloc (.cells #[.int .u8 0] 5))
 have hnew := r1.size
 have N1 := qh n1
 have HH1 := qh h1
 clear h1 b1 r1 n1 hc
 go_wp2_with fail
 refine HH1.out.mono ?_
 rintro e w2' ⟨rfl, w2, r2, b2, rfl⟩
 have q0 := (N1.out.wr r2 (by simpa using hq1)).set_ 0 (.int .u8 (k : Int))
 have R3 := qh ((R2.out.trans r2).setNew hnew (.int .u8 (k : Int)) (o := 0))
 have b3 : WlkR (w2.setCell ⟨w1.heap.size, 0, none⟩ (.int .u8 (k : Int))) b r' := Blk.far b2 (fun e => hq1 e.symm) _
 generalize w2.setCell ⟨w1.heap.size, 0, none⟩ (.int .u8 (k : Int)) = w3 at *
 replace q0 := q0.cell 0
 simp only [qsaq, qszq, qgaq, qgzq] at q0
 have c0 := R3.out.cellOf HC.out (by simpa using hg)
 have f0 := R3.out.frozenOf HC.out HZ.out (by simpa using hg)
 have B3 := qh b3
 have hbl3 := Blk.lt b3
 clear r2 b2 b3
 have c2 := B3.out.cell 2
 have f2 := B3.out.frozen 2
 simp only [qgaq, qgzq, qgsq] at c2
 have e0 : ((k : Int) == 0) = false := by simp; omega
 have e1 : ((k : Int) == 1) = false := by simp; omega
 have e2 : ((k : Int) == 2) = false := by simp; omega
 have e3 : ((k : Int) == 3) = false := by simp; omega
 have e4 : ((k : Int) == 4) = false := by simp; omega
 have e5 : ((k : Int) == 5) = false := by simp; omega
 have e6 : ((k : Int) == 6) = false := by simp; omega
 have e7 : ((k : Int) == 7) = false := by simp; omega
 go_wp2_with fail
 refine bodyPost_end (results_none Tryz.results116 _ _ _) rfl ?_
 have hlast : WlkR (w3.setCell ⟨b, 2, none⟩ (.bool true)) b ⟨r'.s, true⟩ := Blk.set_ B3.out 2 (.bool true)
 exact PutB.self hg (R3.out.setOn (by simp) _) hlast HC.out
theorem value_r (b g j : Nat) (r : Rd) (w : World) (hb : WlkR w b r) (hg : g ≠ b) (hc : w.cell? ⟨g, j, none⟩ = some .nilIface) (hz : w.frozen? ⟨g, j, none⟩ = false) :
  Calls Tryz.prog 116 #[.pointer (some ⟨b, 0, none⟩), .pointer (some ⟨g, j, none⟩)] w (PutB b g j (Rd.any r).1.val (Rd.any r).2 w) := by
 obtain ⟨rr, hn⟩ : ∃ rr, r.num 1 = rr := ⟨_, rfl⟩
 obtain ⟨k, r'⟩ := rr
 unfold Rd.any
 rw [hn]
 match k, hn with
 | 0, hn => exact var_nil b g j r r' w hb hg hc hz hn
 | 1, hn => exact var_whole b g j r r' w hb hg hc hz hn
 | 2, hn => exact var_letter b g j r r' w hb hg hc hz hn
 | 3, hn => exact var_truth b g j r r' w hb hg hc hz hn
 | 4, hn => exact var_bits b g j r r' w hb hg hc hz hn
 | 5, hn => exact var_str b g j r r' w hb hg hc hz hn
 | 6, hn => exact var_item b g j r r' w hb hg hc hz hn
 | 7, hn => exact var_null b g j r r' w hb hg hc hz hn
 | k + 8, hn => exact var_else b g j (k + 8) r r' w hb hg hc hz hn (by omega)
end Go.Proofs.YtildcdgobdfieaaGreat
