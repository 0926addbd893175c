/- iface.Same, of two of the same content whose types have no lists and whose items have no values: walked. -/
import Derived.Test.YtmpbkfbjmmoapaaGreatIT01
import Derived.Test.YtmpbkfbjmmoapaaGreatIT36
namespace Go.Proofs.YtmpbkfbjmmoapaaGreat
open Go.RowKit
set_option linter.unusedVariables false
set_option linter.unusedSimpArgs false
def TrueR (w : World) (e : Ending) (w' : World) : Prop := e = .returned (.bool true) ∧ Wr [] w w'
def At0 (w : World) (s : Value) (wr : World) : Prop := s = .int .i64 0 ∧ wr = w
set_option maxHeartbeats 1000000 in
theorem eq0_str (A B : Option Addr) (c d : Nat) (w : World) : Calls Tryz.prog 60 #[.slice A 0 c, .slice B 0 d] w (TrueR w) := by
 go_enter Tryz.func60, Tryz.ntmps60
 go_wp2_with fail
 go_loopw [13] (fun s wr => At0 w s wr) (fun _ _ => 0)
 case atStart => exact ⟨rfl, rfl⟩
 case round =>
  obtain ⟨rfl, rfl⟩ := hrel
  go_wp2_with fail
  go_ret
  exact ⟨rfl, Wr.refl _ _⟩
set_option maxHeartbeats 1000000 in
theorem eq0_fld (A B : Option Addr) (c d : Nat) (w : World) : Calls Tryz.prog 61 #[.slice A 0 c, .slice B 0 d] w (TrueR w) := by
 go_enter Tryz.func61, Tryz.ntmps61
 go_wp2_with fail
 go_loopw [13] (fun s wr => At0 w s wr) (fun _ _ => 0)
 case atStart => exact ⟨rfl, rfl⟩
 case round =>
  obtain ⟨rfl, rfl⟩ := hrel
  go_wp2_with fail
  go_ret
  exact ⟨rfl, Wr.refl _ _⟩
set_option maxHeartbeats 1000000 in
theorem eq0_par (A B : Option Addr) (c d : Nat) (w : World) : Calls Tryz.prog 62 #[.slice A 0 c, .slice B 0 d] w (TrueR w) := by
 go_enter Tryz.func62, Tryz.ntmps62
 go_wp2_with fail
 go_loopw [13] (fun s wr => At0 w s wr) (fun _ _ => 0)
 case atStart => exact ⟨rfl, rfl⟩
 case round =>
  obtain ⟨rfl, rfl⟩ := hrel
  go_wp2_with fail
  go_ret
  exact ⟨rfl, Wr.refl _ _⟩
set_option maxHeartbeats 1000000 in
theorem eq0_use (A B : Option Addr) (c d : Nat) (w : World) : Calls Tryz.prog 28 #[.slice A 0 c, .slice B 0 d] w (TrueR w) := by
 go_enter Tryz.func28, Tryz.ntmps28
 go_wp2_with fail
 go_loopw [13] (fun s wr => At0 w s wr) (fun _ _ => 0)
 case atStart => exact ⟨rfl, rfl⟩
 case round =>
  obtain ⟨rfl, rfl⟩ := hrel
  go_wp2_with fail
  go_ret
  exact ⟨rfl, Wr.refl _ _⟩
set_option maxHeartbeats 1000000 in
theorem eq0_arm (F : Value) (A B : Option Addr) (c d : Nat) (w : World) : Calls Tryz.prog 63 #[.slice A 0 c, .slice B 0 d, F] w (TrueR w) := by
 go_enter Tryz.func63, Tryz.ntmps63
 go_wp2_with fail
 go_loopw [17] (fun s wr => At0 w s wr) (fun _ _ => 0)
 case atStart => exact ⟨rfl, rfl⟩
 case round =>
  obtain ⟨rfl, rfl⟩ := hrel
  go_wp2_with fail
  go_ret
  exact ⟨rfl, Wr.refl _ _⟩
set_option maxRecDepth 100000 in
set_option maxHeartbeats 4000000 in
theorem sameType0 (t : Ty) (A1 A2 A3 A4 B1 B2 B3 B4 : Option Addr) (a1 a2 a3 a4 b1 b2 b3 b4 : Nat) (w : World) :
  Calls Tryz.prog 30 #[.agg #[.int .u8 t.kind, .string t.module, .string t.name, .int .i64 t.base, .int .i64 t.index, .int .i64 t.low, .int .i64 t.high, .slice A1 0 a1, .slice A2 0 a2, .slice A3 0 a3, .slice A4 0 a4, .int .i64 t.result], .agg #[.int .u8 t.kind, .string t.module, .string t.name, .int .i64 t.base, .int .i64 t.index, .int .i64 t.low, .int .i64 t.high, .slice B1 0 b1, .slice B2 0 b2, .slice B3 0 b3, .slice B4 0 b4, .int .i64 t.result]] w (TrueR w) := by
 obtain ⟨w0, hw0⟩ : ∃ w0, (w.alloc (.cells #[.int .u8 t.kind, .string t.module, .string t.name, .int .i64 t.base, .int .i64 t.index, .int .i64 t.low, .int .i64 t.high, .slice A1 0 a1, .slice A2 0 a2, .slice A3 0 a3, .slice A4 0 a4, .int .i64 t.result] 50)).alloc (.cells #[.int .u8 t.kind, .string t.module, .string t.name, .int .i64 t.base, .int .i64 t.index, .int .i64 t.low, .int .i64 t.high, .slice B1 0 b1, .slice B2 0 b2, .slice B3 0 b3, .slice B4 0 b4, .int .i64 t.result] 50) = w0 := ⟨_, rfl⟩
 obtain ⟨g, hg⟩ : ∃ g, w.heap.size = g := ⟨_, rfl⟩
 have acc : Wr [] w w0 := by rw [← hw0]; exact ((Wr.refl _ _).alloc _).alloc _
 have bA : Blk w0 g 50 #[.int .u8 t.kind, .string t.module, .string t.name, .int .i64 t.base, .int .i64 t.index, .int .i64 t.low, .int .i64 t.high, .slice A1 0 a1, .slice A2 0 a2, .slice A3 0 a3, .slice A4 0 a4, .int .i64 t.result] := by rw [← hw0, ← hg]; exact (Blk.new _ _ _).alloc _
 have bB : Blk w0 (g + 1) 50 #[.int .u8 t.kind, .string t.module, .string t.name, .int .i64 t.base, .int .i64 t.index, .int .i64 t.low, .int .i64 t.high, .slice B1 0 b1, .slice B2 0 b2, .slice B3 0 b3, .slice B4 0 b4, .int .i64 t.result] := by
  have hb := Blk.new (w.alloc (.cells #[.int .u8 t.kind, .string t.module, .string t.name, .int .i64 t.base, .int .i64 t.index, .int .i64 t.low, .int .i64 t.high, .slice A1 0 a1, .slice A2 0 a2, .slice A3 0 a3, .slice A4 0 a4, .int .i64 t.result] 50)) 50 #[.int .u8 t.kind, .string t.module, .string t.name, .int .i64 t.base, .int .i64 t.index, .int .i64 t.low, .int .i64 t.high, .slice B1 0 b1, .slice B2 0 b2, .slice B3 0 b3, .slice B4 0 b4, .int .i64 t.result]
  rw [show (w.alloc (.cells #[.int .u8 t.kind, .string t.module, .string t.name, .int .i64 t.base, .int .i64 t.index, .int .i64 t.low, .int .i64 t.high, .slice A1 0 a1, .slice A2 0 a2, .slice A3 0 a3, .slice A4 0 a4, .int .i64 t.result] 50)).heap.size = g + 1 by simp [hg], hw0] at hb
  exact hb
 have H1 := Lib.hid eq0_str
 have H2 := Lib.hid eq0_fld
 have H3 := Lib.hid eq0_par
 have H4 := Lib.hid eq0_arm
 have HW0 := Lib.hid hw0
 have HG := Lib.hid hg
 have ACC := Lib.hid acc
 have BA := Lib.hid bA
 have BB := Lib.hid bB
 clear hw0 hg acc bA bB
 go_enter Tryz.func30, Tryz.ntmps30
 go_upto_region 1 with (fail)
 rw [HW0.out, HG.out]
 have p0 := BA.out.cell 0
 have p1 := BA.out.cell 1
 have p2 := BA.out.cell 2
 have p3 := BA.out.cell 3
 have p4 := BA.out.cell 4
 have p5 := BA.out.cell 5
 have p6 := BA.out.cell 6
 have p7 := BA.out.cell 7
 have p8 := BA.out.cell 8
 have p9 := BA.out.cell 9
 have p10 := BA.out.cell 10
 have p11 := BA.out.cell 11
 simp only [qgaq, qgzq, qgsq] at p0 p1 p2 p3 p4 p5 p6 p7 p8 p9 p10 p11
 have q0 := BB.out.cell 0
 have q1 := BB.out.cell 1
 have q2 := BB.out.cell 2
 have q3 := BB.out.cell 3
 have q4 := BB.out.cell 4
 have q5 := BB.out.cell 5
 have q6 := BB.out.cell 6
 have q7 := BB.out.cell 7
 have q8 := BB.out.cell 8
 have q9 := BB.out.cell 9
 have q10 := BB.out.cell 10
 have q11 := BB.out.cell 11
 simp only [qgaq, qgzq, qgsq] at q0 q1 q2 q3 q4 q5 q6 q7 q8 q9 q10 q11
 go_wp2_with fail
 refine (H1.out _ _ _ _ _).mono ?_
 rintro e w1 ⟨rfl, r1⟩
 have R1 := Lib.hid ((Wr.refl [] w0).trans r1)
 clear r1 p0 q0 p1 q1 p2 q2 p3 q3 p4 q4 p5 q5 p6 q6 p7 q7 p8 q8 p9 q9 p10 q10 p11 q11
 have p0 := (BA.out.wr0 R1.out).cell 0
 have p1 := (BA.out.wr0 R1.out).cell 1
 have p2 := (BA.out.wr0 R1.out).cell 2
 have p3 := (BA.out.wr0 R1.out).cell 3
 have p4 := (BA.out.wr0 R1.out).cell 4
 have p5 := (BA.out.wr0 R1.out).cell 5
 have p6 := (BA.out.wr0 R1.out).cell 6
 have p7 := (BA.out.wr0 R1.out).cell 7
 have p8 := (BA.out.wr0 R1.out).cell 8
 have p9 := (BA.out.wr0 R1.out).cell 9
 have p10 := (BA.out.wr0 R1.out).cell 10
 have p11 := (BA.out.wr0 R1.out).cell 11
 simp only [qgaq, qgzq, qgsq] at p0 p1 p2 p3 p4 p5 p6 p7 p8 p9 p10 p11
 have q0 := (BB.out.wr0 R1.out).cell 0
 have q1 := (BB.out.wr0 R1.out).cell 1
 have q2 := (BB.out.wr0 R1.out).cell 2
 have q3 := (BB.out.wr0 R1.out).cell 3
 have q4 := (BB.out.wr0 R1.out).cell 4
 have q5 := (BB.out.wr0 R1.out).cell 5
 have q6 := (BB.out.wr0 R1.out).cell 6
 have q7 := (BB.out.wr0 R1.out).cell 7
 have q8 := (BB.out.wr0 R1.out).cell 8
 have q9 := (BB.out.wr0 R1.out).cell 9
 have q10 := (BB.out.wr0 R1.out).cell 10
 have q11 := (BB.out.wr0 R1.out).cell 11
 simp only [qgaq, qgzq, qgsq] at q0 q1 q2 q3 q4 q5 q6 q7 q8 q9 q10 q11
 go_wp2_with fail
 refine (H2.out _ _ _ _ _).mono ?_
 rintro e w2 ⟨rfl, r2⟩
 have R2 := Lib.hid (R1.out.trans r2)
 clear r2 p0 q0 p1 q1 p2 q2 p3 q3 p4 q4 p5 q5 p6 q6 p7 q7 p8 q8 p9 q9 p10 q10 p11 q11
 have p0 := (BA.out.wr0 R2.out).cell 0
 have p1 := (BA.out.wr0 R2.out).cell 1
 have p2 := (BA.out.wr0 R2.out).cell 2
 have p3 := (BA.out.wr0 R2.out).cell 3
 have p4 := (BA.out.wr0 R2.out).cell 4
 have p5 := (BA.out.wr0 R2.out).cell 5
 have p6 := (BA.out.wr0 R2.out).cell 6
 have p7 := (BA.out.wr0 R2.out).cell 7
 have p8 := (BA.out.wr0 R2.out).cell 8
 have p9 := (BA.out.wr0 R2.out).cell 9
 have p10 := (BA.out.wr0 R2.out).cell 10
 have p11 := (BA.out.wr0 R2.out).cell 11
 simp only [qgaq, qgzq, qgsq] at p0 p1 p2 p3 p4 p5 p6 p7 p8 p9 p10 p11
 have q0 := (BB.out.wr0 R2.out).cell 0
 have q1 := (BB.out.wr0 R2.out).cell 1
 have q2 := (BB.out.wr0 R2.out).cell 2
 have q3 := (BB.out.wr0 R2.out).cell 3
 have q4 := (BB.out.wr0 R2.out).cell 4
 have q5 := (BB.out.wr0 R2.out).cell 5
 have q6 := (BB.out.wr0 R2.out).cell 6
 have q7 := (BB.out.wr0 R2.out).cell 7
 have q8 := (BB.out.wr0 R2.out).cell 8
 have q9 := (BB.out.wr0 R2.out).cell 9
 have q10 := (BB.out.wr0 R2.out).cell 10
 have q11 := (BB.out.wr0 R2.out).cell 11
 simp only [qgaq, qgzq, qgsq] at q0 q1 q2 q3 q4 q5 q6 q7 q8 q9 q10 q11
 go_wp2_with fail
 refine (H3.out _ _ _ _ _).mono ?_
 rintro e w3 ⟨rfl, r3⟩
 have R3 := Lib.hid (R2.out.trans r3)
 clear r3 p0 q0 p1 q1 p2 q2 p3 q3 p4 q4 p5 q5 p6 q6 p7 q7 p8 q8 p9 q9 p10 q10 p11 q11
 have p0 := (BA.out.wr0 R3.out).cell 0
 have p1 := (BA.out.wr0 R3.out).cell 1
 have p2 := (BA.out.wr0 R3.out).cell 2
 have p3 := (BA.out.wr0 R3.out).cell 3
 have p4 := (BA.out.wr0 R3.out).cell 4
 have p5 := (BA.out.wr0 R3.out).cell 5
 have p6 := (BA.out.wr0 R3.out).cell 6
 have p7 := (BA.out.wr0 R3.out).cell 7
 have p8 := (BA.out.wr0 R3.out).cell 8
 have p9 := (BA.out.wr0 R3.out).cell 9
 have p10 := (BA.out.wr0 R3.out).cell 10
 have p11 := (BA.out.wr0 R3.out).cell 11
 simp only [qgaq, qgzq, qgsq] at p0 p1 p2 p3 p4 p5 p6 p7 p8 p9 p10 p11
 have q0 := (BB.out.wr0 R3.out).cell 0
 have q1 := (BB.out.wr0 R3.out).cell 1
 have q2 := (BB.out.wr0 R3.out).cell 2
 have q3 := (BB.out.wr0 R3.out).cell 3
 have q4 := (BB.out.wr0 R3.out).cell 4
 have q5 := (BB.out.wr0 R3.out).cell 5
 have q6 := (BB.out.wr0 R3.out).cell 6
 have q7 := (BB.out.wr0 R3.out).cell 7
 have q8 := (BB.out.wr0 R3.out).cell 8
 have q9 := (BB.out.wr0 R3.out).cell 9
 have q10 := (BB.out.wr0 R3.out).cell 10
 have q11 := (BB.out.wr0 R3.out).cell 11
 simp only [qgaq, qgzq, qgsq] at q0 q1 q2 q3 q4 q5 q6 q7 q8 q9 q10 q11
 go_wp2_with fail
 refine (H4.out _ _ _ _ _ _).mono ?_
 rintro e w4 ⟨rfl, r4⟩
 have R4 := Lib.hid (R3.out.trans r4)
 clear r4 p0 q0 p1 q1 p2 q2 p3 q3 p4 q4 p5 q5 p6 q6 p7 q7 p8 q8 p9 q9 p10 q10 p11 q11
 have p0 := (BA.out.wr0 R4.out).cell 0
 have p1 := (BA.out.wr0 R4.out).cell 1
 have p2 := (BA.out.wr0 R4.out).cell 2
 have p3 := (BA.out.wr0 R4.out).cell 3
 have p4 := (BA.out.wr0 R4.out).cell 4
 have p5 := (BA.out.wr0 R4.out).cell 5
 have p6 := (BA.out.wr0 R4.out).cell 6
 have p7 := (BA.out.wr0 R4.out).cell 7
 have p8 := (BA.out.wr0 R4.out).cell 8
 have p9 := (BA.out.wr0 R4.out).cell 9
 have p10 := (BA.out.wr0 R4.out).cell 10
 have p11 := (BA.out.wr0 R4.out).cell 11
 simp only [qgaq, qgzq, qgsq] at p0 p1 p2 p3 p4 p5 p6 p7 p8 p9 p10 p11
 have q0 := (BB.out.wr0 R4.out).cell 0
 have q1 := (BB.out.wr0 R4.out).cell 1
 have q2 := (BB.out.wr0 R4.out).cell 2
 have q3 := (BB.out.wr0 R4.out).cell 3
 have q4 := (BB.out.wr0 R4.out).cell 4
 have q5 := (BB.out.wr0 R4.out).cell 5
 have q6 := (BB.out.wr0 R4.out).cell 6
 have q7 := (BB.out.wr0 R4.out).cell 7
 have q8 := (BB.out.wr0 R4.out).cell 8
 have q9 := (BB.out.wr0 R4.out).cell 9
 have q10 := (BB.out.wr0 R4.out).cell 10
 have q11 := (BB.out.wr0 R4.out).cell 11
 simp only [qgaq, qgzq, qgsq] at q0 q1 q2 q3 q4 q5 q6 q7 q8 q9 q10 q11
 go_wp2_with fail
 go_ret
 exact ⟨rfl, ACC.out.trans R4.out⟩
def EqAt (w : World) (n : Nat) (s : Value) (wr : World) : Prop := ∃ k : Nat, k ≤ n ∧ s = .int .i64 k ∧ Wr [] w wr
theorem ty_bare {w : World} {P : Nat → Prop} {v : Value} {l : List Ty} (h : SlTys w P v l) {i : Nat} {t : Ty} (hi : l[i]? = some t) (hb : t.bare) :
  ∃ b off c A1 A2 A3 A4 a1 a2 a3 a4, v = .slice (some ⟨b, off, none⟩) l.length c ∧ P b ∧ ∀ j u, ([.int .u8 t.kind, .string t.module, .string t.name, .int .i64 t.base, .int .i64 t.index, .int .i64 t.low, .int .i64 t.high, .slice A1 0 a1, .slice A2 0 a2, .slice A3 0 a3, .slice A4 0 a4, .int .i64 t.result] : List Value)[j]? = some u → w.cell? ⟨b, off + i * 12 + j, none⟩ = some u := by
 obtain ⟨b, off, c, vn, vf, va, vp, e, hP, hc, hl⟩ := ty_at h hi
 obtain ⟨h1, h2, h3, h4⟩ := hb
 obtain ⟨A1, a1, rfl, _, _⟩ := Sl.form hl.names
 obtain ⟨A2, a2, rfl, _, _⟩ := Sl.form hl.fields
 obtain ⟨A3, a3, rfl, _, _⟩ : ∃ A c, va = .slice A t.arms.length c ∧ t.arms.length ≤ c ∧ c ≤ maxLen := by
  obtain ⟨xs, hs, _⟩ := hl.arms
  exact hs.form
 obtain ⟨A4, a4, rfl, _, _⟩ := Sl.form hl.params
 unfold Ty.cells at hc
 rw [h1, h2, h3, h4] at hc
 exact ⟨b, off, c, A1, A2, A3, A4, a1, a2, a3, a4, e, hP, hc⟩
set_option maxRecDepth 100000 in
set_option maxHeartbeats 4000000 in
theorem eqTys (l : List Ty) (v1 v2 : Value) (P Q : Nat → Prop) (w : World) (h1 : SlTys w P v1 l) (h2 : SlTys w Q v2 l) (hb : ∀ t ∈ l, t.bare) (hn : l.length ≤ 1099511627776) :
  Calls Tryz.prog 29 #[v1, v2, .func (.func 30) #[] #[]] w (TrueR w) := by
 obtain ⟨A1, c1, e1, _, _⟩ := h1.form
 obtain ⟨A2, c2, e2, _, _⟩ := h2.form
 subst e1 e2
 have HL := Lib.hid h1
 have HM := Lib.hid h2
 have HB := Lib.hid hb
 have HS := Lib.hid sameType0
 clear h1 h2 hb
 go_enter Tryz.func29, Tryz.ntmps29
 go_wp2_with fail
 go_loopw [17] (fun s wr => EqAt w l.length s wr) (fun s _ => l.length - (intOf s).toNat)
 case atStart => exact ⟨0, Nat.zero_le _, rfl, Wr.refl _ _⟩
 case round =>
  obtain ⟨k, hk, rfl, rk⟩ := hrel
  by_cases hlt : k < l.length
  ·obtain ⟨t, ht⟩ : ∃ t, l[k]? = some t := ⟨_, List.getElem?_eq_getElem hlt⟩
   obtain ⟨b1, o1, d1, X1, X2, X3, X4, x1, x2, x3, x4, e1, _, hp⟩ := ty_bare (HL.out.wr0 rk) ht (HB.out t (List.mem_of_getElem? ht))
   obtain ⟨b2, o2, d2, Y1, Y2, Y3, Y4, y1, y2, y3, y4, e2, _, hq⟩ := ty_bare (HM.out.wr0 rk) ht (HB.out t (List.mem_of_getElem? ht))
   injection e1 with e1 _ e1'
   injection e2 with e2 _ e2'
   subst e1 e1' e2 e2'
   have p0 := hp 0 _ rfl
   have p1 := hp 1 _ rfl
   have p2 := hp 2 _ rfl
   have p3 := hp 3 _ rfl
   have p4 := hp 4 _ rfl
   have p5 := hp 5 _ rfl
   have p6 := hp 6 _ rfl
   have p7 := hp 7 _ rfl
   have p8 := hp 8 _ rfl
   have p9 := hp 9 _ rfl
   have p10 := hp 10 _ rfl
   have p11 := hp 11 _ rfl
   simp only [Nat.add_zero] at p0
   have hki : (k : Int) < (l.length : Int) := by omega
   have hk0 : (0 : Int) ≤ (k : Int) := by omega
   obtain ⟨wa, hwa⟩ : ∃ w1, wr.alloc (.cells #[.int .u8 t.kind, .string t.module, .string t.name, .int .i64 t.base, .int .i64 t.index, .int .i64 t.low, .int .i64 t.high, .slice X1 0 x1, .slice X2 0 x2, .slice X3 0 x3, .slice X4 0 x4, .int .i64 t.result] 50) = w1 := ⟨_, rfl⟩
   obtain ⟨w1, hw1⟩ : ∃ w1, wa.alloc (.cells #[.int .u8 t.kind, .string t.module, .string t.name, .int .i64 t.base, .int .i64 t.index, .int .i64 t.low, .int .i64 t.high, .slice Y1 0 y1, .slice Y2 0 y2, .slice Y3 0 y3, .slice Y4 0 y4, .int .i64 t.result] 50) = w1 := ⟨_, rfl⟩
   obtain ⟨g, hg⟩ : ∃ g, wr.heap.size = g := ⟨_, rfl⟩
   obtain ⟨g', hg'⟩ : ∃ g, wa.heap.size = g := ⟨_, rfl⟩
   have ra : Wr [] wr wa := by rw [← hwa]; exact (Wr.refl _ _).alloc _
   have rb : Wr [] wa w1 := by rw [← hw1]; exact (Wr.refl _ _).alloc _
   have bA : Blk w1 g 50 #[.int .u8 t.kind, .string t.module, .string t.name, .int .i64 t.base, .int .i64 t.index, .int .i64 t.low, .int .i64 t.high, .slice X1 0 x1, .slice X2 0 x2, .slice X3 0 x3, .slice X4 0 x4, .int .i64 t.result] := by rw [← hw1, ← hwa, ← hg]; exact (Blk.new _ _ _).alloc _
   have bB : Blk w1 g' 50 #[.int .u8 t.kind, .string t.module, .string t.name, .int .i64 t.base, .int .i64 t.index, .int .i64 t.low, .int .i64 t.high, .slice Y1 0 y1, .slice Y2 0 y2, .slice Y3 0 y3, .slice Y4 0 y4, .int .i64 t.result] := by rw [← hw1, ← hg']; exact Blk.new _ _ _
   have RK := Lib.hid ((rk.trans ra).trans rb)
   have HQ := Lib.hid (fun j u (h : ([.int .u8 t.kind, .string t.module, .string t.name, .int .i64 t.base, .int .i64 t.index, .int .i64 t.low, .int .i64 t.high, .slice Y1 0 y1, .slice Y2 0 y2, .slice Y3 0 y3, .slice Y4 0 y4, .int .i64 t.result] : List Value)[j]? = some u) => ra.cellOf (hq j u h) (by simp))
   have HWA := Lib.hid hwa
   have HW1 := Lib.hid hw1
   have HG := Lib.hid hg
   have HG' := Lib.hid hg'
   have BA := Lib.hid bA
   have BB := Lib.hid bB
   clear hp hq rk ra rb bA bB hwa hw1 hg hg'
   go_upto_region 6 with (fail)
   rw [HWA.out, HG.out]
   clear p0 p1 p2 p3 p4 p5 p6 p7 p8 p9 p10 p11
   have q0 := HQ.out 0 _ rfl
   have q1 := HQ.out 1 _ rfl
   have q2 := HQ.out 2 _ rfl
   have q3 := HQ.out 3 _ rfl
   have q4 := HQ.out 4 _ rfl
   have q5 := HQ.out 5 _ rfl
   have q6 := HQ.out 6 _ rfl
   have q7 := HQ.out 7 _ rfl
   have q8 := HQ.out 8 _ rfl
   have q9 := HQ.out 9 _ rfl
   have q10 := HQ.out 10 _ rfl
   have q11 := HQ.out 11 _ rfl
   simp only [Nat.add_zero] at q0
   go_upto_region 7 with (fail)
   rw [HW1.out, HG'.out]
   clear q0 q1 q2 q3 q4 q5 q6 q7 q8 q9 q10 q11
   have p0 := BA.out.cell 0
   have p1 := BA.out.cell 1
   have p2 := BA.out.cell 2
   have p3 := BA.out.cell 3
   have p4 := BA.out.cell 4
   have p5 := BA.out.cell 5
   have p6 := BA.out.cell 6
   have p7 := BA.out.cell 7
   have p8 := BA.out.cell 8
   have p9 := BA.out.cell 9
   have p10 := BA.out.cell 10
   have p11 := BA.out.cell 11
   simp only [qgaq, qgzq, qgsq] at p0 p1 p2 p3 p4 p5 p6 p7 p8 p9 p10 p11
   have q0 := BB.out.cell 0
   have q1 := BB.out.cell 1
   have q2 := BB.out.cell 2
   have q3 := BB.out.cell 3
   have q4 := BB.out.cell 4
   have q5 := BB.out.cell 5
   have q6 := BB.out.cell 6
   have q7 := BB.out.cell 7
   have q8 := BB.out.cell 8
   have q9 := BB.out.cell 9
   have q10 := BB.out.cell 10
   have q11 := BB.out.cell 11
   simp only [qgaq, qgzq, qgsq] at q0 q1 q2 q3 q4 q5 q6 q7 q8 q9 q10 q11
   go_wp2_with fail
   refine (HS.out _ _ _ _ _ _ _ _ _ _ _ _ _ _ _ _ _ _).mono ?_
   rintro e w2 ⟨rfl, r2⟩
   have R2 := Lib.hid (RK.out.trans r2)
   clear r2 p0 p1 p2 p3 p4 p5 p6 p7 p8 p9 p10 p11 q0 q1 q2 q3 q4 q5 q6 q7 q8 q9 q10 q11
   go_wp2_with fail
   go_roundw
   case rel => exact ⟨k + 1, by omega, by go_num, R2.out⟩
   case measure => simp [intOf]; omega
  ·obtain rfl : k = l.length := by omega
   have RK := Lib.hid rk
   clear rk
   go_wp2_with fail
   go_ret
   exact ⟨rfl, RK.out⟩
set_option maxRecDepth 100000 in
set_option maxHeartbeats 2000000 in
theorem sameNil (w : World) : Calls Tryz.prog 27 #[.nilIface, .nilIface] w (TrueR w) := by
 have H1 := Lib.hid (fun w => (sort_any (.nil) w : Calls Tryz.prog 59 #[.nilIface] w fun e w' => e = .returned (.tuple #[.int .u8 0, .bool true]) ∧ Wr [] w w'))
 have hgd : ∀ w, (eqGuard .eql 20 (.tmp 28) (.tmp 29) .nilIface .nilIface).run Tryz.prog w = .ok () w := fun w => by first | kernel_rfl | rfl
 go_enter Tryz.func27, Tryz.ntmps27
 go_wp2_with fail
 refine (H1.out _).mono ?_
 rintro e w1 ⟨rfl, r1⟩
 have R1 := Lib.hid r1
 clear r1
 go_wp2_with fail
 refine (H1.out _).mono ?_
 rintro e w2 ⟨rfl, r2⟩
 have R2 := Lib.hid (R1.out.trans r2)
 clear r2
 go_wp2_with fail
 go_ret
 exact ⟨rfl, R2.out⟩
set_option maxRecDepth 100000 in
set_option maxHeartbeats 4000000 in
theorem sameItm (x : ItmD) (w : World) : Calls Tryz.prog 26 #[.agg #[.string x.name, .int .u8 x.kind, .int .i64 x.type, .nilIface, .int .i64 x.at_], .agg #[.string x.name, .int .u8 x.kind, .int .i64 x.type, .nilIface, .int .i64 x.at_]] w (TrueR w) := by
 obtain ⟨w0, hw0⟩ : ∃ w0, (w.alloc (.cells #[.string x.name, .int .u8 x.kind, .int .i64 x.type, .nilIface, .int .i64 x.at_] 60)).alloc (.cells #[.string x.name, .int .u8 x.kind, .int .i64 x.type, .nilIface, .int .i64 x.at_] 60) = w0 := ⟨_, rfl⟩
 obtain ⟨g, hg⟩ : ∃ g, w.heap.size = g := ⟨_, rfl⟩
 have acc : Wr [] w w0 := by rw [← hw0]; exact ((Wr.refl _ _).alloc _).alloc _
 have bA : Blk w0 g 60 #[.string x.name, .int .u8 x.kind, .int .i64 x.type, .nilIface, .int .i64 x.at_] := by rw [← hw0, ← hg]; exact (Blk.new _ _ _).alloc _
 have bB : Blk w0 (g + 1) 60 #[.string x.name, .int .u8 x.kind, .int .i64 x.type, .nilIface, .int .i64 x.at_] := by
  have hb := Blk.new (w.alloc (.cells #[.string x.name, .int .u8 x.kind, .int .i64 x.type, .nilIface, .int .i64 x.at_] 60)) 60 #[.string x.name, .int .u8 x.kind, .int .i64 x.type, .nilIface, .int .i64 x.at_]
  rw [show (w.alloc (.cells #[.string x.name, .int .u8 x.kind, .int .i64 x.type, .nilIface, .int .i64 x.at_] 60)).heap.size = g + 1 by simp [hg], hw0] at hb
  exact hb
 have H1 := Lib.hid sameNil
 have HW0 := Lib.hid hw0
 have HG := Lib.hid hg
 have ACC := Lib.hid acc
 have BA := Lib.hid bA
 have BB := Lib.hid bB
 clear hw0 hg acc bA bB
 go_enter Tryz.func26, Tryz.ntmps26
 go_upto_region 1 with (fail)
 rw [HW0.out, HG.out]
 have p0 := BA.out.cell 0
 have p1 := BA.out.cell 1
 have p2 := BA.out.cell 2
 have p3 := BA.out.cell 3
 have p4 := BA.out.cell 4
 simp only [qgaq, qgzq, qgsq] at p0 p1 p2 p3 p4
 have q0 := BB.out.cell 0
 have q1 := BB.out.cell 1
 have q2 := BB.out.cell 2
 have q3 := BB.out.cell 3
 have q4 := BB.out.cell 4
 simp only [qgaq, qgzq, qgsq] at q0 q1 q2 q3 q4
 go_wp2_with fail
 refine (H1.out _).mono ?_
 rintro e w1 ⟨rfl, r1⟩
 go_wp2_with fail
 go_ret
 exact ⟨rfl, ACC.out.trans r1⟩
set_option maxRecDepth 100000 in
set_option maxHeartbeats 4000000 in
theorem eqItms (l : List ItmD) (v1 v2 : Value) (P Q : Nat → Prop) (w : World) (h1 : SlItms w P v1 l) (h2 : SlItms w Q v2 l) (hb : ∀ x ∈ l, x.v = .nil) (hn : l.length ≤ 1099511627776) :
  Calls Tryz.prog 25 #[v1, v2, .func (.func 26) #[] #[]] w (TrueR w) := by
 obtain ⟨A1, c1, e1, _, _⟩ := Sl.form h1
 obtain ⟨A2, c2, e2, _, _⟩ := Sl.form h2
 subst e1 e2
 have HL := Lib.hid h1
 have HM := Lib.hid h2
 have HB := Lib.hid hb
 have HS := Lib.hid sameItm
 clear h1 h2 hb
 go_enter Tryz.func25, Tryz.ntmps25
 go_wp2_with fail
 go_loopw [17] (fun s wr => EqAt w l.length s wr) (fun s _ => l.length - (intOf s).toNat)
 case atStart => exact ⟨0, Nat.zero_le _, rfl, Wr.refl _ _⟩
 case round =>
  obtain ⟨k, hk, rfl, rk⟩ := hrel
  by_cases hlt : k < l.length
  ·obtain ⟨x, hx⟩ : ∃ x, l[k]? = some x := ⟨_, List.getElem?_eq_getElem hlt⟩
   have hv := HB.out x (List.mem_of_getElem? hx)
   obtain ⟨b1, o1, d1, e1, _, hp⟩ := itm_at (Sl.wr0 HL.out rk) hx
   obtain ⟨b2, o2, d2, e2, _, hq⟩ := itm_at (Sl.wr0 HM.out rk) hx
   injection e1 with e1 _ e1'
   injection e2 with e2 _ e2'
   subst e1 e1' e2 e2'
   unfold ItmD.cells at hp hq
   rw [hv] at hp hq
   simp only [AnyD.val] at hp hq
   have p0 := hp 0 _ rfl
   have p1 := hp 1 _ rfl
   have p2 := hp 2 _ rfl
   have p3 := hp 3 _ rfl
   have p4 := hp 4 _ rfl
   simp only [Nat.add_zero] at p0
   have hki : (k : Int) < (l.length : Int) := by omega
   have hk0 : (0 : Int) ≤ (k : Int) := by omega
   obtain ⟨wa, hwa⟩ : ∃ w1, wr.alloc (.cells #[.string x.name, .int .u8 x.kind, .int .i64 x.type, .nilIface, .int .i64 x.at_] 60) = w1 := ⟨_, rfl⟩
   obtain ⟨w1, hw1⟩ : ∃ w1, wa.alloc (.cells #[.string x.name, .int .u8 x.kind, .int .i64 x.type, .nilIface, .int .i64 x.at_] 60) = w1 := ⟨_, rfl⟩
   obtain ⟨g, hg⟩ : ∃ g, wr.heap.size = g := ⟨_, rfl⟩
   obtain ⟨g', hg'⟩ : ∃ g, wa.heap.size = g := ⟨_, rfl⟩
   have ra : Wr [] wr wa := by rw [← hwa]; exact (Wr.refl _ _).alloc _
   have rb : Wr [] wa w1 := by rw [← hw1]; exact (Wr.refl _ _).alloc _
   have bA : Blk w1 g 60 #[.string x.name, .int .u8 x.kind, .int .i64 x.type, .nilIface, .int .i64 x.at_] := by rw [← hw1, ← hwa, ← hg]; exact (Blk.new _ _ _).alloc _
   have bB : Blk w1 g' 60 #[.string x.name, .int .u8 x.kind, .int .i64 x.type, .nilIface, .int .i64 x.at_] := by rw [← hw1, ← hg']; exact Blk.new _ _ _
   have RK := Lib.hid ((rk.trans ra).trans rb)
   have HQ := Lib.hid (fun j u (h : ([.string x.name, .int .u8 x.kind, .int .i64 x.type, .nilIface, .int .i64 x.at_] : List Value)[j]? = some u) => ra.cellOf (hq j u h) (by simp))
   have HWA := Lib.hid hwa
   have HW1 := Lib.hid hw1
   have HG := Lib.hid hg
   have HG' := Lib.hid hg'
   have BA := Lib.hid bA
   have BB := Lib.hid bB
   clear hp hq rk ra rb bA bB hwa hw1 hg hg'
   go_upto_region 6 with (fail)
   rw [HWA.out, HG.out]
   clear p0 p1 p2 p3 p4
   have q0 := HQ.out 0 _ rfl
   have q1 := HQ.out 1 _ rfl
   have q2 := HQ.out 2 _ rfl
   have q3 := HQ.out 3 _ rfl
   have q4 := HQ.out 4 _ rfl
   simp only [Nat.add_zero] at q0
   go_upto_region 7 with (fail)
   rw [HW1.out, HG'.out]
   clear q0 q1 q2 q3 q4
   have p0 := BA.out.cell 0
   have p1 := BA.out.cell 1
   have p2 := BA.out.cell 2
   have p3 := BA.out.cell 3
   have p4 := BA.out.cell 4
   simp only [qgaq, qgzq, qgsq] at p0 p1 p2 p3 p4
   have q0 := BB.out.cell 0
   have q1 := BB.out.cell 1
   have q2 := BB.out.cell 2
   have q3 := BB.out.cell 3
   have q4 := BB.out.cell 4
   simp only [qgaq, qgzq, qgsq] at q0 q1 q2 q3 q4
   go_wp2_with fail
   refine (HS.out _ _).mono ?_
   rintro e w2 ⟨rfl, r2⟩
   have R2 := Lib.hid (RK.out.trans r2)
   clear r2 p0 p1 p2 p3 p4 q0 q1 q2 q3 q4
   go_wp2_with fail
   go_roundw
   case rel => exact ⟨k + 1, by omega, by go_num, R2.out⟩
   case measure => simp [intOf]; omega
  ·obtain rfl : k = l.length := by omega
   have RK := Lib.hid rk
   clear rk
   go_wp2_with fail
   go_ret
   exact ⟨rfl, RK.out⟩
theorem same14_any (f : FaceD) (vu vt vi vu' vt' vi' : Value) (P Q : Nat → Prop) (w : World) (h1 : FaceL w P vu vt vi f) (h2 : FaceL w Q vu' vt' vi' f) (hu : f.uses = []) (ht : ∀ t ∈ f.types, t.bare) (hi : ∀ x ∈ f.items, x.v = .nil) (n1 : f.types.length ≤ 1099511627776) (n2 : f.items.length ≤ 1099511627776) :
  Calls Tryz.prog 15 #[.agg #[.string f.module, vu, vt, vi], .agg #[.string f.module, vu', vt', vi']] w (TrueR w) := by
 obtain ⟨⟨A1, a1, rfl, _, _⟩, ⟨B1, b1, rfl, _, _⟩, ⟨C1, c1, rfl, _, _⟩⟩ := h1.forms
 obtain ⟨⟨A2, a2, rfl, _, _⟩, ⟨B2, b2, rfl, _, _⟩, ⟨C2, c2, rfl, _, _⟩⟩ := h2.forms
 have hul : f.uses.length = 0 := by rw [hu]; rfl
 rw [hul] at h1 h2 ⊢
 obtain ⟨w0, hw0⟩ : ∃ w0, (w.alloc (.cells #[.string f.module, .slice A1 0 a1, .slice B1 f.types.length b1, .slice C1 f.items.length c1] 33)).alloc (.cells #[.string f.module, .slice A2 0 a2, .slice B2 f.types.length b2, .slice C2 f.items.length c2] 33) = w0 := ⟨_, rfl⟩
 obtain ⟨g, hg⟩ : ∃ g, w.heap.size = g := ⟨_, rfl⟩
 have acc : Wr [] w w0 := by rw [← hw0]; exact ((Wr.refl _ _).alloc _).alloc _
 have bA : Blk w0 g 33 #[.string f.module, .slice A1 0 a1, .slice B1 f.types.length b1, .slice C1 f.items.length c1] := by rw [← hw0, ← hg]; exact (Blk.new _ _ _).alloc _
 have bB : Blk w0 (g + 1) 33 #[.string f.module, .slice A2 0 a2, .slice B2 f.types.length b2, .slice C2 f.items.length c2] := by
  have hb := Blk.new (w.alloc (.cells #[.string f.module, .slice A1 0 a1, .slice B1 f.types.length b1, .slice C1 f.items.length c1] 33)) 33 #[.string f.module, .slice A2 0 a2, .slice B2 f.types.length b2, .slice C2 f.items.length c2]
  rw [show (w.alloc (.cells #[.string f.module, .slice A1 0 a1, .slice B1 f.types.length b1, .slice C1 f.items.length c1] 33)).heap.size = g + 1 by simp [hg], hw0] at hb
  exact hb
 have HI := Lib.hid (fun W (r : Wr [] w W) => eqItms f.items _ _ P Q W (Sl.wr0 h1.items r) (Sl.wr0 h2.items r) hi n2)
 have HT := Lib.hid (fun W (r : Wr [] w W) => eqTys f.types _ _ P Q W (h1.types.wr0 r) (h2.types.wr0 r) ht n1)
 have HU := Lib.hid eq0_use
 have HW0 := Lib.hid hw0
 have HG := Lib.hid hg
 have ACC := Lib.hid acc
 have BA := Lib.hid bA
 have BB := Lib.hid bB
 clear hw0 hg acc bA bB h1 h2 hu ht hi hul
 go_enter Tryz.func15, Tryz.ntmps15
 go_upto_region 1 with (fail)
 rw [HW0.out, HG.out]
 have p0 := BA.out.cell 0
 have p1 := BA.out.cell 1
 have p2 := BA.out.cell 2
 have p3 := BA.out.cell 3
 simp only [qgaq, qgzq, qgsq] at p0 p1 p2 p3
 have q0 := BB.out.cell 0
 have q1 := BB.out.cell 1
 have q2 := BB.out.cell 2
 have q3 := BB.out.cell 3
 simp only [qgaq, qgzq, qgsq] at q0 q1 q2 q3
 go_wp2_with fail
 refine (HI.out _ ACC.out).mono ?_
 rintro e w1 ⟨rfl, r1⟩
 have R1 := Lib.hid ((Wr.refl [] w0).trans r1)
 clear r1 p0 p1 p2 p3 q0 q1 q2 q3
 have p0 := (BA.out.wr0 R1.out).cell 0
 have p1 := (BA.out.wr0 R1.out).cell 1
 have p2 := (BA.out.wr0 R1.out).cell 2
 have p3 := (BA.out.wr0 R1.out).cell 3
 simp only [qgaq, qgzq, qgsq] at p0 p1 p2 p3
 have q0 := (BB.out.wr0 R1.out).cell 0
 have q1 := (BB.out.wr0 R1.out).cell 1
 have q2 := (BB.out.wr0 R1.out).cell 2
 have q3 := (BB.out.wr0 R1.out).cell 3
 simp only [qgaq, qgzq, qgsq] at q0 q1 q2 q3
 go_wp2_with fail
 refine (HU.out _ _ _ _ _).mono ?_
 rintro e w2 ⟨rfl, r2⟩
 have R2 := Lib.hid (R1.out.trans r2)
 clear r2 p0 p1 p2 p3 q0 q1 q2 q3
 have p0 := (BA.out.wr0 R2.out).cell 0
 have p1 := (BA.out.wr0 R2.out).cell 1
 have p2 := (BA.out.wr0 R2.out).cell 2
 have p3 := (BA.out.wr0 R2.out).cell 3
 simp only [qgaq, qgzq, qgsq] at p0 p1 p2 p3
 have q0 := (BB.out.wr0 R2.out).cell 0
 have q1 := (BB.out.wr0 R2.out).cell 1
 have q2 := (BB.out.wr0 R2.out).cell 2
 have q3 := (BB.out.wr0 R2.out).cell 3
 simp only [qgaq, qgzq, qgsq] at q0 q1 q2 q3
 go_wp2_with fail
 refine (HT.out _ (ACC.out.trans R2.out)).mono ?_
 rintro e w3 ⟨rfl, r3⟩
 have R3 := Lib.hid (R2.out.trans r3)
 clear r3 p0 p1 p2 p3 q0 q1 q2 q3
 have p0 := (BA.out.wr0 R3.out).cell 0
 have p1 := (BA.out.wr0 R3.out).cell 1
 have p2 := (BA.out.wr0 R3.out).cell 2
 have p3 := (BA.out.wr0 R3.out).cell 3
 simp only [qgaq, qgzq, qgsq] at p0 p1 p2 p3
 have q0 := (BB.out.wr0 R3.out).cell 0
 have q1 := (BB.out.wr0 R3.out).cell 1
 have q2 := (BB.out.wr0 R3.out).cell 2
 have q3 := (BB.out.wr0 R3.out).cell 3
 simp only [qgaq, qgzq, qgsq] at q0 q1 q2 q3
 go_wp2_with fail
 go_ret
 exact ⟨rfl, ACC.out.trans R3.out⟩
end Go.Proofs.YtmpbkfbjmmoapaaGreat

/- iface.Of, of the small interface of law 14: walked. No conditions. -/
namespace Go.Proofs.YtmpbkfbjmmoapaaGreat
open Go.RowKit
set_option linter.unusedVariables false
set_option linter.unusedSimpArgs false
def OfAt14 (w0 : World) (s : Value) (wr : World) : Prop := ∃ k : Nat, k ≤ 1 ∧ s = .int .i64 k ∧ Wr [] w0 wr
theorem alWr5 (w : World) (g : Nat) (a b c d e : Value) : Wr [g] w (((((w.setCell ⟨g, 0, none⟩ a).setCell ⟨g, 1, none⟩ b).setCell ⟨g, 2, none⟩ c).setCell ⟨g, 3, none⟩ d).setCell ⟨g, 4, none⟩ e) :=
 (((((Wr.refl _ _).setOn (by simp) _).setOn (by simp) _).setOn (by simp) _).setOn (by simp) _).setOn (by simp) _
theorem alBlk5 (w : World) (g : Nat) (t : TypeId) (a0 b0 c0 d0 e0 a b c d e : Value) (h : Blk w g t #[a0, b0, c0, d0, e0]) : Blk (((((w.setCell ⟨g, 0, none⟩ a).setCell ⟨g, 1, none⟩ b).setCell ⟨g, 2, none⟩ c).setCell ⟨g, 3, none⟩ d).setCell ⟨g, 4, none⟩ e) g t #[a, b, c, d, e] := by
 have := ((((h.set_ 0 a).set_ 1 b).set_ 2 c).set_ 3 d).set_ 4 e
 simpa using this
set_option maxRecDepth 100000 in
set_option maxHeartbeats 4000000 in
theorem ofSmall (gt gi : Nat) (w : World) (hi : Blk w gi 60 itL2.toArray) :
  Calls Tryz.prog 14 #[.agg #[.string ⟨#[77]⟩, .slice none 0 0, .slice (some ⟨gt, 0, none⟩) 3 3, .slice (some ⟨gi, 0, none⟩) 2 2], .string ⟨#[97]⟩] w fun e w' => e = .returned (.tuple #[.agg #[.string ⟨#[97]⟩, .int .u8 3, .int .i64 10, .nilIface, .int .i64 1], .bool true]) ∧ Wr [] w w' := by
 obtain ⟨w0, hw0⟩ : ∃ w0, (w.alloc (.cells #[.string ⟨#[77]⟩, .slice none 0 0, .slice (some ⟨gt, 0, none⟩) 3 3, .slice (some ⟨gi, 0, none⟩) 2 2] 33)).alloc (.cells #[.string ⟨#[]⟩, .int .u8 0, .int .i64 0, .nilIface, .int .i64 0] 60) = w0 := ⟨_, rfl⟩
 obtain ⟨g, hg⟩ : ∃ g, w.heap.size = g := ⟨_, rfl⟩
 have acc : Wr [] w w0 := by rw [← hw0]; exact ((Wr.refl _ _).alloc _).alloc _
 have bA : Blk w0 g 33 #[.string ⟨#[77]⟩, .slice none 0 0, .slice (some ⟨gt, 0, none⟩) 3 3, .slice (some ⟨gi, 0, none⟩) 2 2] := by rw [← hw0, ← hg]; exact (Blk.new _ _ _).alloc _
 have bB : Blk w0 (g + 1) 60 #[.string ⟨#[]⟩, .int .u8 0, .int .i64 0, .nilIface, .int .i64 0] := by
  have hb := Blk.new (w.alloc (.cells #[.string ⟨#[77]⟩, .slice none 0 0, .slice (some ⟨gt, 0, none⟩) 3 3, .slice (some ⟨gi, 0, none⟩) 2 2] 33)) 60 #[.string ⟨#[]⟩, .int .u8 0, .int .i64 0, .nilIface, .int .i64 0]
  rw [show (w.alloc (.cells #[.string ⟨#[77]⟩, .slice none 0 0, .slice (some ⟨gt, 0, none⟩) 3 3, .slice (some ⟨gi, 0, none⟩) 2 2] 33)).heap.size = g + 1 by simp [hg], hw0] at hb
  exact hb
 have HI := Lib.hid (show Blk w0 gi 60 #[.string ⟨#[105]⟩, .int .u8 3, .int .i64 11, .nilIface, .int .i64 0, .string ⟨#[97]⟩, .int .u8 3, .int .i64 10, .nilIface, .int .i64 1] from hi.wr0 acc)
 have HW0 := Lib.hid hw0
 have HG := Lib.hid hg
 have ACC := Lib.hid acc
 have BA := Lib.hid bA
 have BB := Lib.hid bB
 clear hw0 hg acc bA bB hi
 go_enter Tryz.func14, Tryz.ntmps14
 go_upto_region 1 with (fail)
 rw [HW0.out, HG.out]
 have p0 := BA.out.cell 0
 have p1 := BA.out.cell 1
 have p2 := BA.out.cell 2
 have p3 := BA.out.cell 3
 simp only [qgaq, qgzq, qgsq] at p0 p1 p2 p3
 go_wp2_with fail
 go_loopw [11] (fun s wr => OfAt14 w0 s wr) (fun s _ => 2 - (intOf s).toNat)
 case atStart => exact ⟨0, by omega, rfl, Wr.refl _ _⟩
 case round =>
  obtain ⟨k, hk, rfl, rk⟩ := hrel
  have RK := Lib.hid rk
  have hI := HI.out.wr0 rk
  have i0 := hI.cell 0
  have i1 := hI.cell 1
  have i2 := hI.cell 2
  have i3 := hI.cell 3
  have i4 := hI.cell 4
  have i5 := hI.cell 5
  have i6 := hI.cell 6
  have i7 := hI.cell 7
  have i8 := hI.cell 8
  have i9 := hI.cell 9
  simp only [qgaq, qgzq, qgsq] at i0 i1 i2 i3 i4 i5 i6 i7 i8 i9
  clear hI p0 p1 p2 p3
  have BZ := Lib.hid (BB.out.wr0 rk)
  have hgr : g + 1 < wr.heap.size := (BB.out.wr0 rk).lt
  clear rk
  rcases (show k = 0 ∨ k = 1 by omega) with rfl | rfl
  ·obtain ⟨w1, hw1⟩ : ∃ q, wr.alloc (.cells #[.string ⟨#[105]⟩, .int .u8 3, .int .i64 11, .nilIface, .int .i64 0] 60) = q := ⟨_, rfl⟩
   obtain ⟨z, hz⟩ : ∃ q, wr.heap.size = q := ⟨_, rfl⟩
   have r1 : Wr [] wr w1 := by rw [← hw1]; exact (Wr.refl _ _).alloc _
   have bz : Blk w1 z 60 #[.string ⟨#[105]⟩, .int .u8 3, .int .i64 11, .nilIface, .int .i64 0] := by rw [← hw1, ← hz]; exact Blk.new _ _ _
   have R1 := Lib.hid (RK.out.trans r1)
   have HW1 := Lib.hid hw1
   have HZ := Lib.hid hz
   have QZ := Lib.hid bz
   clear r1 hw1 hz bz
   go_upto_region 4 with (fail)
   rw [HW1.out, HZ.out]
   clear i0 i1 i2 i3 i4 i5 i6 i7 i8 i9
   have y0 := QZ.out.cell 0
   have y1 := QZ.out.cell 1
   have y2 := QZ.out.cell 2
   have y3 := QZ.out.cell 3
   have y4 := QZ.out.cell 4
   simp only [qgaq, qgzq, qgsq] at y0 y1 y2 y3 y4
   go_wp2_with fail
   go_roundw
   case rel => exact ⟨1, by omega, by go_num, R1.out⟩
   case measure => simp [intOf]
  ·obtain ⟨w1, hw1⟩ : ∃ q, wr.alloc (.cells #[.string ⟨#[97]⟩, .int .u8 3, .int .i64 10, .nilIface, .int .i64 1] 60) = q := ⟨_, rfl⟩
   obtain ⟨z, hz⟩ : ∃ q, wr.heap.size = q := ⟨_, rfl⟩
   have r1 : Wr [] wr w1 := by rw [← hw1]; exact (Wr.refl _ _).alloc _
   have bz : Blk w1 z 60 #[.string ⟨#[97]⟩, .int .u8 3, .int .i64 10, .nilIface, .int .i64 1] := by rw [← hw1, ← hz]; exact Blk.new _ _ _
   have R1 := Lib.hid (RK.out.trans r1)
   have BZ1 := Lib.hid (BZ.out.wr0 r1)
   have HW1 := Lib.hid hw1
   have HZ := Lib.hid hz
   have QZ := Lib.hid bz
   clear r1 hw1 hz bz
   go_upto_region 4 with (fail)
   rw [HW1.out, HZ.out]
   clear i0 i1 i2 i3 i4 i5 i6 i7 i8 i9
   have y0 := QZ.out.cell 0
   have y1 := QZ.out.cell 1
   have y2 := QZ.out.cell 2
   have y3 := QZ.out.cell 3
   have y4 := QZ.out.cell 4
   simp only [qgaq, qgzq, qgsq] at y0 y1 y2 y3 y4
   have x0 := BZ1.out.cell 0
   have x1 := BZ1.out.cell 1
   have x2 := BZ1.out.cell 2
   have x3 := BZ1.out.cell 3
   have x4 := BZ1.out.cell 4
   simp only [qgaq, qgzq, qgsq] at x0 x1 x2 x3 x4
   have z0 := BZ1.out.frozen 0
   have z1 := BZ1.out.frozen 1
   have z2 := BZ1.out.frozen 2
   have z3 := BZ1.out.frozen 3
   have z4 := BZ1.out.frozen 4
   go_wp2_with fail
   have r5 := alWr5 w1 (g + 1) (.string ⟨#[97]⟩) (.int .u8 3) (.int .i64 10) .nilIface (.int .i64 1)
   have b5 := alBlk5 w1 (g + 1) 60 _ _ _ _ _ (.string ⟨#[97]⟩) (.int .u8 3) (.int .i64 10) .nilIface (.int .i64 1) BZ1.out
   have t0 := b5.cell 0
   have t1 := b5.cell 1
   have t2 := b5.cell 2
   have t3 := b5.cell 3
   have t4 := b5.cell 4
   simp only [qgaq, qgzq, qgsq] at t0 t1 t2 t3 t4
   refine bodyPost_ret (v := .tuple #[.agg #[.string ⟨#[97]⟩, .int .u8 3, .int .i64 10, .nilIface, .int .i64 1], .bool true]) ?_ rfl ⟨rfl, (ACC.out.trans R1.out).new r5 (by have := HG.out; omega)⟩
   simp [results, Tryz.results14, go_sem, t0, t1, t2, t3, t4]
end Go.Proofs.YtmpbkfbjmmoapaaGreat
