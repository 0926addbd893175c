/- obj.Decode: walked. Conditions: what is read is no longer than memory. -/
import Derived.Test.YtildcdgobdfieaaGreatRD25
import Derived.Test.YtildcdgobdfieaaGreatRD24
set_option linter.unusedVariables false
set_option linter.unusedSimpArgs false
set_option maxRecDepth 100000
set_option maxHeartbeats 32000000
namespace Go.Proofs.YtildcdgobdfieaaGreat
open Go.RowKit
theorem wr_set9 (w : World) (z : Nat) (u0 u1 u2 u3 u4 u5 u6 u7 u8 : Value) : Wr [z] w (((((((((w.setCell ⟨z, 0, none⟩ u0).setCell ⟨z, 1, none⟩ u1).setCell ⟨z, 2, none⟩ u2).setCell ⟨z, 3, none⟩ u3).setCell ⟨z, 4, none⟩ u4).setCell ⟨z, 5, none⟩ u5).setCell ⟨z, 6, none⟩ u6).setCell ⟨z, 7, none⟩ u7).setCell ⟨z, 8, none⟩ u8) :=
 (((((((((Wr.refl [z] w).setOn (by simp) _).setOn (by simp) _).setOn (by simp) _).setOn (by simp) _).setOn (by simp) _).setOn (by simp) _).setOn (by simp) _).setOn (by simp) _).setOn (by simp) _
theorem blk_set9 {w : World} {z : Nat} {T : TypeId} {x0 x1 x2 x3 x4 x5 x6 x7 x8 : Value} (h : Blk w z T #[x0, x1, x2, x3, x4, x5, x6, x7, x8]) (u0 u1 u2 u3 u4 u5 u6 u7 u8 : Value) : Blk (((((((((w.setCell ⟨z, 0, none⟩ u0).setCell ⟨z, 1, none⟩ u1).setCell ⟨z, 2, none⟩ u2).setCell ⟨z, 3, none⟩ u3).setCell ⟨z, 4, none⟩ u4).setCell ⟨z, 5, none⟩ u5).setCell ⟨z, 6, none⟩ u6).setCell ⟨z, 7, none⟩ u7).setCell ⟨z, 8, none⟩ u8) z T #[u0, u1, u2, u3, u4, u5, u6, u7, u8] := by
 have := (((((((((h.set_ 0 u0).set_ 1 u1).set_ 2 u2).set_ 3 u3).set_ 4 u4).set_ 5 u5).set_ 6 u6).set_ 7 u7).set_ 8 u8)
 simpa using this
theorem wr_own2 {w W W' : World} {b z : Nat} (h : Wr [b] w W) (k : Wr [z] W W') (hb : w.heap.size ≤ b) (hz : w.heap.size ≤ z) : Wr [] w W' :=
 ⟨k.os.trans h.os, k.tape.trans h.tape, k.output.trans h.output, Nat.le_trans h.size k.size, fun j hj _ => (k.block j (Nat.lt_of_lt_of_le hj h.size) (by rw [qmsq]; omega)).trans (h.block j hj (by rw [qmsq]; omega))⟩
section
variable {T : TypeId} {b z m : Nat} {w w' : World}
theorem sl_bb {v : Value} {n size : Nat} {xs : List Value} (h : Sl w (fun x => m < x) size v n xs) (k : Wr [b] w w') (hb : b ≤ m) : Sl w' (fun x => m < x) size v n xs :=
 h.keep k (fun x hx => by rw [qmsq]; omega)
theorem sl_zb {v : Value} {n size : Nat} {xs : List Value} (h : Sl w (fun x => m < x) size v n xs) (hz : z ≤ m) (j : Nat) (u : Value) : Sl (w.setCell ⟨z, j, none⟩ u) (fun x => m < x) size v n xs :=
 h.keep ((Wr.refl [z] w).setOn (by simp) u) (fun x hx => by rw [qmsq]; omega)
end
def ODecR (q : ObjD × Int) (w : World) (e : Ending) (w' : World) : Prop :=
 ∃ vu vp vi vn, e = .returned (.tuple #[q.1.val vu vp vi vn, .int .i64 q.2]) ∧ Wr [] w w' ∧ ObjL w' (fun x => w.heap.size ≤ x) vu vp vi vn q.1
theorem noObjL (w : World) (P : Nat → Prop) : ObjL w P (.slice none 0 0) (.slice none 0 0) (.slice none 0 0) (.slice none 0 0) noObj := ⟨Sl.nil _ _ 2, Sl.nil _ _ 6, Sl.nil _ _ 1, Sl.nil _ _ 1⟩
theorem zero_ans {w w' : World} {n : Int} (h : Wr [] w w') : ODecR (noObj, n) w (.returned (.tuple #[.agg #[.string ⟨#[]⟩, .bool false, .int .u64 0, .slice none 0 0, .string ⟨#[]⟩, .slice none 0 0, .slice none 0 0, .int .i64 0, .slice none 0 0], .int .i64 n])) w' := ⟨_, _, _, _, rfl, h, noObjL _ _⟩
theorem odec_head (l : List UInt8) (hl : l.length ≤ maxLen) (h : headP objKind l = none) (w : World) :
  Calls Tryz.prog 19 #[.string (ansS l)] w (ODecR (noObj, 7) w) := by
 have HBD := qh (fun w => body_no objKind l hl h w)
 have zn := Blk.new w 30 #[.string ⟨#[]⟩, .bool false, .int .u64 0, .slice none 0 0, .string ⟨#[]⟩, .slice none 0 0, .slice none 0 0, .int .i64 0, .slice none 0 0]
 have rn := (Wr.refl [] w).alloc (.cells #[.string ⟨#[]⟩, .bool false, .int .u64 0, .slice none 0 0, .string ⟨#[]⟩, .slice none 0 0, .slice none 0 0, .int .i64 0, .slice none 0 0] 30)
 obtain ⟨wn, hwn⟩ : ∃ q, w.alloc (.cells #[.string ⟨#[]⟩, .bool false, .int .u64 0, .slice none 0 0, .string ⟨#[]⟩, .slice none 0 0, .slice none 0 0, .int .i64 0, .slice none 0 0] 30) = q := ⟨_, rfl⟩
 obtain ⟨z, hz⟩ : ∃ q, w.heap.size = q := ⟨_, rfl⟩
 rw [hwn] at zn rn
 rw [hz] at zn
 have hwz : w.heap.size ≤ z := by omega
 have HWN := qh hwn
 have HZ := qh hz
 have RN := qh rn
 have ZN := qh zn
 clear hwn hz rn zn
 clear h
 go_in
 go_upto_region 1 with (fail)
 rw [HZ.out, HWN.out]
 go_wp2_with fail
 refine (HBD.out _).mono ?_
 rintro e w1 ⟨rfl, k1⟩
 have z1 := ZN.out.wr0 k1
 obtain ⟨y0, y1, y2, y3, y4, y5, y6, y7, y8⟩ := c9q (z1)
 obtain ⟨f0, f1, f2, f3, f4, f5, f6, f7, f8⟩ := z9q (z1)
 have Z1 := qh z1
 have K1 := qh k1
 clear z1 k1
 go_wp2_with fail
 refine bodyPost_ret (v := .tuple #[.agg #[.string ⟨#[]⟩, .bool false, .int .u64 0, .slice none 0 0, .string ⟨#[]⟩, .slice none 0 0, .slice none 0 0, .int .i64 0, .slice none 0 0], .int .i64 7]) ?_ rfl ?_
 ·have h9 := blk_set9 Z1.out (.string ⟨#[]⟩) (.bool false) (.int .u64 0) (.slice none 0 0) (.string ⟨#[]⟩) (.slice none 0 0) (.slice none 0 0) (.int .i64 0) (.slice none 0 0)
  obtain ⟨t0, t1, t2, t3, t4, t5, t6, t7, t8⟩ := c9q (h9)
  simp [results, Tryz.results19, go_sem, t0, t1, t2, t3, t4, t5, t6, t7, t8]
 ·exact zero_ans (wr_own2 ((RN.out.trans K1.out).nil (l := [z])) (wr_set9 _ z _ _ _ _ _ _ _ _ _) hwz hwz)
theorem odec_key (l : List UInt8) (hl : l.length ≤ maxLen) (k : Nat) (s : List UInt8) (h : headP objKind l = some (k, s)) (hk : k ≠ keyL s) (hs : s.length ≤ maxLen) (w : World) :
  Calls Tryz.prog 19 #[.string (ansS l)] w (ODecR (noObj, 210) w) := by
 have HBD := qh (fun w => body_yes objKind l hl k s h w)
 have hof := fun w => of_any (ansS s) (by rw [ansS_size]; exact hs) w
 rw [show ofN (moreN 14695981039346656037 (natsOf (ansS s))) = keyL s from rfl] at hof
 have n1 : ¬ ((k : Int) = (keyL s : Int)) := by omega
 have n2 : ((k : Int) == (keyL s : Int)) = false := by simp only [beq_eq_false_iff_ne, ne_eq]; exact n1
 have n3 : ¬ (k = keyL s) := hk
 have n4 : (k == keyL s) = false := by simpa using hk
 generalize keyL s = K at *
 have HOF := qh hof
 have zn := Blk.new w 30 #[.string ⟨#[]⟩, .bool false, .int .u64 0, .slice none 0 0, .string ⟨#[]⟩, .slice none 0 0, .slice none 0 0, .int .i64 0, .slice none 0 0]
 have rn := (Wr.refl [] w).alloc (.cells #[.string ⟨#[]⟩, .bool false, .int .u64 0, .slice none 0 0, .string ⟨#[]⟩, .slice none 0 0, .slice none 0 0, .int .i64 0, .slice none 0 0] 30)
 obtain ⟨wn, hwn⟩ : ∃ q, w.alloc (.cells #[.string ⟨#[]⟩, .bool false, .int .u64 0, .slice none 0 0, .string ⟨#[]⟩, .slice none 0 0, .slice none 0 0, .int .i64 0, .slice none 0 0] 30) = q := ⟨_, rfl⟩
 obtain ⟨z, hz⟩ : ∃ q, w.heap.size = q := ⟨_, rfl⟩
 rw [hwn] at zn rn
 rw [hz] at zn
 have hwz : w.heap.size ≤ z := by omega
 have HWN := qh hwn
 have HZ := qh hz
 have RN := qh rn
 have ZN := qh zn
 clear hwn hz rn zn
 clear h hk hof
 go_in
 go_upto_region 1 with (fail)
 rw [HZ.out, HWN.out]
 go_wp2_with fail
 refine (HBD.out _).mono ?_
 rintro e w1 ⟨rfl, k1⟩
 go_wp2_with fail
 refine (HOF.out _).mono ?_
 rintro e w2 ⟨rfl, rfl⟩
 have z1 := ZN.out.wr0 k1
 obtain ⟨y0, y1, y2, y3, y4, y5, y6, y7, y8⟩ := c9q (z1)
 obtain ⟨f0, f1, f2, f3, f4, f5, f6, f7, f8⟩ := z9q (z1)
 have Z1 := qh z1
 have K1 := qh k1
 clear z1 k1
 go_wp2_with fail
 refine bodyPost_ret (v := .tuple #[.agg #[.string ⟨#[]⟩, .bool false, .int .u64 0, .slice none 0 0, .string ⟨#[]⟩, .slice none 0 0, .slice none 0 0, .int .i64 0, .slice none 0 0], .int .i64 210]) ?_ rfl ?_
 ·have h9 := blk_set9 Z1.out (.string ⟨#[]⟩) (.bool false) (.int .u64 0) (.slice none 0 0) (.string ⟨#[]⟩) (.slice none 0 0) (.slice none 0 0) (.int .i64 0) (.slice none 0 0)
  obtain ⟨t0, t1, t2, t3, t4, t5, t6, t7, t8⟩ := c9q (h9)
  simp [results, Tryz.results19, go_sem, t0, t1, t2, t3, t4, t5, t6, t7, t8]
 ·exact zero_ans (wr_own2 ((RN.out.trans K1.out).nil (l := [z])) (wr_set9 _ z _ _ _ _ _ _ _ _ _) hwz hwz)
theorem odec_read (l : List UInt8) (hl : l.length ≤ maxLen) (s : List UInt8) (h : headP objKind l = some (keyL s, s)) (hs : s.length ≤ maxLen) (w : World) :
  Calls Tryz.prog 19 #[.string (ansS l)] w (ODecR (decodeP l) w) := by
 have hq : decodeP l = if (Rd.obj ⟨s, false⟩).2.bad || !((Rd.obj ⟨s, false⟩).2.s).isEmpty || !objB (Rd.obj ⟨s, false⟩).1 then (noObj, 7) else ((Rd.obj ⟨s, false⟩).1, 0) := by
  unfold decodeP
  rw [h]
  simp only [ne_eq, not_true_eq_false, if_false]
 obtain ⟨q, hqq⟩ : ∃ q, decodeP l = q := ⟨_, rfl⟩
 rw [hqq] at hq ⊢
 have HBD := qh (fun w => body_yes objKind l hl (keyL s) s h w)
 have hof := fun w => of_any (ansS s) (by rw [ansS_size]; exact hs) w
 rw [show ofN (moreN 14695981039346656037 (natsOf (ansS s))) = keyL s from rfl] at hof
 obtain ⟨r, hr⟩ : ∃ r : Rd, Rd.mk s false = r := ⟨_, rfl⟩
 rw [hr] at hq
 obtain ⟨p0, hp0⟩ : ∃ p, Rd.text r = p := ⟨_, rfl⟩
 obtain ⟨v0, r0⟩ := p0
 obtain ⟨p1, hp1⟩ : ∃ p, Rd.truth r0 = p := ⟨_, rfl⟩
 obtain ⟨v1, r1⟩ := p1
 obtain ⟨p2, hp2⟩ : ∃ p, Rd.num r1 8 = p := ⟨_, rfl⟩
 obtain ⟨v2, r2⟩ := p2
 obtain ⟨p3, hp3⟩ : ∃ p, Rd.num r2 1 = p := ⟨_, rfl⟩
 obtain ⟨v3, r3⟩ := p3
 obtain ⟨p4, hp4⟩ : ∃ p, Rd.list Rd.use v3 r3 = p := ⟨_, rfl⟩
 obtain ⟨v4, r4⟩ := p4
 obtain ⟨p5, hp5⟩ : ∃ p, Rd.module r4 = p := ⟨_, rfl⟩
 obtain ⟨v5, r5⟩ := p5
 have hob : Rd.obj r = (⟨v0, v1, (v2 : Int), v4, v5⟩, r5) := by
  unfold Rd.obj
  simp only [hp0, hp1, hp2, hp3, hp4, hp5]
 rw [hob] at hq
 simp only at hq
 have l3 := num_ltO (k := 1) (by omega) r2
 rw [hp3] at l3
 simp only at l3
 have h0 := fun W (b : Nat) (hW : RdO W b r) => text_o b r W hW
 rw [hp0] at h0
 simp only at h0
 have H0 := qh h0
 have h1 := fun W (b : Nat) (hW : RdO W b r0) => truth_o b r0 W hW
 rw [hp1] at h1
 simp only at h1
 have H1 := qh h1
 have h2 := fun W (b : Nat) (hW : RdO W b r1) => number_o b 8 r1 (by decide) W hW
 rw [hp2] at h2
 simp only at h2
 have H2 := qh h2
 have h3 := fun W (b : Nat) (hW : RdO W b r2) => one_o b r2 W hW
 unfold Rd.one at h3
 rw [hp3] at h3
 simp only at h3
 have H3 := qh h3
 have h4 := fun W (b : Nat) (hW : RdO W b r3) => list_use b v3 (by omega) r3 W hW
 unfold OListR at h4
 rw [hp4] at h4
 simp only at h4
 have H4 := qh h4
 have h5 := fun W (b : Nat) (hW : RdO W b r4) => omodule_o b r4 W hW
 unfold OModR at h5
 rw [hp5] at h5
 simp only at h5
 have H5 := qh h5
 clear hob h0 hp0 h1 hp1 h2 hp2 h3 hp3 h4 hp4 h5 hp5
 have HQ := qh hq
 have HR := qh hr
 clear h hqq hr hq
 generalize keyL s = K at *
 have HOF := qh hof
 have zn := Blk.new w 30 #[.string ⟨#[]⟩, .bool false, .int .u64 0, .slice none 0 0, .string ⟨#[]⟩, .slice none 0 0, .slice none 0 0, .int .i64 0, .slice none 0 0]
 have rn := (Wr.refl [] w).alloc (.cells #[.string ⟨#[]⟩, .bool false, .int .u64 0, .slice none 0 0, .string ⟨#[]⟩, .slice none 0 0, .slice none 0 0, .int .i64 0, .slice none 0 0] 30)
 obtain ⟨wn, hwn⟩ : ∃ q, w.alloc (.cells #[.string ⟨#[]⟩, .bool false, .int .u64 0, .slice none 0 0, .string ⟨#[]⟩, .slice none 0 0, .slice none 0 0, .int .i64 0, .slice none 0 0] 30) = q := ⟨_, rfl⟩
 obtain ⟨z, hz⟩ : ∃ q, w.heap.size = q := ⟨_, rfl⟩
 rw [hwn] at zn rn
 rw [hz] at zn
 have hwz : w.heap.size ≤ z := by omega
 have HWN := qh hwn
 have HZ := qh hz
 have RN := qh rn
 have ZN := qh zn
 clear hwn hz rn zn
 clear hof
 go_in
 go_upto_region 1 with (fail)
 rw [HZ.out, HWN.out]
 go_wp2_with fail
 refine (HBD.out _).mono ?_
 rintro e w1 ⟨rfl, k1⟩
 go_wp2_with fail
 refine (HOF.out _).mono ?_
 rintro e w2 ⟨rfl, rfl⟩
 have z1 := ZN.out.wr0 k1
 have r1 := RN.out.trans k1
 have zl := z1.lt
 have bn := Blk.new w1 109 #[.string (ansS s), .bool false]
 have kb := (Wr.refl [] w1).alloc (.cells #[.string (ansS s), .bool false] 109)
 have zb := z1.wr0 kb
 have rb := r1.trans kb
 go_upto_region 7 with (fail)
 generalize w1.alloc (.cells #[.string (ansS s), .bool false] 109) = wb at *
 generalize w1.heap.size = b at *
 have hzb : z ≠ b := by omega
 have hzb2 : z ≤ b := by omega
 have hwb : w.heap.size ≤ b := by omega
 have bn2 : RdO wb b r := by rw [← HR.out]; exact bn
 have M0 : Hid (MdS 30 b z w r #[.string ⟨#[]⟩, .bool false, .int .u64 0, .slice none 0 0, .string ⟨#[]⟩, .slice none 0 0, .slice none 0 0, .int .i64 0, .slice none 0 0] wb) := qh ⟨zb, bn2, rb.nil⟩
 have hmf : ∀ (fn : Fn) (first cap : Array Value) (w : World), (Instr.makeFunc fn first cap).run Tryz.prog w = .ok (.func fn first cap) w := fun _ _ _ _ => rfl
 clear z1 r1 zl bn kb zb rb bn2 k1
 go_wp2_with fail
 refine (H0.out _ b M0.out.rd).mono ?_
 rintro e w11 ⟨rfl, k11, b11⟩
 have m11 := M0.out.call k11 hzb b11
 have M11 := qh m11
 clear m11 k11 b11
 go_wp2_with fail
 refine (H1.out _ b M11.out.rd).mono ?_
 rintro e w12 ⟨rfl, k12, b12⟩
 have m12 := M11.out.call k12 hzb b12
 have M12 := qh m12
 clear m12 k12 b12
 have mm := M12.out
 obtain ⟨f0, f1⟩ := z2q mm.blk
 have y0 := mm.blk.cell 0
 simp only [qgaq, qgzq, qgsq] at y0
 have y1 := mm.blk.cell 1
 simp only [qgaq, qgzq, qgsq] at y1
 have mz := mm
 replace mz := mz.set hzb hwz 0 (.string v0)
 replace mz := mz.set hzb hwz 1 (.bool v1)
 simp only [qsaq, qszq, qssq] at mz
 have M13 := qh mz
 clear mm mz
 go_upto_region 8 with (fail)
 generalize ((w12.setCell ⟨z, 0, none⟩ (.string v0)).setCell ⟨z, 1, none⟩ (.bool v1)) = w13 at *
 clear f0 y0 f1 y1
 go_wp2_with fail
 refine (H2.out _ b M13.out.rd).mono ?_
 rintro e w14 ⟨rfl, k14, b14⟩
 have m14 := M13.out.call k14 hzb b14
 have M14 := qh m14
 clear m14 k14 b14
 have mm := M14.out
 have f2 := mm.blk.frozen 2
 have y2 := mm.blk.cell 2
 simp only [qgaq, qgzq, qgsq] at y2
 have mz := mm
 replace mz := mz.set hzb hwz 2 (.int .u64 (v2 : Int))
 simp only [qsaq, qszq, qssq] at mz
 have M15 := qh mz
 clear mm mz
 go_upto_region 9 with (fail)
 generalize (w14.setCell ⟨z, 2, none⟩ (.int .u64 (v2 : Int))) = w15 at *
 clear f2 y2
 go_wp2_with fail
 refine (H3.out _ b M15.out.rd).mono ?_
 rintro e w16 ⟨rfl, k16, b16⟩
 have m16 := M15.out.call k16 hzb b16
 have M16 := qh m16
 clear m16 k16 b16
 go_wp2_with fail
 refine (H4.out _ b M16.out.rd).mono ?_
 rintro e w17 ⟨xu, rfl, k17, b17, ownu⟩
 have m17 := M16.out.call k17 hzb b17
 have slu := sl_own (z := b) ownu M16.out.rd.lt
 obtain ⟨Au, cu, rfl, _, _⟩ := Sl.form slu
 have M17 := qh m17
 clear m17 k17 b17
 have Lu := qh slu
 clear slu ownu
 have mm := M17.out
 have f3 := mm.blk.frozen 3
 have y3 := mm.blk.cell 3
 simp only [qgaq, qgzq, qgsq] at y3
 have mz := mm
 replace mz := mz.set hzb hwz 3 (.slice Au v4.length cu)
 simp only [qsaq, qszq, qssq] at mz
 have Lun := (sl_zb Lu.out hzb2 3 (.slice Au v4.length cu))
 have Lu := qh Lun
 clear Lun
 have M18 := qh mz
 clear mm mz
 go_upto_region 10 with (fail)
 generalize (w17.setCell ⟨z, 3, none⟩ (.slice Au v4.length cu)) = w18 at *
 clear f3 y3
 go_wp2_with fail
 refine (H5.out _ b M18.out.rd).mono ?_
 rintro e w19 ⟨xp, xi, xn, rfl, k19, b19, ml⟩
 have m19 := M18.out.call k19 hzb b19
 have Lun := sl_bb Lu.out k19 (Nat.le_refl b)
 have Lu := qh Lun
 clear Lun
 have slp := Sl.mono (Q := fun x => b < x) ml.procs (fun x hx => Nat.lt_of_lt_of_le M18.out.rd.lt hx)
 have sli := Sl.mono (Q := fun x => b < x) ml.imports (fun x hx => Nat.lt_of_lt_of_le M18.out.rd.lt hx)
 have sln := Sl.mono (Q := fun x => b < x) ml.init (fun x hx => Nat.lt_of_lt_of_le M18.out.rd.lt hx)
 obtain ⟨Ap, cp, rfl, _, _⟩ := Sl.form slp
 obtain ⟨Ai, ci, rfl, _, _⟩ := Sl.form sli
 obtain ⟨An, cn, rfl, _, _⟩ := Sl.form sln
 unfold ModD.val ModD.cells
 have M19 := qh m19
 clear m19 k19 b19
 have Lp := qh slp
 have Li := qh sli
 have Ln := qh sln
 clear slp sli sln ml
 have mm := M19.out
 have f4 := mm.blk.frozen 4
 have y4 := mm.blk.cell 4
 simp only [qgaq, qgzq, qgsq] at y4
 have f5 := mm.blk.frozen 5
 have y5 := mm.blk.cell 5
 simp only [qgaq, qgzq, qgsq] at y5
 have f6 := mm.blk.frozen 6
 have y6 := mm.blk.cell 6
 simp only [qgaq, qgzq, qgsq] at y6
 have f7 := mm.blk.frozen 7
 have y7 := mm.blk.cell 7
 simp only [qgaq, qgzq, qgsq] at y7
 have f8 := mm.blk.frozen 8
 have y8 := mm.blk.cell 8
 simp only [qgaq, qgzq, qgsq] at y8
 have mz := mm
 replace mz := mz.set hzb hwz 4 (.string v5.code)
 replace mz := mz.set hzb hwz 5 (.slice Ap v5.procs.length cp)
 replace mz := mz.set hzb hwz 6 (.slice Ai v5.imports.length ci)
 replace mz := mz.set hzb hwz 7 (.int .i64 v5.data)
 replace mz := mz.set hzb hwz 8 (.slice An v5.init.length cn)
 simp only [qsaq, qszq, qssq] at mz
 have Lun := (sl_zb (sl_zb (sl_zb (sl_zb (sl_zb Lu.out hzb2 4 (.string v5.code)) hzb2 5 (.slice Ap v5.procs.length cp)) hzb2 6 (.slice Ai v5.imports.length ci)) hzb2 7 (.int .i64 v5.data)) hzb2 8 (.slice An v5.init.length cn))
 have Lpn := (sl_zb (sl_zb (sl_zb (sl_zb (sl_zb Lp.out hzb2 4 (.string v5.code)) hzb2 5 (.slice Ap v5.procs.length cp)) hzb2 6 (.slice Ai v5.imports.length ci)) hzb2 7 (.int .i64 v5.data)) hzb2 8 (.slice An v5.init.length cn))
 have Lin := (sl_zb (sl_zb (sl_zb (sl_zb (sl_zb Li.out hzb2 4 (.string v5.code)) hzb2 5 (.slice Ap v5.procs.length cp)) hzb2 6 (.slice Ai v5.imports.length ci)) hzb2 7 (.int .i64 v5.data)) hzb2 8 (.slice An v5.init.length cn))
 have Lnn := (sl_zb (sl_zb (sl_zb (sl_zb (sl_zb Ln.out hzb2 4 (.string v5.code)) hzb2 5 (.slice Ap v5.procs.length cp)) hzb2 6 (.slice Ai v5.imports.length ci)) hzb2 7 (.int .i64 v5.data)) hzb2 8 (.slice An v5.init.length cn))
 have Lu := qh Lun
 clear Lun
 have Lp := qh Lpn
 clear Lpn
 have Li := qh Lin
 clear Lin
 have Ln := qh Lnn
 clear Lnn
 have M20 := qh mz
 clear mm mz
 go_upto_region 11 with (fail)
 generalize (((((w19.setCell ⟨z, 4, none⟩ (.string v5.code)).setCell ⟨z, 5, none⟩ (.slice Ap v5.procs.length cp)).setCell ⟨z, 6, none⟩ (.slice Ai v5.imports.length ci)).setCell ⟨z, 7, none⟩ (.int .i64 v5.data)).setCell ⟨z, 8, none⟩ (.slice An v5.init.length cn)) = w20 at *
 clear f4 y4 f5 y5 f6 y6 f7 y7 f8 y8
 obtain ⟨rs, rbad⟩ := r5
 obtain ⟨cb0, cb1⟩ := c2q M20.out.rd
 have y0 := (M20.out.blk).cell 0
 have y1 := (M20.out.blk).cell 1
 have y2 := (M20.out.blk).cell 2
 have y3 := (M20.out.blk).cell 3
 have y4 := (M20.out.blk).cell 4
 have y5 := (M20.out.blk).cell 5
 have y6 := (M20.out.blk).cell 6
 have y7 := (M20.out.blk).cell 7
 have y8 := (M20.out.blk).cell 8
 simp only [qgaq, qgzq, qgsq] at y0 y1 y2 y3 y4 y5 y6 y7 y8
 obtain ⟨f0, f1, f2, f3, f4, f5, f6, f7, f8⟩ := z9q (M20.out.blk)
 cases rbad with
 | true =>
  have hans : q = (noObj, 7) := by rw [HQ.out]; rfl
  have HANS := qh hans
  clear hans
  go_wp2_with fail
  refine bodyPost_ret (v := .tuple #[.agg #[.string ⟨#[]⟩, .bool false, .int .u64 0, .slice none 0 0, .string ⟨#[]⟩, .slice none 0 0, .slice none 0 0, .int .i64 0, .slice none 0 0], .int .i64 7]) ?_ rfl ?_
  ·have h9 := blk_set9 M20.out.blk (.string ⟨#[]⟩) (.bool false) (.int .u64 0) (.slice none 0 0) (.string ⟨#[]⟩) (.slice none 0 0) (.slice none 0 0) (.int .i64 0) (.slice none 0 0)
   obtain ⟨t0, t1, t2, t3, t4, t5, t6, t7, t8⟩ := c9q (h9)
   simp [results, Tryz.results19, go_sem, t0, t1, t2, t3, t4, t5, t6, t7, t8]
  ·rw [HANS.out]
   exact zero_ans (wr_own2 M20.out.wr (wr_set9 _ z _ _ _ _ _ _ _ _ _) hwb hwz)
 | false =>
  cases hrs : rs with
  | cons c rs' =>
   have n1 : (ansS (c :: rs')).toList.isEmpty = false := by rw [ansS_list]; rfl
   have n2 : ¬ (ansS (c :: rs')).toList = [] := by rw [ansS_list]; simp
   rw [hrs] at cb0
   generalize ansS (c :: rs') = S9 at *
   have hans : q = (noObj, 7) := by rw [HQ.out, hrs]; rfl
   have HANS := qh hans
   clear hans hrs
   go_wp2_with fail
   refine bodyPost_ret (v := .tuple #[.agg #[.string ⟨#[]⟩, .bool false, .int .u64 0, .slice none 0 0, .string ⟨#[]⟩, .slice none 0 0, .slice none 0 0, .int .i64 0, .slice none 0 0], .int .i64 7]) ?_ rfl ?_
   ·have h9 := blk_set9 M20.out.blk (.string ⟨#[]⟩) (.bool false) (.int .u64 0) (.slice none 0 0) (.string ⟨#[]⟩) (.slice none 0 0) (.slice none 0 0) (.int .i64 0) (.slice none 0 0)
    obtain ⟨t0, t1, t2, t3, t4, t5, t6, t7, t8⟩ := c9q (h9)
    simp [results, Tryz.results19, go_sem, t0, t1, t2, t3, t4, t5, t6, t7, t8]
   ·rw [HANS.out]
    exact zero_ans (wr_own2 M20.out.wr (wr_set9 _ z _ _ _ _ _ _ _ _ _) hwb hwz)
  | nil =>
   have n1 : (ansS []).toList.isEmpty = true := by rw [ansS_list]; rfl
   have n2 : (ansS []).toList = [] := by rw [ansS_list]
   rw [hrs] at cb0
   generalize ansS [] = S9 at *
   have hol : ObjL w20 (fun x => b < x) (.slice Au v4.length cu) (.slice Ap v5.procs.length cp) (.slice Ai v5.imports.length ci) (.slice An v5.init.length cn) ⟨v0, v1, (v2 : Int), v4, v5⟩ := ⟨Lu.out, Lp.out, Li.out, Ln.out⟩
   have hmy := omay_any _ _ _ _ _ _ _ hol
   unfold ObjD.val ObjD.cells at hmy
   cases hobj : objB ⟨v0, v1, (v2 : Int), v4, v5⟩ with
   | false =>
    rw [hobj] at hmy
    have hans : q = (noObj, 7) := by rw [HQ.out, hrs, hobj]; rfl
    have HANS := qh hans
    have HMY := qh hmy
    clear hans hrs hobj hmy hol
    go_wp2_with fail
    refine HMY.out.mono ?_
    rintro e wq ⟨rfl, kq⟩
    have mq := M20.out.call kq.nil hzb (M20.out.rd.keep kq (by simp))
    have MQ := qh mq
    clear kq mq y0 y1 y2 y3 y4 y5 y6 y7 y8 f0 f1 f2 f3 f4 f5 f6 f7 f8 cb0 cb1
    obtain ⟨y0, y1, y2, y3, y4, y5, y6, y7, y8⟩ := c9q (MQ.out.blk)
    obtain ⟨f0, f1, f2, f3, f4, f5, f6, f7, f8⟩ := z9q (MQ.out.blk)
    go_wp2_with fail
    refine bodyPost_ret (v := .tuple #[.agg #[.string ⟨#[]⟩, .bool false, .int .u64 0, .slice none 0 0, .string ⟨#[]⟩, .slice none 0 0, .slice none 0 0, .int .i64 0, .slice none 0 0], .int .i64 7]) ?_ rfl ?_
    ·have h9 := blk_set9 MQ.out.blk (.string ⟨#[]⟩) (.bool false) (.int .u64 0) (.slice none 0 0) (.string ⟨#[]⟩) (.slice none 0 0) (.slice none 0 0) (.int .i64 0) (.slice none 0 0)
     obtain ⟨t0, t1, t2, t3, t4, t5, t6, t7, t8⟩ := c9q (h9)
     simp [results, Tryz.results19, go_sem, t0, t1, t2, t3, t4, t5, t6, t7, t8]
    ·rw [HANS.out]
     exact zero_ans (wr_own2 MQ.out.wr (wr_set9 _ z _ _ _ _ _ _ _ _ _) hwb hwz)
   | true =>
    rw [hobj] at hmy
    have hans : q = (⟨v0, v1, (v2 : Int), v4, v5⟩, 0) := by rw [HQ.out, hrs, hobj]; rfl
    have HANS := qh hans
    have HMY := qh hmy
    clear hans hrs hobj hmy hol
    go_wp2_with fail
    refine HMY.out.mono ?_
    rintro e wq ⟨rfl, kq⟩
    have mq := M20.out.call kq.nil hzb (M20.out.rd.keep kq (by simp))
    have Lun := Lu.out.wr0 kq
    have Lpn := Lp.out.wr0 kq
    have Lin := Li.out.wr0 kq
    have Lnn := Ln.out.wr0 kq
    have Lu := qh Lun
    have Lp := qh Lpn
    have Li := qh Lin
    have Ln := qh Lnn
    have MQ := qh mq
    clear kq mq y0 y1 y2 y3 y4 y5 y6 y7 y8 f0 f1 f2 f3 f4 f5 f6 f7 f8 cb0 cb1 Lun Lpn Lin Lnn
    obtain ⟨y0, y1, y2, y3, y4, y5, y6, y7, y8⟩ := c9q (MQ.out.blk)
    obtain ⟨f0, f1, f2, f3, f4, f5, f6, f7, f8⟩ := z9q (MQ.out.blk)
    go_wp2_with fail
    refine bodyPost_ret (v := .tuple #[.agg #[.string v0, .bool v1, .int .u64 (v2 : Int), .slice Au v4.length cu, .string v5.code, .slice Ap v5.procs.length cp, .slice Ai v5.imports.length ci, .int .i64 v5.data, .slice An v5.init.length cn], .int .i64 0]) ?_ rfl ?_
    ·have h9 := blk_set9 MQ.out.blk (.string v0) (.bool v1) (.int .u64 (v2 : Int)) (.slice Au v4.length cu) (.string v5.code) (.slice Ap v5.procs.length cp) (.slice Ai v5.imports.length ci) (.int .i64 v5.data) (.slice An v5.init.length cn)
     obtain ⟨t0, t1, t2, t3, t4, t5, t6, t7, t8⟩ := c9q (h9)
     simp [results, Tryz.results19, go_sem, t0, t1, t2, t3, t4, t5, t6, t7, t8]
    ·rw [HANS.out]
     refine ⟨_, _, _, _, rfl, wr_own2 MQ.out.wr (wr_set9 _ z _ _ _ _ _ _ _ _ _) hwb hwz, ?_⟩
     have a1 := (sl_zb (sl_zb (sl_zb (sl_zb (sl_zb (sl_zb (sl_zb (sl_zb (sl_zb Lu.out hzb2 0 (.string v0)) hzb2 1 (.bool v1)) hzb2 2 (.int .u64 (v2 : Int))) hzb2 3 (.slice Au v4.length cu)) hzb2 4 (.string v5.code)) hzb2 5 (.slice Ap v5.procs.length cp)) hzb2 6 (.slice Ai v5.imports.length ci)) hzb2 7 (.int .i64 v5.data)) hzb2 8 (.slice An v5.init.length cn))
     have a2 := (sl_zb (sl_zb (sl_zb (sl_zb (sl_zb (sl_zb (sl_zb (sl_zb (sl_zb Lp.out hzb2 0 (.string v0)) hzb2 1 (.bool v1)) hzb2 2 (.int .u64 (v2 : Int))) hzb2 3 (.slice Au v4.length cu)) hzb2 4 (.string v5.code)) hzb2 5 (.slice Ap v5.procs.length cp)) hzb2 6 (.slice Ai v5.imports.length ci)) hzb2 7 (.int .i64 v5.data)) hzb2 8 (.slice An v5.init.length cn))
     have a3 := (sl_zb (sl_zb (sl_zb (sl_zb (sl_zb (sl_zb (sl_zb (sl_zb (sl_zb Li.out hzb2 0 (.string v0)) hzb2 1 (.bool v1)) hzb2 2 (.int .u64 (v2 : Int))) hzb2 3 (.slice Au v4.length cu)) hzb2 4 (.string v5.code)) hzb2 5 (.slice Ap v5.procs.length cp)) hzb2 6 (.slice Ai v5.imports.length ci)) hzb2 7 (.int .i64 v5.data)) hzb2 8 (.slice An v5.init.length cn))
     have a4 := (sl_zb (sl_zb (sl_zb (sl_zb (sl_zb (sl_zb (sl_zb (sl_zb (sl_zb Ln.out hzb2 0 (.string v0)) hzb2 1 (.bool v1)) hzb2 2 (.int .u64 (v2 : Int))) hzb2 3 (.slice Au v4.length cu)) hzb2 4 (.string v5.code)) hzb2 5 (.slice Ap v5.procs.length cp)) hzb2 6 (.slice Ai v5.imports.length ci)) hzb2 7 (.int .i64 v5.data)) hzb2 8 (.slice An v5.init.length cn))
     exact ⟨a1.mono (fun x hx => by omega), a2.mono (fun x hx => by omega), a3.mono (fun x hx => by omega), a4.mono (fun x hx => by omega)⟩
theorem head_rest {kd l : List UInt8} {k : Nat} {s : List UInt8} (h : headP kd l = some (k, s)) : s = l.drop 12 := by
 unfold headP at h
 split at h
 ·cases h
 ·simp only [Option.some.injEq, Prod.mk.injEq] at h
  exact h.2.symm
theorem odec_any (l : List UInt8) (hl : l.length ≤ maxLen) (w : World) : Calls Tryz.prog 19 #[.string (ansS l)] w (ODecR (decodeP l) w) := by
 cases hh : headP objKind l with
 | none =>
  have e : decodeP l = (noObj, 7) := by unfold decodeP; rw [hh]
  rw [e]
  exact odec_head l hl hh w
 | some p =>
  obtain ⟨k, s⟩ := p
  have hs : s.length ≤ maxLen := by rw [head_rest hh, List.length_drop]; omega
  by_cases hk : k = keyL s
  ·subst hk
   exact odec_read l hl s hh hs w
  ·have e : decodeP l = (noObj, 210) := by unfold decodeP; rw [hh]; simp only [ne_eq]; rw [if_pos hk]
   rw [e]
   exact odec_key l hl k s hh hk hs w
theorem ext_rest (S : ByteArray) (p : Nat) : S.extract p S.size = ansS (S.data.toList.drop p) := by
 have := ansS_drop S.data.toList p
 rwa [ansS_of] at this
theorem runp_any (l : List UInt8) (hl : l.length ≤ maxLen) (w : World) : Calls Tryz.prog 22 #[.string (ansS l)] w (UnpR l w) := by
 obtain ⟨q, hq⟩ : ∃ q, unpackP l = q := ⟨_, rfl⟩
 unfold UnpR
 rw [hq]
 obtain ⟨pm, hpm⟩ : ∃ p, Rd.module ⟨l, false⟩ = p := ⟨_, rfl⟩
 obtain ⟨md, rs, rbad⟩ := pm
 have huq : q = if rbad then (zeroMod, [], 7) else (md, rs, 0) := by rw [← hq]; unfold unpackP; rw [hpm]
 obtain ⟨y, hy⟩ : ∃ q, w.heap.size = q := ⟨_, rfl⟩
 obtain ⟨wn, hwn⟩ : ∃ q, w.alloc (.cells #[.string ⟨#[]⟩, .slice none 0 0, .slice none 0 0, .int .i64 0, .slice none 0 0] 28) = q := ⟨_, rfl⟩
 obtain ⟨b, hb⟩ : ∃ q, wn.heap.size = q := ⟨_, rfl⟩
 obtain ⟨wb, hwb⟩ : ∃ q, wn.alloc (.cells #[.string (ansS l), .int .i64 0, .bool false] 117) = q := ⟨_, rfl⟩
 have yn : Blk wn y 28 #[.string ⟨#[]⟩, .slice none 0 0, .slice none 0 0, .int .i64 0, .slice none 0 0] := by rw [← hwn, ← hy]; exact Blk.new _ _ _
 have kn : Wr [] w wn := by rw [← hwn]; exact (Wr.refl _ _).alloc _
 have kb : Wr [] wn wb := by rw [← hwb]; exact (Wr.refl _ _).alloc _
 have bn : Blk wb b 117 #[.string (ansS l), .int .i64 0, .bool false] := by rw [← hwb, ← hb]; exact Blk.new _ _ _
 have hby0 : y < b := by have := yn.lt; omega
 have hwb0 : w.heap.size ≤ b := by omega
 have hwy : w.heap.size ≤ y := by omega
 have rd0 : RdH (ansS l) wb b ⟨l, false⟩ := ⟨0, Nat.zero_le _, rfl, bn⟩
 have hmo := module_h (ansS l) b ⟨l, false⟩ (by rw [ansS_size]; exact hl) wb rd0
 rw [hpm] at hmo
 unfold HModR at hmo
 simp only at hmo
 have yb := yn.wr0 kb
 have HUQ := qh huq
 have HY := qh hy
 have HWN := qh hwn
 have HB := qh hb
 have HWB := qh hwb
 have KB := qh (kn.trans kb)
 have YB := qh yb
 have HMO := qh hmo
 clear hq hpm huq hy hwn hb hwb yn kn kb bn rd0 hmo yb hl
 go_in
 go_upto_region 1 with (fail)
 rw [HY.out, HWN.out]
 go_upto_region 2 with (fail)
 rw [HB.out, HWB.out]
 go_wp2_with fail
 refine HMO.out.mono ?_
 rintro e w1 ⟨vp, vi, vn, rfl, k1, b1, ml⟩
 obtain ⟨Ap, cp, rfl, _, _⟩ := Sl.form ml.procs
 obtain ⟨Ai, ci, rfl, _, _⟩ := Sl.form ml.imports
 obtain ⟨An, cn, rfl, _, _⟩ := Sl.form ml.init
 unfold ModD.val ModD.cells
 obtain ⟨wm, hwm⟩ : ∃ q, w1.alloc (.cells #[.string md.code, .slice Ap md.procs.length cp, .slice Ai md.imports.length ci, .int .i64 md.data, .slice An md.init.length cn] 28) = q := ⟨_, rfl⟩
 obtain ⟨z, hz⟩ : ∃ q, w1.heap.size = q := ⟨_, rfl⟩
 have km : Wr [] w1 wm := by rw [← hwm]; exact (Wr.refl _ _).alloc _
 have zm : Blk wm z 28 #[.string md.code, .slice Ap md.procs.length cp, .slice Ai md.imports.length ci, .int .i64 md.data, .slice An md.init.length cn] := by rw [← hwm, ← hz]; exact Blk.new _ _ _
 have y1 := YB.out.wr k1 (by simp; omega)
 have hyz : y < z := by have := y1.lt; omega
 have ym := y1.wr0 km
 have mlm := ml.wr0 km
 have bm := (rdhOk (ansS l) b).keep b1 km (by simp)
 have rm : Wr [b] w wm := (KB.out.nil.trans k1).trans0 km
 have hms : wb.heap.size ≤ w1.heap.size := k1.size
 have hyb : y < wb.heap.size := YB.out.lt
 have ZM := qh zm
 have YM := qh ym
 have MLM := qh mlm
 have RM := qh rm
 have HWM := qh hwm
 have HZ := qh hz
 clear hwm hz km zm y1 ym mlm rm ml k1 b1
 go_upto_region 3 with (fail)
 rw [HZ.out, HWM.out]
 clear HZ HWM HWN HWB HY HB
 have hc := RdH.badAt bm
 simp only at hc
 obtain ⟨p, hp, hs, hbk⟩ := bm
 simp only at hs
 have hb1 := hbk.cell 1
 simp only [qgaq, qgzq, qgsq] at hb1
 have hsz := ansS_size l
 have hex := ext_rest (ansS l) p
 rw [← hs] at hex
 have BK := qh hbk
 clear hbk hs
 cases rbad with
 | true =>
  obtain ⟨g0, g1, g2, g3, g4⟩ := z5q YM.out
  obtain ⟨z0, z1, z2, z3, z4⟩ := c5q YM.out
  have TR := YM
  clear YM hex hb1
  go_wp2_with fail
  refine bodyPost_ret (v := .tuple #[.agg #[.string ⟨#[]⟩, .slice none 0 0, .slice none 0 0, .int .i64 0, .slice none 0 0], .string ⟨#[]⟩, .int .i64 7]) ?_ rfl ?_
  ·have h9 := TR.out.setL [.string ⟨#[]⟩, .slice none 0 0, .slice none 0 0, .int .i64 0, .slice none 0 0] rfl
   obtain ⟨t0, t1, t2, t3, t4⟩ := c5q h9
   simp only [setL] at t0 t1 t2 t3 t4
   simp [results, Tryz.results22, go_sem, t0, t1, t2, t3, t4]
  ·have kw := setL_wr (g := y) [.string ⟨#[]⟩, .slice none 0 0, .slice none 0 0, .int .i64 0, .slice none 0 0] 0 wm
   have ka := wr_own2 RM.out kw hwb0 hwy
   have hr : q = (zeroMod, [], 7) := by simpa using HUQ.out
   subst hr
   exact ⟨_, _, _, rfl, ka, ⟨Sl.nil _ _ 6, Sl.nil _ _ 1, Sl.nil _ _ 1⟩⟩
 | false =>
  obtain ⟨g0, g1, g2, g3, g4⟩ := z5q YM.out
  obtain ⟨z0, z1, z2, z3, z4⟩ := c5q YM.out
  have x0 := ZM.out.cell 0
  have x1 := ZM.out.cell 1
  have x2 := ZM.out.cell 2
  have x3 := ZM.out.cell 3
  have x4 := ZM.out.cell 4
  simp only [qgaq, qgzq, qgsq] at x0 x1 x2 x3 x4
  have TR := YM
  clear YM
  have hp0 : (0 : Int) ≤ (p : Int) := by omega
  have hp1 : (p : Int) ≤ ((ansS l).size : Int) := by omega
  obtain ⟨S, hS⟩ : ∃ q, ansS l = q := ⟨_, rfl⟩
  rw [hS] at hex hp1 hp ⊢
  have HEX := qh hex
  clear hS hsz hex
  go_upto_region 5 with (fail)
  refine beginA [y] [(z, 0, .string md.code), (z, 1, .slice Ap md.procs.length cp), (z, 2, .slice Ai md.imports.length ci), (z, 3, .int .i64 md.data), (z, 4, .slice An md.init.length cn), (b, 1, .int .i64 (p : Int))] (by kernel_rfl) (by simp only [Cs]; exact ⟨x0, x1, x2, x3, x4, hb1, trivial⟩) (by intro c hc; simp only [qmcq, qnnq, or_false] at hc; rcases hc with rfl | rfl | rfl | rfl | rfl | rfl <;> (simp; omega)) fun HC => ?_
  refine mvB 0 (by rfl) (by kernel_rfl) (by rfl) (fun w' hS => by simp only [Cs] at hS; go_split_ands; go_simp; try rfl) ?_
  try simp only [Act.put, qsaq, qszq, qssq]
  refine mvB 1 (by rfl) (by kernel_rfl) (by rfl) (fun w' hS => by simp only [Cs] at hS; go_split_ands; go_simp; try rfl) ?_
  try simp only [Act.put, qsaq, qszq, qssq]
  refine mvB 2 (by rfl) (by kernel_rfl) (by rfl) (fun w' hS => by simp only [Cs] at hS; go_split_ands; go_simp; try rfl) ?_
  try simp only [Act.put, qsaq, qszq, qssq]
  refine mvB 3 (by rfl) (by kernel_rfl) (by rfl) (fun w' hS => by simp only [Cs] at hS; go_split_ands; go_simp; try rfl) ?_
  try simp only [Act.put, qsaq, qszq, qssq]
  refine mvB 4 (by rfl) (by kernel_rfl) (by rfl) (fun w' hS => by simp only [Cs] at hS; go_split_ands; go_simp; try rfl) ?_
  try simp only [Act.put, qsaq, qszq, qssq]
  refine mvB 5 (by rfl) (by kernel_rfl) (by rfl) (fun w' hS => by simp only [Cs] at hS; go_split_ands; go_simp; try rfl) ?_
  try simp only [Act.put, qsaq, qszq, qssq]
  refine mvB 6 (by rfl) (by kernel_rfl) (by rfl) (fun w' hS => by simp only [Cs] at hS; go_split_ands; go_simp; try rfl) ?_
  try simp only [Act.put, qsaq, qszq, qssq]
  refine stL 7 (by rfl) (by kernel_rfl) fun K hK => ?_
  go_simp
  refine hK _ _ (HC.out _ ((Wr.refl [y] wm).drew.trans (setL_wr (g := y) [.string md.code, .slice Ap md.procs.length cp, .slice Ai md.imports.length ci, .int .i64 md.data, .slice An md.init.length cn] 0 wm.drew))) ?_
  clear hK K
  try simp only [Act.put, qsaq, qszq, qssq]
  refine mvB 8 (by rfl) (by kernel_rfl) (by rfl) (fun w' hS => by simp only [Cs] at hS; go_split_ands; go_simp; try rfl) ?_
  try simp only [Act.put, qsaq, qszq, qssq]
  refine mvB 9 (by rfl) (by kernel_rfl) (by rfl) (fun w' hS => by simp only [Cs] at hS; go_split_ands; go_simp; try rfl) ?_
  try simp only [Act.put, qsaq, qszq, qssq]
  refine endL (by kernel_rfl) ?_
  try simp only [Act.put, qsaq, qszq, qssq]
  go_wp2_with fail
  refine bodyPost_ret (v := .tuple #[.agg #[.string md.code, .slice Ap md.procs.length cp, .slice Ai md.imports.length ci, .int .i64 md.data, .slice An md.init.length cn], .string (ansS rs), .int .i64 0]) ?_ rfl ?_
  ·have h9 := (TR.out.setL [.string md.code, .slice Ap md.procs.length cp, .slice Ai md.imports.length ci, .int .i64 md.data, .slice An md.init.length cn] rfl).drew
   obtain ⟨t0, t1, t2, t3, t4⟩ := c5q h9
   simp only [setL] at t0 t1 t2 t3 t4
   simp [results, Tryz.results22, go_sem, t0, t1, t2, t3, t4]; exact HEX.out
  ·have kw := setL_wr (g := y) [.string md.code, .slice Ap md.procs.length cp, .slice Ai md.imports.length ci, .int .i64 md.data, .slice An md.init.length cn] 0 wm
   have ka := wr_own2 RM.out kw hwb0 hwy
   have hr : q = (md, rs, 0) := by simpa using HUQ.out
   subst hr
   exact ⟨_, _, _, rfl, ka.drew, (MLM.out.keep kw.drew (fun x hx => by simp; omega)).into (fun x hx _ => by omega)⟩
theorem rmore_any (h : Nat) (hh : h < 18446744073709551616) (s : ByteArray) (hs : s.size ≤ maxLen) (w : World) :
  Calls Tryz.prog 75 #[.int .u64 (h : Int), .string s] w fun e w' => e = .returned (.int .u64 ((moreN h (natsOf s) : Nat) : Int)) ∧ w = w' := by
 unfold maxLen at hs
 go_in
 go_wp2_with fail
 go_loop [0, 5] (fun t i => ∃ k : Nat, k ≤ s.size ∧ i = .int .i64 k ∧ t = .int .u64 ((moreN h ((natsOf s).take k) : Nat) : Int)) (fun _ i => s.size - (intOf i).toNat)
 case atStart => exact ⟨0, by omega, rfl, rfl⟩
 case round =>
  obtain ⟨k, hk, rfl, rfl⟩ := hrel
  by_cases hlt : k < s.size
  ·have hlti : (k : Int) < (s.size : Int) := by omega
   have ha := moreN_lt hh ((natsOf s).take k)
   have hm : moreN h ((natsOf s).take (k + 1)) = stepN (moreN h ((natsOf s).take k)) (s[k]'hlt).toNat := by
    rw [natsOf_take s k hlt, moreN_snoc]
   have hst := step_eq (moreN h ((natsOf s).take k)) (s[k]'hlt).toNat ha (s[k]'hlt).toNat_lt
   rw [← hm] at hst
   generalize hma : moreN h ((natsOf s).take k) = a at *
   generalize hmb : moreN h ((natsOf s).take (k + 1)) = b at *
   have hc0 : (0 : Int) ≤ ((s[k]'hlt).toNat : Int) := by omega
   have hc1 : ((s[k]'hlt).toNat : Int) ≤ 255 := by have := (s[k]'hlt).toNat_lt; omega
   have hmb' := hmb
   clear hma hmb hm ha
   go_wp2_with fail
   exact ⟨⟨k + 1, by omega, rfl, by rw [hmb']⟩, by show s.size - ((k + 1 : Nat) : Int).toNat < s.size - (k : Int).toNat; omega⟩
  ·have hks : k = s.size := by omega
   subst hks
   have hl : (natsOf s).take s.size = natsOf s := List.take_of_length_le (by rw [natsOf_len]; omega)
   rw [hl]
   go_wp2_with fail
   go_ret
   exact ⟨rfl, rfl⟩
theorem rof_any (s : ByteArray) (hs : s.size ≤ maxLen) (w : World) :
  Calls Tryz.prog 42 #[.string s] w fun e w' => e = .returned (.int .u64 ((ofN (moreN 14695981039346656037 (natsOf s)) : Nat) : Int)) ∧ w = w' := by
 have hm := fun w => rmore_any 14695981039346656037 (by decide) s hs w
 have hlt := moreN_lt (h := 14695981039346656037) (by decide) (natsOf s)
 generalize moreN 14695981039346656037 (natsOf s) = x at *
 go_in
 go_wp2_with fail
 refine (hm _).mono ?_
 rintro e w1 ⟨rfl, rfl⟩
 have hx : bits .xor .u64 (x : Int) ((x : Int) / (4294967296 : Int)) = ((ofN x : Nat) : Int) := by
  have e : (x : Int) / (4294967296 : Int) = ((x >>> 32 : Nat) : Int) := by
   rw [Nat.shiftRight_eq_div_pow]
   omega
  rw [e, Go.bits_xor_u64_nat x (x >>> 32) hlt (by rw [Nat.shiftRight_eq_div_pow]; omega)]
  rfl
 go_wp2_with fail
 go_ret
 exact ⟨rfl, rfl⟩
end Go.Proofs.YtildcdgobdfieaaGreat
