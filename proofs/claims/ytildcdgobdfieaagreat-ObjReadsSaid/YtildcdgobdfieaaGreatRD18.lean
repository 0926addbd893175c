/- ref 14's reader: typ: walked. No conditions. -/
import Derived.Test.YtildcdgobdfieaaGreatRD17
set_option linter.unusedVariables false
set_option linter.unusedSimpArgs false
set_option maxRecDepth 100000
set_option maxHeartbeats 32000000
namespace Go.Proofs.YtildcdgobdfieaaGreat
open Go.RowKit
theorem out_end {k n m : Nat} {l : List UInt8} {bad : Bool} (hm : k + m = n) (h : ¬ (k < n ∧ bad = false)) : m = 0 ∨ (Rd.mk l bad).bad = true := by
 cases bad with
 | true => exact .inr rfl
 | false => exact .inl (by have : ¬ k < n := fun c => h ⟨c, rfl⟩; omega)
theorem out_way {k n : Nat} {bad : Bool} (h : ¬ (k < n ∧ bad = false)) : ((k : Int) < (n : Int) ∧ bad = true) ∨ ¬ (k : Int) < (n : Int) := by
 by_cases c : k < n
 ·refine .inl ⟨by omega, ?_⟩
  cases bad with
  | true => rfl
  | false => exact absurd ⟨c, rfl⟩ h
 ·exact .inr (by omega)
theorem wr_at {w w' : World} {b z : Nat} (k : Wr [b] w w') : Wr [b, z] w w' := k.more (by simp)
def ArG (R : World → Rd → Prop) (b f n : Nat) (W W1 : World) (r0 : Rd) (k : Nat) (wr : World) : Prop :=
 ∃ (acc : List (Int × Int)) (r' : Rd) (A1 A2 : Option Addr) (c1 c2 m : Nat), acc.length = k ∧ k + m = n ∧ Rd.list Rd.pair n r0 = (acc ++ (Rd.list Rd.pair m r').1, (Rd.list Rd.pair m r').2) ∧
  ItR R 187 b f W r' #[.slice A1 k c1, .slice A2 k c2, .bool false] wr ∧ TwoI wr W1.heap.size (.slice A1 k c1) (.slice A2 k c2) k k (acc.map fun p => .int .i64 p.1) (acc.map fun p => .int .i64 p.2)
theorem arm_rel {w6 wr W0 wq : World} {A1 A2 : Option Addr} {c1 c2 : Nat} {lp : List (Int × Int)} {xe : Bool} {v : Value} {l : List ArmD} (h : TwoI w6 wq.heap.size (.slice A1 lp.length c1) (.slice A2 lp.length c2) lp.length lp.length (lp.map fun p => .int .i64 p.1) (lp.map fun p => .int .i64 p.2))
  (ho : RowAt ArmRel 3 W0.heap.size 187 v l wr) (h1 : W0.heap.size ≤ wr.heap.size) (h2 : wr.heap.size ≤ wq.heap.size) :
  ArmRel w6 (fun bl => W0.heap.size ≤ bl ∧ v.ownBlock ≠ some bl) [.slice A1 lp.length c1, .slice A2 lp.length c2, .bool xe] ⟨lp.map Prod.fst, lp.map Prod.snd, xe⟩ := by
 obtain ⟨_, _, _, hv⟩ := ho.form
 have hP : ∀ bl, wq.heap.size ≤ bl → W0.heap.size ≤ bl ∧ v.ownBlock ≠ some bl := fun bl hb => ⟨by omega, fun e => by have := (hv bl (mem_ownL.2 e)).2; omega⟩
 refine ⟨_, _, rfl, ?_, ?_⟩
 ·have := Sl.ofOwn h.a (P := fun bl => W0.heap.size ≤ bl ∧ v.ownBlock ≠ some bl) (fun b hb => hP b (h.a.lt b hb).1)
  unfold SlInts
  rw [qlmq, List.map_map]
  exact this
 ·have := Sl.ofOwn h.b (P := fun bl => W0.heap.size ≤ bl ∧ v.ownBlock ≠ some bl) (fun b hb => hP b (h.b.lt b hb).1)
  unfold SlInts
  rw [qlmq, List.map_map]
  exact this
theorem flatS (l : List ByteArray) : (l.flatMap fun s => [Value.string s]) = l.map Value.string := by
 induction l with
 | nil => rfl
 | cons x l ih => rw [qfcq, ih]; rfl
theorem ty_lists {w : World} {P Q : Nat → Prop} {vn vf va vp : Value} {t : Ty} (h1 : SlRel (CRel fun s : ByteArray => [Value.string s]) w P 1 vn t.names) (h2 : SlRel (CRel Fld.cells) w P 3 vf t.fields) (h3 : SlRel ArmRel w P 3 va t.arms) (h4 : SlRel (CRel Par.cells) w P 2 vp t.params) (hP : ∀ b, P b → Q b) : Lists w Q vn vf va vp t := by
 have a2 := SlRel.flat (cells := Fld.cells) (size := 3) (by decide) (fun _ => rfl) h2
 have a4 := SlRel.flat (cells := Par.cells) (size := 2) (by decide) (fun _ => rfl) h4
 refine ⟨?_, Sl.mono a2 hP, h3.arms.into (fun b hb _ => hP b hb), Sl.mono a4 hP⟩
 have := (SlRel.flat (cells := fun s : ByteArray => [Value.string s]) (size := 1) (by decide) (fun _ => rfl) h1).mono hP
 rw [flatS] at this
 exact this
theorem typ_g (b : Nat) (r : Rd) (w : World) (hb : RdG w b r) :
  Calls Tryz.prog 93 #[.pointer (some ⟨b, 0, none⟩)] w fun e w' => ∃ vn vf va vp, e = .returned ((Rd.ty r).1.val vn vf va vp) ∧ Wr [b] w w' ∧ RdG w' b (Rd.ty r).2 ∧ Lists w' (fun q => w.heap.size ≤ q) vn vf va vp (Rd.ty r).1 := by
 unfold Rd.ty Rd.one Rd.lst
 obtain ⟨p0, hp0⟩ : ∃ p, Rd.num r 1 = p := ⟨_, rfl⟩
 obtain ⟨k, r0⟩ := p0
 obtain ⟨p1, hp1⟩ : ∃ p, Rd.text r0 = p := ⟨_, rfl⟩
 obtain ⟨m, r1⟩ := p1
 obtain ⟨p2, hp2⟩ : ∃ p, Rd.text r1 = p := ⟨_, rfl⟩
 obtain ⟨nm, r2⟩ := p2
 obtain ⟨p3, hp3⟩ : ∃ p, Rd.four r2 = p := ⟨_, rfl⟩
 obtain ⟨ba, r3⟩ := p3
 obtain ⟨p4, hp4⟩ : ∃ p, Rd.four r3 = p := ⟨_, rfl⟩
 obtain ⟨ix, r4⟩ := p4
 obtain ⟨p5, hp5⟩ : ∃ p, Rd.four r4 = p := ⟨_, rfl⟩
 obtain ⟨lo, r5⟩ := p5
 obtain ⟨p6, hp6⟩ : ∃ p, Rd.four r5 = p := ⟨_, rfl⟩
 obtain ⟨hi, r6⟩ := p6
 obtain ⟨p7, hp7⟩ : ∃ p, Rd.num r6 2 = p := ⟨_, rfl⟩
 obtain ⟨n1, r7⟩ := p7
 obtain ⟨p8, hp8⟩ : ∃ p, Rd.list Rd.text n1 r7 = p := ⟨_, rfl⟩
 obtain ⟨l1, r8⟩ := p8
 obtain ⟨p9, hp9⟩ : ∃ p, Rd.num r8 2 = p := ⟨_, rfl⟩
 obtain ⟨n2, r9⟩ := p9
 obtain ⟨p10, hp10⟩ : ∃ p, Rd.list Rd.fld n2 r9 = p := ⟨_, rfl⟩
 obtain ⟨l2, r10⟩ := p10
 obtain ⟨p11, hp11⟩ : ∃ p, Rd.num r10 2 = p := ⟨_, rfl⟩
 obtain ⟨n3, r11⟩ := p11
 obtain ⟨p12, hp12⟩ : ∃ p, Rd.list Rd.arm n3 r11 = p := ⟨_, rfl⟩
 obtain ⟨l3, r12⟩ := p12
 obtain ⟨p13, hp13⟩ : ∃ p, Rd.num r12 2 = p := ⟨_, rfl⟩
 obtain ⟨n4, r13⟩ := p13
 obtain ⟨p14, hp14⟩ : ∃ p, Rd.list Rd.par n4 r13 = p := ⟨_, rfl⟩
 obtain ⟨l4, r14⟩ := p14
 obtain ⟨p15, hp15⟩ : ∃ p, Rd.four r14 = p := ⟨_, rfl⟩
 obtain ⟨re, r15⟩ := p15
 simp only [hp0, hp1, hp2, hp3, hp4, hp5, hp6, hp7, hp8, hp9, hp10, hp11, hp12, hp13, hp14, hp15]
 have q0 := num_ltO (k := 1) (by omega) r
 rw [hp0] at q0
 simp only at q0
 have h0 := fun W (hW : (fun w r => RdG w b r) W r) => number_g b 1 r (by decide) W hW
 rw [hp0] at h0
 simp only at h0
 have H0 := qh h0
 clear h0
 have h1 := fun W (hW : (fun w r => RdG w b r) W r0) => text_g b r0 W hW
 rw [hp1] at h1
 simp only at h1
 have H1 := qh h1
 clear h1
 have h2 := fun W (hW : (fun w r => RdG w b r) W r1) => text_g b r1 W hW
 rw [hp2] at h2
 simp only at h2
 have H2 := qh h2
 clear h2
 have h3 := fun W (hW : (fun w r => RdG w b r) W r2) => four_g b r2 W hW
 rw [hp3] at h3
 simp only at h3
 have H3 := qh h3
 clear h3
 have h4 := fun W (hW : (fun w r => RdG w b r) W r3) => four_g b r3 W hW
 rw [hp4] at h4
 simp only at h4
 have H4 := qh h4
 clear h4
 have h5 := fun W (hW : (fun w r => RdG w b r) W r4) => four_g b r4 W hW
 rw [hp5] at h5
 simp only at h5
 have H5 := qh h5
 clear h5
 have h6 := fun W (hW : (fun w r => RdG w b r) W r5) => four_g b r5 W hW
 rw [hp6] at h6
 simp only at h6
 have H6 := qh h6
 clear h6
 have q7 := num_ltO (k := 2) (by omega) r6
 rw [hp7] at q7
 simp only at q7
 have h7 := fun W (hW : (fun w r => RdG w b r) W r6) => number_g b 2 r6 (by decide) W hW
 rw [hp7] at h7
 simp only at h7
 have H7 := qh h7
 clear h7
 have HL8 := qh hp8
 have q9 := num_ltO (k := 2) (by omega) r8
 rw [hp9] at q9
 simp only at q9
 have h9 := fun W (hW : (fun w r => RdG w b r) W r8) => number_g b 2 r8 (by decide) W hW
 rw [hp9] at h9
 simp only at h9
 have H9 := qh h9
 clear h9
 have HL10 := qh hp10
 have q11 := num_ltO (k := 2) (by omega) r10
 rw [hp11] at q11
 simp only at q11
 have h11 := fun W (hW : (fun w r => RdG w b r) W r10) => number_g b 2 r10 (by decide) W hW
 rw [hp11] at h11
 simp only at h11
 have H11 := qh h11
 clear h11
 have HL12 := qh hp12
 have q13 := num_ltO (k := 2) (by omega) r12
 rw [hp13] at q13
 simp only at q13
 have h13 := fun W (hW : (fun w r => RdG w b r) W r12) => number_g b 2 r12 (by decide) W hW
 rw [hp13] at h13
 simp only at h13
 have H13 := qh h13
 clear h13
 have HL14 := qh hp14
 have h15 := fun W (hW : (fun w r => RdG w b r) W r14) => four_g b r14 W hW
 rw [hp15] at h15
 simp only at h15
 have H15 := qh h15
 clear h15
 clear hp0 hp1 hp2 hp3 hp4 hp5 hp6 hp7 hp8 hp9 hp10 hp11 hp12 hp13 hp14 hp15
 have CK := qh (show IntKind.u8.wrap (k : Int) = (k : Int) by rw [IntKind.wrap_u8]; omega)
 have CN1 := qh (show IntKind.i64.wrap (n1 : Int) = (n1 : Int) ∧ wrap64 (n1 : Int) = (n1 : Int) from ⟨by rw [IntKind.wrap_i64]; omega, by unfold wrap64; omega⟩)
 have CN2 := qh (show IntKind.i64.wrap (n2 : Int) = (n2 : Int) ∧ wrap64 (n2 : Int) = (n2 : Int) from ⟨by rw [IntKind.wrap_i64]; omega, by unfold wrap64; omega⟩)
 have CN3 := qh (show IntKind.i64.wrap (n3 : Int) = (n3 : Int) ∧ wrap64 (n3 : Int) = (n3 : Int) from ⟨by rw [IntKind.wrap_i64]; omega, by unfold wrap64; omega⟩)
 have CN4 := qh (show IntKind.i64.wrap (n4 : Int) = (n4 : Int) ∧ wrap64 (n4 : Int) = (n4 : Int) from ⟨by rw [IntKind.wrap_i64]; omega, by unfold wrap64; omega⟩)
 have hbl := hb.lt
 have yn := Blk.new w 129 #[.int .u8 0, .string ⟨#[]⟩, .string ⟨#[]⟩, .int .i64 0, .int .i64 0, .int .i64 0, .int .i64 0, .slice none 0 0, .slice none 0 0, .slice none 0 0, .slice none 0 0, .int .i64 0]
 have rn := (Wr.refl [b] w).alloc (.cells #[.int .u8 0, .string ⟨#[]⟩, .string ⟨#[]⟩, .int .i64 0, .int .i64 0, .int .i64 0, .int .i64 0, .slice none 0 0, .slice none 0 0, .slice none 0 0, .slice none 0 0, .int .i64 0] 129)
 have bn := Blk.wr0 hb ((Wr.refl [] w).alloc (.cells #[.int .u8 0, .string ⟨#[]⟩, .string ⟨#[]⟩, .int .i64 0, .int .i64 0, .int .i64 0, .int .i64 0, .slice none 0 0, .slice none 0 0, .slice none 0 0, .slice none 0 0, .int .i64 0] 129))
 obtain ⟨wn, hwn⟩ : ∃ q, w.alloc (.cells #[.int .u8 0, .string ⟨#[]⟩, .string ⟨#[]⟩, .int .i64 0, .int .i64 0, .int .i64 0, .int .i64 0, .slice none 0 0, .slice none 0 0, .slice none 0 0, .slice none 0 0, .int .i64 0] 129) = q := ⟨_, rfl⟩
 obtain ⟨y, hy⟩ : ∃ q, w.heap.size = q := ⟨_, rfl⟩
 rw [hwn] at yn rn bn
 rw [hy] at yn
 have hby0 : b < y := by omega
 have hby : b ≠ y := by omega
 have hwy : w.heap.size ≤ y := by omega
 have YN := qh yn
 have RN := qh rn
 have HWN := qh hwn
 have HY := qh hy
 clear hwn hy hb hbl yn rn
 go_in
 go_upto_region 1 with (fail)
 rw [HY.out, HWN.out]
 go_wp2_with fail
 refine (H0.out _ bn).mono ?_
 rintro e w0 ⟨rfl, k0, b0⟩
 have ck := CK.out
 have y0 := YN.out.wr k0 (by simp; omega)
 have zn := Blk.new w0 129 #[.int .u8 (k : Int), .string ⟨#[]⟩, .string ⟨#[]⟩, .int .i64 0, .int .i64 0, .int .i64 0, .int .i64 0, .slice none 0 0, .slice none 0 0, .slice none 0 0, .slice none 0 0, .int .i64 0]
 obtain ⟨wz, hwz⟩ : ∃ q, w0.alloc (.cells #[.int .u8 (k : Int), .string ⟨#[]⟩, .string ⟨#[]⟩, .int .i64 0, .int .i64 0, .int .i64 0, .int .i64 0, .slice none 0 0, .slice none 0 0, .slice none 0 0, .slice none 0 0, .int .i64 0] 129) = q := ⟨_, rfl⟩
 obtain ⟨z, hz⟩ : ∃ q, w0.heap.size = q := ⟨_, rfl⟩
 have kz : Wr [] w0 wz := by rw [← hwz]; exact (Wr.refl _ _).alloc _
 rw [hwz, hz] at zn
 have hyz : y < z := by have := y0.lt; omega
 have hbz : b < z := by omega
 have hwz0 : w.heap.size ≤ z := by omega
 have m0 : TgS (fun w r => RdG w b r) 129 b y z #[.int .u8 0, .string ⟨#[]⟩, .string ⟨#[]⟩, .int .i64 0, .int .i64 0, .int .i64 0, .int .i64 0, .slice none 0 0, .slice none 0 0, .slice none 0 0, .slice none 0 0, .int .i64 0] w r0 #[.int .u8 (k : Int), .string ⟨#[]⟩, .string ⟨#[]⟩, .int .i64 0, .int .i64 0, .int .i64 0, .int .i64 0, .slice none 0 0, .slice none 0 0, .slice none 0 0, .slice none 0 0, .int .i64 0] wz := ⟨zn, y0.wr0 kz, Blk.wr0 b0 kz, (RN.out.trans k0).trans0 kz⟩
 have M0 := qh m0
 have HWZ := qh hwz
 have HZ := qh hz
 clear hwz hz kz zn y0 m0 k0 b0 bn
 go_upto_region 2 with (fail)
 rw [HZ.out, HWZ.out]
 clear ck
 go_wp2_with fail
 refine (H1.out _ M0.out.rd).mono ?_
 rintro e w1a ⟨rfl, k1, b1⟩
 have m1 := M0.out.call k1 hbz hby b1
 have f1 := m1.blk.frozen 1
 have x1 := m1.blk.cell 1
 simp only [qgaq, qgzq, qgsq] at x1
 have s1 := m1.set (rdgOk b) hbz hyz hwz0 1 (.string m)
 simp only [qsaq, qszq, qssq] at s1
 have S1 := qh s1
 have kz1 : Wr [z] w1a (w1a.setCell ⟨z, 1, none⟩ (.string m)) := (Wr.refl _ _).setOn (by simp) _
 clear m1 s1 k1 b1 kz1
 go_upto_region 3 with (fail)
 generalize w1a.setCell ⟨z, 1, none⟩ (.string m) = w1 at *
 clear f1 x1
 go_wp2_with fail
 refine (H2.out _ S1.out.rd).mono ?_
 rintro e w2a ⟨rfl, k2, b2⟩
 have m2 := S1.out.call k2 hbz hby b2
 have f2 := m2.blk.frozen 2
 have x2 := m2.blk.cell 2
 simp only [qgaq, qgzq, qgsq] at x2
 have s2 := m2.set (rdgOk b) hbz hyz hwz0 2 (.string nm)
 simp only [qsaq, qszq, qssq] at s2
 have S2 := qh s2
 have kz2 : Wr [z] w2a (w2a.setCell ⟨z, 2, none⟩ (.string nm)) := (Wr.refl _ _).setOn (by simp) _
 clear m2 s2 k2 b2 kz2
 go_upto_region 4 with (fail)
 generalize w2a.setCell ⟨z, 2, none⟩ (.string nm) = w2 at *
 clear f2 x2
 go_wp2_with fail
 refine (H3.out _ S2.out.rd).mono ?_
 rintro e w3a ⟨rfl, k3, b3⟩
 have m3 := S2.out.call k3 hbz hby b3
 have f3 := m3.blk.frozen 3
 have x3 := m3.blk.cell 3
 simp only [qgaq, qgzq, qgsq] at x3
 have s3 := m3.set (rdgOk b) hbz hyz hwz0 3 (.int .i64 ba)
 simp only [qsaq, qszq, qssq] at s3
 have S3 := qh s3
 have kz3 : Wr [z] w3a (w3a.setCell ⟨z, 3, none⟩ (.int .i64 ba)) := (Wr.refl _ _).setOn (by simp) _
 clear m3 s3 k3 b3 kz3
 go_upto_region 5 with (fail)
 generalize w3a.setCell ⟨z, 3, none⟩ (.int .i64 ba) = w3 at *
 clear f3 x3
 go_wp2_with fail
 refine (H4.out _ S3.out.rd).mono ?_
 rintro e w4a ⟨rfl, k4, b4⟩
 have m4 := S3.out.call k4 hbz hby b4
 have f4 := m4.blk.frozen 4
 have x4 := m4.blk.cell 4
 simp only [qgaq, qgzq, qgsq] at x4
 have s4 := m4.set (rdgOk b) hbz hyz hwz0 4 (.int .i64 ix)
 simp only [qsaq, qszq, qssq] at s4
 have S4 := qh s4
 have kz4 : Wr [z] w4a (w4a.setCell ⟨z, 4, none⟩ (.int .i64 ix)) := (Wr.refl _ _).setOn (by simp) _
 clear m4 s4 k4 b4 kz4
 go_upto_region 6 with (fail)
 generalize w4a.setCell ⟨z, 4, none⟩ (.int .i64 ix) = w4 at *
 clear f4 x4
 go_wp2_with fail
 refine (H5.out _ S4.out.rd).mono ?_
 rintro e w5a ⟨rfl, k5, b5⟩
 have m5 := S4.out.call k5 hbz hby b5
 have f5 := m5.blk.frozen 5
 have x5 := m5.blk.cell 5
 simp only [qgaq, qgzq, qgsq] at x5
 have s5 := m5.set (rdgOk b) hbz hyz hwz0 5 (.int .i64 lo)
 simp only [qsaq, qszq, qssq] at s5
 have S5 := qh s5
 have kz5 : Wr [z] w5a (w5a.setCell ⟨z, 5, none⟩ (.int .i64 lo)) := (Wr.refl _ _).setOn (by simp) _
 clear m5 s5 k5 b5 kz5
 go_upto_region 7 with (fail)
 generalize w5a.setCell ⟨z, 5, none⟩ (.int .i64 lo) = w5 at *
 clear f5 x5
 go_wp2_with fail
 refine (H6.out _ S5.out.rd).mono ?_
 rintro e w6a ⟨rfl, k6, b6⟩
 have m6 := S5.out.call k6 hbz hby b6
 have f6 := m6.blk.frozen 6
 have x6 := m6.blk.cell 6
 simp only [qgaq, qgzq, qgsq] at x6
 have s6 := m6.set (rdgOk b) hbz hyz hwz0 6 (.int .i64 hi)
 simp only [qsaq, qszq, qssq] at s6
 have S6 := qh s6
 have kz6 : Wr [z] w6a (w6a.setCell ⟨z, 6, none⟩ (.int .i64 hi)) := (Wr.refl _ _).setOn (by simp) _
 clear m6 s6 k6 b6 kz6
 go_upto_region 8 with (fail)
 generalize w6a.setCell ⟨z, 6, none⟩ (.int .i64 hi) = w6 at *
 clear f6 x6
 go_wp2_with fail
 refine (H7.out _ S6.out.rd).mono ?_
 rintro e w7 ⟨rfl, k7, b7⟩
 have m7 := S6.out.call k7 hbz hby b7
 have hzB : z < w7.heap.size := m7.blk.lt
 have at7 := LgR.start (one := Rd.text) (Rel := (CRel (fun s : ByteArray => [Value.string s]))) (T := 9) (size := 1) (n := n1) m7 (show (#[.int .u8 (k : Int), .string m, .string nm, .int .i64 ba, .int .i64 ix, .int .i64 lo, .int .i64 hi, .slice none 0 0, .slice none 0 0, .slice none 0 0, .slice none 0 0, .int .i64 0] : Array Value)[7]? = some (.slice none 0 0) from rfl)
 obtain ⟨i1, hi1, hz01, hz11, hz21⟩ := info_parts info_str
 have AT7 := qh at7
 clear m7 at7 k7 b7 S6
 obtain ⟨cn, dn⟩ := CN1.out
 go_wp2_with fail
 clear cn dn
 go_loopw [5, 6] (fun si sx0 wr => ∃ ki : Nat, si = .int .i64 ki ∧ LgR (fun w r => RdG w b r) Rd.text (CRel (fun s : ByteArray => [Value.string s])) 9 129 1 b y z 7 n1 #[.int .u8 0, .string ⟨#[]⟩, .string ⟨#[]⟩, .int .i64 0, .int .i64 0, .int .i64 0, .int .i64 0, .slice none 0 0, .slice none 0 0, .slice none 0 0, .slice none 0 0, .int .i64 0] #[.int .u8 (k : Int), .string m, .string nm, .int .i64 ba, .int .i64 ix, .int .i64 lo, .int .i64 hi, .slice none 0 0, .slice none 0 0, .slice none 0 0, .slice none 0 0, .int .i64 0] w w7 r7 ki wr) (fun si _ _ => n1 - (intOf si).toNat)
 case atStart => exact ⟨0, rfl, AT7.out⟩
 obtain ⟨kk, rfl, acc, ⟨l, bad⟩, A1, c1, mm, hk, hm, hl, ht, how, hwr⟩ := hrel
 have c1 := ht.rd.cell 1
 simp only [qgaq, qgzq, qgsq] at c1
 by_cases hgo : kk < n1 ∧ bad = false
 ·obtain ⟨hk1, rfl⟩ := hgo
  obtain ⟨mm, rfl⟩ : ∃ q, mm = q + 1 := ⟨mm - 1, by omega⟩
  have hk2 : (kk : Int) < (n1 : Int) := by omega
  have hk3 : (0 : Int) ≤ (kk : Int) := by omega
  have HK := qh hk
  have HM := qh hm
  have HL := qh hl
  have HT := qh ht
  have HOW := qh how
  have HWR := qh hwr
  clear hk hm hl ht how hwr
  go_wp2_with fail
  refine (text_g b _ _ HT.out.rd).mono ?_
  obtain ⟨px, hx⟩ : ∃ p, Rd.text ⟨l, false⟩ = p := ⟨_, rfl⟩
  obtain ⟨x, rx⟩ := px
  rw [hx]
  rintro e w1 ⟨rfl, k1, b1⟩
  have HX := qh hx
  have HT2 := qh (HT.out.call k1 hbz hby b1)
  have HOW2 := qh (HOW.out.keep (cOk _) k1 (fun q hq => .inl (by rw [qmsq] at hq; omega)))
  have HWR2 := qh (HWR.out.trans (wr_at (z := z) k1))
  clear hx k1 b1 HT HOW HWR c1
  have r6 : Wr [] w1 (w1.alloc (.cells #[.string x] 9)) := (Wr.refl [] w1).alloc _
  have n6 := Blk.new w1 9 #[.string x]
  have ho1 : ∀ u ∈ ([.string x] : List Value), u.oneCell' = true := by simp [Value.oneCell']
  have hrel : CRel (fun s : ByteArray => [Value.string s]) (w1.alloc (.cells #[.string x] 9)) (fun bl => w7.heap.size ≤ bl ∧ (Value.slice A1 kk c1).ownBlock ≠ some bl) [.string x] x := rfl
  obtain ⟨A2, c2, W7, hrun, rA, hv, b7, hfin⟩ := lg_push (t := 124) (rdgOk b) (cOk _) Tryz.underlying124 hi1 hz01 hz11 hz21 rfl (by decide) (by decide) hbz hyz hwz0 hzB HK.out HM.out (by omega) HL.out rfl HX.out HT2.out HOW2.out HWR2.out r6 n6 rfl ho1 hrel
  have f7 := b7.frozen 7
  have c7 := b7.cell 7
  have c6 := HT2.out.blk.cell 7
  simp only [qsaq, qszq, qssq] at c7 c6
  simp only [qgaq, qgzq, qgsq] at c7 c6
  have HRUN := qh hrun
  have HFIN := qh hfin
  clear hrun hfin rA r6 hv b7 n6 ho1 hrel
  go_wp2_with (at_builtin; refine wpList_append_run rfl _ _ _ rfl _ _ rfl rfl _ _ HRUN.out ?_)
  go_roundw
  case rel => exact ⟨kk + 1, by first | rfl | (go_num), HFIN.out⟩
  case measure => first | (simp [intOf]; done) | (simp [intOf]; omega)
 have he := out_end (l := l) hm hgo
 obtain ⟨e1, e2⟩ := lg_end hl he HL8.out
 have hsl := (how.out (cOk _)).mono (cOk _) (Q := fun q => z < q) (fun q hq => by omega)
 have e3 := e1.symm
 clear e1
 subst e3
 subst e2
 have hkn : kk = l1.length := hk.symm
 subst hkn
 simp only [qsaq, qszq, qssq] at ht
 have T7 := qh ht
 have N1 := qh hsl
 have hgo2 := hgo
 clear hk hm hl ht how hwr hgo he hsl AT7
 go_upto_region 10 with (fail)
 go_cut [51] (fun s wx => s = .bool false ∧ wr = wx)
 case first =>
  rcases out_way hgo2 with ⟨hk2, rfl⟩ | hk2
  all_goals
   go_wp2_with fail
   go_meet
   exact ⟨rfl, rfl⟩
 obtain ⟨rfl, rfl⟩ := hcut
 clear c1 hgo2
 go_wp2_with fail
 refine (H9.out _ T7.out.rd).mono ?_
 rintro e w8 ⟨rfl, k8, b8⟩
 have m8 := T7.out.call k8 hbz hby b8
 have hzB : z < w8.heap.size := m8.blk.lt
 have N1n := N1.out.keepR (cOk _) k8 (fun q hq => by simp; omega)
 replace N1 := qh N1n
 clear N1n
 have at8 := LgR.start (one := Rd.fld) (Rel := (CRel Fld.cells)) (T := 173) (size := 3) (n := n2) m8 (show (#[.int .u8 (k : Int), .string m, .string nm, .int .i64 ba, .int .i64 ix, .int .i64 lo, .int .i64 hi, .slice A1 l1.length c1, .slice none 0 0, .slice none 0 0, .slice none 0 0, .int .i64 0] : Array Value)[8]? = some (.slice none 0 0) from rfl)
 obtain ⟨i2, hi2, hz02, hz12, hz22⟩ := info_parts info_fld
 have AT8 := qh at8
 clear m8 at8 k8 b8 T7
 obtain ⟨cn, dn⟩ := CN2.out
 go_wp2_with fail
 clear cn dn
 go_loopw [7, 8] (fun si sx0 wr => ∃ ki : Nat, si = .int .i64 ki ∧ LgR (fun w r => RdG w b r) Rd.fld (CRel Fld.cells) 173 129 3 b y z 8 n2 #[.int .u8 0, .string ⟨#[]⟩, .string ⟨#[]⟩, .int .i64 0, .int .i64 0, .int .i64 0, .int .i64 0, .slice none 0 0, .slice none 0 0, .slice none 0 0, .slice none 0 0, .int .i64 0] #[.int .u8 (k : Int), .string m, .string nm, .int .i64 ba, .int .i64 ix, .int .i64 lo, .int .i64 hi, .slice A1 l1.length c1, .slice none 0 0, .slice none 0 0, .slice none 0 0, .int .i64 0] w w8 r9 ki wr) (fun si _ _ => n2 - (intOf si).toNat)
 case atStart => exact ⟨0, rfl, AT8.out⟩
 obtain ⟨kk, rfl, acc, ⟨l, bad⟩, A2, c2, mm, hk, hm, hl, ht, how, hwr⟩ := hrel
 have c1 := ht.rd.cell 1
 simp only [qgaq, qgzq, qgsq] at c1
 by_cases hgo : kk < n2 ∧ bad = false
 ·obtain ⟨hk1, rfl⟩ := hgo
  obtain ⟨mm, rfl⟩ : ∃ q, mm = q + 1 := ⟨mm - 1, by omega⟩
  have hk2 : (kk : Int) < (n2 : Int) := by omega
  have hk3 : (0 : Int) ≤ (kk : Int) := by omega
  have HK := qh hk
  have HM := qh hm
  have HL := qh hl
  have HT := qh ht
  have HOW := qh how
  have HWR := qh hwr
  clear hk hm hl ht how hwr
  obtain ⟨pq, ha0⟩ : ∃ p, Rd.text ⟨l, false⟩ = p := ⟨_, rfl⟩
  obtain ⟨xn, ra0⟩ := pq
  obtain ⟨pq, ha1⟩ : ∃ p, Rd.four ra0 = p := ⟨_, rfl⟩
  obtain ⟨xt, ra1⟩ := pq
  obtain ⟨pq, ha2⟩ : ∃ p, Rd.four ra1 = p := ⟨_, rfl⟩
  obtain ⟨xa, ra2⟩ := pq
  have hx : Rd.fld ⟨l, false⟩ = (⟨xn, xt, xa⟩, ra2) := by unfold Rd.fld; simp only [ha0, ha1, ha2]
  have HX := qh hx
  clear hx
  have hc0 := fun W (hW : (fun w r => RdG w b r) W ⟨l, false⟩) => text_g b ⟨l, false⟩ W hW
  rw [ha0] at hc0
  simp only at hc0
  have HC0 := qh hc0
  clear hc0 ha0
  have hc1 := fun W (hW : (fun w r => RdG w b r) W ra0) => four_g b ra0 W hW
  rw [ha1] at hc1
  simp only at hc1
  have HC1 := qh hc1
  clear hc1 ha1
  have hc2 := fun W (hW : (fun w r => RdG w b r) W ra1) => four_g b ra1 W hW
  rw [ha2] at hc2
  simp only at hc2
  have HC2 := qh hc2
  clear hc2 ha2
  go_wp2_with fail
  refine (HC0.out _ HT.out.rd).mono ?_
  rintro e v0 ⟨rfl, k1, b1⟩
  obtain ⟨d, hbf, hwf⟩ := ItR.new (Tf := 173) (rdgOk b) b1 k1 (Nat.lt_trans hbz HT.out.blk.lt) #[.string xn, .int .i64 0, .int .i64 0] _ rfl rfl
  clear c1
  obtain ⟨we, hwe⟩ : ∃ q, v0.alloc (.cells #[.string xn, .int .i64 0, .int .i64 0] 173) = q := ⟨_, rfl⟩
  obtain ⟨f, hf⟩ : ∃ q, v0.heap.size = q := ⟨_, rfl⟩
  rw [hwe, hf] at d
  rw [hf] at hbf hwf
  have D := qh d
  have HWE := qh hwe
  have HF := qh hf
  clear d hwe hf k1 b1
  go_upto_region 19 with (fail)
  rw [HF.out, HWE.out]
  clear HWE
  go_wp2_with fail
  refine (HC1.out _ D.out.rd).mono ?_
  rintro e v1 ⟨rfl, k1, b1⟩
  have d := D.out.call k1 hbf b1
  have fz := d.blk.frozen 1
  have yy := d.blk.cell 1
  simp only [qgaq, qgzq, qgsq] at yy
  have d2 := d.set (rdgOk b) hbf hwf 1 (.int .i64 xt)
  simp only [qsaq, qszq, qssq] at d2
  replace D := qh d2
  clear d d2 k1 b1
  go_upto_region 20 with (fail)
  generalize v1.setCell ⟨f, 1, none⟩ (.int .i64 xt) = u1 at *
  clear fz yy
  go_wp2_with fail
  refine (HC2.out _ D.out.rd).mono ?_
  rintro e v2 ⟨rfl, k1, b1⟩
  have d := D.out.call k1 hbf b1
  have fz := d.blk.frozen 2
  have yy := d.blk.cell 2
  simp only [qgaq, qgzq, qgsq] at yy
  have d2 := d.set (rdgOk b) hbf hwf 2 (.int .i64 xa)
  simp only [qsaq, qszq, qssq] at d2
  replace D := qh d2
  clear d d2 k1 b1
  go_upto_region 21 with (fail)
  generalize v2.setCell ⟨f, 2, none⟩ (.int .i64 xa) = w1 at *
  clear fz yy
  have k1 := D.out.wr
  have HT2 := qh (HT.out.step k1 D.out.rd hbz hby)
  have HOW2 := qh (HOW.out.keep (cOk _) k1 (fun q hq => .inl (by rw [qmsq] at hq; omega)))
  have HWR2 := qh (HWR.out.trans (wr_at (z := z) k1))
  obtain ⟨y0, y1, y2⟩ := c3q D.out.blk
  clear k1 HT HOW HWR D
  have r6 : Wr [] w1 (w1.alloc (.cells #[.string xn, .int .i64 xt, .int .i64 xa] 173)) := (Wr.refl [] w1).alloc _
  have n6 := Blk.new w1 173 #[.string xn, .int .i64 xt, .int .i64 xa]
  have ho1 : ∀ u ∈ ([.string xn, .int .i64 xt, .int .i64 xa] : List Value), u.oneCell' = true := by simp [Value.oneCell']
  have hrel : CRel Fld.cells (w1.alloc (.cells #[.string xn, .int .i64 xt, .int .i64 xa] 173)) (fun bl => w8.heap.size ≤ bl ∧ (Value.slice A2 kk c2).ownBlock ≠ some bl) [.string xn, .int .i64 xt, .int .i64 xa] (⟨xn, xt, xa⟩) := rfl
  obtain ⟨A2, c2, W7, hrun, rA, hv, b7, hfin⟩ := lg_push (t := 125) (rdgOk b) (cOk _) Tryz.underlying125 hi2 hz02 hz12 hz22 rfl (by decide) (by decide) hbz hyz hwz0 hzB HK.out HM.out (by omega) HL.out rfl HX.out HT2.out HOW2.out HWR2.out r6 n6 rfl ho1 hrel
  have f7 := b7.frozen 8
  have c7 := b7.cell 8
  have c6 := HT2.out.blk.cell 8
  simp only [qsaq, qszq, qssq] at c7 c6
  simp only [qgaq, qgzq, qgsq] at c7 c6
  have HRUN := qh hrun
  have HFIN := qh hfin
  clear hrun hfin rA r6 hv b7 n6 ho1 hrel
  go_wp2_with (at_builtin; refine wpList_append_run rfl _ _ _ rfl _ _ rfl rfl _ _ HRUN.out ?_)
  go_roundw
  case rel => exact ⟨kk + 1, by first | rfl | (go_num), HFIN.out⟩
  case measure => first | (simp [intOf]; done) | (simp [intOf]; omega)
 have he := out_end (l := l) hm hgo
 obtain ⟨e1, e2⟩ := lg_end hl he HL10.out
 have hsl := (how.out (cOk _)).mono (cOk _) (Q := fun q => z < q) (fun q hq => by omega)
 have e3 := e1.symm
 clear e1
 subst e3
 subst e2
 have hkn : kk = l2.length := hk.symm
 subst hkn
 simp only [qsaq, qszq, qssq] at ht
 have T8 := qh ht
 have N2 := qh hsl
 have N1n := N1.out.keepR (cOk _) hwr (fun q hq => by simp; omega)
 replace N1 := qh N1n
 clear N1n
 have hgo2 := hgo
 clear hk hm hl ht how hwr hgo he hsl AT8
 go_upto_region 16 with (fail)
 go_cut [74] (fun s wx => s = .bool false ∧ wr = wx)
 case first =>
  rcases out_way hgo2 with ⟨hk2, rfl⟩ | hk2
  all_goals
   go_wp2_with fail
   go_meet
   exact ⟨rfl, rfl⟩
 obtain ⟨rfl, rfl⟩ := hcut
 clear c1 hgo2
 go_wp2_with fail
 refine (H11.out _ T8.out.rd).mono ?_
 rintro e w9 ⟨rfl, k9, b9⟩
 have m9 := T8.out.call k9 hbz hby b9
 have hzB : z < w9.heap.size := m9.blk.lt
 have N1n := N1.out.keepR (cOk _) k9 (fun q hq => by simp; omega)
 replace N1 := qh N1n
 clear N1n
 have N2n := N2.out.keepR (cOk _) k9 (fun q hq => by simp; omega)
 replace N2 := qh N2n
 clear N2n
 have at9 := LgR.start (one := Rd.arm) (Rel := ArmRel) (T := 187) (size := 3) (n := n3) m9 (show (#[.int .u8 (k : Int), .string m, .string nm, .int .i64 ba, .int .i64 ix, .int .i64 lo, .int .i64 hi, .slice A1 l1.length c1, .slice A2 l2.length c2, .slice none 0 0, .slice none 0 0, .int .i64 0] : Array Value)[9]? = some (.slice none 0 0) from rfl)
 obtain ⟨i3, hi3, hz03, hz13, hz23⟩ := info_parts info_arm
 have AT9 := qh at9
 clear m9 at9 k9 b9 T8
 obtain ⟨cn, dn⟩ := CN3.out
 go_wp2_with fail
 clear cn dn
 go_loopw [9, 10, 11, 12, 13, 14] (fun si sx0 sx1 sx2 sx3 sx4 wr => ∃ ki : Nat, si = .int .i64 ki ∧ LgR (fun w r => RdG w b r) Rd.arm ArmRel 187 129 3 b y z 9 n3 #[.int .u8 0, .string ⟨#[]⟩, .string ⟨#[]⟩, .int .i64 0, .int .i64 0, .int .i64 0, .int .i64 0, .slice none 0 0, .slice none 0 0, .slice none 0 0, .slice none 0 0, .int .i64 0] #[.int .u8 (k : Int), .string m, .string nm, .int .i64 ba, .int .i64 ix, .int .i64 lo, .int .i64 hi, .slice A1 l1.length c1, .slice A2 l2.length c2, .slice none 0 0, .slice none 0 0, .int .i64 0] w w9 r11 ki wr) (fun si _ _ _ _ _ _ => n3 - (intOf si).toNat)
 case atStart => exact ⟨0, rfl, AT9.out⟩
 obtain ⟨kk, rfl, acc, ⟨l, bad⟩, A3, c3, mm, hk, hm, hl, ht, how, hwr⟩ := hrel
 have c1 := ht.rd.cell 1
 simp only [qgaq, qgzq, qgsq] at c1
 by_cases hgo : kk < n3 ∧ bad = false
 ·obtain ⟨hk1, rfl⟩ := hgo
  obtain ⟨mm, rfl⟩ : ∃ q, mm = q + 1 := ⟨mm - 1, by omega⟩
  have hk2 : (kk : Int) < (n3 : Int) := by omega
  have hk3 : (0 : Int) ≤ (kk : Int) := by omega
  have HK := qh hk
  have HM := qh hm
  have HL := qh hl
  have HT := qh ht
  have HOW := qh how
  have HWR := qh hwr
  clear hk hm hl ht how hwr
  obtain ⟨wa, hwa⟩ : ∃ q, wr.alloc (.cells #[.slice none 0 0, .slice none 0 0, .bool false] 187) = q := ⟨_, rfl⟩
  obtain ⟨f, hf⟩ : ∃ q, wr.heap.size = q := ⟨_, rfl⟩
  obtain ⟨d, hbf, hwf⟩ := ItR.new (Tf := 187) (rdgOk b) HT.out.rd (Wr.refl _ _) (Nat.lt_trans hbz HT.out.blk.lt) #[.slice none 0 0, .slice none 0 0, .bool false] wa hwa hf
  have D := qh d
  have HWA := qh hwa
  have HF := qh hf
  clear d hwa hf
  go_upto_region 27 with (fail)
  rw [HF.out, HWA.out]
  clear c1
  obtain ⟨pq, ha0⟩ : ∃ p, Rd.num ⟨l, false⟩ 2 = p := ⟨_, rfl⟩
  obtain ⟨nn, ra0⟩ := pq
  have qn := num_ltO (k := 2) (by omega) (Rd.mk l false)
  have hc0 := number_g b 2 ⟨l, false⟩ (by decide) _ D.out.rd
  rw [ha0] at qn hc0
  simp only at qn hc0
  have CN := qh (show IntKind.i64.wrap (nn : Int) = (nn : Int) ∧ wrap64 (nn : Int) = (nn : Int) from ⟨by rw [IntKind.wrap_i64]; omega, by unfold wrap64; omega⟩)
  obtain ⟨pl, hal⟩ : ∃ p, Rd.list Rd.pair nn ra0 = p := ⟨_, rfl⟩
  obtain ⟨lp, ra1⟩ := pl
  have HAL := qh hal
  obtain ⟨pe, hae⟩ : ∃ p, Rd.truth ra1 = p := ⟨_, rfl⟩
  obtain ⟨xe, ra2⟩ := pe
  have hx : Rd.arm ⟨l, false⟩ = (⟨lp.map Prod.fst, lp.map Prod.snd, xe⟩, ra2) := by unfold Rd.arm; simp only [ha0, hal, hae]
  have HX := qh hx
  have hc2 := fun W (hW : RdG W b ra1) => truth_g b ra1 W hW
  rw [hae] at hc2
  simp only at hc2
  have HC2 := qh hc2
  have HC0 := qh hc0
  clear hx hal ha0 hae hc2 hc0
  go_wp2_with fail
  refine HC0.out.mono ?_
  rintro e wq ⟨rfl, k1, b1⟩
  have d1 := D.out.call k1 hbf b1
  have hq1 : f < wq.heap.size := d1.blk.lt
  have at1 : ArG (fun w r => RdG w b r) b f nn wr wq ra0 0 wq := ⟨[], ra0, none, none, 0, 0, nn, rfl, by omega, rfl, d1, World.ownsRow_nil _ _ _ _, World.ownsRow_nil _ _ _ _, fun q hq => by simp [Value.ownBlock] at hq, Nat.le_refl _⟩
  have hsz : wr.heap.size ≤ wq.heap.size := d1.wr.size
  have AT1 := qh at1
  replace D := qh d1
  obtain ⟨cn, dn⟩ := CN.out
  clear d1 at1 k1 b1
  go_wp2_with fail
  clear cn dn
  go_loopw [12, 13, 14] (fun sj sx0 sx1 wv => ∃ kj : Nat, sj = .int .i64 kj ∧ ArG (fun w r => RdG w b r) b f nn wr wq ra0 kj wv) (fun sj _ _ _ => nn - (intOf sj).toNat)
  case atStart => exact ⟨0, rfl, AT1.out⟩
  rename World => wv
  obtain ⟨k2, rfl, acc2, ⟨l2, bad2⟩, B1, B2, d1, d2, m2, hk, hm, hl, hd, htw⟩ := hrel
  have c1 := hd.rd.cell 1
  simp only [qgaq, qgzq, qgsq] at c1
  by_cases hgo : k2 < nn ∧ bad2 = false
  ·obtain ⟨hk1, rfl⟩ := hgo
   obtain ⟨m2, rfl⟩ : ∃ q, m2 = q + 1 := ⟨m2 - 1, by omega⟩
   have hk2 : (k2 : Int) < (nn : Int) := by omega
   have hk3 : (0 : Int) ≤ (k2 : Int) := by omega
   have hk4 : k2 ≤ 65535 := by omega
   obtain ⟨p0, ha0⟩ : ∃ p, Rd.four ⟨l2, false⟩ = p := ⟨_, rfl⟩
   obtain ⟨x0, s0⟩ := p0
   obtain ⟨p1, ha1⟩ : ∃ p, Rd.four s0 = p := ⟨_, rfl⟩
   obtain ⟨x1, s1⟩ := p1
   have hxx : Rd.pair ⟨l2, false⟩ = ((x0, x1), s1) := by unfold Rd.pair; simp only [ha0, ha1]
   have h0 := four_g b _ _ hd.rd
   have h1 := fun W (hW : RdG W b s0) => four_g b s0 W hW
   rw [ha0] at h0
   rw [ha1] at h1
   simp only at h0 h1
   have G0 := qh h0
   have G1 := qh h1
   have HXX := qh hxx
   have HD := qh hd
   have HTW := qh htw
   have HL2 := qh hl
   have HM2 := qh hm
   have HK2 := qh hk
   clear h0 h1 hxx hd htw hl hm hk ha0 ha1
   go_wp2_with fail
   refine G0.out.mono ?_
   rintro e wx ⟨rfl, k1, b1⟩
   have e1 := HD.out.call k1 hbf b1
   have t1 := HTW.out.keep k1 (fun q hq => by rw [qmsq] at hq; omega)
   have E1 := qh e1
   have T1 := qh t1
   clear e1 t1 k1 b1 c1
   go_wp2_with fail
   refine (G1.out _ E1.out.rd).mono ?_
   rintro e wy ⟨rfl, k1, b1⟩
   have e2 := E1.out.call k1 hbf b1
   have t2 := T1.out.keep k1 (fun q hq => by rw [qmsq] at hq; omega)
   have k3 : Wr [] wy (wy.alloc (.cells #[.int .i64 x0] 2)) := (Wr.refl [] wy).alloc _
   obtain ⟨A3, c3, W3, hrun, t3, r3, hv3⟩ := (t2.keep k3 (fun _ h => by simp at h)).push (Blk.new wy 2 #[.int .i64 x0]) rfl hk4
   have hf3 : ∀ p ∈ ownL (.slice B1 k2 d1), f < p := fun p hp => by have := (hv3 p hp).1; omega
   have b3 := (e2.blk.wr0 k3).wr r3 (fun hm => by have := hf3 f hm; omega)
   have rd3 : RdG W3 b s1 := Blk.wr (Blk.wr0 e2.rd k3) r3 (fun hm => by have := hf3 b hm; omega)
   have w3 : Wr [b] wr W3 := (e2.wr.trans0 k3).trans' r3 (fun q hq => .inr (Nat.le_trans hsz (hv3 q hq).1))
   have e3 : ItR (fun w r => RdG w b r) 187 b f wr s1 #[.slice B1 k2 d1, .slice B2 k2 d2, .bool false] W3 := ⟨b3, rd3, w3⟩
   have g3 := b3.frozen 0
   have y3 := b3.cell 0
   have y2 := e2.blk.cell 0
   simp only [qgaq, qgzq, qgsq] at y3 y2
   have e4 : ItR (fun w r => RdG w b r) 187 b f wr s1 #[.slice A3 (k2 + 1) c3, .slice B2 k2 d2, .bool false] (W3.setCell ⟨f, 0, none⟩ (.slice A3 (k2 + 1) c3)) := ⟨b3.set_ 0 _, Blk.far rd3 (by simp; omega) _, w3.setNew (by omega) _⟩
   have t4 := t3.keep (show Wr [f] W3 (W3.setCell ⟨f, 0, none⟩ (.slice A3 (k2 + 1) c3)) from (Wr.refl [f] W3).setOn (by simp) _) (fun q hq => by rw [qmsq] at hq; omega)
   have E4 := qh e4
   have T4 := qh t4
   have HRUN := qh hrun
   clear e2 t2 k3 hrun t3 r3 hv3 hf3 b3 rd3 w3 e3 e4 t4 k1 b1
   go_upto_region 34 with (at_builtin; refine wpList_append_run rfl _ _ _ rfl _ _ rfl rfl _ _ HRUN.out ?_)
   generalize W3.setCell ⟨f, 0, none⟩ (.slice A3 (k2 + 1) c3) = W4 at *
   clear g3 y3 y2 HRUN
   have e2 := E4.out
   have k3 : Wr [] W4 (W4.alloc (.cells #[.int .i64 x1] 2)) := (Wr.refl [] W4).alloc _
   obtain ⟨A5, c5, W5, hrun, t3, r3, hv3⟩ := (T4.out.swap.keep k3 (fun _ h => by simp at h)).push (Blk.new W4 2 #[.int .i64 x1]) rfl hk4
   have hf3 : ∀ p ∈ ownL (.slice B2 k2 d2), f < p := fun p hp => by have := (hv3 p hp).1; omega
   have b3 := (e2.blk.wr0 k3).wr r3 (fun hm => by have := hf3 f hm; omega)
   have rd3 : RdG W5 b s1 := Blk.wr (Blk.wr0 e2.rd k3) r3 (fun hm => by have := hf3 b hm; omega)
   have w3 : Wr [b] wr W5 := (e2.wr.trans0 k3).trans' r3 (fun q hq => .inr (Nat.le_trans hsz (hv3 q hq).1))
   have g3 := b3.frozen 1
   have y3 := b3.cell 1
   have y2 := e2.blk.cell 1
   simp only [qgaq, qgzq, qgsq] at y3 y2
   have hfin : ArG (fun w r => RdG w b r) b f nn wr wq ra0 (k2 + 1) (W5.setCell ⟨f, 1, none⟩ (.slice A5 (k2 + 1) c5)) := by
    refine ⟨acc2 ++ [(x0, x1)], s1, A3, A5, c3, c5, m2, by rw [qlaq, HK2.out]; rfl, by have := HM2.out; omega, ?_, ⟨b3.set_ 1 _, Blk.far rd3 (by simp; omega) _, w3.setNew (by omega) _⟩, ?_⟩
    ·rw [HL2.out, list_good _ _ _ rfl, HXX.out, qapq]
     rfl
    ·have := (t3.keep (show Wr [f] W5 (W5.setCell ⟨f, 1, none⟩ (.slice A5 (k2 + 1) c5)) from (Wr.refl [f] W5).setOn (by simp) _) (fun q hq => by rw [qmsq] at hq; omega)).swap
     rw [List.map_append, List.map_append]
     exact this
   have HFIN := qh hfin
   have HRUN := qh hrun
   clear e2 k3 hrun t3 r3 hv3 hf3 b3 rd3 w3 hfin
   go_wp2_with (at_builtin; refine wpList_append_run rfl _ _ _ rfl _ _ rfl rfl _ _ HRUN.out ?_)
   go_roundw
   case rel => exact ⟨k2 + 1, by first | rfl | (go_num), HFIN.out⟩
   case measure => first | (simp [intOf]; done) | (simp [intOf]; omega)
  have he := out_end (l := l2) hm hgo
  obtain ⟨e1, e2⟩ := lg_end hl he HAL.out
  have e3 := e1.symm
  clear e1
  subst e3
  subst e2
  have hkn : k2 = lp.length := hk.symm
  subst hkn
  have HD := qh hd
  have HTW := qh htw
  have hgo2 := hgo
  clear hk hm hl hd htw hgo he AT1
  go_upto_region 29 with (fail)
  go_cut [120] (fun s wx => s = .bool false ∧ wv = wx)
  case first =>
   rcases out_way hgo2 with ⟨hk2, rfl⟩ | hk2
   all_goals
    go_wp2_with fail
    go_meet
    exact ⟨rfl, rfl⟩
  obtain ⟨rfl, rfl⟩ := hcut
  clear c1 hgo2
  go_wp2_with fail
  refine (HC2.out _ HD.out.rd).mono ?_
  rintro e v2 ⟨rfl, k1, b1⟩
  have d2 := HD.out.call k1 hbf b1
  have t2 := HTW.out.keep k1 (fun q hq => by rw [qmsq] at hq; omega)
  have fz := d2.blk.frozen 2
  have yy := d2.blk.cell 2
  simp only [qgaq, qgzq, qgsq] at yy
  have d3 := d2.set (rdgOk b) hbf hwf 2 (.bool xe)
  have t3 := t2.keep (show Wr [f] v2 (v2.setCell ⟨f, 2, none⟩ (.bool xe)) from (Wr.refl [f] v2).setOn (by simp) _) (fun q hq => by rw [qmsq] at hq; omega)
  simp only [qsaq, qszq, qssq] at d3
  have E3 := qh d3
  have T3 := qh t3
  clear d2 t2 d3 t3 k1 b1
  go_upto_region 36 with (fail)
  generalize v2.setCell ⟨f, 2, none⟩ (.bool xe) = w1 at *
  clear fz yy
  have kf := E3.out.wr
  have HT2 := qh (HT.out.step kf E3.out.rd hbz hby)
  have HOW2 := qh (HOW.out.keep armOk kf (fun q hq => .inl (by rw [qmsq] at hq; omega)))
  have HWR2 := qh (HWR.out.trans (wr_at (z := z) kf))
  obtain ⟨y0, y1, y2⟩ := c3q E3.out.blk
  have r6 : Wr [] w1 (w1.alloc (.cells #[.slice B1 lp.length d1, .slice B2 lp.length d2, .bool xe] 187)) := (Wr.refl [] w1).alloc _
  have n6 := Blk.new w1 187 #[.slice B1 lp.length d1, .slice B2 lp.length d2, .bool xe]
  have ho1 : ∀ u ∈ ([.slice B1 lp.length d1, .slice B2 lp.length d2, .bool xe] : List Value), u.oneCell' = true := by simp [Value.oneCell']
  have hrel := arm_rel (W0 := w9) (v := .slice A3 kk c3) (xe := xe) (T3.out.keep r6 (fun _ h => by simp at h)) HOW.out (by have := HWR.out.size; omega) D.out.wr.size
  clear kf HT HOW HWR E3 T3 D
  obtain ⟨A2, c2, W7, hrun, rA, hv, b7, hfin⟩ := lg_push (t := 126) (rdgOk b) armOk Tryz.underlying126 hi3 hz03 hz13 hz23 rfl (by decide) (by decide) hbz hyz hwz0 hzB HK.out HM.out (by omega) HL.out rfl HX.out HT2.out HOW2.out HWR2.out r6 n6 rfl ho1 hrel
  have f7 := b7.frozen 9
  have c7 := b7.cell 9
  have c6 := HT2.out.blk.cell 9
  simp only [qsaq, qszq, qssq] at c7 c6
  simp only [qgaq, qgzq, qgsq] at c7 c6
  have HRUN := qh hrun
  have HFIN := qh hfin
  clear hrun hfin rA r6 hv b7 n6 ho1 hrel
  go_wp2_with (at_builtin; refine wpList_append_run rfl _ _ _ rfl _ _ rfl rfl _ _ HRUN.out ?_)
  go_roundw
  case rel => exact ⟨kk + 1, by first | rfl | (go_num), HFIN.out⟩
  case measure => first | (simp [intOf]; done) | (simp [intOf]; omega)
 have he := out_end (l := l) hm hgo
 obtain ⟨e1, e2⟩ := lg_end hl he HL12.out
 have hsl := (how.out armOk).mono armOk (Q := fun q => z < q) (fun q hq => by omega)
 have e3 := e1.symm
 clear e1
 subst e3
 subst e2
 have hkn : kk = l3.length := hk.symm
 subst hkn
 simp only [qsaq, qszq, qssq] at ht
 have T9 := qh ht
 have N3 := qh hsl
 have N1n := N1.out.keepR (cOk _) hwr (fun q hq => by simp; omega)
 replace N1 := qh N1n
 clear N1n
 have N2n := N2.out.keepR (cOk _) hwr (fun q hq => by simp; omega)
 replace N2 := qh N2n
 clear N2n
 have hgo2 := hgo
 clear hk hm hl ht how hwr hgo he hsl AT9
 go_upto_region 24 with (fail)
 go_cut [104] (fun s wx => s = .bool false ∧ wr = wx)
 case first =>
  rcases out_way hgo2 with ⟨hk2, rfl⟩ | hk2
  all_goals
   go_wp2_with fail
   go_meet
   exact ⟨rfl, rfl⟩
 obtain ⟨rfl, rfl⟩ := hcut
 clear c1 hgo2
 go_wp2_with fail
 refine (H13.out _ T9.out.rd).mono ?_
 rintro e w10 ⟨rfl, k10, b10⟩
 have m10 := T9.out.call k10 hbz hby b10
 have hzB : z < w10.heap.size := m10.blk.lt
 have N1n := N1.out.keepR (cOk _) k10 (fun q hq => by simp; omega)
 replace N1 := qh N1n
 clear N1n
 have N2n := N2.out.keepR (cOk _) k10 (fun q hq => by simp; omega)
 replace N2 := qh N2n
 clear N2n
 have N3n := N3.out.keepR armOk k10 (fun q hq => by simp; omega)
 replace N3 := qh N3n
 clear N3n
 have at10 := LgR.start (one := Rd.par) (Rel := (CRel Par.cells)) (T := 175) (size := 2) (n := n4) m10 (show (#[.int .u8 (k : Int), .string m, .string nm, .int .i64 ba, .int .i64 ix, .int .i64 lo, .int .i64 hi, .slice A1 l1.length c1, .slice A2 l2.length c2, .slice A3 l3.length c3, .slice none 0 0, .int .i64 0] : Array Value)[10]? = some (.slice none 0 0) from rfl)
 obtain ⟨i4, hi4, hz04, hz14, hz24⟩ := info_parts info_par
 have AT10 := qh at10
 clear m10 at10 k10 b10 T9
 obtain ⟨cn, dn⟩ := CN4.out
 go_wp2_with fail
 clear cn dn
 go_loopw [15, 16] (fun si sx0 wr => ∃ ki : Nat, si = .int .i64 ki ∧ LgR (fun w r => RdG w b r) Rd.par (CRel Par.cells) 175 129 2 b y z 10 n4 #[.int .u8 0, .string ⟨#[]⟩, .string ⟨#[]⟩, .int .i64 0, .int .i64 0, .int .i64 0, .int .i64 0, .slice none 0 0, .slice none 0 0, .slice none 0 0, .slice none 0 0, .int .i64 0] #[.int .u8 (k : Int), .string m, .string nm, .int .i64 ba, .int .i64 ix, .int .i64 lo, .int .i64 hi, .slice A1 l1.length c1, .slice A2 l2.length c2, .slice A3 l3.length c3, .slice none 0 0, .int .i64 0] w w10 r13 ki wr) (fun si _ _ => n4 - (intOf si).toNat)
 case atStart => exact ⟨0, rfl, AT10.out⟩
 obtain ⟨kk, rfl, acc, ⟨l, bad⟩, A4, c4, mm, hk, hm, hl, ht, how, hwr⟩ := hrel
 have c1 := ht.rd.cell 1
 simp only [qgaq, qgzq, qgsq] at c1
 by_cases hgo : kk < n4 ∧ bad = false
 ·obtain ⟨hk1, rfl⟩ := hgo
  obtain ⟨mm, rfl⟩ : ∃ q, mm = q + 1 := ⟨mm - 1, by omega⟩
  have hk2 : (kk : Int) < (n4 : Int) := by omega
  have hk3 : (0 : Int) ≤ (kk : Int) := by omega
  have HK := qh hk
  have HM := qh hm
  have HL := qh hl
  have HT := qh ht
  have HOW := qh how
  have HWR := qh hwr
  clear hk hm hl ht how hwr
  obtain ⟨pq, ha0⟩ : ∃ p, Rd.truth ⟨l, false⟩ = p := ⟨_, rfl⟩
  obtain ⟨xv, ra0⟩ := pq
  obtain ⟨pq, ha1⟩ : ∃ p, Rd.four ra0 = p := ⟨_, rfl⟩
  obtain ⟨xt, ra1⟩ := pq
  have hx : Rd.par ⟨l, false⟩ = (⟨xv, xt⟩, ra1) := by unfold Rd.par; simp only [ha0, ha1]
  have HX := qh hx
  clear hx
  have hc0 := fun W (hW : (fun w r => RdG w b r) W ⟨l, false⟩) => truth_g b ⟨l, false⟩ W hW
  rw [ha0] at hc0
  simp only at hc0
  have HC0 := qh hc0
  clear hc0 ha0
  have hc1 := fun W (hW : (fun w r => RdG w b r) W ra0) => four_g b ra0 W hW
  rw [ha1] at hc1
  simp only at hc1
  have HC1 := qh hc1
  clear hc1 ha1
  go_wp2_with fail
  refine (HC0.out _ HT.out.rd).mono ?_
  rintro e v0 ⟨rfl, k1, b1⟩
  obtain ⟨d, hbf, hwf⟩ := ItR.new (Tf := 175) (rdgOk b) b1 k1 (Nat.lt_trans hbz HT.out.blk.lt) #[.bool xv, .int .i64 0] _ rfl rfl
  clear c1
  obtain ⟨we, hwe⟩ : ∃ q, v0.alloc (.cells #[.bool xv, .int .i64 0] 175) = q := ⟨_, rfl⟩
  obtain ⟨f, hf⟩ : ∃ q, v0.heap.size = q := ⟨_, rfl⟩
  rw [hwe, hf] at d
  rw [hf] at hbf hwf
  have D := qh d
  have HWE := qh hwe
  have HF := qh hf
  clear d hwe hf k1 b1
  go_upto_region 42 with (fail)
  rw [HF.out, HWE.out]
  clear HWE
  go_wp2_with fail
  refine (HC1.out _ D.out.rd).mono ?_
  rintro e v1 ⟨rfl, k1, b1⟩
  have d := D.out.call k1 hbf b1
  have fz := d.blk.frozen 1
  have yy := d.blk.cell 1
  simp only [qgaq, qgzq, qgsq] at yy
  have d2 := d.set (rdgOk b) hbf hwf 1 (.int .i64 xt)
  simp only [qsaq, qszq, qssq] at d2
  replace D := qh d2
  clear d d2 k1 b1
  go_upto_region 43 with (fail)
  generalize v1.setCell ⟨f, 1, none⟩ (.int .i64 xt) = w1 at *
  clear fz yy
  have k1 := D.out.wr
  have HT2 := qh (HT.out.step k1 D.out.rd hbz hby)
  have HOW2 := qh (HOW.out.keep (cOk _) k1 (fun q hq => .inl (by rw [qmsq] at hq; omega)))
  have HWR2 := qh (HWR.out.trans (wr_at (z := z) k1))
  obtain ⟨y0, y1⟩ := c2q D.out.blk
  clear k1 HT HOW HWR D
  have r6 : Wr [] w1 (w1.alloc (.cells #[.bool xv, .int .i64 xt] 175)) := (Wr.refl [] w1).alloc _
  have n6 := Blk.new w1 175 #[.bool xv, .int .i64 xt]
  have ho1 : ∀ u ∈ ([.bool xv, .int .i64 xt] : List Value), u.oneCell' = true := by simp [Value.oneCell']
  have hrel : CRel Par.cells (w1.alloc (.cells #[.bool xv, .int .i64 xt] 175)) (fun bl => w10.heap.size ≤ bl ∧ (Value.slice A4 kk c4).ownBlock ≠ some bl) [.bool xv, .int .i64 xt] (⟨xv, xt⟩) := rfl
  obtain ⟨A2, c2, W7, hrun, rA, hv, b7, hfin⟩ := lg_push (t := 127) (rdgOk b) (cOk _) Tryz.underlying127 hi4 hz04 hz14 hz24 rfl (by decide) (by decide) hbz hyz hwz0 hzB HK.out HM.out (by omega) HL.out rfl HX.out HT2.out HOW2.out HWR2.out r6 n6 rfl ho1 hrel
  have f7 := b7.frozen 10
  have c7 := b7.cell 10
  have c6 := HT2.out.blk.cell 10
  simp only [qsaq, qszq, qssq] at c7 c6
  simp only [qgaq, qgzq, qgsq] at c7 c6
  have HRUN := qh hrun
  have HFIN := qh hfin
  clear hrun hfin rA r6 hv b7 n6 ho1 hrel
  go_wp2_with (at_builtin; refine wpList_append_run rfl _ _ _ rfl _ _ rfl rfl _ _ HRUN.out ?_)
  go_roundw
  case rel => exact ⟨kk + 1, by first | rfl | (go_num), HFIN.out⟩
  case measure => first | (simp [intOf]; done) | (simp [intOf]; omega)
 have he := out_end (l := l) hm hgo
 obtain ⟨e1, e2⟩ := lg_end hl he HL14.out
 have hsl := (how.out (cOk _)).mono (cOk _) (Q := fun q => z < q) (fun q hq => by omega)
 have e3 := e1.symm
 clear e1
 subst e3
 subst e2
 have hkn : kk = l4.length := hk.symm
 subst hkn
 simp only [qsaq, qszq, qssq] at ht
 have T10 := qh ht
 have N4 := qh hsl
 have N1n := N1.out.keepR (cOk _) hwr (fun q hq => by simp; omega)
 replace N1 := qh N1n
 clear N1n
 have N2n := N2.out.keepR (cOk _) hwr (fun q hq => by simp; omega)
 replace N2 := qh N2n
 clear N2n
 have N3n := N3.out.keepR armOk hwr (fun q hq => by simp; omega)
 replace N3 := qh N3n
 clear N3n
 have hgo2 := hgo
 clear hk hm hl ht how hwr hgo he hsl AT10
 go_upto_region 39 with (fail)
 go_cut [160] (fun s wx => s = .bool false ∧ wr = wx)
 case first =>
  rcases out_way hgo2 with ⟨hk2, rfl⟩ | hk2
  all_goals
   go_wp2_with fail
   go_meet
   exact ⟨rfl, rfl⟩
 obtain ⟨rfl, rfl⟩ := hcut
 clear c1 hgo2
 go_wp2_with fail
 refine (H15.out _ T10.out.rd).mono ?_
 rintro e w11a ⟨rfl, k11, b11⟩
 have N1n := N1.out.keepR (cOk _) k11 (fun q hq => by simp; omega)
 replace N1 := qh N1n
 clear N1n
 have N2n := N2.out.keepR (cOk _) k11 (fun q hq => by simp; omega)
 replace N2 := qh N2n
 clear N2n
 have N3n := N3.out.keepR armOk k11 (fun q hq => by simp; omega)
 replace N3 := qh N3n
 clear N3n
 have N4n := N4.out.keepR (cOk _) k11 (fun q hq => by simp; omega)
 replace N4 := qh N4n
 clear N4n
 have m11 := T10.out.call k11 hbz hby b11
 have f11 := m11.blk.frozen 11
 have x11 := m11.blk.cell 11
 simp only [qgaq, qgzq, qgsq] at x11
 have s11 := m11.set (rdgOk b) hbz hyz hwz0 11 (.int .i64 re)
 simp only [qsaq, qszq, qssq] at s11
 have S11 := qh s11
 have kz11 : Wr [z] w11a (w11a.setCell ⟨z, 11, none⟩ (.int .i64 re)) := (Wr.refl _ _).setOn (by simp) _
 have N1n := N1.out.keepR (cOk _) kz11 (fun q hq => by simp; omega)
 replace N1 := qh N1n
 clear N1n
 have N2n := N2.out.keepR (cOk _) kz11 (fun q hq => by simp; omega)
 replace N2 := qh N2n
 clear N2n
 have N3n := N3.out.keepR armOk kz11 (fun q hq => by simp; omega)
 replace N3 := qh N3n
 clear N3n
 have N4n := N4.out.keepR (cOk _) kz11 (fun q hq => by simp; omega)
 replace N4 := qh N4n
 clear N4n
 clear m11 s11 k11 b11 kz11
 go_upto_region 45 with (fail)
 generalize w11a.setCell ⟨z, 11, none⟩ (.int .i64 re) = w11 at *
 clear f11 x11
 have t := S11.out
 obtain ⟨x0, x1, x2, x3, x4, x5, x6, x7, x8, x9, x10, x11⟩ := c12q t.blk
 obtain ⟨g0, g1, g2, g3, g4, g5, g6, g7, g8, g9, g10, g11⟩ := z12q t.res
 obtain ⟨z0, z1, z2, z3, z4, z5, z6, z7, z8, z9, z10, z11⟩ := c12q t.res
 clear t
 go_wp2_with fail
 refine bodyPost_ret (v := .agg #[.int .u8 (k : Int), .string m, .string nm, .int .i64 ba, .int .i64 ix, .int .i64 lo, .int .i64 hi, .slice A1 l1.length c1, .slice A2 l2.length c2, .slice A3 l3.length c3, .slice A4 l4.length c4, .int .i64 re]) ?_ rfl ?_
 ·have h9 := S11.out.res.setL [.int .u8 (k : Int), .string m, .string nm, .int .i64 ba, .int .i64 ix, .int .i64 lo, .int .i64 hi, .slice A1 l1.length c1, .slice A2 l2.length c2, .slice A3 l3.length c3, .slice A4 l4.length c4, .int .i64 re] rfl
  obtain ⟨t0, t1, t2, t3, t4, t5, t6, t7, t8, t9, t10, t11⟩ := c12q h9
  simp only [setL] at t0 t1 t2 t3 t4 t5 t6 t7 t8 t9 t10 t11
  simp [results, Tryz.results93, go_sem, t0, t1, t2, t3, t4, t5, t6, t7, t8, t9, t10, t11]
 ·have kw := setL_wr (g := y) [.int .u8 (k : Int), .string m, .string nm, .int .i64 ba, .int .i64 ix, .int .i64 lo, .int .i64 hi, .slice A1 l1.length c1, .slice A2 l2.length c2, .slice A3 l3.length c3, .slice A4 l4.length c4, .int .i64 re] 0 w11
  exact ⟨_, _, _, _, rfl, S11.out.wr.new kw hwy, Blk.wr S11.out.rd kw (by simp; omega), ty_lists (N1.out.keepR (cOk _) kw (fun q hq => by simp; omega)) (N2.out.keepR (cOk _) kw (fun q hq => by simp; omega)) (N3.out.keepR armOk kw (fun q hq => by simp; omega)) (N4.out.keepR (cOk _) kw (fun q hq => by simp; omega)) (fun q hq => by omega)⟩
end Go.Proofs.YtildcdgobdfieaaGreat
