/- ref 21's reader: module: walked. No conditions. -/
import Derived.Test.YtildcdgobdfieaaGreatRD18
import Derived.Test.YtildcdgobdfieaaGreatRD21
import Derived.Test.YtildcdgobdfieaaGreatRD23
set_option linter.unusedVariables false
set_option linter.unusedSimpArgs false
set_option maxRecDepth 100000
set_option maxHeartbeats 32000000
namespace Go.Proofs.YtildcdgobdfieaaGreat
open Go.RowKit
theorem RdH.badAt {S : ByteArray} {w : World} {b : Nat} {r : Rd} (h : RdH S w b r) : w.cell? ⟨b, 2, none⟩ = some (.bool r.bad) := by
 obtain ⟨p, _, _, h3⟩ := h
 exact h3.cell 2
theorem RdH.badFz {S : ByteArray} {w : World} {b : Nat} {r : Rd} (h : RdH S w b r) : w.frozen? ⟨b, 2, none⟩ = false := by
 obtain ⟨p, _, _, h3⟩ := h
 exact h3.frozen 2
theorem RdH.setBad {S : ByteArray} {w : World} {b : Nat} {r : Rd} (h : RdH S w b r) : RdH S (w.setCell ⟨b, 2, none⟩ (.bool true)) b ⟨r.s, true⟩ := by
 obtain ⟨p, h1, h2, h3⟩ := h
 exact ⟨p, h1, h2, h3.set_ 2 (.bool true)⟩
theorem mod_l {w : World} {P Q : Nat → Prop} {vp vi vn : Value} {m : ModD} (h1 : SlRel (CRel PrcD.cells) w P 6 vp m.procs) (h2 : SlRel (CRel (fun i : Int => [Value.int .i64 i])) w P 1 vi m.imports) (h3 : SlRel (CRel (fun i : Int => [Value.int .u16 i])) w P 1 vn m.init) (hP : ∀ b, P b → Q b) : ModL w Q vp vi vn m := by
 have a1 := SlRel.flat (cells := PrcD.cells) (size := 6) (by decide) (fun _ => rfl) h1
 have a2 := SlRel.flat (cells := fun i : Int => [Value.int .i64 i]) (size := 1) (by decide) (fun _ => rfl) h2
 have a3 := SlRel.flat (cells := fun i : Int => [Value.int .u16 i]) (size := 1) (by decide) (fun _ => rfl) h3
 rw [flat_one] at a2 a3
 exact ⟨Sl.mono a1 hP, Sl.mono a2 hP, Sl.mono a3 hP⟩
def HModR (S : ByteArray) (b : Nat) (q : ModD × Rd) (w : World) (e : Ending) (w' : World) : Prop :=
 ∃ vp vi vn, e = .returned (q.1.val vp vi vn) ∧ Wr [b] w w' ∧ RdH S w' b q.2 ∧ ModL w' (fun x => w.heap.size ≤ x) vp vi vn q.1
theorem module_h (S : ByteArray) (b : Nat) (r : Rd) (hS : S.size ≤ maxLen) (w : World) (hb : RdH S w b r) : Calls Tryz.prog 65 #[.pointer (some ⟨b, 0, none⟩)] w (HModR S b (Rd.module r) w) := by
 unfold Rd.module
 obtain ⟨p0, hp0⟩ : ∃ p, Rd.num r 2 = p := ⟨_, rfl⟩
 obtain ⟨nc, r0⟩ := p0
 obtain ⟨p1, hp1⟩ : ∃ p, Rd.raw r0 nc = p := ⟨_, rfl⟩
 obtain ⟨cd, r1⟩ := p1
 obtain ⟨p2, hp2⟩ : ∃ p, Rd.num r1 2 = p := ⟨_, rfl⟩
 obtain ⟨n1, r2⟩ := p2
 obtain ⟨p3, hp3⟩ : ∃ p, Rd.list Rd.proc n1 r2 = p := ⟨_, rfl⟩
 obtain ⟨l1, r3⟩ := p3
 obtain ⟨p4, hp4⟩ : ∃ p, Rd.num r3 1 = p := ⟨_, rfl⟩
 obtain ⟨n2, r4⟩ := p4
 obtain ⟨p5, hp5⟩ : ∃ p, Rd.list Rd.one n2 r4 = p := ⟨_, rfl⟩
 obtain ⟨l2, r5⟩ := p5
 obtain ⟨p6, hp6⟩ : ∃ p, Rd.num r5 2 = p := ⟨_, rfl⟩
 obtain ⟨dt, r6⟩ := p6
 obtain ⟨p7, hp7⟩ : ∃ p, Rd.num r6 2 = p := ⟨_, rfl⟩
 obtain ⟨n3, r7⟩ := p7
 obtain ⟨p8, hp8⟩ : ∃ p, Rd.list Rd.two n3 r7 = p := ⟨_, rfl⟩
 obtain ⟨l3, r8⟩ := p8
 have ht6 : Rd.two r5 = ((dt : Int), r6) := by unfold Rd.two; rw [hp6]
 simp only [ht6, hp0, hp1, hp2, hp3, hp4, hp5, hp6, hp7, hp8]
 clear ht6
 have q0 := num_ltO (k := 2) (by omega) r
 rw [hp0] at q0
 simp only at q0
 have h0 := fun W (hW : (fun w r => RdH S w b r) W r) => num_h S b 2 r (by decide) hS W hW
 rw [hp0] at h0
 simp only at h0
 have H0 := qh h0
 clear h0
 have h1 := fun W (hW : (fun w r => RdH S w b r) W r0) => take_h S b nc r0 (by omega) hS W hW
 rw [hp1] at h1
 simp only at h1
 have H1 := qh h1
 clear h1
 have q2 := num_ltO (k := 2) (by omega) r1
 rw [hp2] at q2
 simp only at q2
 have h2 := fun W (hW : (fun w r => RdH S w b r) W r1) => num_h S b 2 r1 (by decide) hS W hW
 rw [hp2] at h2
 simp only at h2
 have H2 := qh h2
 clear h2
 have HL3 := qh hp3
 have q4 := num_ltO (k := 1) (by omega) r3
 rw [hp4] at q4
 simp only at q4
 have h4 := fun W (hW : (fun w r => RdH S w b r) W r3) => num_h S b 1 r3 (by decide) hS W hW
 rw [hp4] at h4
 simp only at h4
 have H4 := qh h4
 clear h4
 have HL5 := qh hp5
 have q6 := num_ltO (k := 2) (by omega) r5
 rw [hp6] at q6
 simp only at q6
 have h6 := fun W (hW : (fun w r => RdH S w b r) W r5) => num_h S b 2 r5 (by decide) hS W hW
 rw [hp6] at h6
 simp only at h6
 have H6 := qh h6
 clear h6
 have q7 := num_ltO (k := 2) (by omega) r6
 rw [hp7] at q7
 simp only at q7
 have h7 := fun W (hW : (fun w r => RdH S w b r) W r6) => num_h S b 2 r6 (by decide) hS W hW
 rw [hp7] at h7
 simp only at h7
 have H7 := qh h7
 clear h7
 have HL8 := qh hp8
 clear hp0 hp1 hp2 hp3 hp4 hp5 hp6 hp7 hp8
 have CN1 := qh (show IntKind.i64.wrap (n1 : Int) = (n1 : Int) ∧ wrap64 (n1 : Int) = (n1 : Int) from ⟨by rw [IntKind.wrap_i64]; omega, by unfold wrap64; omega⟩)
 have CN2 := qh (show IntKind.i64.wrap (n2 : Int) = (n2 : Int) ∧ wrap64 (n2 : Int) = (n2 : Int) from ⟨by rw [IntKind.wrap_i64]; omega, by unfold wrap64; omega⟩)
 have CN3 := qh (show IntKind.i64.wrap (n3 : Int) = (n3 : Int) ∧ wrap64 (n3 : Int) = (n3 : Int) from ⟨by rw [IntKind.wrap_i64]; omega, by unfold wrap64; omega⟩)
 have CC := qh (show IntKind.i64.wrap (nc : Int) = (nc : Int) ∧ wrap64 (nc : Int) = (nc : Int) from ⟨by rw [IntKind.wrap_i64]; omega, by unfold wrap64; omega⟩)
 have CD := qh (show IntKind.i64.wrap (dt : Int) = (dt : Int) ∧ wrap64 (dt : Int) = (dt : Int) from ⟨by rw [IntKind.wrap_i64]; omega, by unfold wrap64; omega⟩)
 obtain ⟨md, hmd⟩ : ∃ q : ModD, (⟨⟨cd.toArray⟩, l1, l2, (dt : Int), l3⟩ : ModD) = q := ⟨_, rfl⟩
 rw [hmd]
 obtain ⟨rf, hrf⟩ : ∃ q : Rd, (⟨r8.s, r8.bad || !omodB md⟩ : Rd) = q := ⟨_, rfl⟩
 rw [hrf]
 have HMD := qh hmd
 have HRF := qh hrf
 have HSS := qh hS
 clear hmd hrf
 have hbl := hb.lt
 have yn := Blk.new w 28 #[.string ⟨#[]⟩, .slice none 0 0, .slice none 0 0, .int .i64 0, .slice none 0 0]
 have rn := (Wr.refl [b] w).alloc (.cells #[.string ⟨#[]⟩, .slice none 0 0, .slice none 0 0, .int .i64 0, .slice none 0 0] 28)
 have bn := (rdhOk S b).keep hb ((Wr.refl [] w).alloc (.cells #[.string ⟨#[]⟩, .slice none 0 0, .slice none 0 0, .int .i64 0, .slice none 0 0] 28)) (by simp)
 obtain ⟨wn, hwn⟩ : ∃ q, w.alloc (.cells #[.string ⟨#[]⟩, .slice none 0 0, .slice none 0 0, .int .i64 0, .slice none 0 0] 28) = q := ⟨_, rfl⟩
 obtain ⟨y, hy⟩ : ∃ q, w.heap.size = q := ⟨_, rfl⟩
 rw [hwn] at yn rn bn
 rw [hy] at yn
 have hby : b ≠ y := by omega
 have hwy : w.heap.size ≤ y := by omega
 have hbl2 : b < y := by omega
 obtain ⟨wz, hwz⟩ : ∃ q, wn.alloc (.cells #[.string ⟨#[]⟩, .slice none 0 0, .slice none 0 0, .int .i64 0, .slice none 0 0] 28) = q := ⟨_, rfl⟩
 obtain ⟨z, hz⟩ : ∃ q, wn.heap.size = q := ⟨_, rfl⟩
 have kz : Wr [] wn wz := by rw [← hwz]; exact (Wr.refl _ _).alloc _
 have zn : Blk wz z 28 #[.string ⟨#[]⟩, .slice none 0 0, .slice none 0 0, .int .i64 0, .slice none 0 0] := by rw [← hwz, ← hz]; exact Blk.new _ _ _
 have hyz : y < z := by have := yn.lt; omega
 have hbz : b < z := by omega
 have hwz0 : w.heap.size ≤ z := by omega
 have m0 : TgS (fun w r => RdH S w b r) 28 b y z #[.string ⟨#[]⟩, .slice none 0 0, .slice none 0 0, .int .i64 0, .slice none 0 0] w r #[.string ⟨#[]⟩, .slice none 0 0, .slice none 0 0, .int .i64 0, .slice none 0 0] wz := ⟨zn, yn.wr0 kz, (rdhOk S b).keep bn kz (by simp), rn.trans0 kz⟩
 have M0 := qh m0
 have HWN := qh hwn
 have HWZ := qh hwz
 have HY := qh hy
 have HZ := qh hz
 clear hwn hy hb hbl yn rn bn hwz hz kz zn m0
 go_in
 go_upto_region 1 with (fail)
 rw [HY.out, HWN.out]
 go_upto_region 2 with (fail)
 rw [HZ.out, HWZ.out]
 clear HWN HWZ HY HZ
 obtain ⟨cn, dn⟩ := CC.out
 go_wp2_with fail
 refine (H0.out _ M0.out.rd).mono ?_
 rintro e w0 ⟨rfl, k1, b1⟩
 have S0 := qh (M0.out.call k1 hbz hby b1)
 clear k1 b1 M0
 go_wp2_with fail
 refine (H1.out _ S0.out.rd).mono ?_
 rintro e w1a ⟨rfl, k1, b1⟩
 have m1 := S0.out.call k1 hbz hby b1
 have f1 := m1.blk.frozen 0
 have x1 := m1.blk.cell 0
 simp only [qgaq, qgzq, qgsq] at x1
 have s1 := m1.set (rdhOk S b) hbz hyz hwz0 0 (.string (ansS cd))
 simp only [qsaq, qszq, qssq] at s1
 have S1 := qh s1
 have kz1 : Wr [z] w1a (w1a.setCell ⟨z, 0, none⟩ (.string (ansS cd))) := (Wr.refl _ _).setOn (by simp) _
 clear m1 s1 k1 b1 kz1
 go_upto_region 3 with (fail)
 generalize w1a.setCell ⟨z, 0, none⟩ (.string (ansS cd)) = w1 at *
 clear f1 x1
 clear cn dn
 go_wp2_with fail
 refine (H2.out _ S1.out.rd).mono ?_
 rintro e w2 ⟨rfl, k2, b2⟩
 have m2 := S1.out.call k2 hbz hby b2
 have hzB : z < w2.heap.size := m2.blk.lt
 have at2 := LgR.start (one := Rd.proc) (Rel := (CRel PrcD.cells)) (T := 98) (size := 6) (n := n1) m2 (show (#[.string (ansS cd), .slice none 0 0, .slice none 0 0, .int .i64 0, .slice none 0 0] : Array Value)[1]? = some (.slice none 0 0) from rfl)
 obtain ⟨i1, hi1, hz01, hz11, hz21⟩ := info_parts infoO_prc
 have AT2 := qh at2
 clear m2 at2 k2 b2 S1
 obtain ⟨cn, dn⟩ := CN1.out
 go_wp2_with fail
 clear cn dn
 go_loopw [5, 6] (fun si sx0 wr => ∃ ki : Nat, si = .int .i64 ki ∧ LgR (fun w r => RdH S w b r) Rd.proc (CRel PrcD.cells) 98 28 6 b y z 1 n1 #[.string ⟨#[]⟩, .slice none 0 0, .slice none 0 0, .int .i64 0, .slice none 0 0] #[.string (ansS cd), .slice none 0 0, .slice none 0 0, .int .i64 0, .slice none 0 0] w w2 r2 ki wr) (fun si _ _ => n1 - (intOf si).toNat)
 case atStart => exact ⟨0, rfl, AT2.out⟩
 obtain ⟨kk, rfl, acc, ⟨l, bad⟩, A1, c1, mm, hk, hm, hl, ht, how, hwr⟩ := hrel
 have c1 : wr.cell? ⟨b, 2, none⟩ = some (.bool bad) := RdH.badAt ht.rd
 by_cases hgo : kk < n1 ∧ bad = false
 ·obtain ⟨hk1, rfl⟩ := hgo
  obtain ⟨mm, rfl⟩ : ∃ q, mm = q + 1 := ⟨mm - 1, by omega⟩
  have hk2 : (kk : Int) < (n1 : Int) := by omega
  have hk3 : (0 : Int) ≤ (kk : Int) := by omega
  have HK := qh hk
  have HM := qh hm
  have HL := qh hl
  have HT := qh ht
  have HOW := qh how
  have HWR := qh hwr
  clear hk hm hl ht how hwr
  obtain ⟨pq, ha0⟩ : ∃ p, Rd.num ⟨l, false⟩ 2 = p := ⟨_, rfl⟩
  obtain ⟨x0, ra0⟩ := pq
  obtain ⟨pq, ha1⟩ : ∃ p, Rd.num ra0 2 = p := ⟨_, rfl⟩
  obtain ⟨x1, ra1⟩ := pq
  obtain ⟨pq, ha2⟩ : ∃ p, Rd.num ra1 2 = p := ⟨_, rfl⟩
  obtain ⟨x2, ra2⟩ := pq
  obtain ⟨pq, ha3⟩ : ∃ p, Rd.num ra2 2 = p := ⟨_, rfl⟩
  obtain ⟨x3, ra3⟩ := pq
  obtain ⟨pq, ha4⟩ : ∃ p, Rd.num ra3 1 = p := ⟨_, rfl⟩
  obtain ⟨x4, ra4⟩ := pq
  obtain ⟨pq, ha5⟩ : ∃ p, Rd.truth ra4 = p := ⟨_, rfl⟩
  obtain ⟨x5, ra5⟩ := pq
  have hx : Rd.proc ⟨l, false⟩ = (⟨x0, x1, x2, x3, x4, x5⟩, ra5) := by unfold Rd.proc Rd.two Rd.one; simp only [ha0, ha1, ha2, ha3, ha4, ha5]
  have HX := qh hx
  clear hx
  have hc0 := fun W (hW : (fun w r => RdH S w b r) W ⟨l, false⟩) => num_h S b 2 ⟨l, false⟩ (by decide) HSS.out W hW
  have qb0 := num_ltO (k := 2) (by omega) ⟨l, false⟩
  rw [ha0] at qb0
  simp only at qb0
  have CV0 := qh (show IntKind.i64.wrap (x0 : Int) = (x0 : Int) ∧ wrap64 (x0 : Int) = (x0 : Int) from ⟨by rw [IntKind.wrap_i64]; omega, by unfold wrap64; omega⟩)
  clear qb0
  rw [ha0] at hc0
  simp only at hc0
  have HC0 := qh hc0
  clear hc0 ha0
  have hc1 := fun W (hW : (fun w r => RdH S w b r) W ra0) => num_h S b 2 ra0 (by decide) HSS.out W hW
  have qb1 := num_ltO (k := 2) (by omega) ra0
  rw [ha1] at qb1
  simp only at qb1
  have CV1 := qh (show IntKind.i64.wrap (x1 : Int) = (x1 : Int) ∧ wrap64 (x1 : Int) = (x1 : Int) from ⟨by rw [IntKind.wrap_i64]; omega, by unfold wrap64; omega⟩)
  clear qb1
  rw [ha1] at hc1
  simp only at hc1
  have HC1 := qh hc1
  clear hc1 ha1
  have hc2 := fun W (hW : (fun w r => RdH S w b r) W ra1) => num_h S b 2 ra1 (by decide) HSS.out W hW
  have qb2 := num_ltO (k := 2) (by omega) ra1
  rw [ha2] at qb2
  simp only at qb2
  have CV2 := qh (show IntKind.i64.wrap (x2 : Int) = (x2 : Int) ∧ wrap64 (x2 : Int) = (x2 : Int) from ⟨by rw [IntKind.wrap_i64]; omega, by unfold wrap64; omega⟩)
  clear qb2
  rw [ha2] at hc2
  simp only at hc2
  have HC2 := qh hc2
  clear hc2 ha2
  have hc3 := fun W (hW : (fun w r => RdH S w b r) W ra2) => num_h S b 2 ra2 (by decide) HSS.out W hW
  have qb3 := num_ltO (k := 2) (by omega) ra2
  rw [ha3] at qb3
  simp only at qb3
  have CV3 := qh (show IntKind.i64.wrap (x3 : Int) = (x3 : Int) ∧ wrap64 (x3 : Int) = (x3 : Int) from ⟨by rw [IntKind.wrap_i64]; omega, by unfold wrap64; omega⟩)
  clear qb3
  rw [ha3] at hc3
  simp only at hc3
  have HC3 := qh hc3
  clear hc3 ha3
  have hc4 := fun W (hW : (fun w r => RdH S w b r) W ra3) => num_h S b 1 ra3 (by decide) HSS.out W hW
  have qb4 := num_ltO (k := 1) (by omega) ra3
  rw [ha4] at qb4
  simp only at qb4
  have CV4 := qh (show IntKind.i64.wrap (x4 : Int) = (x4 : Int) ∧ wrap64 (x4 : Int) = (x4 : Int) from ⟨by rw [IntKind.wrap_i64]; omega, by unfold wrap64; omega⟩)
  clear qb4
  rw [ha4] at hc4
  simp only at hc4
  have HC4 := qh hc4
  clear hc4 ha4
  have hc5 := fun W (hW : (fun w r => RdH S w b r) W ra4) => truth_h S b ra4 HSS.out W hW
  rw [ha5] at hc5
  simp only at hc5
  have HC5 := qh hc5
  clear hc5 ha5
  go_wp2_with fail
  refine (HC0.out _ HT.out.rd).mono ?_
  rintro e v0 ⟨rfl, k1, b1⟩
  obtain ⟨cv, dv⟩ := CV0.out
  obtain ⟨d, hbf, hwf⟩ := ItR.new (Tf := 98) (rdhOk S b) b1 k1 (Nat.lt_trans hbz HT.out.blk.lt) #[.int .i64 (x0 : Int), .int .i64 0, .int .i64 0, .int .i64 0, .int .i64 0, .bool false] _ rfl rfl
  clear c1
  obtain ⟨we, hwe⟩ : ∃ q, v0.alloc (.cells #[.int .i64 (x0 : Int), .int .i64 0, .int .i64 0, .int .i64 0, .int .i64 0, .bool false] 98) = q := ⟨_, rfl⟩
  obtain ⟨f, hf⟩ : ∃ q, v0.heap.size = q := ⟨_, rfl⟩
  rw [hwe, hf] at d
  rw [hf] at hbf hwf
  have D := qh d
  have HWE := qh hwe
  have HF := qh hf
  clear d hwe hf k1 b1
  go_upto_region 8 with (fail)
  rw [HF.out, HWE.out]
  clear HWE
  clear cv dv
  go_wp2_with fail
  refine (HC1.out _ D.out.rd).mono ?_
  rintro e v1 ⟨rfl, k1, b1⟩
  obtain ⟨cv, dv⟩ := CV1.out
  have d := D.out.call k1 hbf b1
  have fz := d.blk.frozen 1
  have yy := d.blk.cell 1
  simp only [qgaq, qgzq, qgsq] at yy
  have d2 := d.set (rdhOk S b) hbf hwf 1 (.int .i64 (x1 : Int))
  simp only [qsaq, qszq, qssq] at d2
  replace D := qh d2
  clear d d2 k1 b1
  go_upto_region 9 with (fail)
  generalize v1.setCell ⟨f, 1, none⟩ (.int .i64 (x1 : Int)) = u1 at *
  clear fz yy
  clear cv dv
  go_wp2_with fail
  refine (HC2.out _ D.out.rd).mono ?_
  rintro e v2 ⟨rfl, k1, b1⟩
  obtain ⟨cv, dv⟩ := CV2.out
  have d := D.out.call k1 hbf b1
  have fz := d.blk.frozen 2
  have yy := d.blk.cell 2
  simp only [qgaq, qgzq, qgsq] at yy
  have d2 := d.set (rdhOk S b) hbf hwf 2 (.int .i64 (x2 : Int))
  simp only [qsaq, qszq, qssq] at d2
  replace D := qh d2
  clear d d2 k1 b1
  go_upto_region 10 with (fail)
  generalize v2.setCell ⟨f, 2, none⟩ (.int .i64 (x2 : Int)) = u2 at *
  clear fz yy
  clear cv dv
  go_wp2_with fail
  refine (HC3.out _ D.out.rd).mono ?_
  rintro e v3 ⟨rfl, k1, b1⟩
  obtain ⟨cv, dv⟩ := CV3.out
  have d := D.out.call k1 hbf b1
  have fz := d.blk.frozen 3
  have yy := d.blk.cell 3
  simp only [qgaq, qgzq, qgsq] at yy
  have d2 := d.set (rdhOk S b) hbf hwf 3 (.int .i64 (x3 : Int))
  simp only [qsaq, qszq, qssq] at d2
  replace D := qh d2
  clear d d2 k1 b1
  go_upto_region 11 with (fail)
  generalize v3.setCell ⟨f, 3, none⟩ (.int .i64 (x3 : Int)) = u3 at *
  clear fz yy
  clear cv dv
  go_wp2_with fail
  refine (HC4.out _ D.out.rd).mono ?_
  rintro e v4 ⟨rfl, k1, b1⟩
  obtain ⟨cv, dv⟩ := CV4.out
  have d := D.out.call k1 hbf b1
  have fz := d.blk.frozen 4
  have yy := d.blk.cell 4
  simp only [qgaq, qgzq, qgsq] at yy
  have d2 := d.set (rdhOk S b) hbf hwf 4 (.int .i64 (x4 : Int))
  simp only [qsaq, qszq, qssq] at d2
  replace D := qh d2
  clear d d2 k1 b1
  go_upto_region 12 with (fail)
  generalize v4.setCell ⟨f, 4, none⟩ (.int .i64 (x4 : Int)) = u4 at *
  clear fz yy
  clear cv dv
  go_wp2_with fail
  refine (HC5.out _ D.out.rd).mono ?_
  rintro e v5 ⟨rfl, k1, b1⟩
  have d := D.out.call k1 hbf b1
  have fz := d.blk.frozen 5
  have yy := d.blk.cell 5
  simp only [qgaq, qgzq, qgsq] at yy
  have d2 := d.set (rdhOk S b) hbf hwf 5 (.bool x5)
  simp only [qsaq, qszq, qssq] at d2
  replace D := qh d2
  clear d d2 k1 b1
  go_upto_region 13 with (fail)
  generalize v5.setCell ⟨f, 5, none⟩ (.bool x5) = w1 at *
  clear fz yy
  have k1 := D.out.wr
  have HT2 := qh (HT.out.step k1 D.out.rd hbz hby)
  have HOW2 := qh (HOW.out.keep (cOk _) k1 (fun q hq => .inl (by rw [qmsq] at hq; omega)))
  have HWR2 := qh (HWR.out.trans (wr_at (z := z) k1))
  obtain ⟨y0, y1, y2, y3, y4, y5⟩ := c6q D.out.blk
  clear k1 HT HOW HWR D
  have r6 : Wr [] w1 (w1.alloc (.cells #[.int .i64 (x0 : Int), .int .i64 (x1 : Int), .int .i64 (x2 : Int), .int .i64 (x3 : Int), .int .i64 (x4 : Int), .bool x5] 98)) := (Wr.refl [] w1).alloc _
  have n6 := Blk.new w1 98 #[.int .i64 (x0 : Int), .int .i64 (x1 : Int), .int .i64 (x2 : Int), .int .i64 (x3 : Int), .int .i64 (x4 : Int), .bool x5]
  have ho1 : ∀ u ∈ ([.int .i64 (x0 : Int), .int .i64 (x1 : Int), .int .i64 (x2 : Int), .int .i64 (x3 : Int), .int .i64 (x4 : Int), .bool x5] : List Value), u.oneCell' = true := by simp [Value.oneCell']
  have hrel : CRel PrcD.cells (w1.alloc (.cells #[.int .i64 (x0 : Int), .int .i64 (x1 : Int), .int .i64 (x2 : Int), .int .i64 (x3 : Int), .int .i64 (x4 : Int), .bool x5] 98)) (fun bl => w2.heap.size ≤ bl ∧ (Value.slice A1 kk c1).ownBlock ≠ some bl) [.int .i64 (x0 : Int), .int .i64 (x1 : Int), .int .i64 (x2 : Int), .int .i64 (x3 : Int), .int .i64 (x4 : Int), .bool x5] (⟨x0, x1, x2, x3, x4, x5⟩) := rfl
  obtain ⟨A2, c2, W7, hrun, rA, hv, b7, hfin⟩ := lg_push (t := 24) (rdhOk S b) (cOk _) Tryz.underlying24 hi1 hz01 hz11 hz21 rfl (by decide) (by decide) hbz hyz hwz0 hzB HK.out HM.out (by omega) HL.out rfl HX.out HT2.out HOW2.out HWR2.out r6 n6 rfl ho1 hrel
  have f7 := b7.frozen 1
  have c7 := b7.cell 1
  have c6 := HT2.out.blk.cell 1
  simp only [qsaq, qszq, qssq] at c7 c6
  simp only [qgaq, qgzq, qgsq] at c7 c6
  have HRUN := qh hrun
  have HFIN := qh hfin
  clear hrun hfin rA r6 hv b7 n6 ho1 hrel
  go_wp2_with (at_builtin; refine wpList_append_run rfl _ _ _ rfl _ _ rfl rfl _ _ HRUN.out ?_)
  go_roundw
  case rel => exact ⟨kk + 1, by first | rfl | (go_num), HFIN.out⟩
  case measure => first | (simp [intOf]; done) | (simp [intOf]; omega)
 have he := out_end (l := l) hm hgo
 obtain ⟨e1, e2⟩ := lg_end hl he HL3.out
 have hsl := (how.out (cOk _)).mono (cOk _) (Q := fun q => z < q) (fun q hq => by omega)
 have e3 := e1.symm
 clear e1
 subst e3
 subst e2
 have hkn : kk = l1.length := hk.symm
 subst hkn
 simp only [qsaq, qszq, qssq] at ht
 have T2 := qh ht
 have N1 := qh hsl
 have hgo2 := hgo
 clear hk hm hl ht how hwr hgo he hsl AT2
 go_upto_region 5 with (fail)
 go_cut [30] (fun s wx => s = .bool false ∧ wr = wx)
 case first =>
  rcases out_way hgo2 with ⟨hk2, rfl⟩ | hk2
  all_goals
   go_wp2_with fail
   go_meet
   exact ⟨rfl, rfl⟩
 obtain ⟨rfl, rfl⟩ := hcut
 clear c1 hgo2
 go_wp2_with fail
 refine (H4.out _ T2.out.rd).mono ?_
 rintro e w3 ⟨rfl, k3, b3⟩
 have m3 := T2.out.call k3 hbz hby b3
 have hzB : z < w3.heap.size := m3.blk.lt
 have N1n := N1.out.keepR (cOk _) k3 (fun q hq => by simp; omega)
 replace N1 := qh N1n
 clear N1n
 have at3 := LgR.start (one := Rd.one) (Rel := (CRel (fun i : Int => [Value.int .i64 i]))) (T := 3) (size := 1) (n := n2) m3 (show (#[.string (ansS cd), .slice A1 l1.length c1, .slice none 0 0, .int .i64 0, .slice none 0 0] : Array Value)[2]? = some (.slice none 0 0) from rfl)
 obtain ⟨i2, hi2, hz02, hz12, hz22⟩ := info_parts infoO_i64
 have AT3 := qh at3
 clear m3 at3 k3 b3 T2
 obtain ⟨cn, dn⟩ := CN2.out
 go_wp2_with fail
 clear cn dn
 go_loopw [7, 8] (fun si sx0 wr => ∃ ki : Nat, si = .int .i64 ki ∧ LgR (fun w r => RdH S w b r) Rd.one (CRel (fun i : Int => [Value.int .i64 i])) 3 28 1 b y z 2 n2 #[.string ⟨#[]⟩, .slice none 0 0, .slice none 0 0, .int .i64 0, .slice none 0 0] #[.string (ansS cd), .slice A1 l1.length c1, .slice none 0 0, .int .i64 0, .slice none 0 0] w w3 r4 ki wr) (fun si _ _ => n2 - (intOf si).toNat)
 case atStart => exact ⟨0, rfl, AT3.out⟩
 obtain ⟨kk, rfl, acc, ⟨l, bad⟩, A2, c2, mm, hk, hm, hl, ht, how, hwr⟩ := hrel
 have c1 : wr.cell? ⟨b, 2, none⟩ = some (.bool bad) := RdH.badAt ht.rd
 by_cases hgo : kk < n2 ∧ bad = false
 ·obtain ⟨hk1, rfl⟩ := hgo
  obtain ⟨mm, rfl⟩ : ∃ q, mm = q + 1 := ⟨mm - 1, by omega⟩
  have hk2 : (kk : Int) < (n2 : Int) := by omega
  have hk3 : (0 : Int) ≤ (kk : Int) := by omega
  have HK := qh hk
  have HM := qh hm
  have HL := qh hl
  have HT := qh ht
  have HOW := qh how
  have HWR := qh hwr
  clear hk hm hl ht how hwr
  go_wp2_with fail
  refine (num_h S b 1 _ (by decide) HSS.out _ HT.out.rd).mono ?_
  obtain ⟨px, hx⟩ : ∃ p, Rd.num ⟨l, false⟩ 1 = p := ⟨_, rfl⟩
  obtain ⟨x, rx⟩ := px
  have qb := num_ltO (k := 1) (by omega) (Rd.mk l false)
  rw [hx] at qb
  simp only at qb
  have CV := qh (show IntKind.i64.wrap (x : Int) = (x : Int) ∧ wrap64 (x : Int) = (x : Int) from ⟨by rw [IntKind.wrap_i64]; omega, by unfold wrap64; omega⟩)
  clear qb
  rw [hx]
  rintro e w1 ⟨rfl, k1, b1⟩
  have HX := qh (show Rd.one ⟨l, false⟩ = ((x : Int), rx) by unfold Rd.one; rw [hx])
  have HT2 := qh (HT.out.call k1 hbz hby b1)
  have HOW2 := qh (HOW.out.keep (cOk _) k1 (fun q hq => .inl (by rw [qmsq] at hq; omega)))
  have HWR2 := qh (HWR.out.trans (wr_at (z := z) k1))
  clear hx k1 b1 HT HOW HWR c1
  have r6 : Wr [] w1 (w1.alloc (.cells #[.int .i64 (x : Int)] 3)) := (Wr.refl [] w1).alloc _
  have n6 := Blk.new w1 3 #[.int .i64 (x : Int)]
  have ho1 : ∀ u ∈ ([.int .i64 (x : Int)] : List Value), u.oneCell' = true := by simp [Value.oneCell']
  have hrel : CRel (fun i : Int => [Value.int .i64 i]) (w1.alloc (.cells #[.int .i64 (x : Int)] 3)) (fun bl => w3.heap.size ≤ bl ∧ (Value.slice A2 kk c2).ownBlock ≠ some bl) [.int .i64 (x : Int)] (x : Int) := rfl
  obtain ⟨cv, dv⟩ := CV.out
  obtain ⟨A2, c2, W7, hrun, rA, hv, b7, hfin⟩ := lg_push (t := 25) (rdhOk S b) (cOk _) Tryz.underlying25 hi2 hz02 hz12 hz22 rfl (by decide) (by decide) hbz hyz hwz0 hzB HK.out HM.out (by omega) HL.out rfl HX.out HT2.out HOW2.out HWR2.out r6 n6 rfl ho1 hrel
  have f7 := b7.frozen 2
  have c7 := b7.cell 2
  have c6 := HT2.out.blk.cell 2
  simp only [qsaq, qszq, qssq] at c7 c6
  simp only [qgaq, qgzq, qgsq] at c7 c6
  have HRUN := qh hrun
  have HFIN := qh hfin
  clear hrun hfin rA r6 hv b7 n6 ho1 hrel
  go_wp2_with (at_builtin; refine wpList_append_run rfl _ _ _ rfl _ _ rfl rfl _ _ HRUN.out ?_)
  go_roundw
  case rel => exact ⟨kk + 1, by first | rfl | (go_num), HFIN.out⟩
  case measure => first | (simp [intOf]; done) | (simp [intOf]; omega)
 have he := out_end (l := l) hm hgo
 obtain ⟨e1, e2⟩ := lg_end hl he HL5.out
 have hsl := (how.out (cOk _)).mono (cOk _) (Q := fun q => z < q) (fun q hq => by omega)
 have e3 := e1.symm
 clear e1
 subst e3
 subst e2
 have hkn : kk = l2.length := hk.symm
 subst hkn
 simp only [qsaq, qszq, qssq] at ht
 have T3 := qh ht
 have N2 := qh hsl
 have N1n := N1.out.keepR (cOk _) hwr (fun q hq => by simp; omega)
 replace N1 := qh N1n
 clear N1n
 have hgo2 := hgo
 clear hk hm hl ht how hwr hgo he hsl AT3
 go_upto_region 16 with (fail)
 go_cut [74] (fun s wx => s = .bool false ∧ wr = wx)
 case first =>
  rcases out_way hgo2 with ⟨hk2, rfl⟩ | hk2
  all_goals
   go_wp2_with fail
   go_meet
   exact ⟨rfl, rfl⟩
 obtain ⟨rfl, rfl⟩ := hcut
 clear c1 hgo2
 go_wp2_with fail
 refine (H6.out _ T3.out.rd).mono ?_
 rintro e w4a ⟨rfl, k4, b4⟩
 have N1n := N1.out.keepR (cOk _) k4 (fun q hq => by simp; omega)
 replace N1 := qh N1n
 clear N1n
 have N2n := N2.out.keepR (cOk _) k4 (fun q hq => by simp; omega)
 replace N2 := qh N2n
 clear N2n
 obtain ⟨cn, dn⟩ := CD.out
 have m4 := T3.out.call k4 hbz hby b4
 have f4 := m4.blk.frozen 3
 have x4 := m4.blk.cell 3
 simp only [qgaq, qgzq, qgsq] at x4
 have s4 := m4.set (rdhOk S b) hbz hyz hwz0 3 (.int .i64 (dt : Int))
 simp only [qsaq, qszq, qssq] at s4
 have S4 := qh s4
 have kz4 : Wr [z] w4a (w4a.setCell ⟨z, 3, none⟩ (.int .i64 (dt : Int))) := (Wr.refl _ _).setOn (by simp) _
 have N1n := N1.out.keepR (cOk _) kz4 (fun q hq => by simp; omega)
 replace N1 := qh N1n
 clear N1n
 have N2n := N2.out.keepR (cOk _) kz4 (fun q hq => by simp; omega)
 replace N2 := qh N2n
 clear N2n
 clear m4 s4 k4 b4 kz4
 go_upto_region 21 with (fail)
 generalize w4a.setCell ⟨z, 3, none⟩ (.int .i64 (dt : Int)) = w4 at *
 clear f4 x4
 clear cn dn
 go_wp2_with fail
 refine (H7.out _ S4.out.rd).mono ?_
 rintro e w5 ⟨rfl, k5, b5⟩
 have m5 := S4.out.call k5 hbz hby b5
 have hzB : z < w5.heap.size := m5.blk.lt
 have N1n := N1.out.keepR (cOk _) k5 (fun q hq => by simp; omega)
 replace N1 := qh N1n
 clear N1n
 have N2n := N2.out.keepR (cOk _) k5 (fun q hq => by simp; omega)
 replace N2 := qh N2n
 clear N2n
 have at5 := LgR.start (one := Rd.two) (Rel := (CRel (fun i : Int => [Value.int .u16 i]))) (T := 67) (size := 1) (n := n3) m5 (show (#[.string (ansS cd), .slice A1 l1.length c1, .slice A2 l2.length c2, .int .i64 (dt : Int), .slice none 0 0] : Array Value)[4]? = some (.slice none 0 0) from rfl)
 obtain ⟨i3, hi3, hz03, hz13, hz23⟩ := info_parts infoO_u16
 have AT5 := qh at5
 clear m5 at5 k5 b5 S4
 obtain ⟨cn, dn⟩ := CN3.out
 go_wp2_with fail
 clear cn dn
 go_loopw [9, 10] (fun si sx0 wr => ∃ ki : Nat, si = .int .i64 ki ∧ LgR (fun w r => RdH S w b r) Rd.two (CRel (fun i : Int => [Value.int .u16 i])) 67 28 1 b y z 4 n3 #[.string ⟨#[]⟩, .slice none 0 0, .slice none 0 0, .int .i64 0, .slice none 0 0] #[.string (ansS cd), .slice A1 l1.length c1, .slice A2 l2.length c2, .int .i64 (dt : Int), .slice none 0 0] w w5 r7 ki wr) (fun si _ _ => n3 - (intOf si).toNat)
 case atStart => exact ⟨0, rfl, AT5.out⟩
 obtain ⟨kk, rfl, acc, ⟨l, bad⟩, A3, c3, mm, hk, hm, hl, ht, how, hwr⟩ := hrel
 have c1 : wr.cell? ⟨b, 2, none⟩ = some (.bool bad) := RdH.badAt ht.rd
 by_cases hgo : kk < n3 ∧ bad = false
 ·obtain ⟨hk1, rfl⟩ := hgo
  obtain ⟨mm, rfl⟩ : ∃ q, mm = q + 1 := ⟨mm - 1, by omega⟩
  have hk2 : (kk : Int) < (n3 : Int) := by omega
  have hk3 : (0 : Int) ≤ (kk : Int) := by omega
  have HK := qh hk
  have HM := qh hm
  have HL := qh hl
  have HT := qh ht
  have HOW := qh how
  have HWR := qh hwr
  clear hk hm hl ht how hwr
  go_wp2_with fail
  refine (num_h S b 2 _ (by decide) HSS.out _ HT.out.rd).mono ?_
  obtain ⟨px, hx⟩ : ∃ p, Rd.num ⟨l, false⟩ 2 = p := ⟨_, rfl⟩
  obtain ⟨x, rx⟩ := px
  have qb := num_ltO (k := 2) (by omega) (Rd.mk l false)
  rw [hx] at qb
  simp only at qb
  have CV := qh (show IntKind.u16.wrap (x : Int) = (x : Int) ∧ True from ⟨by rw [IntKind.wrap_u16]; omega, trivial⟩)
  clear qb
  rw [hx]
  rintro e w1 ⟨rfl, k1, b1⟩
  have HX := qh (show Rd.two ⟨l, false⟩ = ((x : Int), rx) by unfold Rd.two; rw [hx])
  have HT2 := qh (HT.out.call k1 hbz hby b1)
  have HOW2 := qh (HOW.out.keep (cOk _) k1 (fun q hq => .inl (by rw [qmsq] at hq; omega)))
  have HWR2 := qh (HWR.out.trans (wr_at (z := z) k1))
  clear hx k1 b1 HT HOW HWR c1
  have r6 : Wr [] w1 (w1.alloc (.cells #[.int .u16 (x : Int)] 67)) := (Wr.refl [] w1).alloc _
  have n6 := Blk.new w1 67 #[.int .u16 (x : Int)]
  have ho1 : ∀ u ∈ ([.int .u16 (x : Int)] : List Value), u.oneCell' = true := by simp [Value.oneCell']
  have hrel : CRel (fun i : Int => [Value.int .u16 i]) (w1.alloc (.cells #[.int .u16 (x : Int)] 67)) (fun bl => w5.heap.size ≤ bl ∧ (Value.slice A3 kk c3).ownBlock ≠ some bl) [.int .u16 (x : Int)] (x : Int) := rfl
  obtain ⟨cv, dv⟩ := CV.out
  obtain ⟨A2, c2, W7, hrun, rA, hv, b7, hfin⟩ := lg_push (t := 26) (rdhOk S b) (cOk _) Tryz.underlying26 hi3 hz03 hz13 hz23 rfl (by decide) (by decide) hbz hyz hwz0 hzB HK.out HM.out (by omega) HL.out rfl HX.out HT2.out HOW2.out HWR2.out r6 n6 rfl ho1 hrel
  have f7 := b7.frozen 4
  have c7 := b7.cell 4
  have c6 := HT2.out.blk.cell 4
  simp only [qsaq, qszq, qssq] at c7 c6
  simp only [qgaq, qgzq, qgsq] at c7 c6
  have HRUN := qh hrun
  have HFIN := qh hfin
  clear hrun hfin rA r6 hv b7 n6 ho1 hrel
  go_wp2_with (at_builtin; refine wpList_append_run rfl _ _ _ rfl _ _ rfl rfl _ _ HRUN.out ?_)
  go_roundw
  case rel => exact ⟨kk + 1, by first | rfl | (go_num), HFIN.out⟩
  case measure => first | (simp [intOf]; done) | (simp [intOf]; omega)
 have he := out_end (l := l) hm hgo
 obtain ⟨e1, e2⟩ := lg_end hl he HL8.out
 have hsl := (how.out (cOk _)).mono (cOk _) (Q := fun q => z < q) (fun q hq => by omega)
 have e3 := e1.symm
 clear e1
 subst e3
 subst e2
 have hkn : kk = l3.length := hk.symm
 subst hkn
 simp only [qsaq, qszq, qssq] at ht
 have T5 := qh ht
 have N3 := qh hsl
 have N1n := N1.out.keepR (cOk _) hwr (fun q hq => by simp; omega)
 replace N1 := qh N1n
 clear N1n
 have N2n := N2.out.keepR (cOk _) hwr (fun q hq => by simp; omega)
 replace N2 := qh N2n
 clear N2n
 have hgo2 := hgo
 clear hk hm hl ht how hwr hgo he hsl AT5
 go_upto_region 23 with (fail)
 go_cut [102] (fun s wx => s = .bool false ∧ wr = wx)
 case first =>
  rcases out_way hgo2 with ⟨hk2, rfl⟩ | hk2
  all_goals
   go_wp2_with fail
   go_meet
   exact ⟨rfl, rfl⟩
 obtain ⟨rfl, rfl⟩ := hcut
 clear c1 hgo2
 have HS := T5
 clear T5
 have hmd := HMD.out
 have hrf := HRF.out
 have e0 : md.code = ansS cd := by rw [← hmd]; rfl
 have e1 : md.data = (dt : Int) := by rw [← hmd]
 have hml : ModL wr (fun q => z < q) (.slice A1 l1.length c1) (.slice A2 l2.length c2) (.slice A3 l3.length c3) md := by rw [← hmd]; exact mod_l N1.out N2.out N3.out (fun _ h => h)
 have hmay := romod_any md _ _ _ _ wr hml
 unfold ModD.val ModD.cells at hmay
 rw [e0, e1] at hmay
 obtain ⟨ok, hok⟩ : ∃ q, omodB md = q := ⟨_, rfl⟩
 rw [hok] at hmay hrf
 simp only at hrf
 have HRF2 := qh hrf
 have E0 := qh e0
 have E1 := qh e1
 have HML := qh hml
 have HMAY := qh hmay
 have d0 := HS.out.blk.cell 0
 have d1 := HS.out.blk.cell 1
 have d2 := HS.out.blk.cell 2
 have d3 := HS.out.blk.cell 3
 have d4 := HS.out.blk.cell 4
 have r0 : wr.cell? ⟨b, 2, none⟩ = some (.bool bad) := RdH.badAt HS.out.rd
 simp only [qgaq, qgzq, qgsq] at d0 d1 d2 d3 d4
 clear hmd hrf e0 e1 hml hmay hok HMD HRF N1 N2 N3
 go_upto_region 27 with (fail)
 go_cut [123] (fun s wx => s = .bool (!bad && !ok) ∧ Wr [] wr wx)
 case first =>
  cases bad with
  | true =>
   go_wp2_with fail
   go_meet
   exact ⟨rfl, Wr.refl _ _⟩
  | false =>
   go_wp2_with fail
   refine HMAY.out.mono ?_
   rintro e w9 ⟨rfl, k9⟩
   go_wp2_with fail
   go_meet
   exact ⟨by cases ok <;> rfl, k9⟩
 case rest =>
  rename World => wx
  obtain ⟨rfl, kx⟩ := hcut
  have hs2 := HS.out.keep (rdhOk S b) kx (fun _ h => by simp at h) hbz hyz hwz0
  have hm2 := HML.out.wr0 kx
  have HS2 := qh hs2
  have HM2 := qh hm2
  clear hs2 hm2 kx HS HML d0 d1 d2 d3 d4 r0 HMAY
  by_cases hc : bad = false ∧ ok = false
  ·obtain ⟨rfl, rfl⟩ := hc
   have r0 : wx.cell? ⟨b, 2, none⟩ = some (.bool false) := RdH.badAt HS2.out.rd
   have f0 := RdH.badFz HS2.out.rd
   have kq : Wr [b] wx (wx.setCell ⟨b, 2, none⟩ (.bool true)) := (Wr.refl _ _).setOn (by simp) _
   have hs3 := HS2.out.call kq hbz hby (RdH.setBad HS2.out.rd)
   have hm3 := HM2.out.keep kq (fun q hq => by simp; omega)
   have HS3 := qh hs3
   have HM3 := qh hm3
   clear hs3 hm3 kq HM2 HS2
   go_upto_region 29 with (fail)
   generalize wx.setCell ⟨b, 2, none⟩ (.bool true) = wv at *
   clear r0 f0
   have t := HS3.out
   have KB2 := qh t.wr
   obtain ⟨x0, x1, x2, x3, x4⟩ := c5q t.blk
   obtain ⟨g0, g1, g2, g3, g4⟩ := z5q t.res
   obtain ⟨z0, z1, z2, z3, z4⟩ := c5q t.res
   have TR := qh t.res
   have RD := qh t.rd
   clear t HS3
   go_wp2_with fail
   refine bodyPost_ret (v := .agg #[.string (ansS cd), .slice A1 l1.length c1, .slice A2 l2.length c2, .int .i64 (dt : Int), .slice A3 l3.length c3]) ?_ rfl ?_
   ·have h9 := TR.out.setL [.string (ansS cd), .slice A1 l1.length c1, .slice A2 l2.length c2, .int .i64 (dt : Int), .slice A3 l3.length c3] rfl
    obtain ⟨t0, t1, t2, t3, t4⟩ := c5q h9
    simp only [setL] at t0 t1 t2 t3 t4
    simp [results, Tryz.results65, go_sem, t0, t1, t2, t3, t4]
   ·have kw := setL_wr (g := y) [.string (ansS cd), .slice A1 l1.length c1, .slice A2 l2.length c2, .int .i64 (dt : Int), .slice A3 l3.length c3] 0 wv
    have hr := HRF2.out
    simp only [Bool.not_false, Bool.or_true] at hr
    exact ⟨_, _, _, by unfold ModD.val ModD.cells; rw [E0.out, E1.out], KB2.out.new kw hwy, by rw [← hr]; exact (rdhOk S b).keep RD.out kw (by simp; omega), (HM3.out.keep kw (fun q hq => by simp; omega)).into (fun q hq _ => by omega)⟩
  ·have hb2 : (bad || !ok) = bad := by cases bad <;> cases ok <;> simp_all
   have hb3 : (!bad && !ok) = false := by cases bad <;> cases ok <;> simp_all
   rw [hb3]
   have HB2 := qh hb2
   clear hc hb2 hb3
   have t := HS2.out
   have KB2 := qh t.wr
   obtain ⟨x0, x1, x2, x3, x4⟩ := c5q t.blk
   obtain ⟨g0, g1, g2, g3, g4⟩ := z5q t.res
   obtain ⟨z0, z1, z2, z3, z4⟩ := c5q t.res
   have TR := qh t.res
   have RD := qh t.rd
   clear t HS2
   go_wp2_with fail
   refine bodyPost_ret (v := .agg #[.string (ansS cd), .slice A1 l1.length c1, .slice A2 l2.length c2, .int .i64 (dt : Int), .slice A3 l3.length c3]) ?_ rfl ?_
   ·have h9 := TR.out.setL [.string (ansS cd), .slice A1 l1.length c1, .slice A2 l2.length c2, .int .i64 (dt : Int), .slice A3 l3.length c3] rfl
    obtain ⟨t0, t1, t2, t3, t4⟩ := c5q h9
    simp only [setL] at t0 t1 t2 t3 t4
    simp [results, Tryz.results65, go_sem, t0, t1, t2, t3, t4]
   ·have kw := setL_wr (g := y) [.string (ansS cd), .slice A1 l1.length c1, .slice A2 l2.length c2, .int .i64 (dt : Int), .slice A3 l3.length c3] 0 wx
    have hr := HRF2.out
    rw [HB2.out] at hr
    exact ⟨_, _, _, by unfold ModD.val ModD.cells; rw [E0.out, E1.out], KB2.out.new kw hwy, by rw [← hr]; exact (rdhOk S b).keep RD.out kw (by simp; omega), (HM2.out.keep kw (fun q hq => by simp; omega)).into (fun q hq _ => by omega)⟩
end Go.Proofs.YtildcdgobdfieaaGreat
