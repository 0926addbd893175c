/- ref 21's Decode: walked. Conditions: what is read is no longer than memory. -/
import Derived.Test.YtildcdgobdfieaaGreatRD26
set_option linter.unusedVariables false
set_option linter.unusedSimpArgs false
set_option maxRecDepth 100000
set_option maxHeartbeats 32000000
namespace Go.Proofs.YtildcdgobdfieaaGreat
open Go.RowKit
theorem head_parts {kd l : List UInt8} {k : Nat} {rest : List UInt8} (h : headP kd l = some (k, rest)) : 12 ≤ l.length ∧ l.take 4 = kd ∧ (Rd.mk (l.drop 4) false).num 8 = (k, ⟨rest, false⟩) ∧ rest = l.drop 12 := by
 have h3 := head_rest h
 unfold headP at h
 by_cases c : l.length < 12 ∨ l.take 4 ≠ kd
 ·rw [if_pos c] at h; cases h
 ·rw [if_neg c] at h
  simp only [Option.some.injEq, Prod.mk.injEq] at h
  have h12 : ¬ l.length < 12 := fun e => c (.inl e)
  refine ⟨by omega, Classical.byContradiction fun e => c (.inr e), ?_, h3⟩
  unfold Rd.num Rd.raw
  rw [if_neg (by rw [List.length_drop]; simp; omega)]
  simp only [List.drop_drop]
  rw [h.1, h3]
theorem head_none {kd l : List UInt8} (h : headP kd l = none) : l.length < 12 ∨ 12 ≤ l.length ∧ l.take 4 ≠ kd := by
 unfold headP at h
 by_cases c : l.length < 12 ∨ l.take 4 ≠ kd
 ·rcases c with c | c
  ·exact .inl c
  ·rcases Nat.lt_or_ge l.length 12 with h2 | h2
   ·exact .inl h2
   ·exact .inr ⟨h2, c⟩
 ·rw [if_neg c] at h; cases h
theorem TgS.setL {R : World → Rd → Prop} {T0 : TypeId} {b y z : Nat} {zs : Array Value} {w wr : World} {r : Rd} (ok : RdOk R b) {xs us pre : List Value} (h : TgS R T0 b y z zs w r (pre ++ xs).toArray wr) (hbz : b < z) (hyz : y < z) (hw : w.heap.size ≤ z) (hl : us.length = xs.length) : TgS R T0 b y z zs w r (pre ++ us).toArray (Proofs.YtildcdgobdfieaaGreat.setL wr z pre.length us) :=
 ⟨setL_blk us xs pre wr hl h.blk, h.res.wr (setL_wr us _ wr) (by simp; omega), ok.keep h.rd (setL_wr us _ wr) (by simp; omega), h.wr.new (setL_wr us _ wr) hw⟩
def readP (s : List UInt8) (o : ObjD) (r : Rd) : ObjD × Int := if r.bad || !r.s.isEmpty || !objB o then (noObj, 7) else (o, 0)
theorem obj_l {w : World} {P Q : Nat → Prop} {vu vp vi vn : Value} {o : ObjD} (h1 : SlRel (CRel UseD.cells) w P 2 vu o.uses) (h2 : ModL w P vp vi vn o.mod) (hP : ∀ b, P b → Q b) : ObjL w Q vu vp vi vn o := by
 have a1 := SlRel.flat (cells := UseD.cells) (size := 2) (by decide) (fun _ => rfl) h1
 exact ⟨Sl.mono a1 hP, h2.into (fun b hb _ => hP b hb)⟩
theorem rodec_head (l0 : List UInt8) (h : headP objKind l0 = none) (w : World) : Calls Tryz.prog 20 #[.string (ansS l0)] w (ODecR (noObj, 7) w) := by
 have hq := head_none h
 obtain ⟨y, hy⟩ : ∃ q, w.heap.size = q := ⟨_, rfl⟩
 obtain ⟨wn, hwn⟩ : ∃ q, w.alloc (.cells #[.string ⟨#[]⟩, .bool false, .int .u64 0, .slice none 0 0, .string ⟨#[]⟩, .slice none 0 0, .slice none 0 0, .int .i64 0, .slice none 0 0] 30) = q := ⟨_, rfl⟩
 have yn : Blk wn y 30 #[.string ⟨#[]⟩, .bool false, .int .u64 0, .slice none 0 0, .string ⟨#[]⟩, .slice none 0 0, .slice none 0 0, .int .i64 0, .slice none 0 0] := by rw [← hwn, ← hy]; exact Blk.new _ _ _
 have kn : Wr [] w wn := by rw [← hwn]; exact (Wr.refl _ _).alloc _
 have hwy : w.heap.size ≤ y := by omega
 have YN := qh yn
 have KN := qh kn
 have HY := qh hy
 have HWN := qh hwn
 have hsz := ansS_size l0
 have htk := ansS_take l0 4
 obtain ⟨S, hS⟩ : ∃ q, ansS l0 = q := ⟨_, rfl⟩
 rw [hS] at hsz htk ⊢
 rcases hq with c | ⟨c, hne⟩
 ·have e0 : (S.size : Int) < 12 := by omega
  clear htk hS h hsz hy hwn yn kn
  go_in
  go_upto_region 1 with (fail)
  rw [HY.out, HWN.out]
  obtain ⟨z0, z1, z2, z3, z4, z5, z6, z7, z8⟩ := c9q YN.out
  obtain ⟨g0, g1, g2, g3, g4, g5, g6, g7, g8⟩ := z9q YN.out
  go_wp2_with fail
  refine bodyPost_ret (v := .tuple #[.agg #[.string ⟨#[]⟩, .bool false, .int .u64 0, .slice none 0 0, .string ⟨#[]⟩, .slice none 0 0, .slice none 0 0, .int .i64 0, .slice none 0 0], .int .i64 7]) ?_ rfl ?_
  ·have h9 := YN.out.setL [.string ⟨#[]⟩, .bool false, .int .u64 0, .slice none 0 0, .string ⟨#[]⟩, .slice none 0 0, .slice none 0 0, .int .i64 0, .slice none 0 0] rfl
   obtain ⟨t0, t1, t2, t3, t4, t5, t6, t7, t8⟩ := c9q h9
   simp only [setL] at t0 t1 t2 t3 t4 t5 t6 t7 t8
   simp [results, Tryz.results20, go_sem, t0, t1, t2, t3, t4, t5, t6, t7, t8]
  ·have kw := setL_wr (g := y) [.string ⟨#[]⟩, .bool false, .int .u64 0, .slice none 0 0, .string ⟨#[]⟩, .slice none 0 0, .slice none 0 0, .int .i64 0, .slice none 0 0] 0 wn
   exact zero_ans (wr_own2 KN.out.nil kw hwy hwy)
 ·have e0 : ¬ (S.size : Int) < 12 := by omega
  have e1 : (4 : Int) ≤ (S.size : Int) := by omega
  obtain ⟨A, hA⟩ : ∃ q, ansS (l0.take 4) = q := ⟨_, rfl⟩
  rw [hA] at htk
  have n1 : ¬ A.toList = [83, 69, 80, 79] := by rw [← hA, ansS_list]; exact hne
  have n2 : (A.toList == [83, 69, 80, 79]) = false := by simp [n1]
  clear hS h hsz hA hne c hy hwn yn kn
  go_in
  go_upto_region 1 with (fail)
  rw [HY.out, HWN.out]
  obtain ⟨z0, z1, z2, z3, z4, z5, z6, z7, z8⟩ := c9q YN.out
  obtain ⟨g0, g1, g2, g3, g4, g5, g6, g7, g8⟩ := z9q YN.out
  go_wp2_with fail
  refine bodyPost_ret (v := .tuple #[.agg #[.string ⟨#[]⟩, .bool false, .int .u64 0, .slice none 0 0, .string ⟨#[]⟩, .slice none 0 0, .slice none 0 0, .int .i64 0, .slice none 0 0], .int .i64 7]) ?_ rfl ?_
  ·have h9 := YN.out.setL [.string ⟨#[]⟩, .bool false, .int .u64 0, .slice none 0 0, .string ⟨#[]⟩, .slice none 0 0, .slice none 0 0, .int .i64 0, .slice none 0 0] rfl
   obtain ⟨t0, t1, t2, t3, t4, t5, t6, t7, t8⟩ := c9q h9
   simp only [setL] at t0 t1 t2 t3 t4 t5 t6 t7 t8
   simp [results, Tryz.results20, go_sem, t0, t1, t2, t3, t4, t5, t6, t7, t8]
  ·have kw := setL_wr (g := y) [.string ⟨#[]⟩, .bool false, .int .u64 0, .slice none 0 0, .string ⟨#[]⟩, .slice none 0 0, .slice none 0 0, .int .i64 0, .slice none 0 0] 0 wn
   exact zero_ans (wr_own2 KN.out.nil kw hwy hwy)
theorem rodec_body (l0 : List UInt8) (hl : l0.length ≤ maxLen) (kh : Nat) (s : List UInt8) (h : headP objKind l0 = some (kh, s)) (w : World) : Calls Tryz.prog 20 #[.string (ansS l0)] w (ODecR (decodeP l0) w) := by
 obtain ⟨h12, hkd, hnum, hrest⟩ := head_parts h
 have hdq : decodeP l0 = if kh ≠ keyL s then (noObj, 210) else readP s (Rd.obj ⟨s, false⟩).1 (Rd.obj ⟨s, false⟩).2 := by unfold decodeP readP; rw [h]
 obtain ⟨y, hy⟩ : ∃ q, w.heap.size = q := ⟨_, rfl⟩
 obtain ⟨wn, hwn⟩ : ∃ q, w.alloc (.cells #[.string ⟨#[]⟩, .bool false, .int .u64 0, .slice none 0 0, .string ⟨#[]⟩, .slice none 0 0, .slice none 0 0, .int .i64 0, .slice none 0 0] 30) = q := ⟨_, rfl⟩
 obtain ⟨b, hb⟩ : ∃ q, wn.heap.size = q := ⟨_, rfl⟩
 obtain ⟨wb, hwb⟩ : ∃ q, wn.alloc (.cells #[.string (ansS l0), .int .i64 4, .bool false] 117) = q := ⟨_, rfl⟩
 have yn : Blk wn y 30 #[.string ⟨#[]⟩, .bool false, .int .u64 0, .slice none 0 0, .string ⟨#[]⟩, .slice none 0 0, .slice none 0 0, .int .i64 0, .slice none 0 0] := by rw [← hwn, ← hy]; exact Blk.new _ _ _
 have kn : Wr [] w wn := by rw [← hwn]; exact (Wr.refl _ _).alloc _
 have kb : Wr [] wn wb := by rw [← hwb]; exact (Wr.refl _ _).alloc _
 have bn : Blk wb b 117 #[.string (ansS l0), .int .i64 4, .bool false] := by rw [← hwb, ← hb]; exact Blk.new _ _ _
 have hby0 : y < b := by have := yn.lt; omega
 have hby : b ≠ y := by omega
 have hwb0 : w.heap.size ≤ b := by omega
 have hwy : w.heap.size ≤ y := by omega
 have hsz := ansS_size l0
 have rd0 : RdH (ansS l0) wb b ⟨l0.drop 4, false⟩ := ⟨4, by omega, rfl, bn⟩
 have hS : (ansS l0).size ≤ maxLen := by omega
 have hc0 := num_h (ansS l0) b 8 ⟨l0.drop 4, false⟩ (by decide) hS wb.drew ((rdhOk (ansS l0) b).keep rd0 (Wr.refl [] wb).drew (by simp))
 rw [hnum] at hc0
 simp only at hc0
 have hof := fun W => rof_any (ansS s) (by rw [ansS_size, hrest, List.length_drop]; unfold maxLen at *; omega) W
 rw [show ofN (moreN 14695981039346656037 (natsOf (ansS s))) = keyL s from rfl] at hof
 have hdr := ansS_drop l0 12
 rw [← hrest] at hdr
 have htk := ansS_take l0 4
 rw [hkd] at htk
 obtain ⟨A, hA⟩ : ∃ q, ansS objKind = q := ⟨_, rfl⟩
 rw [hA] at htk
 have n1 : A.toList = [83, 69, 80, 79] := by rw [← hA, ansS_list]; rfl
 have n2 : (A.toList == [83, 69, 80, 79]) = true := by simp [n1]
 have e0 : ¬ ((ansS l0).size : Int) < 12 := by omega
 have e1 : (4 : Int) ≤ ((ansS l0).size : Int) := by omega
 have e2 : (12 : Int) ≤ ((ansS l0).size : Int) := by omega
 have yb := yn.wr0 kb
 have YB := qh yb
 have KB := qh (kn.trans kb)
 have HY := qh hy
 have HWN := qh hwn
 have HB := qh hb
 have HWB := qh hwb
 have HC0 := qh hc0
 have HOF := qh hof
 have HSS := qh hS
 have HLN : Hid (s.length = (ansS l0).size - 12) := qh (by rw [hrest, List.length_drop]; omega)
 obtain ⟨ro, hro⟩ : ∃ p, Rd.obj ⟨s, false⟩ = p := ⟨_, rfl⟩
 obtain ⟨ob, rz⟩ := ro
 rw [hro] at hdq
 simp only at hdq
 obtain ⟨ans, hans⟩ : ∃ q, decodeP l0 = q := ⟨_, rfl⟩
 rw [hans] at hdq ⊢
 have HDQ := qh hdq
 have HRO := qh hro
 have HYB : y < wb.heap.size := yb.lt
 clear h h12 hkd hnum hrest hdq hy hwn hb hwb yn kn kb bn hsz rd0 hS hc0 hof hA yb hro hans hl
 obtain ⟨K, hK⟩ : ∃ q, keyL s = q := ⟨_, rfl⟩
 have HKE := qh hK
 rw [hK] at HOF HDQ
 clear hK
 go_in
 go_upto_region 1 with (fail)
 rw [HY.out, HWN.out]
 go_upto_region 4 with (fail)
 rw [HB.out, HWB.out]
 clear HY HWN HB HWB n1 n2 e0 e1 htk
 refine beginA [] [] (by kernel_rfl) trivial (by simp) fun HC => ?_
 refine mvB 0 (by rfl) (by kernel_rfl) (by rfl) (fun w' hS => by simp only [Cs] at hS; go_split_ands; go_simp; try rfl) ?_
 try simp only [Act.put, qsaq, qszq, qssq]
 refine mvB 2 (by rfl) (by kernel_rfl) (by rfl) (fun w' hS => by simp only [Cs] at hS; go_split_ands; go_simp; try rfl) ?_
 try simp only [Act.put, qsaq, qszq, qssq]
 refine mvB 3 (by rfl) (by kernel_rfl) (by rfl) (fun w' hS => by simp only [Cs] at hS; go_split_ands; go_simp; try rfl) ?_
 try simp only [Act.put, qsaq, qszq, qssq]
 refine stL 1 (by rfl) (by kernel_rfl) fun K hK => ?_
 go_simp
 refine HC0.out.mono ?_
 rintro e w1 ⟨rfl, k1, b1⟩
 refine hK _ _ (HC.out _ ((Wr.refl [] wb))) ?_
 clear hK K
 try simp only [Act.put, qsaq, qszq, qssq]
 refine stL 4 (by rfl) (by kernel_rfl) fun K hK => ?_
 go_simp
 refine (HOF.out _).mono ?_
 rintro e w1b ⟨rfl, rfl⟩
 refine hK _ _ (HC.out _ ((Wr.refl [] wb))) ?_
 clear hK K
 try simp only [Act.put, qsaq, qszq, qssq]
 refine mvB 5 (by rfl) (by kernel_rfl) (by rfl) (fun w' hS => by simp only [Cs] at hS; go_split_ands; go_simp; try rfl) ?_
 try simp only [Act.put, qsaq, qszq, qssq]
 refine endL (by kernel_rfl) ?_
 try simp only [Act.put, qsaq, qszq, qssq]
 have yw := YB.out.wr ((Wr.refl [b] wb).drew.trans k1) (by simp; omega)
 have kw1 : Wr [b] w w1 := (KB.out.nil.drew).trans k1
 by_cases hk : kh = K
 case neg =>
  have hk1 : ¬ (kh : Int) = (K : Int) := by omega
  have hk2 : ((kh : Int) == (K : Int)) = false := by simpa using hk1
  have hk3 : (kh == K) = false := by simpa using hk
  have hk4 : ((kh : Int) != (K : Int)) = true := by simpa using hk1
  have ha : ans = (noObj, 210) := by have := HDQ.out; rw [if_pos hk] at this; exact this
  have HA := qh ha
  have YW := qh yw
  have KW := qh kw1
  clear ha yw kw1 b1 k1
  obtain ⟨z0, z1, z2, z3, z4, z5, z6, z7, z8⟩ := c9q YW.out
  obtain ⟨g0, g1, g2, g3, g4, g5, g6, g7, g8⟩ := z9q YW.out
  go_wp2_with fail
  refine bodyPost_ret (v := .tuple #[.agg #[.string ⟨#[]⟩, .bool false, .int .u64 0, .slice none 0 0, .string ⟨#[]⟩, .slice none 0 0, .slice none 0 0, .int .i64 0, .slice none 0 0], .int .i64 210]) ?_ rfl ?_
  ·have h9 := YW.out.setL [.string ⟨#[]⟩, .bool false, .int .u64 0, .slice none 0 0, .string ⟨#[]⟩, .slice none 0 0, .slice none 0 0, .int .i64 0, .slice none 0 0] rfl
   obtain ⟨t0, t1, t2, t3, t4, t5, t6, t7, t8⟩ := c9q h9
   simp only [setL] at t0 t1 t2 t3 t4 t5 t6 t7 t8
   simp [results, Tryz.results20, go_sem, t0, t1, t2, t3, t4, t5, t6, t7, t8]
  ·have kw := setL_wr (g := y) [.string ⟨#[]⟩, .bool false, .int .u64 0, .slice none 0 0, .string ⟨#[]⟩, .slice none 0 0, .slice none 0 0, .int .i64 0, .slice none 0 0] 0 w1
   have ka := wr_own2 KW.out kw hwb0 hwy
   rw [HA.out]
   exact zero_ans ka
 case pos =>
  subst hk
  have hk2 : ((kh : Int) == (kh : Int)) = true := by simp
  have hk3 : ((kh : Int) != (kh : Int)) = false := by simp
  have hdq : ans = readP s ob rz := by have := HDQ.out; rw [if_neg (by simp)] at this; exact this
  obtain ⟨wz, hwz⟩ : ∃ q, w1.alloc (.cells #[.string ⟨#[]⟩, .bool false, .int .u64 0, .slice none 0 0, .string ⟨#[]⟩, .slice none 0 0, .slice none 0 0, .int .i64 0, .slice none 0 0] 30) = q := ⟨_, rfl⟩
  obtain ⟨z, hz⟩ : ∃ q, w1.heap.size = q := ⟨_, rfl⟩
  have kz : Wr [] w1 wz := by rw [← hwz]; exact (Wr.refl _ _).alloc _
  have zn : Blk wz z 30 #[.string ⟨#[]⟩, .bool false, .int .u64 0, .slice none 0 0, .string ⟨#[]⟩, .slice none 0 0, .slice none 0 0, .int .i64 0, .slice none 0 0] := by rw [← hwz, ← hz]; exact Blk.new _ _ _
  have hbz : b < z := by have := b1.lt; omega
  have hyz : y < z := by omega
  have hwz0 : w.heap.size ≤ z := by omega
  have m0 : TgS (fun w r => RdH (ansS l0) w b r) 30 b y z #[.string ⟨#[]⟩, .bool false, .int .u64 0, .slice none 0 0, .string ⟨#[]⟩, .slice none 0 0, .slice none 0 0, .int .i64 0, .slice none 0 0] w ⟨s, false⟩ #[.string ⟨#[]⟩, .bool false, .int .u64 0, .slice none 0 0, .string ⟨#[]⟩, .slice none 0 0, .slice none 0 0, .int .i64 0, .slice none 0 0] wz := ⟨zn, yw.wr0 kz, (rdhOk (ansS l0) b).keep b1 kz (by simp), kw1.trans0 kz⟩
  have M0 := qh m0
  have HWZ := qh hwz
  have HZ := qh hz
  have HDR := qh hdq
  clear hwz hz kz zn m0 yw kw1 b1 k1 hdq HDQ HC0 HOF HKE YB KB
  obtain ⟨p0, hp0⟩ : ∃ p, Rd.num (Rd.mk s false) 1 = p := ⟨_, rfl⟩
  obtain ⟨n0, r0⟩ := p0
  obtain ⟨p1, hp1⟩ : ∃ p, Rd.raw r0 n0 = p := ⟨_, rfl⟩
  obtain ⟨tx, r1⟩ := p1
  obtain ⟨p2, hp2⟩ : ∃ p, Rd.truth r1 = p := ⟨_, rfl⟩
  obtain ⟨mn, r2⟩ := p2
  obtain ⟨p3, hp3⟩ : ∃ p, Rd.num r2 8 = p := ⟨_, rfl⟩
  obtain ⟨ky, r3⟩ := p3
  obtain ⟨p4, hp4⟩ : ∃ p, Rd.num r3 1 = p := ⟨_, rfl⟩
  obtain ⟨n1, r4⟩ := p4
  obtain ⟨p5, hp5⟩ : ∃ p, Rd.list Rd.use n1 r4 = p := ⟨_, rfl⟩
  obtain ⟨l1, r5⟩ := p5
  obtain ⟨p6, hp6⟩ : ∃ p, Rd.module r5 = p := ⟨_, rfl⟩
  obtain ⟨md, r6⟩ := p6
  have hro := HRO.out
  unfold Rd.obj Rd.text at hro
  simp only [hp0, hp1, hp2, hp3, hp4, hp5, hp6] at hro
  injection hro with hob hrz
  subst hrz
  have HOB := qh hob
  clear hob HRO
  have q0 := num_ltO (k := 1) (by omega) (Rd.mk s false)
  rw [hp0] at q0
  simp only at q0
  have h0 := fun W (hW : (fun w r => RdH (ansS l0) w b r) W (Rd.mk s false)) => num_h (ansS l0) b 1 (Rd.mk s false) (by decide) HSS.out W hW
  rw [hp0] at h0
  simp only at h0
  have H0 := qh h0
  clear h0
  have h1 := fun W (hW : (fun w r => RdH (ansS l0) w b r) W r0) => take_h (ansS l0) b n0 r0 (by omega) HSS.out W hW
  rw [hp1] at h1
  simp only at h1
  have H1 := qh h1
  clear h1
  have h2 := fun W (hW : (fun w r => RdH (ansS l0) w b r) W r1) => truth_h (ansS l0) b r1 HSS.out W hW
  rw [hp2] at h2
  simp only at h2
  have H2 := qh h2
  clear h2
  have h3 := fun W (hW : (fun w r => RdH (ansS l0) w b r) W r2) => num_h (ansS l0) b 8 r2 (by decide) HSS.out W hW
  rw [hp3] at h3
  simp only at h3
  have H3 := qh h3
  clear h3
  have q4 := num_ltO (k := 1) (by omega) r3
  rw [hp4] at q4
  simp only at q4
  have h4 := fun W (hW : (fun w r => RdH (ansS l0) w b r) W r3) => num_h (ansS l0) b 1 r3 (by decide) HSS.out W hW
  rw [hp4] at h4
  simp only at h4
  have H4 := qh h4
  clear h4
  have HL5 := qh hp5
  have h6 := fun W (hW : (fun w r => RdH (ansS l0) w b r) W r5) => module_h (ansS l0) b r5 HSS.out W hW
  unfold HModR at h6
  rw [hp6] at h6
  simp only at h6
  have H6 := qh h6
  clear h6
  clear hp0 hp1 hp2 hp3 hp4 hp5 hp6
  have CN1 := qh (show IntKind.i64.wrap (n1 : Int) = (n1 : Int) ∧ wrap64 (n1 : Int) = (n1 : Int) from ⟨by rw [IntKind.wrap_i64]; omega, by unfold wrap64; omega⟩)
  have CC := qh (show IntKind.i64.wrap (n0 : Int) = (n0 : Int) ∧ wrap64 (n0 : Int) = (n0 : Int) from ⟨by rw [IntKind.wrap_i64]; omega, by unfold wrap64; omega⟩)
  go_upto_region 7 with (fail)
  rw [HZ.out, HWZ.out]
  clear HZ HWZ hk2 hk3
  obtain ⟨cn, dn⟩ := CC.out
  go_wp2_with fail
  refine (H0.out _ M0.out.rd).mono ?_
  rintro e w0 ⟨rfl, k1, b1⟩
  have S0 := qh (M0.out.call k1 hbz hby b1)
  clear k1 b1 M0
  go_wp2_with fail
  refine (H1.out _ S0.out.rd).mono ?_
  rintro e w1a ⟨rfl, k1, b1⟩
  have m1 := S0.out.call k1 hbz hby b1
  have f1 := m1.blk.frozen 0
  have x1 := m1.blk.cell 0
  simp only [qgaq, qgzq, qgsq] at x1
  have s1 := m1.set (rdhOk (ansS l0) b) hbz hyz hwz0 0 (.string (ansS tx))
  simp only [qsaq, qszq, qssq] at s1
  have S1 := qh s1
  have kz1 : Wr [z] w1a (w1a.setCell ⟨z, 0, none⟩ (.string (ansS tx))) := (Wr.refl _ _).setOn (by simp) _
  clear m1 s1 k1 b1 kz1
  go_upto_region 8 with (fail)
  generalize w1a.setCell ⟨z, 0, none⟩ (.string (ansS tx)) = w1 at *
  clear f1 x1
  clear cn dn
  go_wp2_with fail
  refine (H2.out _ S1.out.rd).mono ?_
  rintro e w2a ⟨rfl, k2, b2⟩
  have m2 := S1.out.call k2 hbz hby b2
  have f2 := m2.blk.frozen 1
  have x2 := m2.blk.cell 1
  simp only [qgaq, qgzq, qgsq] at x2
  have s2 := m2.set (rdhOk (ansS l0) b) hbz hyz hwz0 1 (.bool mn)
  simp only [qsaq, qszq, qssq] at s2
  have S2 := qh s2
  have kz2 : Wr [z] w2a (w2a.setCell ⟨z, 1, none⟩ (.bool mn)) := (Wr.refl _ _).setOn (by simp) _
  clear m2 s2 k2 b2 kz2
  go_upto_region 9 with (fail)
  generalize w2a.setCell ⟨z, 1, none⟩ (.bool mn) = w2 at *
  clear f2 x2
  go_wp2_with fail
  refine (H3.out _ S2.out.rd).mono ?_
  rintro e w3a ⟨rfl, k3, b3⟩
  have m3 := S2.out.call k3 hbz hby b3
  have f3 := m3.blk.frozen 2
  have x3 := m3.blk.cell 2
  simp only [qgaq, qgzq, qgsq] at x3
  have s3 := m3.set (rdhOk (ansS l0) b) hbz hyz hwz0 2 (.int .u64 (ky : Int))
  simp only [qsaq, qszq, qssq] at s3
  have S3 := qh s3
  have kz3 : Wr [z] w3a (w3a.setCell ⟨z, 2, none⟩ (.int .u64 (ky : Int))) := (Wr.refl _ _).setOn (by simp) _
  clear m3 s3 k3 b3 kz3
  go_upto_region 10 with (fail)
  generalize w3a.setCell ⟨z, 2, none⟩ (.int .u64 (ky : Int)) = w3 at *
  clear f3 x3
  go_wp2_with fail
  refine (H4.out _ S3.out.rd).mono ?_
  rintro e w4 ⟨rfl, k4, b4⟩
  have m4 := S3.out.call k4 hbz hby b4
  have hzB : z < w4.heap.size := m4.blk.lt
  have at4 := LgR.start (one := Rd.use) (Rel := (CRel UseD.cells)) (T := 72) (size := 2) (n := n1) m4 (show (#[.string (ansS tx), .bool mn, .int .u64 (ky : Int), .slice none 0 0, .string ⟨#[]⟩, .slice none 0 0, .slice none 0 0, .int .i64 0, .slice none 0 0] : Array Value)[3]? = some (.slice none 0 0) from rfl)
  obtain ⟨i1, hi1, hz01, hz11, hz21⟩ := info_parts infoO_use
  have AT4 := qh at4
  clear m4 at4 k4 b4 S3
  obtain ⟨cn, dn⟩ := CN1.out
  go_wp2_with fail
  clear cn dn
  go_loopw [7, 8] (fun si sx0 wr => ∃ ki : Nat, si = .int .i64 ki ∧ LgR (fun w r => RdH (ansS l0) w b r) Rd.use (CRel UseD.cells) 72 30 2 b y z 3 n1 #[.string ⟨#[]⟩, .bool false, .int .u64 0, .slice none 0 0, .string ⟨#[]⟩, .slice none 0 0, .slice none 0 0, .int .i64 0, .slice none 0 0] #[.string (ansS tx), .bool mn, .int .u64 (ky : Int), .slice none 0 0, .string ⟨#[]⟩, .slice none 0 0, .slice none 0 0, .int .i64 0, .slice none 0 0] w w4 r4 ki wr) (fun si _ _ => n1 - (intOf si).toNat)
  case atStart => exact ⟨0, rfl, AT4.out⟩
  obtain ⟨kk, rfl, acc, ⟨l, bad⟩, A1, c1, mm, hk, hm, hl, ht, how, hwr⟩ := hrel
  have c1 : wr.cell? ⟨b, 2, none⟩ = some (.bool bad) := RdH.badAt ht.rd
  by_cases hgo : kk < n1 ∧ bad = false
  ·obtain ⟨hk1, rfl⟩ := hgo
   obtain ⟨mm, rfl⟩ : ∃ q, mm = q + 1 := ⟨mm - 1, by omega⟩
   have hk2 : (kk : Int) < (n1 : Int) := by omega
   have hk3 : (0 : Int) ≤ (kk : Int) := by omega
   have HK := qh hk
   have HM := qh hm
   have HL := qh hl
   have HT := qh ht
   have HOW := qh how
   have HWR := qh hwr
   clear hk hm hl ht how hwr
   obtain ⟨pq, ha0⟩ : ∃ p, Rd.num ⟨l, false⟩ 1 = p := ⟨_, rfl⟩
   obtain ⟨nn, ra0⟩ := pq
   obtain ⟨pq, ha1⟩ : ∃ p, Rd.raw ra0 nn = p := ⟨_, rfl⟩
   obtain ⟨t2, ra1⟩ := pq
   obtain ⟨pq, ha2⟩ : ∃ p, Rd.num ra1 8 = p := ⟨_, rfl⟩
   obtain ⟨xk, ra2⟩ := pq
   have HX : Hid (Rd.use ⟨l, false⟩ = (⟨ansS t2, (xk : Int)⟩, ra2)) := qh (by unfold Rd.use Rd.text; simp only [ha0, ha1, ha2]; rfl)
   have qn := num_ltO (k := 1) (by omega) (Rd.mk l false)
   have hc0 := fun W (hW : RdH (ansS l0) W b ⟨l, false⟩) => num_h (ansS l0) b 1 ⟨l, false⟩ (by decide) HSS.out W hW
   have hc2 := fun W (hW : RdH (ansS l0) W b ra1) => num_h (ansS l0) b 8 ra1 (by decide) HSS.out W hW
   rw [ha0] at qn hc0
   rw [ha2] at hc2
   simp only at qn hc0 hc2
   have hc1 := fun W (hW : RdH (ansS l0) W b ra0) => take_h (ansS l0) b nn ra0 (by omega) HSS.out W hW
   rw [ha1] at hc1
   simp only at hc1
   have CV := qh (show IntKind.i64.wrap (nn : Int) = (nn : Int) ∧ wrap64 (nn : Int) = (nn : Int) from ⟨by rw [IntKind.wrap_i64]; omega, by unfold wrap64; omega⟩)
   have G0 := qh hc0
   have G1 := qh hc1
   have G2 := qh hc2
   clear ha0 ha1 ha2 hc0 hc1 hc2 qn
   obtain ⟨cv, dv⟩ := CV.out
   go_wp2_with fail
   refine (G0.out _ HT.out.rd).mono ?_
   rintro e v0 ⟨rfl, k1, b1⟩
   have K1 := qh k1
   have B1 := qh b1
   clear k1 b1 c1
   go_wp2_with fail
   clear cv dv
   refine (G1.out _ B1.out).mono ?_
   rintro e v1 ⟨rfl, k1, b1⟩
   obtain ⟨d, hbf, hwf⟩ := ItR.new (Tf := 72) (rdhOk (ansS l0) b) b1 (K1.out.trans k1) (Nat.lt_trans hbz HT.out.blk.lt) #[.string (ansS t2), .int .u64 0] _ rfl rfl
   obtain ⟨we, hwe⟩ : ∃ q, v1.alloc (.cells #[.string (ansS t2), .int .u64 0] 72) = q := ⟨_, rfl⟩
   obtain ⟨f, hf⟩ : ∃ q, v1.heap.size = q := ⟨_, rfl⟩
   rw [hwe, hf] at d
   rw [hf] at hbf hwf
   have D := qh d
   have HWE := qh hwe
   have HF := qh hf
   clear d hwe hf k1 b1 K1 B1
   go_upto_region 15 with (fail)
   rw [HF.out, HWE.out]
   clear HWE HF
   go_wp2_with fail
   refine (G2.out _ D.out.rd).mono ?_
   rintro e v2 ⟨rfl, k1, b1⟩
   have d := D.out.call k1 hbf b1
   have fz := d.blk.frozen 1
   have yy := d.blk.cell 1
   simp only [qgaq, qgzq, qgsq] at yy
   have d2 := d.set (rdhOk (ansS l0) b) hbf hwf 1 (.int .u64 (xk : Int))
   simp only [qsaq, qszq, qssq] at d2
   replace D := qh d2
   clear d d2 k1 b1
   go_upto_region 16 with (fail)
   generalize v2.setCell ⟨f, 1, none⟩ (.int .u64 (xk : Int)) = w1 at *
   clear fz yy
   have k1 := D.out.wr
   have HT2 := qh (HT.out.step k1 D.out.rd hbz hby)
   have HOW2 := qh (HOW.out.keep (cOk _) k1 (fun q hq => .inl (by rw [qmsq] at hq; omega)))
   have HWR2 := qh (HWR.out.trans (wr_at (z := z) k1))
   obtain ⟨y0, y1⟩ := c2q D.out.blk
   clear k1 HT HOW HWR D
   have r6 : Wr [] w1 (w1.alloc (.cells #[.string (ansS t2), .int .u64 (xk : Int)] 72)) := (Wr.refl [] w1).alloc _
   have n6 := Blk.new w1 72 #[.string (ansS t2), .int .u64 (xk : Int)]
   have ho1 : ∀ u ∈ ([.string (ansS t2), .int .u64 (xk : Int)] : List Value), u.oneCell' = true := by simp [Value.oneCell']
   have hrel : CRel UseD.cells (w1.alloc (.cells #[.string (ansS t2), .int .u64 (xk : Int)] 72)) (fun bl => w4.heap.size ≤ bl ∧ (Value.slice A1 kk c1).ownBlock ≠ some bl) [.string (ansS t2), .int .u64 (xk : Int)] (⟨ansS t2, (xk : Int)⟩) := rfl
   obtain ⟨A2, c2, W7, hrun, rA, hv, b7, hfin⟩ := lg_push (t := 23) (rdhOk (ansS l0) b) (cOk _) Tryz.underlying23 hi1 hz01 hz11 hz21 rfl (by decide) (by decide) hbz hyz hwz0 hzB HK.out HM.out (by omega) HL.out rfl HX.out HT2.out HOW2.out HWR2.out r6 n6 rfl ho1 hrel
   have f7 := b7.frozen 3
   have c7 := b7.cell 3
   have c6 := HT2.out.blk.cell 3
   simp only [qsaq, qszq, qssq] at c7 c6
   simp only [qgaq, qgzq, qgsq] at c7 c6
   have HRUN := qh hrun
   have HFIN := qh hfin
   clear hrun hfin rA r6 hv b7 n6 ho1 hrel
   go_wp2_with (at_builtin; refine wpList_append_run rfl _ _ _ rfl _ _ rfl rfl _ _ HRUN.out ?_)
   go_roundw
   case rel => exact ⟨kk + 1, by first | rfl | (go_num), HFIN.out⟩
   case measure => first | (simp [intOf]; done) | (simp [intOf]; omega)
  have he := out_end (l := l) hm hgo
  obtain ⟨e1, e2⟩ := lg_end hl he HL5.out
  have hsl := (how.out (cOk _)).mono (cOk _) (Q := fun q => z < q) (fun q hq => by omega)
  have e3 := e1.symm
  clear e1
  subst e3
  subst e2
  have hkn : kk = l1.length := hk.symm
  subst hkn
  simp only [qsaq, qszq, qssq] at ht
  have T4 := qh ht
  have N1 := qh hsl
  have hgo2 := hgo
  clear hk hm hl ht how hwr hgo he hsl AT4
  go_upto_region 12 with (fail)
  go_cut [53] (fun s wx => s = .bool false ∧ wr = wx)
  case first =>
   rcases out_way hgo2 with ⟨hk2, rfl⟩ | hk2
   all_goals
    go_wp2_with fail
    go_meet
    exact ⟨rfl, rfl⟩
  obtain ⟨rfl, rfl⟩ := hcut
  clear c1 hgo2
  go_wp2_with fail
  refine (H6.out _ T4.out.rd).mono ?_
  rintro e w2 ⟨vp, vi, vn, rfl, k1, b1, ml⟩
  obtain ⟨Ap, cp, rfl, _, _⟩ := Sl.form ml.procs
  obtain ⟨Ai, ci, rfl, _, _⟩ := Sl.form ml.imports
  obtain ⟨An, cn, rfl, _, _⟩ := Sl.form ml.init
  unfold ModD.val ModD.cells
  have hzl := T4.out.blk.lt
  have m := T4.out.call k1 hbz hby b1
  have f4 := m.blk.frozen 4
  have f5 := m.blk.frozen 5
  have f6 := m.blk.frozen 6
  have f7 := m.blk.frozen 7
  have f8 := m.blk.frozen 8
  have x4 := m.blk.cell 4
  have x5 := m.blk.cell 5
  have x6 := m.blk.cell 6
  have x7 := m.blk.cell 7
  have x8 := m.blk.cell 8
  simp only [qgaq, qgzq, qgsq] at x4 x5 x6 x7 x8
  have m2 : TgS (fun w r => RdH (ansS l0) w b r) 30 b y z #[.string ⟨#[]⟩, .bool false, .int .u64 0, .slice none 0 0, .string ⟨#[]⟩, .slice none 0 0, .slice none 0 0, .int .i64 0, .slice none 0 0] w r6 #[.string (ansS tx), .bool mn, .int .u64 (ky : Int), .slice A1 l1.length c1, .string md.code, .slice Ap md.procs.length cp, .slice Ai md.imports.length ci, .int .i64 md.data, .slice An md.init.length cn] (setL w2 z 4 [.string md.code, .slice Ap md.procs.length cp, .slice Ai md.imports.length ci, .int .i64 md.data, .slice An md.init.length cn]) := TgS.setL (rdhOk (ansS l0) b) (pre := [.string (ansS tx), .bool mn, .int .u64 (ky : Int), .slice A1 l1.length c1]) m hbz hyz hwz0 rfl
  have kz : Wr [z] w2 (setL w2 z 4 [.string md.code, .slice Ap md.procs.length cp, .slice Ai md.imports.length ci, .int .i64 md.data, .slice An md.init.length cn]) := setL_wr _ _ _
  have ml2 := (ml.into (Q := fun q => z < q) (fun q hq _ => by omega)).keep kz (fun q hq => by simp; omega)
  have M2 := qh m2
  have ML2 := qh ml2
  have N1n := N1.out.keepR (cOk _) k1 (fun q hq => by simp; omega)
  replace N1 := qh N1n
  clear N1n
  have N1n := N1.out.keepR (cOk _) kz (fun q hq => by simp; omega)
  replace N1 := qh N1n
  clear N1n
  clear m m2 k1 b1 ml ml2 kz T4
  go_upto_region 18 with (fail)
  generalize hw3 : ((((w2.setCell ⟨z, 4, none⟩ (.string md.code)).setCell ⟨z, 5, none⟩ (.slice Ap md.procs.length cp)).setCell ⟨z, 6, none⟩ (.slice Ai md.imports.length ci)).setCell ⟨z, 7, none⟩ (.int .i64 md.data)).setCell ⟨z, 8, none⟩ (.slice An md.init.length cn) = w3
  have hw4 : setL w2 z 4 [.string md.code, .slice Ap md.procs.length cp, .slice Ai md.imports.length ci, .int .i64 md.data, .slice An md.init.length cn] = w3 := hw3
  rw [hw4] at M2 ML2 N1
  clear hw3 hw4 f4 f5 f6 f7 f8 x4 x5 x6 x7 x8
  have hol : ObjL w3 (fun q => z < q) (.slice A1 l1.length c1) (.slice Ap md.procs.length cp) (.slice Ai md.imports.length ci) (.slice An md.init.length cn) ⟨⟨tx.toArray⟩, mn, (ky : Int), l1, md⟩ := obj_l N1.out ML2.out (fun _ h => h)
  have hmay : Calls Tryz.prog 15 #[.agg #[.string (ansS tx), .bool mn, .int .u64 (ky : Int), .slice A1 l1.length c1, .string md.code, .slice Ap md.procs.length cp, .slice Ai md.imports.length ci, .int .i64 md.data, .slice An md.init.length cn]] w3 fun e w' => e = .returned (.bool (objB ⟨⟨tx.toArray⟩, mn, (ky : Int), l1, md⟩)) ∧ Wr [] w3 w' := romay_any ⟨⟨tx.toArray⟩, mn, (ky : Int), l1, md⟩ _ _ _ _ _ w3 hol
  have hob := HOB.out
  rw [hob] at hmay hol
  obtain ⟨oy, hoy⟩ : ∃ q, objB ob = q := ⟨_, rfl⟩
  rw [hoy] at hmay
  obtain ⟨rs, rbad⟩ := r6
  obtain ⟨p, hp, hs, hbk⟩ := M2.out.rd
  simp only at hs
  have b1 := hbk.cell 1
  have b2 := hbk.cell 2
  simp only [qgaq, qgzq, qgsq] at b1 b2
  obtain ⟨ok, hok⟩ : ∃ q, (rbad || !rs.isEmpty || !oy) = q := ⟨_, rfl⟩
  have hres : ans = if ok then (noObj, 7) else (ob, 0) := by rw [HDR.out]; unfold readP; rw [hoy, ← hok]
  have hemp : rs.isEmpty = decide (p = (ansS l0).size) := by
   rw [hs, Bool.eq_iff_iff, List.isEmpty_iff, List.drop_eq_nil_iff, decide_eq_true_eq]
   show (ansS l0).size ≤ p ↔ _
   omega
  rw [hemp] at hok
  have HMAY := qh hmay
  have HOL := qh hol
  have HOK := qh hok
  have HRES := qh hres
  have HOBB := qh hob
  obtain ⟨d0, d1, d2, d3, d4, d5, d6, d7, d8⟩ := c9q M2.out.blk
  clear hmay hol hob hok hres hoy hemp hs hbk HOB HDR N1 ML2
  go_cut [91] (fun s wx => s = .bool ok ∧ Wr [] w3 wx)
  case first =>
   cases rbad with
   | true =>
    obtain rfl : ok = true := by have := HOK.out; simpa using this.symm
    clear HOK
    go_wp2_with fail
    go_meet
    exact ⟨rfl, Wr.refl _ _⟩
   | false =>
    by_cases hps : p = (ansS l0).size
    ·have hk2 := HOK.out
     simp only [hps, decide_true, Bool.not_true, Bool.false_or] at hk2
     have e1 : ((p : Int) == ((ansS l0).size : Int)) = true := by simp [hps]
     have e2 : ((p : Int) != ((ansS l0).size : Int)) = false := by simp [hps]
     have HK2 := qh hk2
     clear HOK hk2 hps hp
     go_wp2_with fail
     refine HMAY.out.mono ?_
     rintro e w9 ⟨rfl, k9⟩
     have hk2 := HK2.out
     subst hk2
     go_wp2_with fail
     go_meet
     exact ⟨rfl, k9⟩
    ·have e1 : ((p : Int) == ((ansS l0).size : Int)) = false := by simp; omega
     have e2 : ((p : Int) != ((ansS l0).size : Int)) = true := by simp; omega
     have e3 : ¬ (p : Int) = ((ansS l0).size : Int) := by omega
     have hd : decide (p = (ansS l0).size) = false := qdfq hps
     obtain rfl : ok = true := by have := HOK.out; rw [hd] at this; simpa using this.symm
     clear HOK hd hps hp
     go_wp2_with fail
     go_meet
     exact ⟨rfl, Wr.refl _ _⟩
  case rest =>
   rename World => wx
   obtain ⟨rfl, kx⟩ := hcut
   have hs2 := M2.out.keep (rdhOk (ansS l0) b) kx (fun _ h => by simp at h) hbz hyz hwz0
   have hf2 := HOL.out.wr0 kx
   have HS2 := qh hs2
   have HF2 := qh hf2
   clear hs2 hf2 kx M2 HOL HOK HMAY d0 d1 d2 d3 d4 d5 d6 d7 d8 b1 b2
   cases ok with
   | true =>
    clear HF2
    obtain ⟨z0, z1, z2, z3, z4, z5, z6, z7, z8⟩ := c9q HS2.out.res
    obtain ⟨g0, g1, g2, g3, g4, g5, g6, g7, g8⟩ := z9q HS2.out.res
    go_wp2_with fail
    refine bodyPost_ret (v := .tuple #[.agg #[.string ⟨#[]⟩, .bool false, .int .u64 0, .slice none 0 0, .string ⟨#[]⟩, .slice none 0 0, .slice none 0 0, .int .i64 0, .slice none 0 0], .int .i64 7]) ?_ rfl ?_
    ·have h9 := HS2.out.res.setL [.string ⟨#[]⟩, .bool false, .int .u64 0, .slice none 0 0, .string ⟨#[]⟩, .slice none 0 0, .slice none 0 0, .int .i64 0, .slice none 0 0] rfl
     obtain ⟨t0, t1, t2, t3, t4, t5, t6, t7, t8⟩ := c9q h9
     simp only [setL] at t0 t1 t2 t3 t4 t5 t6 t7 t8
     simp [results, Tryz.results20, go_sem, t0, t1, t2, t3, t4, t5, t6, t7, t8]
    ·have kw := setL_wr (g := y) [.string ⟨#[]⟩, .bool false, .int .u64 0, .slice none 0 0, .string ⟨#[]⟩, .slice none 0 0, .slice none 0 0, .int .i64 0, .slice none 0 0] 0 wx
     have ka : Wr [] w (setL wx y 0 [.string ⟨#[]⟩, .bool false, .int .u64 0, .slice none 0 0, .string ⟨#[]⟩, .slice none 0 0, .slice none 0 0, .int .i64 0, .slice none 0 0]) := wr_own2 HS2.out.wr kw hwb0 hwy
     have hr : ans = (noObj, 7) := by simpa using HRES.out
     rw [hr]
     exact zero_ans ka
   | false =>
    obtain ⟨z0, z1, z2, z3, z4, z5, z6, z7, z8⟩ := c9q HS2.out.res
    obtain ⟨g0, g1, g2, g3, g4, g5, g6, g7, g8⟩ := z9q HS2.out.res
    have x0 := HS2.out.blk.cell 0
    have x1 := HS2.out.blk.cell 1
    have x2 := HS2.out.blk.cell 2
    have x3 := HS2.out.blk.cell 3
    have x4 := HS2.out.blk.cell 4
    have x5 := HS2.out.blk.cell 5
    have x6 := HS2.out.blk.cell 6
    have x7 := HS2.out.blk.cell 7
    have x8 := HS2.out.blk.cell 8
    simp only [qgaq, qgzq, qgsq] at x0 x1 x2 x3 x4 x5 x6 x7 x8
    go_wp2_with fail
    refine bodyPost_ret (v := .tuple #[.agg #[.string (ansS tx), .bool mn, .int .u64 (ky : Int), .slice A1 l1.length c1, .string md.code, .slice Ap md.procs.length cp, .slice Ai md.imports.length ci, .int .i64 md.data, .slice An md.init.length cn], .int .i64 0]) ?_ rfl ?_
    ·have h9 := HS2.out.res.setL [.string (ansS tx), .bool mn, .int .u64 (ky : Int), .slice A1 l1.length c1, .string md.code, .slice Ap md.procs.length cp, .slice Ai md.imports.length ci, .int .i64 md.data, .slice An md.init.length cn] rfl
     obtain ⟨t0, t1, t2, t3, t4, t5, t6, t7, t8⟩ := c9q h9
     simp only [setL] at t0 t1 t2 t3 t4 t5 t6 t7 t8
     simp [results, Tryz.results20, go_sem, t0, t1, t2, t3, t4, t5, t6, t7, t8]
    ·have kw := setL_wr (g := y) [.string (ansS tx), .bool mn, .int .u64 (ky : Int), .slice A1 l1.length c1, .string md.code, .slice Ap md.procs.length cp, .slice Ai md.imports.length ci, .int .i64 md.data, .slice An md.init.length cn] 0 wx
     have ka : Wr [] w (setL wx y 0 [.string (ansS tx), .bool mn, .int .u64 (ky : Int), .slice A1 l1.length c1, .string md.code, .slice Ap md.procs.length cp, .slice Ai md.imports.length ci, .int .i64 md.data, .slice An md.init.length cn]) := wr_own2 HS2.out.wr kw hwb0 hwy
     have hr : ans = (ob, 0) := by simpa using HRES.out
     rw [hr]
     have ho := (HF2.out.keep kw (fun q hq => by simp; omega)).into (Q := fun q => w.heap.size ≤ q) (fun q hq _ => by omega)
     have hob := HOBB.out
     subst hob
     exact ⟨_, _, _, _, rfl, ka, ho⟩
theorem rodec_any (l0 : List UInt8) (hl : l0.length ≤ maxLen) (w : World) : Calls Tryz.prog 20 #[.string (ansS l0)] w (ODecR (decodeP l0) w) := by
 cases h : headP objKind l0 with
 | none =>
  have e : decodeP l0 = (noObj, 7) := by unfold decodeP; rw [h]
  rw [e]
  exact rodec_head l0 h w
 | some p => exact rodec_body l0 hl p.1 p.2 h w
structure PVal where
 sort : Int
 n : Int
 type : Int
 text : ByteArray
structure PItm where
 name : ByteArray
 kind : Int
 type : Int
 at_ : Int
 v : PVal
structure FaceP where
 module : ByteArray
 uses : List UseD
 types : List Ty
 items : List PItm
def valOf : AnyD → PVal
 | .nil => ⟨0, 0, 0, ⟨#[]⟩⟩
 | .whole n => ⟨1, n, 0, ⟨#[]⟩⟩
 | .letter n => ⟨2, n, 0, ⟨#[]⟩⟩
 | .truth b => ⟨3, if b then 1 else 0, 0, ⟨#[]⟩⟩
 | .bits n => ⟨4, n, 0, ⟨#[]⟩⟩
 | .str s => ⟨5, 0, 0, s⟩
 | .item t n => ⟨6, n, t, ⟨#[]⟩⟩
 | .null => ⟨7, 0, 0, ⟨#[]⟩⟩
 | .other => ⟨8, 0, 0, ⟨#[]⟩⟩
def pitmOf (x : ItmD) : PItm := ⟨x.name, x.kind, x.type, x.at_, valOf x.v⟩
def facePl (f : FaceD) : FaceP := ⟨f.module, f.uses, f.types, f.items.map pitmOf⟩
def PVal.cells (v : PVal) : List Value := [.int .u8 v.sort, .int .i64 v.n, .int .i64 v.type, .string v.text]
def PItm.cells (x : PItm) : List Value := [.string x.name, .int .u8 x.kind, .int .i64 x.type, .int .i64 x.at_, .int .u8 x.v.sort, .int .i64 x.v.n, .int .i64 x.v.type, .string x.v.text]
theorem pitm_len (x : PItm) : x.cells.length = 8 := rfl
def SlPItms (w : World) (P : Nat → Prop) (v : Value) (l : List PItm) : Prop := Sl w P 8 v l.length (l.flatMap PItm.cells)
structure FacePL (w : World) (P : Nat → Prop) (vu vt vi : Value) (f : FaceP) : Prop where
 uses : SlUsesF w P vu f.uses
 types : SlTys w P vt f.types
 items : SlPItms w P vi f.items
theorem pitm_at {w : World} {P : Nat → Prop} {v : Value} {l : List PItm} (h : SlPItms w P v l) {i : Nat} {x : PItm} (hi : l[i]? = some x) : ∃ b off c, v = .slice (some ⟨b, off, none⟩) l.length c ∧ P b ∧ ∀ j u, x.cells[j]? = some u → w.cell? ⟨b, off + i * 8 + j, none⟩ = some u := by
 obtain ⟨b, off, c, e, _, _, hP, h4⟩ := Sl.thing h (by decide) (List.getElem?_eq_some_iff.1 hi).1
 refine ⟨b, off, c, e, hP, fun j u hj => ?_⟩
 have hj5 : j < 8 := (List.getElem?_eq_some_iff.1 hj).1
 rw [Nat.add_assoc]
 exact h4 j u hj5 (by rw [flatF_at pitm_len l i j x hi hj5]; exact hj)
theorem FacePL.keep {w w' : World} {P : Nat → Prop} {vu vt vi : Value} {ls : List Nat} {f : FaceP} (h : FacePL w P vu vt vi f) (hw : Wr ls w w') (hP : ∀ b, P b → b ∉ ls) : FacePL w' P vu vt vi f := ⟨Sl.keep h.uses hw hP, h.types.keep hw hP, Sl.keep h.items hw hP⟩
theorem FacePL.wr0 {w w' : World} {P : Nat → Prop} {vu vt vi : Value} {f : FaceP} (h : FacePL w P vu vt vi f) (hw : Wr [] w w') : FacePL w' P vu vt vi f := h.keep hw (fun _ _ => by simp)
theorem FacePL.forms {w : World} {P : Nat → Prop} {vu vt vi : Value} {f : FaceP} (h : FacePL w P vu vt vi f) : (∃ A k, vu = .slice A f.uses.length k ∧ f.uses.length ≤ k ∧ k ≤ maxLen) ∧ (∃ A k, vt = .slice A f.types.length k ∧ f.types.length ≤ k ∧ k ≤ maxLen) ∧ ∃ A k, vi = .slice A f.items.length k ∧ f.items.length ≤ k ∧ k ≤ maxLen := ⟨Sl.form h.uses, h.types.form, Sl.form h.items⟩
end Go.Proofs.YtildcdgobdfieaaGreat
