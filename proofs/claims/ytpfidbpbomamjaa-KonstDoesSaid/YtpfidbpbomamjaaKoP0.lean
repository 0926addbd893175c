/- konst.Does, walked: part 0. -/
import Derived.Test.YtpfidbpbomamjaaKoE
namespace Go.Proofs.Ytpfidbpbomamjaa
open Go.RowKit
set_option linter.unusedVariables false
set_option maxRecDepth 100000 in
set_option maxHeartbeats 4000000 in
theorem does_K_K {s : ByteArray} {fa : Value} {fw : Nat → Value} {fs : Value} (x y : KV) (hx : x.ok) (hy : y.ok) (hly : y.letter.ok)  (op : OpF s false false false fa fw fs) (qAND : ¬s.toList = [65, 78, 68]) (qANDb : (s.toList == [65, 78, 68]) = false) (qOR : ¬s.toList = [79, 82]) (qORb : (s.toList == [79, 82]) = false) (qIN : ¬s.toList = [73, 78]) (qINb : (s.toList == [73, 78]) = false) (qEQ : ¬s.toList = [61]) (qEQb : (s.toList == [61]) = false) (qNE : ¬s.toList = [35]) (qNEb : (s.toList == [35]) = false)  (w : World) :
    Calls Try.prog 11 #[.string s, x.val, y.val] w fun e w' => e = .returned (.tuple #[(KV.none_).val, .int .i64 (103)]) ∧ Wr [] w w' := by
  have hres : (KV.none_).val = .nilIface := by first | exact KV.truth_val _ | rfl
  rw [hres]
  clear hres
  have hmi := @mkIface 40 rfl
  generalize x.val = xv at ⊢
  generalize y.val = yv at ⊢
  clear hx hy hly 
  have kA := op.lookA
  have kW := op.lookW
  have kS := op.lookS
  clear op
  go_enter Try.func11, Try.ntmps11
  go_wp2_with fail
  refine (asks_P w).mono ?_
  rintro e wa ha
  obtain ⟨ra, rfl, va, hra⟩ := ha
  have la := kA ra wa hra
  clear kA hra
  go_wp2_with fail
  refine (wholes_P wa).mono ?_
  rintro e ww hw
  obtain ⟨rw_, rfl, vw, hrw, hd1, hd2⟩ := hw
  have lw := kW rw_ ww hrw
  clear kW hrw
  go_wp2_with fail
  refine (sets_P ww).mono ?_
  rintro e ws hs
  obtain ⟨rs, rfl, vs, hrs⟩ := hs
  have ls := kS rs ws hrs
  clear kS hrs
  have v0 := (va.trans vw).trans vs
  clear va vw
  go_wp2_with fail
  clear hd1 hd2 vs
  go_ret2
  exact ⟨rfl, v0⟩
set_option maxRecDepth 100000 in
set_option maxHeartbeats 4000000 in
theorem does_D_N2 {s : ByteArray} {fa : Value} {fw : Nat → Value} {fs : Value} (x y : KV) (hx : x.ok) (hy : y.ok) (hly : y.letter.ok)  (op : OpF s false false false fa fw fs) (q : s.toList = [65, 78, 68]) (ix : x.isB = true) (iy : y.isB = false) (w : World) :
    Calls Try.prog 11 #[.string s, x.val, y.val] w fun e w' => e = .returned (.tuple #[(KV.none_).val, .int .i64 (100)]) ∧ Wr [] w w' := by
  have hres : (KV.none_).val = .nilIface := by first | exact KV.truth_val _ | rfl
  rw [hres]
  clear hres
  have hmi := @mkIface 40 rfl
  have c1 := fun w => is_any x hx w
  rw [ix] at c1
  have c2 := fun w => is_any y hy w
  rw [iy] at c2
  generalize x.val = xv at ⊢ c1
  generalize y.val = yv at ⊢ c2
  clear hx hy hly ix iy
  have kA := op.lookA
  have kW := op.lookW
  have kS := op.lookS
  clear op
  go_enter Try.func11, Try.ntmps11
  go_wp2_with fail
  refine (asks_P w).mono ?_
  rintro e wa ha
  obtain ⟨ra, rfl, va, hra⟩ := ha
  have la := kA ra wa hra
  clear kA hra
  go_wp2_with fail
  refine (wholes_P wa).mono ?_
  rintro e ww hw
  obtain ⟨rw_, rfl, vw, hrw, hd1, hd2⟩ := hw
  have lw := kW rw_ ww hrw
  clear kW hrw
  go_wp2_with fail
  refine (sets_P ww).mono ?_
  rintro e ws hs
  obtain ⟨rs, rfl, vs, hrs⟩ := hs
  have ls := kS rs ws hrs
  clear kS hrs
  have v0 := (va.trans vw).trans vs
  clear va vw
  go_wp2_with fail
  clear hd1 hd2 vs
  refine (c1 ws).mono ?_
  clear c1
  rintro e w1 ⟨rfl, u1⟩
  have v1 := v0.trans u1
  clear v0 u1
  go_wp2_with fail
  refine (c2 w1).mono ?_
  clear c2
  rintro e w2 ⟨rfl, u2⟩
  have v2 := v1.trans u2
  clear v1 u2
  go_wp2_with fail
  go_ret2
  exact ⟨rfl, v2⟩
set_option maxRecDepth 100000 in
set_option maxHeartbeats 4000000 in
theorem does_H_N2 {s : ByteArray} {fa : Value} {fw : Nat → Value} {fs : Value} (x y : KV) (hx : x.ok) (hy : y.ok) (hly : y.letter.ok)  (op : OpF s true false true fa fw fs) (qAND : ¬s.toList = [65, 78, 68]) (qANDb : (s.toList == [65, 78, 68]) = false) (qOR : ¬s.toList = [79, 82]) (qORb : (s.toList == [79, 82]) = false) (qIN : ¬s.toList = [73, 78]) (qINb : (s.toList == [73, 78]) = false) (qEQ : ¬s.toList = [61]) (qEQb : (s.toList == [61]) = false) (qNE : ¬s.toList = [35]) (qNEb : (s.toList == [35]) = false) (ix : x.isB = true) (iy : y.isB = false) (w : World) :
    Calls Try.prog 11 #[.string s, x.val, y.val] w fun e w' => e = .returned (.tuple #[(KV.none_).val, .int .i64 (100)]) ∧ Wr [] w w' := by
  have hres : (KV.none_).val = .nilIface := by first | exact KV.truth_val _ | rfl
  rw [hres]
  clear hres
  have hmi := @mkIface 40 rfl
  have c1 := fun w => is_any x hx w
  rw [ix] at c1
  have c2 := fun w => is_any y hy w
  rw [iy] at c2
  generalize x.val = xv at ⊢ c1
  generalize y.val = yv at ⊢ c2
  clear hx hy hly ix iy
  have kA := op.lookA
  have kW := op.lookW
  have kS := op.lookS
  clear op
  go_enter Try.func11, Try.ntmps11
  go_wp2_with fail
  refine (asks_P w).mono ?_
  rintro e wa ha
  obtain ⟨ra, rfl, va, hra⟩ := ha
  have la := kA ra wa hra
  clear kA hra
  go_wp2_with fail
  refine (wholes_P wa).mono ?_
  rintro e ww hw
  obtain ⟨rw_, rfl, vw, hrw, hd1, hd2⟩ := hw
  have lw := kW rw_ ww hrw
  clear kW hrw
  go_wp2_with fail
  refine (sets_P ww).mono ?_
  rintro e ws hs
  obtain ⟨rs, rfl, vs, hrs⟩ := hs
  have ls := kS rs ws hrs
  clear kS hrs
  have v0 := (va.trans vw).trans vs
  clear va vw
  go_wp2_with fail
  clear hd1 hd2 vs
  refine (c1 ws).mono ?_
  clear c1
  rintro e w1 ⟨rfl, u1⟩
  have v1 := v0.trans u1
  clear v0 u1
  go_wp2_with fail
  refine (c2 w1).mono ?_
  clear c2
  rintro e w2 ⟨rfl, u2⟩
  have v2 := v1.trans u2
  clear v1 u2
  go_wp2_with fail
  go_ret2
  exact ⟨rfl, v2⟩
set_option maxRecDepth 100000 in
set_option maxHeartbeats 4000000 in
theorem does_J_INd {s : ByteArray} {fa : Value} {fw : Nat → Value} {fs : Value} (x y : KV) (hx : x.ok) (hy : y.ok) (hly : y.letter.ok)  (op : OpF s false false false fa fw fs) (q : s.toList = [73, 78]) (ix : x.isB = true) (iy : y.isB = true) (by4 : y.is 4 = true) (hn : x.has = true) (g0 : decide (x.number ≥ 0) = true) (g1 : decide (x.number < 16) = false) (w : World) :
    Calls Try.prog 11 #[.string s, x.val, y.val] w fun e w' => e = .returned (.tuple #[(KV.truth false).val, .int .i64 (0)]) ∧ Wr [] w w' := by
  have hres : (KV.truth false).val = .iface 40 (.bool false) := by first | exact KV.truth_val _ | rfl
  rw [hres]
  clear hres
  have hmi := @mkIface 40 rfl
  have c1 := fun w => is_any x hx w
  rw [ix] at c1
  have c2 := fun w => is_any y hy w
  rw [iy] at c2
  have c3 := fun w => number_any x hx w
  have c4 := fun w => as_bits y w
  rw [hn] at c3
  rw [by4] at c4
  generalize x.val = xv at ⊢ c1 c3
  generalize y.val = yv at ⊢ c2 c4
  generalize x.number = n at c3 g0 g1 ⊢
  generalize y.num 4 = yb4 at c4
  clear hx hy hly ix iy by4 hn
  have kA := op.lookA
  have kW := op.lookW
  have kS := op.lookS
  clear op
  go_enter Try.func11, Try.ntmps11
  go_wp2_with fail
  refine (asks_P w).mono ?_
  rintro e wa ha
  obtain ⟨ra, rfl, va, hra⟩ := ha
  have la := kA ra wa hra
  clear kA hra
  go_wp2_with fail
  refine (wholes_P wa).mono ?_
  rintro e ww hw
  obtain ⟨rw_, rfl, vw, hrw, hd1, hd2⟩ := hw
  have lw := kW rw_ ww hrw
  clear kW hrw
  go_wp2_with fail
  refine (sets_P ww).mono ?_
  rintro e ws hs
  obtain ⟨rs, rfl, vs, hrs⟩ := hs
  have ls := kS rs ws hrs
  clear kS hrs
  have v0 := (va.trans vw).trans vs
  clear va vw
  go_wp2_with fail
  clear hd1 hd2 vs
  refine (c1 ws).mono ?_
  clear c1
  rintro e w1 ⟨rfl, u1⟩
  have v1 := v0.trans u1
  clear v0 u1
  go_wp2_with fail
  refine (c2 w1).mono ?_
  clear c2
  rintro e w2 ⟨rfl, u2⟩
  have v2 := v1.trans u2
  clear v1 u2
  go_wp2_with fail
  refine (c3 w2).mono ?_
  clear c3
  rintro e w3 ⟨rfl, u3⟩
  have v3 := v2.trans u3
  clear v2 u3
  go_wp2_with fail
  go_ret2
  exact ⟨rfl, v3⟩
set_option maxRecDepth 100000 in
set_option maxHeartbeats 4000000 in
theorem does_F_B1 {s : ByteArray} {fa : Value} {fw : Nat → Value} (x y : KV) (hx : x.ok) (hy : y.ok) (hly : y.letter.ok) (fi : FuncId) (hen : ∀ args w, (callFunc fi args).run Try.prog w = .ok (.enter fi args) w) (R : KV) (hset : ∀ w, Calls Try.prog fi #[.int .u16 (x.letter.num 4), .int .u16 (y.letter.num 4)] w fun e w' => e = .returned R.val ∧ w = w') (op : OpF s true false true fa fw (.func (.func fi) #[] #[])) (q : s.toList = [61]) (ix : x.isB = true) (iy : y.isB = true) (lx4 : x.letter.is 4 = true) (ly4 : y.letter.is 4 = true) (w : World) :
    Calls Try.prog 11 #[.string s, x.val, y.val] w fun e w' => e = .returned (.tuple #[(R).val, .int .i64 (0)]) ∧ Wr [] w w' := by
  generalize hres : (R).val = rv at hset ⊢
  clear hres
  have hmi := @mkIface 40 rfl
  have c1 := fun w => is_any x hx w
  rw [ix] at c1
  have c2 := fun w => is_any y hy w
  rw [iy] at c2
  have c3 := fun w => number_any x hx w
  have c4 := fun w => as_bits y w
  generalize x.has = xhas at c3
  generalize y.is 4 = yis4 at c4
  have c5 := fun w => letter_any x hx w
  have c6 := fun w => letter_any y hy w
  have c7 := fun w => number_any y.letter hly w
  have c8 := fun w => as_bits x.letter w
  rw [lx4] at c8
  generalize y.letter.has = yhas at c7
  have c9 := fun w => as_bits y.letter w
  rw [ly4] at c9
  generalize x.letter.val = lxv at c5 c8
  generalize y.letter.val = lyv at c6 c7 c9
  generalize x.val = xv at ⊢ c1 c3 c5
  generalize y.val = yv at ⊢ c2 c4 c6
  generalize x.number = n at c3
  generalize y.letter.number = m at c7
  generalize x.letter.num 4 = xb at c8 hset
  generalize y.letter.num 4 = yb at c9 hset
  generalize y.num 4 = yb4 at c4
  clear hx hy hly ix iy lx4 ly4
  have kA := op.lookA
  have kW := op.lookW
  have kS := op.lookS
  clear op
  go_enter Try.func11, Try.ntmps11
  go_wp2_with fail
  refine (asks_P w).mono ?_
  rintro e wa ha
  obtain ⟨ra, rfl, va, hra⟩ := ha
  have la := kA ra wa hra
  clear kA hra
  go_wp2_with fail
  refine (wholes_P wa).mono ?_
  rintro e ww hw
  obtain ⟨rw_, rfl, vw, hrw, hd1, hd2⟩ := hw
  have lw := kW rw_ ww hrw
  clear kW hrw
  go_wp2_with fail
  refine (sets_P ww).mono ?_
  rintro e ws hs
  obtain ⟨rs, rfl, vs, hrs⟩ := hs
  have ls := kS rs ws hrs
  clear kS hrs
  have v0 := (va.trans vw).trans vs
  clear va vw
  go_wp2_with fail
  clear hd1 hd2 vs
  refine (c1 ws).mono ?_
  clear c1
  rintro e w1 ⟨rfl, u1⟩
  have v1 := v0.trans u1
  clear v0 u1
  go_wp2_with fail
  refine (c2 w1).mono ?_
  clear c2
  rintro e w2 ⟨rfl, u2⟩
  have v2 := v1.trans u2
  clear v1 u2
  go_wp2_with fail
  refine (c3 w2).mono ?_
  clear c3
  rintro e w3 ⟨rfl, u3⟩
  have v3 := v2.trans u3
  clear v2 u3
  go_wp2_with fail
  refine (c5 w3).mono ?_
  clear c5
  rintro e w4 ⟨rfl, rfl⟩
  go_wp2_with fail
  refine (c6 w3).mono ?_
  clear c6
  rintro e w5 ⟨rfl, rfl⟩
  go_wp2_with fail
  refine (c7 w3).mono ?_
  clear c7
  rintro e w6 ⟨rfl, u6⟩
  have v6 := v3.trans u6
  clear v3 u6
  go_wp2_with fail
  refine (hset w6).mono ?_
  clear hset
  rintro e w7 ⟨rfl, rfl⟩
  go_wp2_with fail
  go_ret2
  exact ⟨rfl, v6⟩
set_option maxRecDepth 100000 in
set_option maxHeartbeats 4000000 in
theorem does_H_L0 {s : ByteArray} {fa : Value} {fw : Nat → Value} {fs : Value} (x y : KV) (hx : x.ok) (hy : y.ok) (hly : y.letter.ok)  (op : OpF s true false true fa fw fs) (qAND : ¬s.toList = [65, 78, 68]) (qANDb : (s.toList == [65, 78, 68]) = false) (qOR : ¬s.toList = [79, 82]) (qORb : (s.toList == [79, 82]) = false) (qIN : ¬s.toList = [73, 78]) (qINb : (s.toList == [73, 78]) = false) (qEQ : ¬s.toList = [61]) (qEQb : (s.toList == [61]) = false) (qNE : ¬s.toList = [35]) (qNEb : (s.toList == [35]) = false) (ix : x.isB = true) (iy : y.isB = true) (lx4 : x.letter.is 4 = false) (al : alikeB x.letter y.letter = false) (w : World) :
    Calls Try.prog 11 #[.string s, x.val, y.val] w fun e w' => e = .returned (.tuple #[(KV.none_).val, .int .i64 (100)]) ∧ Wr [] w w' := by
  have hres : (KV.none_).val = .nilIface := by first | exact KV.truth_val _ | rfl
  rw [hres]
  clear hres
  have hmi := @mkIface 40 rfl
  have c1 := fun w => is_any x hx w
  rw [ix] at c1
  have c2 := fun w => is_any y hy w
  rw [iy] at c2
  have c3 := fun w => number_any x hx w
  have c4 := fun w => as_bits y w
  generalize x.has = xhas at c3
  generalize y.is 4 = yis4 at c4
  have c5 := fun w => letter_any x hx w
  have c6 := fun w => letter_any y hy w
  have c7 := fun w => number_any y.letter hly w
  have c8 := fun w => as_bits x.letter w
  rw [lx4] at c8
  generalize y.letter.has = yhas at c7
  have d1 := fun w => alike_any x.letter y.letter w
  rw [al] at d1
  generalize x.letter.val = lxv at c5 c8 d1
  generalize y.letter.val = lyv at c6 c7 d1
  generalize x.val = xv at ⊢ c1 c3 c5
  generalize y.val = yv at ⊢ c2 c4 c6
  generalize x.number = n at c3
  generalize y.letter.number = m at c7
  generalize x.letter.num 4 = xb at c8
  generalize y.num 4 = yb4 at c4
  clear hx hy hly ix iy lx4 al
  have kA := op.lookA
  have kW := op.lookW
  have kS := op.lookS
  clear op
  go_enter Try.func11, Try.ntmps11
  go_wp2_with fail
  refine (asks_P w).mono ?_
  rintro e wa ha
  obtain ⟨ra, rfl, va, hra⟩ := ha
  have la := kA ra wa hra
  clear kA hra
  go_wp2_with fail
  refine (wholes_P wa).mono ?_
  rintro e ww hw
  obtain ⟨rw_, rfl, vw, hrw, hd1, hd2⟩ := hw
  have lw := kW rw_ ww hrw
  clear kW hrw
  go_wp2_with fail
  refine (sets_P ww).mono ?_
  rintro e ws hs
  obtain ⟨rs, rfl, vs, hrs⟩ := hs
  have ls := kS rs ws hrs
  clear kS hrs
  have v0 := (va.trans vw).trans vs
  clear va vw
  go_wp2_with fail
  clear hd1 hd2 vs
  refine (c1 ws).mono ?_
  clear c1
  rintro e w1 ⟨rfl, u1⟩
  have v1 := v0.trans u1
  clear v0 u1
  go_wp2_with fail
  refine (c2 w1).mono ?_
  clear c2
  rintro e w2 ⟨rfl, u2⟩
  have v2 := v1.trans u2
  clear v1 u2
  go_wp2_with fail
  refine (c3 w2).mono ?_
  clear c3
  rintro e w3 ⟨rfl, u3⟩
  have v3 := v2.trans u3
  clear v2 u3
  go_wp2_with fail
  refine (c5 w3).mono ?_
  clear c5
  rintro e w4 ⟨rfl, rfl⟩
  go_wp2_with fail
  refine (c6 w3).mono ?_
  clear c6
  rintro e w5 ⟨rfl, rfl⟩
  go_wp2_with fail
  refine (c7 w3).mono ?_
  clear c7
  rintro e w6 ⟨rfl, u6⟩
  have v6 := v3.trans u6
  clear v3 u6
  go_wp2_with fail
  refine (d1 w6).mono ?_
  clear d1
  rintro e w7 ⟨rfl, u7⟩
  have v7 := v6.trans u7
  clear v6 u7
  go_wp2_with fail
  go_ret2
  exact ⟨rfl, v7⟩
set_option maxRecDepth 100000 in
set_option maxHeartbeats 4000000 in
theorem does_I_L1 {s : ByteArray} {fa : Value} {fw : Nat → Value} {fs : Value} (x y : KV) (hx : x.ok) (hy : y.ok) (hly : y.letter.ok)  (op : OpF s true false false fa fw fs) (qAND : ¬s.toList = [65, 78, 68]) (qANDb : (s.toList == [65, 78, 68]) = false) (qOR : ¬s.toList = [79, 82]) (qORb : (s.toList == [79, 82]) = false) (qIN : ¬s.toList = [73, 78]) (qINb : (s.toList == [73, 78]) = false) (qEQ : ¬s.toList = [61]) (qEQb : (s.toList == [61]) = false) (qNE : ¬s.toList = [35]) (qNEb : (s.toList == [35]) = false) (ix : x.isB = true) (iy : y.isB = true) (lx4 : x.letter.is 4 = true) (al : alikeB x.letter y.letter = false) (w : World) :
    Calls Try.prog 11 #[.string s, x.val, y.val] w fun e w' => e = .returned (.tuple #[(KV.none_).val, .int .i64 (100)]) ∧ Wr [] w w' := by
  have hres : (KV.none_).val = .nilIface := by first | exact KV.truth_val _ | rfl
  rw [hres]
  clear hres
  have hmi := @mkIface 40 rfl
  have c1 := fun w => is_any x hx w
  rw [ix] at c1
  have c2 := fun w => is_any y hy w
  rw [iy] at c2
  have c3 := fun w => number_any x hx w
  have c4 := fun w => as_bits y w
  generalize x.has = xhas at c3
  generalize y.is 4 = yis4 at c4
  have c5 := fun w => letter_any x hx w
  have c6 := fun w => letter_any y hy w
  have c7 := fun w => number_any y.letter hly w
  have c8 := fun w => as_bits x.letter w
  rw [lx4] at c8
  generalize y.letter.has = yhas at c7
  have d1 := fun w => alike_any x.letter y.letter w
  rw [al] at d1
  generalize x.letter.val = lxv at c5 c8 d1
  generalize y.letter.val = lyv at c6 c7 d1
  generalize x.val = xv at ⊢ c1 c3 c5
  generalize y.val = yv at ⊢ c2 c4 c6
  generalize x.number = n at c3
  generalize y.letter.number = m at c7
  generalize x.letter.num 4 = xb at c8
  generalize y.num 4 = yb4 at c4
  clear hx hy hly ix iy lx4 al
  have kA := op.lookA
  have kW := op.lookW
  have kS := op.lookS
  clear op
  go_enter Try.func11, Try.ntmps11
  go_wp2_with fail
  refine (asks_P w).mono ?_
  rintro e wa ha
  obtain ⟨ra, rfl, va, hra⟩ := ha
  have la := kA ra wa hra
  clear kA hra
  go_wp2_with fail
  refine (wholes_P wa).mono ?_
  rintro e ww hw
  obtain ⟨rw_, rfl, vw, hrw, hd1, hd2⟩ := hw
  have lw := kW rw_ ww hrw
  clear kW hrw
  go_wp2_with fail
  refine (sets_P ww).mono ?_
  rintro e ws hs
  obtain ⟨rs, rfl, vs, hrs⟩ := hs
  have ls := kS rs ws hrs
  clear kS hrs
  have v0 := (va.trans vw).trans vs
  clear va vw
  go_wp2_with fail
  clear hd1 hd2 vs
  refine (c1 ws).mono ?_
  clear c1
  rintro e w1 ⟨rfl, u1⟩
  have v1 := v0.trans u1
  clear v0 u1
  go_wp2_with fail
  refine (c2 w1).mono ?_
  clear c2
  rintro e w2 ⟨rfl, u2⟩
  have v2 := v1.trans u2
  clear v1 u2
  go_wp2_with fail
  refine (c3 w2).mono ?_
  clear c3
  rintro e w3 ⟨rfl, u3⟩
  have v3 := v2.trans u3
  clear v2 u3
  go_wp2_with fail
  refine (c5 w3).mono ?_
  clear c5
  rintro e w4 ⟨rfl, rfl⟩
  go_wp2_with fail
  refine (c6 w3).mono ?_
  clear c6
  rintro e w5 ⟨rfl, rfl⟩
  go_wp2_with fail
  refine (c7 w3).mono ?_
  clear c7
  rintro e w6 ⟨rfl, u6⟩
  have v6 := v3.trans u6
  clear v3 u6
  go_wp2_with fail
  refine (d1 w6).mono ?_
  clear d1
  rintro e w7 ⟨rfl, u7⟩
  have v7 := v6.trans u7
  clear v6 u7
  go_wp2_with fail
  go_ret2
  exact ⟨rfl, v7⟩
set_option maxRecDepth 100000 in
set_option maxHeartbeats 4000000 in
theorem does_H_Z2 {s : ByteArray} {fa : Value} {fw : Nat → Value} {fs : Value} (x y : KV) (hx : x.ok) (hy : y.ok) (hly : y.letter.ok)  (op : OpF s true false true fa fw fs) (qAND : ¬s.toList = [65, 78, 68]) (qANDb : (s.toList == [65, 78, 68]) = false) (qOR : ¬s.toList = [79, 82]) (qORb : (s.toList == [79, 82]) = false) (qIN : ¬s.toList = [73, 78]) (qINb : (s.toList == [73, 78]) = false) (qEQ : ¬s.toList = [61]) (qEQb : (s.toList == [61]) = false) (qNE : ¬s.toList = [35]) (qNEb : (s.toList == [35]) = false) (ix : x.isB = true) (iy : y.isB = true) (lx4 : x.letter.is 4 = false) (al : alikeB x.letter y.letter = true) (lx7 : x.letter.is 7 = true) (lx1 : x.letter.is 1 = false) (lx3 : x.letter.is 3 = false) (hn : x.has = false) (hm : y.letter.has = false) (w : World) :
    Calls Try.prog 11 #[.string s, x.val, y.val] w fun e w' => e = .returned (.tuple #[(KV.none_).val, .int .i64 (100)]) ∧ Wr [] w w' := by
  have hres : (KV.none_).val = .nilIface := by first | exact KV.truth_val _ | rfl
  rw [hres]
  clear hres
  have hmi := @mkIface 40 rfl
  have c1 := fun w => is_any x hx w
  rw [ix] at c1
  have c2 := fun w => is_any y hy w
  rw [iy] at c2
  have c3 := fun w => number_any x hx w
  have c4 := fun w => as_bits y w
  rw [hn] at c3
  generalize y.is 4 = yis4 at c4
  have c5 := fun w => letter_any x hx w
  have c6 := fun w => letter_any y hy w
  have c7 := fun w => number_any y.letter hly w
  have c8 := fun w => as_bits x.letter w
  rw [lx4] at c8
  rw [hm] at c7
  have d1 := fun w => alike_any x.letter y.letter w
  rw [al] at d1
  have d2 := fun w => as_null x.letter w
  rw [lx7] at d2
  have d3 := fun w => as_whole x.letter w
  rw [lx1] at d3
  have d4 := fun w => as_truth x.letter w
  rw [lx3] at d4
  generalize x.letter.val = lxv at c5 c8 d1 d2 d3 d4
  generalize y.letter.val = lyv at c6 c7 d1
  generalize x.val = xv at ⊢ c1 c3 c5
  generalize y.val = yv at ⊢ c2 c4 c6
  generalize x.number = n at c3 ⊢
  generalize y.letter.number = m at c7 ⊢
  generalize x.letter.num 4 = xb at c8
  generalize y.num 4 = yb4 at c4
  generalize x.letter.num 1 = xw at d3
  generalize x.letter.tru = xt at d4
  clear hx hy hly ix iy lx4 al lx7 lx1 lx3 hn hm
  have kA := op.lookA
  have kW := op.lookW
  have kS := op.lookS
  clear op
  go_enter Try.func11, Try.ntmps11
  go_wp2_with fail
  refine (asks_P w).mono ?_
  rintro e wa ha
  obtain ⟨ra, rfl, va, hra⟩ := ha
  have la := kA ra wa hra
  clear kA hra
  go_wp2_with fail
  refine (wholes_P wa).mono ?_
  rintro e ww hw
  obtain ⟨rw_, rfl, vw, hrw, hd1, hd2⟩ := hw
  have lw := kW rw_ ww hrw
  clear kW hrw
  go_wp2_with fail
  refine (sets_P ww).mono ?_
  rintro e ws hs
  obtain ⟨rs, rfl, vs, hrs⟩ := hs
  have ls := kS rs ws hrs
  clear kS hrs
  have v0 := (va.trans vw).trans vs
  clear va vw
  go_wp2_with fail
  clear hd1 hd2 vs
  refine (c1 ws).mono ?_
  clear c1
  rintro e w1 ⟨rfl, u1⟩
  have v1 := v0.trans u1
  clear v0 u1
  go_wp2_with fail
  refine (c2 w1).mono ?_
  clear c2
  rintro e w2 ⟨rfl, u2⟩
  have v2 := v1.trans u2
  clear v1 u2
  go_wp2_with fail
  refine (c3 w2).mono ?_
  clear c3
  rintro e w3 ⟨rfl, u3⟩
  have v3 := v2.trans u3
  clear v2 u3
  go_wp2_with fail
  refine (c5 w3).mono ?_
  clear c5
  rintro e w4 ⟨rfl, rfl⟩
  go_wp2_with fail
  refine (c6 w3).mono ?_
  clear c6
  rintro e w5 ⟨rfl, rfl⟩
  go_wp2_with fail
  refine (c7 w3).mono ?_
  clear c7
  rintro e w6 ⟨rfl, u6⟩
  have v6 := v3.trans u6
  clear v3 u6
  go_wp2_with fail
  refine (d1 w6).mono ?_
  clear d1
  rintro e w7 ⟨rfl, u7⟩
  have v7 := v6.trans u7
  clear v6 u7
  go_wp2_with fail
  go_ret2
  exact ⟨rfl, v7.alloc _⟩
set_option maxRecDepth 100000 in
set_option maxHeartbeats 4000000 in
theorem does_C_W {s : ByteArray} {fa : Value} {fs : Value} (x y : KV) (hx : x.ok) (hy : y.ok) (hly : y.letter.ok) (fi : FuncId) (hen : ∀ args w, (callFunc fi args).run Try.prog w = .ok (.enter fi args) w) (j : Nat) (R : KV × Int) (hdoes : ∀ r w, w.cell? ⟨r + 1, 0, none⟩ = some (.func (.func 51) #[] #[]) → w.cell? ⟨r + 2, 0, none⟩ = some (.func (.func 52) #[] #[]) → Calls Try.prog fi #[.int .i64 x.number, .int .i64 y.letter.number, .pointer (some ⟨r + j, 0, none⟩)] w fun e w' => e = .returned (.tuple #[R.1.val, .int .i64 R.2]) ∧ w = w') (op : OpF s false true false fa (fun r => .func (.func fi) #[] #[.pointer (some ⟨r + j, 0, none⟩)]) fs) (qAND : ¬s.toList = [65, 78, 68]) (qANDb : (s.toList == [65, 78, 68]) = false) (qOR : ¬s.toList = [79, 82]) (qORb : (s.toList == [79, 82]) = false) (qIN : ¬s.toList = [73, 78]) (qINb : (s.toList == [73, 78]) = false) (qEQ : ¬s.toList = [61]) (qEQb : (s.toList == [61]) = false) (qNE : ¬s.toList = [35]) (qNEb : (s.toList == [35]) = false) (ix : x.isB = true) (iy : y.isB = true) (lx4 : x.letter.is 4 = false) (al : alikeB x.letter y.letter = true) (lx7 : x.letter.is 7 = false) (lx1 : x.letter.is 1 = true) (lx3 : x.letter.is 3 = false) (hn : x.has = true) (hm : y.letter.has = true) (w : World) :
    Calls Try.prog 11 #[.string s, x.val, y.val] w fun e w' => e = .returned (.tuple #[(R.1).val, .int .i64 (R.2)]) ∧ Wr [] w w' := by
  generalize hres : (R.1).val = rv at hdoes ⊢
  clear hres
  have hmi := @mkIface 40 rfl
  have c1 := fun w => is_any x hx w
  rw [ix] at c1
  have c2 := fun w => is_any y hy w
  rw [iy] at c2
  have c3 := fun w => number_any x hx w
  have c4 := fun w => as_bits y w
  rw [hn] at c3
  generalize y.is 4 = yis4 at c4
  have c5 := fun w => letter_any x hx w
  have c6 := fun w => letter_any y hy w
  have c7 := fun w => number_any y.letter hly w
  have c8 := fun w => as_bits x.letter w
  rw [lx4] at c8
  rw [hm] at c7
  have d1 := fun w => alike_any x.letter y.letter w
  rw [al] at d1
  have d2 := fun w => as_null x.letter w
  rw [lx7] at d2
  have d3 := fun w => as_whole x.letter w
  rw [lx1] at d3
  have d4 := fun w => as_truth x.letter w
  rw [lx3] at d4
  generalize x.letter.val = lxv at c5 c8 d1 d2 d3 d4
  generalize y.letter.val = lyv at c6 c7 d1
  generalize x.val = xv at ⊢ c1 c3 c5
  generalize y.val = yv at ⊢ c2 c4 c6
  generalize x.number = n at c3 hdoes ⊢
  generalize y.letter.number = m at c7 hdoes ⊢
  generalize x.letter.num 4 = xb at c8
  generalize y.num 4 = yb4 at c4
  generalize x.letter.num 1 = xw at d3
  generalize x.letter.tru = xt at d4
  clear hx hy hly ix iy lx4 al lx7 lx1 lx3 hn hm
  have kA := op.lookA
  have kW := op.lookW
  have kS := op.lookS
  clear op
  go_enter Try.func11, Try.ntmps11
  go_wp2_with fail
  refine (asks_P w).mono ?_
  rintro e wa ha
  obtain ⟨ra, rfl, va, hra⟩ := ha
  have la := kA ra wa hra
  clear kA hra
  go_wp2_with fail
  refine (wholes_P wa).mono ?_
  rintro e ww hw
  obtain ⟨rw_, rfl, vw, hrw, hd1, hd2⟩ := hw
  have lw := kW rw_ ww hrw
  clear kW hrw
  go_wp2_with fail
  refine (sets_P ww).mono ?_
  rintro e ws hs
  obtain ⟨rs, rfl, vs, hrs⟩ := hs
  have ls := kS rs ws hrs
  clear kS hrs
  have v0 := (va.trans vw).trans vs
  clear va vw
  go_wp2_with fail
  have hd1 := vs.cellOf hd1 (by simp)
  have hd2 := vs.cellOf hd2 (by simp)
  clear vs
  refine (c1 ws).mono ?_
  clear c1
  rintro e w1 ⟨rfl, u1⟩
  have v1 := v0.trans u1
  have hd1 := u1.cellOf hd1 (by simp)
  have hd2 := u1.cellOf hd2 (by simp)
  clear v0 u1
  go_wp2_with fail
  refine (c2 w1).mono ?_
  clear c2
  rintro e w2 ⟨rfl, u2⟩
  have v2 := v1.trans u2
  have hd1 := u2.cellOf hd1 (by simp)
  have hd2 := u2.cellOf hd2 (by simp)
  clear v1 u2
  go_wp2_with fail
  refine (c3 w2).mono ?_
  clear c3
  rintro e w3 ⟨rfl, u3⟩
  have v3 := v2.trans u3
  have hd1 := u3.cellOf hd1 (by simp)
  have hd2 := u3.cellOf hd2 (by simp)
  clear v2 u3
  go_wp2_with fail
  refine (c5 w3).mono ?_
  clear c5
  rintro e w4 ⟨rfl, rfl⟩
  go_wp2_with fail
  refine (c6 w3).mono ?_
  clear c6
  rintro e w5 ⟨rfl, rfl⟩
  go_wp2_with fail
  refine (c7 w3).mono ?_
  clear c7
  rintro e w6 ⟨rfl, u6⟩
  have v6 := v3.trans u6
  have hd1 := u6.cellOf hd1 (by simp)
  have hd2 := u6.cellOf hd2 (by simp)
  clear v3 u6
  go_wp2_with fail
  refine (d1 w6).mono ?_
  clear d1
  rintro e w7 ⟨rfl, u7⟩
  have v7 := v6.trans u7
  have hd1 := u7.cellOf hd1 (by simp)
  have hd2 := u7.cellOf hd2 (by simp)
  clear v6 u7
  go_wp2_with fail
  have vz := (Wr.refl [] w7).alloc (.cells #[] 57)
  have hd1 := vz.cellOf hd1 (by simp)
  have hd2 := vz.cellOf hd2 (by simp)
  refine (hdoes rw_ _ hd1 hd2).mono ?_
  rintro e w8 ⟨rfl, rfl⟩
  go_wp2_with fail
  go_ret2
  exact ⟨rfl, v7.alloc _⟩
set_option maxRecDepth 100000 in
set_option maxHeartbeats 4000000 in
theorem does_E_O {s : ByteArray} {fa : Value} {fw : Nat → Value} {fs : Value} (x y : KV) (hx : x.ok) (hy : y.ok) (hly : y.letter.ok)  (op : OpF s false false false fa fw fs) (q : s.toList = [79, 82]) (ix : x.isB = true) (iy : y.isB = true) (lx4 : x.letter.is 4 = false) (al : alikeB x.letter y.letter = true) (lx7 : x.letter.is 7 = false) (lx1 : x.letter.is 1 = false) (lx3 : x.letter.is 3 = false) (hn : x.has = true) (hm : y.letter.has = true) (w : World) :
    Calls Try.prog 11 #[.string s, x.val, y.val] w fun e w' => e = .returned (.tuple #[(KV.none_).val, .int .i64 (100)]) ∧ Wr [] w w' := by
  have hres : (KV.none_).val = .nilIface := by first | exact KV.truth_val _ | rfl
  rw [hres]
  clear hres
  have hmi := @mkIface 40 rfl
  have c1 := fun w => is_any x hx w
  rw [ix] at c1
  have c2 := fun w => is_any y hy w
  rw [iy] at c2
  have c3 := fun w => number_any x hx w
  have c4 := fun w => as_bits y w
  rw [hn] at c3
  generalize y.is 4 = yis4 at c4
  have c5 := fun w => letter_any x hx w
  have c6 := fun w => letter_any y hy w
  have c7 := fun w => number_any y.letter hly w
  have c8 := fun w => as_bits x.letter w
  rw [lx4] at c8
  rw [hm] at c7
  have d1 := fun w => alike_any x.letter y.letter w
  rw [al] at d1
  have d2 := fun w => as_null x.letter w
  rw [lx7] at d2
  have d3 := fun w => as_whole x.letter w
  rw [lx1] at d3
  have d4 := fun w => as_truth x.letter w
  rw [lx3] at d4
  generalize x.letter.val = lxv at c5 c8 d1 d2 d3 d4
  generalize y.letter.val = lyv at c6 c7 d1
  generalize x.val = xv at ⊢ c1 c3 c5
  generalize y.val = yv at ⊢ c2 c4 c6
  generalize x.number = n at c3 ⊢
  generalize y.letter.number = m at c7 ⊢
  generalize x.letter.num 4 = xb at c8
  generalize y.num 4 = yb4 at c4
  generalize x.letter.num 1 = xw at d3
  generalize x.letter.tru = xt at d4
  clear hx hy hly ix iy lx4 al lx7 lx1 lx3 hn hm
  have kA := op.lookA
  have kW := op.lookW
  have kS := op.lookS
  clear op
  go_enter Try.func11, Try.ntmps11
  go_wp2_with fail
  refine (asks_P w).mono ?_
  rintro e wa ha
  obtain ⟨ra, rfl, va, hra⟩ := ha
  have la := kA ra wa hra
  clear kA hra
  go_wp2_with fail
  refine (wholes_P wa).mono ?_
  rintro e ww hw
  obtain ⟨rw_, rfl, vw, hrw, hd1, hd2⟩ := hw
  have lw := kW rw_ ww hrw
  clear kW hrw
  go_wp2_with fail
  refine (sets_P ww).mono ?_
  rintro e ws hs
  obtain ⟨rs, rfl, vs, hrs⟩ := hs
  have ls := kS rs ws hrs
  clear kS hrs
  have v0 := (va.trans vw).trans vs
  clear va vw
  go_wp2_with fail
  clear hd1 hd2 vs
  refine (c1 ws).mono ?_
  clear c1
  rintro e w1 ⟨rfl, u1⟩
  have v1 := v0.trans u1
  clear v0 u1
  go_wp2_with fail
  refine (c2 w1).mono ?_
  clear c2
  rintro e w2 ⟨rfl, u2⟩
  have v2 := v1.trans u2
  clear v1 u2
  go_wp2_with fail
  refine (c3 w2).mono ?_
  clear c3
  rintro e w3 ⟨rfl, u3⟩
  have v3 := v2.trans u3
  clear v2 u3
  go_wp2_with fail
  refine (c5 w3).mono ?_
  clear c5
  rintro e w4 ⟨rfl, rfl⟩
  go_wp2_with fail
  refine (c6 w3).mono ?_
  clear c6
  rintro e w5 ⟨rfl, rfl⟩
  go_wp2_with fail
  refine (c7 w3).mono ?_
  clear c7
  rintro e w6 ⟨rfl, u6⟩
  have v6 := v3.trans u6
  clear v3 u6
  go_wp2_with fail
  refine (d1 w6).mono ?_
  clear d1
  rintro e w7 ⟨rfl, u7⟩
  have v7 := v6.trans u7
  clear v6 u7
  go_wp2_with fail
  go_ret2
  exact ⟨rfl, v7.alloc _⟩
set_option maxRecDepth 100000 in
set_option maxHeartbeats 4000000 in
theorem does_H_T {s : ByteArray} {fw : Nat → Value} {fs : Value} (x y : KV) (hx : x.ok) (hy : y.ok) (hly : y.letter.ok) (fi : FuncId) (hen : ∀ args w, (callFunc fi args).run Try.prog w = .ok (.enter fi args) w) (qa : Bool) (hask : ∀ w, Calls Try.prog fi #[.int .i64 x.number, .int .i64 y.letter.number] w fun e w' => e = .returned (.bool qa) ∧ w = w') (op : OpF s true false true (.func (.func fi) #[] #[]) fw fs) (qAND : ¬s.toList = [65, 78, 68]) (qANDb : (s.toList == [65, 78, 68]) = false) (qOR : ¬s.toList = [79, 82]) (qORb : (s.toList == [79, 82]) = false) (qIN : ¬s.toList = [73, 78]) (qINb : (s.toList == [73, 78]) = false) (qEQ : ¬s.toList = [61]) (qEQb : (s.toList == [61]) = false) (qNE : ¬s.toList = [35]) (qNEb : (s.toList == [35]) = false) (ix : x.isB = true) (iy : y.isB = true) (lx4 : x.letter.is 4 = false) (al : alikeB x.letter y.letter = true) (lx7 : x.letter.is 7 = false) (lx1 : x.letter.is 1 = false) (lx3 : x.letter.is 3 = true) (hn : x.has = true) (hm : y.letter.has = true) (w : World) :
    Calls Try.prog 11 #[.string s, x.val, y.val] w fun e w' => e = .returned (.tuple #[(KV.truth qa).val, .int .i64 (0)]) ∧ Wr [] w w' := by
  have hres : (KV.truth qa).val = .iface 40 (.bool qa) := by first | exact KV.truth_val _ | rfl
  rw [hres]
  clear hres
  have hmi := @mkIface 40 rfl
  have c1 := fun w => is_any x hx w
  rw [ix] at c1
  have c2 := fun w => is_any y hy w
  rw [iy] at c2
  have c3 := fun w => number_any x hx w
  have c4 := fun w => as_bits y w
  rw [hn] at c3
  generalize y.is 4 = yis4 at c4
  have c5 := fun w => letter_any x hx w
  have c6 := fun w => letter_any y hy w
  have c7 := fun w => number_any y.letter hly w
  have c8 := fun w => as_bits x.letter w
  rw [lx4] at c8
  rw [hm] at c7
  have d1 := fun w => alike_any x.letter y.letter w
  rw [al] at d1
  have d2 := fun w => as_null x.letter w
  rw [lx7] at d2
  have d3 := fun w => as_whole x.letter w
  rw [lx1] at d3
  have d4 := fun w => as_truth x.letter w
  rw [lx3] at d4
  generalize x.letter.val = lxv at c5 c8 d1 d2 d3 d4
  generalize y.letter.val = lyv at c6 c7 d1
  generalize x.val = xv at ⊢ c1 c3 c5
  generalize y.val = yv at ⊢ c2 c4 c6
  generalize x.number = n at c3 hask ⊢
  generalize y.letter.number = m at c7 hask ⊢
  generalize x.letter.num 4 = xb at c8
  generalize y.num 4 = yb4 at c4
  generalize x.letter.num 1 = xw at d3
  generalize x.letter.tru = xt at d4
  clear hx hy hly ix iy lx4 al lx7 lx1 lx3 hn hm
  have kA := op.lookA
  have kW := op.lookW
  have kS := op.lookS
  clear op
  go_enter Try.func11, Try.ntmps11
  go_wp2_with fail
  refine (asks_P w).mono ?_
  rintro e wa ha
  obtain ⟨ra, rfl, va, hra⟩ := ha
  have la := kA ra wa hra
  clear kA hra
  go_wp2_with fail
  refine (wholes_P wa).mono ?_
  rintro e ww hw
  obtain ⟨rw_, rfl, vw, hrw, hd1, hd2⟩ := hw
  have lw := kW rw_ ww hrw
  clear kW hrw
  go_wp2_with fail
  refine (sets_P ww).mono ?_
  rintro e ws hs
  obtain ⟨rs, rfl, vs, hrs⟩ := hs
  have ls := kS rs ws hrs
  clear kS hrs
  have v0 := (va.trans vw).trans vs
  clear va vw
  go_wp2_with fail
  clear hd1 hd2 vs
  refine (c1 ws).mono ?_
  clear c1
  rintro e w1 ⟨rfl, u1⟩
  have v1 := v0.trans u1
  clear v0 u1
  go_wp2_with fail
  refine (c2 w1).mono ?_
  clear c2
  rintro e w2 ⟨rfl, u2⟩
  have v2 := v1.trans u2
  clear v1 u2
  go_wp2_with fail
  refine (c3 w2).mono ?_
  clear c3
  rintro e w3 ⟨rfl, u3⟩
  have v3 := v2.trans u3
  clear v2 u3
  go_wp2_with fail
  refine (c5 w3).mono ?_
  clear c5
  rintro e w4 ⟨rfl, rfl⟩
  go_wp2_with fail
  refine (c6 w3).mono ?_
  clear c6
  rintro e w5 ⟨rfl, rfl⟩
  go_wp2_with fail
  refine (c7 w3).mono ?_
  clear c7
  rintro e w6 ⟨rfl, u6⟩
  have v6 := v3.trans u6
  clear v3 u6
  go_wp2_with fail
  refine (d1 w6).mono ?_
  clear d1
  rintro e w7 ⟨rfl, u7⟩
  have v7 := v6.trans u7
  clear v6 u7
  go_wp2_with fail
  refine (hask _).mono ?_
  rintro e w8 ⟨rfl, rfl⟩
  go_wp2_with fail
  go_ret2
  exact ⟨rfl, v7.alloc _⟩
end Go.Proofs.Ytpfidbpbomamjaa
