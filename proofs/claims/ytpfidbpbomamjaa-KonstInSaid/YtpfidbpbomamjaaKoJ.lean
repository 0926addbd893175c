/- KonstSets, walked. No conditions. -/
import Derived.Test.YtpfidbpbomamjaaKoB
import Derived.OpenShut
namespace Go.Proofs.Ytpfidbpbomamjaa
open Go.RowKit
set_option linter.unusedVariables false
set_option linter.unusedSimpArgs false

theorem set_less (x y : BitVec 16) : (x ||| y) &&& ~~~y = x &&& ~~~y := by
  apply BitVec.eq_of_getLsbD_eq
  intro i hi
  simp [hi]
  cases x[i] <;> cases y[i] <;> rfl
theorem set_and (x y : BitVec 16) : x &&& (x ||| y) = x := by
  apply BitVec.eq_of_getLsbD_eq
  intro i hi
  simp [hi]
  exact fun h => .inl h
theorem set_all (x y z : BitVec 16) : (x ||| y) &&& z = (x &&& z) ||| (y &&& z) := by
  apply BitVec.eq_of_getLsbD_eq
  intro i hi
  simp [hi]
  cases x[i] <;> cases y[i] <;> cases z[i] <;> rfl
theorem set_part (x y : BitVec 16) : (x &&& ~~~y) &&& ~~~x = 0#16 := by
  apply BitVec.eq_of_getLsbD_eq
  intro i hi
  simp [hi]
  cases x[i] <;> cases y[i] <;> decide

set_option maxRecDepth 100000 in
set_option maxHeartbeats 4000000 in
theorem sets_walk (w : World) (a : Int) (wa : (Lit.int .u16 a).wf = true) (b : Int) (wb : (Lit.int .u16 b).wf = true) (c : Int) (wc : (Lit.int .u16 c).wf = true) :
    Calls Try.prog 6 #[.int .u16 a, .int .u16 b, .int .u16 c] w fun e w' => e = .returned (.bool true) ∧ Wr [] w w' := by
  have ha := Go.bounds_u16 wa
  have hb := Go.bounds_u16 wb
  have hc := Go.bounds_u16 wc
  clear wa wb wc
  have m1 := @mkIface 39 rfl
  have m2 := @mkIface 40 rfl
  have hw := fun w => works_any w
  obtain ⟨vor, e1⟩ : ∃ v, bits .or .u16 a b = v := ⟨_, rfl⟩
  have r1 : 0 ≤ vor ∧ vor ≤ 65535 := by rw [← e1]; exact bits_u16 _ _ _
  have d1 := dB0 a b ha hb vor e1
  obtain ⟨vonly, e3⟩ : ∃ v, bits .andNot .u16 a b = v := ⟨_, rfl⟩
  have r3 : 0 ≤ vonly ∧ vonly ≤ 65535 := by rw [← e3]; exact bits_u16 _ _ _
  have e2 : bits .andNot .u16 vor b = vonly := by rw [← e1, ← e3, bits_andNot_bv, bits_andNot_bv, bits_or_bv, bv_of, set_less]
  have d2 := dB1 vor b r1 hb vonly e2
  have d3 := dB1 a b ha hb vonly e3
  have e4 : bits .and .u16 a vor = a := by rw [← e1, bits_and_bv, bits_or_bv, bv_of, set_and, bv_nat ha]
  have d4 := dB2 a vor ha r1 a e4
  obtain ⟨vall, e5⟩ : ∃ v, bits .and .u16 vor c = v := ⟨_, rfl⟩
  have r5 : 0 ≤ vall ∧ vall ≤ 65535 := by rw [← e5]; exact bits_u16 _ _ _
  have d5 := dB2 vor c r1 hc vall e5
  obtain ⟨vp, e6⟩ : ∃ v, bits .and .u16 a c = v := ⟨_, rfl⟩
  have r6 : 0 ≤ vp ∧ vp ≤ 65535 := by rw [← e6]; exact bits_u16 _ _ _
  have d6 := dB2 a c ha hc vp e6
  obtain ⟨vq, e7⟩ : ∃ v, bits .and .u16 b c = v := ⟨_, rfl⟩
  have r7 : 0 ≤ vq ∧ vq ≤ 65535 := by rw [← e7]; exact bits_u16 _ _ _
  have d7 := dB2 b c hb hc vq e7
  have e8 : bits .or .u16 vp vq = vall := by rw [← e6, ← e7, ← e5, ← e1, bits_or_bv, bits_and_bv, bits_and_bv, bits_and_bv, bits_or_bv, bv_of, bv_of, bv_of, set_all]
  have d8 := dB0 vp vq r6 r7 vall e8
  have e9 : bits .xor .u16 a a = 0 := by rw [bits_xor_bv]; simp
  have d9 := dB3 a a ha ha 0 e9
  have e10 : (bits .andNot .u16 vonly a == 0) = true := by rw [← e3, bits_andNot_bv, bits_andNot_bv, bv_of, set_part]; rfl
  have d10 := dB11 vonly a r3 ha true e10
  have d11 := dB13 a vonly ha r3 true e10
  have s1 := sameB vonly vonly r3 r3 true (by simp)
  have s2 := sameB a a ha ha true (by simp)
  have s3 := sameB vall vall r5 r5 true (by simp)
  have s4 := sameB 0 0 (by decide) (by decide) true (by simp)
  have s5 := sameT true true true rfl
  clear ha hb hc r1 r3 r5 r6 r7 e1 e2 e3 e4 e5 e6 e7 e8 e9 e10
  go_enter Try.func6, Try.ntmps6
  go_wp2_with fail
  refine (d1 _).mono ?_
  clear d1
  rintro e w1 ⟨rfl, k1⟩
  go_wp2_with fail
  refine (d2 _).mono ?_
  clear d2
  rintro e w2 ⟨rfl, k2⟩
  replace k1 := k1.trans k2
  clear k2
  go_wp2_with fail
  refine (d3 _).mono ?_
  clear d3
  rintro e w3 ⟨rfl, k2⟩
  replace k1 := k1.trans k2
  clear k2
  go_wp2_with fail
  refine (d4 _).mono ?_
  clear d4
  rintro e w4 ⟨rfl, k2⟩
  replace k1 := k1.trans k2
  clear k2
  go_wp2_with fail
  refine (d5 _).mono ?_
  clear d5
  rintro e w5 ⟨rfl, k2⟩
  replace k1 := k1.trans k2
  clear k2
  go_wp2_with fail
  refine (d6 _).mono ?_
  clear d6
  rintro e w6 ⟨rfl, k2⟩
  replace k1 := k1.trans k2
  clear k2
  go_wp2_with fail
  refine (d7 _).mono ?_
  clear d7
  rintro e w7 ⟨rfl, k2⟩
  replace k1 := k1.trans k2
  clear k2
  go_wp2_with fail
  refine (d8 _).mono ?_
  clear d8
  rintro e w8 ⟨rfl, k2⟩
  replace k1 := k1.trans k2
  clear k2
  go_wp2_with fail
  refine (d9 _).mono ?_
  clear d9
  rintro e w9 ⟨rfl, k2⟩
  replace k1 := k1.trans k2
  clear k2
  go_wp2_with fail
  refine (d10 _).mono ?_
  clear d10
  rintro e w10 ⟨rfl, k2⟩
  replace k1 := k1.trans k2
  clear k2
  go_wp2_with fail
  refine (d11 _).mono ?_
  clear d11
  rintro e w11 ⟨rfl, k2⟩
  replace k1 := k1.trans k2
  clear k2
  go_wp2_with fail
  refine (s1 _).mono ?_
  rintro e w12 ⟨rfl, k2⟩
  replace k1 := k1.trans k2
  clear k2
  go_wp2_with fail
  refine (s2 _).mono ?_
  rintro e w13 ⟨rfl, k2⟩
  replace k1 := k1.trans k2
  clear k2
  go_wp2_with fail
  refine (s3 _).mono ?_
  rintro e w14 ⟨rfl, k2⟩
  replace k1 := k1.trans k2
  clear k2
  go_wp2_with fail
  refine (s4 _).mono ?_
  rintro e w15 ⟨rfl, k2⟩
  replace k1 := k1.trans k2
  clear k2
  go_wp2_with fail
  refine (s5 _).mono ?_
  rintro e w16 ⟨rfl, k2⟩
  replace k1 := k1.trans k2
  clear k2
  go_wp2_with fail
  refine (s5 _).mono ?_
  rintro e w17 ⟨rfl, k2⟩
  replace k1 := k1.trans k2
  clear k2
  go_wp2_with fail
  refine (hw _).mono ?_
  rintro e w18 ⟨rfl, k2⟩
  replace k1 := k1.trans k2
  clear k2
  go_wp2_with fail
  go_ret
  exact ⟨rfl, k1⟩
end Go.Proofs.Ytpfidbpbomamjaa
