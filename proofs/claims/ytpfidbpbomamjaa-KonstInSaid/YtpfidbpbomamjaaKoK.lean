/- KonstBack, walked. No conditions. -/
import Derived.Test.YtpfidbpbomamjaaKoJ
namespace Go.Proofs.Ytpfidbpbomamjaa
open Go.RowKit
set_option linter.unusedVariables false
set_option linter.unusedSimpArgs false

theorem set_back (x y : BitVec 16) : (x ||| y) &&& ~~~(x &&& y) = x ^^^ y := by
  apply BitVec.eq_of_getLsbD_eq
  intro i hi
  simp [hi]
  cases x[i] <;> cases y[i] <;> rfl
theorem set_sub (x y : BitVec 16) : (x &&& y) &&& ~~~x = 0#16 := by
  apply BitVec.eq_of_getLsbD_eq
  intro i hi
  simp [hi]
  cases x[i] <;> cases y[i] <;> decide

theorem isB_whole (n : Int) : (KV.whole n).isB = inB n := by simp [KV.isB, KV.is, KV.whole]
theorem does_whole (k : Nat) (h : isReck k) (n m : Int) (hn : inB n = true) (hm : inB m = true) : doesK k (KV.whole n) (KV.whole m) = reckK k n m := by
  have hk : ¬ 15 ≤ k := by unfold isReck at h; omega
  have h14 : ¬ k = 14 := by unfold isReck at h; omega
  have l : ∀ a, (KV.whole a).letter = KV.whole a := fun a => by simp [KV.letter, KV.whole]
  have al : alikeB (KV.whole n) (KV.whole m) = true := by simp [alikeB, KV.whole, KV.is]
  have h1 : (KV.whole n).number = n := by simp [KV.number, KV.whole, hn]
  have h2 : (KV.whole m).number = m := by simp [KV.number, KV.whole, hm]
  simp only [doesK, hk, h14, if_false, l, isB_whole, hn, hm, h1]
  simp [goesK, al, h, h2]
  simp [KV.whole]
theorem does_whole_not (k : Nat) (h : k < 14) (n m : Int) (hn : inB n = false ∨ inB m = false) : doesK k (KV.whole n) (KV.whole m) = (KV.none_, 100) := by
  have hk : ¬ 15 ≤ k := by omega
  simp only [doesK, hk, if_false, isB_whole]
  rcases hn with hn | hn
  · simp [hn]
  · simp [hn]

theorem wrap64_id {n : Int} (h : -9223372036854775808 ≤ n ∧ n ≤ 9223372036854775807) : wrap64 n = n := by
  unfold wrap64
  omega
theorem tdiv_bound (x y : Int) (h : -65535 ≤ x ∧ x ≤ 65535) : -65535 ≤ x.tdiv y ∧ x.tdiv y ≤ 65535 := by
  have h1 := Int.natAbs_tdiv_le_natAbs x y
  omega
theorem tmod_bound (x y : Int) : (0 ≤ x → 0 ≤ x.tmod y ∧ x.tmod y ≤ x) ∧ (x ≤ 0 → x ≤ x.tmod y ∧ x.tmod y ≤ 0) := by
  have h := Int.natAbs_tmod x y
  have h2 := Nat.mod_le x.natAbs y.natAbs
  constructor
  · intro hx
    have := Int.tmod_nonneg y hx
    omega
  · intro hx
    have h3 : 0 ≤ (-x).tmod y := Int.tmod_nonneg y (by omega)
    rw [Int.neg_tmod] at h3
    omega
set_option maxRecDepth 100000 in
set_option maxHeartbeats 8000000 in
theorem back_ok_ok (w : World) (a b s t : Int) (hs : 0 ≤ s ∧ s ≤ 65535) (ht : 0 ≤ t ∧ t ≤ 65535) (x y : Int) (hx : a.tmod 65536 = x) (hy : b.tmod 65536 = y) (bx : -65535 ≤ x ∧ x ≤ 65535) (by_ : -65535 ≤ y ∧ y ≤ 65535) (nx : inB x = true) (ny : inB y = true) (ns : inB (x + y) = true) (hy0 : ¬ y = 0) (hy1 : (y != 0) = true) (nq : inB (x.tdiv y) = true) :
    Calls Try.prog 4 #[.int .i32 a, .int .i32 b, .int .u16 s, .int .u16 t] w fun e w' => e = .returned (.bool true) ∧ Wr [] w w' := by
  have m1 := @mkIface 39 rfl
  have m2 := @mkIface 40 rfl
  have m3 := @mkIface 34 rfl
  have hw := fun w => works_any w
  have ox : (KV.whole x).ok := whole_ok (by omega)
  have oy : (KV.whole y).ok := whole_ok (by omega)
  have ix := fun w => is_any (KV.whole x) ox w
  have iy := fun w => is_any (KV.whole y) oy w
  have d1 := fun w => does_op0 (KV.whole x) (KV.whole y) ox oy w
  rw [isB_whole] at ix iy
  rw [nx] at ix
  rw [ny] at iy
  rw [does_whole 0 (by decide) x y nx ny] at d1
  have bx2 := inB_true nx
  have by2 := inB_true ny
  have w1 : wrap64 (x + y) = x + y := wrap64_id (by omega)
  rw [show reckK 0 x y = (KV.whole (x + y), 0) by simp [reckK, wholeK, w1, ns]] at d1
  have bs := inB_true ns
  have os : (KV.whole (x + y)).ok := whole_ok (by omega)
  have d2 := fun w => does_op1 (KV.whole (x + y)) (KV.whole y) os oy w
  have w2 : wrap64 x = x := wrap64_id (by omega)
  rw [does_whole 1 (by decide) (x + y) y ns ny, show reckK 1 (x + y) y = (KV.whole x, 0) by simp [reckK, wholeK, w2, nx]] at d2
  have sx := sameW x x bx2 bx2 true (by simp)
  simp only [KV.whole_val] at d2
  generalize x + y = z at d1 d2
  have d3 := fun w => does_op4 (KV.whole x) (KV.whole y) ox oy w
  have d4 := fun w => does_op5 (KV.whole x) (KV.whole y) ox oy w
  rw [does_whole 4 (by decide) x y nx ny] at d3
  rw [does_whole 5 (by decide) x y nx ny] at d4
  have bq := tdiv_bound x y bx
  have br := tmod_bound x y
  have w3 : wrap64 (x.tdiv y) = x.tdiv y := wrap64_id (by omega)
  have nm : inB (x.tmod y) = true := inB_yes (by omega) (by omega)
  have hqr : x.tdiv y * y + x.tmod y = x := by rw [Int.mul_comm]; exact Int.mul_tdiv_add_tmod x y
  rw [show reckK 5 x y = (KV.whole (x.tmod y), 0) by simp [reckK, divK, wholeK, hy0, nm]] at d4
  have om : (KV.whole (x.tmod y)).ok := whole_ok (by omega)
  have n2 := fun w => number_any (KV.whole (x.tmod y)) om w
  rw [show (KV.whole (x.tmod y)).number = x.tmod y by simp [KV.number, KV.whole, nm], show (KV.whole (x.tmod y)).has = true by simp [KV.has, KV.is, KV.whole, nm]] at n2
  rw [show reckK 4 x y = (KV.whole (x.tdiv y), 0) by simp [reckK, divK, wholeK, hy0, w3, nq]] at d3
  have oq : (KV.whole (x.tdiv y)).ok := whole_ok (by omega)
  have n1 := fun w => number_any (KV.whole (x.tdiv y)) oq w
  rw [show (KV.whole (x.tdiv y)).number = x.tdiv y by simp [KV.number, KV.whole, nq], show (KV.whole (x.tdiv y)).has = true by simp [KV.has, KV.is, KV.whole, nq]] at n1
  simp only [KV.whole_val] at d3 d4 n1 n2
  generalize x.tdiv y = q at d3 n1 hqr
  generalize x.tmod y = r at d4 n2 hqr br
  have wq : wrap64 (q * y) = q * y := by rw [show q * y = x - r by omega]; exact wrap64_id (by omega)
  have wqr : wrap64 (q * y + r) = x := by rw [hqr]; exact wrap64_id (by omega)
  have fqr : (x != x) = false := by simp
  simp only [KV.whole_val, KV.none_val] at ix iy d1
  obtain ⟨vor, e1⟩ : ∃ v, bits .or .u16 s t = v := ⟨_, rfl⟩
  have r1 : 0 ≤ vor ∧ vor ≤ 65535 := by rw [← e1]; exact bits_u16 _ _ _
  have s1 := dB0 s t hs ht vor e1
  obtain ⟨vand, e2⟩ : ∃ v, bits .and .u16 s t = v := ⟨_, rfl⟩
  have r2 : 0 ≤ vand ∧ vand ≤ 65535 := by rw [← e2]; exact bits_u16 _ _ _
  have s2 := dB2 s t hs ht vand e2
  obtain ⟨vone, e3⟩ : ∃ v, bits .xor .u16 s t = v := ⟨_, rfl⟩
  have r3 : 0 ≤ vone ∧ vone ≤ 65535 := by rw [← e3]; exact bits_u16 _ _ _
  have s3 := dB3 s t hs ht vone e3
  have e4 : bits .andNot .u16 vor vand = vone := by rw [← e1, ← e2, ← e3, bits_andNot_bv, bits_or_bv, bits_and_bv, bits_xor_bv, bv_of, bv_of, set_back]
  have s4 := dB1 vor vand r1 r2 vone e4
  have e5 : (bits .andNot .u16 vand s == 0) = true := by rw [← e2, bits_andNot_bv, bits_and_bv, bv_of, set_sub]; rfl
  have s5 := dB11 vand s r2 hs true e5
  have s6 := sameB vone vone r3 r3 true (by simp)
  have s7 := sameT true true true rfl
  clear e1 e2 e3 e4 e5 r1 r2 r3 hs ht ox oy m1 m2 m3
  have m1 := @mkIface 39 rfl
  have m2 := @mkIface 40 rfl
  have m3 := @mkIface 34 rfl
  have wx : IntKind.i64.wrap x = x := by rw [IntKind.wrap_i64]; omega
  have wy : IntKind.i64.wrap y = y := by rw [IntKind.wrap_i64]; omega
  go_enter Try.func4, Try.ntmps4
  go_wp2_with fail
  refine (d1 _).mono ?_
  rintro e v0 ⟨rfl, k2⟩
  have k1 := k2
  clear k2
  go_wp2_with fail
  refine (d2 _).mono ?_
  rintro e v1 ⟨rfl, k2⟩
  replace k1 := k1.trans k2
  clear k2
  go_wp2_with fail
  refine (sx _).mono ?_
  rintro e v2 ⟨rfl, k2⟩
  replace k1 := k1.trans k2
  clear k2
  go_wp2_with fail
  refine (ix _).mono ?_
  rintro e v3 ⟨rfl, k2⟩
  replace k1 := k1.trans k2
  clear k2
  go_wp2_with fail
  refine (iy _).mono ?_
  rintro e v4 ⟨rfl, k2⟩
  replace k1 := k1.trans k2
  clear k2
  go_wp2_with fail
  refine (d3 _).mono ?_
  rintro e v5 ⟨rfl, k2⟩
  replace k1 := k1.trans k2
  clear k2
  go_wp2_with fail
  refine (d4 _).mono ?_
  rintro e v6 ⟨rfl, k2⟩
  replace k1 := k1.trans k2
  clear k2
  go_wp2_with fail
  refine (n1 _).mono ?_
  rintro e v7 ⟨rfl, k2⟩
  replace k1 := k1.trans k2
  clear k2
  go_wp2_with fail
  refine (n2 _).mono ?_
  rintro e v8 ⟨rfl, k2⟩
  replace k1 := k1.trans k2
  clear k2
  go_wp2_with fail
  refine (s1 _).mono ?_
  rintro e v9 ⟨rfl, k2⟩
  replace k1 := k1.trans k2
  clear k2
  go_wp2_with fail
  refine (s2 _).mono ?_
  rintro e v10 ⟨rfl, k2⟩
  replace k1 := k1.trans k2
  clear k2
  go_wp2_with fail
  refine (s3 _).mono ?_
  rintro e v11 ⟨rfl, k2⟩
  replace k1 := k1.trans k2
  clear k2
  go_wp2_with fail
  refine (s4 _).mono ?_
  rintro e v12 ⟨rfl, k2⟩
  replace k1 := k1.trans k2
  clear k2
  go_wp2_with fail
  refine (s5 _).mono ?_
  rintro e v13 ⟨rfl, k2⟩
  replace k1 := k1.trans k2
  clear k2
  go_wp2_with fail
  refine (s6 _).mono ?_
  rintro e v14 ⟨rfl, k2⟩
  replace k1 := k1.trans k2
  clear k2
  go_wp2_with fail
  refine (s7 _).mono ?_
  rintro e v15 ⟨rfl, k2⟩
  replace k1 := k1.trans k2
  clear k2
  go_wp2_with fail
  refine (hw _).mono ?_
  rintro e v16 ⟨rfl, k2⟩
  replace k1 := k1.trans k2
  clear k2
  go_wp2_with fail
  go_ret
  exact ⟨rfl, k1⟩
set_option maxRecDepth 100000 in
set_option maxHeartbeats 8000000 in
theorem back_ok_over (w : World) (a b s t : Int) (hs : 0 ≤ s ∧ s ≤ 65535) (ht : 0 ≤ t ∧ t ≤ 65535) (x y : Int) (hx : a.tmod 65536 = x) (hy : b.tmod 65536 = y) (bx : -65535 ≤ x ∧ x ≤ 65535) (by_ : -65535 ≤ y ∧ y ≤ 65535) (nx : inB x = true) (ny : inB y = true) (ns : inB (x + y) = true) (hy0 : ¬ y = 0) (hy1 : (y != 0) = true) (nq : inB (x.tdiv y) = false) :
    Calls Try.prog 4 #[.int .i32 a, .int .i32 b, .int .u16 s, .int .u16 t] w fun e w' => e = .returned (.bool true) ∧ Wr [] w w' := by
  have m1 := @mkIface 39 rfl
  have m2 := @mkIface 40 rfl
  have m3 := @mkIface 34 rfl
  have hw := fun w => works_any w
  have ox : (KV.whole x).ok := whole_ok (by omega)
  have oy : (KV.whole y).ok := whole_ok (by omega)
  have ix := fun w => is_any (KV.whole x) ox w
  have iy := fun w => is_any (KV.whole y) oy w
  have d1 := fun w => does_op0 (KV.whole x) (KV.whole y) ox oy w
  rw [isB_whole] at ix iy
  rw [nx] at ix
  rw [ny] at iy
  rw [does_whole 0 (by decide) x y nx ny] at d1
  have bx2 := inB_true nx
  have by2 := inB_true ny
  have w1 : wrap64 (x + y) = x + y := wrap64_id (by omega)
  rw [show reckK 0 x y = (KV.whole (x + y), 0) by simp [reckK, wholeK, w1, ns]] at d1
  have bs := inB_true ns
  have os : (KV.whole (x + y)).ok := whole_ok (by omega)
  have d2 := fun w => does_op1 (KV.whole (x + y)) (KV.whole y) os oy w
  have w2 : wrap64 x = x := wrap64_id (by omega)
  rw [does_whole 1 (by decide) (x + y) y ns ny, show reckK 1 (x + y) y = (KV.whole x, 0) by simp [reckK, wholeK, w2, nx]] at d2
  have sx := sameW x x bx2 bx2 true (by simp)
  simp only [KV.whole_val] at d2
  generalize x + y = z at d1 d2
  have d3 := fun w => does_op4 (KV.whole x) (KV.whole y) ox oy w
  have d4 := fun w => does_op5 (KV.whole x) (KV.whole y) ox oy w
  rw [does_whole 4 (by decide) x y nx ny] at d3
  rw [does_whole 5 (by decide) x y nx ny] at d4
  have bq := tdiv_bound x y bx
  have br := tmod_bound x y
  have w3 : wrap64 (x.tdiv y) = x.tdiv y := wrap64_id (by omega)
  have nm : inB (x.tmod y) = true := inB_yes (by omega) (by omega)
  have hqr : x.tdiv y * y + x.tmod y = x := by rw [Int.mul_comm]; exact Int.mul_tdiv_add_tmod x y
  rw [show reckK 5 x y = (KV.whole (x.tmod y), 0) by simp [reckK, divK, wholeK, hy0, nm]] at d4
  have om : (KV.whole (x.tmod y)).ok := whole_ok (by omega)
  have n2 := fun w => number_any (KV.whole (x.tmod y)) om w
  rw [show (KV.whole (x.tmod y)).number = x.tmod y by simp [KV.number, KV.whole, nm], show (KV.whole (x.tmod y)).has = true by simp [KV.has, KV.is, KV.whole, nm]] at n2
  rw [show reckK 4 x y = (KV.none_, 101) by simp [reckK, divK, wholeK, hy0, w3, nq]] at d3
  have n1 := fun w => number_any KV.none_ none_ok w
  rw [show KV.none_.number = 0 from rfl, show KV.none_.has = false from rfl] at n1
  simp only [KV.whole_val, KV.none_val] at d3 d4 n1 n2
  generalize x.tdiv y = q at hqr
  generalize x.tmod y = r at d4 n2 hqr
  simp only [KV.whole_val, KV.none_val] at ix iy d1
  obtain ⟨vor, e1⟩ : ∃ v, bits .or .u16 s t = v := ⟨_, rfl⟩
  have r1 : 0 ≤ vor ∧ vor ≤ 65535 := by rw [← e1]; exact bits_u16 _ _ _
  have s1 := dB0 s t hs ht vor e1
  obtain ⟨vand, e2⟩ : ∃ v, bits .and .u16 s t = v := ⟨_, rfl⟩
  have r2 : 0 ≤ vand ∧ vand ≤ 65535 := by rw [← e2]; exact bits_u16 _ _ _
  have s2 := dB2 s t hs ht vand e2
  obtain ⟨vone, e3⟩ : ∃ v, bits .xor .u16 s t = v := ⟨_, rfl⟩
  have r3 : 0 ≤ vone ∧ vone ≤ 65535 := by rw [← e3]; exact bits_u16 _ _ _
  have s3 := dB3 s t hs ht vone e3
  have e4 : bits .andNot .u16 vor vand = vone := by rw [← e1, ← e2, ← e3, bits_andNot_bv, bits_or_bv, bits_and_bv, bits_xor_bv, bv_of, bv_of, set_back]
  have s4 := dB1 vor vand r1 r2 vone e4
  have e5 : (bits .andNot .u16 vand s == 0) = true := by rw [← e2, bits_andNot_bv, bits_and_bv, bv_of, set_sub]; rfl
  have s5 := dB11 vand s r2 hs true e5
  have s6 := sameB vone vone r3 r3 true (by simp)
  have s7 := sameT true true true rfl
  clear e1 e2 e3 e4 e5 r1 r2 r3 hs ht ox oy m1 m2 m3
  have m1 := @mkIface 39 rfl
  have m2 := @mkIface 40 rfl
  have m3 := @mkIface 34 rfl
  have wx : IntKind.i64.wrap x = x := by rw [IntKind.wrap_i64]; omega
  have wy : IntKind.i64.wrap y = y := by rw [IntKind.wrap_i64]; omega
  go_enter Try.func4, Try.ntmps4
  go_wp2_with fail
  refine (d1 _).mono ?_
  rintro e v0 ⟨rfl, k2⟩
  have k1 := k2
  clear k2
  go_wp2_with fail
  refine (d2 _).mono ?_
  rintro e v1 ⟨rfl, k2⟩
  replace k1 := k1.trans k2
  clear k2
  go_wp2_with fail
  refine (sx _).mono ?_
  rintro e v2 ⟨rfl, k2⟩
  replace k1 := k1.trans k2
  clear k2
  go_wp2_with fail
  refine (ix _).mono ?_
  rintro e v3 ⟨rfl, k2⟩
  replace k1 := k1.trans k2
  clear k2
  go_wp2_with fail
  refine (iy _).mono ?_
  rintro e v4 ⟨rfl, k2⟩
  replace k1 := k1.trans k2
  clear k2
  go_wp2_with fail
  refine (d3 _).mono ?_
  rintro e v5 ⟨rfl, k2⟩
  replace k1 := k1.trans k2
  clear k2
  go_wp2_with fail
  refine (d4 _).mono ?_
  rintro e v6 ⟨rfl, k2⟩
  replace k1 := k1.trans k2
  clear k2
  go_wp2_with fail
  refine (n1 _).mono ?_
  rintro e v7 ⟨rfl, k2⟩
  replace k1 := k1.trans k2
  clear k2
  go_wp2_with fail
  refine (n2 _).mono ?_
  rintro e v8 ⟨rfl, k2⟩
  replace k1 := k1.trans k2
  clear k2
  go_wp2_with fail
  refine (s1 _).mono ?_
  rintro e v9 ⟨rfl, k2⟩
  replace k1 := k1.trans k2
  clear k2
  go_wp2_with fail
  refine (s2 _).mono ?_
  rintro e v10 ⟨rfl, k2⟩
  replace k1 := k1.trans k2
  clear k2
  go_wp2_with fail
  refine (s3 _).mono ?_
  rintro e v11 ⟨rfl, k2⟩
  replace k1 := k1.trans k2
  clear k2
  go_wp2_with fail
  refine (s4 _).mono ?_
  rintro e v12 ⟨rfl, k2⟩
  replace k1 := k1.trans k2
  clear k2
  go_wp2_with fail
  refine (s5 _).mono ?_
  rintro e v13 ⟨rfl, k2⟩
  replace k1 := k1.trans k2
  clear k2
  go_wp2_with fail
  refine (s6 _).mono ?_
  rintro e v14 ⟨rfl, k2⟩
  replace k1 := k1.trans k2
  clear k2
  go_wp2_with fail
  refine (s7 _).mono ?_
  rintro e v15 ⟨rfl, k2⟩
  replace k1 := k1.trans k2
  clear k2
  go_wp2_with fail
  refine (hw _).mono ?_
  rintro e v16 ⟨rfl, k2⟩
  replace k1 := k1.trans k2
  clear k2
  go_wp2_with fail
  go_ret
  exact ⟨rfl, k1⟩
set_option maxRecDepth 100000 in
set_option maxHeartbeats 8000000 in
theorem back_over_ok (w : World) (a b s t : Int) (hs : 0 ≤ s ∧ s ≤ 65535) (ht : 0 ≤ t ∧ t ≤ 65535) (x y : Int) (hx : a.tmod 65536 = x) (hy : b.tmod 65536 = y) (bx : -65535 ≤ x ∧ x ≤ 65535) (by_ : -65535 ≤ y ∧ y ≤ 65535) (nx : inB x = true) (ny : inB y = true) (ns : inB (x + y) = false) (hy0 : ¬ y = 0) (hy1 : (y != 0) = true) (nq : inB (x.tdiv y) = true) :
    Calls Try.prog 4 #[.int .i32 a, .int .i32 b, .int .u16 s, .int .u16 t] w fun e w' => e = .returned (.bool true) ∧ Wr [] w w' := by
  have m1 := @mkIface 39 rfl
  have m2 := @mkIface 40 rfl
  have m3 := @mkIface 34 rfl
  have hw := fun w => works_any w
  have ox : (KV.whole x).ok := whole_ok (by omega)
  have oy : (KV.whole y).ok := whole_ok (by omega)
  have ix := fun w => is_any (KV.whole x) ox w
  have iy := fun w => is_any (KV.whole y) oy w
  have d1 := fun w => does_op0 (KV.whole x) (KV.whole y) ox oy w
  rw [isB_whole] at ix iy
  rw [nx] at ix
  rw [ny] at iy
  rw [does_whole 0 (by decide) x y nx ny] at d1
  have bx2 := inB_true nx
  have by2 := inB_true ny
  have w1 : wrap64 (x + y) = x + y := wrap64_id (by omega)
  rw [show reckK 0 x y = (KV.none_, 101) by simp [reckK, wholeK, w1, ns]] at d1
  have d3 := fun w => does_op4 (KV.whole x) (KV.whole y) ox oy w
  have d4 := fun w => does_op5 (KV.whole x) (KV.whole y) ox oy w
  rw [does_whole 4 (by decide) x y nx ny] at d3
  rw [does_whole 5 (by decide) x y nx ny] at d4
  have bq := tdiv_bound x y bx
  have br := tmod_bound x y
  have w3 : wrap64 (x.tdiv y) = x.tdiv y := wrap64_id (by omega)
  have nm : inB (x.tmod y) = true := inB_yes (by omega) (by omega)
  have hqr : x.tdiv y * y + x.tmod y = x := by rw [Int.mul_comm]; exact Int.mul_tdiv_add_tmod x y
  rw [show reckK 5 x y = (KV.whole (x.tmod y), 0) by simp [reckK, divK, wholeK, hy0, nm]] at d4
  have om : (KV.whole (x.tmod y)).ok := whole_ok (by omega)
  have n2 := fun w => number_any (KV.whole (x.tmod y)) om w
  rw [show (KV.whole (x.tmod y)).number = x.tmod y by simp [KV.number, KV.whole, nm], show (KV.whole (x.tmod y)).has = true by simp [KV.has, KV.is, KV.whole, nm]] at n2
  rw [show reckK 4 x y = (KV.whole (x.tdiv y), 0) by simp [reckK, divK, wholeK, hy0, w3, nq]] at d3
  have oq : (KV.whole (x.tdiv y)).ok := whole_ok (by omega)
  have n1 := fun w => number_any (KV.whole (x.tdiv y)) oq w
  rw [show (KV.whole (x.tdiv y)).number = x.tdiv y by simp [KV.number, KV.whole, nq], show (KV.whole (x.tdiv y)).has = true by simp [KV.has, KV.is, KV.whole, nq]] at n1
  simp only [KV.whole_val] at d3 d4 n1 n2
  generalize x.tdiv y = q at d3 n1 hqr
  generalize x.tmod y = r at d4 n2 hqr br
  have wq : wrap64 (q * y) = q * y := by rw [show q * y = x - r by omega]; exact wrap64_id (by omega)
  have wqr : wrap64 (q * y + r) = x := by rw [hqr]; exact wrap64_id (by omega)
  have fqr : (x != x) = false := by simp
  simp only [KV.whole_val, KV.none_val] at ix iy d1
  obtain ⟨vor, e1⟩ : ∃ v, bits .or .u16 s t = v := ⟨_, rfl⟩
  have r1 : 0 ≤ vor ∧ vor ≤ 65535 := by rw [← e1]; exact bits_u16 _ _ _
  have s1 := dB0 s t hs ht vor e1
  obtain ⟨vand, e2⟩ : ∃ v, bits .and .u16 s t = v := ⟨_, rfl⟩
  have r2 : 0 ≤ vand ∧ vand ≤ 65535 := by rw [← e2]; exact bits_u16 _ _ _
  have s2 := dB2 s t hs ht vand e2
  obtain ⟨vone, e3⟩ : ∃ v, bits .xor .u16 s t = v := ⟨_, rfl⟩
  have r3 : 0 ≤ vone ∧ vone ≤ 65535 := by rw [← e3]; exact bits_u16 _ _ _
  have s3 := dB3 s t hs ht vone e3
  have e4 : bits .andNot .u16 vor vand = vone := by rw [← e1, ← e2, ← e3, bits_andNot_bv, bits_or_bv, bits_and_bv, bits_xor_bv, bv_of, bv_of, set_back]
  have s4 := dB1 vor vand r1 r2 vone e4
  have e5 : (bits .andNot .u16 vand s == 0) = true := by rw [← e2, bits_andNot_bv, bits_and_bv, bv_of, set_sub]; rfl
  have s5 := dB11 vand s r2 hs true e5
  have s6 := sameB vone vone r3 r3 true (by simp)
  have s7 := sameT true true true rfl
  clear e1 e2 e3 e4 e5 r1 r2 r3 hs ht ox oy m1 m2 m3
  have m1 := @mkIface 39 rfl
  have m2 := @mkIface 40 rfl
  have m3 := @mkIface 34 rfl
  have wx : IntKind.i64.wrap x = x := by rw [IntKind.wrap_i64]; omega
  have wy : IntKind.i64.wrap y = y := by rw [IntKind.wrap_i64]; omega
  go_enter Try.func4, Try.ntmps4
  go_wp2_with fail
  refine (d1 _).mono ?_
  rintro e v0 ⟨rfl, k2⟩
  have k1 := k2
  clear k2
  go_wp2_with fail
  refine (ix _).mono ?_
  rintro e v1 ⟨rfl, k2⟩
  replace k1 := k1.trans k2
  clear k2
  go_wp2_with fail
  refine (iy _).mono ?_
  rintro e v2 ⟨rfl, k2⟩
  replace k1 := k1.trans k2
  clear k2
  go_wp2_with fail
  refine (d3 _).mono ?_
  rintro e v3 ⟨rfl, k2⟩
  replace k1 := k1.trans k2
  clear k2
  go_wp2_with fail
  refine (d4 _).mono ?_
  rintro e v4 ⟨rfl, k2⟩
  replace k1 := k1.trans k2
  clear k2
  go_wp2_with fail
  refine (n1 _).mono ?_
  rintro e v5 ⟨rfl, k2⟩
  replace k1 := k1.trans k2
  clear k2
  go_wp2_with fail
  refine (n2 _).mono ?_
  rintro e v6 ⟨rfl, k2⟩
  replace k1 := k1.trans k2
  clear k2
  go_wp2_with fail
  refine (s1 _).mono ?_
  rintro e v7 ⟨rfl, k2⟩
  replace k1 := k1.trans k2
  clear k2
  go_wp2_with fail
  refine (s2 _).mono ?_
  rintro e v8 ⟨rfl, k2⟩
  replace k1 := k1.trans k2
  clear k2
  go_wp2_with fail
  refine (s3 _).mono ?_
  rintro e v9 ⟨rfl, k2⟩
  replace k1 := k1.trans k2
  clear k2
  go_wp2_with fail
  refine (s4 _).mono ?_
  rintro e v10 ⟨rfl, k2⟩
  replace k1 := k1.trans k2
  clear k2
  go_wp2_with fail
  refine (s5 _).mono ?_
  rintro e v11 ⟨rfl, k2⟩
  replace k1 := k1.trans k2
  clear k2
  go_wp2_with fail
  refine (s6 _).mono ?_
  rintro e v12 ⟨rfl, k2⟩
  replace k1 := k1.trans k2
  clear k2
  go_wp2_with fail
  refine (s7 _).mono ?_
  rintro e v13 ⟨rfl, k2⟩
  replace k1 := k1.trans k2
  clear k2
  go_wp2_with fail
  refine (hw _).mono ?_
  rintro e v14 ⟨rfl, k2⟩
  replace k1 := k1.trans k2
  clear k2
  go_wp2_with fail
  go_ret
  exact ⟨rfl, k1⟩
set_option maxRecDepth 100000 in
set_option maxHeartbeats 8000000 in
theorem back_over_over (w : World) (a b s t : Int) (hs : 0 ≤ s ∧ s ≤ 65535) (ht : 0 ≤ t ∧ t ≤ 65535) (x y : Int) (hx : a.tmod 65536 = x) (hy : b.tmod 65536 = y) (bx : -65535 ≤ x ∧ x ≤ 65535) (by_ : -65535 ≤ y ∧ y ≤ 65535) (nx : inB x = true) (ny : inB y = true) (ns : inB (x + y) = false) (hy0 : ¬ y = 0) (hy1 : (y != 0) = true) (nq : inB (x.tdiv y) = false) :
    Calls Try.prog 4 #[.int .i32 a, .int .i32 b, .int .u16 s, .int .u16 t] w fun e w' => e = .returned (.bool true) ∧ Wr [] w w' := by
  have m1 := @mkIface 39 rfl
  have m2 := @mkIface 40 rfl
  have m3 := @mkIface 34 rfl
  have hw := fun w => works_any w
  have ox : (KV.whole x).ok := whole_ok (by omega)
  have oy : (KV.whole y).ok := whole_ok (by omega)
  have ix := fun w => is_any (KV.whole x) ox w
  have iy := fun w => is_any (KV.whole y) oy w
  have d1 := fun w => does_op0 (KV.whole x) (KV.whole y) ox oy w
  rw [isB_whole] at ix iy
  rw [nx] at ix
  rw [ny] at iy
  rw [does_whole 0 (by decide) x y nx ny] at d1
  have bx2 := inB_true nx
  have by2 := inB_true ny
  have w1 : wrap64 (x + y) = x + y := wrap64_id (by omega)
  rw [show reckK 0 x y = (KV.none_, 101) by simp [reckK, wholeK, w1, ns]] at d1
  have d3 := fun w => does_op4 (KV.whole x) (KV.whole y) ox oy w
  have d4 := fun w => does_op5 (KV.whole x) (KV.whole y) ox oy w
  rw [does_whole 4 (by decide) x y nx ny] at d3
  rw [does_whole 5 (by decide) x y nx ny] at d4
  have bq := tdiv_bound x y bx
  have br := tmod_bound x y
  have w3 : wrap64 (x.tdiv y) = x.tdiv y := wrap64_id (by omega)
  have nm : inB (x.tmod y) = true := inB_yes (by omega) (by omega)
  have hqr : x.tdiv y * y + x.tmod y = x := by rw [Int.mul_comm]; exact Int.mul_tdiv_add_tmod x y
  rw [show reckK 5 x y = (KV.whole (x.tmod y), 0) by simp [reckK, divK, wholeK, hy0, nm]] at d4
  have om : (KV.whole (x.tmod y)).ok := whole_ok (by omega)
  have n2 := fun w => number_any (KV.whole (x.tmod y)) om w
  rw [show (KV.whole (x.tmod y)).number = x.tmod y by simp [KV.number, KV.whole, nm], show (KV.whole (x.tmod y)).has = true by simp [KV.has, KV.is, KV.whole, nm]] at n2
  rw [show reckK 4 x y = (KV.none_, 101) by simp [reckK, divK, wholeK, hy0, w3, nq]] at d3
  have n1 := fun w => number_any KV.none_ none_ok w
  rw [show KV.none_.number = 0 from rfl, show KV.none_.has = false from rfl] at n1
  simp only [KV.whole_val, KV.none_val] at d3 d4 n1 n2
  generalize x.tdiv y = q at hqr
  generalize x.tmod y = r at d4 n2 hqr
  simp only [KV.whole_val, KV.none_val] at ix iy d1
  obtain ⟨vor, e1⟩ : ∃ v, bits .or .u16 s t = v := ⟨_, rfl⟩
  have r1 : 0 ≤ vor ∧ vor ≤ 65535 := by rw [← e1]; exact bits_u16 _ _ _
  have s1 := dB0 s t hs ht vor e1
  obtain ⟨vand, e2⟩ : ∃ v, bits .and .u16 s t = v := ⟨_, rfl⟩
  have r2 : 0 ≤ vand ∧ vand ≤ 65535 := by rw [← e2]; exact bits_u16 _ _ _
  have s2 := dB2 s t hs ht vand e2
  obtain ⟨vone, e3⟩ : ∃ v, bits .xor .u16 s t = v := ⟨_, rfl⟩
  have r3 : 0 ≤ vone ∧ vone ≤ 65535 := by rw [← e3]; exact bits_u16 _ _ _
  have s3 := dB3 s t hs ht vone e3
  have e4 : bits .andNot .u16 vor vand = vone := by rw [← e1, ← e2, ← e3, bits_andNot_bv, bits_or_bv, bits_and_bv, bits_xor_bv, bv_of, bv_of, set_back]
  have s4 := dB1 vor vand r1 r2 vone e4
  have e5 : (bits .andNot .u16 vand s == 0) = true := by rw [← e2, bits_andNot_bv, bits_and_bv, bv_of, set_sub]; rfl
  have s5 := dB11 vand s r2 hs true e5
  have s6 := sameB vone vone r3 r3 true (by simp)
  have s7 := sameT true true true rfl
  clear e1 e2 e3 e4 e5 r1 r2 r3 hs ht ox oy m1 m2 m3
  have m1 := @mkIface 39 rfl
  have m2 := @mkIface 40 rfl
  have m3 := @mkIface 34 rfl
  have wx : IntKind.i64.wrap x = x := by rw [IntKind.wrap_i64]; omega
  have wy : IntKind.i64.wrap y = y := by rw [IntKind.wrap_i64]; omega
  go_enter Try.func4, Try.ntmps4
  go_wp2_with fail
  refine (d1 _).mono ?_
  rintro e v0 ⟨rfl, k2⟩
  have k1 := k2
  clear k2
  go_wp2_with fail
  refine (ix _).mono ?_
  rintro e v1 ⟨rfl, k2⟩
  replace k1 := k1.trans k2
  clear k2
  go_wp2_with fail
  refine (iy _).mono ?_
  rintro e v2 ⟨rfl, k2⟩
  replace k1 := k1.trans k2
  clear k2
  go_wp2_with fail
  refine (d3 _).mono ?_
  rintro e v3 ⟨rfl, k2⟩
  replace k1 := k1.trans k2
  clear k2
  go_wp2_with fail
  refine (d4 _).mono ?_
  rintro e v4 ⟨rfl, k2⟩
  replace k1 := k1.trans k2
  clear k2
  go_wp2_with fail
  refine (n1 _).mono ?_
  rintro e v5 ⟨rfl, k2⟩
  replace k1 := k1.trans k2
  clear k2
  go_wp2_with fail
  refine (n2 _).mono ?_
  rintro e v6 ⟨rfl, k2⟩
  replace k1 := k1.trans k2
  clear k2
  go_wp2_with fail
  refine (s1 _).mono ?_
  rintro e v7 ⟨rfl, k2⟩
  replace k1 := k1.trans k2
  clear k2
  go_wp2_with fail
  refine (s2 _).mono ?_
  rintro e v8 ⟨rfl, k2⟩
  replace k1 := k1.trans k2
  clear k2
  go_wp2_with fail
  refine (s3 _).mono ?_
  rintro e v9 ⟨rfl, k2⟩
  replace k1 := k1.trans k2
  clear k2
  go_wp2_with fail
  refine (s4 _).mono ?_
  rintro e v10 ⟨rfl, k2⟩
  replace k1 := k1.trans k2
  clear k2
  go_wp2_with fail
  refine (s5 _).mono ?_
  rintro e v11 ⟨rfl, k2⟩
  replace k1 := k1.trans k2
  clear k2
  go_wp2_with fail
  refine (s6 _).mono ?_
  rintro e v12 ⟨rfl, k2⟩
  replace k1 := k1.trans k2
  clear k2
  go_wp2_with fail
  refine (s7 _).mono ?_
  rintro e v13 ⟨rfl, k2⟩
  replace k1 := k1.trans k2
  clear k2
  go_wp2_with fail
  refine (hw _).mono ?_
  rintro e v14 ⟨rfl, k2⟩
  replace k1 := k1.trans k2
  clear k2
  go_wp2_with fail
  go_ret
  exact ⟨rfl, k1⟩
set_option maxRecDepth 100000 in
set_option maxHeartbeats 8000000 in
theorem back_zero (w : World) (a b s t : Int) (hs : 0 ≤ s ∧ s ≤ 65535) (ht : 0 ≤ t ∧ t ≤ 65535) (x y : Int) (hx : a.tmod 65536 = x) (hy : b.tmod 65536 = y) (bx : -65535 ≤ x ∧ x ≤ 65535) (by_ : -65535 ≤ y ∧ y ≤ 65535) (nx : inB x = true) (ny : inB y = true) (ns : inB (x + y) = true) (hy1 : (y != 0) = false) :
    Calls Try.prog 4 #[.int .i32 a, .int .i32 b, .int .u16 s, .int .u16 t] w fun e w' => e = .returned (.bool true) ∧ Wr [] w w' := by
  have m1 := @mkIface 39 rfl
  have m2 := @mkIface 40 rfl
  have m3 := @mkIface 34 rfl
  have hw := fun w => works_any w
  have ox : (KV.whole x).ok := whole_ok (by omega)
  have oy : (KV.whole y).ok := whole_ok (by omega)
  have ix := fun w => is_any (KV.whole x) ox w
  have iy := fun w => is_any (KV.whole y) oy w
  have d1 := fun w => does_op0 (KV.whole x) (KV.whole y) ox oy w
  rw [isB_whole] at ix iy
  rw [nx] at ix
  rw [ny] at iy
  rw [does_whole 0 (by decide) x y nx ny] at d1
  have bx2 := inB_true nx
  have by2 := inB_true ny
  have w1 : wrap64 (x + y) = x + y := wrap64_id (by omega)
  rw [show reckK 0 x y = (KV.whole (x + y), 0) by simp [reckK, wholeK, w1, ns]] at d1
  have bs := inB_true ns
  have os : (KV.whole (x + y)).ok := whole_ok (by omega)
  have d2 := fun w => does_op1 (KV.whole (x + y)) (KV.whole y) os oy w
  have w2 : wrap64 x = x := wrap64_id (by omega)
  rw [does_whole 1 (by decide) (x + y) y ns ny, show reckK 1 (x + y) y = (KV.whole x, 0) by simp [reckK, wholeK, w2, nx]] at d2
  have sx := sameW x x bx2 bx2 true (by simp)
  simp only [KV.whole_val] at d2
  generalize x + y = z at d1 d2
  simp only [KV.whole_val, KV.none_val] at ix iy d1
  obtain ⟨vor, e1⟩ : ∃ v, bits .or .u16 s t = v := ⟨_, rfl⟩
  have r1 : 0 ≤ vor ∧ vor ≤ 65535 := by rw [← e1]; exact bits_u16 _ _ _
  have s1 := dB0 s t hs ht vor e1
  obtain ⟨vand, e2⟩ : ∃ v, bits .and .u16 s t = v := ⟨_, rfl⟩
  have r2 : 0 ≤ vand ∧ vand ≤ 65535 := by rw [← e2]; exact bits_u16 _ _ _
  have s2 := dB2 s t hs ht vand e2
  obtain ⟨vone, e3⟩ : ∃ v, bits .xor .u16 s t = v := ⟨_, rfl⟩
  have r3 : 0 ≤ vone ∧ vone ≤ 65535 := by rw [← e3]; exact bits_u16 _ _ _
  have s3 := dB3 s t hs ht vone e3
  have e4 : bits .andNot .u16 vor vand = vone := by rw [← e1, ← e2, ← e3, bits_andNot_bv, bits_or_bv, bits_and_bv, bits_xor_bv, bv_of, bv_of, set_back]
  have s4 := dB1 vor vand r1 r2 vone e4
  have e5 : (bits .andNot .u16 vand s == 0) = true := by rw [← e2, bits_andNot_bv, bits_and_bv, bv_of, set_sub]; rfl
  have s5 := dB11 vand s r2 hs true e5
  have s6 := sameB vone vone r3 r3 true (by simp)
  have s7 := sameT true true true rfl
  clear e1 e2 e3 e4 e5 r1 r2 r3 hs ht ox oy m1 m2 m3
  have m1 := @mkIface 39 rfl
  have m2 := @mkIface 40 rfl
  have m3 := @mkIface 34 rfl
  have wx : IntKind.i64.wrap x = x := by rw [IntKind.wrap_i64]; omega
  have wy : IntKind.i64.wrap y = y := by rw [IntKind.wrap_i64]; omega
  go_enter Try.func4, Try.ntmps4
  go_wp2_with fail
  refine (d1 _).mono ?_
  rintro e v0 ⟨rfl, k2⟩
  have k1 := k2
  clear k2
  go_wp2_with fail
  refine (d2 _).mono ?_
  rintro e v1 ⟨rfl, k2⟩
  replace k1 := k1.trans k2
  clear k2
  go_wp2_with fail
  refine (sx _).mono ?_
  rintro e v2 ⟨rfl, k2⟩
  replace k1 := k1.trans k2
  clear k2
  go_wp2_with fail
  refine (ix _).mono ?_
  rintro e v3 ⟨rfl, k2⟩
  replace k1 := k1.trans k2
  clear k2
  go_wp2_with fail
  refine (iy _).mono ?_
  rintro e v4 ⟨rfl, k2⟩
  replace k1 := k1.trans k2
  clear k2
  go_wp2_with fail
  refine (s1 _).mono ?_
  rintro e v5 ⟨rfl, k2⟩
  replace k1 := k1.trans k2
  clear k2
  go_wp2_with fail
  refine (s2 _).mono ?_
  rintro e v6 ⟨rfl, k2⟩
  replace k1 := k1.trans k2
  clear k2
  go_wp2_with fail
  refine (s3 _).mono ?_
  rintro e v7 ⟨rfl, k2⟩
  replace k1 := k1.trans k2
  clear k2
  go_wp2_with fail
  refine (s4 _).mono ?_
  rintro e v8 ⟨rfl, k2⟩
  replace k1 := k1.trans k2
  clear k2
  go_wp2_with fail
  refine (s5 _).mono ?_
  rintro e v9 ⟨rfl, k2⟩
  replace k1 := k1.trans k2
  clear k2
  go_wp2_with fail
  refine (s6 _).mono ?_
  rintro e v10 ⟨rfl, k2⟩
  replace k1 := k1.trans k2
  clear k2
  go_wp2_with fail
  refine (s7 _).mono ?_
  rintro e v11 ⟨rfl, k2⟩
  replace k1 := k1.trans k2
  clear k2
  go_wp2_with fail
  refine (hw _).mono ?_
  rintro e v12 ⟨rfl, k2⟩
  replace k1 := k1.trans k2
  clear k2
  go_wp2_with fail
  go_ret
  exact ⟨rfl, k1⟩
set_option maxRecDepth 100000 in
set_option maxHeartbeats 8000000 in
theorem back_y (w : World) (a b s t : Int) (hs : 0 ≤ s ∧ s ≤ 65535) (ht : 0 ≤ t ∧ t ≤ 65535) (x y : Int) (hx : a.tmod 65536 = x) (hy : b.tmod 65536 = y) (bx : -65535 ≤ x ∧ x ≤ 65535) (by_ : -65535 ≤ y ∧ y ≤ 65535) (nx : inB x = true) (ny : inB y = false) :
    Calls Try.prog 4 #[.int .i32 a, .int .i32 b, .int .u16 s, .int .u16 t] w fun e w' => e = .returned (.bool true) ∧ Wr [] w w' := by
  have m1 := @mkIface 39 rfl
  have m2 := @mkIface 40 rfl
  have m3 := @mkIface 34 rfl
  have hw := fun w => works_any w
  have ox : (KV.whole x).ok := whole_ok (by omega)
  have oy : (KV.whole y).ok := whole_ok (by omega)
  have ix := fun w => is_any (KV.whole x) ox w
  have iy := fun w => is_any (KV.whole y) oy w
  have d1 := fun w => does_op0 (KV.whole x) (KV.whole y) ox oy w
  rw [isB_whole] at ix iy
  rw [nx] at ix
  rw [ny] at iy
  rw [does_whole_not 0 (by omega) x y (.inr ny)] at d1
  simp only [KV.whole_val, KV.none_val] at ix iy d1
  obtain ⟨vor, e1⟩ : ∃ v, bits .or .u16 s t = v := ⟨_, rfl⟩
  have r1 : 0 ≤ vor ∧ vor ≤ 65535 := by rw [← e1]; exact bits_u16 _ _ _
  have s1 := dB0 s t hs ht vor e1
  obtain ⟨vand, e2⟩ : ∃ v, bits .and .u16 s t = v := ⟨_, rfl⟩
  have r2 : 0 ≤ vand ∧ vand ≤ 65535 := by rw [← e2]; exact bits_u16 _ _ _
  have s2 := dB2 s t hs ht vand e2
  obtain ⟨vone, e3⟩ : ∃ v, bits .xor .u16 s t = v := ⟨_, rfl⟩
  have r3 : 0 ≤ vone ∧ vone ≤ 65535 := by rw [← e3]; exact bits_u16 _ _ _
  have s3 := dB3 s t hs ht vone e3
  have e4 : bits .andNot .u16 vor vand = vone := by rw [← e1, ← e2, ← e3, bits_andNot_bv, bits_or_bv, bits_and_bv, bits_xor_bv, bv_of, bv_of, set_back]
  have s4 := dB1 vor vand r1 r2 vone e4
  have e5 : (bits .andNot .u16 vand s == 0) = true := by rw [← e2, bits_andNot_bv, bits_and_bv, bv_of, set_sub]; rfl
  have s5 := dB11 vand s r2 hs true e5
  have s6 := sameB vone vone r3 r3 true (by simp)
  have s7 := sameT true true true rfl
  clear e1 e2 e3 e4 e5 r1 r2 r3 hs ht ox oy m1 m2 m3
  have m1 := @mkIface 39 rfl
  have m2 := @mkIface 40 rfl
  have m3 := @mkIface 34 rfl
  have wx : IntKind.i64.wrap x = x := by rw [IntKind.wrap_i64]; omega
  have wy : IntKind.i64.wrap y = y := by rw [IntKind.wrap_i64]; omega
  go_enter Try.func4, Try.ntmps4
  go_wp2_with fail
  refine (d1 _).mono ?_
  rintro e v0 ⟨rfl, k2⟩
  have k1 := k2
  clear k2
  go_wp2_with fail
  refine (ix _).mono ?_
  rintro e v1 ⟨rfl, k2⟩
  replace k1 := k1.trans k2
  clear k2
  go_wp2_with fail
  refine (iy _).mono ?_
  rintro e v2 ⟨rfl, k2⟩
  replace k1 := k1.trans k2
  clear k2
  go_wp2_with fail
  refine (s1 _).mono ?_
  rintro e v3 ⟨rfl, k2⟩
  replace k1 := k1.trans k2
  clear k2
  go_wp2_with fail
  refine (s2 _).mono ?_
  rintro e v4 ⟨rfl, k2⟩
  replace k1 := k1.trans k2
  clear k2
  go_wp2_with fail
  refine (s3 _).mono ?_
  rintro e v5 ⟨rfl, k2⟩
  replace k1 := k1.trans k2
  clear k2
  go_wp2_with fail
  refine (s4 _).mono ?_
  rintro e v6 ⟨rfl, k2⟩
  replace k1 := k1.trans k2
  clear k2
  go_wp2_with fail
  refine (s5 _).mono ?_
  rintro e v7 ⟨rfl, k2⟩
  replace k1 := k1.trans k2
  clear k2
  go_wp2_with fail
  refine (s6 _).mono ?_
  rintro e v8 ⟨rfl, k2⟩
  replace k1 := k1.trans k2
  clear k2
  go_wp2_with fail
  refine (s7 _).mono ?_
  rintro e v9 ⟨rfl, k2⟩
  replace k1 := k1.trans k2
  clear k2
  go_wp2_with fail
  refine (hw _).mono ?_
  rintro e v10 ⟨rfl, k2⟩
  replace k1 := k1.trans k2
  clear k2
  go_wp2_with fail
  go_ret
  exact ⟨rfl, k1⟩
set_option maxRecDepth 100000 in
set_option maxHeartbeats 8000000 in
theorem back_x (w : World) (a b s t : Int) (hs : 0 ≤ s ∧ s ≤ 65535) (ht : 0 ≤ t ∧ t ≤ 65535) (x y : Int) (hx : a.tmod 65536 = x) (hy : b.tmod 65536 = y) (bx : -65535 ≤ x ∧ x ≤ 65535) (by_ : -65535 ≤ y ∧ y ≤ 65535) (nx : inB x = false) :
    Calls Try.prog 4 #[.int .i32 a, .int .i32 b, .int .u16 s, .int .u16 t] w fun e w' => e = .returned (.bool true) ∧ Wr [] w w' := by
  have m1 := @mkIface 39 rfl
  have m2 := @mkIface 40 rfl
  have m3 := @mkIface 34 rfl
  have hw := fun w => works_any w
  have ox : (KV.whole x).ok := whole_ok (by omega)
  have oy : (KV.whole y).ok := whole_ok (by omega)
  have ix := fun w => is_any (KV.whole x) ox w
  have iy := fun w => is_any (KV.whole y) oy w
  have d1 := fun w => does_op0 (KV.whole x) (KV.whole y) ox oy w
  rw [isB_whole] at ix iy
  rw [nx] at ix
  rw [does_whole_not 0 (by omega) x y (.inl nx)] at d1
  simp only [KV.whole_val, KV.none_val] at ix iy d1
  obtain ⟨vor, e1⟩ : ∃ v, bits .or .u16 s t = v := ⟨_, rfl⟩
  have r1 : 0 ≤ vor ∧ vor ≤ 65535 := by rw [← e1]; exact bits_u16 _ _ _
  have s1 := dB0 s t hs ht vor e1
  obtain ⟨vand, e2⟩ : ∃ v, bits .and .u16 s t = v := ⟨_, rfl⟩
  have r2 : 0 ≤ vand ∧ vand ≤ 65535 := by rw [← e2]; exact bits_u16 _ _ _
  have s2 := dB2 s t hs ht vand e2
  obtain ⟨vone, e3⟩ : ∃ v, bits .xor .u16 s t = v := ⟨_, rfl⟩
  have r3 : 0 ≤ vone ∧ vone ≤ 65535 := by rw [← e3]; exact bits_u16 _ _ _
  have s3 := dB3 s t hs ht vone e3
  have e4 : bits .andNot .u16 vor vand = vone := by rw [← e1, ← e2, ← e3, bits_andNot_bv, bits_or_bv, bits_and_bv, bits_xor_bv, bv_of, bv_of, set_back]
  have s4 := dB1 vor vand r1 r2 vone e4
  have e5 : (bits .andNot .u16 vand s == 0) = true := by rw [← e2, bits_andNot_bv, bits_and_bv, bv_of, set_sub]; rfl
  have s5 := dB11 vand s r2 hs true e5
  have s6 := sameB vone vone r3 r3 true (by simp)
  have s7 := sameT true true true rfl
  clear e1 e2 e3 e4 e5 r1 r2 r3 hs ht ox oy m1 m2 m3
  have m1 := @mkIface 39 rfl
  have m2 := @mkIface 40 rfl
  have m3 := @mkIface 34 rfl
  have wx : IntKind.i64.wrap x = x := by rw [IntKind.wrap_i64]; omega
  have wy : IntKind.i64.wrap y = y := by rw [IntKind.wrap_i64]; omega
  go_enter Try.func4, Try.ntmps4
  go_wp2_with fail
  refine (d1 _).mono ?_
  rintro e v0 ⟨rfl, k2⟩
  have k1 := k2
  clear k2
  go_wp2_with fail
  refine (ix _).mono ?_
  rintro e v1 ⟨rfl, k2⟩
  replace k1 := k1.trans k2
  clear k2
  go_wp2_with fail
  refine (s1 _).mono ?_
  rintro e v2 ⟨rfl, k2⟩
  replace k1 := k1.trans k2
  clear k2
  go_wp2_with fail
  refine (s2 _).mono ?_
  rintro e v3 ⟨rfl, k2⟩
  replace k1 := k1.trans k2
  clear k2
  go_wp2_with fail
  refine (s3 _).mono ?_
  rintro e v4 ⟨rfl, k2⟩
  replace k1 := k1.trans k2
  clear k2
  go_wp2_with fail
  refine (s4 _).mono ?_
  rintro e v5 ⟨rfl, k2⟩
  replace k1 := k1.trans k2
  clear k2
  go_wp2_with fail
  refine (s5 _).mono ?_
  rintro e v6 ⟨rfl, k2⟩
  replace k1 := k1.trans k2
  clear k2
  go_wp2_with fail
  refine (s6 _).mono ?_
  rintro e v7 ⟨rfl, k2⟩
  replace k1 := k1.trans k2
  clear k2
  go_wp2_with fail
  refine (s7 _).mono ?_
  rintro e v8 ⟨rfl, k2⟩
  replace k1 := k1.trans k2
  clear k2
  go_wp2_with fail
  refine (hw _).mono ?_
  rintro e v9 ⟨rfl, k2⟩
  replace k1 := k1.trans k2
  clear k2
  go_wp2_with fail
  go_ret
  exact ⟨rfl, k1⟩

theorem back_walk (w : World) (a : Int) (wa : (Lit.int .i32 a).wf = true) (b : Int) (wb : (Lit.int .i32 b).wf = true) (s : Int) (ws : (Lit.int .u16 s).wf = true) (t : Int) (wt : (Lit.int .u16 t).wf = true) :
    Calls Try.prog 4 #[.int .i32 a, .int .i32 b, .int .u16 s, .int .u16 t] w fun e w' => e = .returned (.bool true) ∧ Wr [] w w' := by
  have hs := Go.bounds_u16 ws
  have ht := Go.bounds_u16 wt
  have hm : ∀ a : Int, -65535 ≤ a.tmod 65536 ∧ a.tmod 65536 ≤ 65535 := by
    intro a
    have h := Int.natAbs_tmod a 65536
    have h2 := Nat.mod_lt a.natAbs (show 0 < (65536 : Int).natAbs by decide)
    have h3 : (65536 : Int).natAbs = 65536 := rfl
    omega
  have bx := hm a
  have b_y := hm b
  obtain ⟨x, hx⟩ : ∃ x, a.tmod 65536 = x := ⟨_, rfl⟩
  obtain ⟨y, hy⟩ : ∃ y, b.tmod 65536 = y := ⟨_, rfl⟩
  rw [hx] at bx
  rw [hy] at b_y
  cases nx : inB x with
  | false => exact back_x w a b s t hs ht x y hx hy bx b_y nx
  | true =>
    cases ny : inB y with
    | false => exact back_y w a b s t hs ht x y hx hy bx b_y nx ny
    | true =>
      by_cases hy0 : y = 0
      · exact back_zero w a b s t hs ht x y hx hy bx b_y nx ny (by rw [hy0, Int.add_zero]; exact nx) (by simp [hy0])
      · have hy1 : (y != 0) = true := by simp [hy0]
        cases ns : inB (x + y) with
        | true =>
          cases nq : inB (x.tdiv y) with
          | true => exact back_ok_ok w a b s t hs ht x y hx hy bx b_y nx ny ns hy0 hy1 nq
          | false => exact back_ok_over w a b s t hs ht x y hx hy bx b_y nx ny ns hy0 hy1 nq
        | false =>
          cases nq : inB (x.tdiv y) with
          | true => exact back_over_ok w a b s t hs ht x y hx hy bx b_y nx ny ns hy0 hy1 nq
          | false => exact back_over_over w a b s t hs ht x y hx hy bx b_y nx ny ns hy0 hy1 nq

end Go.Proofs.Ytpfidbpbomamjaa
