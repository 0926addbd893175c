/- KonstOrder, walked. No conditions. -/
import Derived.Test.YtpfidbpbomamjaaKoR
import Derived.Deep.RegionHeld3
import Derived.BigQuiet
import Derived.Deep.QuietTactic
namespace Go.Proofs.Ytpfidbpbomamjaa
open Go.RowKit
set_option linter.unusedVariables false

/-- What a call may have done, so that 'assumption' does not find it. -/
structure Acc (w w' : World) : Prop where
  h : Wr [] w w'
theorem number_letter (x : KV) : x.letter.number = x.number := by
  by_cases hc : x.sort = 5 ∧ x.s.size = 1
  · simp [KV.number, KV.letter, hc]
  · rw [KV.letter, if_neg hc]
theorem alike_turn {x y : KV} (h : alikeB x y = true) : alikeB y x = true := by
  have hs := alike_sort h
  unfold alikeB at h ⊢
  by_cases h6 : x.sort = 6
  · have k6 : y.sort = 6 := hs.1.trans h6
    simp [h6, k6, KV.is] at h ⊢
    omega
  · have k6 : y.sort ≠ 6 := by omega
    simp only [k6, if_false, hs.1]
    simp only [h6, if_false] at h
    rcases hs.2 with k | k | k | k | k <;> simp [KV.is, k] <;> omega
theorem alike_turn_not {x y : KV} (h : alikeB x y = false) : alikeB y x = false := by
  cases hc : alikeB y x with
  | false => rfl
  | true => rw [alike_turn hc] at h; exact h

/-- What the seven questions answer, of any two values. -/
inductive Order (x y : KV) : Prop where
  | cmp (n m : Int) (h10 : doesK 10 x y = (KV.truth (decide (n < m)), 0)) (h12 : doesK 12 x y = (KV.truth (decide (n > m)), 0)) (h8 : doesK 8 x y = (KV.truth (n == m), 0)) (h9 : doesK 9 x y = (KV.truth (n != m), 0))
      (h11 : doesK 11 x y = (KV.truth (decide (n ≤ m)), 0)) (h13 : doesK 13 x y = (KV.truth (decide (n ≥ m)), 0)) (ht : doesK 12 y x = (KV.truth (decide (m > n)), 0))
  | eq (b : Bool) (v u : KV) (e : Int) (h10 : doesK 10 x y = (KV.none_, 100)) (h12 : doesK 12 x y = (KV.none_, 100)) (h8 : doesK 8 x y = (KV.truth b, 0)) (h9 : doesK 9 x y = (KV.truth !b, 0))
      (h11 : doesK 11 x y = (v, e)) (h13 : doesK 13 x y = (u, e)) (ht : doesK 12 y x = (KV.none_, 100))
  | no (h10 : doesK 10 x y = (KV.none_, 100)) (h12 : doesK 12 x y = (KV.none_, 100)) (h8 : doesK 8 x y = (KV.none_, 100)) (h9 : doesK 9 x y = (KV.none_, 100))
      (h11 : doesK 11 x y = (KV.none_, 100)) (h13 : doesK 13 x y = (KV.none_, 100)) (ht : doesK 12 y x = (KV.none_, 100))

theorem order_cases (x y : KV) : Order x y := by
  by_cases ix : x.isB = false
  · exact .no (by simp [doesK, ix]) (by simp [doesK, ix]) (by simp [doesK, ix]) (by simp [doesK, ix]) (by simp [doesK, ix]) (by simp [doesK, ix]) (by simp [doesK, ix])
  by_cases iy : y.isB = false
  · exact .no (by simp [doesK, iy]) (by simp [doesK, iy]) (by simp [doesK, iy]) (by simp [doesK, iy]) (by simp [doesK, iy]) (by simp [doesK, iy]) (by simp [doesK, iy])
  have ix' : x.isB = true := by simpa using ix
  have iy' : y.isB = true := by simpa using iy
  have D : ∀ k, k < 14 → doesK k x y = goesK k x.letter y.letter x.number := by
    intro k hk
    have h1 : ¬ 15 ≤ k := by omega
    have h2 : ¬ k = 14 := by omega
    simp [doesK, ix', iy', h1, h2]
  have E : ∀ k, k < 14 → doesK k y x = goesK k y.letter x.letter y.number := by
    intro k hk
    have h1 : ¬ 15 ≤ k := by omega
    have h2 : ¬ k = 14 := by omega
    simp [doesK, ix', iy', h1, h2]
  rw [← number_letter x] at D
  rw [← number_letter y] at E
  generalize x.letter = x' at D E
  generalize y.letter = y' at D E
  cases al : alikeB x' y' with
  | true =>
    obtain ⟨hs, hc⟩ := alike_sort al
    have al2 := alike_turn al
    by_cases h7 : x'.sort = 7
    · have k7 : y'.sort = 7 := hs.trans h7
      exact .eq true KV.none_ KV.none_ 100 (by rw [D _ (by omega)]; simp [goesK, al, h7]) (by rw [D _ (by omega)]; simp [goesK, al, h7]) (by rw [D _ (by omega)]; simp [goesK, al, h7]) (by rw [D _ (by omega)]; simp [goesK, al, h7])
        (by rw [D _ (by omega)]; simp [goesK, al, h7]) (by rw [D _ (by omega)]; simp [goesK, al, h7]) (by rw [E _ (by omega)]; simp [goesK, al2, k7])
    · have h4 : ¬ x'.sort = 4 := by omega
      have k4 : ¬ y'.sort = 4 := by omega
      have k7 : ¬ y'.sort = 7 := by omega
      refine .cmp x'.number y'.number ?_ ?_ ?_ ?_ ?_ ?_ ?_
      · rw [D _ (by omega)]; simp [goesK, al, h7, h4, isReck, isAsk, askQ]
      · rw [D _ (by omega)]; simp [goesK, al, h7, h4, isReck, isAsk, askQ]
      · rw [D _ (by omega)]; simp [goesK, al, h7, h4, isReck, isAsk, askQ]
      · rw [D _ (by omega)]; simp [goesK, al, h7, h4, isReck, isAsk, askQ]
      · rw [D _ (by omega)]; simp [goesK, al, h7, h4, isReck, isAsk, askQ]
      · rw [D _ (by omega)]; simp [goesK, al, h7, h4, isReck, isAsk, askQ]
      · rw [E _ (by omega)]; simp [goesK, al2, k7, k4, isReck, isAsk, askQ]
  | false =>
    have al2 := alike_turn_not al
    by_cases h4 : x'.sort = 4
    · by_cases k4 : y'.sort = 4
      · exact .eq (x'.num 4 == y'.num 4) (KV.truth (bits .andNot .u16 (x'.num 4) (y'.num 4) == 0)) (KV.truth (bits .andNot .u16 (y'.num 4) (x'.num 4) == 0)) 0
          (by rw [D _ (by omega)]; simp [goesK, al, h4, isOf]) (by rw [D _ (by omega)]; simp [goesK, al, h4, isOf]) (by rw [D _ (by omega)]; simp [goesK, h4, k4, isOf, setK]) (by rw [D _ (by omega)]; simp [goesK, h4, k4, isOf, setK, bne])
          (by rw [D _ (by omega)]; simp [goesK, h4, k4, isOf, setK]) (by rw [D _ (by omega)]; simp [goesK, h4, k4, isOf, setK]) (by rw [E _ (by omega)]; simp [goesK, al2, k4, isOf])
      · exact .no (by rw [D _ (by omega)]; simp [goesK, al, h4, k4, isOf]) (by rw [D _ (by omega)]; simp [goesK, al, h4, k4, isOf]) (by rw [D _ (by omega)]; simp [goesK, al, h4, k4, isOf]) (by rw [D _ (by omega)]; simp [goesK, al, h4, k4, isOf])
          (by rw [D _ (by omega)]; simp [goesK, al, h4, k4, isOf]) (by rw [D _ (by omega)]; simp [goesK, al, h4, k4, isOf]) (by rw [E _ (by omega)]; simp [goesK, al2, k4, isOf])
    · exact .no (by rw [D _ (by omega)]; simp [goesK, al, h4, isOf]) (by rw [D _ (by omega)]; simp [goesK, al, h4, isOf]) (by rw [D _ (by omega)]; simp [goesK, al, h4, isOf]) (by rw [D _ (by omega)]; simp [goesK, al, h4, isOf])
          (by rw [D _ (by omega)]; simp [goesK, al, h4, isOf]) (by rw [D _ (by omega)]; simp [goesK, al, h4, isOf]) (by rw [E _ (by omega)]; simp [goesK, al2, isOf])

theorem same_yes (b : Bool) (w : World) : Calls Try.prog 12 #[.iface 40 (.bool b), .agg #[.int .i64 3, .int .i64 1, .string ⟨#[]⟩, .int .i64 0]] w fun e w' => e = .returned (.bool b) ∧ Wr [] w w' := by
  have h := same_any (KV.truth b) ⟨3, 1, 0, ⟨#[]⟩⟩ (truth_ok _) w
  rw [KV.truth_val, show refV ⟨3, 1, 0, ⟨#[]⟩⟩ = .agg #[.int .i64 3, .int .i64 1, .string ⟨#[]⟩, .int .i64 0] from rfl] at h
  rwa [show KV.eqB (KV.truth b).look ⟨3, 1, 0, ⟨#[]⟩⟩ = b by cases b <;> decide +kernel] at h

set_option maxRecDepth 100000 in
set_option maxHeartbeats 2000000 in
theorem order_heavy (s1 n1 t1 s2 n2 t2 : Int) (b1 b2 : ByteArray) (h1 : b1.size ≤ 9223372036854775807) (h2 : b2.size ≤ 9223372036854775807) (hv : decide (wrap64 ((b1.size : Int) + b2.size) > 4096) = true) (w : World) :
    Calls Try.prog 3 #[rawV s1 n1 t1 b1, rawV s2 n2 t2 b2] w fun e w' => e = .returned (.bool true) ∧ Wr [] w w' := by
  have hh := fun w => heavy_any s1 n1 t1 s2 n2 t2 b1 b2 h1 h2 w
  rw [hv] at hh
  clear hv h1 h2
  have hw := fun w => works_any w
  unfold rawV at hh ⊢
  go_enter Try.func3, Try.ntmps3
  go_wp2_with fail
  refine (hh _).mono ?_
  rintro e w1 ⟨rfl, k1⟩
  go_wp2_with fail
  refine (hw _).mono ?_
  rintro e w2 ⟨rfl, k2⟩
  go_wp2_with fail
  go_ret
  exact ⟨rfl, ((((Wr.refl [] w).alloc _).alloc _).trans k1).trans k2⟩

set_option maxRecDepth 100000 in
set_option maxHeartbeats 8000000 in
theorem order_lt (s1 n1 t1 s2 n2 t2 : Int) (b1 b2 : ByteArray) (o1 : RawOk s1 n1 t1 b1) (o2 : RawOk s2 n2 t2 b2) (hv : decide (wrap64 ((b1.size : Int) + b2.size) > 4096) = false) (h10 : doesK 10 (rawK s1 n1 t1 b1) (rawK s2 n2 t2 b2) = (KV.truth true, 0)) (h12 : doesK 12 (rawK s1 n1 t1 b1) (rawK s2 n2 t2 b2) = (KV.truth false, 0)) (h8 : doesK 8 (rawK s1 n1 t1 b1) (rawK s2 n2 t2 b2) = (KV.truth false, 0)) (h9 : doesK 9 (rawK s1 n1 t1 b1) (rawK s2 n2 t2 b2) = (KV.truth true, 0)) (h11 : doesK 11 (rawK s1 n1 t1 b1) (rawK s2 n2 t2 b2) = (KV.truth true, 0)) (h13 : doesK 13 (rawK s1 n1 t1 b1) (rawK s2 n2 t2 b2) = (KV.truth false, 0)) (ht : doesK 12 (rawK s2 n2 t2 b2) (rawK s1 n1 t1 b1) = (KV.truth true, 0)) (w : World) :
    Calls Try.prog 3 #[rawV s1 n1 t1 b1, rawV s2 n2 t2 b2] w fun e w' => e = .returned (.bool true) ∧ Wr [] w w' := by
  have hh := fun w => heavy_any s1 n1 t1 s2 n2 t2 b1 b2 o1.b o2.b w
  rw [hv] at hh
  clear hv
  have hw := fun w => works_any w
  have aA := any_any
  have x1 := rawK_ok o1
  have x2 := rawK_ok o2
  obtain ⟨FX, hFX⟩ : ∃ FX : Int → Int → Int → ByteArray → Value, ∀ s n t b, FX s n t b = (rawK s n t b).val := ⟨_, fun _ _ _ _ => rfl⟩
  simp only [← hFX] at aA
  have d1 := fun w => does_op10 (rawK s1 n1 t1 b1) (rawK s2 n2 t2 b2) x1 x2 w
  rw [h10] at d1
  simp only [← hFX] at d1
  have d2 := fun w => does_op12 (rawK s1 n1 t1 b1) (rawK s2 n2 t2 b2) x1 x2 w
  rw [h12] at d2
  simp only [← hFX] at d2
  have d3 := fun w => does_op8 (rawK s1 n1 t1 b1) (rawK s2 n2 t2 b2) x1 x2 w
  rw [h8] at d3
  simp only [← hFX] at d3
  have d4 := fun w => does_op9 (rawK s1 n1 t1 b1) (rawK s2 n2 t2 b2) x1 x2 w
  rw [h9] at d4
  simp only [← hFX] at d4
  have d5 := fun w => does_op11 (rawK s1 n1 t1 b1) (rawK s2 n2 t2 b2) x1 x2 w
  rw [h11] at d5
  simp only [← hFX] at d5
  have d6 := fun w => does_op13 (rawK s1 n1 t1 b1) (rawK s2 n2 t2 b2) x1 x2 w
  rw [h13] at d6
  simp only [← hFX] at d6
  have d7 := fun w => does_op12 (rawK s2 n2 t2 b2) (rawK s1 n1 t1 b1) x2 x1 w
  rw [ht] at d7
  simp only [← hFX] at d7
  simp only [KV.truth_val, KV.none_val] at d1 d2 d3 d4 d5 d6 d7
  clear x1 x2 h10 h12 h8 h9 h11 h13 ht hFX
  have sY := fun b w => same_yes b w
  unfold rawV at hh aA ⊢
  obtain ⟨w0, hw0⟩ : ∃ w0, (w.alloc (.cells #[.int .u8 s1, .int .i64 n1, .string b1, .int .i64 t1] 23)).alloc (.cells #[.int .u8 s2, .int .i64 n2, .string b2, .int .i64 t2] 23) = w0 := ⟨_, rfl⟩
  obtain ⟨g, hg⟩ : ∃ g, w.heap.size = g := ⟨_, rfl⟩
  have acc : Wr [] w w0 := by rw [← hw0]; exact ((Wr.refl _ _).alloc _).alloc _
  have hb1 : Blk w0 g 23 #[.int .u8 s1, .int .i64 n1, .string b1, .int .i64 t1] := by rw [← hw0, ← hg]; exact (Blk.new _ _ _).alloc _
  have hb2 : Blk w0 (g + 1) 23 #[.int .u8 s2, .int .i64 n2, .string b2, .int .i64 t2] := by
    have hb := Blk.new (w.alloc (.cells #[.int .u8 s1, .int .i64 n1, .string b1, .int .i64 t1] 23)) 23 #[.int .u8 s2, .int .i64 n2, .string b2, .int .i64 t2]
    rw [show (w.alloc (.cells #[.int .u8 s1, .int .i64 n1, .string b1, .int .i64 t1] 23)).heap.size = g + 1 by simp [hg], hw0] at hb
    exact hb
  have c0 := hb1.cell 0
  have c1 := hb1.cell 1
  have c2 := hb1.cell 2
  have c3 := hb1.cell 3
  have e0 := hb2.cell 0
  have e1 := hb2.cell 1
  have e2 := hb2.cell 2
  have e3 := hb2.cell 3
  simp at c0 c1 c2 c3 e0 e1 e2 e3
  have Hw0 := Lib.hid hw0
  have Hg := Lib.hid hg
  clear hw0 hg hb1 hb2
  go_enter Try.func3, Try.ntmps3
  go_wp2_with fail
  rw [Hw0.out, Hg.out]
  go_wp2_with fail
  refine (hh _).mono ?_
  rintro e wh ⟨rfl, kh⟩
  replace acc := acc.trans kh
  have c0 := kh.cellOf c0 (by simp)
  have c1 := kh.cellOf c1 (by simp)
  have c2 := kh.cellOf c2 (by simp)
  have c3 := kh.cellOf c3 (by simp)
  have e0 := kh.cellOf e0 (by simp)
  have e1 := kh.cellOf e1 (by simp)
  have e2 := kh.cellOf e2 (by simp)
  have e3 := kh.cellOf e3 (by simp)
  clear kh
  go_wp2_with fail
  replace acc := Acc.mk acc.drew
  go_region_held3 (fun w' => w'.cell? ⟨g, 0, none⟩ = some (.int .u8 s1) ∧ w'.cell? ⟨g, 1, none⟩ = some (.int .i64 n1) ∧ w'.cell? ⟨g, 2, none⟩ = some (.string b1) ∧ w'.cell? ⟨g, 3, none⟩ = some (.int .i64 t1) ∧ w'.cell? ⟨g + 1, 0, none⟩ = some (.int .u8 s2) ∧ w'.cell? ⟨g + 1, 1, none⟩ = some (.int .i64 n2) ∧ w'.cell? ⟨g + 1, 2, none⟩ = some (.string b2) ∧ w'.cell? ⟨g + 1, 3, none⟩ = some (.int .i64 t2)) (first | (go_split_ands; refine ⟨?_, ?_, ?_, ?_, ?_, ?_, ?_, ?_⟩ <;> (first | assumption | exact Wr.cellOf (by assumption) (by assumption) (by simp)))) (first | (go_at_call 10; refine (aA _ _ _ _ (by assumption) _).mono ?_; rintro e wa ⟨rfl, ka⟩; have acc := Acc.mk (acc.h.trans ka)))
  replace acc := acc.h
  clear c0 c1 c2 c3 e0 e1 e2 e3
  go_wp2_with fail
  refine (d1 _).mono ?_
  rintro e v1 ⟨rfl, u1⟩
  replace acc := acc.trans u1
  clear u1 d1
  go_wp2_with fail
  refine (d2 _).mono ?_
  rintro e v2 ⟨rfl, u2⟩
  replace acc := acc.trans u2
  clear u2 d2
  go_wp2_with fail
  refine (d3 _).mono ?_
  rintro e v3 ⟨rfl, u3⟩
  replace acc := acc.trans u3
  clear u3 d3
  go_wp2_with fail
  refine (d4 _).mono ?_
  rintro e v4 ⟨rfl, u4⟩
  replace acc := acc.trans u4
  clear u4 d4
  go_wp2_with fail
  refine (d5 _).mono ?_
  rintro e v5 ⟨rfl, u5⟩
  replace acc := acc.trans u5
  clear u5 d5
  go_wp2_with fail
  refine (d6 _).mono ?_
  rintro e v6 ⟨rfl, u6⟩
  replace acc := acc.trans u6
  clear u6 d6
  go_wp2_with fail
  refine (d7 _).mono ?_
  rintro e v7 ⟨rfl, u7⟩
  replace acc := acc.trans u7
  clear u7 d7
  go_wp2_with fail
  obtain ⟨wy, hwy⟩ : ∃ wy, v7.alloc (.cells #[.int .i64 3, .int .i64 1, .string ⟨#[]⟩, .int .i64 0] 31) = wy := ⟨_, rfl⟩
  obtain ⟨gy, hgy⟩ : ∃ gy, v7.heap.size = gy := ⟨_, rfl⟩
  have hb := Blk.new v7 31 #[.int .i64 3, .int .i64 1, .string ⟨#[]⟩, .int .i64 0]
  rw [hwy, hgy] at hb
  have c0 := hb.cell 0
  have c1 := hb.cell 1
  have c2 := hb.cell 2
  have c3 := hb.cell 3
  simp at c0 c1 c2 c3
  replace acc := acc.alloc (.cells #[.int .i64 3, .int .i64 1, .string ⟨#[]⟩, .int .i64 0] 31)
  rw [hwy] at acc
  rw [hwy, hgy]
  clear hwy hgy hb
  replace acc := Acc.mk acc.drew
  have accy := Acc.mk (Wr.refl [] wy).drew
  go_region_held3 (fun w' => w'.cell? ⟨gy, 0, none⟩ = some (.int .i64 3) ∧ w'.cell? ⟨gy, 1, none⟩ = some (.int .i64 1) ∧ w'.cell? ⟨gy, 2, none⟩ = some (.string ⟨#[]⟩) ∧ w'.cell? ⟨gy, 3, none⟩ = some (.int .i64 0)) (first | (go_split_ands; refine ⟨?_, ?_, ?_, ?_⟩ <;> (first | assumption | exact Wr.cellOf (by assumption) (by assumption) (by simp)))) (first | (go_at_call 12; refine (sY _ _).mono ?_; rintro e wa ⟨rfl, ka⟩; have acc := Acc.mk (acc.h.trans ka); have accy := Acc.mk (accy.h.trans ka)) | (go_at_call 9; refine (hw _).mono ?_; rintro e wa ⟨rfl, ka⟩; have acc := Acc.mk (acc.h.trans ka); have accy := Acc.mk (accy.h.trans ka)))
  have c0 := accy.h.cellOf c0 (by simp)
  have c1 := accy.h.cellOf c1 (by simp)
  have c2 := accy.h.cellOf c2 (by simp)
  have c3 := accy.h.cellOf c3 (by simp)
  clear accy ka
  go_wp2_with fail
  refine (sY _ _).mono ?_
  rintro e z1 ⟨rfl, k1⟩
  replace acc := Acc.mk (acc.h.trans k1)
  have c0 := k1.cellOf c0 (by simp)
  have c1 := k1.cellOf c1 (by simp)
  have c2 := k1.cellOf c2 (by simp)
  have c3 := k1.cellOf c3 (by simp)
  clear k1
  go_wp2_with fail
  refine (sY _ _).mono ?_
  rintro e z2 ⟨rfl, k2⟩
  replace acc := Acc.mk (acc.h.trans k2)
  have c0 := k2.cellOf c0 (by simp)
  have c1 := k2.cellOf c1 (by simp)
  have c2 := k2.cellOf c2 (by simp)
  have c3 := k2.cellOf c3 (by simp)
  clear k2
  go_wp2_with fail
  refine (sY _ _).mono ?_
  rintro e z3 ⟨rfl, k3⟩
  replace acc := Acc.mk (acc.h.trans k3)
  have c0 := k3.cellOf c0 (by simp)
  have c1 := k3.cellOf c1 (by simp)
  have c2 := k3.cellOf c2 (by simp)
  have c3 := k3.cellOf c3 (by simp)
  clear k3
  go_wp2_with fail
  replace acc := Acc.mk acc.h.drew
  have accy := Acc.mk (Wr.refl [] z3).drew
  go_region_held3 (fun w' => w'.cell? ⟨gy, 0, none⟩ = some (.int .i64 3) ∧ w'.cell? ⟨gy, 1, none⟩ = some (.int .i64 1) ∧ w'.cell? ⟨gy, 2, none⟩ = some (.string ⟨#[]⟩) ∧ w'.cell? ⟨gy, 3, none⟩ = some (.int .i64 0)) (first | (go_split_ands; refine ⟨?_, ?_, ?_, ?_⟩ <;> (first | assumption | exact Wr.cellOf (by assumption) (by assumption) (by simp)))) (first | (go_at_call 12; refine (sY _ _).mono ?_; rintro e wa ⟨rfl, ka⟩; have acc := Acc.mk (acc.h.trans ka); have accy := Acc.mk (accy.h.trans ka)) | (go_at_call 9; refine (hw _).mono ?_; rintro e wa ⟨rfl, ka⟩; have acc := Acc.mk (acc.h.trans ka); have accy := Acc.mk (accy.h.trans ka)))
  go_wp2_with fail
  go_ret
  exact ⟨rfl, acc.h⟩
set_option maxRecDepth 100000 in
set_option maxHeartbeats 8000000 in
theorem order_gt (s1 n1 t1 s2 n2 t2 : Int) (b1 b2 : ByteArray) (o1 : RawOk s1 n1 t1 b1) (o2 : RawOk s2 n2 t2 b2) (hv : decide (wrap64 ((b1.size : Int) + b2.size) > 4096) = false) (h10 : doesK 10 (rawK s1 n1 t1 b1) (rawK s2 n2 t2 b2) = (KV.truth false, 0)) (h12 : doesK 12 (rawK s1 n1 t1 b1) (rawK s2 n2 t2 b2) = (KV.truth true, 0)) (h8 : doesK 8 (rawK s1 n1 t1 b1) (rawK s2 n2 t2 b2) = (KV.truth false, 0)) (h9 : doesK 9 (rawK s1 n1 t1 b1) (rawK s2 n2 t2 b2) = (KV.truth true, 0)) (h11 : doesK 11 (rawK s1 n1 t1 b1) (rawK s2 n2 t2 b2) = (KV.truth false, 0)) (h13 : doesK 13 (rawK s1 n1 t1 b1) (rawK s2 n2 t2 b2) = (KV.truth true, 0)) (ht : doesK 12 (rawK s2 n2 t2 b2) (rawK s1 n1 t1 b1) = (KV.truth false, 0)) (w : World) :
    Calls Try.prog 3 #[rawV s1 n1 t1 b1, rawV s2 n2 t2 b2] w fun e w' => e = .returned (.bool true) ∧ Wr [] w w' := by
  have hh := fun w => heavy_any s1 n1 t1 s2 n2 t2 b1 b2 o1.b o2.b w
  rw [hv] at hh
  clear hv
  have hw := fun w => works_any w
  have aA := any_any
  have x1 := rawK_ok o1
  have x2 := rawK_ok o2
  obtain ⟨FX, hFX⟩ : ∃ FX : Int → Int → Int → ByteArray → Value, ∀ s n t b, FX s n t b = (rawK s n t b).val := ⟨_, fun _ _ _ _ => rfl⟩
  simp only [← hFX] at aA
  have d1 := fun w => does_op10 (rawK s1 n1 t1 b1) (rawK s2 n2 t2 b2) x1 x2 w
  rw [h10] at d1
  simp only [← hFX] at d1
  have d2 := fun w => does_op12 (rawK s1 n1 t1 b1) (rawK s2 n2 t2 b2) x1 x2 w
  rw [h12] at d2
  simp only [← hFX] at d2
  have d3 := fun w => does_op8 (rawK s1 n1 t1 b1) (rawK s2 n2 t2 b2) x1 x2 w
  rw [h8] at d3
  simp only [← hFX] at d3
  have d4 := fun w => does_op9 (rawK s1 n1 t1 b1) (rawK s2 n2 t2 b2) x1 x2 w
  rw [h9] at d4
  simp only [← hFX] at d4
  have d5 := fun w => does_op11 (rawK s1 n1 t1 b1) (rawK s2 n2 t2 b2) x1 x2 w
  rw [h11] at d5
  simp only [← hFX] at d5
  have d6 := fun w => does_op13 (rawK s1 n1 t1 b1) (rawK s2 n2 t2 b2) x1 x2 w
  rw [h13] at d6
  simp only [← hFX] at d6
  have d7 := fun w => does_op12 (rawK s2 n2 t2 b2) (rawK s1 n1 t1 b1) x2 x1 w
  rw [ht] at d7
  simp only [← hFX] at d7
  simp only [KV.truth_val, KV.none_val] at d1 d2 d3 d4 d5 d6 d7
  clear x1 x2 h10 h12 h8 h9 h11 h13 ht hFX
  have sY := fun b w => same_yes b w
  unfold rawV at hh aA ⊢
  obtain ⟨w0, hw0⟩ : ∃ w0, (w.alloc (.cells #[.int .u8 s1, .int .i64 n1, .string b1, .int .i64 t1] 23)).alloc (.cells #[.int .u8 s2, .int .i64 n2, .string b2, .int .i64 t2] 23) = w0 := ⟨_, rfl⟩
  obtain ⟨g, hg⟩ : ∃ g, w.heap.size = g := ⟨_, rfl⟩
  have acc : Wr [] w w0 := by rw [← hw0]; exact ((Wr.refl _ _).alloc _).alloc _
  have hb1 : Blk w0 g 23 #[.int .u8 s1, .int .i64 n1, .string b1, .int .i64 t1] := by rw [← hw0, ← hg]; exact (Blk.new _ _ _).alloc _
  have hb2 : Blk w0 (g + 1) 23 #[.int .u8 s2, .int .i64 n2, .string b2, .int .i64 t2] := by
    have hb := Blk.new (w.alloc (.cells #[.int .u8 s1, .int .i64 n1, .string b1, .int .i64 t1] 23)) 23 #[.int .u8 s2, .int .i64 n2, .string b2, .int .i64 t2]
    rw [show (w.alloc (.cells #[.int .u8 s1, .int .i64 n1, .string b1, .int .i64 t1] 23)).heap.size = g + 1 by simp [hg], hw0] at hb
    exact hb
  have c0 := hb1.cell 0
  have c1 := hb1.cell 1
  have c2 := hb1.cell 2
  have c3 := hb1.cell 3
  have e0 := hb2.cell 0
  have e1 := hb2.cell 1
  have e2 := hb2.cell 2
  have e3 := hb2.cell 3
  simp at c0 c1 c2 c3 e0 e1 e2 e3
  have Hw0 := Lib.hid hw0
  have Hg := Lib.hid hg
  clear hw0 hg hb1 hb2
  go_enter Try.func3, Try.ntmps3
  go_wp2_with fail
  rw [Hw0.out, Hg.out]
  go_wp2_with fail
  refine (hh _).mono ?_
  rintro e wh ⟨rfl, kh⟩
  replace acc := acc.trans kh
  have c0 := kh.cellOf c0 (by simp)
  have c1 := kh.cellOf c1 (by simp)
  have c2 := kh.cellOf c2 (by simp)
  have c3 := kh.cellOf c3 (by simp)
  have e0 := kh.cellOf e0 (by simp)
  have e1 := kh.cellOf e1 (by simp)
  have e2 := kh.cellOf e2 (by simp)
  have e3 := kh.cellOf e3 (by simp)
  clear kh
  go_wp2_with fail
  replace acc := Acc.mk acc.drew
  go_region_held3 (fun w' => w'.cell? ⟨g, 0, none⟩ = some (.int .u8 s1) ∧ w'.cell? ⟨g, 1, none⟩ = some (.int .i64 n1) ∧ w'.cell? ⟨g, 2, none⟩ = some (.string b1) ∧ w'.cell? ⟨g, 3, none⟩ = some (.int .i64 t1) ∧ w'.cell? ⟨g + 1, 0, none⟩ = some (.int .u8 s2) ∧ w'.cell? ⟨g + 1, 1, none⟩ = some (.int .i64 n2) ∧ w'.cell? ⟨g + 1, 2, none⟩ = some (.string b2) ∧ w'.cell? ⟨g + 1, 3, none⟩ = some (.int .i64 t2)) (first | (go_split_ands; refine ⟨?_, ?_, ?_, ?_, ?_, ?_, ?_, ?_⟩ <;> (first | assumption | exact Wr.cellOf (by assumption) (by assumption) (by simp)))) (first | (go_at_call 10; refine (aA _ _ _ _ (by assumption) _).mono ?_; rintro e wa ⟨rfl, ka⟩; have acc := Acc.mk (acc.h.trans ka)))
  replace acc := acc.h
  clear c0 c1 c2 c3 e0 e1 e2 e3
  go_wp2_with fail
  refine (d1 _).mono ?_
  rintro e v1 ⟨rfl, u1⟩
  replace acc := acc.trans u1
  clear u1 d1
  go_wp2_with fail
  refine (d2 _).mono ?_
  rintro e v2 ⟨rfl, u2⟩
  replace acc := acc.trans u2
  clear u2 d2
  go_wp2_with fail
  refine (d3 _).mono ?_
  rintro e v3 ⟨rfl, u3⟩
  replace acc := acc.trans u3
  clear u3 d3
  go_wp2_with fail
  refine (d4 _).mono ?_
  rintro e v4 ⟨rfl, u4⟩
  replace acc := acc.trans u4
  clear u4 d4
  go_wp2_with fail
  refine (d5 _).mono ?_
  rintro e v5 ⟨rfl, u5⟩
  replace acc := acc.trans u5
  clear u5 d5
  go_wp2_with fail
  refine (d6 _).mono ?_
  rintro e v6 ⟨rfl, u6⟩
  replace acc := acc.trans u6
  clear u6 d6
  go_wp2_with fail
  refine (d7 _).mono ?_
  rintro e v7 ⟨rfl, u7⟩
  replace acc := acc.trans u7
  clear u7 d7
  go_wp2_with fail
  obtain ⟨wy, hwy⟩ : ∃ wy, v7.alloc (.cells #[.int .i64 3, .int .i64 1, .string ⟨#[]⟩, .int .i64 0] 31) = wy := ⟨_, rfl⟩
  obtain ⟨gy, hgy⟩ : ∃ gy, v7.heap.size = gy := ⟨_, rfl⟩
  have hb := Blk.new v7 31 #[.int .i64 3, .int .i64 1, .string ⟨#[]⟩, .int .i64 0]
  rw [hwy, hgy] at hb
  have c0 := hb.cell 0
  have c1 := hb.cell 1
  have c2 := hb.cell 2
  have c3 := hb.cell 3
  simp at c0 c1 c2 c3
  replace acc := acc.alloc (.cells #[.int .i64 3, .int .i64 1, .string ⟨#[]⟩, .int .i64 0] 31)
  rw [hwy] at acc
  rw [hwy, hgy]
  clear hwy hgy hb
  replace acc := Acc.mk acc.drew
  have accy := Acc.mk (Wr.refl [] wy).drew
  go_region_held3 (fun w' => w'.cell? ⟨gy, 0, none⟩ = some (.int .i64 3) ∧ w'.cell? ⟨gy, 1, none⟩ = some (.int .i64 1) ∧ w'.cell? ⟨gy, 2, none⟩ = some (.string ⟨#[]⟩) ∧ w'.cell? ⟨gy, 3, none⟩ = some (.int .i64 0)) (first | (go_split_ands; refine ⟨?_, ?_, ?_, ?_⟩ <;> (first | assumption | exact Wr.cellOf (by assumption) (by assumption) (by simp)))) (first | (go_at_call 12; refine (sY _ _).mono ?_; rintro e wa ⟨rfl, ka⟩; have acc := Acc.mk (acc.h.trans ka); have accy := Acc.mk (accy.h.trans ka)) | (go_at_call 9; refine (hw _).mono ?_; rintro e wa ⟨rfl, ka⟩; have acc := Acc.mk (acc.h.trans ka); have accy := Acc.mk (accy.h.trans ka)))
  have c0 := accy.h.cellOf c0 (by simp)
  have c1 := accy.h.cellOf c1 (by simp)
  have c2 := accy.h.cellOf c2 (by simp)
  have c3 := accy.h.cellOf c3 (by simp)
  clear accy ka
  go_wp2_with fail
  refine (sY _ _).mono ?_
  rintro e z1 ⟨rfl, k1⟩
  replace acc := Acc.mk (acc.h.trans k1)
  have c0 := k1.cellOf c0 (by simp)
  have c1 := k1.cellOf c1 (by simp)
  have c2 := k1.cellOf c2 (by simp)
  have c3 := k1.cellOf c3 (by simp)
  clear k1
  go_wp2_with fail
  refine (sY _ _).mono ?_
  rintro e z2 ⟨rfl, k2⟩
  replace acc := Acc.mk (acc.h.trans k2)
  have c0 := k2.cellOf c0 (by simp)
  have c1 := k2.cellOf c1 (by simp)
  have c2 := k2.cellOf c2 (by simp)
  have c3 := k2.cellOf c3 (by simp)
  clear k2
  go_wp2_with fail
  refine (sY _ _).mono ?_
  rintro e z3 ⟨rfl, k3⟩
  replace acc := Acc.mk (acc.h.trans k3)
  have c0 := k3.cellOf c0 (by simp)
  have c1 := k3.cellOf c1 (by simp)
  have c2 := k3.cellOf c2 (by simp)
  have c3 := k3.cellOf c3 (by simp)
  clear k3
  go_wp2_with fail
  replace acc := Acc.mk acc.h.drew
  have accy := Acc.mk (Wr.refl [] z3).drew
  go_region_held3 (fun w' => w'.cell? ⟨gy, 0, none⟩ = some (.int .i64 3) ∧ w'.cell? ⟨gy, 1, none⟩ = some (.int .i64 1) ∧ w'.cell? ⟨gy, 2, none⟩ = some (.string ⟨#[]⟩) ∧ w'.cell? ⟨gy, 3, none⟩ = some (.int .i64 0)) (first | (go_split_ands; refine ⟨?_, ?_, ?_, ?_⟩ <;> (first | assumption | exact Wr.cellOf (by assumption) (by assumption) (by simp)))) (first | (go_at_call 12; refine (sY _ _).mono ?_; rintro e wa ⟨rfl, ka⟩; have acc := Acc.mk (acc.h.trans ka); have accy := Acc.mk (accy.h.trans ka)) | (go_at_call 9; refine (hw _).mono ?_; rintro e wa ⟨rfl, ka⟩; have acc := Acc.mk (acc.h.trans ka); have accy := Acc.mk (accy.h.trans ka)))
  go_wp2_with fail
  go_ret
  exact ⟨rfl, acc.h⟩
set_option maxRecDepth 100000 in
set_option maxHeartbeats 8000000 in
theorem order_eq (s1 n1 t1 s2 n2 t2 : Int) (b1 b2 : ByteArray) (o1 : RawOk s1 n1 t1 b1) (o2 : RawOk s2 n2 t2 b2) (hv : decide (wrap64 ((b1.size : Int) + b2.size) > 4096) = false) (h10 : doesK 10 (rawK s1 n1 t1 b1) (rawK s2 n2 t2 b2) = (KV.truth false, 0)) (h12 : doesK 12 (rawK s1 n1 t1 b1) (rawK s2 n2 t2 b2) = (KV.truth false, 0)) (h8 : doesK 8 (rawK s1 n1 t1 b1) (rawK s2 n2 t2 b2) = (KV.truth true, 0)) (h9 : doesK 9 (rawK s1 n1 t1 b1) (rawK s2 n2 t2 b2) = (KV.truth false, 0)) (h11 : doesK 11 (rawK s1 n1 t1 b1) (rawK s2 n2 t2 b2) = (KV.truth true, 0)) (h13 : doesK 13 (rawK s1 n1 t1 b1) (rawK s2 n2 t2 b2) = (KV.truth true, 0)) (ht : doesK 12 (rawK s2 n2 t2 b2) (rawK s1 n1 t1 b1) = (KV.truth false, 0)) (w : World) :
    Calls Try.prog 3 #[rawV s1 n1 t1 b1, rawV s2 n2 t2 b2] w fun e w' => e = .returned (.bool true) ∧ Wr [] w w' := by
  have hh := fun w => heavy_any s1 n1 t1 s2 n2 t2 b1 b2 o1.b o2.b w
  rw [hv] at hh
  clear hv
  have hw := fun w => works_any w
  have aA := any_any
  have x1 := rawK_ok o1
  have x2 := rawK_ok o2
  obtain ⟨FX, hFX⟩ : ∃ FX : Int → Int → Int → ByteArray → Value, ∀ s n t b, FX s n t b = (rawK s n t b).val := ⟨_, fun _ _ _ _ => rfl⟩
  simp only [← hFX] at aA
  have d1 := fun w => does_op10 (rawK s1 n1 t1 b1) (rawK s2 n2 t2 b2) x1 x2 w
  rw [h10] at d1
  simp only [← hFX] at d1
  have d2 := fun w => does_op12 (rawK s1 n1 t1 b1) (rawK s2 n2 t2 b2) x1 x2 w
  rw [h12] at d2
  simp only [← hFX] at d2
  have d3 := fun w => does_op8 (rawK s1 n1 t1 b1) (rawK s2 n2 t2 b2) x1 x2 w
  rw [h8] at d3
  simp only [← hFX] at d3
  have d4 := fun w => does_op9 (rawK s1 n1 t1 b1) (rawK s2 n2 t2 b2) x1 x2 w
  rw [h9] at d4
  simp only [← hFX] at d4
  have d5 := fun w => does_op11 (rawK s1 n1 t1 b1) (rawK s2 n2 t2 b2) x1 x2 w
  rw [h11] at d5
  simp only [← hFX] at d5
  have d6 := fun w => does_op13 (rawK s1 n1 t1 b1) (rawK s2 n2 t2 b2) x1 x2 w
  rw [h13] at d6
  simp only [← hFX] at d6
  have d7 := fun w => does_op12 (rawK s2 n2 t2 b2) (rawK s1 n1 t1 b1) x2 x1 w
  rw [ht] at d7
  simp only [← hFX] at d7
  simp only [KV.truth_val, KV.none_val] at d1 d2 d3 d4 d5 d6 d7
  clear x1 x2 h10 h12 h8 h9 h11 h13 ht hFX
  have sY := fun b w => same_yes b w
  unfold rawV at hh aA ⊢
  obtain ⟨w0, hw0⟩ : ∃ w0, (w.alloc (.cells #[.int .u8 s1, .int .i64 n1, .string b1, .int .i64 t1] 23)).alloc (.cells #[.int .u8 s2, .int .i64 n2, .string b2, .int .i64 t2] 23) = w0 := ⟨_, rfl⟩
  obtain ⟨g, hg⟩ : ∃ g, w.heap.size = g := ⟨_, rfl⟩
  have acc : Wr [] w w0 := by rw [← hw0]; exact ((Wr.refl _ _).alloc _).alloc _
  have hb1 : Blk w0 g 23 #[.int .u8 s1, .int .i64 n1, .string b1, .int .i64 t1] := by rw [← hw0, ← hg]; exact (Blk.new _ _ _).alloc _
  have hb2 : Blk w0 (g + 1) 23 #[.int .u8 s2, .int .i64 n2, .string b2, .int .i64 t2] := by
    have hb := Blk.new (w.alloc (.cells #[.int .u8 s1, .int .i64 n1, .string b1, .int .i64 t1] 23)) 23 #[.int .u8 s2, .int .i64 n2, .string b2, .int .i64 t2]
    rw [show (w.alloc (.cells #[.int .u8 s1, .int .i64 n1, .string b1, .int .i64 t1] 23)).heap.size = g + 1 by simp [hg], hw0] at hb
    exact hb
  have c0 := hb1.cell 0
  have c1 := hb1.cell 1
  have c2 := hb1.cell 2
  have c3 := hb1.cell 3
  have e0 := hb2.cell 0
  have e1 := hb2.cell 1
  have e2 := hb2.cell 2
  have e3 := hb2.cell 3
  simp at c0 c1 c2 c3 e0 e1 e2 e3
  have Hw0 := Lib.hid hw0
  have Hg := Lib.hid hg
  clear hw0 hg hb1 hb2
  go_enter Try.func3, Try.ntmps3
  go_wp2_with fail
  rw [Hw0.out, Hg.out]
  go_wp2_with fail
  refine (hh _).mono ?_
  rintro e wh ⟨rfl, kh⟩
  replace acc := acc.trans kh
  have c0 := kh.cellOf c0 (by simp)
  have c1 := kh.cellOf c1 (by simp)
  have c2 := kh.cellOf c2 (by simp)
  have c3 := kh.cellOf c3 (by simp)
  have e0 := kh.cellOf e0 (by simp)
  have e1 := kh.cellOf e1 (by simp)
  have e2 := kh.cellOf e2 (by simp)
  have e3 := kh.cellOf e3 (by simp)
  clear kh
  go_wp2_with fail
  replace acc := Acc.mk acc.drew
  go_region_held3 (fun w' => w'.cell? ⟨g, 0, none⟩ = some (.int .u8 s1) ∧ w'.cell? ⟨g, 1, none⟩ = some (.int .i64 n1) ∧ w'.cell? ⟨g, 2, none⟩ = some (.string b1) ∧ w'.cell? ⟨g, 3, none⟩ = some (.int .i64 t1) ∧ w'.cell? ⟨g + 1, 0, none⟩ = some (.int .u8 s2) ∧ w'.cell? ⟨g + 1, 1, none⟩ = some (.int .i64 n2) ∧ w'.cell? ⟨g + 1, 2, none⟩ = some (.string b2) ∧ w'.cell? ⟨g + 1, 3, none⟩ = some (.int .i64 t2)) (first | (go_split_ands; refine ⟨?_, ?_, ?_, ?_, ?_, ?_, ?_, ?_⟩ <;> (first | assumption | exact Wr.cellOf (by assumption) (by assumption) (by simp)))) (first | (go_at_call 10; refine (aA _ _ _ _ (by assumption) _).mono ?_; rintro e wa ⟨rfl, ka⟩; have acc := Acc.mk (acc.h.trans ka)))
  replace acc := acc.h
  clear c0 c1 c2 c3 e0 e1 e2 e3
  go_wp2_with fail
  refine (d1 _).mono ?_
  rintro e v1 ⟨rfl, u1⟩
  replace acc := acc.trans u1
  clear u1 d1
  go_wp2_with fail
  refine (d2 _).mono ?_
  rintro e v2 ⟨rfl, u2⟩
  replace acc := acc.trans u2
  clear u2 d2
  go_wp2_with fail
  refine (d3 _).mono ?_
  rintro e v3 ⟨rfl, u3⟩
  replace acc := acc.trans u3
  clear u3 d3
  go_wp2_with fail
  refine (d4 _).mono ?_
  rintro e v4 ⟨rfl, u4⟩
  replace acc := acc.trans u4
  clear u4 d4
  go_wp2_with fail
  refine (d5 _).mono ?_
  rintro e v5 ⟨rfl, u5⟩
  replace acc := acc.trans u5
  clear u5 d5
  go_wp2_with fail
  refine (d6 _).mono ?_
  rintro e v6 ⟨rfl, u6⟩
  replace acc := acc.trans u6
  clear u6 d6
  go_wp2_with fail
  refine (d7 _).mono ?_
  rintro e v7 ⟨rfl, u7⟩
  replace acc := acc.trans u7
  clear u7 d7
  go_wp2_with fail
  obtain ⟨wy, hwy⟩ : ∃ wy, v7.alloc (.cells #[.int .i64 3, .int .i64 1, .string ⟨#[]⟩, .int .i64 0] 31) = wy := ⟨_, rfl⟩
  obtain ⟨gy, hgy⟩ : ∃ gy, v7.heap.size = gy := ⟨_, rfl⟩
  have hb := Blk.new v7 31 #[.int .i64 3, .int .i64 1, .string ⟨#[]⟩, .int .i64 0]
  rw [hwy, hgy] at hb
  have c0 := hb.cell 0
  have c1 := hb.cell 1
  have c2 := hb.cell 2
  have c3 := hb.cell 3
  simp at c0 c1 c2 c3
  replace acc := acc.alloc (.cells #[.int .i64 3, .int .i64 1, .string ⟨#[]⟩, .int .i64 0] 31)
  rw [hwy] at acc
  rw [hwy, hgy]
  clear hwy hgy hb
  replace acc := Acc.mk acc.drew
  have accy := Acc.mk (Wr.refl [] wy).drew
  go_region_held3 (fun w' => w'.cell? ⟨gy, 0, none⟩ = some (.int .i64 3) ∧ w'.cell? ⟨gy, 1, none⟩ = some (.int .i64 1) ∧ w'.cell? ⟨gy, 2, none⟩ = some (.string ⟨#[]⟩) ∧ w'.cell? ⟨gy, 3, none⟩ = some (.int .i64 0)) (first | (go_split_ands; refine ⟨?_, ?_, ?_, ?_⟩ <;> (first | assumption | exact Wr.cellOf (by assumption) (by assumption) (by simp)))) (first | (go_at_call 12; refine (sY _ _).mono ?_; rintro e wa ⟨rfl, ka⟩; have acc := Acc.mk (acc.h.trans ka); have accy := Acc.mk (accy.h.trans ka)) | (go_at_call 9; refine (hw _).mono ?_; rintro e wa ⟨rfl, ka⟩; have acc := Acc.mk (acc.h.trans ka); have accy := Acc.mk (accy.h.trans ka)))
  have c0 := accy.h.cellOf c0 (by simp)
  have c1 := accy.h.cellOf c1 (by simp)
  have c2 := accy.h.cellOf c2 (by simp)
  have c3 := accy.h.cellOf c3 (by simp)
  clear accy ka
  go_wp2_with fail
  refine (sY _ _).mono ?_
  rintro e z1 ⟨rfl, k1⟩
  replace acc := Acc.mk (acc.h.trans k1)
  have c0 := k1.cellOf c0 (by simp)
  have c1 := k1.cellOf c1 (by simp)
  have c2 := k1.cellOf c2 (by simp)
  have c3 := k1.cellOf c3 (by simp)
  clear k1
  go_wp2_with fail
  refine (sY _ _).mono ?_
  rintro e z2 ⟨rfl, k2⟩
  replace acc := Acc.mk (acc.h.trans k2)
  have c0 := k2.cellOf c0 (by simp)
  have c1 := k2.cellOf c1 (by simp)
  have c2 := k2.cellOf c2 (by simp)
  have c3 := k2.cellOf c3 (by simp)
  clear k2
  go_wp2_with fail
  refine (sY _ _).mono ?_
  rintro e z3 ⟨rfl, k3⟩
  replace acc := Acc.mk (acc.h.trans k3)
  have c0 := k3.cellOf c0 (by simp)
  have c1 := k3.cellOf c1 (by simp)
  have c2 := k3.cellOf c2 (by simp)
  have c3 := k3.cellOf c3 (by simp)
  clear k3
  go_wp2_with fail
  replace acc := Acc.mk acc.h.drew
  have accy := Acc.mk (Wr.refl [] z3).drew
  go_region_held3 (fun w' => w'.cell? ⟨gy, 0, none⟩ = some (.int .i64 3) ∧ w'.cell? ⟨gy, 1, none⟩ = some (.int .i64 1) ∧ w'.cell? ⟨gy, 2, none⟩ = some (.string ⟨#[]⟩) ∧ w'.cell? ⟨gy, 3, none⟩ = some (.int .i64 0)) (first | (go_split_ands; refine ⟨?_, ?_, ?_, ?_⟩ <;> (first | assumption | exact Wr.cellOf (by assumption) (by assumption) (by simp)))) (first | (go_at_call 12; refine (sY _ _).mono ?_; rintro e wa ⟨rfl, ka⟩; have acc := Acc.mk (acc.h.trans ka); have accy := Acc.mk (accy.h.trans ka)) | (go_at_call 9; refine (hw _).mono ?_; rintro e wa ⟨rfl, ka⟩; have acc := Acc.mk (acc.h.trans ka); have accy := Acc.mk (accy.h.trans ka)))
  go_wp2_with fail
  go_ret
  exact ⟨rfl, acc.h⟩
set_option maxRecDepth 100000 in
set_option maxHeartbeats 8000000 in
theorem order_bt (s1 n1 t1 s2 n2 t2 : Int) (b1 b2 : ByteArray) (o1 : RawOk s1 n1 t1 b1) (o2 : RawOk s2 n2 t2 b2) (hv : decide (wrap64 ((b1.size : Int) + b2.size) > 4096) = false) (v u : KV) (ev : Int) (h10 : doesK 10 (rawK s1 n1 t1 b1) (rawK s2 n2 t2 b2) = (KV.none_, 100)) (h12 : doesK 12 (rawK s1 n1 t1 b1) (rawK s2 n2 t2 b2) = (KV.none_, 100)) (h8 : doesK 8 (rawK s1 n1 t1 b1) (rawK s2 n2 t2 b2) = (KV.truth true, 0)) (h9 : doesK 9 (rawK s1 n1 t1 b1) (rawK s2 n2 t2 b2) = (KV.truth false, 0)) (h11 : doesK 11 (rawK s1 n1 t1 b1) (rawK s2 n2 t2 b2) = (v, ev)) (h13 : doesK 13 (rawK s1 n1 t1 b1) (rawK s2 n2 t2 b2) = (u, ev)) (ht : doesK 12 (rawK s2 n2 t2 b2) (rawK s1 n1 t1 b1) = (KV.none_, 100)) (w : World) :
    Calls Try.prog 3 #[rawV s1 n1 t1 b1, rawV s2 n2 t2 b2] w fun e w' => e = .returned (.bool true) ∧ Wr [] w w' := by
  have hh := fun w => heavy_any s1 n1 t1 s2 n2 t2 b1 b2 o1.b o2.b w
  rw [hv] at hh
  clear hv
  have hw := fun w => works_any w
  have aA := any_any
  have x1 := rawK_ok o1
  have x2 := rawK_ok o2
  obtain ⟨FX, hFX⟩ : ∃ FX : Int → Int → Int → ByteArray → Value, ∀ s n t b, FX s n t b = (rawK s n t b).val := ⟨_, fun _ _ _ _ => rfl⟩
  simp only [← hFX] at aA
  have d1 := fun w => does_op10 (rawK s1 n1 t1 b1) (rawK s2 n2 t2 b2) x1 x2 w
  rw [h10] at d1
  simp only [← hFX] at d1
  have d2 := fun w => does_op12 (rawK s1 n1 t1 b1) (rawK s2 n2 t2 b2) x1 x2 w
  rw [h12] at d2
  simp only [← hFX] at d2
  have d3 := fun w => does_op8 (rawK s1 n1 t1 b1) (rawK s2 n2 t2 b2) x1 x2 w
  rw [h8] at d3
  simp only [← hFX] at d3
  have d4 := fun w => does_op9 (rawK s1 n1 t1 b1) (rawK s2 n2 t2 b2) x1 x2 w
  rw [h9] at d4
  simp only [← hFX] at d4
  have d5 := fun w => does_op11 (rawK s1 n1 t1 b1) (rawK s2 n2 t2 b2) x1 x2 w
  rw [h11] at d5
  simp only [← hFX] at d5
  have d6 := fun w => does_op13 (rawK s1 n1 t1 b1) (rawK s2 n2 t2 b2) x1 x2 w
  rw [h13] at d6
  simp only [← hFX] at d6
  have d7 := fun w => does_op12 (rawK s2 n2 t2 b2) (rawK s1 n1 t1 b1) x2 x1 w
  rw [ht] at d7
  simp only [← hFX] at d7
  simp only [KV.truth_val, KV.none_val] at d1 d2 d3 d4 d5 d6 d7
  generalize v.val = vv at d5
  generalize u.val = uv at d6
  have hee : (ev != ev) = false := by simp
  clear x1 x2 h10 h12 h8 h9 h11 h13 ht hFX
  have sY := fun b w => same_yes b w
  unfold rawV at hh aA ⊢
  obtain ⟨w0, hw0⟩ : ∃ w0, (w.alloc (.cells #[.int .u8 s1, .int .i64 n1, .string b1, .int .i64 t1] 23)).alloc (.cells #[.int .u8 s2, .int .i64 n2, .string b2, .int .i64 t2] 23) = w0 := ⟨_, rfl⟩
  obtain ⟨g, hg⟩ : ∃ g, w.heap.size = g := ⟨_, rfl⟩
  have acc : Wr [] w w0 := by rw [← hw0]; exact ((Wr.refl _ _).alloc _).alloc _
  have hb1 : Blk w0 g 23 #[.int .u8 s1, .int .i64 n1, .string b1, .int .i64 t1] := by rw [← hw0, ← hg]; exact (Blk.new _ _ _).alloc _
  have hb2 : Blk w0 (g + 1) 23 #[.int .u8 s2, .int .i64 n2, .string b2, .int .i64 t2] := by
    have hb := Blk.new (w.alloc (.cells #[.int .u8 s1, .int .i64 n1, .string b1, .int .i64 t1] 23)) 23 #[.int .u8 s2, .int .i64 n2, .string b2, .int .i64 t2]
    rw [show (w.alloc (.cells #[.int .u8 s1, .int .i64 n1, .string b1, .int .i64 t1] 23)).heap.size = g + 1 by simp [hg], hw0] at hb
    exact hb
  have c0 := hb1.cell 0
  have c1 := hb1.cell 1
  have c2 := hb1.cell 2
  have c3 := hb1.cell 3
  have e0 := hb2.cell 0
  have e1 := hb2.cell 1
  have e2 := hb2.cell 2
  have e3 := hb2.cell 3
  simp at c0 c1 c2 c3 e0 e1 e2 e3
  have Hw0 := Lib.hid hw0
  have Hg := Lib.hid hg
  clear hw0 hg hb1 hb2
  go_enter Try.func3, Try.ntmps3
  go_wp2_with fail
  rw [Hw0.out, Hg.out]
  go_wp2_with fail
  refine (hh _).mono ?_
  rintro e wh ⟨rfl, kh⟩
  replace acc := acc.trans kh
  have c0 := kh.cellOf c0 (by simp)
  have c1 := kh.cellOf c1 (by simp)
  have c2 := kh.cellOf c2 (by simp)
  have c3 := kh.cellOf c3 (by simp)
  have e0 := kh.cellOf e0 (by simp)
  have e1 := kh.cellOf e1 (by simp)
  have e2 := kh.cellOf e2 (by simp)
  have e3 := kh.cellOf e3 (by simp)
  clear kh
  go_wp2_with fail
  replace acc := Acc.mk acc.drew
  go_region_held3 (fun w' => w'.cell? ⟨g, 0, none⟩ = some (.int .u8 s1) ∧ w'.cell? ⟨g, 1, none⟩ = some (.int .i64 n1) ∧ w'.cell? ⟨g, 2, none⟩ = some (.string b1) ∧ w'.cell? ⟨g, 3, none⟩ = some (.int .i64 t1) ∧ w'.cell? ⟨g + 1, 0, none⟩ = some (.int .u8 s2) ∧ w'.cell? ⟨g + 1, 1, none⟩ = some (.int .i64 n2) ∧ w'.cell? ⟨g + 1, 2, none⟩ = some (.string b2) ∧ w'.cell? ⟨g + 1, 3, none⟩ = some (.int .i64 t2)) (first | (go_split_ands; refine ⟨?_, ?_, ?_, ?_, ?_, ?_, ?_, ?_⟩ <;> (first | assumption | exact Wr.cellOf (by assumption) (by assumption) (by simp)))) (first | (go_at_call 10; refine (aA _ _ _ _ (by assumption) _).mono ?_; rintro e wa ⟨rfl, ka⟩; have acc := Acc.mk (acc.h.trans ka)))
  replace acc := acc.h
  clear c0 c1 c2 c3 e0 e1 e2 e3
  go_wp2_with fail
  refine (d1 _).mono ?_
  rintro e v1 ⟨rfl, u1⟩
  replace acc := acc.trans u1
  clear u1 d1
  go_wp2_with fail
  refine (d2 _).mono ?_
  rintro e v2 ⟨rfl, u2⟩
  replace acc := acc.trans u2
  clear u2 d2
  go_wp2_with fail
  refine (d3 _).mono ?_
  rintro e v3 ⟨rfl, u3⟩
  replace acc := acc.trans u3
  clear u3 d3
  go_wp2_with fail
  refine (d4 _).mono ?_
  rintro e v4 ⟨rfl, u4⟩
  replace acc := acc.trans u4
  clear u4 d4
  go_wp2_with fail
  refine (d5 _).mono ?_
  rintro e v5 ⟨rfl, u5⟩
  replace acc := acc.trans u5
  clear u5 d5
  go_wp2_with fail
  refine (d6 _).mono ?_
  rintro e v6 ⟨rfl, u6⟩
  replace acc := acc.trans u6
  clear u6 d6
  go_wp2_with fail
  refine (d7 _).mono ?_
  rintro e v7 ⟨rfl, u7⟩
  replace acc := acc.trans u7
  clear u7 d7
  go_wp2_with fail
  obtain ⟨wy, hwy⟩ : ∃ wy, v7.alloc (.cells #[.int .i64 3, .int .i64 1, .string ⟨#[]⟩, .int .i64 0] 31) = wy := ⟨_, rfl⟩
  obtain ⟨gy, hgy⟩ : ∃ gy, v7.heap.size = gy := ⟨_, rfl⟩
  have hb := Blk.new v7 31 #[.int .i64 3, .int .i64 1, .string ⟨#[]⟩, .int .i64 0]
  rw [hwy, hgy] at hb
  have c0 := hb.cell 0
  have c1 := hb.cell 1
  have c2 := hb.cell 2
  have c3 := hb.cell 3
  simp at c0 c1 c2 c3
  replace acc := acc.alloc (.cells #[.int .i64 3, .int .i64 1, .string ⟨#[]⟩, .int .i64 0] 31)
  rw [hwy] at acc
  rw [hwy, hgy]
  clear hwy hgy hb
  replace acc := Acc.mk acc.drew
  have accy := Acc.mk (Wr.refl [] wy).drew
  go_region_held3 (fun w' => w'.cell? ⟨gy, 0, none⟩ = some (.int .i64 3) ∧ w'.cell? ⟨gy, 1, none⟩ = some (.int .i64 1) ∧ w'.cell? ⟨gy, 2, none⟩ = some (.string ⟨#[]⟩) ∧ w'.cell? ⟨gy, 3, none⟩ = some (.int .i64 0)) (first | (go_split_ands; refine ⟨?_, ?_, ?_, ?_⟩ <;> (first | assumption | exact Wr.cellOf (by assumption) (by assumption) (by simp)))) (first | (go_at_call 12; refine (sY _ _).mono ?_; rintro e wa ⟨rfl, ka⟩; have acc := Acc.mk (acc.h.trans ka); have accy := Acc.mk (accy.h.trans ka)) | (go_at_call 9; refine (hw _).mono ?_; rintro e wa ⟨rfl, ka⟩; have acc := Acc.mk (acc.h.trans ka); have accy := Acc.mk (accy.h.trans ka)))
  go_wp2_with fail
  refine (hw _).mono ?_
  rintro e z1 ⟨rfl, k1⟩
  replace acc := Acc.mk (acc.h.trans k1)
  go_wp2_with fail
  go_ret
  exact ⟨rfl, acc.h⟩
set_option maxRecDepth 100000 in
set_option maxHeartbeats 8000000 in
theorem order_bf (s1 n1 t1 s2 n2 t2 : Int) (b1 b2 : ByteArray) (o1 : RawOk s1 n1 t1 b1) (o2 : RawOk s2 n2 t2 b2) (hv : decide (wrap64 ((b1.size : Int) + b2.size) > 4096) = false) (v u : KV) (ev : Int) (h10 : doesK 10 (rawK s1 n1 t1 b1) (rawK s2 n2 t2 b2) = (KV.none_, 100)) (h12 : doesK 12 (rawK s1 n1 t1 b1) (rawK s2 n2 t2 b2) = (KV.none_, 100)) (h8 : doesK 8 (rawK s1 n1 t1 b1) (rawK s2 n2 t2 b2) = (KV.truth false, 0)) (h9 : doesK 9 (rawK s1 n1 t1 b1) (rawK s2 n2 t2 b2) = (KV.truth true, 0)) (h11 : doesK 11 (rawK s1 n1 t1 b1) (rawK s2 n2 t2 b2) = (v, ev)) (h13 : doesK 13 (rawK s1 n1 t1 b1) (rawK s2 n2 t2 b2) = (u, ev)) (ht : doesK 12 (rawK s2 n2 t2 b2) (rawK s1 n1 t1 b1) = (KV.none_, 100)) (w : World) :
    Calls Try.prog 3 #[rawV s1 n1 t1 b1, rawV s2 n2 t2 b2] w fun e w' => e = .returned (.bool true) ∧ Wr [] w w' := by
  have hh := fun w => heavy_any s1 n1 t1 s2 n2 t2 b1 b2 o1.b o2.b w
  rw [hv] at hh
  clear hv
  have hw := fun w => works_any w
  have aA := any_any
  have x1 := rawK_ok o1
  have x2 := rawK_ok o2
  obtain ⟨FX, hFX⟩ : ∃ FX : Int → Int → Int → ByteArray → Value, ∀ s n t b, FX s n t b = (rawK s n t b).val := ⟨_, fun _ _ _ _ => rfl⟩
  simp only [← hFX] at aA
  have d1 := fun w => does_op10 (rawK s1 n1 t1 b1) (rawK s2 n2 t2 b2) x1 x2 w
  rw [h10] at d1
  simp only [← hFX] at d1
  have d2 := fun w => does_op12 (rawK s1 n1 t1 b1) (rawK s2 n2 t2 b2) x1 x2 w
  rw [h12] at d2
  simp only [← hFX] at d2
  have d3 := fun w => does_op8 (rawK s1 n1 t1 b1) (rawK s2 n2 t2 b2) x1 x2 w
  rw [h8] at d3
  simp only [← hFX] at d3
  have d4 := fun w => does_op9 (rawK s1 n1 t1 b1) (rawK s2 n2 t2 b2) x1 x2 w
  rw [h9] at d4
  simp only [← hFX] at d4
  have d5 := fun w => does_op11 (rawK s1 n1 t1 b1) (rawK s2 n2 t2 b2) x1 x2 w
  rw [h11] at d5
  simp only [← hFX] at d5
  have d6 := fun w => does_op13 (rawK s1 n1 t1 b1) (rawK s2 n2 t2 b2) x1 x2 w
  rw [h13] at d6
  simp only [← hFX] at d6
  have d7 := fun w => does_op12 (rawK s2 n2 t2 b2) (rawK s1 n1 t1 b1) x2 x1 w
  rw [ht] at d7
  simp only [← hFX] at d7
  simp only [KV.truth_val, KV.none_val] at d1 d2 d3 d4 d5 d6 d7
  generalize v.val = vv at d5
  generalize u.val = uv at d6
  have hee : (ev != ev) = false := by simp
  clear x1 x2 h10 h12 h8 h9 h11 h13 ht hFX
  have sY := fun b w => same_yes b w
  unfold rawV at hh aA ⊢
  obtain ⟨w0, hw0⟩ : ∃ w0, (w.alloc (.cells #[.int .u8 s1, .int .i64 n1, .string b1, .int .i64 t1] 23)).alloc (.cells #[.int .u8 s2, .int .i64 n2, .string b2, .int .i64 t2] 23) = w0 := ⟨_, rfl⟩
  obtain ⟨g, hg⟩ : ∃ g, w.heap.size = g := ⟨_, rfl⟩
  have acc : Wr [] w w0 := by rw [← hw0]; exact ((Wr.refl _ _).alloc _).alloc _
  have hb1 : Blk w0 g 23 #[.int .u8 s1, .int .i64 n1, .string b1, .int .i64 t1] := by rw [← hw0, ← hg]; exact (Blk.new _ _ _).alloc _
  have hb2 : Blk w0 (g + 1) 23 #[.int .u8 s2, .int .i64 n2, .string b2, .int .i64 t2] := by
    have hb := Blk.new (w.alloc (.cells #[.int .u8 s1, .int .i64 n1, .string b1, .int .i64 t1] 23)) 23 #[.int .u8 s2, .int .i64 n2, .string b2, .int .i64 t2]
    rw [show (w.alloc (.cells #[.int .u8 s1, .int .i64 n1, .string b1, .int .i64 t1] 23)).heap.size = g + 1 by simp [hg], hw0] at hb
    exact hb
  have c0 := hb1.cell 0
  have c1 := hb1.cell 1
  have c2 := hb1.cell 2
  have c3 := hb1.cell 3
  have e0 := hb2.cell 0
  have e1 := hb2.cell 1
  have e2 := hb2.cell 2
  have e3 := hb2.cell 3
  simp at c0 c1 c2 c3 e0 e1 e2 e3
  have Hw0 := Lib.hid hw0
  have Hg := Lib.hid hg
  clear hw0 hg hb1 hb2
  go_enter Try.func3, Try.ntmps3
  go_wp2_with fail
  rw [Hw0.out, Hg.out]
  go_wp2_with fail
  refine (hh _).mono ?_
  rintro e wh ⟨rfl, kh⟩
  replace acc := acc.trans kh
  have c0 := kh.cellOf c0 (by simp)
  have c1 := kh.cellOf c1 (by simp)
  have c2 := kh.cellOf c2 (by simp)
  have c3 := kh.cellOf c3 (by simp)
  have e0 := kh.cellOf e0 (by simp)
  have e1 := kh.cellOf e1 (by simp)
  have e2 := kh.cellOf e2 (by simp)
  have e3 := kh.cellOf e3 (by simp)
  clear kh
  go_wp2_with fail
  replace acc := Acc.mk acc.drew
  go_region_held3 (fun w' => w'.cell? ⟨g, 0, none⟩ = some (.int .u8 s1) ∧ w'.cell? ⟨g, 1, none⟩ = some (.int .i64 n1) ∧ w'.cell? ⟨g, 2, none⟩ = some (.string b1) ∧ w'.cell? ⟨g, 3, none⟩ = some (.int .i64 t1) ∧ w'.cell? ⟨g + 1, 0, none⟩ = some (.int .u8 s2) ∧ w'.cell? ⟨g + 1, 1, none⟩ = some (.int .i64 n2) ∧ w'.cell? ⟨g + 1, 2, none⟩ = some (.string b2) ∧ w'.cell? ⟨g + 1, 3, none⟩ = some (.int .i64 t2)) (first | (go_split_ands; refine ⟨?_, ?_, ?_, ?_, ?_, ?_, ?_, ?_⟩ <;> (first | assumption | exact Wr.cellOf (by assumption) (by assumption) (by simp)))) (first | (go_at_call 10; refine (aA _ _ _ _ (by assumption) _).mono ?_; rintro e wa ⟨rfl, ka⟩; have acc := Acc.mk (acc.h.trans ka)))
  replace acc := acc.h
  clear c0 c1 c2 c3 e0 e1 e2 e3
  go_wp2_with fail
  refine (d1 _).mono ?_
  rintro e v1 ⟨rfl, u1⟩
  replace acc := acc.trans u1
  clear u1 d1
  go_wp2_with fail
  refine (d2 _).mono ?_
  rintro e v2 ⟨rfl, u2⟩
  replace acc := acc.trans u2
  clear u2 d2
  go_wp2_with fail
  refine (d3 _).mono ?_
  rintro e v3 ⟨rfl, u3⟩
  replace acc := acc.trans u3
  clear u3 d3
  go_wp2_with fail
  refine (d4 _).mono ?_
  rintro e v4 ⟨rfl, u4⟩
  replace acc := acc.trans u4
  clear u4 d4
  go_wp2_with fail
  refine (d5 _).mono ?_
  rintro e v5 ⟨rfl, u5⟩
  replace acc := acc.trans u5
  clear u5 d5
  go_wp2_with fail
  refine (d6 _).mono ?_
  rintro e v6 ⟨rfl, u6⟩
  replace acc := acc.trans u6
  clear u6 d6
  go_wp2_with fail
  refine (d7 _).mono ?_
  rintro e v7 ⟨rfl, u7⟩
  replace acc := acc.trans u7
  clear u7 d7
  go_wp2_with fail
  obtain ⟨wy, hwy⟩ : ∃ wy, v7.alloc (.cells #[.int .i64 3, .int .i64 1, .string ⟨#[]⟩, .int .i64 0] 31) = wy := ⟨_, rfl⟩
  obtain ⟨gy, hgy⟩ : ∃ gy, v7.heap.size = gy := ⟨_, rfl⟩
  have hb := Blk.new v7 31 #[.int .i64 3, .int .i64 1, .string ⟨#[]⟩, .int .i64 0]
  rw [hwy, hgy] at hb
  have c0 := hb.cell 0
  have c1 := hb.cell 1
  have c2 := hb.cell 2
  have c3 := hb.cell 3
  simp at c0 c1 c2 c3
  replace acc := acc.alloc (.cells #[.int .i64 3, .int .i64 1, .string ⟨#[]⟩, .int .i64 0] 31)
  rw [hwy] at acc
  rw [hwy, hgy]
  clear hwy hgy hb
  replace acc := Acc.mk acc.drew
  have accy := Acc.mk (Wr.refl [] wy).drew
  go_region_held3 (fun w' => w'.cell? ⟨gy, 0, none⟩ = some (.int .i64 3) ∧ w'.cell? ⟨gy, 1, none⟩ = some (.int .i64 1) ∧ w'.cell? ⟨gy, 2, none⟩ = some (.string ⟨#[]⟩) ∧ w'.cell? ⟨gy, 3, none⟩ = some (.int .i64 0)) (first | (go_split_ands; refine ⟨?_, ?_, ?_, ?_⟩ <;> (first | assumption | exact Wr.cellOf (by assumption) (by assumption) (by simp)))) (first | (go_at_call 12; refine (sY _ _).mono ?_; rintro e wa ⟨rfl, ka⟩; have acc := Acc.mk (acc.h.trans ka); have accy := Acc.mk (accy.h.trans ka)) | (go_at_call 9; refine (hw _).mono ?_; rintro e wa ⟨rfl, ka⟩; have acc := Acc.mk (acc.h.trans ka); have accy := Acc.mk (accy.h.trans ka)))
  go_wp2_with fail
  refine (hw _).mono ?_
  rintro e z1 ⟨rfl, k1⟩
  replace acc := Acc.mk (acc.h.trans k1)
  go_wp2_with fail
  go_ret
  exact ⟨rfl, acc.h⟩
set_option maxRecDepth 100000 in
set_option maxHeartbeats 8000000 in
theorem order_no (s1 n1 t1 s2 n2 t2 : Int) (b1 b2 : ByteArray) (o1 : RawOk s1 n1 t1 b1) (o2 : RawOk s2 n2 t2 b2) (hv : decide (wrap64 ((b1.size : Int) + b2.size) > 4096) = false) (h10 : doesK 10 (rawK s1 n1 t1 b1) (rawK s2 n2 t2 b2) = (KV.none_, 100)) (h12 : doesK 12 (rawK s1 n1 t1 b1) (rawK s2 n2 t2 b2) = (KV.none_, 100)) (h8 : doesK 8 (rawK s1 n1 t1 b1) (rawK s2 n2 t2 b2) = (KV.none_, 100)) (h9 : doesK 9 (rawK s1 n1 t1 b1) (rawK s2 n2 t2 b2) = (KV.none_, 100)) (h11 : doesK 11 (rawK s1 n1 t1 b1) (rawK s2 n2 t2 b2) = (KV.none_, 100)) (h13 : doesK 13 (rawK s1 n1 t1 b1) (rawK s2 n2 t2 b2) = (KV.none_, 100)) (ht : doesK 12 (rawK s2 n2 t2 b2) (rawK s1 n1 t1 b1) = (KV.none_, 100)) (w : World) :
    Calls Try.prog 3 #[rawV s1 n1 t1 b1, rawV s2 n2 t2 b2] w fun e w' => e = .returned (.bool true) ∧ Wr [] w w' := by
  have hh := fun w => heavy_any s1 n1 t1 s2 n2 t2 b1 b2 o1.b o2.b w
  rw [hv] at hh
  clear hv
  have hw := fun w => works_any w
  have aA := any_any
  have x1 := rawK_ok o1
  have x2 := rawK_ok o2
  obtain ⟨FX, hFX⟩ : ∃ FX : Int → Int → Int → ByteArray → Value, ∀ s n t b, FX s n t b = (rawK s n t b).val := ⟨_, fun _ _ _ _ => rfl⟩
  simp only [← hFX] at aA
  have d1 := fun w => does_op10 (rawK s1 n1 t1 b1) (rawK s2 n2 t2 b2) x1 x2 w
  rw [h10] at d1
  simp only [← hFX] at d1
  have d2 := fun w => does_op12 (rawK s1 n1 t1 b1) (rawK s2 n2 t2 b2) x1 x2 w
  rw [h12] at d2
  simp only [← hFX] at d2
  have d3 := fun w => does_op8 (rawK s1 n1 t1 b1) (rawK s2 n2 t2 b2) x1 x2 w
  rw [h8] at d3
  simp only [← hFX] at d3
  have d4 := fun w => does_op9 (rawK s1 n1 t1 b1) (rawK s2 n2 t2 b2) x1 x2 w
  rw [h9] at d4
  simp only [← hFX] at d4
  have d5 := fun w => does_op11 (rawK s1 n1 t1 b1) (rawK s2 n2 t2 b2) x1 x2 w
  rw [h11] at d5
  simp only [← hFX] at d5
  have d6 := fun w => does_op13 (rawK s1 n1 t1 b1) (rawK s2 n2 t2 b2) x1 x2 w
  rw [h13] at d6
  simp only [← hFX] at d6
  have d7 := fun w => does_op12 (rawK s2 n2 t2 b2) (rawK s1 n1 t1 b1) x2 x1 w
  rw [ht] at d7
  simp only [← hFX] at d7
  simp only [KV.truth_val, KV.none_val] at d1 d2 d3 d4 d5 d6 d7
  clear x1 x2 h10 h12 h8 h9 h11 h13 ht hFX
  have sY := fun b w => same_yes b w
  unfold rawV at hh aA ⊢
  obtain ⟨w0, hw0⟩ : ∃ w0, (w.alloc (.cells #[.int .u8 s1, .int .i64 n1, .string b1, .int .i64 t1] 23)).alloc (.cells #[.int .u8 s2, .int .i64 n2, .string b2, .int .i64 t2] 23) = w0 := ⟨_, rfl⟩
  obtain ⟨g, hg⟩ : ∃ g, w.heap.size = g := ⟨_, rfl⟩
  have acc : Wr [] w w0 := by rw [← hw0]; exact ((Wr.refl _ _).alloc _).alloc _
  have hb1 : Blk w0 g 23 #[.int .u8 s1, .int .i64 n1, .string b1, .int .i64 t1] := by rw [← hw0, ← hg]; exact (Blk.new _ _ _).alloc _
  have hb2 : Blk w0 (g + 1) 23 #[.int .u8 s2, .int .i64 n2, .string b2, .int .i64 t2] := by
    have hb := Blk.new (w.alloc (.cells #[.int .u8 s1, .int .i64 n1, .string b1, .int .i64 t1] 23)) 23 #[.int .u8 s2, .int .i64 n2, .string b2, .int .i64 t2]
    rw [show (w.alloc (.cells #[.int .u8 s1, .int .i64 n1, .string b1, .int .i64 t1] 23)).heap.size = g + 1 by simp [hg], hw0] at hb
    exact hb
  have c0 := hb1.cell 0
  have c1 := hb1.cell 1
  have c2 := hb1.cell 2
  have c3 := hb1.cell 3
  have e0 := hb2.cell 0
  have e1 := hb2.cell 1
  have e2 := hb2.cell 2
  have e3 := hb2.cell 3
  simp at c0 c1 c2 c3 e0 e1 e2 e3
  have Hw0 := Lib.hid hw0
  have Hg := Lib.hid hg
  clear hw0 hg hb1 hb2
  go_enter Try.func3, Try.ntmps3
  go_wp2_with fail
  rw [Hw0.out, Hg.out]
  go_wp2_with fail
  refine (hh _).mono ?_
  rintro e wh ⟨rfl, kh⟩
  replace acc := acc.trans kh
  have c0 := kh.cellOf c0 (by simp)
  have c1 := kh.cellOf c1 (by simp)
  have c2 := kh.cellOf c2 (by simp)
  have c3 := kh.cellOf c3 (by simp)
  have e0 := kh.cellOf e0 (by simp)
  have e1 := kh.cellOf e1 (by simp)
  have e2 := kh.cellOf e2 (by simp)
  have e3 := kh.cellOf e3 (by simp)
  clear kh
  go_wp2_with fail
  replace acc := Acc.mk acc.drew
  go_region_held3 (fun w' => w'.cell? ⟨g, 0, none⟩ = some (.int .u8 s1) ∧ w'.cell? ⟨g, 1, none⟩ = some (.int .i64 n1) ∧ w'.cell? ⟨g, 2, none⟩ = some (.string b1) ∧ w'.cell? ⟨g, 3, none⟩ = some (.int .i64 t1) ∧ w'.cell? ⟨g + 1, 0, none⟩ = some (.int .u8 s2) ∧ w'.cell? ⟨g + 1, 1, none⟩ = some (.int .i64 n2) ∧ w'.cell? ⟨g + 1, 2, none⟩ = some (.string b2) ∧ w'.cell? ⟨g + 1, 3, none⟩ = some (.int .i64 t2)) (first | (go_split_ands; refine ⟨?_, ?_, ?_, ?_, ?_, ?_, ?_, ?_⟩ <;> (first | assumption | exact Wr.cellOf (by assumption) (by assumption) (by simp)))) (first | (go_at_call 10; refine (aA _ _ _ _ (by assumption) _).mono ?_; rintro e wa ⟨rfl, ka⟩; have acc := Acc.mk (acc.h.trans ka)))
  replace acc := acc.h
  clear c0 c1 c2 c3 e0 e1 e2 e3
  go_wp2_with fail
  refine (d1 _).mono ?_
  rintro e v1 ⟨rfl, u1⟩
  replace acc := acc.trans u1
  clear u1 d1
  go_wp2_with fail
  refine (d2 _).mono ?_
  rintro e v2 ⟨rfl, u2⟩
  replace acc := acc.trans u2
  clear u2 d2
  go_wp2_with fail
  refine (d3 _).mono ?_
  rintro e v3 ⟨rfl, u3⟩
  replace acc := acc.trans u3
  clear u3 d3
  go_wp2_with fail
  refine (d4 _).mono ?_
  rintro e v4 ⟨rfl, u4⟩
  replace acc := acc.trans u4
  clear u4 d4
  go_wp2_with fail
  refine (d5 _).mono ?_
  rintro e v5 ⟨rfl, u5⟩
  replace acc := acc.trans u5
  clear u5 d5
  go_wp2_with fail
  refine (d6 _).mono ?_
  rintro e v6 ⟨rfl, u6⟩
  replace acc := acc.trans u6
  clear u6 d6
  go_wp2_with fail
  refine (d7 _).mono ?_
  rintro e v7 ⟨rfl, u7⟩
  replace acc := acc.trans u7
  clear u7 d7
  go_wp2_with fail
  obtain ⟨wy, hwy⟩ : ∃ wy, v7.alloc (.cells #[.int .i64 3, .int .i64 1, .string ⟨#[]⟩, .int .i64 0] 31) = wy := ⟨_, rfl⟩
  obtain ⟨gy, hgy⟩ : ∃ gy, v7.heap.size = gy := ⟨_, rfl⟩
  have hb := Blk.new v7 31 #[.int .i64 3, .int .i64 1, .string ⟨#[]⟩, .int .i64 0]
  rw [hwy, hgy] at hb
  have c0 := hb.cell 0
  have c1 := hb.cell 1
  have c2 := hb.cell 2
  have c3 := hb.cell 3
  simp at c0 c1 c2 c3
  replace acc := acc.alloc (.cells #[.int .i64 3, .int .i64 1, .string ⟨#[]⟩, .int .i64 0] 31)
  rw [hwy] at acc
  rw [hwy, hgy]
  clear hwy hgy hb
  go_quiet (fail)
  go_wp2_with fail
  refine (hw _).mono ?_
  rintro e z1 ⟨rfl, k1⟩
  replace acc := Acc.mk ((acc.drewN _).trans k1)
  go_wp2_with fail
  go_ret
  exact ⟨rfl, acc.h⟩

theorem order_walk (w : World) (v0 : Value) (g0 : IsRaw v0) (v1 : Value) (g1 : IsRaw v1) :
    Calls Try.prog 3 #[v0, v1] w fun e w' => e = .returned (.bool true) ∧ Wr [] w w' := by
  obtain ⟨s1, n1, t1, b1, rfl, o1⟩ := g0
  obtain ⟨s2, n2, t2, b2, rfl, o2⟩ := g1
  cases hv : decide (wrap64 ((b1.size : Int) + b2.size) > 4096) with
  | true => exact order_heavy _ _ _ _ _ _ _ _ o1.b o2.b hv w
  | false =>
    rcases order_cases (rawK s1 n1 t1 b1) (rawK s2 n2 t2 b2) with ⟨n, m, h10, h12, h8, h9, h11, h13, ht⟩ | ⟨b, v, u, e, h10, h12, h8, h9, h11, h13, ht⟩ | ⟨h10, h12, h8, h9, h11, h13, ht⟩
    · rcases Int.lt_trichotomy n m with h | h | h
      · have f1 : decide (n < m) = true := decide_eq_true h
        have f2 : decide (n > m) = false := decide_eq_false (by omega)
        have f3 : (n == m) = false := by simp; omega
        have f4 : (n != m) = true := by simp; omega
        have f5 : decide (n ≤ m) = true := decide_eq_true (by omega)
        have f6 : decide (n ≥ m) = false := decide_eq_false (by omega)
        have f7 : decide (m > n) = true := decide_eq_true h
        rw [f1] at h10
        rw [f2] at h12
        rw [f3] at h8
        rw [f4] at h9
        rw [f5] at h11
        rw [f6] at h13
        rw [f7] at ht
        exact order_lt _ _ _ _ _ _ _ _ o1 o2 hv h10 h12 h8 h9 h11 h13 ht w
      · have f1 : decide (n < m) = false := decide_eq_false (by omega)
        have f2 : decide (n > m) = false := decide_eq_false (by omega)
        have f3 : (n == m) = true := by simp; omega
        have f4 : (n != m) = false := by simp; omega
        have f5 : decide (n ≤ m) = true := decide_eq_true (by omega)
        have f6 : decide (n ≥ m) = true := decide_eq_true (by omega)
        have f7 : decide (m > n) = false := decide_eq_false (by omega)
        rw [f1] at h10
        rw [f2] at h12
        rw [f3] at h8
        rw [f4] at h9
        rw [f5] at h11
        rw [f6] at h13
        rw [f7] at ht
        exact order_eq _ _ _ _ _ _ _ _ o1 o2 hv h10 h12 h8 h9 h11 h13 ht w
      · have f1 : decide (n < m) = false := decide_eq_false (by omega)
        have f2 : decide (n > m) = true := decide_eq_true (by omega)
        have f3 : (n == m) = false := by simp; omega
        have f4 : (n != m) = true := by simp; omega
        have f5 : decide (n ≤ m) = false := decide_eq_false (by omega)
        have f6 : decide (n ≥ m) = true := decide_eq_true (by omega)
        have f7 : decide (m > n) = false := decide_eq_false (by omega)
        rw [f1] at h10
        rw [f2] at h12
        rw [f3] at h8
        rw [f4] at h9
        rw [f5] at h11
        rw [f6] at h13
        rw [f7] at ht
        exact order_gt _ _ _ _ _ _ _ _ o1 o2 hv h10 h12 h8 h9 h11 h13 ht w
    · cases b with
      | true => exact order_bt _ _ _ _ _ _ _ _ o1 o2 hv v u e h10 h12 h8 h9 h11 h13 ht w
      | false => exact order_bf _ _ _ _ _ _ _ _ o1 o2 hv v u e h10 h12 h8 h9 h11 h13 ht w
    · exact order_no _ _ _ _ _ _ _ _ o1 o2 hv h10 h12 h8 h9 h11 h13 ht w

end Go.Proofs.Ytpfidbpbomamjaa
