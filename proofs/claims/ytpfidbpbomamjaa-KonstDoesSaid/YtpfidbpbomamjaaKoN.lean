/- konst's Number and Is, walked. No conditions but that the value is one that Go has. -/
import Derived.Test.YtpfidbpbomamjaaKoF
namespace Go.Proofs.Ytpfidbpbomamjaa
open Go.RowKit
set_option linter.unusedVariables false

theorem key_bool (b : Bool) (e : Bool) (w : World) : (Instr.checkKey e 10000 40 (.bool b)).run Try.prog w = .ok () w := by
  cases e <;> cases b <;> kernel_rfl

/-- 'map[Truth]int64{true: 1}[b]'. -/
theorem truth_insert (w : World) : (Instr.mapUpdate 82 (.map (some w.heap.size)) (.bool true) (.int .i64 1)).run Try.prog (w.alloc (.map #[] 0)) = .ok () (w.alloc (.map #[{ key := .bool true, val := .int .i64 1, born := 0 }] 1)) :=
  run_insert_new Try.underlying82 Try.underlying40 w #[] 0 _ _ (fun w => key_bool true false w) rfl
theorem truth_lookup (w : World) (b : Bool) : (Instr.lookup 82 (.map (some w.heap.size)) (.bool b) false).run Try.prog (w.alloc (.map #[{ key := .bool true, val := .int .i64 1, born := 0 }] 1)) = .ok (.int .i64 (bif b then 1 else 0)) (w.alloc (.map #[{ key := .bool true, val := .int .i64 1, born := 0 }] 1)) := by
  cases b with
  | true => exact run_lookup_at Try.underlying82 Try.underlying40 _ _ _ 1 _ (some (0, .int .i64 1)) (.int .i64 0) (heap_alloc_new w _) (fun e w => key_bool true e w) rfl Try.zeroValue2 false
  | false => exact run_lookup_at Try.underlying82 Try.underlying40 _ _ _ 1 _ none (.int .i64 0) (heap_alloc_new w _) (fun e w => key_bool false e w) rfl Try.zeroValue2 false

set_option maxHeartbeats 1000000 in
theorem number_any (x : KV) (hx : x.ok) (w : World) :
    Calls Try.prog 15 #[x.val] w fun e w' => e = .returned (.tuple #[.int .i64 x.number, .bool x.has]) ∧ Wr [] w w' := by
  have a1 := fun w => as_whole x w
  have a2 := fun w => as_letter x w
  have a3 := fun w => as_truth x w
  have a6 := fun w => as_item x w
  have a5 := fun w => as_string x w
  have hmm := @run_makeMap Try.prog
  have hti := truth_insert
  have htl := truth_lookup
  by_cases h1 : x.sort = 1
  · have i1 : x.is 1 = true := by simp [KV.is, h1]
    have e1 : x.num 1 = x.n := by simp [KV.num, h1]
    have v1 : x.number = bif inB x.n then x.n else 0 := by simp [KV.number, h1]
    have v2 : x.has = inB x.n := by simp [KV.has, KV.is, h1]
    rw [v1, v2]
    rw [e1] at a1
    clear e1 v1 v2 h1
    go_enter Try.func15, Try.ntmps15
    go_wp2_with fail
    refine (inside_any _ _).mono ?_
    rintro e w1 ⟨rfl, rfl⟩
    go_wp2_with fail
    go_ret2
    exact ⟨rfl, Wr.refl _ _⟩
  have i1 : x.is 1 = false := by simp [KV.is, h1]
  by_cases h2 : x.sort = 2
  · have i2 : x.is 2 = true := by simp [KV.is, h2]
    have e2 : x.num 2 = x.n := by simp [KV.num, h2]
    have v1 : x.number = x.n := by simp [KV.number, h2]
    have v2 : x.has = true := by simp [KV.has, KV.is, h2]
    obtain ⟨b0, b1⟩ := hx.2.1 h2
    rw [v1, v2]
    rw [e2] at a2
    clear e2 v1 v2 h2 h1
    go_enter Try.func15, Try.ntmps15
    go_wp2_with fail
    go_ret2
    exact ⟨rfl, Wr.refl _ _⟩
  have i2 : x.is 2 = false := by simp [KV.is, h2]
  by_cases h3 : x.sort = 3
  · have i3 : x.is 3 = true := by simp [KV.is, h3]
    have v1 : x.number = bif x.tru then 1 else 0 := by
      rcases hx.2.2.1 h3 with h | h <;> simp [KV.number, KV.tru, h3, h]
    have v2 : x.has = true := by simp [KV.has, KV.is, h3]
    rw [v1, v2]
    clear v1 v2 h3 h2 h1
    go_enter Try.func15, Try.ntmps15
    go_wp2_with fail
    go_ret2
    exact ⟨rfl, (Wr.refl _ _).alloc _⟩
  have i3 : x.is 3 = false := by simp [KV.is, h3]
  by_cases h6 : x.sort = 6
  · have i6 : x.is 6 = true := by simp [KV.is, h6]
    have e6 : x.num 6 = x.n := by simp [KV.num, h6]
    have v1 : x.number = x.n := by simp [KV.number, h6]
    have v2 : x.has = true := by simp [KV.has, KV.is, h6]
    rw [v1, v2]
    rw [e6] at a6
    clear e6 v1 v2 h6 h3 h2 h1
    go_enter Try.func15, Try.ntmps15
    go_wp2_with fail
    go_ret2
    exact ⟨rfl, (Wr.refl _ _).alloc _⟩
  have i6 : x.is 6 = false := by simp [KV.is, h6]
  by_cases h5 : x.sort = 5
  · have i5 : x.is 5 = true := by simp [KV.is, h5]
    have hs : x.str = x.s := by simp [KV.str, h5]
    have hm := hx.2.2.2.2.1 h5
    rw [hs] at a5
    by_cases h4 : x.s.size = 1
    · have h0 : 0 < x.s.size := by omega
      have v1 : x.number = ((x.s[0]'h0).toNat : Int) := by rw [byte0_eq]; simp [KV.number, h5, h4]
      have v2 : x.has = true := by simp [KV.has, KV.is, h5, h4]
      rw [v1, v2]
      have hlen : ((x.s.size : Int) == 1) = true := by simp [h4]
      have hb0 : (0 : Int) ≤ ((x.s[0]'h0).toNat : Int) := by omega
      have hb1 : ((x.s[0]'h0).toNat : Int) ≤ 255 := by have := (x.s[0]'h0).toNat_lt; omega
      clear v1 v2 h5 hs h4 h6 h3 h2 h1
      go_enter Try.func15, Try.ntmps15
      go_wp2_with fail
      go_ret2
      exact ⟨rfl, (Wr.refl _ _).alloc _⟩
    · have v1 : x.number = 0 := by simp [KV.number, h5, h4]
      have v2 : x.has = false := by simp [KV.has, KV.is, h5, h4]
      rw [v1, v2]
      have hlen : ((x.s.size : Int) == 1) = false := by simp; omega
      clear v1 v2 h5 hs h4 h6 h3 h2 h1
      go_enter Try.func15, Try.ntmps15
      go_wp2_with fail
      go_ret2
      exact ⟨rfl, (Wr.refl _ _).alloc _⟩
  · have i5 : x.is 5 = false := by simp [KV.is, h5]
    have v1 : x.number = 0 := by simp [KV.number, h1, h2, h3, h5, h6]
    have v2 : x.has = false := by simp [KV.has, i1, i2, i3, i5, i6]
    rw [v1, v2]
    clear v1 v2 h6 h5 h3 h2 h1
    go_enter Try.func15, Try.ntmps15
    go_wp2_with fail
    go_ret2
    exact ⟨rfl, (Wr.refl _ _).alloc _⟩

set_option maxHeartbeats 1000000 in
theorem is_any (x : KV) (hx : x.ok) (w : World) :
    Calls Try.prog 14 #[x.val] w fun e w' => e = .returned (.bool x.isB) ∧ Wr [] w w' := by
  have a1 := fun w => as_whole x w
  have a4 := fun w => as_bits x w
  have a5 := fun w => as_string x w
  have a7 := fun w => as_null x w
  have hn := number_any x hx w
  by_cases h1 : x.sort = 1
  · have i1 : x.is 1 = true := by simp [KV.is, h1]
    have e1 : x.num 1 = x.n := by simp [KV.num, h1]
    have v2 : x.isB = inB x.n := by simp [KV.isB, KV.is, h1]
    rw [v2]
    rw [e1] at a1
    clear e1 v2 h1 hn
    by_cases g : -32768 ≤ x.n
    · have hv : inB x.n = decide (x.n ≤ 65535) := by simp [inB, g]
      rw [hv]
      go_enter Try.func14, Try.ntmps14
      go_wp2_with fail
      go_ret
      exact ⟨rfl, Wr.refl _ _⟩
    · have hv : inB x.n = false := by simp [inB, g]
      rw [hv]
      go_enter Try.func14, Try.ntmps14
      go_wp2_with fail
      go_ret
      exact ⟨rfl, Wr.refl _ _⟩
  have i1 : x.is 1 = false := by simp [KV.is, h1]
  have hhas : x.has = true → x.isB = true := by
    intro h
    simp only [KV.has, KV.isB, i1, Bool.false_and, Bool.false_or, Bool.or_eq_true, Bool.and_eq_true] at h ⊢
    rcases h with ((h | h) | h) | h <;> simp [h]
  cases hb : x.has with
  | true =>
    rw [hb] at hn
    rw [hhas hb]
    clear hb hhas h1
    go_enter Try.func14, Try.ntmps14
    go_wp2_with fail
    refine hn.mono ?_
    clear hn
    rintro e w1 ⟨rfl, r1⟩
    go_wp2_with fail
    go_ret
    exact ⟨rfl, r1⟩
  | false =>
    rw [hb] at hn
    have hq : x.isB = (x.is 4 || (x.is 5 || x.is 7)) := by
      simp only [KV.has, i1, Bool.false_and, Bool.false_or, Bool.or_eq_false_iff] at hb
      obtain ⟨⟨⟨b2, b3⟩, b6⟩, _⟩ := hb
      simp [KV.isB, i1, b2, b3, b6, Bool.or_assoc]
    rw [hq]
    clear hb hhas h1 hq
    cases c4 : x.is 4 with
    | true =>
      go_enter Try.func14, Try.ntmps14
      go_wp2_with fail
      refine hn.mono ?_
      clear hn
      rintro e w1 ⟨rfl, r1⟩
      go_wp2_with fail
      go_ret
      exact ⟨rfl, r1⟩
    | false =>
      cases c5 : x.is 5 with
      | true =>
        go_enter Try.func14, Try.ntmps14
        go_wp2_with fail
        refine hn.mono ?_
        clear hn
        rintro e w1 ⟨rfl, r1⟩
        go_wp2_with fail
        go_ret
        exact ⟨rfl, r1⟩
      | false =>
        go_enter Try.func14, Try.ntmps14
        go_wp2_with fail
        refine hn.mono ?_
        clear hn
        rintro e w1 ⟨rfl, r1⟩
        go_wp2_with fail
        go_ret
        exact ⟨rfl, r1.alloc _⟩
end Go.Proofs.Ytpfidbpbomamjaa
