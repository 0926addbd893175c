/- types.ranges; a table's Ordinal, Range: walked. No conditions but that the table is there. -/
import Derived.Test.YtcpgkeceefoljaaTyI
import Derived.Test.YtcpgkeceefoljaaMapA
import Derived.Deep.DeepCutAuto
namespace Go.Proofs.Ytcpgkeceefoljaa
open Go.RowKit
set_option linter.unusedVariables false
set_option linter.unusedSimpArgs false
attribute [local go_sem ↓] Go.wp_at_zero Go.wp_at_succ

theorem key_u8 (k : Int) (e : Bool) (w : World) : (Instr.checkKey e 10000 5 (.int .u8 k)).run Try.prog w = .ok () w := by
  show (Instr.checkKey e (9999 + 1) 5 (.int .u8 k)).run Try.prog w = .ok () w
  unfold Instr.checkKey
  rw [Sem.run_bind, Try.runUnderlying5]
  rfl
def rangesEs : Array MapEntry := #[{ key := .int .u8 1, val := .agg #[.int .i64 (-32768), .int .i64 32767], born := 0 }, { key := .int .u8 2, val := .agg #[.int .i64 0, .int .i64 65535], born := 1 }, { key := .int .u8 3, val := .agg #[.int .i64 0, .int .i64 1], born := 2 }, { key := .int .u8 4, val := .agg #[.int .i64 0, .int .i64 255], born := 3 }, { key := .int .u8 5, val := .agg #[.int .i64 (-32768), .int .i64 65535], born := 4 }]
theorem rng_ins0 (w : World) : (Instr.mapUpdate 86 (.map (some w.heap.size)) (.int .u8 1) (.agg #[.int .i64 (-32768), .int .i64 32767])).run Try.prog (w.alloc (.map #[] 0)) = .ok () (w.alloc (.map #[{ key := .int .u8 1, val := .agg #[.int .i64 (-32768), .int .i64 32767], born := 0 }] 1)) :=
  ins_new Try.underlying86 Try.underlying5 w #[] 0 _ _ (fun w => key_u8 _ false w) (by kernel_rfl)
theorem rng_ins1 (w : World) : (Instr.mapUpdate 86 (.map (some w.heap.size)) (.int .u8 2) (.agg #[.int .i64 0, .int .i64 65535])).run Try.prog (w.alloc (.map #[{ key := .int .u8 1, val := .agg #[.int .i64 (-32768), .int .i64 32767], born := 0 }] 1)) = .ok () (w.alloc (.map #[{ key := .int .u8 1, val := .agg #[.int .i64 (-32768), .int .i64 32767], born := 0 }, { key := .int .u8 2, val := .agg #[.int .i64 0, .int .i64 65535], born := 1 }] 2)) :=
  ins_new Try.underlying86 Try.underlying5 w #[{ key := .int .u8 1, val := .agg #[.int .i64 (-32768), .int .i64 32767], born := 0 }] 1 _ _ (fun w => key_u8 _ false w) (by kernel_rfl)
theorem rng_ins2 (w : World) : (Instr.mapUpdate 86 (.map (some w.heap.size)) (.int .u8 3) (.agg #[.int .i64 0, .int .i64 1])).run Try.prog (w.alloc (.map #[{ key := .int .u8 1, val := .agg #[.int .i64 (-32768), .int .i64 32767], born := 0 }, { key := .int .u8 2, val := .agg #[.int .i64 0, .int .i64 65535], born := 1 }] 2)) = .ok () (w.alloc (.map #[{ key := .int .u8 1, val := .agg #[.int .i64 (-32768), .int .i64 32767], born := 0 }, { key := .int .u8 2, val := .agg #[.int .i64 0, .int .i64 65535], born := 1 }, { key := .int .u8 3, val := .agg #[.int .i64 0, .int .i64 1], born := 2 }] 3)) :=
  ins_new Try.underlying86 Try.underlying5 w #[{ key := .int .u8 1, val := .agg #[.int .i64 (-32768), .int .i64 32767], born := 0 }, { key := .int .u8 2, val := .agg #[.int .i64 0, .int .i64 65535], born := 1 }] 2 _ _ (fun w => key_u8 _ false w) (by kernel_rfl)
theorem rng_ins3 (w : World) : (Instr.mapUpdate 86 (.map (some w.heap.size)) (.int .u8 4) (.agg #[.int .i64 0, .int .i64 255])).run Try.prog (w.alloc (.map #[{ key := .int .u8 1, val := .agg #[.int .i64 (-32768), .int .i64 32767], born := 0 }, { key := .int .u8 2, val := .agg #[.int .i64 0, .int .i64 65535], born := 1 }, { key := .int .u8 3, val := .agg #[.int .i64 0, .int .i64 1], born := 2 }] 3)) = .ok () (w.alloc (.map #[{ key := .int .u8 1, val := .agg #[.int .i64 (-32768), .int .i64 32767], born := 0 }, { key := .int .u8 2, val := .agg #[.int .i64 0, .int .i64 65535], born := 1 }, { key := .int .u8 3, val := .agg #[.int .i64 0, .int .i64 1], born := 2 }, { key := .int .u8 4, val := .agg #[.int .i64 0, .int .i64 255], born := 3 }] 4)) :=
  ins_new Try.underlying86 Try.underlying5 w #[{ key := .int .u8 1, val := .agg #[.int .i64 (-32768), .int .i64 32767], born := 0 }, { key := .int .u8 2, val := .agg #[.int .i64 0, .int .i64 65535], born := 1 }, { key := .int .u8 3, val := .agg #[.int .i64 0, .int .i64 1], born := 2 }] 3 _ _ (fun w => key_u8 _ false w) (by kernel_rfl)
theorem rng_ins4 (w : World) : (Instr.mapUpdate 86 (.map (some w.heap.size)) (.int .u8 5) (.agg #[.int .i64 (-32768), .int .i64 65535])).run Try.prog (w.alloc (.map #[{ key := .int .u8 1, val := .agg #[.int .i64 (-32768), .int .i64 32767], born := 0 }, { key := .int .u8 2, val := .agg #[.int .i64 0, .int .i64 65535], born := 1 }, { key := .int .u8 3, val := .agg #[.int .i64 0, .int .i64 1], born := 2 }, { key := .int .u8 4, val := .agg #[.int .i64 0, .int .i64 255], born := 3 }] 4)) = .ok () (w.alloc (.map #[{ key := .int .u8 1, val := .agg #[.int .i64 (-32768), .int .i64 32767], born := 0 }, { key := .int .u8 2, val := .agg #[.int .i64 0, .int .i64 65535], born := 1 }, { key := .int .u8 3, val := .agg #[.int .i64 0, .int .i64 1], born := 2 }, { key := .int .u8 4, val := .agg #[.int .i64 0, .int .i64 255], born := 3 }, { key := .int .u8 5, val := .agg #[.int .i64 (-32768), .int .i64 65535], born := 4 }] 5)) :=
  ins_new Try.underlying86 Try.underlying5 w #[{ key := .int .u8 1, val := .agg #[.int .i64 (-32768), .int .i64 32767], born := 0 }, { key := .int .u8 2, val := .agg #[.int .i64 0, .int .i64 65535], born := 1 }, { key := .int .u8 3, val := .agg #[.int .i64 0, .int .i64 1], born := 2 }, { key := .int .u8 4, val := .agg #[.int .i64 0, .int .i64 255], born := 3 }] 4 _ _ (fun w => key_u8 _ false w) (by kernel_rfl)
set_option maxHeartbeats 1000000 in
theorem ranges_any (w : World) : Calls Try.prog 39 #[] w fun e w' => e = .returned (.map (some w.heap.size)) ∧ w.alloc (.map rangesEs 5) = w' := by
  have hmm := @run_makeMap Try.prog
  have i0 := rng_ins0
  have i1 := rng_ins1
  have i2 := rng_ins2
  have i3 := rng_ins3
  have i4 := rng_ins4
  go_enter Try.func39, Try.ntmps39
  go_wp2_with fail
  go_ret
  exact ⟨rfl, rfl⟩
def RangesP (w : World) (e : Ending) (w' : World) : Prop := ∃ r, e = .returned (.map (some r)) ∧ Wr [] w w' ∧ w'.heap[r]? = some (.map rangesEs 5)
theorem ranges_P (w : World) : Calls Try.prog 39 #[] w (RangesP w) := by
  refine (ranges_any w).mono ?_
  rintro e w' ⟨rfl, rfl⟩
  exact ⟨_, rfl, (Wr.refl [] w).alloc _, heap_alloc_new w _⟩

/-- The range of a kind. -/
def rngOf (k : Int) : Option (Int × Int) := if k = 1 then some (-32768, 32767) else if k = 2 then some (0, 65535) else if k = 3 then some (0, 1) else if k = 4 then some (0, 255) else if k = 5 then some (-32768, 65535) else none
def rngLo (k : Int) : Int := match rngOf k with | some p => p.1 | none => 0
def rngHi (k : Int) : Int := match rngOf k with | some p => p.2 | none => 0
def rngIs (k : Int) : Bool := (rngOf k).isSome
theorem zero_pair (w : World) : (zeroValue 84).run Try.prog w = .ok (.agg #[.int .i64 0, .int .i64 0]) w := Try.zeroValue84 w
theorem rng_look (r : Nat) (w : World) (hr : w.heap[r]? = some (.map rangesEs 5)) (k : Int) :
    (Instr.lookup 86 (.map (some r)) (.int .u8 k) true).run Try.prog w = .ok (.tuple #[.agg #[.int .i64 (rngLo k), .int .i64 (rngHi k)], .bool (rngIs k)]) w := by
  have hl := fun o hf => look_at Try.underlying86 Try.underlying5 w r rangesEs 5 (.int .u8 k) o _ hr (fun e w => key_u8 _ e w) hf zero_pair true
  by_cases h1 : k = 1
  · subst h1
    exact hl (some (0, .agg #[.int .i64 (-32768), .int .i64 32767])) (by kernel_rfl)
  by_cases h2 : k = 2
  · subst h2
    exact hl (some (1, .agg #[.int .i64 0, .int .i64 65535])) (by kernel_rfl)
  by_cases h3 : k = 3
  · subst h3
    exact hl (some (2, .agg #[.int .i64 0, .int .i64 1])) (by kernel_rfl)
  by_cases h4 : k = 4
  · subst h4
    exact hl (some (3, .agg #[.int .i64 0, .int .i64 255])) (by kernel_rfl)
  by_cases h5 : k = 5
  · subst h5
    exact hl (some (4, .agg #[.int .i64 (-32768), .int .i64 65535])) (by kernel_rfl)
  have h0 : rngOf k = none := by simp [rngOf, h1, h2, h3, h4, h5]
  have hf : Instr.findNow (.int .u8) (.int .u8 k) rangesEs.toList 0 = some none := by
    have e : ∀ n : Int, ¬k = n → (k == n) = false := fun n hn => by simp [hn]
    simp only [rangesEs, Instr.findNow, Instr.sameNow, if_pos, e 1 h1, e 2 h2, e 3 h3, e 4 h4, e 5 h5]
  have := hl none hf
  simp only [rngLo, rngHi, rngIs, h0]
  exact this

/-- Is it one of a kind that has an order? -/
def ordB (tys : List Ty) (i : Int) : Bool := rngIs (kindOf tys i) || kindOf tys i == 8
def loB (tys : List Ty) (i : Int) : Int := if ordB tys i = true then (if rngIs (tyOf tys i).kind = true then rngLo (tyOf tys i).kind else (tyOf tys i).low) else 0
def hiB (tys : List Ty) (i : Int) : Int := if ordB tys i = true then (if rngIs (tyOf tys i).kind = true then rngHi (tyOf tys i).kind else (tyOf tys i).high) else 0

/-- Behind the look-up. -/
def RangeAt (w : World) (g : Nat) (ty : Ty) (A1 : Option Addr) (c1 : Nat) (A2 : Option Addr) (c2 : Nat) (A3 : Option Addr) (c3 : Nat) (A4 : Option Addr) (c4 : Nat) (s8 s9 : Value) (wx : World) : Prop :=
  ∃ g8, s8 = .pointer (some ⟨g8, 0, none⟩) ∧ s9 = .bool (rngIs ty.kind) ∧ Acc0 w wx ∧ Blk wx g 31 #[.int .u8 ty.kind, .string ty.module, .string ty.name, .int .i64 ty.base, .int .i64 ty.index, .int .i64 ty.low, .int .i64 ty.high, .slice A1 ty.names.length c1, .slice A2 ty.fields.length c2, .slice A3 ty.arms.length c3, .slice A4 ty.params.length c4, .int .i64 ty.result] ∧
    Blk wx g8 84 #[.int .i64 (rngLo ty.kind), .int .i64 (rngHi ty.kind)]

section
variable (w : World) (t : Nat) (v : Value) (L : List Nat) (base : Nat) (tys : List Ty) (h : Tab 71 w t v L base tys) (i : Int)
include h

set_option maxHeartbeats 1000000 in
theorem ordinal_any : Calls Try.prog 22 #[.pointer (some ⟨t, 0, none⟩), .int .i64 i] w fun e w' => e = .returned (.bool (ordB tys i)) ∧ Wr [] w w' := by
  have hkd := fun W (r : Wr [] w W) => kind_any W t v L base tys (h.wr0 r) i
  unfold ordB
  generalize kindOf tys i = k at *
  clear h
  have hlk := fun r W hr => rng_look r W hr k
  cases hi : rngIs k with
  | true =>
    rw [hi] at hlk
    clear hi
    go_enter Try.func22, Try.ntmps22
    go_wp2_with fail
    refine (ranges_P _).mono ?_
    rintro e w1 ⟨r, rfl, r1, hm⟩
    go_wp2_with fail
    refine (hkd _ r1).mono ?_
    rintro e w2 ⟨rfl, r2⟩
    have hk2 := hlk r w2 ((r2.block r (by rcases Nat.lt_or_ge r w1.heap.size with h | h; exact h; rw [Array.getElem?_eq_none h] at hm; cases hm) (by simp)).trans hm)
    clear hlk hkd hm
    go_wp2_with fail
    go_ret
    exact ⟨by simp, (r1.trans r2).alloc _⟩
  | false =>
    rw [hi] at hlk
    clear hi
    go_enter Try.func22, Try.ntmps22
    go_wp2_with fail
    refine (ranges_P _).mono ?_
    rintro e w1 ⟨r, rfl, r1, hm⟩
    go_wp2_with fail
    refine (hkd _ r1).mono ?_
    rintro e w2 ⟨rfl, r2⟩
    have hk2 := hlk r w2 ((r2.block r (by rcases Nat.lt_or_ge r w1.heap.size with h | h; exact h; rw [Array.getElem?_eq_none h] at hm; cases hm) (by simp)).trans hm)
    clear hlk hm
    go_wp2_with fail
    refine (hkd _ ((r1.trans r2).alloc _)).mono ?_
    rintro e w3 ⟨rfl, r3⟩
    go_wp2_with fail
    go_ret
    exact ⟨by simp, ((r1.trans r2).alloc _).trans r3⟩

/-- A type's range. -/
def RangeP (w : World) (lo hi : Int) (is : Bool) (e : Ending) (w' : World) : Prop := e = .returned (.tuple #[.int .i64 lo, .int .i64 hi, .bool is]) ∧ Wr [] w w'
set_option maxRecDepth 100000 in
set_option maxHeartbeats 1000000 in
theorem range_any : Calls Try.prog 14 #[.pointer (some ⟨t, 0, none⟩), .int .i64 i] w (RangeP w (loB tys i) (hiB tys i) (ordB tys i)) := by
  have hord := ordinal_any w t v L base tys h i
  have hof := fun W (r : Wr [] w W) => of_any W t v L base tys (h.wr0 r) i
  clear h
  unfold loB hiB
  generalize ordB tys i = o at *
  generalize tyOf tys i = ty at *
  cases o with
  | false =>
    go_enter Try.func14, Try.ntmps14
    go_wp2_with fail
    refine hord.mono ?_
    clear hord
    rintro e w1 ⟨rfl, r1⟩
    go_wp2_with fail
    go_ret3
    exact ⟨rfl, r1⟩
  | true =>
    rw [if_pos rfl, if_pos rfl]
    have hlk := fun r W hr => rng_look r W hr ty.kind
    obtain ⟨lo, hlo⟩ : ∃ lo, lo = (if rngIs ty.kind = true then rngLo ty.kind else ty.low) := ⟨_, rfl⟩
    obtain ⟨hi, hhi⟩ : ∃ hi, hi = (if rngIs ty.kind = true then rngHi ty.kind else ty.high) := ⟨_, rfl⟩
    rw [← hlo, ← hhi]
    have HLO := Lib.hid hlo
    have HHI := Lib.hid hhi
    clear hlo hhi
    go_enter Try.func14, Try.ntmps14
    go_wp2_with fail
    refine hord.mono ?_
    clear hord
    rintro e w1 ⟨rfl, r1⟩
    go_wp2_with fail
    refine (hof _ r1).mono ?_
    clear hof
    rintro e w2 ⟨vn, vf, va, vp, rfl, r2, hl⟩
    obtain ⟨⟨A1, c1, rfl⟩, ⟨A2, c2, rfl⟩, ⟨A3, c3, rfl⟩, ⟨A4, c4, rfl⟩⟩ := hl.forms
    have r12 := r1.trans r2
    clear hl r1 r2
    unfold Ty.val Ty.cells
    go_upto_region 4 with (fail)
    have hb := Blk.new w2 31 #[.int .u8 ty.kind, .string ty.module, .string ty.name, .int .i64 ty.base, .int .i64 ty.index, .int .i64 ty.low, .int .i64 ty.high, .slice A1 ty.names.length c1, .slice A2 ty.fields.length c2, .slice A3 ty.arms.length c3, .slice A4 ty.params.length c4, .int .i64 ty.result]
    have acc := Acc0.mk (r12.alloc (.cells #[.int .u8 ty.kind, .string ty.module, .string ty.name, .int .i64 ty.base, .int .i64 ty.index, .int .i64 ty.low, .int .i64 ty.high, .slice A1 ty.names.length c1, .slice A2 ty.fields.length c2, .slice A3 ty.arms.length c3, .slice A4 ty.params.length c4, .int .i64 ty.result] 31))
    generalize w2.alloc (.cells #[.int .u8 ty.kind, .string ty.module, .string ty.name, .int .i64 ty.base, .int .i64 ty.index, .int .i64 ty.low, .int .i64 ty.high, .slice A1 ty.names.length c1, .slice A2 ty.fields.length c2, .slice A3 ty.arms.length c3, .slice A4 ty.params.length c4, .int .i64 ty.result] 31) = w3 at *
    have hz3 := hb.lt
    have a0 := hb.cell 0
    simp only [List.getElem?_toArray, List.getElem?_cons_zero] at a0
    have HB := Lib.hid hb
    generalize w2.heap.size = g at *
    clear hb r12
    go_cut [8, 9] (fun s8 s9 wx => RangeAt w g ty A1 c1 A2 c2 A3 c3 A4 c4 s8 s9 wx)
    case first =>
      go_region_with (first
        | (go_at_call 39; (with_reducible refine (ranges_P w3.drew).mono ?_); rintro e w4 ⟨r, rfl, r4, hm⟩
           have acc4 := Acc0.mk ((Wr.drew acc.h).trans r4); have hb4 := HB.out.drew.wr0 r4; have HB4 := Lib.hid hb4; have HK := hlk r w4 hm
           have HK2 := hlk r (w4.alloc (.cells #[.int .i64 0, .int .i64 0] 84)) ((Below.heap_alloc w4 _ r (by rcases Nat.lt_or_ge r w4.heap.size with h | h; exact h; rw [Array.getElem?_eq_none h] at hm; cases hm)).trans hm)
           have b0 := hb4.cell 0
           simp only [List.getElem?_toArray, List.getElem?_cons_zero] at b0; have hz4 := hb4.lt; clear r4 hb4 hm)
        | (go_at_call 39; (with_reducible refine (ranges_P (w3.alloc (.cells #[.int .i64 0, .int .i64 0] 84)).drew).mono ?_); rintro e w4 ⟨r, rfl, r4, hm⟩
           have acc4 := Acc0.mk ((Wr.drew (acc.h.alloc (.cells #[.int .i64 0, .int .i64 0] 84))).trans r4); have hb4 := (HB.out.alloc (.cells #[.int .i64 0, .int .i64 0] 84)).drew.wr0 r4; have HB4 := Lib.hid hb4; have HK := hlk r w4 hm
           have hc4 := (Blk.new w3 84 #[.int .i64 0, .int .i64 0]).drew.wr0 r4
           have HC4 := Lib.hid hc4
           have b0 := hb4.cell 0; have d0 := hc4.cell 0; have d1 := hc4.cell 1; have f0 := hc4.frozen 0; have f1 := hc4.frozen 1
           simp only [List.getElem?_toArray, List.getElem?_cons_zero, List.getElem?_cons_succ] at b0 d0 d1; have hz4 := hb4.lt; clear r4 hb4 hm hc4))
      all_goals
        go_wp2_with fail
        go_meet
        first
          | exact ⟨_, rfl, rfl, Acc0.mk (acc4.h.alloc _), HB4.out.alloc _, Blk.new _ _ _⟩
          | exact ⟨_, rfl, rfl, Acc0.mk ((acc4.h.setNew acc.h.size _).setNew acc.h.size _), (HB4.out.far (by simp; omega) _).far (by simp; omega) _, (HC4.out.set_ 0 _).set_ 1 _⟩
    case rest =>
      obtain ⟨g8, rfl, rfl, acc5, hb5, hc5⟩ := hcut
      have b5 := hb5.cell 5
      have b6 := hb5.cell 6
      have d0 := hc5.cell 0
      have d1 := hc5.cell 1
      simp only [List.getElem?_toArray, List.getElem?_cons_zero, List.getElem?_cons_succ] at b5 b6 d0 d1
      have HR := Lib.hid acc5
      clear hlk HB acc acc5 hb5 hc5
      cases hk : rngIs ty.kind with
      | true =>
        have e1 : lo = rngLo ty.kind := by rw [HLO.out, if_pos hk]
        have e2 : hi = rngHi ty.kind := by rw [HHI.out, if_pos hk]
        subst e1 e2
        clear hk HLO HHI
        go_wp2_with fail
        go_quiet (fail)
        go_wp2_with fail
        go_ret3
        exact ⟨rfl, HR.out.h.drewN _⟩
      | false =>
        have e1 : lo = ty.low := by rw [HLO.out, if_neg (by simp [hk])]
        have e2 : hi = ty.high := by rw [HHI.out, if_neg (by simp [hk])]
        subst e1 e2
        clear hk HLO HHI
        go_wp2_with fail
        go_quiet (fail)
        go_wp2_with fail
        go_ret3
        exact ⟨rfl, HR.out.h.drewN _⟩
end
end Go.Proofs.Ytcpgkeceefoljaa
