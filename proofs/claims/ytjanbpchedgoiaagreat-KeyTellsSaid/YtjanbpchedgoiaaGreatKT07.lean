/- iface's sort: walked. No conditions. -/
import Derived.Test.YtjanbpchedgoiaaGreatKT06
import Derived.Laws.EntriesVeiled
set_option linter.unusedVariables false
set_option linter.unusedSimpArgs false
set_option maxRecDepth 100000
set_option maxHeartbeats 32000000
namespace Go.Proofs.YtjanbpchedgoiaaGreat
open Go.RowKit
theorem sortQ1 (v : AnyD) (h : Nat) (w : World) (hc : w.cell? ⟨h, 0, none⟩ = some v.val) : Calls Tryz.prog 101 #[.pointer (some ⟨h, 0, none⟩)] w fun e w' => e = .returned (.bool (v.sort == 0)) ∧ w = w' := by
 cases v <;> simp only [AnyD.val] at hc <;> simp only [AnyD.sort]
 all_goals
  go_enter Tryz.func101, Tryz.ntmps101
  go_wp2_with fail
  go_ret
  exact ⟨rfl, rfl⟩
theorem sortQ2 (v : AnyD) (h : Nat) (w : World) (hc : w.cell? ⟨h, 0, none⟩ = some v.val) : Calls Tryz.prog 102 #[.pointer (some ⟨h, 0, none⟩)] w fun e w' => e = .returned (.bool (v.sort == 1)) ∧ Wr [] w w' := by
 have hta := fun w => anyAs_whole v w
 generalize v.val = V at *
 obtain ⟨b, hb⟩ : ∃ b, (v.sort == 1) = b := ⟨_, rfl⟩
 rw [hb] at hta ⊢
 clear hb
 go_enter Tryz.func102, Tryz.ntmps102
 go_wp2_with fail
 go_ret
 exact ⟨rfl, by first | exact Wr.refl [] w | exact (Wr.refl [] w).alloc _⟩
theorem sortQ3 (v : AnyD) (h : Nat) (w : World) (hc : w.cell? ⟨h, 0, none⟩ = some v.val) : Calls Tryz.prog 103 #[.pointer (some ⟨h, 0, none⟩)] w fun e w' => e = .returned (.bool (v.sort == 2)) ∧ Wr [] w w' := by
 have hta := fun w => anyAs_letter v w
 generalize v.val = V at *
 obtain ⟨b, hb⟩ : ∃ b, (v.sort == 2) = b := ⟨_, rfl⟩
 rw [hb] at hta ⊢
 clear hb
 go_enter Tryz.func103, Tryz.ntmps103
 go_wp2_with fail
 go_ret
 exact ⟨rfl, by first | exact Wr.refl [] w | exact (Wr.refl [] w).alloc _⟩
theorem sortQ4 (v : AnyD) (h : Nat) (w : World) (hc : w.cell? ⟨h, 0, none⟩ = some v.val) : Calls Tryz.prog 104 #[.pointer (some ⟨h, 0, none⟩)] w fun e w' => e = .returned (.bool (v.sort == 3)) ∧ Wr [] w w' := by
 have hta := fun w => anyAs_truth v w
 generalize v.val = V at *
 obtain ⟨b, hb⟩ : ∃ b, (v.sort == 3) = b := ⟨_, rfl⟩
 rw [hb] at hta ⊢
 clear hb
 go_enter Tryz.func104, Tryz.ntmps104
 go_wp2_with fail
 go_ret
 exact ⟨rfl, by first | exact Wr.refl [] w | exact (Wr.refl [] w).alloc _⟩
theorem sortQ5 (v : AnyD) (h : Nat) (w : World) (hc : w.cell? ⟨h, 0, none⟩ = some v.val) : Calls Tryz.prog 105 #[.pointer (some ⟨h, 0, none⟩)] w fun e w' => e = .returned (.bool (v.sort == 4)) ∧ Wr [] w w' := by
 have hta := fun w => anyAs_bits v w
 generalize v.val = V at *
 obtain ⟨b, hb⟩ : ∃ b, (v.sort == 4) = b := ⟨_, rfl⟩
 rw [hb] at hta ⊢
 clear hb
 go_enter Tryz.func105, Tryz.ntmps105
 go_wp2_with fail
 go_ret
 exact ⟨rfl, by first | exact Wr.refl [] w | exact (Wr.refl [] w).alloc _⟩
theorem sortQ6 (v : AnyD) (h : Nat) (w : World) (hc : w.cell? ⟨h, 0, none⟩ = some v.val) : Calls Tryz.prog 106 #[.pointer (some ⟨h, 0, none⟩)] w fun e w' => e = .returned (.bool (v.sort == 5)) ∧ Wr [] w w' := by
 have hta := fun w => anyAs_string v w
 generalize v.val = V at *
 obtain ⟨b, hb⟩ : ∃ b, (v.sort == 5) = b := ⟨_, rfl⟩
 rw [hb] at hta ⊢
 clear hb
 go_enter Tryz.func106, Tryz.ntmps106
 go_wp2_with fail
 go_ret
 exact ⟨rfl, by first | exact Wr.refl [] w | exact (Wr.refl [] w).alloc _⟩
theorem sortQ7 (v : AnyD) (h : Nat) (w : World) (hc : w.cell? ⟨h, 0, none⟩ = some v.val) : Calls Tryz.prog 107 #[.pointer (some ⟨h, 0, none⟩)] w fun e w' => e = .returned (.bool (v.sort == 6)) ∧ Wr [] w w' := by
 have hta := fun w => anyAs_item v w
 generalize v.val = V at *
 obtain ⟨b, hb⟩ : ∃ b, (v.sort == 6) = b := ⟨_, rfl⟩
 rw [hb] at hta ⊢
 clear hb
 go_enter Tryz.func107, Tryz.ntmps107
 go_wp2_with fail
 go_ret
 exact ⟨rfl, by first | exact Wr.refl [] w | exact (Wr.refl [] w).alloc _⟩
theorem sortQ8 (v : AnyD) (h : Nat) (w : World) (hc : w.cell? ⟨h, 0, none⟩ = some v.val) : Calls Tryz.prog 108 #[.pointer (some ⟨h, 0, none⟩)] w fun e w' => e = .returned (.bool (v.sort == 7)) ∧ Wr [] w w' := by
 have hta := fun w => anyAs_null v w
 generalize v.val = V at *
 obtain ⟨b, hb⟩ : ∃ b, (v.sort == 7) = b := ⟨_, rfl⟩
 rw [hb] at hta ⊢
 clear hb
 go_enter Tryz.func108, Tryz.ntmps108
 go_wp2_with fail
 go_ret
 exact ⟨rfl, by first | exact Wr.refl [] w | exact (Wr.refl [] w).alloc _⟩
theorem sort_any (v : AnyD) (w : World) : Calls Tryz.prog 78 #[v.val] w fun e w' => e = .returned (.tuple #[.int .u8 (if v.sort = 8 then 0 else (v.sort : Int)), .bool (!(v.sort == 8))]) ∧ Wr [] w w' := by
 have hmf : ∀ (fn : Fn) (first cap : Array Value) (w : World), (Instr.makeFunc fn first cap).run Tryz.prog w = .ok (.func fn first cap) w := fun _ _ _ _ => rfl
 have hle : v.sort ≤ 8 := by cases v <;> simp [AnyD.sort]
 have hone : v.val.cells = #[v.val] := by cases v <;> rfl
 have hst := stored_any v.val v.val_one
 have hq1 := fun h w hc => sortQ1 v h w hc
 have hq2 := fun h w hc => sortQ2 v h w hc
 have hq3 := fun h w hc => sortQ3 v h w hc
 have hq4 := fun h w hc => sortQ4 v h w hc
 have hq5 := fun h w hc => sortQ5 v h w hc
 have hq6 := fun h w hc => sortQ6 v h w hc
 have hq7 := fun h w hc => sortQ7 v h w hc
 have hq8 := fun h w hc => sortQ8 v h w hc
 obtain ⟨ns, hns⟩ : ∃ n, v.sort = n := ⟨_, rfl⟩
 rw [hns] at hle hq1 hq2 hq3 hq4 hq5 hq6 hq7 hq8 ⊢
 generalize v.val = V at *
 obtain ⟨h, hh⟩ : ∃ h, w.heap.size = h := ⟨_, rfl⟩
 obtain ⟨w0, hw0⟩ : ∃ q, w.alloc (.cells #[V] 20) = q := ⟨_, rfl⟩
 have r0 : Wr [] w w0 := by rw [← hw0]; exact (Wr.refl [] _).alloc _
 have b0 : Blk w0 h 20 #[V] := by rw [← hw0, ← hh]; exact Blk.new _ _ _
 obtain ⟨z, hz⟩ : ∃ z, w0.heap.size = z := ⟨_, rfl⟩
 obtain ⟨w1, hw1⟩ : ∃ q, w0.alloc (.cells #[.func (.func 101) #[] #[.pointer (some ⟨h, 0, none⟩)], .func (.func 102) #[] #[.pointer (some ⟨h, 0, none⟩)], .func (.func 103) #[] #[.pointer (some ⟨h, 0, none⟩)], .func (.func 104) #[] #[.pointer (some ⟨h, 0, none⟩)], .func (.func 105) #[] #[.pointer (some ⟨h, 0, none⟩)], .func (.func 106) #[] #[.pointer (some ⟨h, 0, none⟩)], .func (.func 107) #[] #[.pointer (some ⟨h, 0, none⟩)], .func (.func 108) #[] #[.pointer (some ⟨h, 0, none⟩)]] 29) = q := ⟨_, rfl⟩
 have r1 : Wr [] w0 w1 := by rw [← hw1]; exact (Wr.refl [] _).alloc _
 have b1 : Blk w1 z 29 #[.func (.func 101) #[] #[.pointer (some ⟨h, 0, none⟩)], .func (.func 102) #[] #[.pointer (some ⟨h, 0, none⟩)], .func (.func 103) #[] #[.pointer (some ⟨h, 0, none⟩)], .func (.func 104) #[] #[.pointer (some ⟨h, 0, none⟩)], .func (.func 105) #[] #[.pointer (some ⟨h, 0, none⟩)], .func (.func 106) #[] #[.pointer (some ⟨h, 0, none⟩)], .func (.func 107) #[] #[.pointer (some ⟨h, 0, none⟩)], .func (.func 108) #[] #[.pointer (some ⟨h, 0, none⟩)]] := by rw [← hw1, ← hz]; exact Blk.new _ _ _
 have ACC := qh (r0.trans r1)
 have BV := qh (b0.wr0 r1)
 have BF := qh b1
 have HH := qh hh
 have HW0 := qh hw0
 have HW1 := qh hw1
 have HZ := qh hz
 have HQ1 := qh hq1
 have HQ2 := qh hq2
 have HQ3 := qh hq3
 have HQ4 := qh hq4
 have HQ5 := qh hq5
 have HQ6 := qh hq6
 have HQ7 := qh hq7
 have HQ8 := qh hq8
 clear hq1 hq2 hq3 hq4 hq5 hq6 hq7 hq8 hh hw0 hw1 hz r0 r1 b0 b1 hns
 go_enter Tryz.func78, Tryz.ntmps78
 go_upto_region 1 with (fail)
 simp only [Value.cells] at hone
 rw [hone, HH.out, HW0.out]
 go_wp2_with fail
 rw [HZ.out, HW1.out]
 refine wp_loop_rounds 9 ?_
 have BV1 := qh BV.out
 have BF1 := qh BF.out
 have ACC1 := qh ACC.out
 rw [rounds_succ]
 have f1 := BF1.out.cell 0
 simp only [qgaq, qgzq, qgsq] at f1
 go_wp2_with fail
 refine (HQ1.out h _ (BV1.out.cell 0)).mono ?_
 rintro e w2 ⟨rfl, rfl⟩
 have r1' := Wr.refl [] w1
 have ACC2 := qh (ACC1.out.trans r1')
 have BV2 := qh (BV1.out.wr0 r1')
 have BF2 := qh (BF1.out.wr0 r1')
 clear f1 r1'
 by_cases hn : ns = 0
 ·subst hn
  clear HQ1 HQ2 HQ3 HQ4 HQ5 HQ6 HQ7 HQ8
  have hbt : ((0 : Nat) == 0) = true := rfl
  go_wp2_with fail
  go_ret2
  exact ⟨rfl, ACC2.out⟩
 have hbf : (ns == 0) = false := by simpa using hn
 go_wp2_with fail
 clear hbf
 rw [rounds_succ]
 have f2 := BF2.out.cell 1
 simp only [qgaq, qgzq, qgsq] at f2
 go_wp2_with fail
 refine (HQ2.out h _ (BV2.out.cell 0)).mono ?_
 rintro e w3 ⟨rfl, r1'⟩
 have ACC3 := qh (ACC2.out.trans r1')
 have BV3 := qh (BV2.out.wr0 r1')
 have BF3 := qh (BF2.out.wr0 r1')
 clear f2 r1'
 by_cases hn : ns = 1
 ·subst hn
  clear HQ1 HQ2 HQ3 HQ4 HQ5 HQ6 HQ7 HQ8
  have hbt : ((1 : Nat) == 1) = true := rfl
  go_wp2_with fail
  go_ret2
  exact ⟨rfl, ACC3.out⟩
 have hbf : (ns == 1) = false := by simpa using hn
 go_wp2_with fail
 clear hbf
 rw [rounds_succ]
 have f3 := BF3.out.cell 2
 simp only [qgaq, qgzq, qgsq] at f3
 go_wp2_with fail
 refine (HQ3.out h _ (BV3.out.cell 0)).mono ?_
 rintro e w4 ⟨rfl, r1'⟩
 have ACC4 := qh (ACC3.out.trans r1')
 have BV4 := qh (BV3.out.wr0 r1')
 have BF4 := qh (BF3.out.wr0 r1')
 clear f3 r1'
 by_cases hn : ns = 2
 ·subst hn
  clear HQ1 HQ2 HQ3 HQ4 HQ5 HQ6 HQ7 HQ8
  have hbt : ((2 : Nat) == 2) = true := rfl
  go_wp2_with fail
  go_ret2
  exact ⟨rfl, ACC4.out⟩
 have hbf : (ns == 2) = false := by simpa using hn
 go_wp2_with fail
 clear hbf
 rw [rounds_succ]
 have f4 := BF4.out.cell 3
 simp only [qgaq, qgzq, qgsq] at f4
 go_wp2_with fail
 refine (HQ4.out h _ (BV4.out.cell 0)).mono ?_
 rintro e w5 ⟨rfl, r1'⟩
 have ACC5 := qh (ACC4.out.trans r1')
 have BV5 := qh (BV4.out.wr0 r1')
 have BF5 := qh (BF4.out.wr0 r1')
 clear f4 r1'
 by_cases hn : ns = 3
 ·subst hn
  clear HQ1 HQ2 HQ3 HQ4 HQ5 HQ6 HQ7 HQ8
  have hbt : ((3 : Nat) == 3) = true := rfl
  go_wp2_with fail
  go_ret2
  exact ⟨rfl, ACC5.out⟩
 have hbf : (ns == 3) = false := by simpa using hn
 go_wp2_with fail
 clear hbf
 rw [rounds_succ]
 have f5 := BF5.out.cell 4
 simp only [qgaq, qgzq, qgsq] at f5
 go_wp2_with fail
 refine (HQ5.out h _ (BV5.out.cell 0)).mono ?_
 rintro e w6 ⟨rfl, r1'⟩
 have ACC6 := qh (ACC5.out.trans r1')
 have BV6 := qh (BV5.out.wr0 r1')
 have BF6 := qh (BF5.out.wr0 r1')
 clear f5 r1'
 by_cases hn : ns = 4
 ·subst hn
  clear HQ1 HQ2 HQ3 HQ4 HQ5 HQ6 HQ7 HQ8
  have hbt : ((4 : Nat) == 4) = true := rfl
  go_wp2_with fail
  go_ret2
  exact ⟨rfl, ACC6.out⟩
 have hbf : (ns == 4) = false := by simpa using hn
 go_wp2_with fail
 clear hbf
 rw [rounds_succ]
 have f6 := BF6.out.cell 5
 simp only [qgaq, qgzq, qgsq] at f6
 go_wp2_with fail
 refine (HQ6.out h _ (BV6.out.cell 0)).mono ?_
 rintro e w7 ⟨rfl, r1'⟩
 have ACC7 := qh (ACC6.out.trans r1')
 have BV7 := qh (BV6.out.wr0 r1')
 have BF7 := qh (BF6.out.wr0 r1')
 clear f6 r1'
 by_cases hn : ns = 5
 ·subst hn
  clear HQ1 HQ2 HQ3 HQ4 HQ5 HQ6 HQ7 HQ8
  have hbt : ((5 : Nat) == 5) = true := rfl
  go_wp2_with fail
  go_ret2
  exact ⟨rfl, ACC7.out⟩
 have hbf : (ns == 5) = false := by simpa using hn
 go_wp2_with fail
 clear hbf
 rw [rounds_succ]
 have f7 := BF7.out.cell 6
 simp only [qgaq, qgzq, qgsq] at f7
 go_wp2_with fail
 refine (HQ7.out h _ (BV7.out.cell 0)).mono ?_
 rintro e w8 ⟨rfl, r1'⟩
 have ACC8 := qh (ACC7.out.trans r1')
 have BV8 := qh (BV7.out.wr0 r1')
 have BF8 := qh (BF7.out.wr0 r1')
 clear f7 r1'
 by_cases hn : ns = 6
 ·subst hn
  clear HQ1 HQ2 HQ3 HQ4 HQ5 HQ6 HQ7 HQ8
  have hbt : ((6 : Nat) == 6) = true := rfl
  go_wp2_with fail
  go_ret2
  exact ⟨rfl, ACC8.out⟩
 have hbf : (ns == 6) = false := by simpa using hn
 go_wp2_with fail
 clear hbf
 rw [rounds_succ]
 have f8 := BF8.out.cell 7
 simp only [qgaq, qgzq, qgsq] at f8
 go_wp2_with fail
 refine (HQ8.out h _ (BV8.out.cell 0)).mono ?_
 rintro e w9 ⟨rfl, r1'⟩
 have ACC9 := qh (ACC8.out.trans r1')
 have BV9 := qh (BV8.out.wr0 r1')
 have BF9 := qh (BF8.out.wr0 r1')
 clear f8 r1'
 by_cases hn : ns = 7
 ·subst hn
  clear HQ1 HQ2 HQ3 HQ4 HQ5 HQ6 HQ7 HQ8
  have hbt : ((7 : Nat) == 7) = true := rfl
  go_wp2_with fail
  go_ret2
  exact ⟨rfl, ACC9.out⟩
 have hbf : (ns == 7) = false := by simpa using hn
 go_wp2_with fail
 clear hbf
 obtain rfl : ns = 8 := by omega
 rw [rounds_succ]
 go_wp2_with fail
 go_ret2
 exact ⟨rfl, ACC9.out⟩
end Go.Proofs.YtjanbpchedgoiaaGreat
