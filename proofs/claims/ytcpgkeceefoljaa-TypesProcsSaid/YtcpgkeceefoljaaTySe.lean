/- types.copied's arms, copied into memory that is not frozen: walked. Conditions: the lists take no more room than there is. -/
import Derived.Test.YtcpgkeceefoljaaTySb
import Derived.Deep.DrawnRows
import Derived.Deep.RegionWith
namespace Go.Proofs.Ytcpgkeceefoljaa
open Go.RowKit
set_option linter.unusedVariables false
set_option linter.unusedSimpArgs false
attribute [local go_sem ↓] Go.wp_at_zero Go.wp_at_succ

/-- An arm, copied. -/
def ArmCopyS (w : World) (x : ArmD) (e : Ending) (w' : World) : Prop :=
  ∃ va vb, e = .returned (.agg #[va, vb, .bool x.els]) ∧ Wr [] w w' ∧ SlInts w' (NewB w.heap.size w') va x.frm ∧ SlInts w' (NewB w.heap.size w') vb x.to

set_option maxHeartbeats 1000000 in
theorem arm_copyS (w : World) (P : Nat → Prop) (va vb : Value) (x : ArmD) (ka : SlInts w P va x.frm) (kb : SlInts w P vb x.to) (ra : x.frm.length ≤ 1099511627776 ∧ x.to.length ≤ 1099511627776) :
    Calls Try.prog 45 #[.agg #[va, vb, .bool x.els]] w (ArmCopyS w x) := by
  have ca := fun W (r : Wr [] w W) => cloneS_i64 W P va _ _ (Sl.wr0 ka r) (one_ints _) (by omega)
  have cb := fun W (r : Wr [] w W) => cloneS_i64 W P vb _ _ (Sl.wr0 kb r) (one_ints _) (by omega)
  clear ka kb ra
  go_enter Try.func45, Try.ntmps45
  go_wp2_with fail
  have hb := (Blk.new w 66 #[va, vb, .bool x.els]).alloc (.cells #[.slice none 0 0, .slice none 0 0, .bool false] 66)
  have hr : Blk ((w.alloc (.cells #[va, vb, .bool x.els] 66)).alloc (.cells #[.slice none 0 0, .slice none 0 0, .bool false] 66)) (w.heap.size + 1) 66 #[.slice none 0 0, .slice none 0 0, .bool false] := by
    have := Blk.new (w.alloc (.cells #[va, vb, .bool x.els] 66)) 66 #[.slice none 0 0, .slice none 0 0, .bool false]
    simpa using this
  have acc := Acc0.mk (((Wr.refl [] w).alloc (.cells #[va, vb, .bool x.els] 66)).alloc (.cells #[.slice none 0 0, .slice none 0 0, .bool false] 66))
  generalize (w.alloc (.cells #[va, vb, .bool x.els] 66)).alloc (.cells #[.slice none 0 0, .slice none 0 0, .bool false] 66) = w0 at *
  have c0 := hb.cell 0
  have c1 := hb.cell 1
  simp only [List.getElem?_toArray, List.getElem?_cons_zero, List.getElem?_cons_succ] at c0 c1
  have HB := Lib.hid hb
  have HR := Lib.hid hr
  clear hb hr
  go_region_with (first
    | (go_at_call 46; refine (ca _ (Wr.drew acc.h)).mono ?_; rintro e w1 ⟨v1, rfl, r1, s1⟩; obtain ⟨A1, k1, rfl, _, _⟩ := s1.form
       have acc1 := Acc0.mk ((Wr.drew acc.h).trans r1); have HB1 := Lib.hid (HB.out.drew.wr0 r1); have HR1 := Lib.hid (HR.out.drew.wr0 r1); have S1 := Lib.hid s1
       have c1' := HB1.out.cell 1; have c0' := HB1.out.cell 0; have f0' := HB1.out.frozen 0; have f1' := HB1.out.frozen 1
       simp only [List.getElem?_toArray, List.getElem?_cons_zero, List.getElem?_cons_succ] at c0' c1'; clear r1 s1)
    | (go_at_call 46; refine (cb _ acc1.h).mono ?_; rintro e w2 ⟨v2, rfl, r2, s2⟩; obtain ⟨A2, k2, rfl, _, _⟩ := s2.form
       have acc2 := Acc0.mk (acc1.h.trans r2); have HB2 := Lib.hid (HB1.out.wr0 r2); have HR2 := Lib.hid (HR1.out.wr0 r2); have S2 := Lib.hid s2; have S1 := Lib.hid (Sl.soft S1.out r2 (by simp) (Nat.le_refl _))
       have d0 := HB2.out.cell 0; have d1 := HB2.out.cell 1; have d2 := HB2.out.cell 2; have g0 := HB2.out.frozen 0; have g1 := HB2.out.frozen 1
       simp only [List.getElem?_toArray, List.getElem?_cons_zero, List.getElem?_cons_succ] at d0 d1 d2; clear r2 s2)
    | (go_at_call 46; trace_state; fail))
  all_goals
    have hz : w.heap.size + 1 < w2.heap.size := HR2.out.lt
    have e0 := HR2.out.cell 0
    have e1 := HR2.out.cell 1
    have e2 := HR2.out.cell 2
    have h0 := HR2.out.frozen 0
    have h1 := HR2.out.frozen 1
    have h2 := HR2.out.frozen 2
    simp only [List.getElem?_toArray, List.getElem?_cons_zero, List.getElem?_cons_succ] at e0 e1 e2
    go_wp2_with fail
    have hz0 : w.heap.size + 1 < w0.heap.size := HR.out.lt
    have hz1 : w.heap.size + 1 < w1.heap.size := HR1.out.lt
    have z0 : w0.drew.heap.size = w0.heap.size := rfl
    refine bodyPost_ret (v := .agg #[.slice A1 x.frm.length k1, .slice A2 x.to.length k2, .bool x.els]) ?_ rfl ⟨_, _, rfl, ?_, ?_, ?_⟩
    · simp [results, Try.results45, go_sem, d0, d1, d2, e0, e1, e2]
    · exact ((((acc2.h.setNew (by omega) _).setNew (by omega) _).setNew (by omega) _).setNew (by omega) _).setNew (by omega) _
    · exact Sl.soft S1.out ((((((Wr.refl [w.heap.size, w.heap.size + 1] _).setOn (by simp) _).setOn (by simp) _).setOn (by simp) _).setOn (by simp) _).setOn (by simp) _) (fun b hb => by simp; omega) (by omega)
    · exact Sl.soft S2.out ((((((Wr.refl [w.heap.size, w.heap.size + 1] _).setOn (by simp) _).setOn (by simp) _).setOn (by simp) _).setOn (by simp) _).setOn (by simp) _) (fun b hb => by simp; omega) (by omega)
end Go.Proofs.Ytcpgkeceefoljaa
