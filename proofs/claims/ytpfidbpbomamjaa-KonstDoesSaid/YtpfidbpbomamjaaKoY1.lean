/- The document's Does, walked: part 1. No conditions but that the values are such as Go has. -/
import Derived.Test.YtpfidbpbomamjaaKoY
namespace Go.Proofs.Ytpfidbpbomamjaa
open Go.RowKit
set_option linter.unusedVariables false
set_option linter.unusedSimpArgs false

set_option maxRecDepth 100000 in
set_option maxHeartbeats 4000000 in
theorem dr_N {s : ByteArray} {ao an : Int} {as_ : ByteArray} {at_ : Int} {bo bn : Int} {bs_ : ByteArray} {bt_ : Int} (hop : opB s = false)  (w : World) :
    Calls Try.prog 18 #[.string s, .agg #[.int .i64 ao, .int .i64 an, .string as_, .int .i64 at_], .agg #[.int .i64 bo, .int .i64 bn, .string bs_, .int .i64 bt_]] w fun e w' => e = .returned (.tuple #[refV KV.none_, .int .i64 103]) ∧ Wr [] w w' := by
  obtain ⟨wb, hwb⟩ : ∃ wb, ((w.alloc (.cells #[.int .i64 ao, .int .i64 an, .string as_, .int .i64 at_] 31)).alloc (.cells #[.int .i64 bo, .int .i64 bn, .string bs_, .int .i64 bt_] 31)).alloc (.cells #[.int .i64 0, .int .i64 0, .string ⟨#[]⟩, .int .i64 0] 31) = wb := ⟨_, rfl⟩
  obtain ⟨g, hg⟩ : ∃ g, w.heap.size = g := ⟨_, rfl⟩
  have acc : Wr [] w wb := by rw [← hwb]; exact (((Wr.refl _ _).alloc _).alloc _).alloc _
  have bA : Blk wb g 31 #[.int .i64 ao, .int .i64 an, .string as_, .int .i64 at_] := by rw [← hwb, ← hg]; exact ((Blk.new _ _ _).alloc _).alloc _
  have bB : Blk wb (g + 1) 31 #[.int .i64 bo, .int .i64 bn, .string bs_, .int .i64 bt_] := by
    have hb := (Blk.new (w.alloc (.cells #[.int .i64 ao, .int .i64 an, .string as_, .int .i64 at_] 31)) 31 #[.int .i64 bo, .int .i64 bn, .string bs_, .int .i64 bt_]).alloc (.cells #[.int .i64 0, .int .i64 0, .string ⟨#[]⟩, .int .i64 0] 31)
    rw [hwb, show (w.alloc (.cells #[.int .i64 ao, .int .i64 an, .string as_, .int .i64 at_] 31)).heap.size = g + 1 by simp [hg]] at hb
    exact hb
  have bR : Blk wb (g + 1 + 1) 31 zeroR := by
    have hb := Blk.new ((w.alloc (.cells #[.int .i64 ao, .int .i64 an, .string as_, .int .i64 at_] 31)).alloc (.cells #[.int .i64 bo, .int .i64 bn, .string bs_, .int .i64 bt_] 31)) 31 zeroR
    rw [show ((w.alloc (.cells #[.int .i64 ao, .int .i64 an, .string as_, .int .i64 at_] 31)).alloc (.cells #[.int .i64 bo, .int .i64 bn, .string bs_, .int .i64 bt_] 31)).heap.size = g + 1 + 1 by simp [hg]] at hb
    rw [← hwb]
    exact hb
  have Hwb := Lib.hid hwb
  have Hg := Lib.hid hg
  clear hwb hg
  go_enter Try.func18, Try.ntmps18
  go_wp2_with fail
  rw [Hwb.out, Hg.out]
  refine (op_ref s _).mono ?_
  rintro e w1 ⟨rfl, k1⟩
  rw [hop]
  replace acc := acc.trans k1
  replace bA := bA.wr0 k1
  replace bB := bB.wr0 k1
  replace bR := bR.wr0 k1
  clear k1
  have a0 := bA.cell 0
  have a1 := bA.cell 1
  have a2 := bA.cell 2
  have a3 := bA.cell 3
  simp [zeroR] at a0 a1 a2 a3
  have b0 := bB.cell 0
  have b1 := bB.cell 1
  have b2 := bB.cell 2
  have b3 := bB.cell 3
  simp [zeroR] at b0 b1 b2 b3
  have r0 := bR.cell 0
  have r1 := bR.cell 1
  have r2 := bR.cell 2
  have r3 := bR.cell 3
  simp [zeroR] at r0 r1 r2 r3
  have fa0 := bA.frozen 0
  have fa1 := bA.frozen 1
  have fa2 := bA.frozen 2
  have fa3 := bA.frozen 3
  have fb0 := bB.frozen 0
  have fb1 := bB.frozen 1
  have fb2 := bB.frozen 2
  have fb3 := bB.frozen 3
  have fr0 := bR.frozen 0
  have fr1 := bR.frozen 1
  have fr2 := bR.frozen 2
  have fr3 := bR.frozen 3
  go_wp2_with fail
  clear a0 a1 a2 a3 b0 b1 b2 b3 r0 r1 r2 r3 fa0 fa1 fa2 fa3 fb0 fb1 fb2 fb3 fr0 fr1 fr2 fr3
  obtain ⟨z1, z2⟩ := end4 (x0 := .int .i64 0) (x1 := .int .i64 0) (x2 := .string ⟨#[]⟩) (x3 := .int .i64 0) acc (by rw [Hg.out]; omega) bR _ _ _ _
  have d0 := z2.cell 0
  have d1 := z2.cell 1
  have d2 := z2.cell 2
  have d3 := z2.cell 3
  simp at d0 d1 d2 d3
  refine bodyPost_ret (v := .tuple #[refV KV.none_, .int .i64 103]) ?_ rfl ⟨rfl, z1⟩
  simp [results, Try.results18, go_sem, d0, d1, d2, d3, refV, KV.none_]

set_option maxRecDepth 100000 in
set_option maxHeartbeats 4000000 in
theorem dr_Z1 {s : ByteArray} {ao an : Int} {as_ : ByteArray} {at_ : Int} {bo bn : Int} {bs_ : ByteArray} {bt_ : Int} (hop : opB s = true) (na : ao = 0)  (w : World) :
    Calls Try.prog 18 #[.string s, .agg #[.int .i64 ao, .int .i64 an, .string as_, .int .i64 at_], .agg #[.int .i64 bo, .int .i64 bn, .string bs_, .int .i64 bt_]] w fun e w' => e = .returned (.tuple #[refV KV.none_, .int .i64 100]) ∧ Wr [] w w' := by
  subst na
  obtain ⟨wb, hwb⟩ : ∃ wb, ((w.alloc (.cells #[.int .i64 0, .int .i64 an, .string as_, .int .i64 at_] 31)).alloc (.cells #[.int .i64 bo, .int .i64 bn, .string bs_, .int .i64 bt_] 31)).alloc (.cells #[.int .i64 0, .int .i64 0, .string ⟨#[]⟩, .int .i64 0] 31) = wb := ⟨_, rfl⟩
  obtain ⟨g, hg⟩ : ∃ g, w.heap.size = g := ⟨_, rfl⟩
  have acc : Wr [] w wb := by rw [← hwb]; exact (((Wr.refl _ _).alloc _).alloc _).alloc _
  have bA : Blk wb g 31 #[.int .i64 0, .int .i64 an, .string as_, .int .i64 at_] := by rw [← hwb, ← hg]; exact ((Blk.new _ _ _).alloc _).alloc _
  have bB : Blk wb (g + 1) 31 #[.int .i64 bo, .int .i64 bn, .string bs_, .int .i64 bt_] := by
    have hb := (Blk.new (w.alloc (.cells #[.int .i64 0, .int .i64 an, .string as_, .int .i64 at_] 31)) 31 #[.int .i64 bo, .int .i64 bn, .string bs_, .int .i64 bt_]).alloc (.cells #[.int .i64 0, .int .i64 0, .string ⟨#[]⟩, .int .i64 0] 31)
    rw [hwb, show (w.alloc (.cells #[.int .i64 0, .int .i64 an, .string as_, .int .i64 at_] 31)).heap.size = g + 1 by simp [hg]] at hb
    exact hb
  have bR : Blk wb (g + 1 + 1) 31 zeroR := by
    have hb := Blk.new ((w.alloc (.cells #[.int .i64 0, .int .i64 an, .string as_, .int .i64 at_] 31)).alloc (.cells #[.int .i64 bo, .int .i64 bn, .string bs_, .int .i64 bt_] 31)) 31 zeroR
    rw [show ((w.alloc (.cells #[.int .i64 0, .int .i64 an, .string as_, .int .i64 at_] 31)).alloc (.cells #[.int .i64 bo, .int .i64 bn, .string bs_, .int .i64 bt_] 31)).heap.size = g + 1 + 1 by simp [hg]] at hb
    rw [← hwb]
    exact hb
  have Hwb := Lib.hid hwb
  have Hg := Lib.hid hg
  clear hwb hg
  go_enter Try.func18, Try.ntmps18
  go_wp2_with fail
  rw [Hwb.out, Hg.out]
  refine (op_ref s _).mono ?_
  rintro e w1 ⟨rfl, k1⟩
  rw [hop]
  replace acc := acc.trans k1
  replace bA := bA.wr0 k1
  replace bB := bB.wr0 k1
  replace bR := bR.wr0 k1
  clear k1
  have a0 := bA.cell 0
  have a1 := bA.cell 1
  have a2 := bA.cell 2
  have a3 := bA.cell 3
  simp [zeroR] at a0 a1 a2 a3
  have b0 := bB.cell 0
  have b1 := bB.cell 1
  have b2 := bB.cell 2
  have b3 := bB.cell 3
  simp [zeroR] at b0 b1 b2 b3
  have r0 := bR.cell 0
  have r1 := bR.cell 1
  have r2 := bR.cell 2
  have r3 := bR.cell 3
  simp [zeroR] at r0 r1 r2 r3
  have fa0 := bA.frozen 0
  have fa1 := bA.frozen 1
  have fa2 := bA.frozen 2
  have fa3 := bA.frozen 3
  have fb0 := bB.frozen 0
  have fb1 := bB.frozen 1
  have fb2 := bB.frozen 2
  have fb3 := bB.frozen 3
  have fr0 := bR.frozen 0
  have fr1 := bR.frozen 1
  have fr2 := bR.frozen 2
  have fr3 := bR.frozen 3
  go_wp2_with fail
  clear a0 a1 a2 a3 b0 b1 b2 b3 r0 r1 r2 r3 fa0 fa1 fa2 fa3 fb0 fb1 fb2 fb3 fr0 fr1 fr2 fr3
  obtain ⟨z1, z2⟩ := end4 (x0 := .int .i64 0) (x1 := .int .i64 0) (x2 := .string ⟨#[]⟩) (x3 := .int .i64 0) acc (by rw [Hg.out]; omega) bR _ _ _ _
  have d0 := z2.cell 0
  have d1 := z2.cell 1
  have d2 := z2.cell 2
  have d3 := z2.cell 3
  simp at d0 d1 d2 d3
  refine bodyPost_ret (v := .tuple #[refV KV.none_, .int .i64 100]) ?_ rfl ⟨rfl, z1⟩
  simp [results, Try.results18, go_sem, d0, d1, d2, d3, refV, KV.none_]

set_option maxRecDepth 100000 in
set_option maxHeartbeats 4000000 in
theorem dr_Z2 {s : ByteArray} {ao an : Int} {as_ : ByteArray} {at_ : Int} {bo bn : Int} {bs_ : ByteArray} {bt_ : Int} (hop : opB s = true) (na : ¬ao = 0) (na_ : (ao == 0) = false) (nb : bo = 0)  (w : World) :
    Calls Try.prog 18 #[.string s, .agg #[.int .i64 ao, .int .i64 an, .string as_, .int .i64 at_], .agg #[.int .i64 bo, .int .i64 bn, .string bs_, .int .i64 bt_]] w fun e w' => e = .returned (.tuple #[refV KV.none_, .int .i64 100]) ∧ Wr [] w w' := by
  subst nb
  obtain ⟨wb, hwb⟩ : ∃ wb, ((w.alloc (.cells #[.int .i64 ao, .int .i64 an, .string as_, .int .i64 at_] 31)).alloc (.cells #[.int .i64 0, .int .i64 bn, .string bs_, .int .i64 bt_] 31)).alloc (.cells #[.int .i64 0, .int .i64 0, .string ⟨#[]⟩, .int .i64 0] 31) = wb := ⟨_, rfl⟩
  obtain ⟨g, hg⟩ : ∃ g, w.heap.size = g := ⟨_, rfl⟩
  have acc : Wr [] w wb := by rw [← hwb]; exact (((Wr.refl _ _).alloc _).alloc _).alloc _
  have bA : Blk wb g 31 #[.int .i64 ao, .int .i64 an, .string as_, .int .i64 at_] := by rw [← hwb, ← hg]; exact ((Blk.new _ _ _).alloc _).alloc _
  have bB : Blk wb (g + 1) 31 #[.int .i64 0, .int .i64 bn, .string bs_, .int .i64 bt_] := by
    have hb := (Blk.new (w.alloc (.cells #[.int .i64 ao, .int .i64 an, .string as_, .int .i64 at_] 31)) 31 #[.int .i64 0, .int .i64 bn, .string bs_, .int .i64 bt_]).alloc (.cells #[.int .i64 0, .int .i64 0, .string ⟨#[]⟩, .int .i64 0] 31)
    rw [hwb, show (w.alloc (.cells #[.int .i64 ao, .int .i64 an, .string as_, .int .i64 at_] 31)).heap.size = g + 1 by simp [hg]] at hb
    exact hb
  have bR : Blk wb (g + 1 + 1) 31 zeroR := by
    have hb := Blk.new ((w.alloc (.cells #[.int .i64 ao, .int .i64 an, .string as_, .int .i64 at_] 31)).alloc (.cells #[.int .i64 0, .int .i64 bn, .string bs_, .int .i64 bt_] 31)) 31 zeroR
    rw [show ((w.alloc (.cells #[.int .i64 ao, .int .i64 an, .string as_, .int .i64 at_] 31)).alloc (.cells #[.int .i64 0, .int .i64 bn, .string bs_, .int .i64 bt_] 31)).heap.size = g + 1 + 1 by simp [hg]] at hb
    rw [← hwb]
    exact hb
  have Hwb := Lib.hid hwb
  have Hg := Lib.hid hg
  clear hwb hg
  go_enter Try.func18, Try.ntmps18
  go_wp2_with fail
  rw [Hwb.out, Hg.out]
  refine (op_ref s _).mono ?_
  rintro e w1 ⟨rfl, k1⟩
  rw [hop]
  replace acc := acc.trans k1
  replace bA := bA.wr0 k1
  replace bB := bB.wr0 k1
  replace bR := bR.wr0 k1
  clear k1
  have a0 := bA.cell 0
  have a1 := bA.cell 1
  have a2 := bA.cell 2
  have a3 := bA.cell 3
  simp [zeroR] at a0 a1 a2 a3
  have b0 := bB.cell 0
  have b1 := bB.cell 1
  have b2 := bB.cell 2
  have b3 := bB.cell 3
  simp [zeroR] at b0 b1 b2 b3
  have r0 := bR.cell 0
  have r1 := bR.cell 1
  have r2 := bR.cell 2
  have r3 := bR.cell 3
  simp [zeroR] at r0 r1 r2 r3
  have fa0 := bA.frozen 0
  have fa1 := bA.frozen 1
  have fa2 := bA.frozen 2
  have fa3 := bA.frozen 3
  have fb0 := bB.frozen 0
  have fb1 := bB.frozen 1
  have fb2 := bB.frozen 2
  have fb3 := bB.frozen 3
  have fr0 := bR.frozen 0
  have fr1 := bR.frozen 1
  have fr2 := bR.frozen 2
  have fr3 := bR.frozen 3
  go_wp2_with fail
  clear a0 a1 a2 a3 b0 b1 b2 b3 r0 r1 r2 r3 fa0 fa1 fa2 fa3 fb0 fb1 fb2 fb3 fr0 fr1 fr2 fr3
  obtain ⟨z1, z2⟩ := end4 (x0 := .int .i64 0) (x1 := .int .i64 0) (x2 := .string ⟨#[]⟩) (x3 := .int .i64 0) acc (by rw [Hg.out]; omega) bR _ _ _ _
  have d0 := z2.cell 0
  have d1 := z2.cell 1
  have d2 := z2.cell 2
  have d3 := z2.cell 3
  simp at d0 d1 d2 d3
  refine bodyPost_ret (v := .tuple #[refV KV.none_, .int .i64 100]) ?_ rfl ⟨rfl, z1⟩
  simp [results, Try.results18, go_sem, d0, d1, d2, d3, refV, KV.none_]

set_option maxRecDepth 100000 in
set_option maxHeartbeats 4000000 in
theorem dr_I1 {s : ByteArray} {ao an : Int} {as_ : ByteArray} {at_ : Int} {bo bn : Int} {bs_ : ByteArray} {bt_ : Int} (hop : opB s = true) (na : ¬ao = 0) (na_ : (ao == 0) = false) (nb : ¬bo = 0) (nb_ : (bo == 0) = false) (q : s.toList = [73, 78]) (hh : ∀ w, Calls Try.prog 30 #[.agg #[.int .i64 ao, .int .i64 an, .string as_, .int .i64 at_]] w fun e w' => e = .returned (.bool false) ∧ Wr [] w w')  (w : World) :
    Calls Try.prog 18 #[.string s, .agg #[.int .i64 ao, .int .i64 an, .string as_, .int .i64 at_], .agg #[.int .i64 bo, .int .i64 bn, .string bs_, .int .i64 bt_]] w fun e w' => e = .returned (.tuple #[refV KV.none_, .int .i64 100]) ∧ Wr [] w w' := by
  obtain ⟨wb, hwb⟩ : ∃ wb, ((w.alloc (.cells #[.int .i64 ao, .int .i64 an, .string as_, .int .i64 at_] 31)).alloc (.cells #[.int .i64 bo, .int .i64 bn, .string bs_, .int .i64 bt_] 31)).alloc (.cells #[.int .i64 0, .int .i64 0, .string ⟨#[]⟩, .int .i64 0] 31) = wb := ⟨_, rfl⟩
  obtain ⟨g, hg⟩ : ∃ g, w.heap.size = g := ⟨_, rfl⟩
  have acc : Wr [] w wb := by rw [← hwb]; exact (((Wr.refl _ _).alloc _).alloc _).alloc _
  have bA : Blk wb g 31 #[.int .i64 ao, .int .i64 an, .string as_, .int .i64 at_] := by rw [← hwb, ← hg]; exact ((Blk.new _ _ _).alloc _).alloc _
  have bB : Blk wb (g + 1) 31 #[.int .i64 bo, .int .i64 bn, .string bs_, .int .i64 bt_] := by
    have hb := (Blk.new (w.alloc (.cells #[.int .i64 ao, .int .i64 an, .string as_, .int .i64 at_] 31)) 31 #[.int .i64 bo, .int .i64 bn, .string bs_, .int .i64 bt_]).alloc (.cells #[.int .i64 0, .int .i64 0, .string ⟨#[]⟩, .int .i64 0] 31)
    rw [hwb, show (w.alloc (.cells #[.int .i64 ao, .int .i64 an, .string as_, .int .i64 at_] 31)).heap.size = g + 1 by simp [hg]] at hb
    exact hb
  have bR : Blk wb (g + 1 + 1) 31 zeroR := by
    have hb := Blk.new ((w.alloc (.cells #[.int .i64 ao, .int .i64 an, .string as_, .int .i64 at_] 31)).alloc (.cells #[.int .i64 bo, .int .i64 bn, .string bs_, .int .i64 bt_] 31)) 31 zeroR
    rw [show ((w.alloc (.cells #[.int .i64 ao, .int .i64 an, .string as_, .int .i64 at_] 31)).alloc (.cells #[.int .i64 bo, .int .i64 bn, .string bs_, .int .i64 bt_] 31)).heap.size = g + 1 + 1 by simp [hg]] at hb
    rw [← hwb]
    exact hb
  have Hwb := Lib.hid hwb
  have Hg := Lib.hid hg
  clear hwb hg
  go_enter Try.func18, Try.ntmps18
  go_wp2_with fail
  rw [Hwb.out, Hg.out]
  refine (op_ref s _).mono ?_
  rintro e w1 ⟨rfl, k1⟩
  rw [hop]
  replace acc := acc.trans k1
  replace bA := bA.wr0 k1
  replace bB := bB.wr0 k1
  replace bR := bR.wr0 k1
  clear k1
  have a0 := bA.cell 0
  have a1 := bA.cell 1
  have a2 := bA.cell 2
  have a3 := bA.cell 3
  simp [zeroR] at a0 a1 a2 a3
  have b0 := bB.cell 0
  have b1 := bB.cell 1
  have b2 := bB.cell 2
  have b3 := bB.cell 3
  simp [zeroR] at b0 b1 b2 b3
  have r0 := bR.cell 0
  have r1 := bR.cell 1
  have r2 := bR.cell 2
  have r3 := bR.cell 3
  simp [zeroR] at r0 r1 r2 r3
  have fa0 := bA.frozen 0
  have fa1 := bA.frozen 1
  have fa2 := bA.frozen 2
  have fa3 := bA.frozen 3
  have fb0 := bB.frozen 0
  have fb1 := bB.frozen 1
  have fb2 := bB.frozen 2
  have fb3 := bB.frozen 3
  have fr0 := bR.frozen 0
  have fr1 := bR.frozen 1
  have fr2 := bR.frozen 2
  have fr3 := bR.frozen 3
  go_wp2_with fail
  clear a0 a1 a2 a3 b0 b1 b2 b3 r0 r1 r2 r3 fa0 fa1 fa2 fa3 fb0 fb1 fb2 fb3 fr0 fr1 fr2 fr3
  refine (hh _).mono ?_
  rintro e w2 ⟨rfl, k2⟩
  replace acc := acc.trans k2
  replace bA := bA.wr0 k2
  replace bB := bB.wr0 k2
  replace bR := bR.wr0 k2
  clear k2
  have a0 := bA.cell 0
  have a1 := bA.cell 1
  have a2 := bA.cell 2
  have a3 := bA.cell 3
  simp [zeroR] at a0 a1 a2 a3
  have b0 := bB.cell 0
  have b1 := bB.cell 1
  have b2 := bB.cell 2
  have b3 := bB.cell 3
  simp [zeroR] at b0 b1 b2 b3
  have r0 := bR.cell 0
  have r1 := bR.cell 1
  have r2 := bR.cell 2
  have r3 := bR.cell 3
  simp [zeroR] at r0 r1 r2 r3
  have fa0 := bA.frozen 0
  have fa1 := bA.frozen 1
  have fa2 := bA.frozen 2
  have fa3 := bA.frozen 3
  have fb0 := bB.frozen 0
  have fb1 := bB.frozen 1
  have fb2 := bB.frozen 2
  have fb3 := bB.frozen 3
  have fr0 := bR.frozen 0
  have fr1 := bR.frozen 1
  have fr2 := bR.frozen 2
  have fr3 := bR.frozen 3
  go_wp2_with fail
  clear a0 a1 a2 a3 b0 b1 b2 b3 r0 r1 r2 r3 fa0 fa1 fa2 fa3 fb0 fb1 fb2 fb3 fr0 fr1 fr2 fr3
  obtain ⟨z1, z2⟩ := end4 (x0 := .int .i64 0) (x1 := .int .i64 0) (x2 := .string ⟨#[]⟩) (x3 := .int .i64 0) acc (by rw [Hg.out]; omega) bR _ _ _ _
  have d0 := z2.cell 0
  have d1 := z2.cell 1
  have d2 := z2.cell 2
  have d3 := z2.cell 3
  simp at d0 d1 d2 d3
  refine bodyPost_ret (v := .tuple #[refV KV.none_, .int .i64 100]) ?_ rfl ⟨rfl, z1⟩
  simp [results, Try.results18, go_sem, d0, d1, d2, d3, refV, KV.none_]

set_option maxRecDepth 100000 in
set_option maxHeartbeats 4000000 in
theorem dr_I2 {s : ByteArray} {ao an : Int} {as_ : ByteArray} {at_ : Int} {bo bn : Int} {bs_ : ByteArray} {bt_ : Int} (hop : opB s = true) (na : ¬ao = 0) (na_ : (ao == 0) = false) (nb : ¬bo = 0) (nb_ : (bo == 0) = false) (q : s.toList = [73, 78]) (hh : ∀ w, Calls Try.prog 30 #[.agg #[.int .i64 ao, .int .i64 an, .string as_, .int .i64 at_]] w fun e w' => e = .returned (.bool true) ∧ Wr [] w w') (c4 : ¬bo = 4) (c4_ : (bo == 4) = false)  (w : World) :
    Calls Try.prog 18 #[.string s, .agg #[.int .i64 ao, .int .i64 an, .string as_, .int .i64 at_], .agg #[.int .i64 bo, .int .i64 bn, .string bs_, .int .i64 bt_]] w fun e w' => e = .returned (.tuple #[refV KV.none_, .int .i64 100]) ∧ Wr [] w w' := by
  obtain ⟨wb, hwb⟩ : ∃ wb, ((w.alloc (.cells #[.int .i64 ao, .int .i64 an, .string as_, .int .i64 at_] 31)).alloc (.cells #[.int .i64 bo, .int .i64 bn, .string bs_, .int .i64 bt_] 31)).alloc (.cells #[.int .i64 0, .int .i64 0, .string ⟨#[]⟩, .int .i64 0] 31) = wb := ⟨_, rfl⟩
  obtain ⟨g, hg⟩ : ∃ g, w.heap.size = g := ⟨_, rfl⟩
  have acc : Wr [] w wb := by rw [← hwb]; exact (((Wr.refl _ _).alloc _).alloc _).alloc _
  have bA : Blk wb g 31 #[.int .i64 ao, .int .i64 an, .string as_, .int .i64 at_] := by rw [← hwb, ← hg]; exact ((Blk.new _ _ _).alloc _).alloc _
  have bB : Blk wb (g + 1) 31 #[.int .i64 bo, .int .i64 bn, .string bs_, .int .i64 bt_] := by
    have hb := (Blk.new (w.alloc (.cells #[.int .i64 ao, .int .i64 an, .string as_, .int .i64 at_] 31)) 31 #[.int .i64 bo, .int .i64 bn, .string bs_, .int .i64 bt_]).alloc (.cells #[.int .i64 0, .int .i64 0, .string ⟨#[]⟩, .int .i64 0] 31)
    rw [hwb, show (w.alloc (.cells #[.int .i64 ao, .int .i64 an, .string as_, .int .i64 at_] 31)).heap.size = g + 1 by simp [hg]] at hb
    exact hb
  have bR : Blk wb (g + 1 + 1) 31 zeroR := by
    have hb := Blk.new ((w.alloc (.cells #[.int .i64 ao, .int .i64 an, .string as_, .int .i64 at_] 31)).alloc (.cells #[.int .i64 bo, .int .i64 bn, .string bs_, .int .i64 bt_] 31)) 31 zeroR
    rw [show ((w.alloc (.cells #[.int .i64 ao, .int .i64 an, .string as_, .int .i64 at_] 31)).alloc (.cells #[.int .i64 bo, .int .i64 bn, .string bs_, .int .i64 bt_] 31)).heap.size = g + 1 + 1 by simp [hg]] at hb
    rw [← hwb]
    exact hb
  have Hwb := Lib.hid hwb
  have Hg := Lib.hid hg
  clear hwb hg
  go_enter Try.func18, Try.ntmps18
  go_wp2_with fail
  rw [Hwb.out, Hg.out]
  refine (op_ref s _).mono ?_
  rintro e w1 ⟨rfl, k1⟩
  rw [hop]
  replace acc := acc.trans k1
  replace bA := bA.wr0 k1
  replace bB := bB.wr0 k1
  replace bR := bR.wr0 k1
  clear k1
  have a0 := bA.cell 0
  have a1 := bA.cell 1
  have a2 := bA.cell 2
  have a3 := bA.cell 3
  simp [zeroR] at a0 a1 a2 a3
  have b0 := bB.cell 0
  have b1 := bB.cell 1
  have b2 := bB.cell 2
  have b3 := bB.cell 3
  simp [zeroR] at b0 b1 b2 b3
  have r0 := bR.cell 0
  have r1 := bR.cell 1
  have r2 := bR.cell 2
  have r3 := bR.cell 3
  simp [zeroR] at r0 r1 r2 r3
  have fa0 := bA.frozen 0
  have fa1 := bA.frozen 1
  have fa2 := bA.frozen 2
  have fa3 := bA.frozen 3
  have fb0 := bB.frozen 0
  have fb1 := bB.frozen 1
  have fb2 := bB.frozen 2
  have fb3 := bB.frozen 3
  have fr0 := bR.frozen 0
  have fr1 := bR.frozen 1
  have fr2 := bR.frozen 2
  have fr3 := bR.frozen 3
  go_wp2_with fail
  clear a0 a1 a2 a3 b0 b1 b2 b3 r0 r1 r2 r3 fa0 fa1 fa2 fa3 fb0 fb1 fb2 fb3 fr0 fr1 fr2 fr3
  refine (hh _).mono ?_
  rintro e w2 ⟨rfl, k2⟩
  replace acc := acc.trans k2
  replace bA := bA.wr0 k2
  replace bB := bB.wr0 k2
  replace bR := bR.wr0 k2
  clear k2
  have a0 := bA.cell 0
  have a1 := bA.cell 1
  have a2 := bA.cell 2
  have a3 := bA.cell 3
  simp [zeroR] at a0 a1 a2 a3
  have b0 := bB.cell 0
  have b1 := bB.cell 1
  have b2 := bB.cell 2
  have b3 := bB.cell 3
  simp [zeroR] at b0 b1 b2 b3
  have r0 := bR.cell 0
  have r1 := bR.cell 1
  have r2 := bR.cell 2
  have r3 := bR.cell 3
  simp [zeroR] at r0 r1 r2 r3
  have fa0 := bA.frozen 0
  have fa1 := bA.frozen 1
  have fa2 := bA.frozen 2
  have fa3 := bA.frozen 3
  have fb0 := bB.frozen 0
  have fb1 := bB.frozen 1
  have fb2 := bB.frozen 2
  have fb3 := bB.frozen 3
  have fr0 := bR.frozen 0
  have fr1 := bR.frozen 1
  have fr2 := bR.frozen 2
  have fr3 := bR.frozen 3
  go_wp2_with fail
  clear a0 a1 a2 a3 b0 b1 b2 b3 r0 r1 r2 r3 fa0 fa1 fa2 fa3 fb0 fb1 fb2 fb3 fr0 fr1 fr2 fr3
  obtain ⟨z1, z2⟩ := end4 (x0 := .int .i64 0) (x1 := .int .i64 0) (x2 := .string ⟨#[]⟩) (x3 := .int .i64 0) acc (by rw [Hg.out]; omega) bR _ _ _ _
  have d0 := z2.cell 0
  have d1 := z2.cell 1
  have d2 := z2.cell 2
  have d3 := z2.cell 3
  simp at d0 d1 d2 d3
  refine bodyPost_ret (v := .tuple #[refV KV.none_, .int .i64 100]) ?_ rfl ⟨rfl, z1⟩
  simp [results, Try.results18, go_sem, d0, d1, d2, d3, refV, KV.none_]

set_option maxRecDepth 100000 in
set_option maxHeartbeats 4000000 in
theorem dr_I3 {s : ByteArray} {ao an : Int} {as_ : ByteArray} {at_ : Int} {bo bn : Int} {bs_ : ByteArray} {bt_ : Int} {n : Int} (hop : opB s = true) (na : ¬ao = 0) (na_ : (ao == 0) = false) (q : s.toList = [73, 78]) (hh : ∀ w, Calls Try.prog 30 #[.agg #[.int .i64 ao, .int .i64 an, .string as_, .int .i64 at_]] w fun e w' => e = .returned (.bool true) ∧ Wr [] w w') (hn : ∀ w, Calls Try.prog 31 #[.agg #[.int .i64 ao, .int .i64 an, .string as_, .int .i64 at_]] w fun e w' => e = .returned (.int .i64 n) ∧ Wr [] w w') (c4 : bo = 4) (g0 : decide (n ≥ 0) = false)  (w : World) :
    Calls Try.prog 18 #[.string s, .agg #[.int .i64 ao, .int .i64 an, .string as_, .int .i64 at_], .agg #[.int .i64 bo, .int .i64 bn, .string bs_, .int .i64 bt_]] w fun e w' => e = .returned (.tuple #[refV (KV.truth false), .int .i64 0]) ∧ Wr [] w w' := by
  subst c4
  obtain ⟨wb, hwb⟩ : ∃ wb, ((w.alloc (.cells #[.int .i64 ao, .int .i64 an, .string as_, .int .i64 at_] 31)).alloc (.cells #[.int .i64 4, .int .i64 bn, .string bs_, .int .i64 bt_] 31)).alloc (.cells #[.int .i64 0, .int .i64 0, .string ⟨#[]⟩, .int .i64 0] 31) = wb := ⟨_, rfl⟩
  obtain ⟨g, hg⟩ : ∃ g, w.heap.size = g := ⟨_, rfl⟩
  have acc : Wr [] w wb := by rw [← hwb]; exact (((Wr.refl _ _).alloc _).alloc _).alloc _
  have bA : Blk wb g 31 #[.int .i64 ao, .int .i64 an, .string as_, .int .i64 at_] := by rw [← hwb, ← hg]; exact ((Blk.new _ _ _).alloc _).alloc _
  have bB : Blk wb (g + 1) 31 #[.int .i64 4, .int .i64 bn, .string bs_, .int .i64 bt_] := by
    have hb := (Blk.new (w.alloc (.cells #[.int .i64 ao, .int .i64 an, .string as_, .int .i64 at_] 31)) 31 #[.int .i64 4, .int .i64 bn, .string bs_, .int .i64 bt_]).alloc (.cells #[.int .i64 0, .int .i64 0, .string ⟨#[]⟩, .int .i64 0] 31)
    rw [hwb, show (w.alloc (.cells #[.int .i64 ao, .int .i64 an, .string as_, .int .i64 at_] 31)).heap.size = g + 1 by simp [hg]] at hb
    exact hb
  have bR : Blk wb (g + 1 + 1) 31 zeroR := by
    have hb := Blk.new ((w.alloc (.cells #[.int .i64 ao, .int .i64 an, .string as_, .int .i64 at_] 31)).alloc (.cells #[.int .i64 4, .int .i64 bn, .string bs_, .int .i64 bt_] 31)) 31 zeroR
    rw [show ((w.alloc (.cells #[.int .i64 ao, .int .i64 an, .string as_, .int .i64 at_] 31)).alloc (.cells #[.int .i64 4, .int .i64 bn, .string bs_, .int .i64 bt_] 31)).heap.size = g + 1 + 1 by simp [hg]] at hb
    rw [← hwb]
    exact hb
  have Hwb := Lib.hid hwb
  have Hg := Lib.hid hg
  clear hwb hg
  go_enter Try.func18, Try.ntmps18
  go_wp2_with fail
  rw [Hwb.out, Hg.out]
  refine (op_ref s _).mono ?_
  rintro e w1 ⟨rfl, k1⟩
  rw [hop]
  replace acc := acc.trans k1
  replace bA := bA.wr0 k1
  replace bB := bB.wr0 k1
  replace bR := bR.wr0 k1
  clear k1
  have a0 := bA.cell 0
  have a1 := bA.cell 1
  have a2 := bA.cell 2
  have a3 := bA.cell 3
  simp [zeroR] at a0 a1 a2 a3
  have b0 := bB.cell 0
  have b1 := bB.cell 1
  have b2 := bB.cell 2
  have b3 := bB.cell 3
  simp [zeroR] at b0 b1 b2 b3
  have r0 := bR.cell 0
  have r1 := bR.cell 1
  have r2 := bR.cell 2
  have r3 := bR.cell 3
  simp [zeroR] at r0 r1 r2 r3
  have fa0 := bA.frozen 0
  have fa1 := bA.frozen 1
  have fa2 := bA.frozen 2
  have fa3 := bA.frozen 3
  have fb0 := bB.frozen 0
  have fb1 := bB.frozen 1
  have fb2 := bB.frozen 2
  have fb3 := bB.frozen 3
  have fr0 := bR.frozen 0
  have fr1 := bR.frozen 1
  have fr2 := bR.frozen 2
  have fr3 := bR.frozen 3
  go_wp2_with fail
  clear a0 a1 a2 a3 b0 b1 b2 b3 r0 r1 r2 r3 fa0 fa1 fa2 fa3 fb0 fb1 fb2 fb3 fr0 fr1 fr2 fr3
  refine (hh _).mono ?_
  rintro e w2 ⟨rfl, k2⟩
  replace acc := acc.trans k2
  replace bA := bA.wr0 k2
  replace bB := bB.wr0 k2
  replace bR := bR.wr0 k2
  clear k2
  have a0 := bA.cell 0
  have a1 := bA.cell 1
  have a2 := bA.cell 2
  have a3 := bA.cell 3
  simp [zeroR] at a0 a1 a2 a3
  have b0 := bB.cell 0
  have b1 := bB.cell 1
  have b2 := bB.cell 2
  have b3 := bB.cell 3
  simp [zeroR] at b0 b1 b2 b3
  have r0 := bR.cell 0
  have r1 := bR.cell 1
  have r2 := bR.cell 2
  have r3 := bR.cell 3
  simp [zeroR] at r0 r1 r2 r3
  have fa0 := bA.frozen 0
  have fa1 := bA.frozen 1
  have fa2 := bA.frozen 2
  have fa3 := bA.frozen 3
  have fb0 := bB.frozen 0
  have fb1 := bB.frozen 1
  have fb2 := bB.frozen 2
  have fb3 := bB.frozen 3
  have fr0 := bR.frozen 0
  have fr1 := bR.frozen 1
  have fr2 := bR.frozen 2
  have fr3 := bR.frozen 3
  go_wp2_with fail
  clear a0 a1 a2 a3 b0 b1 b2 b3 r0 r1 r2 r3 fa0 fa1 fa2 fa3 fb0 fb1 fb2 fb3 fr0 fr1 fr2 fr3
  refine (hn _).mono ?_
  rintro e w2 ⟨rfl, k2⟩
  replace acc := acc.trans k2
  replace bA := bA.wr0 k2
  replace bB := bB.wr0 k2
  replace bR := bR.wr0 k2
  clear k2
  have a0 := bA.cell 0
  have a1 := bA.cell 1
  have a2 := bA.cell 2
  have a3 := bA.cell 3
  simp [zeroR] at a0 a1 a2 a3
  have b0 := bB.cell 0
  have b1 := bB.cell 1
  have b2 := bB.cell 2
  have b3 := bB.cell 3
  simp [zeroR] at b0 b1 b2 b3
  have r0 := bR.cell 0
  have r1 := bR.cell 1
  have r2 := bR.cell 2
  have r3 := bR.cell 3
  simp [zeroR] at r0 r1 r2 r3
  have fa0 := bA.frozen 0
  have fa1 := bA.frozen 1
  have fa2 := bA.frozen 2
  have fa3 := bA.frozen 3
  have fb0 := bB.frozen 0
  have fb1 := bB.frozen 1
  have fb2 := bB.frozen 2
  have fb3 := bB.frozen 3
  have fr0 := bR.frozen 0
  have fr1 := bR.frozen 1
  have fr2 := bR.frozen 2
  have fr3 := bR.frozen 3
  go_wp2_with fail
  clear a0 a1 a2 a3 b0 b1 b2 b3 r0 r1 r2 r3 fa0 fa1 fa2 fa3 fb0 fb1 fb2 fb3 fr0 fr1 fr2 fr3
  refine (truth_ref (false) _).mono ?_
  rintro e w2 ⟨rfl, k2⟩
  replace acc := acc.trans k2
  replace bA := bA.wr0 k2
  replace bB := bB.wr0 k2
  replace bR := bR.wr0 k2
  clear k2
  have a0 := bA.cell 0
  have a1 := bA.cell 1
  have a2 := bA.cell 2
  have a3 := bA.cell 3
  simp [zeroR] at a0 a1 a2 a3
  have b0 := bB.cell 0
  have b1 := bB.cell 1
  have b2 := bB.cell 2
  have b3 := bB.cell 3
  simp [zeroR] at b0 b1 b2 b3
  have r0 := bR.cell 0
  have r1 := bR.cell 1
  have r2 := bR.cell 2
  have r3 := bR.cell 3
  simp [zeroR] at r0 r1 r2 r3
  have fa0 := bA.frozen 0
  have fa1 := bA.frozen 1
  have fa2 := bA.frozen 2
  have fa3 := bA.frozen 3
  have fb0 := bB.frozen 0
  have fb1 := bB.frozen 1
  have fb2 := bB.frozen 2
  have fb3 := bB.frozen 3
  have fr0 := bR.frozen 0
  have fr1 := bR.frozen 1
  have fr2 := bR.frozen 2
  have fr3 := bR.frozen 3
  unfold refV
  go_wp2_with fail
  clear a0 a1 a2 a3 b0 b1 b2 b3 r0 r1 r2 r3 fa0 fa1 fa2 fa3 fb0 fb1 fb2 fb3 fr0 fr1 fr2 fr3
  obtain ⟨z1, z2⟩ := end4 (x0 := .int .i64 0) (x1 := .int .i64 0) (x2 := .string ⟨#[]⟩) (x3 := .int .i64 0) acc (by rw [Hg.out]; omega) bR _ _ _ _
  have d0 := z2.cell 0
  have d1 := z2.cell 1
  have d2 := z2.cell 2
  have d3 := z2.cell 3
  simp at d0 d1 d2 d3
  refine bodyPost_ret (v := .tuple #[refV (KV.truth (false)), .int .i64 0]) ?_ rfl ⟨rfl, z1⟩
  simp [results, Try.results18, go_sem, d0, d1, d2, d3, refV, KV.none_]

set_option maxRecDepth 100000 in
set_option maxHeartbeats 4000000 in
theorem dr_I4 {s : ByteArray} {ao an : Int} {as_ : ByteArray} {at_ : Int} {bo bn : Int} {bs_ : ByteArray} {bt_ : Int} {n : Int} (hop : opB s = true) (na : ¬ao = 0) (na_ : (ao == 0) = false) (q : s.toList = [73, 78]) (hh : ∀ w, Calls Try.prog 30 #[.agg #[.int .i64 ao, .int .i64 an, .string as_, .int .i64 at_]] w fun e w' => e = .returned (.bool true) ∧ Wr [] w w') (hn : ∀ w, Calls Try.prog 31 #[.agg #[.int .i64 ao, .int .i64 an, .string as_, .int .i64 at_]] w fun e w' => e = .returned (.int .i64 n) ∧ Wr [] w w') (c4 : bo = 4) (g0 : decide (n ≥ 0) = true) (g1 : decide (n < 16) = false)  (w : World) :
    Calls Try.prog 18 #[.string s, .agg #[.int .i64 ao, .int .i64 an, .string as_, .int .i64 at_], .agg #[.int .i64 bo, .int .i64 bn, .string bs_, .int .i64 bt_]] w fun e w' => e = .returned (.tuple #[refV (KV.truth false), .int .i64 0]) ∧ Wr [] w w' := by
  subst c4
  obtain ⟨wb, hwb⟩ : ∃ wb, ((w.alloc (.cells #[.int .i64 ao, .int .i64 an, .string as_, .int .i64 at_] 31)).alloc (.cells #[.int .i64 4, .int .i64 bn, .string bs_, .int .i64 bt_] 31)).alloc (.cells #[.int .i64 0, .int .i64 0, .string ⟨#[]⟩, .int .i64 0] 31) = wb := ⟨_, rfl⟩
  obtain ⟨g, hg⟩ : ∃ g, w.heap.size = g := ⟨_, rfl⟩
  have acc : Wr [] w wb := by rw [← hwb]; exact (((Wr.refl _ _).alloc _).alloc _).alloc _
  have bA : Blk wb g 31 #[.int .i64 ao, .int .i64 an, .string as_, .int .i64 at_] := by rw [← hwb, ← hg]; exact ((Blk.new _ _ _).alloc _).alloc _
  have bB : Blk wb (g + 1) 31 #[.int .i64 4, .int .i64 bn, .string bs_, .int .i64 bt_] := by
    have hb := (Blk.new (w.alloc (.cells #[.int .i64 ao, .int .i64 an, .string as_, .int .i64 at_] 31)) 31 #[.int .i64 4, .int .i64 bn, .string bs_, .int .i64 bt_]).alloc (.cells #[.int .i64 0, .int .i64 0, .string ⟨#[]⟩, .int .i64 0] 31)
    rw [hwb, show (w.alloc (.cells #[.int .i64 ao, .int .i64 an, .string as_, .int .i64 at_] 31)).heap.size = g + 1 by simp [hg]] at hb
    exact hb
  have bR : Blk wb (g + 1 + 1) 31 zeroR := by
    have hb := Blk.new ((w.alloc (.cells #[.int .i64 ao, .int .i64 an, .string as_, .int .i64 at_] 31)).alloc (.cells #[.int .i64 4, .int .i64 bn, .string bs_, .int .i64 bt_] 31)) 31 zeroR
    rw [show ((w.alloc (.cells #[.int .i64 ao, .int .i64 an, .string as_, .int .i64 at_] 31)).alloc (.cells #[.int .i64 4, .int .i64 bn, .string bs_, .int .i64 bt_] 31)).heap.size = g + 1 + 1 by simp [hg]] at hb
    rw [← hwb]
    exact hb
  have Hwb := Lib.hid hwb
  have Hg := Lib.hid hg
  clear hwb hg
  go_enter Try.func18, Try.ntmps18
  go_wp2_with fail
  rw [Hwb.out, Hg.out]
  refine (op_ref s _).mono ?_
  rintro e w1 ⟨rfl, k1⟩
  rw [hop]
  replace acc := acc.trans k1
  replace bA := bA.wr0 k1
  replace bB := bB.wr0 k1
  replace bR := bR.wr0 k1
  clear k1
  have a0 := bA.cell 0
  have a1 := bA.cell 1
  have a2 := bA.cell 2
  have a3 := bA.cell 3
  simp [zeroR] at a0 a1 a2 a3
  have b0 := bB.cell 0
  have b1 := bB.cell 1
  have b2 := bB.cell 2
  have b3 := bB.cell 3
  simp [zeroR] at b0 b1 b2 b3
  have r0 := bR.cell 0
  have r1 := bR.cell 1
  have r2 := bR.cell 2
  have r3 := bR.cell 3
  simp [zeroR] at r0 r1 r2 r3
  have fa0 := bA.frozen 0
  have fa1 := bA.frozen 1
  have fa2 := bA.frozen 2
  have fa3 := bA.frozen 3
  have fb0 := bB.frozen 0
  have fb1 := bB.frozen 1
  have fb2 := bB.frozen 2
  have fb3 := bB.frozen 3
  have fr0 := bR.frozen 0
  have fr1 := bR.frozen 1
  have fr2 := bR.frozen 2
  have fr3 := bR.frozen 3
  go_wp2_with fail
  clear a0 a1 a2 a3 b0 b1 b2 b3 r0 r1 r2 r3 fa0 fa1 fa2 fa3 fb0 fb1 fb2 fb3 fr0 fr1 fr2 fr3
  refine (hh _).mono ?_
  rintro e w2 ⟨rfl, k2⟩
  replace acc := acc.trans k2
  replace bA := bA.wr0 k2
  replace bB := bB.wr0 k2
  replace bR := bR.wr0 k2
  clear k2
  have a0 := bA.cell 0
  have a1 := bA.cell 1
  have a2 := bA.cell 2
  have a3 := bA.cell 3
  simp [zeroR] at a0 a1 a2 a3
  have b0 := bB.cell 0
  have b1 := bB.cell 1
  have b2 := bB.cell 2
  have b3 := bB.cell 3
  simp [zeroR] at b0 b1 b2 b3
  have r0 := bR.cell 0
  have r1 := bR.cell 1
  have r2 := bR.cell 2
  have r3 := bR.cell 3
  simp [zeroR] at r0 r1 r2 r3
  have fa0 := bA.frozen 0
  have fa1 := bA.frozen 1
  have fa2 := bA.frozen 2
  have fa3 := bA.frozen 3
  have fb0 := bB.frozen 0
  have fb1 := bB.frozen 1
  have fb2 := bB.frozen 2
  have fb3 := bB.frozen 3
  have fr0 := bR.frozen 0
  have fr1 := bR.frozen 1
  have fr2 := bR.frozen 2
  have fr3 := bR.frozen 3
  go_wp2_with fail
  clear a0 a1 a2 a3 b0 b1 b2 b3 r0 r1 r2 r3 fa0 fa1 fa2 fa3 fb0 fb1 fb2 fb3 fr0 fr1 fr2 fr3
  refine (hn _).mono ?_
  rintro e w2 ⟨rfl, k2⟩
  replace acc := acc.trans k2
  replace bA := bA.wr0 k2
  replace bB := bB.wr0 k2
  replace bR := bR.wr0 k2
  clear k2
  have a0 := bA.cell 0
  have a1 := bA.cell 1
  have a2 := bA.cell 2
  have a3 := bA.cell 3
  simp [zeroR] at a0 a1 a2 a3
  have b0 := bB.cell 0
  have b1 := bB.cell 1
  have b2 := bB.cell 2
  have b3 := bB.cell 3
  simp [zeroR] at b0 b1 b2 b3
  have r0 := bR.cell 0
  have r1 := bR.cell 1
  have r2 := bR.cell 2
  have r3 := bR.cell 3
  simp [zeroR] at r0 r1 r2 r3
  have fa0 := bA.frozen 0
  have fa1 := bA.frozen 1
  have fa2 := bA.frozen 2
  have fa3 := bA.frozen 3
  have fb0 := bB.frozen 0
  have fb1 := bB.frozen 1
  have fb2 := bB.frozen 2
  have fb3 := bB.frozen 3
  have fr0 := bR.frozen 0
  have fr1 := bR.frozen 1
  have fr2 := bR.frozen 2
  have fr3 := bR.frozen 3
  go_wp2_with fail
  clear a0 a1 a2 a3 b0 b1 b2 b3 r0 r1 r2 r3 fa0 fa1 fa2 fa3 fb0 fb1 fb2 fb3 fr0 fr1 fr2 fr3
  refine (truth_ref (false) _).mono ?_
  rintro e w2 ⟨rfl, k2⟩
  replace acc := acc.trans k2
  replace bA := bA.wr0 k2
  replace bB := bB.wr0 k2
  replace bR := bR.wr0 k2
  clear k2
  have a0 := bA.cell 0
  have a1 := bA.cell 1
  have a2 := bA.cell 2
  have a3 := bA.cell 3
  simp [zeroR] at a0 a1 a2 a3
  have b0 := bB.cell 0
  have b1 := bB.cell 1
  have b2 := bB.cell 2
  have b3 := bB.cell 3
  simp [zeroR] at b0 b1 b2 b3
  have r0 := bR.cell 0
  have r1 := bR.cell 1
  have r2 := bR.cell 2
  have r3 := bR.cell 3
  simp [zeroR] at r0 r1 r2 r3
  have fa0 := bA.frozen 0
  have fa1 := bA.frozen 1
  have fa2 := bA.frozen 2
  have fa3 := bA.frozen 3
  have fb0 := bB.frozen 0
  have fb1 := bB.frozen 1
  have fb2 := bB.frozen 2
  have fb3 := bB.frozen 3
  have fr0 := bR.frozen 0
  have fr1 := bR.frozen 1
  have fr2 := bR.frozen 2
  have fr3 := bR.frozen 3
  unfold refV
  go_wp2_with fail
  clear a0 a1 a2 a3 b0 b1 b2 b3 r0 r1 r2 r3 fa0 fa1 fa2 fa3 fb0 fb1 fb2 fb3 fr0 fr1 fr2 fr3
  obtain ⟨z1, z2⟩ := end4 (x0 := .int .i64 0) (x1 := .int .i64 0) (x2 := .string ⟨#[]⟩) (x3 := .int .i64 0) acc (by rw [Hg.out]; omega) bR _ _ _ _
  have d0 := z2.cell 0
  have d1 := z2.cell 1
  have d2 := z2.cell 2
  have d3 := z2.cell 3
  simp at d0 d1 d2 d3
  refine bodyPost_ret (v := .tuple #[refV (KV.truth (false)), .int .i64 0]) ?_ rfl ⟨rfl, z1⟩
  simp [results, Try.results18, go_sem, d0, d1, d2, d3, refV, KV.none_]

set_option maxRecDepth 100000 in
set_option maxHeartbeats 4000000 in
theorem dr_I5 {s : ByteArray} {ao an : Int} {as_ : ByteArray} {at_ : Int} {bo bn : Int} {bs_ : ByteArray} {bt_ : Int} {n : Int} (hop : opB s = true) (na : ¬ao = 0) (na_ : (ao == 0) = false) (q : s.toList = [73, 78]) (hh : ∀ w, Calls Try.prog 30 #[.agg #[.int .i64 ao, .int .i64 an, .string as_, .int .i64 at_]] w fun e w' => e = .returned (.bool true) ∧ Wr [] w w') (hn : ∀ w, Calls Try.prog 31 #[.agg #[.int .i64 ao, .int .i64 an, .string as_, .int .i64 at_]] w fun e w' => e = .returned (.int .i64 n) ∧ Wr [] w w') (c4 : bo = 4) (g0 : decide (n ≥ 0) = true) (g1 : decide (n < 16) = true) (hn0 : 0 ≤ n ∧ n < 16) (hb : 0 ≤ bn ∧ bn ≤ 65535)  (w : World) :
    Calls Try.prog 18 #[.string s, .agg #[.int .i64 ao, .int .i64 an, .string as_, .int .i64 at_], .agg #[.int .i64 bo, .int .i64 bn, .string bs_, .int .i64 bt_]] w fun e w' => e = .returned (.tuple #[refV (KV.truth (inR n bn)), .int .i64 0]) ∧ Wr [] w w' := by
  subst c4
  obtain ⟨wb, hwb⟩ : ∃ wb, ((w.alloc (.cells #[.int .i64 ao, .int .i64 an, .string as_, .int .i64 at_] 31)).alloc (.cells #[.int .i64 4, .int .i64 bn, .string bs_, .int .i64 bt_] 31)).alloc (.cells #[.int .i64 0, .int .i64 0, .string ⟨#[]⟩, .int .i64 0] 31) = wb := ⟨_, rfl⟩
  obtain ⟨g, hg⟩ : ∃ g, w.heap.size = g := ⟨_, rfl⟩
  have acc : Wr [] w wb := by rw [← hwb]; exact (((Wr.refl _ _).alloc _).alloc _).alloc _
  have bA : Blk wb g 31 #[.int .i64 ao, .int .i64 an, .string as_, .int .i64 at_] := by rw [← hwb, ← hg]; exact ((Blk.new _ _ _).alloc _).alloc _
  have bB : Blk wb (g + 1) 31 #[.int .i64 4, .int .i64 bn, .string bs_, .int .i64 bt_] := by
    have hb := (Blk.new (w.alloc (.cells #[.int .i64 ao, .int .i64 an, .string as_, .int .i64 at_] 31)) 31 #[.int .i64 4, .int .i64 bn, .string bs_, .int .i64 bt_]).alloc (.cells #[.int .i64 0, .int .i64 0, .string ⟨#[]⟩, .int .i64 0] 31)
    rw [hwb, show (w.alloc (.cells #[.int .i64 ao, .int .i64 an, .string as_, .int .i64 at_] 31)).heap.size = g + 1 by simp [hg]] at hb
    exact hb
  have bR : Blk wb (g + 1 + 1) 31 zeroR := by
    have hb := Blk.new ((w.alloc (.cells #[.int .i64 ao, .int .i64 an, .string as_, .int .i64 at_] 31)).alloc (.cells #[.int .i64 4, .int .i64 bn, .string bs_, .int .i64 bt_] 31)) 31 zeroR
    rw [show ((w.alloc (.cells #[.int .i64 ao, .int .i64 an, .string as_, .int .i64 at_] 31)).alloc (.cells #[.int .i64 4, .int .i64 bn, .string bs_, .int .i64 bt_] 31)).heap.size = g + 1 + 1 by simp [hg]] at hb
    rw [← hwb]
    exact hb
  have Hwb := Lib.hid hwb
  have Hg := Lib.hid hg
  clear hwb hg
  go_enter Try.func18, Try.ntmps18
  go_wp2_with fail
  rw [Hwb.out, Hg.out]
  refine (op_ref s _).mono ?_
  rintro e w1 ⟨rfl, k1⟩
  rw [hop]
  replace acc := acc.trans k1
  replace bA := bA.wr0 k1
  replace bB := bB.wr0 k1
  replace bR := bR.wr0 k1
  clear k1
  have a0 := bA.cell 0
  have a1 := bA.cell 1
  have a2 := bA.cell 2
  have a3 := bA.cell 3
  simp [zeroR] at a0 a1 a2 a3
  have b0 := bB.cell 0
  have b1 := bB.cell 1
  have b2 := bB.cell 2
  have b3 := bB.cell 3
  simp [zeroR] at b0 b1 b2 b3
  have r0 := bR.cell 0
  have r1 := bR.cell 1
  have r2 := bR.cell 2
  have r3 := bR.cell 3
  simp [zeroR] at r0 r1 r2 r3
  have fa0 := bA.frozen 0
  have fa1 := bA.frozen 1
  have fa2 := bA.frozen 2
  have fa3 := bA.frozen 3
  have fb0 := bB.frozen 0
  have fb1 := bB.frozen 1
  have fb2 := bB.frozen 2
  have fb3 := bB.frozen 3
  have fr0 := bR.frozen 0
  have fr1 := bR.frozen 1
  have fr2 := bR.frozen 2
  have fr3 := bR.frozen 3
  go_wp2_with fail
  clear a0 a1 a2 a3 b0 b1 b2 b3 r0 r1 r2 r3 fa0 fa1 fa2 fa3 fb0 fb1 fb2 fb3 fr0 fr1 fr2 fr3
  refine (hh _).mono ?_
  rintro e w2 ⟨rfl, k2⟩
  replace acc := acc.trans k2
  replace bA := bA.wr0 k2
  replace bB := bB.wr0 k2
  replace bR := bR.wr0 k2
  clear k2
  have a0 := bA.cell 0
  have a1 := bA.cell 1
  have a2 := bA.cell 2
  have a3 := bA.cell 3
  simp [zeroR] at a0 a1 a2 a3
  have b0 := bB.cell 0
  have b1 := bB.cell 1
  have b2 := bB.cell 2
  have b3 := bB.cell 3
  simp [zeroR] at b0 b1 b2 b3
  have r0 := bR.cell 0
  have r1 := bR.cell 1
  have r2 := bR.cell 2
  have r3 := bR.cell 3
  simp [zeroR] at r0 r1 r2 r3
  have fa0 := bA.frozen 0
  have fa1 := bA.frozen 1
  have fa2 := bA.frozen 2
  have fa3 := bA.frozen 3
  have fb0 := bB.frozen 0
  have fb1 := bB.frozen 1
  have fb2 := bB.frozen 2
  have fb3 := bB.frozen 3
  have fr0 := bR.frozen 0
  have fr1 := bR.frozen 1
  have fr2 := bR.frozen 2
  have fr3 := bR.frozen 3
  go_wp2_with fail
  clear a0 a1 a2 a3 b0 b1 b2 b3 r0 r1 r2 r3 fa0 fa1 fa2 fa3 fb0 fb1 fb2 fb3 fr0 fr1 fr2 fr3
  refine (hn _).mono ?_
  rintro e w2 ⟨rfl, k2⟩
  replace acc := acc.trans k2
  replace bA := bA.wr0 k2
  replace bB := bB.wr0 k2
  replace bR := bR.wr0 k2
  clear k2
  have a0 := bA.cell 0
  have a1 := bA.cell 1
  have a2 := bA.cell 2
  have a3 := bA.cell 3
  simp [zeroR] at a0 a1 a2 a3
  have b0 := bB.cell 0
  have b1 := bB.cell 1
  have b2 := bB.cell 2
  have b3 := bB.cell 3
  simp [zeroR] at b0 b1 b2 b3
  have r0 := bR.cell 0
  have r1 := bR.cell 1
  have r2 := bR.cell 2
  have r3 := bR.cell 3
  simp [zeroR] at r0 r1 r2 r3
  have fa0 := bA.frozen 0
  have fa1 := bA.frozen 1
  have fa2 := bA.frozen 2
  have fa3 := bA.frozen 3
  have fb0 := bB.frozen 0
  have fb1 := bB.frozen 1
  have fb2 := bB.frozen 2
  have fb3 := bB.frozen 3
  have fr0 := bR.frozen 0
  have fr1 := bR.frozen 1
  have fr2 := bR.frozen 2
  have fr3 := bR.frozen 3
  go_wp2_with fail
  clear a0 a1 a2 a3 b0 b1 b2 b3 r0 r1 r2 r3 fa0 fa1 fa2 fa3 fb0 fb1 fb2 fb3 fr0 fr1 fr2 fr3
  refine (truth_ref (inR n bn) _).mono ?_
  rintro e w2 ⟨rfl, k2⟩
  replace acc := acc.trans k2
  replace bA := bA.wr0 k2
  replace bB := bB.wr0 k2
  replace bR := bR.wr0 k2
  clear k2
  have a0 := bA.cell 0
  have a1 := bA.cell 1
  have a2 := bA.cell 2
  have a3 := bA.cell 3
  simp [zeroR] at a0 a1 a2 a3
  have b0 := bB.cell 0
  have b1 := bB.cell 1
  have b2 := bB.cell 2
  have b3 := bB.cell 3
  simp [zeroR] at b0 b1 b2 b3
  have r0 := bR.cell 0
  have r1 := bR.cell 1
  have r2 := bR.cell 2
  have r3 := bR.cell 3
  simp [zeroR] at r0 r1 r2 r3
  have fa0 := bA.frozen 0
  have fa1 := bA.frozen 1
  have fa2 := bA.frozen 2
  have fa3 := bA.frozen 3
  have fb0 := bB.frozen 0
  have fb1 := bB.frozen 1
  have fb2 := bB.frozen 2
  have fb3 := bB.frozen 3
  have fr0 := bR.frozen 0
  have fr1 := bR.frozen 1
  have fr2 := bR.frozen 2
  have fr3 := bR.frozen 3
  unfold refV
  go_wp2_with fail
  clear a0 a1 a2 a3 b0 b1 b2 b3 r0 r1 r2 r3 fa0 fa1 fa2 fa3 fb0 fb1 fb2 fb3 fr0 fr1 fr2 fr3
  obtain ⟨z1, z2⟩ := end4 (x0 := .int .i64 0) (x1 := .int .i64 0) (x2 := .string ⟨#[]⟩) (x3 := .int .i64 0) acc (by rw [Hg.out]; omega) bR _ _ _ _
  have d0 := z2.cell 0
  have d1 := z2.cell 1
  have d2 := z2.cell 2
  have d3 := z2.cell 3
  simp at d0 d1 d2 d3
  refine bodyPost_ret (v := .tuple #[refV (KV.truth (inR n bn)), .int .i64 0]) ?_ rfl ⟨rfl, z1⟩
  simp [results, Try.results18, go_sem, d0, d1, d2, d3, refV, KV.none_]

end Go.Proofs.Ytpfidbpbomamjaa
