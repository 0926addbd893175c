/- The document's Does, walked: part 3. No conditions but that the values are such as Go has. -/
import Derived.Test.YtpfidbpbomamjaaKoY
namespace Go.Proofs.Ytpfidbpbomamjaa
open Go.RowKit
set_option linter.unusedVariables false
set_option linter.unusedSimpArgs false

set_option maxRecDepth 100000 in
set_option maxHeartbeats 4000000 in
theorem dr_G3a {s : ByteArray} {ao an : Int} {as_ : ByteArray} {at_ : Int} {bo bn : Int} {bs_ : ByteArray} {bt_ : Int} {xn : Int} {xs_ : ByteArray} {xt_ : Int} {yn : Int} {ys_ : ByteArray} {yt_ : Int} (hop : opB s = true) (na : ¬ao = 0) (na_ : (ao == 0) = false) (nb : ¬bo = 0) (nb_ : (bo == 0) = false) (q : s.toList = [65, 78, 68]) (x1_ : xn = 1) (hA : ∀ w, Calls Try.prog 33 #[.agg #[.int .i64 ao, .int .i64 an, .string as_, .int .i64 at_]] w fun e w' => e = .returned (.agg #[.int .i64 3, .int .i64 xn, .string xs_, .int .i64 xt_]) ∧ Wr [] w w') (hB : ∀ w, Calls Try.prog 33 #[.agg #[.int .i64 bo, .int .i64 bn, .string bs_, .int .i64 bt_]] w fun e w' => e = .returned (.agg #[.int .i64 3, .int .i64 yn, .string ys_, .int .i64 yt_]) ∧ Wr [] w w')  (w : World) :
    Calls Try.prog 18 #[.string s, .agg #[.int .i64 ao, .int .i64 an, .string as_, .int .i64 at_], .agg #[.int .i64 bo, .int .i64 bn, .string bs_, .int .i64 bt_]] w fun e w' => e = .returned (.tuple #[refV (KV.truth (yn == 1)), .int .i64 0]) ∧ Wr [] w w' := by
  subst x1_
  obtain ⟨wb, hwb⟩ : ∃ wb, ((w.alloc (.cells #[.int .i64 ao, .int .i64 an, .string as_, .int .i64 at_] 31)).alloc (.cells #[.int .i64 bo, .int .i64 bn, .string bs_, .int .i64 bt_] 31)).alloc (.cells #[.int .i64 0, .int .i64 0, .string ⟨#[]⟩, .int .i64 0] 31) = wb := ⟨_, rfl⟩
  obtain ⟨g, hg⟩ : ∃ g, w.heap.size = g := ⟨_, rfl⟩
  have acc : Wr [] w wb := by rw [← hwb]; exact (((Wr.refl _ _).alloc _).alloc _).alloc _
  have bA : Blk wb g 31 #[.int .i64 ao, .int .i64 an, .string as_, .int .i64 at_] := by rw [← hwb, ← hg]; exact ((Blk.new _ _ _).alloc _).alloc _
  have bB : Blk wb (g + 1) 31 #[.int .i64 bo, .int .i64 bn, .string bs_, .int .i64 bt_] := by
    have hb := (Blk.new (w.alloc (.cells #[.int .i64 ao, .int .i64 an, .string as_, .int .i64 at_] 31)) 31 #[.int .i64 bo, .int .i64 bn, .string bs_, .int .i64 bt_]).alloc (.cells #[.int .i64 0, .int .i64 0, .string ⟨#[]⟩, .int .i64 0] 31)
    rw [hwb, show (w.alloc (.cells #[.int .i64 ao, .int .i64 an, .string as_, .int .i64 at_] 31)).heap.size = g + 1 by simp [hg]] at hb
    exact hb
  have bR : Blk wb (g + 1 + 1) 31 zeroR := by
    have hb := Blk.new ((w.alloc (.cells #[.int .i64 ao, .int .i64 an, .string as_, .int .i64 at_] 31)).alloc (.cells #[.int .i64 bo, .int .i64 bn, .string bs_, .int .i64 bt_] 31)) 31 zeroR
    rw [show ((w.alloc (.cells #[.int .i64 ao, .int .i64 an, .string as_, .int .i64 at_] 31)).alloc (.cells #[.int .i64 bo, .int .i64 bn, .string bs_, .int .i64 bt_] 31)).heap.size = g + 1 + 1 by simp [hg]] at hb
    rw [← hwb]
    exact hb
  have Hwb := Lib.hid hwb
  have Hg := Lib.hid hg
  clear hwb hg
  go_enter Try.func18, Try.ntmps18
  go_wp2_with fail
  rw [Hwb.out, Hg.out]
  refine (op_ref s _).mono ?_
  rintro e w1 ⟨rfl, k1⟩
  rw [hop]
  replace acc := acc.trans k1
  replace bA := bA.wr0 k1
  replace bB := bB.wr0 k1
  replace bR := bR.wr0 k1
  clear k1
  have a0 := bA.cell 0
  have a1 := bA.cell 1
  have a2 := bA.cell 2
  have a3 := bA.cell 3
  simp [zeroR] at a0 a1 a2 a3
  have b0 := bB.cell 0
  have b1 := bB.cell 1
  have b2 := bB.cell 2
  have b3 := bB.cell 3
  simp [zeroR] at b0 b1 b2 b3
  have r0 := bR.cell 0
  have r1 := bR.cell 1
  have r2 := bR.cell 2
  have r3 := bR.cell 3
  simp [zeroR] at r0 r1 r2 r3
  have fa0 := bA.frozen 0
  have fa1 := bA.frozen 1
  have fa2 := bA.frozen 2
  have fa3 := bA.frozen 3
  have fb0 := bB.frozen 0
  have fb1 := bB.frozen 1
  have fb2 := bB.frozen 2
  have fb3 := bB.frozen 3
  have fr0 := bR.frozen 0
  have fr1 := bR.frozen 1
  have fr2 := bR.frozen 2
  have fr3 := bR.frozen 3
  go_wp2_with fail
  clear a0 a1 a2 a3 b0 b1 b2 b3 r0 r1 r2 r3 fa0 fa1 fa2 fa3 fb0 fb1 fb2 fb3 fr0 fr1 fr2 fr3
  refine (hA _).mono ?_
  rintro e w2 ⟨rfl, k2⟩
  replace acc := acc.trans k2
  replace bA := bA.wr0 k2
  replace bB := bB.wr0 k2
  replace bR := bR.wr0 k2
  clear k2
  have a0 := bA.cell 0
  have a1 := bA.cell 1
  have a2 := bA.cell 2
  have a3 := bA.cell 3
  simp [zeroR] at a0 a1 a2 a3
  have b0 := bB.cell 0
  have b1 := bB.cell 1
  have b2 := bB.cell 2
  have b3 := bB.cell 3
  simp [zeroR] at b0 b1 b2 b3
  have r0 := bR.cell 0
  have r1 := bR.cell 1
  have r2 := bR.cell 2
  have r3 := bR.cell 3
  simp [zeroR] at r0 r1 r2 r3
  have fa0 := bA.frozen 0
  have fa1 := bA.frozen 1
  have fa2 := bA.frozen 2
  have fa3 := bA.frozen 3
  have fb0 := bB.frozen 0
  have fb1 := bB.frozen 1
  have fb2 := bB.frozen 2
  have fb3 := bB.frozen 3
  have fr0 := bR.frozen 0
  have fr1 := bR.frozen 1
  have fr2 := bR.frozen 2
  have fr3 := bR.frozen 3
  go_wp2_with fail
  rw [fold4]
  obtain ⟨wp, hwp⟩ : ∃ wp, put4 w2 g (.int .i64 3) (.int .i64 1) (.string xs_) (.int .i64 xt_) = wp := ⟨_, rfl⟩
  have acc' := put4_wr acc (g := g) (by rw [Hg.out]; omega) (.int .i64 3) (.int .i64 1) (.string xs_) (.int .i64 xt_)
  have bA' := put4_blk bA (.int .i64 3) (.int .i64 1) (.string xs_) (.int .i64 xt_)
  have bB' := put4_far bB (g := g) (by omega) (.int .i64 3) (.int .i64 1) (.string xs_) (.int .i64 xt_)
  have bR' := put4_far bR (g := g) (by omega) (.int .i64 3) (.int .i64 1) (.string xs_) (.int .i64 xt_)
  rw [hwp] at acc' bA' bB' bR'
  rw [hwp]
  clear hwp acc bA bB bR a0 a1 a2 a3 b0 b1 b2 b3 r0 r1 r2 r3 fa0 fa1 fa2 fa3 fb0 fb1 fb2 fb3 fr0 fr1 fr2 fr3
  have acc := acc'
  have bA := bA'
  have bB := bB'
  have bR := bR'
  clear acc' bA' bB' bR'
  have a0 := bA.cell 0
  have a1 := bA.cell 1
  have a2 := bA.cell 2
  have a3 := bA.cell 3
  simp [zeroR] at a0 a1 a2 a3
  have b0 := bB.cell 0
  have b1 := bB.cell 1
  have b2 := bB.cell 2
  have b3 := bB.cell 3
  simp [zeroR] at b0 b1 b2 b3
  have r0 := bR.cell 0
  have r1 := bR.cell 1
  have r2 := bR.cell 2
  have r3 := bR.cell 3
  simp [zeroR] at r0 r1 r2 r3
  have fa0 := bA.frozen 0
  have fa1 := bA.frozen 1
  have fa2 := bA.frozen 2
  have fa3 := bA.frozen 3
  have fb0 := bB.frozen 0
  have fb1 := bB.frozen 1
  have fb2 := bB.frozen 2
  have fb3 := bB.frozen 3
  have fr0 := bR.frozen 0
  have fr1 := bR.frozen 1
  have fr2 := bR.frozen 2
  have fr3 := bR.frozen 3
  go_wp2_with fail
  clear a0 a1 a2 a3 b0 b1 b2 b3 r0 r1 r2 r3 fa0 fa1 fa2 fa3 fb0 fb1 fb2 fb3 fr0 fr1 fr2 fr3
  refine (hB _).mono ?_
  rintro e w3 ⟨rfl, k3⟩
  replace acc := acc.trans k3
  replace bA := bA.wr0 k3
  replace bB := bB.wr0 k3
  replace bR := bR.wr0 k3
  clear k3
  have a0 := bA.cell 0
  have a1 := bA.cell 1
  have a2 := bA.cell 2
  have a3 := bA.cell 3
  simp [zeroR] at a0 a1 a2 a3
  have b0 := bB.cell 0
  have b1 := bB.cell 1
  have b2 := bB.cell 2
  have b3 := bB.cell 3
  simp [zeroR] at b0 b1 b2 b3
  have r0 := bR.cell 0
  have r1 := bR.cell 1
  have r2 := bR.cell 2
  have r3 := bR.cell 3
  simp [zeroR] at r0 r1 r2 r3
  have fa0 := bA.frozen 0
  have fa1 := bA.frozen 1
  have fa2 := bA.frozen 2
  have fa3 := bA.frozen 3
  have fb0 := bB.frozen 0
  have fb1 := bB.frozen 1
  have fb2 := bB.frozen 2
  have fb3 := bB.frozen 3
  have fr0 := bR.frozen 0
  have fr1 := bR.frozen 1
  have fr2 := bR.frozen 2
  have fr3 := bR.frozen 3
  go_wp2_with fail
  simp only [fold4]
  obtain ⟨wq, hwq⟩ : ∃ wq, put4 w3 (g + 1) (.int .i64 3) (.int .i64 yn) (.string ys_) (.int .i64 yt_) = wq := ⟨_, rfl⟩
  have acc' := put4_wr acc (g := g + 1) (by rw [Hg.out]; omega) (.int .i64 3) (.int .i64 yn) (.string ys_) (.int .i64 yt_)
  have bB' := put4_blk bB (.int .i64 3) (.int .i64 yn) (.string ys_) (.int .i64 yt_)
  have bA' := put4_far bA (g := g + 1) (by omega) (.int .i64 3) (.int .i64 yn) (.string ys_) (.int .i64 yt_)
  have bR' := put4_far bR (g := g + 1) (by omega) (.int .i64 3) (.int .i64 yn) (.string ys_) (.int .i64 yt_)
  rw [hwq] at acc' bA' bB' bR'
  rw [hwq]
  clear hwq acc bA bB bR a0 a1 a2 a3 b0 b1 b2 b3 r0 r1 r2 r3 fa0 fa1 fa2 fa3 fb0 fb1 fb2 fb3 fr0 fr1 fr2 fr3
  have acc := acc'
  have bA := bA'
  have bB := bB'
  have bR := bR'
  clear acc' bA' bB' bR'
  have a0 := bA.cell 0
  have a1 := bA.cell 1
  have a2 := bA.cell 2
  have a3 := bA.cell 3
  simp [zeroR] at a0 a1 a2 a3
  have b0 := bB.cell 0
  have b1 := bB.cell 1
  have b2 := bB.cell 2
  have b3 := bB.cell 3
  simp [zeroR] at b0 b1 b2 b3
  have r0 := bR.cell 0
  have r1 := bR.cell 1
  have r2 := bR.cell 2
  have r3 := bR.cell 3
  simp [zeroR] at r0 r1 r2 r3
  have fa0 := bA.frozen 0
  have fa1 := bA.frozen 1
  have fa2 := bA.frozen 2
  have fa3 := bA.frozen 3
  have fb0 := bB.frozen 0
  have fb1 := bB.frozen 1
  have fb2 := bB.frozen 2
  have fb3 := bB.frozen 3
  have fr0 := bR.frozen 0
  have fr1 := bR.frozen 1
  have fr2 := bR.frozen 2
  have fr3 := bR.frozen 3
  try go_wp2_with fail
  try unfold put4
  clear a0 a1 a2 a3 b0 b1 b2 b3 r0 r1 r2 r3 fa0 fa1 fa2 fa3 fb0 fb1 fb2 fb3 fr0 fr1 fr2 fr3
  refine (truth_ref (yn == 1) _).mono ?_
  rintro e w4 ⟨rfl, k4⟩
  replace acc := acc.trans k4
  replace bA := bA.wr0 k4
  replace bB := bB.wr0 k4
  replace bR := bR.wr0 k4
  clear k4
  have a0 := bA.cell 0
  have a1 := bA.cell 1
  have a2 := bA.cell 2
  have a3 := bA.cell 3
  simp [zeroR] at a0 a1 a2 a3
  have b0 := bB.cell 0
  have b1 := bB.cell 1
  have b2 := bB.cell 2
  have b3 := bB.cell 3
  simp [zeroR] at b0 b1 b2 b3
  have r0 := bR.cell 0
  have r1 := bR.cell 1
  have r2 := bR.cell 2
  have r3 := bR.cell 3
  simp [zeroR] at r0 r1 r2 r3
  have fa0 := bA.frozen 0
  have fa1 := bA.frozen 1
  have fa2 := bA.frozen 2
  have fa3 := bA.frozen 3
  have fb0 := bB.frozen 0
  have fb1 := bB.frozen 1
  have fb2 := bB.frozen 2
  have fb3 := bB.frozen 3
  have fr0 := bR.frozen 0
  have fr1 := bR.frozen 1
  have fr2 := bR.frozen 2
  have fr3 := bR.frozen 3
  unfold refV
  go_wp2_with fail
  clear a0 a1 a2 a3 b0 b1 b2 b3 r0 r1 r2 r3 fa0 fa1 fa2 fa3 fb0 fb1 fb2 fb3 fr0 fr1 fr2 fr3
  obtain ⟨z1, z2⟩ := end4 (x0 := .int .i64 0) (x1 := .int .i64 0) (x2 := .string ⟨#[]⟩) (x3 := .int .i64 0) acc (by rw [Hg.out]; omega) bR _ _ _ _
  have d0 := z2.cell 0
  have d1 := z2.cell 1
  have d2 := z2.cell 2
  have d3 := z2.cell 3
  simp at d0 d1 d2 d3
  refine bodyPost_ret (v := .tuple #[refV (KV.truth (yn == 1)), .int .i64 0]) ?_ rfl ⟨rfl, z1⟩
  simp [results, Try.results18, go_sem, d0, d1, d2, d3, refV, KV.none_]

set_option maxRecDepth 100000 in
set_option maxHeartbeats 4000000 in
theorem dr_G3b {s : ByteArray} {ao an : Int} {as_ : ByteArray} {at_ : Int} {bo bn : Int} {bs_ : ByteArray} {bt_ : Int} {xn : Int} {xs_ : ByteArray} {xt_ : Int} {yn : Int} {ys_ : ByteArray} {yt_ : Int} (hop : opB s = true) (na : ¬ao = 0) (na_ : (ao == 0) = false) (nb : ¬bo = 0) (nb_ : (bo == 0) = false) (q : s.toList = [65, 78, 68]) (x1 : (xn == 1) = false) (x1_ : ¬xn = 1) (hA : ∀ w, Calls Try.prog 33 #[.agg #[.int .i64 ao, .int .i64 an, .string as_, .int .i64 at_]] w fun e w' => e = .returned (.agg #[.int .i64 3, .int .i64 xn, .string xs_, .int .i64 xt_]) ∧ Wr [] w w') (hB : ∀ w, Calls Try.prog 33 #[.agg #[.int .i64 bo, .int .i64 bn, .string bs_, .int .i64 bt_]] w fun e w' => e = .returned (.agg #[.int .i64 3, .int .i64 yn, .string ys_, .int .i64 yt_]) ∧ Wr [] w w')  (w : World) :
    Calls Try.prog 18 #[.string s, .agg #[.int .i64 ao, .int .i64 an, .string as_, .int .i64 at_], .agg #[.int .i64 bo, .int .i64 bn, .string bs_, .int .i64 bt_]] w fun e w' => e = .returned (.tuple #[refV (KV.truth (false)), .int .i64 0]) ∧ Wr [] w w' := by
  obtain ⟨wb, hwb⟩ : ∃ wb, ((w.alloc (.cells #[.int .i64 ao, .int .i64 an, .string as_, .int .i64 at_] 31)).alloc (.cells #[.int .i64 bo, .int .i64 bn, .string bs_, .int .i64 bt_] 31)).alloc (.cells #[.int .i64 0, .int .i64 0, .string ⟨#[]⟩, .int .i64 0] 31) = wb := ⟨_, rfl⟩
  obtain ⟨g, hg⟩ : ∃ g, w.heap.size = g := ⟨_, rfl⟩
  have acc : Wr [] w wb := by rw [← hwb]; exact (((Wr.refl _ _).alloc _).alloc _).alloc _
  have bA : Blk wb g 31 #[.int .i64 ao, .int .i64 an, .string as_, .int .i64 at_] := by rw [← hwb, ← hg]; exact ((Blk.new _ _ _).alloc _).alloc _
  have bB : Blk wb (g + 1) 31 #[.int .i64 bo, .int .i64 bn, .string bs_, .int .i64 bt_] := by
    have hb := (Blk.new (w.alloc (.cells #[.int .i64 ao, .int .i64 an, .string as_, .int .i64 at_] 31)) 31 #[.int .i64 bo, .int .i64 bn, .string bs_, .int .i64 bt_]).alloc (.cells #[.int .i64 0, .int .i64 0, .string ⟨#[]⟩, .int .i64 0] 31)
    rw [hwb, show (w.alloc (.cells #[.int .i64 ao, .int .i64 an, .string as_, .int .i64 at_] 31)).heap.size = g + 1 by simp [hg]] at hb
    exact hb
  have bR : Blk wb (g + 1 + 1) 31 zeroR := by
    have hb := Blk.new ((w.alloc (.cells #[.int .i64 ao, .int .i64 an, .string as_, .int .i64 at_] 31)).alloc (.cells #[.int .i64 bo, .int .i64 bn, .string bs_, .int .i64 bt_] 31)) 31 zeroR
    rw [show ((w.alloc (.cells #[.int .i64 ao, .int .i64 an, .string as_, .int .i64 at_] 31)).alloc (.cells #[.int .i64 bo, .int .i64 bn, .string bs_, .int .i64 bt_] 31)).heap.size = g + 1 + 1 by simp [hg]] at hb
    rw [← hwb]
    exact hb
  have Hwb := Lib.hid hwb
  have Hg := Lib.hid hg
  clear hwb hg
  go_enter Try.func18, Try.ntmps18
  go_wp2_with fail
  rw [Hwb.out, Hg.out]
  refine (op_ref s _).mono ?_
  rintro e w1 ⟨rfl, k1⟩
  rw [hop]
  replace acc := acc.trans k1
  replace bA := bA.wr0 k1
  replace bB := bB.wr0 k1
  replace bR := bR.wr0 k1
  clear k1
  have a0 := bA.cell 0
  have a1 := bA.cell 1
  have a2 := bA.cell 2
  have a3 := bA.cell 3
  simp [zeroR] at a0 a1 a2 a3
  have b0 := bB.cell 0
  have b1 := bB.cell 1
  have b2 := bB.cell 2
  have b3 := bB.cell 3
  simp [zeroR] at b0 b1 b2 b3
  have r0 := bR.cell 0
  have r1 := bR.cell 1
  have r2 := bR.cell 2
  have r3 := bR.cell 3
  simp [zeroR] at r0 r1 r2 r3
  have fa0 := bA.frozen 0
  have fa1 := bA.frozen 1
  have fa2 := bA.frozen 2
  have fa3 := bA.frozen 3
  have fb0 := bB.frozen 0
  have fb1 := bB.frozen 1
  have fb2 := bB.frozen 2
  have fb3 := bB.frozen 3
  have fr0 := bR.frozen 0
  have fr1 := bR.frozen 1
  have fr2 := bR.frozen 2
  have fr3 := bR.frozen 3
  go_wp2_with fail
  clear a0 a1 a2 a3 b0 b1 b2 b3 r0 r1 r2 r3 fa0 fa1 fa2 fa3 fb0 fb1 fb2 fb3 fr0 fr1 fr2 fr3
  refine (hA _).mono ?_
  rintro e w2 ⟨rfl, k2⟩
  replace acc := acc.trans k2
  replace bA := bA.wr0 k2
  replace bB := bB.wr0 k2
  replace bR := bR.wr0 k2
  clear k2
  have a0 := bA.cell 0
  have a1 := bA.cell 1
  have a2 := bA.cell 2
  have a3 := bA.cell 3
  simp [zeroR] at a0 a1 a2 a3
  have b0 := bB.cell 0
  have b1 := bB.cell 1
  have b2 := bB.cell 2
  have b3 := bB.cell 3
  simp [zeroR] at b0 b1 b2 b3
  have r0 := bR.cell 0
  have r1 := bR.cell 1
  have r2 := bR.cell 2
  have r3 := bR.cell 3
  simp [zeroR] at r0 r1 r2 r3
  have fa0 := bA.frozen 0
  have fa1 := bA.frozen 1
  have fa2 := bA.frozen 2
  have fa3 := bA.frozen 3
  have fb0 := bB.frozen 0
  have fb1 := bB.frozen 1
  have fb2 := bB.frozen 2
  have fb3 := bB.frozen 3
  have fr0 := bR.frozen 0
  have fr1 := bR.frozen 1
  have fr2 := bR.frozen 2
  have fr3 := bR.frozen 3
  go_wp2_with fail
  rw [fold4]
  obtain ⟨wp, hwp⟩ : ∃ wp, put4 w2 g (.int .i64 3) (.int .i64 xn) (.string xs_) (.int .i64 xt_) = wp := ⟨_, rfl⟩
  have acc' := put4_wr acc (g := g) (by rw [Hg.out]; omega) (.int .i64 3) (.int .i64 xn) (.string xs_) (.int .i64 xt_)
  have bA' := put4_blk bA (.int .i64 3) (.int .i64 xn) (.string xs_) (.int .i64 xt_)
  have bB' := put4_far bB (g := g) (by omega) (.int .i64 3) (.int .i64 xn) (.string xs_) (.int .i64 xt_)
  have bR' := put4_far bR (g := g) (by omega) (.int .i64 3) (.int .i64 xn) (.string xs_) (.int .i64 xt_)
  rw [hwp] at acc' bA' bB' bR'
  rw [hwp]
  clear hwp acc bA bB bR a0 a1 a2 a3 b0 b1 b2 b3 r0 r1 r2 r3 fa0 fa1 fa2 fa3 fb0 fb1 fb2 fb3 fr0 fr1 fr2 fr3
  have acc := acc'
  have bA := bA'
  have bB := bB'
  have bR := bR'
  clear acc' bA' bB' bR'
  have a0 := bA.cell 0
  have a1 := bA.cell 1
  have a2 := bA.cell 2
  have a3 := bA.cell 3
  simp [zeroR] at a0 a1 a2 a3
  have b0 := bB.cell 0
  have b1 := bB.cell 1
  have b2 := bB.cell 2
  have b3 := bB.cell 3
  simp [zeroR] at b0 b1 b2 b3
  have r0 := bR.cell 0
  have r1 := bR.cell 1
  have r2 := bR.cell 2
  have r3 := bR.cell 3
  simp [zeroR] at r0 r1 r2 r3
  have fa0 := bA.frozen 0
  have fa1 := bA.frozen 1
  have fa2 := bA.frozen 2
  have fa3 := bA.frozen 3
  have fb0 := bB.frozen 0
  have fb1 := bB.frozen 1
  have fb2 := bB.frozen 2
  have fb3 := bB.frozen 3
  have fr0 := bR.frozen 0
  have fr1 := bR.frozen 1
  have fr2 := bR.frozen 2
  have fr3 := bR.frozen 3
  go_wp2_with fail
  clear a0 a1 a2 a3 b0 b1 b2 b3 r0 r1 r2 r3 fa0 fa1 fa2 fa3 fb0 fb1 fb2 fb3 fr0 fr1 fr2 fr3
  refine (hB _).mono ?_
  rintro e w3 ⟨rfl, k3⟩
  replace acc := acc.trans k3
  replace bA := bA.wr0 k3
  replace bB := bB.wr0 k3
  replace bR := bR.wr0 k3
  clear k3
  have a0 := bA.cell 0
  have a1 := bA.cell 1
  have a2 := bA.cell 2
  have a3 := bA.cell 3
  simp [zeroR] at a0 a1 a2 a3
  have b0 := bB.cell 0
  have b1 := bB.cell 1
  have b2 := bB.cell 2
  have b3 := bB.cell 3
  simp [zeroR] at b0 b1 b2 b3
  have r0 := bR.cell 0
  have r1 := bR.cell 1
  have r2 := bR.cell 2
  have r3 := bR.cell 3
  simp [zeroR] at r0 r1 r2 r3
  have fa0 := bA.frozen 0
  have fa1 := bA.frozen 1
  have fa2 := bA.frozen 2
  have fa3 := bA.frozen 3
  have fb0 := bB.frozen 0
  have fb1 := bB.frozen 1
  have fb2 := bB.frozen 2
  have fb3 := bB.frozen 3
  have fr0 := bR.frozen 0
  have fr1 := bR.frozen 1
  have fr2 := bR.frozen 2
  have fr3 := bR.frozen 3
  go_wp2_with fail
  simp only [fold4]
  obtain ⟨wq, hwq⟩ : ∃ wq, put4 w3 (g + 1) (.int .i64 3) (.int .i64 yn) (.string ys_) (.int .i64 yt_) = wq := ⟨_, rfl⟩
  have acc' := put4_wr acc (g := g + 1) (by rw [Hg.out]; omega) (.int .i64 3) (.int .i64 yn) (.string ys_) (.int .i64 yt_)
  have bB' := put4_blk bB (.int .i64 3) (.int .i64 yn) (.string ys_) (.int .i64 yt_)
  have bA' := put4_far bA (g := g + 1) (by omega) (.int .i64 3) (.int .i64 yn) (.string ys_) (.int .i64 yt_)
  have bR' := put4_far bR (g := g + 1) (by omega) (.int .i64 3) (.int .i64 yn) (.string ys_) (.int .i64 yt_)
  rw [hwq] at acc' bA' bB' bR'
  rw [hwq]
  clear hwq acc bA bB bR a0 a1 a2 a3 b0 b1 b2 b3 r0 r1 r2 r3 fa0 fa1 fa2 fa3 fb0 fb1 fb2 fb3 fr0 fr1 fr2 fr3
  have acc := acc'
  have bA := bA'
  have bB := bB'
  have bR := bR'
  clear acc' bA' bB' bR'
  have a0 := bA.cell 0
  have a1 := bA.cell 1
  have a2 := bA.cell 2
  have a3 := bA.cell 3
  simp [zeroR] at a0 a1 a2 a3
  have b0 := bB.cell 0
  have b1 := bB.cell 1
  have b2 := bB.cell 2
  have b3 := bB.cell 3
  simp [zeroR] at b0 b1 b2 b3
  have r0 := bR.cell 0
  have r1 := bR.cell 1
  have r2 := bR.cell 2
  have r3 := bR.cell 3
  simp [zeroR] at r0 r1 r2 r3
  have fa0 := bA.frozen 0
  have fa1 := bA.frozen 1
  have fa2 := bA.frozen 2
  have fa3 := bA.frozen 3
  have fb0 := bB.frozen 0
  have fb1 := bB.frozen 1
  have fb2 := bB.frozen 2
  have fb3 := bB.frozen 3
  have fr0 := bR.frozen 0
  have fr1 := bR.frozen 1
  have fr2 := bR.frozen 2
  have fr3 := bR.frozen 3
  try go_wp2_with fail
  try unfold put4
  clear a0 a1 a2 a3 b0 b1 b2 b3 r0 r1 r2 r3 fa0 fa1 fa2 fa3 fb0 fb1 fb2 fb3 fr0 fr1 fr2 fr3
  refine (truth_ref (false) _).mono ?_
  rintro e w4 ⟨rfl, k4⟩
  replace acc := acc.trans k4
  replace bA := bA.wr0 k4
  replace bB := bB.wr0 k4
  replace bR := bR.wr0 k4
  clear k4
  have a0 := bA.cell 0
  have a1 := bA.cell 1
  have a2 := bA.cell 2
  have a3 := bA.cell 3
  simp [zeroR] at a0 a1 a2 a3
  have b0 := bB.cell 0
  have b1 := bB.cell 1
  have b2 := bB.cell 2
  have b3 := bB.cell 3
  simp [zeroR] at b0 b1 b2 b3
  have r0 := bR.cell 0
  have r1 := bR.cell 1
  have r2 := bR.cell 2
  have r3 := bR.cell 3
  simp [zeroR] at r0 r1 r2 r3
  have fa0 := bA.frozen 0
  have fa1 := bA.frozen 1
  have fa2 := bA.frozen 2
  have fa3 := bA.frozen 3
  have fb0 := bB.frozen 0
  have fb1 := bB.frozen 1
  have fb2 := bB.frozen 2
  have fb3 := bB.frozen 3
  have fr0 := bR.frozen 0
  have fr1 := bR.frozen 1
  have fr2 := bR.frozen 2
  have fr3 := bR.frozen 3
  unfold refV
  go_wp2_with fail
  clear a0 a1 a2 a3 b0 b1 b2 b3 r0 r1 r2 r3 fa0 fa1 fa2 fa3 fb0 fb1 fb2 fb3 fr0 fr1 fr2 fr3
  obtain ⟨z1, z2⟩ := end4 (x0 := .int .i64 0) (x1 := .int .i64 0) (x2 := .string ⟨#[]⟩) (x3 := .int .i64 0) acc (by rw [Hg.out]; omega) bR _ _ _ _
  have d0 := z2.cell 0
  have d1 := z2.cell 1
  have d2 := z2.cell 2
  have d3 := z2.cell 3
  simp at d0 d1 d2 d3
  refine bodyPost_ret (v := .tuple #[refV (KV.truth (false)), .int .i64 0]) ?_ rfl ⟨rfl, z1⟩
  simp [results, Try.results18, go_sem, d0, d1, d2, d3, refV, KV.none_]

set_option maxRecDepth 100000 in
set_option maxHeartbeats 4000000 in
theorem dr_G3c {s : ByteArray} {ao an : Int} {as_ : ByteArray} {at_ : Int} {bo bn : Int} {bs_ : ByteArray} {bt_ : Int} {xn : Int} {xs_ : ByteArray} {xt_ : Int} {yn : Int} {ys_ : ByteArray} {yt_ : Int} (hop : opB s = true) (na : ¬ao = 0) (na_ : (ao == 0) = false) (nb : ¬bo = 0) (nb_ : (bo == 0) = false) (q : s.toList = [79, 82]) (x1_ : xn = 1) (hA : ∀ w, Calls Try.prog 33 #[.agg #[.int .i64 ao, .int .i64 an, .string as_, .int .i64 at_]] w fun e w' => e = .returned (.agg #[.int .i64 3, .int .i64 xn, .string xs_, .int .i64 xt_]) ∧ Wr [] w w') (hB : ∀ w, Calls Try.prog 33 #[.agg #[.int .i64 bo, .int .i64 bn, .string bs_, .int .i64 bt_]] w fun e w' => e = .returned (.agg #[.int .i64 3, .int .i64 yn, .string ys_, .int .i64 yt_]) ∧ Wr [] w w')  (w : World) :
    Calls Try.prog 18 #[.string s, .agg #[.int .i64 ao, .int .i64 an, .string as_, .int .i64 at_], .agg #[.int .i64 bo, .int .i64 bn, .string bs_, .int .i64 bt_]] w fun e w' => e = .returned (.tuple #[refV (KV.truth (true)), .int .i64 0]) ∧ Wr [] w w' := by
  subst x1_
  obtain ⟨wb, hwb⟩ : ∃ wb, ((w.alloc (.cells #[.int .i64 ao, .int .i64 an, .string as_, .int .i64 at_] 31)).alloc (.cells #[.int .i64 bo, .int .i64 bn, .string bs_, .int .i64 bt_] 31)).alloc (.cells #[.int .i64 0, .int .i64 0, .string ⟨#[]⟩, .int .i64 0] 31) = wb := ⟨_, rfl⟩
  obtain ⟨g, hg⟩ : ∃ g, w.heap.size = g := ⟨_, rfl⟩
  have acc : Wr [] w wb := by rw [← hwb]; exact (((Wr.refl _ _).alloc _).alloc _).alloc _
  have bA : Blk wb g 31 #[.int .i64 ao, .int .i64 an, .string as_, .int .i64 at_] := by rw [← hwb, ← hg]; exact ((Blk.new _ _ _).alloc _).alloc _
  have bB : Blk wb (g + 1) 31 #[.int .i64 bo, .int .i64 bn, .string bs_, .int .i64 bt_] := by
    have hb := (Blk.new (w.alloc (.cells #[.int .i64 ao, .int .i64 an, .string as_, .int .i64 at_] 31)) 31 #[.int .i64 bo, .int .i64 bn, .string bs_, .int .i64 bt_]).alloc (.cells #[.int .i64 0, .int .i64 0, .string ⟨#[]⟩, .int .i64 0] 31)
    rw [hwb, show (w.alloc (.cells #[.int .i64 ao, .int .i64 an, .string as_, .int .i64 at_] 31)).heap.size = g + 1 by simp [hg]] at hb
    exact hb
  have bR : Blk wb (g + 1 + 1) 31 zeroR := by
    have hb := Blk.new ((w.alloc (.cells #[.int .i64 ao, .int .i64 an, .string as_, .int .i64 at_] 31)).alloc (.cells #[.int .i64 bo, .int .i64 bn, .string bs_, .int .i64 bt_] 31)) 31 zeroR
    rw [show ((w.alloc (.cells #[.int .i64 ao, .int .i64 an, .string as_, .int .i64 at_] 31)).alloc (.cells #[.int .i64 bo, .int .i64 bn, .string bs_, .int .i64 bt_] 31)).heap.size = g + 1 + 1 by simp [hg]] at hb
    rw [← hwb]
    exact hb
  have Hwb := Lib.hid hwb
  have Hg := Lib.hid hg
  clear hwb hg
  go_enter Try.func18, Try.ntmps18
  go_wp2_with fail
  rw [Hwb.out, Hg.out]
  refine (op_ref s _).mono ?_
  rintro e w1 ⟨rfl, k1⟩
  rw [hop]
  replace acc := acc.trans k1
  replace bA := bA.wr0 k1
  replace bB := bB.wr0 k1
  replace bR := bR.wr0 k1
  clear k1
  have a0 := bA.cell 0
  have a1 := bA.cell 1
  have a2 := bA.cell 2
  have a3 := bA.cell 3
  simp [zeroR] at a0 a1 a2 a3
  have b0 := bB.cell 0
  have b1 := bB.cell 1
  have b2 := bB.cell 2
  have b3 := bB.cell 3
  simp [zeroR] at b0 b1 b2 b3
  have r0 := bR.cell 0
  have r1 := bR.cell 1
  have r2 := bR.cell 2
  have r3 := bR.cell 3
  simp [zeroR] at r0 r1 r2 r3
  have fa0 := bA.frozen 0
  have fa1 := bA.frozen 1
  have fa2 := bA.frozen 2
  have fa3 := bA.frozen 3
  have fb0 := bB.frozen 0
  have fb1 := bB.frozen 1
  have fb2 := bB.frozen 2
  have fb3 := bB.frozen 3
  have fr0 := bR.frozen 0
  have fr1 := bR.frozen 1
  have fr2 := bR.frozen 2
  have fr3 := bR.frozen 3
  go_wp2_with fail
  clear a0 a1 a2 a3 b0 b1 b2 b3 r0 r1 r2 r3 fa0 fa1 fa2 fa3 fb0 fb1 fb2 fb3 fr0 fr1 fr2 fr3
  refine (hA _).mono ?_
  rintro e w2 ⟨rfl, k2⟩
  replace acc := acc.trans k2
  replace bA := bA.wr0 k2
  replace bB := bB.wr0 k2
  replace bR := bR.wr0 k2
  clear k2
  have a0 := bA.cell 0
  have a1 := bA.cell 1
  have a2 := bA.cell 2
  have a3 := bA.cell 3
  simp [zeroR] at a0 a1 a2 a3
  have b0 := bB.cell 0
  have b1 := bB.cell 1
  have b2 := bB.cell 2
  have b3 := bB.cell 3
  simp [zeroR] at b0 b1 b2 b3
  have r0 := bR.cell 0
  have r1 := bR.cell 1
  have r2 := bR.cell 2
  have r3 := bR.cell 3
  simp [zeroR] at r0 r1 r2 r3
  have fa0 := bA.frozen 0
  have fa1 := bA.frozen 1
  have fa2 := bA.frozen 2
  have fa3 := bA.frozen 3
  have fb0 := bB.frozen 0
  have fb1 := bB.frozen 1
  have fb2 := bB.frozen 2
  have fb3 := bB.frozen 3
  have fr0 := bR.frozen 0
  have fr1 := bR.frozen 1
  have fr2 := bR.frozen 2
  have fr3 := bR.frozen 3
  go_wp2_with fail
  rw [fold4]
  obtain ⟨wp, hwp⟩ : ∃ wp, put4 w2 g (.int .i64 3) (.int .i64 1) (.string xs_) (.int .i64 xt_) = wp := ⟨_, rfl⟩
  have acc' := put4_wr acc (g := g) (by rw [Hg.out]; omega) (.int .i64 3) (.int .i64 1) (.string xs_) (.int .i64 xt_)
  have bA' := put4_blk bA (.int .i64 3) (.int .i64 1) (.string xs_) (.int .i64 xt_)
  have bB' := put4_far bB (g := g) (by omega) (.int .i64 3) (.int .i64 1) (.string xs_) (.int .i64 xt_)
  have bR' := put4_far bR (g := g) (by omega) (.int .i64 3) (.int .i64 1) (.string xs_) (.int .i64 xt_)
  rw [hwp] at acc' bA' bB' bR'
  rw [hwp]
  clear hwp acc bA bB bR a0 a1 a2 a3 b0 b1 b2 b3 r0 r1 r2 r3 fa0 fa1 fa2 fa3 fb0 fb1 fb2 fb3 fr0 fr1 fr2 fr3
  have acc := acc'
  have bA := bA'
  have bB := bB'
  have bR := bR'
  clear acc' bA' bB' bR'
  have a0 := bA.cell 0
  have a1 := bA.cell 1
  have a2 := bA.cell 2
  have a3 := bA.cell 3
  simp [zeroR] at a0 a1 a2 a3
  have b0 := bB.cell 0
  have b1 := bB.cell 1
  have b2 := bB.cell 2
  have b3 := bB.cell 3
  simp [zeroR] at b0 b1 b2 b3
  have r0 := bR.cell 0
  have r1 := bR.cell 1
  have r2 := bR.cell 2
  have r3 := bR.cell 3
  simp [zeroR] at r0 r1 r2 r3
  have fa0 := bA.frozen 0
  have fa1 := bA.frozen 1
  have fa2 := bA.frozen 2
  have fa3 := bA.frozen 3
  have fb0 := bB.frozen 0
  have fb1 := bB.frozen 1
  have fb2 := bB.frozen 2
  have fb3 := bB.frozen 3
  have fr0 := bR.frozen 0
  have fr1 := bR.frozen 1
  have fr2 := bR.frozen 2
  have fr3 := bR.frozen 3
  go_wp2_with fail
  clear a0 a1 a2 a3 b0 b1 b2 b3 r0 r1 r2 r3 fa0 fa1 fa2 fa3 fb0 fb1 fb2 fb3 fr0 fr1 fr2 fr3
  refine (hB _).mono ?_
  rintro e w3 ⟨rfl, k3⟩
  replace acc := acc.trans k3
  replace bA := bA.wr0 k3
  replace bB := bB.wr0 k3
  replace bR := bR.wr0 k3
  clear k3
  have a0 := bA.cell 0
  have a1 := bA.cell 1
  have a2 := bA.cell 2
  have a3 := bA.cell 3
  simp [zeroR] at a0 a1 a2 a3
  have b0 := bB.cell 0
  have b1 := bB.cell 1
  have b2 := bB.cell 2
  have b3 := bB.cell 3
  simp [zeroR] at b0 b1 b2 b3
  have r0 := bR.cell 0
  have r1 := bR.cell 1
  have r2 := bR.cell 2
  have r3 := bR.cell 3
  simp [zeroR] at r0 r1 r2 r3
  have fa0 := bA.frozen 0
  have fa1 := bA.frozen 1
  have fa2 := bA.frozen 2
  have fa3 := bA.frozen 3
  have fb0 := bB.frozen 0
  have fb1 := bB.frozen 1
  have fb2 := bB.frozen 2
  have fb3 := bB.frozen 3
  have fr0 := bR.frozen 0
  have fr1 := bR.frozen 1
  have fr2 := bR.frozen 2
  have fr3 := bR.frozen 3
  go_wp2_with fail
  simp only [fold4]
  obtain ⟨wq, hwq⟩ : ∃ wq, put4 w3 (g + 1) (.int .i64 3) (.int .i64 yn) (.string ys_) (.int .i64 yt_) = wq := ⟨_, rfl⟩
  have acc' := put4_wr acc (g := g + 1) (by rw [Hg.out]; omega) (.int .i64 3) (.int .i64 yn) (.string ys_) (.int .i64 yt_)
  have bB' := put4_blk bB (.int .i64 3) (.int .i64 yn) (.string ys_) (.int .i64 yt_)
  have bA' := put4_far bA (g := g + 1) (by omega) (.int .i64 3) (.int .i64 yn) (.string ys_) (.int .i64 yt_)
  have bR' := put4_far bR (g := g + 1) (by omega) (.int .i64 3) (.int .i64 yn) (.string ys_) (.int .i64 yt_)
  rw [hwq] at acc' bA' bB' bR'
  rw [hwq]
  clear hwq acc bA bB bR a0 a1 a2 a3 b0 b1 b2 b3 r0 r1 r2 r3 fa0 fa1 fa2 fa3 fb0 fb1 fb2 fb3 fr0 fr1 fr2 fr3
  have acc := acc'
  have bA := bA'
  have bB := bB'
  have bR := bR'
  clear acc' bA' bB' bR'
  have a0 := bA.cell 0
  have a1 := bA.cell 1
  have a2 := bA.cell 2
  have a3 := bA.cell 3
  simp [zeroR] at a0 a1 a2 a3
  have b0 := bB.cell 0
  have b1 := bB.cell 1
  have b2 := bB.cell 2
  have b3 := bB.cell 3
  simp [zeroR] at b0 b1 b2 b3
  have r0 := bR.cell 0
  have r1 := bR.cell 1
  have r2 := bR.cell 2
  have r3 := bR.cell 3
  simp [zeroR] at r0 r1 r2 r3
  have fa0 := bA.frozen 0
  have fa1 := bA.frozen 1
  have fa2 := bA.frozen 2
  have fa3 := bA.frozen 3
  have fb0 := bB.frozen 0
  have fb1 := bB.frozen 1
  have fb2 := bB.frozen 2
  have fb3 := bB.frozen 3
  have fr0 := bR.frozen 0
  have fr1 := bR.frozen 1
  have fr2 := bR.frozen 2
  have fr3 := bR.frozen 3
  try go_wp2_with fail
  try unfold put4
  clear a0 a1 a2 a3 b0 b1 b2 b3 r0 r1 r2 r3 fa0 fa1 fa2 fa3 fb0 fb1 fb2 fb3 fr0 fr1 fr2 fr3
  refine (truth_ref (true) _).mono ?_
  rintro e w4 ⟨rfl, k4⟩
  replace acc := acc.trans k4
  replace bA := bA.wr0 k4
  replace bB := bB.wr0 k4
  replace bR := bR.wr0 k4
  clear k4
  have a0 := bA.cell 0
  have a1 := bA.cell 1
  have a2 := bA.cell 2
  have a3 := bA.cell 3
  simp [zeroR] at a0 a1 a2 a3
  have b0 := bB.cell 0
  have b1 := bB.cell 1
  have b2 := bB.cell 2
  have b3 := bB.cell 3
  simp [zeroR] at b0 b1 b2 b3
  have r0 := bR.cell 0
  have r1 := bR.cell 1
  have r2 := bR.cell 2
  have r3 := bR.cell 3
  simp [zeroR] at r0 r1 r2 r3
  have fa0 := bA.frozen 0
  have fa1 := bA.frozen 1
  have fa2 := bA.frozen 2
  have fa3 := bA.frozen 3
  have fb0 := bB.frozen 0
  have fb1 := bB.frozen 1
  have fb2 := bB.frozen 2
  have fb3 := bB.frozen 3
  have fr0 := bR.frozen 0
  have fr1 := bR.frozen 1
  have fr2 := bR.frozen 2
  have fr3 := bR.frozen 3
  unfold refV
  go_wp2_with fail
  clear a0 a1 a2 a3 b0 b1 b2 b3 r0 r1 r2 r3 fa0 fa1 fa2 fa3 fb0 fb1 fb2 fb3 fr0 fr1 fr2 fr3
  obtain ⟨z1, z2⟩ := end4 (x0 := .int .i64 0) (x1 := .int .i64 0) (x2 := .string ⟨#[]⟩) (x3 := .int .i64 0) acc (by rw [Hg.out]; omega) bR _ _ _ _
  have d0 := z2.cell 0
  have d1 := z2.cell 1
  have d2 := z2.cell 2
  have d3 := z2.cell 3
  simp at d0 d1 d2 d3
  refine bodyPost_ret (v := .tuple #[refV (KV.truth (true)), .int .i64 0]) ?_ rfl ⟨rfl, z1⟩
  simp [results, Try.results18, go_sem, d0, d1, d2, d3, refV, KV.none_]

set_option maxRecDepth 100000 in
set_option maxHeartbeats 4000000 in
theorem dr_G3d {s : ByteArray} {ao an : Int} {as_ : ByteArray} {at_ : Int} {bo bn : Int} {bs_ : ByteArray} {bt_ : Int} {xn : Int} {xs_ : ByteArray} {xt_ : Int} {yn : Int} {ys_ : ByteArray} {yt_ : Int} (hop : opB s = true) (na : ¬ao = 0) (na_ : (ao == 0) = false) (nb : ¬bo = 0) (nb_ : (bo == 0) = false) (q : s.toList = [79, 82]) (x1 : (xn == 1) = false) (x1_ : ¬xn = 1) (hA : ∀ w, Calls Try.prog 33 #[.agg #[.int .i64 ao, .int .i64 an, .string as_, .int .i64 at_]] w fun e w' => e = .returned (.agg #[.int .i64 3, .int .i64 xn, .string xs_, .int .i64 xt_]) ∧ Wr [] w w') (hB : ∀ w, Calls Try.prog 33 #[.agg #[.int .i64 bo, .int .i64 bn, .string bs_, .int .i64 bt_]] w fun e w' => e = .returned (.agg #[.int .i64 3, .int .i64 yn, .string ys_, .int .i64 yt_]) ∧ Wr [] w w')  (w : World) :
    Calls Try.prog 18 #[.string s, .agg #[.int .i64 ao, .int .i64 an, .string as_, .int .i64 at_], .agg #[.int .i64 bo, .int .i64 bn, .string bs_, .int .i64 bt_]] w fun e w' => e = .returned (.tuple #[refV (KV.truth (yn == 1)), .int .i64 0]) ∧ Wr [] w w' := by
  obtain ⟨wb, hwb⟩ : ∃ wb, ((w.alloc (.cells #[.int .i64 ao, .int .i64 an, .string as_, .int .i64 at_] 31)).alloc (.cells #[.int .i64 bo, .int .i64 bn, .string bs_, .int .i64 bt_] 31)).alloc (.cells #[.int .i64 0, .int .i64 0, .string ⟨#[]⟩, .int .i64 0] 31) = wb := ⟨_, rfl⟩
  obtain ⟨g, hg⟩ : ∃ g, w.heap.size = g := ⟨_, rfl⟩
  have acc : Wr [] w wb := by rw [← hwb]; exact (((Wr.refl _ _).alloc _).alloc _).alloc _
  have bA : Blk wb g 31 #[.int .i64 ao, .int .i64 an, .string as_, .int .i64 at_] := by rw [← hwb, ← hg]; exact ((Blk.new _ _ _).alloc _).alloc _
  have bB : Blk wb (g + 1) 31 #[.int .i64 bo, .int .i64 bn, .string bs_, .int .i64 bt_] := by
    have hb := (Blk.new (w.alloc (.cells #[.int .i64 ao, .int .i64 an, .string as_, .int .i64 at_] 31)) 31 #[.int .i64 bo, .int .i64 bn, .string bs_, .int .i64 bt_]).alloc (.cells #[.int .i64 0, .int .i64 0, .string ⟨#[]⟩, .int .i64 0] 31)
    rw [hwb, show (w.alloc (.cells #[.int .i64 ao, .int .i64 an, .string as_, .int .i64 at_] 31)).heap.size = g + 1 by simp [hg]] at hb
    exact hb
  have bR : Blk wb (g + 1 + 1) 31 zeroR := by
    have hb := Blk.new ((w.alloc (.cells #[.int .i64 ao, .int .i64 an, .string as_, .int .i64 at_] 31)).alloc (.cells #[.int .i64 bo, .int .i64 bn, .string bs_, .int .i64 bt_] 31)) 31 zeroR
    rw [show ((w.alloc (.cells #[.int .i64 ao, .int .i64 an, .string as_, .int .i64 at_] 31)).alloc (.cells #[.int .i64 bo, .int .i64 bn, .string bs_, .int .i64 bt_] 31)).heap.size = g + 1 + 1 by simp [hg]] at hb
    rw [← hwb]
    exact hb
  have Hwb := Lib.hid hwb
  have Hg := Lib.hid hg
  clear hwb hg
  go_enter Try.func18, Try.ntmps18
  go_wp2_with fail
  rw [Hwb.out, Hg.out]
  refine (op_ref s _).mono ?_
  rintro e w1 ⟨rfl, k1⟩
  rw [hop]
  replace acc := acc.trans k1
  replace bA := bA.wr0 k1
  replace bB := bB.wr0 k1
  replace bR := bR.wr0 k1
  clear k1
  have a0 := bA.cell 0
  have a1 := bA.cell 1
  have a2 := bA.cell 2
  have a3 := bA.cell 3
  simp [zeroR] at a0 a1 a2 a3
  have b0 := bB.cell 0
  have b1 := bB.cell 1
  have b2 := bB.cell 2
  have b3 := bB.cell 3
  simp [zeroR] at b0 b1 b2 b3
  have r0 := bR.cell 0
  have r1 := bR.cell 1
  have r2 := bR.cell 2
  have r3 := bR.cell 3
  simp [zeroR] at r0 r1 r2 r3
  have fa0 := bA.frozen 0
  have fa1 := bA.frozen 1
  have fa2 := bA.frozen 2
  have fa3 := bA.frozen 3
  have fb0 := bB.frozen 0
  have fb1 := bB.frozen 1
  have fb2 := bB.frozen 2
  have fb3 := bB.frozen 3
  have fr0 := bR.frozen 0
  have fr1 := bR.frozen 1
  have fr2 := bR.frozen 2
  have fr3 := bR.frozen 3
  go_wp2_with fail
  clear a0 a1 a2 a3 b0 b1 b2 b3 r0 r1 r2 r3 fa0 fa1 fa2 fa3 fb0 fb1 fb2 fb3 fr0 fr1 fr2 fr3
  refine (hA _).mono ?_
  rintro e w2 ⟨rfl, k2⟩
  replace acc := acc.trans k2
  replace bA := bA.wr0 k2
  replace bB := bB.wr0 k2
  replace bR := bR.wr0 k2
  clear k2
  have a0 := bA.cell 0
  have a1 := bA.cell 1
  have a2 := bA.cell 2
  have a3 := bA.cell 3
  simp [zeroR] at a0 a1 a2 a3
  have b0 := bB.cell 0
  have b1 := bB.cell 1
  have b2 := bB.cell 2
  have b3 := bB.cell 3
  simp [zeroR] at b0 b1 b2 b3
  have r0 := bR.cell 0
  have r1 := bR.cell 1
  have r2 := bR.cell 2
  have r3 := bR.cell 3
  simp [zeroR] at r0 r1 r2 r3
  have fa0 := bA.frozen 0
  have fa1 := bA.frozen 1
  have fa2 := bA.frozen 2
  have fa3 := bA.frozen 3
  have fb0 := bB.frozen 0
  have fb1 := bB.frozen 1
  have fb2 := bB.frozen 2
  have fb3 := bB.frozen 3
  have fr0 := bR.frozen 0
  have fr1 := bR.frozen 1
  have fr2 := bR.frozen 2
  have fr3 := bR.frozen 3
  go_wp2_with fail
  rw [fold4]
  obtain ⟨wp, hwp⟩ : ∃ wp, put4 w2 g (.int .i64 3) (.int .i64 xn) (.string xs_) (.int .i64 xt_) = wp := ⟨_, rfl⟩
  have acc' := put4_wr acc (g := g) (by rw [Hg.out]; omega) (.int .i64 3) (.int .i64 xn) (.string xs_) (.int .i64 xt_)
  have bA' := put4_blk bA (.int .i64 3) (.int .i64 xn) (.string xs_) (.int .i64 xt_)
  have bB' := put4_far bB (g := g) (by omega) (.int .i64 3) (.int .i64 xn) (.string xs_) (.int .i64 xt_)
  have bR' := put4_far bR (g := g) (by omega) (.int .i64 3) (.int .i64 xn) (.string xs_) (.int .i64 xt_)
  rw [hwp] at acc' bA' bB' bR'
  rw [hwp]
  clear hwp acc bA bB bR a0 a1 a2 a3 b0 b1 b2 b3 r0 r1 r2 r3 fa0 fa1 fa2 fa3 fb0 fb1 fb2 fb3 fr0 fr1 fr2 fr3
  have acc := acc'
  have bA := bA'
  have bB := bB'
  have bR := bR'
  clear acc' bA' bB' bR'
  have a0 := bA.cell 0
  have a1 := bA.cell 1
  have a2 := bA.cell 2
  have a3 := bA.cell 3
  simp [zeroR] at a0 a1 a2 a3
  have b0 := bB.cell 0
  have b1 := bB.cell 1
  have b2 := bB.cell 2
  have b3 := bB.cell 3
  simp [zeroR] at b0 b1 b2 b3
  have r0 := bR.cell 0
  have r1 := bR.cell 1
  have r2 := bR.cell 2
  have r3 := bR.cell 3
  simp [zeroR] at r0 r1 r2 r3
  have fa0 := bA.frozen 0
  have fa1 := bA.frozen 1
  have fa2 := bA.frozen 2
  have fa3 := bA.frozen 3
  have fb0 := bB.frozen 0
  have fb1 := bB.frozen 1
  have fb2 := bB.frozen 2
  have fb3 := bB.frozen 3
  have fr0 := bR.frozen 0
  have fr1 := bR.frozen 1
  have fr2 := bR.frozen 2
  have fr3 := bR.frozen 3
  go_wp2_with fail
  clear a0 a1 a2 a3 b0 b1 b2 b3 r0 r1 r2 r3 fa0 fa1 fa2 fa3 fb0 fb1 fb2 fb3 fr0 fr1 fr2 fr3
  refine (hB _).mono ?_
  rintro e w3 ⟨rfl, k3⟩
  replace acc := acc.trans k3
  replace bA := bA.wr0 k3
  replace bB := bB.wr0 k3
  replace bR := bR.wr0 k3
  clear k3
  have a0 := bA.cell 0
  have a1 := bA.cell 1
  have a2 := bA.cell 2
  have a3 := bA.cell 3
  simp [zeroR] at a0 a1 a2 a3
  have b0 := bB.cell 0
  have b1 := bB.cell 1
  have b2 := bB.cell 2
  have b3 := bB.cell 3
  simp [zeroR] at b0 b1 b2 b3
  have r0 := bR.cell 0
  have r1 := bR.cell 1
  have r2 := bR.cell 2
  have r3 := bR.cell 3
  simp [zeroR] at r0 r1 r2 r3
  have fa0 := bA.frozen 0
  have fa1 := bA.frozen 1
  have fa2 := bA.frozen 2
  have fa3 := bA.frozen 3
  have fb0 := bB.frozen 0
  have fb1 := bB.frozen 1
  have fb2 := bB.frozen 2
  have fb3 := bB.frozen 3
  have fr0 := bR.frozen 0
  have fr1 := bR.frozen 1
  have fr2 := bR.frozen 2
  have fr3 := bR.frozen 3
  go_wp2_with fail
  simp only [fold4]
  obtain ⟨wq, hwq⟩ : ∃ wq, put4 w3 (g + 1) (.int .i64 3) (.int .i64 yn) (.string ys_) (.int .i64 yt_) = wq := ⟨_, rfl⟩
  have acc' := put4_wr acc (g := g + 1) (by rw [Hg.out]; omega) (.int .i64 3) (.int .i64 yn) (.string ys_) (.int .i64 yt_)
  have bB' := put4_blk bB (.int .i64 3) (.int .i64 yn) (.string ys_) (.int .i64 yt_)
  have bA' := put4_far bA (g := g + 1) (by omega) (.int .i64 3) (.int .i64 yn) (.string ys_) (.int .i64 yt_)
  have bR' := put4_far bR (g := g + 1) (by omega) (.int .i64 3) (.int .i64 yn) (.string ys_) (.int .i64 yt_)
  rw [hwq] at acc' bA' bB' bR'
  rw [hwq]
  clear hwq acc bA bB bR a0 a1 a2 a3 b0 b1 b2 b3 r0 r1 r2 r3 fa0 fa1 fa2 fa3 fb0 fb1 fb2 fb3 fr0 fr1 fr2 fr3
  have acc := acc'
  have bA := bA'
  have bB := bB'
  have bR := bR'
  clear acc' bA' bB' bR'
  have a0 := bA.cell 0
  have a1 := bA.cell 1
  have a2 := bA.cell 2
  have a3 := bA.cell 3
  simp [zeroR] at a0 a1 a2 a3
  have b0 := bB.cell 0
  have b1 := bB.cell 1
  have b2 := bB.cell 2
  have b3 := bB.cell 3
  simp [zeroR] at b0 b1 b2 b3
  have r0 := bR.cell 0
  have r1 := bR.cell 1
  have r2 := bR.cell 2
  have r3 := bR.cell 3
  simp [zeroR] at r0 r1 r2 r3
  have fa0 := bA.frozen 0
  have fa1 := bA.frozen 1
  have fa2 := bA.frozen 2
  have fa3 := bA.frozen 3
  have fb0 := bB.frozen 0
  have fb1 := bB.frozen 1
  have fb2 := bB.frozen 2
  have fb3 := bB.frozen 3
  have fr0 := bR.frozen 0
  have fr1 := bR.frozen 1
  have fr2 := bR.frozen 2
  have fr3 := bR.frozen 3
  try go_wp2_with fail
  try unfold put4
  clear a0 a1 a2 a3 b0 b1 b2 b3 r0 r1 r2 r3 fa0 fa1 fa2 fa3 fb0 fb1 fb2 fb3 fr0 fr1 fr2 fr3
  refine (truth_ref (yn == 1) _).mono ?_
  rintro e w4 ⟨rfl, k4⟩
  replace acc := acc.trans k4
  replace bA := bA.wr0 k4
  replace bB := bB.wr0 k4
  replace bR := bR.wr0 k4
  clear k4
  have a0 := bA.cell 0
  have a1 := bA.cell 1
  have a2 := bA.cell 2
  have a3 := bA.cell 3
  simp [zeroR] at a0 a1 a2 a3
  have b0 := bB.cell 0
  have b1 := bB.cell 1
  have b2 := bB.cell 2
  have b3 := bB.cell 3
  simp [zeroR] at b0 b1 b2 b3
  have r0 := bR.cell 0
  have r1 := bR.cell 1
  have r2 := bR.cell 2
  have r3 := bR.cell 3
  simp [zeroR] at r0 r1 r2 r3
  have fa0 := bA.frozen 0
  have fa1 := bA.frozen 1
  have fa2 := bA.frozen 2
  have fa3 := bA.frozen 3
  have fb0 := bB.frozen 0
  have fb1 := bB.frozen 1
  have fb2 := bB.frozen 2
  have fb3 := bB.frozen 3
  have fr0 := bR.frozen 0
  have fr1 := bR.frozen 1
  have fr2 := bR.frozen 2
  have fr3 := bR.frozen 3
  unfold refV
  go_wp2_with fail
  clear a0 a1 a2 a3 b0 b1 b2 b3 r0 r1 r2 r3 fa0 fa1 fa2 fa3 fb0 fb1 fb2 fb3 fr0 fr1 fr2 fr3
  obtain ⟨z1, z2⟩ := end4 (x0 := .int .i64 0) (x1 := .int .i64 0) (x2 := .string ⟨#[]⟩) (x3 := .int .i64 0) acc (by rw [Hg.out]; omega) bR _ _ _ _
  have d0 := z2.cell 0
  have d1 := z2.cell 1
  have d2 := z2.cell 2
  have d3 := z2.cell 3
  simp at d0 d1 d2 d3
  refine bodyPost_ret (v := .tuple #[refV (KV.truth (yn == 1)), .int .i64 0]) ?_ rfl ⟨rfl, z1⟩
  simp [results, Try.results18, go_sem, d0, d1, d2, d3, refV, KV.none_]

set_option maxRecDepth 100000 in
set_option maxHeartbeats 4000000 in
theorem dr_G3e {s : ByteArray} {ao an : Int} {as_ : ByteArray} {at_ : Int} {bo bn : Int} {bs_ : ByteArray} {bt_ : Int} {xn : Int} {xs_ : ByteArray} {xt_ : Int} {yn : Int} {ys_ : ByteArray} {yt_ : Int} {V : KV} {E : Int} (hop : opB s = true) (na : ¬ao = 0) (na_ : (ao == 0) = false) (nb : ¬bo = 0) (nb_ : (bo == 0) = false) (qi : ¬s.toList = [73, 78]) (qi_ : (s.toList == [73, 78]) = false) (q1 : ¬s.toList = [65, 78, 68]) (q1_ : (s.toList == [65, 78, 68]) = false) (q2 : ¬s.toList = [79, 82]) (q2_ : (s.toList == [79, 82]) = false) (hA : ∀ w, Calls Try.prog 33 #[.agg #[.int .i64 ao, .int .i64 an, .string as_, .int .i64 at_]] w fun e w' => e = .returned (.agg #[.int .i64 3, .int .i64 xn, .string xs_, .int .i64 xt_]) ∧ Wr [] w w') (hB : ∀ w, Calls Try.prog 33 #[.agg #[.int .i64 bo, .int .i64 bn, .string bs_, .int .i64 bt_]] w fun e w' => e = .returned (.agg #[.int .i64 3, .int .i64 yn, .string ys_, .int .i64 yt_]) ∧ Wr [] w w') (hO : ∀ w, Calls Try.prog 36 #[.string s, .int .i64 xn, .int .i64 yn] w fun e w' => e = .returned (.tuple #[refV V, .int .i64 E]) ∧ Wr [] w w')  (w : World) :
    Calls Try.prog 18 #[.string s, .agg #[.int .i64 ao, .int .i64 an, .string as_, .int .i64 at_], .agg #[.int .i64 bo, .int .i64 bn, .string bs_, .int .i64 bt_]] w fun e w' => e = .returned (.tuple #[refV V, .int .i64 E]) ∧ Wr [] w w' := by
  obtain ⟨wb, hwb⟩ : ∃ wb, ((w.alloc (.cells #[.int .i64 ao, .int .i64 an, .string as_, .int .i64 at_] 31)).alloc (.cells #[.int .i64 bo, .int .i64 bn, .string bs_, .int .i64 bt_] 31)).alloc (.cells #[.int .i64 0, .int .i64 0, .string ⟨#[]⟩, .int .i64 0] 31) = wb := ⟨_, rfl⟩
  obtain ⟨g, hg⟩ : ∃ g, w.heap.size = g := ⟨_, rfl⟩
  have acc : Wr [] w wb := by rw [← hwb]; exact (((Wr.refl _ _).alloc _).alloc _).alloc _
  have bA : Blk wb g 31 #[.int .i64 ao, .int .i64 an, .string as_, .int .i64 at_] := by rw [← hwb, ← hg]; exact ((Blk.new _ _ _).alloc _).alloc _
  have bB : Blk wb (g + 1) 31 #[.int .i64 bo, .int .i64 bn, .string bs_, .int .i64 bt_] := by
    have hb := (Blk.new (w.alloc (.cells #[.int .i64 ao, .int .i64 an, .string as_, .int .i64 at_] 31)) 31 #[.int .i64 bo, .int .i64 bn, .string bs_, .int .i64 bt_]).alloc (.cells #[.int .i64 0, .int .i64 0, .string ⟨#[]⟩, .int .i64 0] 31)
    rw [hwb, show (w.alloc (.cells #[.int .i64 ao, .int .i64 an, .string as_, .int .i64 at_] 31)).heap.size = g + 1 by simp [hg]] at hb
    exact hb
  have bR : Blk wb (g + 1 + 1) 31 zeroR := by
    have hb := Blk.new ((w.alloc (.cells #[.int .i64 ao, .int .i64 an, .string as_, .int .i64 at_] 31)).alloc (.cells #[.int .i64 bo, .int .i64 bn, .string bs_, .int .i64 bt_] 31)) 31 zeroR
    rw [show ((w.alloc (.cells #[.int .i64 ao, .int .i64 an, .string as_, .int .i64 at_] 31)).alloc (.cells #[.int .i64 bo, .int .i64 bn, .string bs_, .int .i64 bt_] 31)).heap.size = g + 1 + 1 by simp [hg]] at hb
    rw [← hwb]
    exact hb
  have Hwb := Lib.hid hwb
  have Hg := Lib.hid hg
  clear hwb hg
  go_enter Try.func18, Try.ntmps18
  go_wp2_with fail
  rw [Hwb.out, Hg.out]
  refine (op_ref s _).mono ?_
  rintro e w1 ⟨rfl, k1⟩
  rw [hop]
  replace acc := acc.trans k1
  replace bA := bA.wr0 k1
  replace bB := bB.wr0 k1
  replace bR := bR.wr0 k1
  clear k1
  have a0 := bA.cell 0
  have a1 := bA.cell 1
  have a2 := bA.cell 2
  have a3 := bA.cell 3
  simp [zeroR] at a0 a1 a2 a3
  have b0 := bB.cell 0
  have b1 := bB.cell 1
  have b2 := bB.cell 2
  have b3 := bB.cell 3
  simp [zeroR] at b0 b1 b2 b3
  have r0 := bR.cell 0
  have r1 := bR.cell 1
  have r2 := bR.cell 2
  have r3 := bR.cell 3
  simp [zeroR] at r0 r1 r2 r3
  have fa0 := bA.frozen 0
  have fa1 := bA.frozen 1
  have fa2 := bA.frozen 2
  have fa3 := bA.frozen 3
  have fb0 := bB.frozen 0
  have fb1 := bB.frozen 1
  have fb2 := bB.frozen 2
  have fb3 := bB.frozen 3
  have fr0 := bR.frozen 0
  have fr1 := bR.frozen 1
  have fr2 := bR.frozen 2
  have fr3 := bR.frozen 3
  go_wp2_with fail
  clear a0 a1 a2 a3 b0 b1 b2 b3 r0 r1 r2 r3 fa0 fa1 fa2 fa3 fb0 fb1 fb2 fb3 fr0 fr1 fr2 fr3
  refine (hA _).mono ?_
  rintro e w2 ⟨rfl, k2⟩
  replace acc := acc.trans k2
  replace bA := bA.wr0 k2
  replace bB := bB.wr0 k2
  replace bR := bR.wr0 k2
  clear k2
  have a0 := bA.cell 0
  have a1 := bA.cell 1
  have a2 := bA.cell 2
  have a3 := bA.cell 3
  simp [zeroR] at a0 a1 a2 a3
  have b0 := bB.cell 0
  have b1 := bB.cell 1
  have b2 := bB.cell 2
  have b3 := bB.cell 3
  simp [zeroR] at b0 b1 b2 b3
  have r0 := bR.cell 0
  have r1 := bR.cell 1
  have r2 := bR.cell 2
  have r3 := bR.cell 3
  simp [zeroR] at r0 r1 r2 r3
  have fa0 := bA.frozen 0
  have fa1 := bA.frozen 1
  have fa2 := bA.frozen 2
  have fa3 := bA.frozen 3
  have fb0 := bB.frozen 0
  have fb1 := bB.frozen 1
  have fb2 := bB.frozen 2
  have fb3 := bB.frozen 3
  have fr0 := bR.frozen 0
  have fr1 := bR.frozen 1
  have fr2 := bR.frozen 2
  have fr3 := bR.frozen 3
  go_wp2_with fail
  rw [fold4]
  obtain ⟨wp, hwp⟩ : ∃ wp, put4 w2 g (.int .i64 3) (.int .i64 xn) (.string xs_) (.int .i64 xt_) = wp := ⟨_, rfl⟩
  have acc' := put4_wr acc (g := g) (by rw [Hg.out]; omega) (.int .i64 3) (.int .i64 xn) (.string xs_) (.int .i64 xt_)
  have bA' := put4_blk bA (.int .i64 3) (.int .i64 xn) (.string xs_) (.int .i64 xt_)
  have bB' := put4_far bB (g := g) (by omega) (.int .i64 3) (.int .i64 xn) (.string xs_) (.int .i64 xt_)
  have bR' := put4_far bR (g := g) (by omega) (.int .i64 3) (.int .i64 xn) (.string xs_) (.int .i64 xt_)
  rw [hwp] at acc' bA' bB' bR'
  rw [hwp]
  clear hwp acc bA bB bR a0 a1 a2 a3 b0 b1 b2 b3 r0 r1 r2 r3 fa0 fa1 fa2 fa3 fb0 fb1 fb2 fb3 fr0 fr1 fr2 fr3
  have acc := acc'
  have bA := bA'
  have bB := bB'
  have bR := bR'
  clear acc' bA' bB' bR'
  have a0 := bA.cell 0
  have a1 := bA.cell 1
  have a2 := bA.cell 2
  have a3 := bA.cell 3
  simp [zeroR] at a0 a1 a2 a3
  have b0 := bB.cell 0
  have b1 := bB.cell 1
  have b2 := bB.cell 2
  have b3 := bB.cell 3
  simp [zeroR] at b0 b1 b2 b3
  have r0 := bR.cell 0
  have r1 := bR.cell 1
  have r2 := bR.cell 2
  have r3 := bR.cell 3
  simp [zeroR] at r0 r1 r2 r3
  have fa0 := bA.frozen 0
  have fa1 := bA.frozen 1
  have fa2 := bA.frozen 2
  have fa3 := bA.frozen 3
  have fb0 := bB.frozen 0
  have fb1 := bB.frozen 1
  have fb2 := bB.frozen 2
  have fb3 := bB.frozen 3
  have fr0 := bR.frozen 0
  have fr1 := bR.frozen 1
  have fr2 := bR.frozen 2
  have fr3 := bR.frozen 3
  go_wp2_with fail
  clear a0 a1 a2 a3 b0 b1 b2 b3 r0 r1 r2 r3 fa0 fa1 fa2 fa3 fb0 fb1 fb2 fb3 fr0 fr1 fr2 fr3
  refine (hB _).mono ?_
  rintro e w3 ⟨rfl, k3⟩
  replace acc := acc.trans k3
  replace bA := bA.wr0 k3
  replace bB := bB.wr0 k3
  replace bR := bR.wr0 k3
  clear k3
  have a0 := bA.cell 0
  have a1 := bA.cell 1
  have a2 := bA.cell 2
  have a3 := bA.cell 3
  simp [zeroR] at a0 a1 a2 a3
  have b0 := bB.cell 0
  have b1 := bB.cell 1
  have b2 := bB.cell 2
  have b3 := bB.cell 3
  simp [zeroR] at b0 b1 b2 b3
  have r0 := bR.cell 0
  have r1 := bR.cell 1
  have r2 := bR.cell 2
  have r3 := bR.cell 3
  simp [zeroR] at r0 r1 r2 r3
  have fa0 := bA.frozen 0
  have fa1 := bA.frozen 1
  have fa2 := bA.frozen 2
  have fa3 := bA.frozen 3
  have fb0 := bB.frozen 0
  have fb1 := bB.frozen 1
  have fb2 := bB.frozen 2
  have fb3 := bB.frozen 3
  have fr0 := bR.frozen 0
  have fr1 := bR.frozen 1
  have fr2 := bR.frozen 2
  have fr3 := bR.frozen 3
  go_wp2_with fail
  simp only [fold4]
  obtain ⟨wq, hwq⟩ : ∃ wq, put4 w3 (g + 1) (.int .i64 3) (.int .i64 yn) (.string ys_) (.int .i64 yt_) = wq := ⟨_, rfl⟩
  have acc' := put4_wr acc (g := g + 1) (by rw [Hg.out]; omega) (.int .i64 3) (.int .i64 yn) (.string ys_) (.int .i64 yt_)
  have bB' := put4_blk bB (.int .i64 3) (.int .i64 yn) (.string ys_) (.int .i64 yt_)
  have bA' := put4_far bA (g := g + 1) (by omega) (.int .i64 3) (.int .i64 yn) (.string ys_) (.int .i64 yt_)
  have bR' := put4_far bR (g := g + 1) (by omega) (.int .i64 3) (.int .i64 yn) (.string ys_) (.int .i64 yt_)
  rw [hwq] at acc' bA' bB' bR'
  rw [hwq]
  clear hwq acc bA bB bR a0 a1 a2 a3 b0 b1 b2 b3 r0 r1 r2 r3 fa0 fa1 fa2 fa3 fb0 fb1 fb2 fb3 fr0 fr1 fr2 fr3
  have acc := acc'
  have bA := bA'
  have bB := bB'
  have bR := bR'
  clear acc' bA' bB' bR'
  have a0 := bA.cell 0
  have a1 := bA.cell 1
  have a2 := bA.cell 2
  have a3 := bA.cell 3
  simp [zeroR] at a0 a1 a2 a3
  have b0 := bB.cell 0
  have b1 := bB.cell 1
  have b2 := bB.cell 2
  have b3 := bB.cell 3
  simp [zeroR] at b0 b1 b2 b3
  have r0 := bR.cell 0
  have r1 := bR.cell 1
  have r2 := bR.cell 2
  have r3 := bR.cell 3
  simp [zeroR] at r0 r1 r2 r3
  have fa0 := bA.frozen 0
  have fa1 := bA.frozen 1
  have fa2 := bA.frozen 2
  have fa3 := bA.frozen 3
  have fb0 := bB.frozen 0
  have fb1 := bB.frozen 1
  have fb2 := bB.frozen 2
  have fb3 := bB.frozen 3
  have fr0 := bR.frozen 0
  have fr1 := bR.frozen 1
  have fr2 := bR.frozen 2
  have fr3 := bR.frozen 3
  try go_wp2_with fail
  try unfold put4
  clear a0 a1 a2 a3 b0 b1 b2 b3 r0 r1 r2 r3 fa0 fa1 fa2 fa3 fb0 fb1 fb2 fb3 fr0 fr1 fr2 fr3
  refine (hO _).mono ?_
  rintro e w4 ⟨rfl, k4⟩
  replace acc := acc.trans k4
  replace bA := bA.wr0 k4
  replace bB := bB.wr0 k4
  replace bR := bR.wr0 k4
  clear k4
  have a0 := bA.cell 0
  have a1 := bA.cell 1
  have a2 := bA.cell 2
  have a3 := bA.cell 3
  simp [zeroR] at a0 a1 a2 a3
  have b0 := bB.cell 0
  have b1 := bB.cell 1
  have b2 := bB.cell 2
  have b3 := bB.cell 3
  simp [zeroR] at b0 b1 b2 b3
  have r0 := bR.cell 0
  have r1 := bR.cell 1
  have r2 := bR.cell 2
  have r3 := bR.cell 3
  simp [zeroR] at r0 r1 r2 r3
  have fa0 := bA.frozen 0
  have fa1 := bA.frozen 1
  have fa2 := bA.frozen 2
  have fa3 := bA.frozen 3
  have fb0 := bB.frozen 0
  have fb1 := bB.frozen 1
  have fb2 := bB.frozen 2
  have fb3 := bB.frozen 3
  have fr0 := bR.frozen 0
  have fr1 := bR.frozen 1
  have fr2 := bR.frozen 2
  have fr3 := bR.frozen 3
  unfold refV
  go_wp2_with fail
  clear a0 a1 a2 a3 b0 b1 b2 b3 r0 r1 r2 r3 fa0 fa1 fa2 fa3 fb0 fb1 fb2 fb3 fr0 fr1 fr2 fr3
  obtain ⟨z1, z2⟩ := end4 (x0 := .int .i64 0) (x1 := .int .i64 0) (x2 := .string ⟨#[]⟩) (x3 := .int .i64 0) acc (by rw [Hg.out]; omega) bR _ _ _ _
  have d0 := z2.cell 0
  have d1 := z2.cell 1
  have d2 := z2.cell 2
  have d3 := z2.cell 3
  simp at d0 d1 d2 d3
  refine bodyPost_ret (v := .tuple #[refV V, .int .i64 E]) ?_ rfl ⟨rfl, z1⟩
  simp [results, Try.results18, go_sem, d0, d1, d2, d3, refV, KV.none_]

set_option maxRecDepth 100000 in
set_option maxHeartbeats 4000000 in
theorem dr_Go2 {s : ByteArray} {ao an : Int} {as_ : ByteArray} {at_ : Int} {bo bn : Int} {bs_ : ByteArray} {bt_ : Int} {xn : Int} {xs_ : ByteArray} {xt_ : Int} {yn : Int} {ys_ : ByteArray} {yt_ : Int} {V : KV} {E : Int} (hop : opB s = true) (na : ¬ao = 0) (na_ : (ao == 0) = false) (nb : ¬bo = 0) (nb_ : (bo == 0) = false) (qi : ¬s.toList = [73, 78]) (qi_ : (s.toList == [73, 78]) = false) (hA : ∀ w, Calls Try.prog 33 #[.agg #[.int .i64 ao, .int .i64 an, .string as_, .int .i64 at_]] w fun e w' => e = .returned (.agg #[.int .i64 2, .int .i64 xn, .string xs_, .int .i64 xt_]) ∧ Wr [] w w') (hB : ∀ w, Calls Try.prog 33 #[.agg #[.int .i64 bo, .int .i64 bn, .string bs_, .int .i64 bt_]] w fun e w' => e = .returned (.agg #[.int .i64 2, .int .i64 yn, .string ys_, .int .i64 yt_]) ∧ Wr [] w w') (hO : ∀ w, Calls Try.prog 36 #[.string s, .int .i64 xn, .int .i64 yn] w fun e w' => e = .returned (.tuple #[refV V, .int .i64 E]) ∧ Wr [] w w')  (w : World) :
    Calls Try.prog 18 #[.string s, .agg #[.int .i64 ao, .int .i64 an, .string as_, .int .i64 at_], .agg #[.int .i64 bo, .int .i64 bn, .string bs_, .int .i64 bt_]] w fun e w' => e = .returned (.tuple #[refV V, .int .i64 E]) ∧ Wr [] w w' := by
  obtain ⟨wb, hwb⟩ : ∃ wb, ((w.alloc (.cells #[.int .i64 ao, .int .i64 an, .string as_, .int .i64 at_] 31)).alloc (.cells #[.int .i64 bo, .int .i64 bn, .string bs_, .int .i64 bt_] 31)).alloc (.cells #[.int .i64 0, .int .i64 0, .string ⟨#[]⟩, .int .i64 0] 31) = wb := ⟨_, rfl⟩
  obtain ⟨g, hg⟩ : ∃ g, w.heap.size = g := ⟨_, rfl⟩
  have acc : Wr [] w wb := by rw [← hwb]; exact (((Wr.refl _ _).alloc _).alloc _).alloc _
  have bA : Blk wb g 31 #[.int .i64 ao, .int .i64 an, .string as_, .int .i64 at_] := by rw [← hwb, ← hg]; exact ((Blk.new _ _ _).alloc _).alloc _
  have bB : Blk wb (g + 1) 31 #[.int .i64 bo, .int .i64 bn, .string bs_, .int .i64 bt_] := by
    have hb := (Blk.new (w.alloc (.cells #[.int .i64 ao, .int .i64 an, .string as_, .int .i64 at_] 31)) 31 #[.int .i64 bo, .int .i64 bn, .string bs_, .int .i64 bt_]).alloc (.cells #[.int .i64 0, .int .i64 0, .string ⟨#[]⟩, .int .i64 0] 31)
    rw [hwb, show (w.alloc (.cells #[.int .i64 ao, .int .i64 an, .string as_, .int .i64 at_] 31)).heap.size = g + 1 by simp [hg]] at hb
    exact hb
  have bR : Blk wb (g + 1 + 1) 31 zeroR := by
    have hb := Blk.new ((w.alloc (.cells #[.int .i64 ao, .int .i64 an, .string as_, .int .i64 at_] 31)).alloc (.cells #[.int .i64 bo, .int .i64 bn, .string bs_, .int .i64 bt_] 31)) 31 zeroR
    rw [show ((w.alloc (.cells #[.int .i64 ao, .int .i64 an, .string as_, .int .i64 at_] 31)).alloc (.cells #[.int .i64 bo, .int .i64 bn, .string bs_, .int .i64 bt_] 31)).heap.size = g + 1 + 1 by simp [hg]] at hb
    rw [← hwb]
    exact hb
  have Hwb := Lib.hid hwb
  have Hg := Lib.hid hg
  clear hwb hg
  go_enter Try.func18, Try.ntmps18
  go_wp2_with fail
  rw [Hwb.out, Hg.out]
  refine (op_ref s _).mono ?_
  rintro e w1 ⟨rfl, k1⟩
  rw [hop]
  replace acc := acc.trans k1
  replace bA := bA.wr0 k1
  replace bB := bB.wr0 k1
  replace bR := bR.wr0 k1
  clear k1
  have a0 := bA.cell 0
  have a1 := bA.cell 1
  have a2 := bA.cell 2
  have a3 := bA.cell 3
  simp [zeroR] at a0 a1 a2 a3
  have b0 := bB.cell 0
  have b1 := bB.cell 1
  have b2 := bB.cell 2
  have b3 := bB.cell 3
  simp [zeroR] at b0 b1 b2 b3
  have r0 := bR.cell 0
  have r1 := bR.cell 1
  have r2 := bR.cell 2
  have r3 := bR.cell 3
  simp [zeroR] at r0 r1 r2 r3
  have fa0 := bA.frozen 0
  have fa1 := bA.frozen 1
  have fa2 := bA.frozen 2
  have fa3 := bA.frozen 3
  have fb0 := bB.frozen 0
  have fb1 := bB.frozen 1
  have fb2 := bB.frozen 2
  have fb3 := bB.frozen 3
  have fr0 := bR.frozen 0
  have fr1 := bR.frozen 1
  have fr2 := bR.frozen 2
  have fr3 := bR.frozen 3
  go_wp2_with fail
  clear a0 a1 a2 a3 b0 b1 b2 b3 r0 r1 r2 r3 fa0 fa1 fa2 fa3 fb0 fb1 fb2 fb3 fr0 fr1 fr2 fr3
  refine (hA _).mono ?_
  rintro e w2 ⟨rfl, k2⟩
  replace acc := acc.trans k2
  replace bA := bA.wr0 k2
  replace bB := bB.wr0 k2
  replace bR := bR.wr0 k2
  clear k2
  have a0 := bA.cell 0
  have a1 := bA.cell 1
  have a2 := bA.cell 2
  have a3 := bA.cell 3
  simp [zeroR] at a0 a1 a2 a3
  have b0 := bB.cell 0
  have b1 := bB.cell 1
  have b2 := bB.cell 2
  have b3 := bB.cell 3
  simp [zeroR] at b0 b1 b2 b3
  have r0 := bR.cell 0
  have r1 := bR.cell 1
  have r2 := bR.cell 2
  have r3 := bR.cell 3
  simp [zeroR] at r0 r1 r2 r3
  have fa0 := bA.frozen 0
  have fa1 := bA.frozen 1
  have fa2 := bA.frozen 2
  have fa3 := bA.frozen 3
  have fb0 := bB.frozen 0
  have fb1 := bB.frozen 1
  have fb2 := bB.frozen 2
  have fb3 := bB.frozen 3
  have fr0 := bR.frozen 0
  have fr1 := bR.frozen 1
  have fr2 := bR.frozen 2
  have fr3 := bR.frozen 3
  go_wp2_with fail
  rw [fold4]
  obtain ⟨wp, hwp⟩ : ∃ wp, put4 w2 g (.int .i64 2) (.int .i64 xn) (.string xs_) (.int .i64 xt_) = wp := ⟨_, rfl⟩
  have acc' := put4_wr acc (g := g) (by rw [Hg.out]; omega) (.int .i64 2) (.int .i64 xn) (.string xs_) (.int .i64 xt_)
  have bA' := put4_blk bA (.int .i64 2) (.int .i64 xn) (.string xs_) (.int .i64 xt_)
  have bB' := put4_far bB (g := g) (by omega) (.int .i64 2) (.int .i64 xn) (.string xs_) (.int .i64 xt_)
  have bR' := put4_far bR (g := g) (by omega) (.int .i64 2) (.int .i64 xn) (.string xs_) (.int .i64 xt_)
  rw [hwp] at acc' bA' bB' bR'
  rw [hwp]
  clear hwp acc bA bB bR a0 a1 a2 a3 b0 b1 b2 b3 r0 r1 r2 r3 fa0 fa1 fa2 fa3 fb0 fb1 fb2 fb3 fr0 fr1 fr2 fr3
  have acc := acc'
  have bA := bA'
  have bB := bB'
  have bR := bR'
  clear acc' bA' bB' bR'
  have a0 := bA.cell 0
  have a1 := bA.cell 1
  have a2 := bA.cell 2
  have a3 := bA.cell 3
  simp [zeroR] at a0 a1 a2 a3
  have b0 := bB.cell 0
  have b1 := bB.cell 1
  have b2 := bB.cell 2
  have b3 := bB.cell 3
  simp [zeroR] at b0 b1 b2 b3
  have r0 := bR.cell 0
  have r1 := bR.cell 1
  have r2 := bR.cell 2
  have r3 := bR.cell 3
  simp [zeroR] at r0 r1 r2 r3
  have fa0 := bA.frozen 0
  have fa1 := bA.frozen 1
  have fa2 := bA.frozen 2
  have fa3 := bA.frozen 3
  have fb0 := bB.frozen 0
  have fb1 := bB.frozen 1
  have fb2 := bB.frozen 2
  have fb3 := bB.frozen 3
  have fr0 := bR.frozen 0
  have fr1 := bR.frozen 1
  have fr2 := bR.frozen 2
  have fr3 := bR.frozen 3
  go_wp2_with fail
  clear a0 a1 a2 a3 b0 b1 b2 b3 r0 r1 r2 r3 fa0 fa1 fa2 fa3 fb0 fb1 fb2 fb3 fr0 fr1 fr2 fr3
  refine (hB _).mono ?_
  rintro e w3 ⟨rfl, k3⟩
  replace acc := acc.trans k3
  replace bA := bA.wr0 k3
  replace bB := bB.wr0 k3
  replace bR := bR.wr0 k3
  clear k3
  have a0 := bA.cell 0
  have a1 := bA.cell 1
  have a2 := bA.cell 2
  have a3 := bA.cell 3
  simp [zeroR] at a0 a1 a2 a3
  have b0 := bB.cell 0
  have b1 := bB.cell 1
  have b2 := bB.cell 2
  have b3 := bB.cell 3
  simp [zeroR] at b0 b1 b2 b3
  have r0 := bR.cell 0
  have r1 := bR.cell 1
  have r2 := bR.cell 2
  have r3 := bR.cell 3
  simp [zeroR] at r0 r1 r2 r3
  have fa0 := bA.frozen 0
  have fa1 := bA.frozen 1
  have fa2 := bA.frozen 2
  have fa3 := bA.frozen 3
  have fb0 := bB.frozen 0
  have fb1 := bB.frozen 1
  have fb2 := bB.frozen 2
  have fb3 := bB.frozen 3
  have fr0 := bR.frozen 0
  have fr1 := bR.frozen 1
  have fr2 := bR.frozen 2
  have fr3 := bR.frozen 3
  go_wp2_with fail
  simp only [fold4]
  obtain ⟨wq, hwq⟩ : ∃ wq, put4 w3 (g + 1) (.int .i64 2) (.int .i64 yn) (.string ys_) (.int .i64 yt_) = wq := ⟨_, rfl⟩
  have acc' := put4_wr acc (g := g + 1) (by rw [Hg.out]; omega) (.int .i64 2) (.int .i64 yn) (.string ys_) (.int .i64 yt_)
  have bB' := put4_blk bB (.int .i64 2) (.int .i64 yn) (.string ys_) (.int .i64 yt_)
  have bA' := put4_far bA (g := g + 1) (by omega) (.int .i64 2) (.int .i64 yn) (.string ys_) (.int .i64 yt_)
  have bR' := put4_far bR (g := g + 1) (by omega) (.int .i64 2) (.int .i64 yn) (.string ys_) (.int .i64 yt_)
  rw [hwq] at acc' bA' bB' bR'
  rw [hwq]
  clear hwq acc bA bB bR a0 a1 a2 a3 b0 b1 b2 b3 r0 r1 r2 r3 fa0 fa1 fa2 fa3 fb0 fb1 fb2 fb3 fr0 fr1 fr2 fr3
  have acc := acc'
  have bA := bA'
  have bB := bB'
  have bR := bR'
  clear acc' bA' bB' bR'
  have a0 := bA.cell 0
  have a1 := bA.cell 1
  have a2 := bA.cell 2
  have a3 := bA.cell 3
  simp [zeroR] at a0 a1 a2 a3
  have b0 := bB.cell 0
  have b1 := bB.cell 1
  have b2 := bB.cell 2
  have b3 := bB.cell 3
  simp [zeroR] at b0 b1 b2 b3
  have r0 := bR.cell 0
  have r1 := bR.cell 1
  have r2 := bR.cell 2
  have r3 := bR.cell 3
  simp [zeroR] at r0 r1 r2 r3
  have fa0 := bA.frozen 0
  have fa1 := bA.frozen 1
  have fa2 := bA.frozen 2
  have fa3 := bA.frozen 3
  have fb0 := bB.frozen 0
  have fb1 := bB.frozen 1
  have fb2 := bB.frozen 2
  have fb3 := bB.frozen 3
  have fr0 := bR.frozen 0
  have fr1 := bR.frozen 1
  have fr2 := bR.frozen 2
  have fr3 := bR.frozen 3
  try go_wp2_with fail
  try unfold put4
  clear a0 a1 a2 a3 b0 b1 b2 b3 r0 r1 r2 r3 fa0 fa1 fa2 fa3 fb0 fb1 fb2 fb3 fr0 fr1 fr2 fr3
  refine (hO _).mono ?_
  rintro e w4 ⟨rfl, k4⟩
  replace acc := acc.trans k4
  replace bA := bA.wr0 k4
  replace bB := bB.wr0 k4
  replace bR := bR.wr0 k4
  clear k4
  have a0 := bA.cell 0
  have a1 := bA.cell 1
  have a2 := bA.cell 2
  have a3 := bA.cell 3
  simp [zeroR] at a0 a1 a2 a3
  have b0 := bB.cell 0
  have b1 := bB.cell 1
  have b2 := bB.cell 2
  have b3 := bB.cell 3
  simp [zeroR] at b0 b1 b2 b3
  have r0 := bR.cell 0
  have r1 := bR.cell 1
  have r2 := bR.cell 2
  have r3 := bR.cell 3
  simp [zeroR] at r0 r1 r2 r3
  have fa0 := bA.frozen 0
  have fa1 := bA.frozen 1
  have fa2 := bA.frozen 2
  have fa3 := bA.frozen 3
  have fb0 := bB.frozen 0
  have fb1 := bB.frozen 1
  have fb2 := bB.frozen 2
  have fb3 := bB.frozen 3
  have fr0 := bR.frozen 0
  have fr1 := bR.frozen 1
  have fr2 := bR.frozen 2
  have fr3 := bR.frozen 3
  unfold refV
  go_wp2_with fail
  clear a0 a1 a2 a3 b0 b1 b2 b3 r0 r1 r2 r3 fa0 fa1 fa2 fa3 fb0 fb1 fb2 fb3 fr0 fr1 fr2 fr3
  obtain ⟨z1, z2⟩ := end4 (x0 := .int .i64 0) (x1 := .int .i64 0) (x2 := .string ⟨#[]⟩) (x3 := .int .i64 0) acc (by rw [Hg.out]; omega) bR _ _ _ _
  have d0 := z2.cell 0
  have d1 := z2.cell 1
  have d2 := z2.cell 2
  have d3 := z2.cell 3
  simp at d0 d1 d2 d3
  refine bodyPost_ret (v := .tuple #[refV V, .int .i64 E]) ?_ rfl ⟨rfl, z1⟩
  simp [results, Try.results18, go_sem, d0, d1, d2, d3, refV, KV.none_]

set_option maxRecDepth 100000 in
set_option maxHeartbeats 4000000 in
theorem dr_Go6 {s : ByteArray} {ao an : Int} {as_ : ByteArray} {at_ : Int} {bo bn : Int} {bs_ : ByteArray} {bt_ : Int} {xn : Int} {xs_ : ByteArray} {xt_ : Int} {yn : Int} {ys_ : ByteArray} {yt_ : Int} {V : KV} {E : Int} (hop : opB s = true) (na : ¬ao = 0) (na_ : (ao == 0) = false) (nb : ¬bo = 0) (nb_ : (bo == 0) = false) (qi : ¬s.toList = [73, 78]) (qi_ : (s.toList == [73, 78]) = false) (hA : ∀ w, Calls Try.prog 33 #[.agg #[.int .i64 ao, .int .i64 an, .string as_, .int .i64 at_]] w fun e w' => e = .returned (.agg #[.int .i64 6, .int .i64 xn, .string xs_, .int .i64 xt_]) ∧ Wr [] w w') (hB : ∀ w, Calls Try.prog 33 #[.agg #[.int .i64 bo, .int .i64 bn, .string bs_, .int .i64 bt_]] w fun e w' => e = .returned (.agg #[.int .i64 6, .int .i64 yn, .string ys_, .int .i64 yt_]) ∧ Wr [] w w') (he : xt_ = yt_) (hO : ∀ w, Calls Try.prog 36 #[.string s, .int .i64 xn, .int .i64 yn] w fun e w' => e = .returned (.tuple #[refV V, .int .i64 E]) ∧ Wr [] w w')  (w : World) :
    Calls Try.prog 18 #[.string s, .agg #[.int .i64 ao, .int .i64 an, .string as_, .int .i64 at_], .agg #[.int .i64 bo, .int .i64 bn, .string bs_, .int .i64 bt_]] w fun e w' => e = .returned (.tuple #[refV V, .int .i64 E]) ∧ Wr [] w w' := by
  subst he
  obtain ⟨wb, hwb⟩ : ∃ wb, ((w.alloc (.cells #[.int .i64 ao, .int .i64 an, .string as_, .int .i64 at_] 31)).alloc (.cells #[.int .i64 bo, .int .i64 bn, .string bs_, .int .i64 bt_] 31)).alloc (.cells #[.int .i64 0, .int .i64 0, .string ⟨#[]⟩, .int .i64 0] 31) = wb := ⟨_, rfl⟩
  obtain ⟨g, hg⟩ : ∃ g, w.heap.size = g := ⟨_, rfl⟩
  have acc : Wr [] w wb := by rw [← hwb]; exact (((Wr.refl _ _).alloc _).alloc _).alloc _
  have bA : Blk wb g 31 #[.int .i64 ao, .int .i64 an, .string as_, .int .i64 at_] := by rw [← hwb, ← hg]; exact ((Blk.new _ _ _).alloc _).alloc _
  have bB : Blk wb (g + 1) 31 #[.int .i64 bo, .int .i64 bn, .string bs_, .int .i64 bt_] := by
    have hb := (Blk.new (w.alloc (.cells #[.int .i64 ao, .int .i64 an, .string as_, .int .i64 at_] 31)) 31 #[.int .i64 bo, .int .i64 bn, .string bs_, .int .i64 bt_]).alloc (.cells #[.int .i64 0, .int .i64 0, .string ⟨#[]⟩, .int .i64 0] 31)
    rw [hwb, show (w.alloc (.cells #[.int .i64 ao, .int .i64 an, .string as_, .int .i64 at_] 31)).heap.size = g + 1 by simp [hg]] at hb
    exact hb
  have bR : Blk wb (g + 1 + 1) 31 zeroR := by
    have hb := Blk.new ((w.alloc (.cells #[.int .i64 ao, .int .i64 an, .string as_, .int .i64 at_] 31)).alloc (.cells #[.int .i64 bo, .int .i64 bn, .string bs_, .int .i64 bt_] 31)) 31 zeroR
    rw [show ((w.alloc (.cells #[.int .i64 ao, .int .i64 an, .string as_, .int .i64 at_] 31)).alloc (.cells #[.int .i64 bo, .int .i64 bn, .string bs_, .int .i64 bt_] 31)).heap.size = g + 1 + 1 by simp [hg]] at hb
    rw [← hwb]
    exact hb
  have Hwb := Lib.hid hwb
  have Hg := Lib.hid hg
  clear hwb hg
  go_enter Try.func18, Try.ntmps18
  go_wp2_with fail
  rw [Hwb.out, Hg.out]
  refine (op_ref s _).mono ?_
  rintro e w1 ⟨rfl, k1⟩
  rw [hop]
  replace acc := acc.trans k1
  replace bA := bA.wr0 k1
  replace bB := bB.wr0 k1
  replace bR := bR.wr0 k1
  clear k1
  have a0 := bA.cell 0
  have a1 := bA.cell 1
  have a2 := bA.cell 2
  have a3 := bA.cell 3
  simp [zeroR] at a0 a1 a2 a3
  have b0 := bB.cell 0
  have b1 := bB.cell 1
  have b2 := bB.cell 2
  have b3 := bB.cell 3
  simp [zeroR] at b0 b1 b2 b3
  have r0 := bR.cell 0
  have r1 := bR.cell 1
  have r2 := bR.cell 2
  have r3 := bR.cell 3
  simp [zeroR] at r0 r1 r2 r3
  have fa0 := bA.frozen 0
  have fa1 := bA.frozen 1
  have fa2 := bA.frozen 2
  have fa3 := bA.frozen 3
  have fb0 := bB.frozen 0
  have fb1 := bB.frozen 1
  have fb2 := bB.frozen 2
  have fb3 := bB.frozen 3
  have fr0 := bR.frozen 0
  have fr1 := bR.frozen 1
  have fr2 := bR.frozen 2
  have fr3 := bR.frozen 3
  go_wp2_with fail
  clear a0 a1 a2 a3 b0 b1 b2 b3 r0 r1 r2 r3 fa0 fa1 fa2 fa3 fb0 fb1 fb2 fb3 fr0 fr1 fr2 fr3
  refine (hA _).mono ?_
  rintro e w2 ⟨rfl, k2⟩
  replace acc := acc.trans k2
  replace bA := bA.wr0 k2
  replace bB := bB.wr0 k2
  replace bR := bR.wr0 k2
  clear k2
  have a0 := bA.cell 0
  have a1 := bA.cell 1
  have a2 := bA.cell 2
  have a3 := bA.cell 3
  simp [zeroR] at a0 a1 a2 a3
  have b0 := bB.cell 0
  have b1 := bB.cell 1
  have b2 := bB.cell 2
  have b3 := bB.cell 3
  simp [zeroR] at b0 b1 b2 b3
  have r0 := bR.cell 0
  have r1 := bR.cell 1
  have r2 := bR.cell 2
  have r3 := bR.cell 3
  simp [zeroR] at r0 r1 r2 r3
  have fa0 := bA.frozen 0
  have fa1 := bA.frozen 1
  have fa2 := bA.frozen 2
  have fa3 := bA.frozen 3
  have fb0 := bB.frozen 0
  have fb1 := bB.frozen 1
  have fb2 := bB.frozen 2
  have fb3 := bB.frozen 3
  have fr0 := bR.frozen 0
  have fr1 := bR.frozen 1
  have fr2 := bR.frozen 2
  have fr3 := bR.frozen 3
  go_wp2_with fail
  rw [fold4]
  obtain ⟨wp, hwp⟩ : ∃ wp, put4 w2 g (.int .i64 6) (.int .i64 xn) (.string xs_) (.int .i64 xt_) = wp := ⟨_, rfl⟩
  have acc' := put4_wr acc (g := g) (by rw [Hg.out]; omega) (.int .i64 6) (.int .i64 xn) (.string xs_) (.int .i64 xt_)
  have bA' := put4_blk bA (.int .i64 6) (.int .i64 xn) (.string xs_) (.int .i64 xt_)
  have bB' := put4_far bB (g := g) (by omega) (.int .i64 6) (.int .i64 xn) (.string xs_) (.int .i64 xt_)
  have bR' := put4_far bR (g := g) (by omega) (.int .i64 6) (.int .i64 xn) (.string xs_) (.int .i64 xt_)
  rw [hwp] at acc' bA' bB' bR'
  rw [hwp]
  clear hwp acc bA bB bR a0 a1 a2 a3 b0 b1 b2 b3 r0 r1 r2 r3 fa0 fa1 fa2 fa3 fb0 fb1 fb2 fb3 fr0 fr1 fr2 fr3
  have acc := acc'
  have bA := bA'
  have bB := bB'
  have bR := bR'
  clear acc' bA' bB' bR'
  have a0 := bA.cell 0
  have a1 := bA.cell 1
  have a2 := bA.cell 2
  have a3 := bA.cell 3
  simp [zeroR] at a0 a1 a2 a3
  have b0 := bB.cell 0
  have b1 := bB.cell 1
  have b2 := bB.cell 2
  have b3 := bB.cell 3
  simp [zeroR] at b0 b1 b2 b3
  have r0 := bR.cell 0
  have r1 := bR.cell 1
  have r2 := bR.cell 2
  have r3 := bR.cell 3
  simp [zeroR] at r0 r1 r2 r3
  have fa0 := bA.frozen 0
  have fa1 := bA.frozen 1
  have fa2 := bA.frozen 2
  have fa3 := bA.frozen 3
  have fb0 := bB.frozen 0
  have fb1 := bB.frozen 1
  have fb2 := bB.frozen 2
  have fb3 := bB.frozen 3
  have fr0 := bR.frozen 0
  have fr1 := bR.frozen 1
  have fr2 := bR.frozen 2
  have fr3 := bR.frozen 3
  go_wp2_with fail
  clear a0 a1 a2 a3 b0 b1 b2 b3 r0 r1 r2 r3 fa0 fa1 fa2 fa3 fb0 fb1 fb2 fb3 fr0 fr1 fr2 fr3
  refine (hB _).mono ?_
  rintro e w3 ⟨rfl, k3⟩
  replace acc := acc.trans k3
  replace bA := bA.wr0 k3
  replace bB := bB.wr0 k3
  replace bR := bR.wr0 k3
  clear k3
  have a0 := bA.cell 0
  have a1 := bA.cell 1
  have a2 := bA.cell 2
  have a3 := bA.cell 3
  simp [zeroR] at a0 a1 a2 a3
  have b0 := bB.cell 0
  have b1 := bB.cell 1
  have b2 := bB.cell 2
  have b3 := bB.cell 3
  simp [zeroR] at b0 b1 b2 b3
  have r0 := bR.cell 0
  have r1 := bR.cell 1
  have r2 := bR.cell 2
  have r3 := bR.cell 3
  simp [zeroR] at r0 r1 r2 r3
  have fa0 := bA.frozen 0
  have fa1 := bA.frozen 1
  have fa2 := bA.frozen 2
  have fa3 := bA.frozen 3
  have fb0 := bB.frozen 0
  have fb1 := bB.frozen 1
  have fb2 := bB.frozen 2
  have fb3 := bB.frozen 3
  have fr0 := bR.frozen 0
  have fr1 := bR.frozen 1
  have fr2 := bR.frozen 2
  have fr3 := bR.frozen 3
  go_wp2_with fail
  simp only [fold4]
  obtain ⟨wq, hwq⟩ : ∃ wq, put4 w3 (g + 1) (.int .i64 6) (.int .i64 yn) (.string ys_) (.int .i64 xt_) = wq := ⟨_, rfl⟩
  have acc' := put4_wr acc (g := g + 1) (by rw [Hg.out]; omega) (.int .i64 6) (.int .i64 yn) (.string ys_) (.int .i64 xt_)
  have bB' := put4_blk bB (.int .i64 6) (.int .i64 yn) (.string ys_) (.int .i64 xt_)
  have bA' := put4_far bA (g := g + 1) (by omega) (.int .i64 6) (.int .i64 yn) (.string ys_) (.int .i64 xt_)
  have bR' := put4_far bR (g := g + 1) (by omega) (.int .i64 6) (.int .i64 yn) (.string ys_) (.int .i64 xt_)
  rw [hwq] at acc' bA' bB' bR'
  rw [hwq]
  clear hwq acc bA bB bR a0 a1 a2 a3 b0 b1 b2 b3 r0 r1 r2 r3 fa0 fa1 fa2 fa3 fb0 fb1 fb2 fb3 fr0 fr1 fr2 fr3
  have acc := acc'
  have bA := bA'
  have bB := bB'
  have bR := bR'
  clear acc' bA' bB' bR'
  have a0 := bA.cell 0
  have a1 := bA.cell 1
  have a2 := bA.cell 2
  have a3 := bA.cell 3
  simp [zeroR] at a0 a1 a2 a3
  have b0 := bB.cell 0
  have b1 := bB.cell 1
  have b2 := bB.cell 2
  have b3 := bB.cell 3
  simp [zeroR] at b0 b1 b2 b3
  have r0 := bR.cell 0
  have r1 := bR.cell 1
  have r2 := bR.cell 2
  have r3 := bR.cell 3
  simp [zeroR] at r0 r1 r2 r3
  have fa0 := bA.frozen 0
  have fa1 := bA.frozen 1
  have fa2 := bA.frozen 2
  have fa3 := bA.frozen 3
  have fb0 := bB.frozen 0
  have fb1 := bB.frozen 1
  have fb2 := bB.frozen 2
  have fb3 := bB.frozen 3
  have fr0 := bR.frozen 0
  have fr1 := bR.frozen 1
  have fr2 := bR.frozen 2
  have fr3 := bR.frozen 3
  try go_wp2_with fail
  try unfold put4
  clear a0 a1 a2 a3 b0 b1 b2 b3 r0 r1 r2 r3 fa0 fa1 fa2 fa3 fb0 fb1 fb2 fb3 fr0 fr1 fr2 fr3
  refine (hO _).mono ?_
  rintro e w4 ⟨rfl, k4⟩
  replace acc := acc.trans k4
  replace bA := bA.wr0 k4
  replace bB := bB.wr0 k4
  replace bR := bR.wr0 k4
  clear k4
  have a0 := bA.cell 0
  have a1 := bA.cell 1
  have a2 := bA.cell 2
  have a3 := bA.cell 3
  simp [zeroR] at a0 a1 a2 a3
  have b0 := bB.cell 0
  have b1 := bB.cell 1
  have b2 := bB.cell 2
  have b3 := bB.cell 3
  simp [zeroR] at b0 b1 b2 b3
  have r0 := bR.cell 0
  have r1 := bR.cell 1
  have r2 := bR.cell 2
  have r3 := bR.cell 3
  simp [zeroR] at r0 r1 r2 r3
  have fa0 := bA.frozen 0
  have fa1 := bA.frozen 1
  have fa2 := bA.frozen 2
  have fa3 := bA.frozen 3
  have fb0 := bB.frozen 0
  have fb1 := bB.frozen 1
  have fb2 := bB.frozen 2
  have fb3 := bB.frozen 3
  have fr0 := bR.frozen 0
  have fr1 := bR.frozen 1
  have fr2 := bR.frozen 2
  have fr3 := bR.frozen 3
  unfold refV
  go_wp2_with fail
  clear a0 a1 a2 a3 b0 b1 b2 b3 r0 r1 r2 r3 fa0 fa1 fa2 fa3 fb0 fb1 fb2 fb3 fr0 fr1 fr2 fr3
  obtain ⟨z1, z2⟩ := end4 (x0 := .int .i64 0) (x1 := .int .i64 0) (x2 := .string ⟨#[]⟩) (x3 := .int .i64 0) acc (by rw [Hg.out]; omega) bR _ _ _ _
  have d0 := z2.cell 0
  have d1 := z2.cell 1
  have d2 := z2.cell 2
  have d3 := z2.cell 3
  simp at d0 d1 d2 d3
  refine bodyPost_ret (v := .tuple #[refV V, .int .i64 E]) ?_ rfl ⟨rfl, z1⟩
  simp [results, Try.results18, go_sem, d0, d1, d2, d3, refV, KV.none_]

set_option maxRecDepth 100000 in
set_option maxHeartbeats 4000000 in
theorem dr_Gw1 {s : ByteArray} {ao an : Int} {as_ : ByteArray} {at_ : Int} {bo bn : Int} {bs_ : ByteArray} {bt_ : Int} {xn : Int} {xs_ : ByteArray} {xt_ : Int} {yn : Int} {ys_ : ByteArray} {yt_ : Int} {V : KV} {E : Int} (hop : opB s = true) (na : ¬ao = 0) (na_ : (ao == 0) = false) (nb : ¬bo = 0) (nb_ : (bo == 0) = false) (qi : ¬s.toList = [73, 78]) (qi_ : (s.toList == [73, 78]) = false) (hA : ∀ w, Calls Try.prog 33 #[.agg #[.int .i64 ao, .int .i64 an, .string as_, .int .i64 at_]] w fun e w' => e = .returned (.agg #[.int .i64 1, .int .i64 xn, .string xs_, .int .i64 xt_]) ∧ Wr [] w w') (hB : ∀ w, Calls Try.prog 33 #[.agg #[.int .i64 bo, .int .i64 bn, .string bs_, .int .i64 bt_]] w fun e w' => e = .returned (.agg #[.int .i64 1, .int .i64 yn, .string ys_, .int .i64 yt_]) ∧ Wr [] w w') (hW : ∀ w, Calls Try.prog 35 #[.string s, .int .i64 xn, .int .i64 yn] w fun e w' => e = .returned (.tuple #[refV V, .int .i64 E]) ∧ Wr [] w w') (hE : ¬E = 100) (hE_ : (E != 100) = true)  (w : World) :
    Calls Try.prog 18 #[.string s, .agg #[.int .i64 ao, .int .i64 an, .string as_, .int .i64 at_], .agg #[.int .i64 bo, .int .i64 bn, .string bs_, .int .i64 bt_]] w fun e w' => e = .returned (.tuple #[refV V, .int .i64 E]) ∧ Wr [] w w' := by
  obtain ⟨wb, hwb⟩ : ∃ wb, ((w.alloc (.cells #[.int .i64 ao, .int .i64 an, .string as_, .int .i64 at_] 31)).alloc (.cells #[.int .i64 bo, .int .i64 bn, .string bs_, .int .i64 bt_] 31)).alloc (.cells #[.int .i64 0, .int .i64 0, .string ⟨#[]⟩, .int .i64 0] 31) = wb := ⟨_, rfl⟩
  obtain ⟨g, hg⟩ : ∃ g, w.heap.size = g := ⟨_, rfl⟩
  have acc : Wr [] w wb := by rw [← hwb]; exact (((Wr.refl _ _).alloc _).alloc _).alloc _
  have bA : Blk wb g 31 #[.int .i64 ao, .int .i64 an, .string as_, .int .i64 at_] := by rw [← hwb, ← hg]; exact ((Blk.new _ _ _).alloc _).alloc _
  have bB : Blk wb (g + 1) 31 #[.int .i64 bo, .int .i64 bn, .string bs_, .int .i64 bt_] := by
    have hb := (Blk.new (w.alloc (.cells #[.int .i64 ao, .int .i64 an, .string as_, .int .i64 at_] 31)) 31 #[.int .i64 bo, .int .i64 bn, .string bs_, .int .i64 bt_]).alloc (.cells #[.int .i64 0, .int .i64 0, .string ⟨#[]⟩, .int .i64 0] 31)
    rw [hwb, show (w.alloc (.cells #[.int .i64 ao, .int .i64 an, .string as_, .int .i64 at_] 31)).heap.size = g + 1 by simp [hg]] at hb
    exact hb
  have bR : Blk wb (g + 1 + 1) 31 zeroR := by
    have hb := Blk.new ((w.alloc (.cells #[.int .i64 ao, .int .i64 an, .string as_, .int .i64 at_] 31)).alloc (.cells #[.int .i64 bo, .int .i64 bn, .string bs_, .int .i64 bt_] 31)) 31 zeroR
    rw [show ((w.alloc (.cells #[.int .i64 ao, .int .i64 an, .string as_, .int .i64 at_] 31)).alloc (.cells #[.int .i64 bo, .int .i64 bn, .string bs_, .int .i64 bt_] 31)).heap.size = g + 1 + 1 by simp [hg]] at hb
    rw [← hwb]
    exact hb
  have Hwb := Lib.hid hwb
  have Hg := Lib.hid hg
  clear hwb hg
  go_enter Try.func18, Try.ntmps18
  go_wp2_with fail
  rw [Hwb.out, Hg.out]
  refine (op_ref s _).mono ?_
  rintro e w1 ⟨rfl, k1⟩
  rw [hop]
  replace acc := acc.trans k1
  replace bA := bA.wr0 k1
  replace bB := bB.wr0 k1
  replace bR := bR.wr0 k1
  clear k1
  have a0 := bA.cell 0
  have a1 := bA.cell 1
  have a2 := bA.cell 2
  have a3 := bA.cell 3
  simp [zeroR] at a0 a1 a2 a3
  have b0 := bB.cell 0
  have b1 := bB.cell 1
  have b2 := bB.cell 2
  have b3 := bB.cell 3
  simp [zeroR] at b0 b1 b2 b3
  have r0 := bR.cell 0
  have r1 := bR.cell 1
  have r2 := bR.cell 2
  have r3 := bR.cell 3
  simp [zeroR] at r0 r1 r2 r3
  have fa0 := bA.frozen 0
  have fa1 := bA.frozen 1
  have fa2 := bA.frozen 2
  have fa3 := bA.frozen 3
  have fb0 := bB.frozen 0
  have fb1 := bB.frozen 1
  have fb2 := bB.frozen 2
  have fb3 := bB.frozen 3
  have fr0 := bR.frozen 0
  have fr1 := bR.frozen 1
  have fr2 := bR.frozen 2
  have fr3 := bR.frozen 3
  go_wp2_with fail
  clear a0 a1 a2 a3 b0 b1 b2 b3 r0 r1 r2 r3 fa0 fa1 fa2 fa3 fb0 fb1 fb2 fb3 fr0 fr1 fr2 fr3
  refine (hA _).mono ?_
  rintro e w2 ⟨rfl, k2⟩
  replace acc := acc.trans k2
  replace bA := bA.wr0 k2
  replace bB := bB.wr0 k2
  replace bR := bR.wr0 k2
  clear k2
  have a0 := bA.cell 0
  have a1 := bA.cell 1
  have a2 := bA.cell 2
  have a3 := bA.cell 3
  simp [zeroR] at a0 a1 a2 a3
  have b0 := bB.cell 0
  have b1 := bB.cell 1
  have b2 := bB.cell 2
  have b3 := bB.cell 3
  simp [zeroR] at b0 b1 b2 b3
  have r0 := bR.cell 0
  have r1 := bR.cell 1
  have r2 := bR.cell 2
  have r3 := bR.cell 3
  simp [zeroR] at r0 r1 r2 r3
  have fa0 := bA.frozen 0
  have fa1 := bA.frozen 1
  have fa2 := bA.frozen 2
  have fa3 := bA.frozen 3
  have fb0 := bB.frozen 0
  have fb1 := bB.frozen 1
  have fb2 := bB.frozen 2
  have fb3 := bB.frozen 3
  have fr0 := bR.frozen 0
  have fr1 := bR.frozen 1
  have fr2 := bR.frozen 2
  have fr3 := bR.frozen 3
  go_wp2_with fail
  rw [fold4]
  obtain ⟨wp, hwp⟩ : ∃ wp, put4 w2 g (.int .i64 1) (.int .i64 xn) (.string xs_) (.int .i64 xt_) = wp := ⟨_, rfl⟩
  have acc' := put4_wr acc (g := g) (by rw [Hg.out]; omega) (.int .i64 1) (.int .i64 xn) (.string xs_) (.int .i64 xt_)
  have bA' := put4_blk bA (.int .i64 1) (.int .i64 xn) (.string xs_) (.int .i64 xt_)
  have bB' := put4_far bB (g := g) (by omega) (.int .i64 1) (.int .i64 xn) (.string xs_) (.int .i64 xt_)
  have bR' := put4_far bR (g := g) (by omega) (.int .i64 1) (.int .i64 xn) (.string xs_) (.int .i64 xt_)
  rw [hwp] at acc' bA' bB' bR'
  rw [hwp]
  clear hwp acc bA bB bR a0 a1 a2 a3 b0 b1 b2 b3 r0 r1 r2 r3 fa0 fa1 fa2 fa3 fb0 fb1 fb2 fb3 fr0 fr1 fr2 fr3
  have acc := acc'
  have bA := bA'
  have bB := bB'
  have bR := bR'
  clear acc' bA' bB' bR'
  have a0 := bA.cell 0
  have a1 := bA.cell 1
  have a2 := bA.cell 2
  have a3 := bA.cell 3
  simp [zeroR] at a0 a1 a2 a3
  have b0 := bB.cell 0
  have b1 := bB.cell 1
  have b2 := bB.cell 2
  have b3 := bB.cell 3
  simp [zeroR] at b0 b1 b2 b3
  have r0 := bR.cell 0
  have r1 := bR.cell 1
  have r2 := bR.cell 2
  have r3 := bR.cell 3
  simp [zeroR] at r0 r1 r2 r3
  have fa0 := bA.frozen 0
  have fa1 := bA.frozen 1
  have fa2 := bA.frozen 2
  have fa3 := bA.frozen 3
  have fb0 := bB.frozen 0
  have fb1 := bB.frozen 1
  have fb2 := bB.frozen 2
  have fb3 := bB.frozen 3
  have fr0 := bR.frozen 0
  have fr1 := bR.frozen 1
  have fr2 := bR.frozen 2
  have fr3 := bR.frozen 3
  go_wp2_with fail
  clear a0 a1 a2 a3 b0 b1 b2 b3 r0 r1 r2 r3 fa0 fa1 fa2 fa3 fb0 fb1 fb2 fb3 fr0 fr1 fr2 fr3
  refine (hB _).mono ?_
  rintro e w3 ⟨rfl, k3⟩
  replace acc := acc.trans k3
  replace bA := bA.wr0 k3
  replace bB := bB.wr0 k3
  replace bR := bR.wr0 k3
  clear k3
  have a0 := bA.cell 0
  have a1 := bA.cell 1
  have a2 := bA.cell 2
  have a3 := bA.cell 3
  simp [zeroR] at a0 a1 a2 a3
  have b0 := bB.cell 0
  have b1 := bB.cell 1
  have b2 := bB.cell 2
  have b3 := bB.cell 3
  simp [zeroR] at b0 b1 b2 b3
  have r0 := bR.cell 0
  have r1 := bR.cell 1
  have r2 := bR.cell 2
  have r3 := bR.cell 3
  simp [zeroR] at r0 r1 r2 r3
  have fa0 := bA.frozen 0
  have fa1 := bA.frozen 1
  have fa2 := bA.frozen 2
  have fa3 := bA.frozen 3
  have fb0 := bB.frozen 0
  have fb1 := bB.frozen 1
  have fb2 := bB.frozen 2
  have fb3 := bB.frozen 3
  have fr0 := bR.frozen 0
  have fr1 := bR.frozen 1
  have fr2 := bR.frozen 2
  have fr3 := bR.frozen 3
  go_wp2_with fail
  simp only [fold4]
  obtain ⟨wq, hwq⟩ : ∃ wq, put4 w3 (g + 1) (.int .i64 1) (.int .i64 yn) (.string ys_) (.int .i64 yt_) = wq := ⟨_, rfl⟩
  have acc' := put4_wr acc (g := g + 1) (by rw [Hg.out]; omega) (.int .i64 1) (.int .i64 yn) (.string ys_) (.int .i64 yt_)
  have bB' := put4_blk bB (.int .i64 1) (.int .i64 yn) (.string ys_) (.int .i64 yt_)
  have bA' := put4_far bA (g := g + 1) (by omega) (.int .i64 1) (.int .i64 yn) (.string ys_) (.int .i64 yt_)
  have bR' := put4_far bR (g := g + 1) (by omega) (.int .i64 1) (.int .i64 yn) (.string ys_) (.int .i64 yt_)
  rw [hwq] at acc' bA' bB' bR'
  rw [hwq]
  clear hwq acc bA bB bR a0 a1 a2 a3 b0 b1 b2 b3 r0 r1 r2 r3 fa0 fa1 fa2 fa3 fb0 fb1 fb2 fb3 fr0 fr1 fr2 fr3
  have acc := acc'
  have bA := bA'
  have bB := bB'
  have bR := bR'
  clear acc' bA' bB' bR'
  have a0 := bA.cell 0
  have a1 := bA.cell 1
  have a2 := bA.cell 2
  have a3 := bA.cell 3
  simp [zeroR] at a0 a1 a2 a3
  have b0 := bB.cell 0
  have b1 := bB.cell 1
  have b2 := bB.cell 2
  have b3 := bB.cell 3
  simp [zeroR] at b0 b1 b2 b3
  have r0 := bR.cell 0
  have r1 := bR.cell 1
  have r2 := bR.cell 2
  have r3 := bR.cell 3
  simp [zeroR] at r0 r1 r2 r3
  have fa0 := bA.frozen 0
  have fa1 := bA.frozen 1
  have fa2 := bA.frozen 2
  have fa3 := bA.frozen 3
  have fb0 := bB.frozen 0
  have fb1 := bB.frozen 1
  have fb2 := bB.frozen 2
  have fb3 := bB.frozen 3
  have fr0 := bR.frozen 0
  have fr1 := bR.frozen 1
  have fr2 := bR.frozen 2
  have fr3 := bR.frozen 3
  try go_wp2_with fail
  try unfold put4
  clear a0 a1 a2 a3 b0 b1 b2 b3 r0 r1 r2 r3 fa0 fa1 fa2 fa3 fb0 fb1 fb2 fb3 fr0 fr1 fr2 fr3
  refine (hW _).mono ?_
  rintro e w4 ⟨rfl, k4⟩
  replace acc := acc.trans k4
  replace bA := bA.wr0 k4
  replace bB := bB.wr0 k4
  replace bR := bR.wr0 k4
  clear k4
  have a0 := bA.cell 0
  have a1 := bA.cell 1
  have a2 := bA.cell 2
  have a3 := bA.cell 3
  simp [zeroR] at a0 a1 a2 a3
  have b0 := bB.cell 0
  have b1 := bB.cell 1
  have b2 := bB.cell 2
  have b3 := bB.cell 3
  simp [zeroR] at b0 b1 b2 b3
  have r0 := bR.cell 0
  have r1 := bR.cell 1
  have r2 := bR.cell 2
  have r3 := bR.cell 3
  simp [zeroR] at r0 r1 r2 r3
  have fa0 := bA.frozen 0
  have fa1 := bA.frozen 1
  have fa2 := bA.frozen 2
  have fa3 := bA.frozen 3
  have fb0 := bB.frozen 0
  have fb1 := bB.frozen 1
  have fb2 := bB.frozen 2
  have fb3 := bB.frozen 3
  have fr0 := bR.frozen 0
  have fr1 := bR.frozen 1
  have fr2 := bR.frozen 2
  have fr3 := bR.frozen 3
  have La0 := fun o => ((Wr.refl [] w4).alloc o).cellOf a0 (by simp)
  have La1 := fun o => ((Wr.refl [] w4).alloc o).cellOf a1 (by simp)
  have La2 := fun o => ((Wr.refl [] w4).alloc o).cellOf a2 (by simp)
  have La3 := fun o => ((Wr.refl [] w4).alloc o).cellOf a3 (by simp)
  have Lb0 := fun o => ((Wr.refl [] w4).alloc o).cellOf b0 (by simp)
  have Lb1 := fun o => ((Wr.refl [] w4).alloc o).cellOf b1 (by simp)
  have Lb2 := fun o => ((Wr.refl [] w4).alloc o).cellOf b2 (by simp)
  have Lb3 := fun o => ((Wr.refl [] w4).alloc o).cellOf b3 (by simp)
  have Lr0 := fun o => ((Wr.refl [] w4).alloc o).cellOf r0 (by simp)
  have Lfr0 := fun o => ((Wr.refl [] w4).alloc o).frozenOf r0 fr0 (by simp)
  have Lr1 := fun o => ((Wr.refl [] w4).alloc o).cellOf r1 (by simp)
  have Lfr1 := fun o => ((Wr.refl [] w4).alloc o).frozenOf r1 fr1 (by simp)
  have Lr2 := fun o => ((Wr.refl [] w4).alloc o).cellOf r2 (by simp)
  have Lfr2 := fun o => ((Wr.refl [] w4).alloc o).frozenOf r2 fr2 (by simp)
  have Lr3 := fun o => ((Wr.refl [] w4).alloc o).cellOf r3 (by simp)
  have Lfr3 := fun o => ((Wr.refl [] w4).alloc o).frozenOf r3 fr3 (by simp)
  unfold refV
  go_wp2_with fail
  clear La0 La1 La2 La3 Lb0 Lb1 Lb2 Lb3 Lr0 Lr1 Lr2 Lr3 Lfr0 Lfr1 Lfr2 Lfr3
  replace acc := acc.alloc (.cells #[.int .i64 V.sort, .int .i64 V.n, .string V.s, .int .i64 V.t] 31)
  replace bA := bA.alloc (.cells #[.int .i64 V.sort, .int .i64 V.n, .string V.s, .int .i64 V.t] 31)
  replace bB := bB.alloc (.cells #[.int .i64 V.sort, .int .i64 V.n, .string V.s, .int .i64 V.t] 31)
  replace bR := bR.alloc (.cells #[.int .i64 V.sort, .int .i64 V.n, .string V.s, .int .i64 V.t] 31)
  clear a0 a1 a2 a3 b0 b1 b2 b3 r0 r1 r2 r3 fa0 fa1 fa2 fa3 fb0 fb1 fb2 fb3 fr0 fr1 fr2 fr3
  obtain ⟨z1, z2⟩ := end4 (x0 := .int .i64 0) (x1 := .int .i64 0) (x2 := .string ⟨#[]⟩) (x3 := .int .i64 0) acc (by rw [Hg.out]; omega) bR _ _ _ _
  have d0 := z2.cell 0
  have d1 := z2.cell 1
  have d2 := z2.cell 2
  have d3 := z2.cell 3
  simp at d0 d1 d2 d3
  refine bodyPost_ret (v := .tuple #[refV V, .int .i64 E]) ?_ rfl ⟨rfl, z1⟩
  simp [results, Try.results18, go_sem, d0, d1, d2, d3, refV, KV.none_]

set_option maxRecDepth 100000 in
set_option maxHeartbeats 4000000 in
theorem dr_Gw2 {s : ByteArray} {ao an : Int} {as_ : ByteArray} {at_ : Int} {bo bn : Int} {bs_ : ByteArray} {bt_ : Int} {xn : Int} {xs_ : ByteArray} {xt_ : Int} {yn : Int} {ys_ : ByteArray} {yt_ : Int} {U V : KV} {E : Int} (hop : opB s = true) (na : ¬ao = 0) (na_ : (ao == 0) = false) (nb : ¬bo = 0) (nb_ : (bo == 0) = false) (qi : ¬s.toList = [73, 78]) (qi_ : (s.toList == [73, 78]) = false) (hA : ∀ w, Calls Try.prog 33 #[.agg #[.int .i64 ao, .int .i64 an, .string as_, .int .i64 at_]] w fun e w' => e = .returned (.agg #[.int .i64 1, .int .i64 xn, .string xs_, .int .i64 xt_]) ∧ Wr [] w w') (hB : ∀ w, Calls Try.prog 33 #[.agg #[.int .i64 bo, .int .i64 bn, .string bs_, .int .i64 bt_]] w fun e w' => e = .returned (.agg #[.int .i64 1, .int .i64 yn, .string ys_, .int .i64 yt_]) ∧ Wr [] w w') (hW : ∀ w, Calls Try.prog 35 #[.string s, .int .i64 xn, .int .i64 yn] w fun e w' => e = .returned (.tuple #[refV U, .int .i64 100]) ∧ Wr [] w w') (hO : ∀ w, Calls Try.prog 36 #[.string s, .int .i64 xn, .int .i64 yn] w fun e w' => e = .returned (.tuple #[refV V, .int .i64 E]) ∧ Wr [] w w')  (w : World) :
    Calls Try.prog 18 #[.string s, .agg #[.int .i64 ao, .int .i64 an, .string as_, .int .i64 at_], .agg #[.int .i64 bo, .int .i64 bn, .string bs_, .int .i64 bt_]] w fun e w' => e = .returned (.tuple #[refV V, .int .i64 E]) ∧ Wr [] w w' := by
  obtain ⟨wb, hwb⟩ : ∃ wb, ((w.alloc (.cells #[.int .i64 ao, .int .i64 an, .string as_, .int .i64 at_] 31)).alloc (.cells #[.int .i64 bo, .int .i64 bn, .string bs_, .int .i64 bt_] 31)).alloc (.cells #[.int .i64 0, .int .i64 0, .string ⟨#[]⟩, .int .i64 0] 31) = wb := ⟨_, rfl⟩
  obtain ⟨g, hg⟩ : ∃ g, w.heap.size = g := ⟨_, rfl⟩
  have acc : Wr [] w wb := by rw [← hwb]; exact (((Wr.refl _ _).alloc _).alloc _).alloc _
  have bA : Blk wb g 31 #[.int .i64 ao, .int .i64 an, .string as_, .int .i64 at_] := by rw [← hwb, ← hg]; exact ((Blk.new _ _ _).alloc _).alloc _
  have bB : Blk wb (g + 1) 31 #[.int .i64 bo, .int .i64 bn, .string bs_, .int .i64 bt_] := by
    have hb := (Blk.new (w.alloc (.cells #[.int .i64 ao, .int .i64 an, .string as_, .int .i64 at_] 31)) 31 #[.int .i64 bo, .int .i64 bn, .string bs_, .int .i64 bt_]).alloc (.cells #[.int .i64 0, .int .i64 0, .string ⟨#[]⟩, .int .i64 0] 31)
    rw [hwb, show (w.alloc (.cells #[.int .i64 ao, .int .i64 an, .string as_, .int .i64 at_] 31)).heap.size = g + 1 by simp [hg]] at hb
    exact hb
  have bR : Blk wb (g + 1 + 1) 31 zeroR := by
    have hb := Blk.new ((w.alloc (.cells #[.int .i64 ao, .int .i64 an, .string as_, .int .i64 at_] 31)).alloc (.cells #[.int .i64 bo, .int .i64 bn, .string bs_, .int .i64 bt_] 31)) 31 zeroR
    rw [show ((w.alloc (.cells #[.int .i64 ao, .int .i64 an, .string as_, .int .i64 at_] 31)).alloc (.cells #[.int .i64 bo, .int .i64 bn, .string bs_, .int .i64 bt_] 31)).heap.size = g + 1 + 1 by simp [hg]] at hb
    rw [← hwb]
    exact hb
  have Hwb := Lib.hid hwb
  have Hg := Lib.hid hg
  clear hwb hg
  go_enter Try.func18, Try.ntmps18
  go_wp2_with fail
  rw [Hwb.out, Hg.out]
  refine (op_ref s _).mono ?_
  rintro e w1 ⟨rfl, k1⟩
  rw [hop]
  replace acc := acc.trans k1
  replace bA := bA.wr0 k1
  replace bB := bB.wr0 k1
  replace bR := bR.wr0 k1
  clear k1
  have a0 := bA.cell 0
  have a1 := bA.cell 1
  have a2 := bA.cell 2
  have a3 := bA.cell 3
  simp [zeroR] at a0 a1 a2 a3
  have b0 := bB.cell 0
  have b1 := bB.cell 1
  have b2 := bB.cell 2
  have b3 := bB.cell 3
  simp [zeroR] at b0 b1 b2 b3
  have r0 := bR.cell 0
  have r1 := bR.cell 1
  have r2 := bR.cell 2
  have r3 := bR.cell 3
  simp [zeroR] at r0 r1 r2 r3
  have fa0 := bA.frozen 0
  have fa1 := bA.frozen 1
  have fa2 := bA.frozen 2
  have fa3 := bA.frozen 3
  have fb0 := bB.frozen 0
  have fb1 := bB.frozen 1
  have fb2 := bB.frozen 2
  have fb3 := bB.frozen 3
  have fr0 := bR.frozen 0
  have fr1 := bR.frozen 1
  have fr2 := bR.frozen 2
  have fr3 := bR.frozen 3
  go_wp2_with fail
  clear a0 a1 a2 a3 b0 b1 b2 b3 r0 r1 r2 r3 fa0 fa1 fa2 fa3 fb0 fb1 fb2 fb3 fr0 fr1 fr2 fr3
  refine (hA _).mono ?_
  rintro e w2 ⟨rfl, k2⟩
  replace acc := acc.trans k2
  replace bA := bA.wr0 k2
  replace bB := bB.wr0 k2
  replace bR := bR.wr0 k2
  clear k2
  have a0 := bA.cell 0
  have a1 := bA.cell 1
  have a2 := bA.cell 2
  have a3 := bA.cell 3
  simp [zeroR] at a0 a1 a2 a3
  have b0 := bB.cell 0
  have b1 := bB.cell 1
  have b2 := bB.cell 2
  have b3 := bB.cell 3
  simp [zeroR] at b0 b1 b2 b3
  have r0 := bR.cell 0
  have r1 := bR.cell 1
  have r2 := bR.cell 2
  have r3 := bR.cell 3
  simp [zeroR] at r0 r1 r2 r3
  have fa0 := bA.frozen 0
  have fa1 := bA.frozen 1
  have fa2 := bA.frozen 2
  have fa3 := bA.frozen 3
  have fb0 := bB.frozen 0
  have fb1 := bB.frozen 1
  have fb2 := bB.frozen 2
  have fb3 := bB.frozen 3
  have fr0 := bR.frozen 0
  have fr1 := bR.frozen 1
  have fr2 := bR.frozen 2
  have fr3 := bR.frozen 3
  go_wp2_with fail
  rw [fold4]
  obtain ⟨wp, hwp⟩ : ∃ wp, put4 w2 g (.int .i64 1) (.int .i64 xn) (.string xs_) (.int .i64 xt_) = wp := ⟨_, rfl⟩
  have acc' := put4_wr acc (g := g) (by rw [Hg.out]; omega) (.int .i64 1) (.int .i64 xn) (.string xs_) (.int .i64 xt_)
  have bA' := put4_blk bA (.int .i64 1) (.int .i64 xn) (.string xs_) (.int .i64 xt_)
  have bB' := put4_far bB (g := g) (by omega) (.int .i64 1) (.int .i64 xn) (.string xs_) (.int .i64 xt_)
  have bR' := put4_far bR (g := g) (by omega) (.int .i64 1) (.int .i64 xn) (.string xs_) (.int .i64 xt_)
  rw [hwp] at acc' bA' bB' bR'
  rw [hwp]
  clear hwp acc bA bB bR a0 a1 a2 a3 b0 b1 b2 b3 r0 r1 r2 r3 fa0 fa1 fa2 fa3 fb0 fb1 fb2 fb3 fr0 fr1 fr2 fr3
  have acc := acc'
  have bA := bA'
  have bB := bB'
  have bR := bR'
  clear acc' bA' bB' bR'
  have a0 := bA.cell 0
  have a1 := bA.cell 1
  have a2 := bA.cell 2
  have a3 := bA.cell 3
  simp [zeroR] at a0 a1 a2 a3
  have b0 := bB.cell 0
  have b1 := bB.cell 1
  have b2 := bB.cell 2
  have b3 := bB.cell 3
  simp [zeroR] at b0 b1 b2 b3
  have r0 := bR.cell 0
  have r1 := bR.cell 1
  have r2 := bR.cell 2
  have r3 := bR.cell 3
  simp [zeroR] at r0 r1 r2 r3
  have fa0 := bA.frozen 0
  have fa1 := bA.frozen 1
  have fa2 := bA.frozen 2
  have fa3 := bA.frozen 3
  have fb0 := bB.frozen 0
  have fb1 := bB.frozen 1
  have fb2 := bB.frozen 2
  have fb3 := bB.frozen 3
  have fr0 := bR.frozen 0
  have fr1 := bR.frozen 1
  have fr2 := bR.frozen 2
  have fr3 := bR.frozen 3
  go_wp2_with fail
  clear a0 a1 a2 a3 b0 b1 b2 b3 r0 r1 r2 r3 fa0 fa1 fa2 fa3 fb0 fb1 fb2 fb3 fr0 fr1 fr2 fr3
  refine (hB _).mono ?_
  rintro e w3 ⟨rfl, k3⟩
  replace acc := acc.trans k3
  replace bA := bA.wr0 k3
  replace bB := bB.wr0 k3
  replace bR := bR.wr0 k3
  clear k3
  have a0 := bA.cell 0
  have a1 := bA.cell 1
  have a2 := bA.cell 2
  have a3 := bA.cell 3
  simp [zeroR] at a0 a1 a2 a3
  have b0 := bB.cell 0
  have b1 := bB.cell 1
  have b2 := bB.cell 2
  have b3 := bB.cell 3
  simp [zeroR] at b0 b1 b2 b3
  have r0 := bR.cell 0
  have r1 := bR.cell 1
  have r2 := bR.cell 2
  have r3 := bR.cell 3
  simp [zeroR] at r0 r1 r2 r3
  have fa0 := bA.frozen 0
  have fa1 := bA.frozen 1
  have fa2 := bA.frozen 2
  have fa3 := bA.frozen 3
  have fb0 := bB.frozen 0
  have fb1 := bB.frozen 1
  have fb2 := bB.frozen 2
  have fb3 := bB.frozen 3
  have fr0 := bR.frozen 0
  have fr1 := bR.frozen 1
  have fr2 := bR.frozen 2
  have fr3 := bR.frozen 3
  go_wp2_with fail
  simp only [fold4]
  obtain ⟨wq, hwq⟩ : ∃ wq, put4 w3 (g + 1) (.int .i64 1) (.int .i64 yn) (.string ys_) (.int .i64 yt_) = wq := ⟨_, rfl⟩
  have acc' := put4_wr acc (g := g + 1) (by rw [Hg.out]; omega) (.int .i64 1) (.int .i64 yn) (.string ys_) (.int .i64 yt_)
  have bB' := put4_blk bB (.int .i64 1) (.int .i64 yn) (.string ys_) (.int .i64 yt_)
  have bA' := put4_far bA (g := g + 1) (by omega) (.int .i64 1) (.int .i64 yn) (.string ys_) (.int .i64 yt_)
  have bR' := put4_far bR (g := g + 1) (by omega) (.int .i64 1) (.int .i64 yn) (.string ys_) (.int .i64 yt_)
  rw [hwq] at acc' bA' bB' bR'
  rw [hwq]
  clear hwq acc bA bB bR a0 a1 a2 a3 b0 b1 b2 b3 r0 r1 r2 r3 fa0 fa1 fa2 fa3 fb0 fb1 fb2 fb3 fr0 fr1 fr2 fr3
  have acc := acc'
  have bA := bA'
  have bB := bB'
  have bR := bR'
  clear acc' bA' bB' bR'
  have a0 := bA.cell 0
  have a1 := bA.cell 1
  have a2 := bA.cell 2
  have a3 := bA.cell 3
  simp [zeroR] at a0 a1 a2 a3
  have b0 := bB.cell 0
  have b1 := bB.cell 1
  have b2 := bB.cell 2
  have b3 := bB.cell 3
  simp [zeroR] at b0 b1 b2 b3
  have r0 := bR.cell 0
  have r1 := bR.cell 1
  have r2 := bR.cell 2
  have r3 := bR.cell 3
  simp [zeroR] at r0 r1 r2 r3
  have fa0 := bA.frozen 0
  have fa1 := bA.frozen 1
  have fa2 := bA.frozen 2
  have fa3 := bA.frozen 3
  have fb0 := bB.frozen 0
  have fb1 := bB.frozen 1
  have fb2 := bB.frozen 2
  have fb3 := bB.frozen 3
  have fr0 := bR.frozen 0
  have fr1 := bR.frozen 1
  have fr2 := bR.frozen 2
  have fr3 := bR.frozen 3
  try go_wp2_with fail
  try unfold put4
  clear a0 a1 a2 a3 b0 b1 b2 b3 r0 r1 r2 r3 fa0 fa1 fa2 fa3 fb0 fb1 fb2 fb3 fr0 fr1 fr2 fr3
  refine (hW _).mono ?_
  rintro e w4 ⟨rfl, k4⟩
  replace acc := acc.trans k4
  replace bA := bA.wr0 k4
  replace bB := bB.wr0 k4
  replace bR := bR.wr0 k4
  clear k4
  have a0 := bA.cell 0
  have a1 := bA.cell 1
  have a2 := bA.cell 2
  have a3 := bA.cell 3
  simp [zeroR] at a0 a1 a2 a3
  have b0 := bB.cell 0
  have b1 := bB.cell 1
  have b2 := bB.cell 2
  have b3 := bB.cell 3
  simp [zeroR] at b0 b1 b2 b3
  have r0 := bR.cell 0
  have r1 := bR.cell 1
  have r2 := bR.cell 2
  have r3 := bR.cell 3
  simp [zeroR] at r0 r1 r2 r3
  have fa0 := bA.frozen 0
  have fa1 := bA.frozen 1
  have fa2 := bA.frozen 2
  have fa3 := bA.frozen 3
  have fb0 := bB.frozen 0
  have fb1 := bB.frozen 1
  have fb2 := bB.frozen 2
  have fb3 := bB.frozen 3
  have fr0 := bR.frozen 0
  have fr1 := bR.frozen 1
  have fr2 := bR.frozen 2
  have fr3 := bR.frozen 3
  have La0 := fun o => ((Wr.refl [] w4).alloc o).cellOf a0 (by simp)
  have La1 := fun o => ((Wr.refl [] w4).alloc o).cellOf a1 (by simp)
  have La2 := fun o => ((Wr.refl [] w4).alloc o).cellOf a2 (by simp)
  have La3 := fun o => ((Wr.refl [] w4).alloc o).cellOf a3 (by simp)
  have Lb0 := fun o => ((Wr.refl [] w4).alloc o).cellOf b0 (by simp)
  have Lb1 := fun o => ((Wr.refl [] w4).alloc o).cellOf b1 (by simp)
  have Lb2 := fun o => ((Wr.refl [] w4).alloc o).cellOf b2 (by simp)
  have Lb3 := fun o => ((Wr.refl [] w4).alloc o).cellOf b3 (by simp)
  have Lr0 := fun o => ((Wr.refl [] w4).alloc o).cellOf r0 (by simp)
  have Lfr0 := fun o => ((Wr.refl [] w4).alloc o).frozenOf r0 fr0 (by simp)
  have Lr1 := fun o => ((Wr.refl [] w4).alloc o).cellOf r1 (by simp)
  have Lfr1 := fun o => ((Wr.refl [] w4).alloc o).frozenOf r1 fr1 (by simp)
  have Lr2 := fun o => ((Wr.refl [] w4).alloc o).cellOf r2 (by simp)
  have Lfr2 := fun o => ((Wr.refl [] w4).alloc o).frozenOf r2 fr2 (by simp)
  have Lr3 := fun o => ((Wr.refl [] w4).alloc o).cellOf r3 (by simp)
  have Lfr3 := fun o => ((Wr.refl [] w4).alloc o).frozenOf r3 fr3 (by simp)
  unfold refV
  go_wp2_with fail
  clear La0 La1 La2 La3 Lb0 Lb1 Lb2 Lb3 Lr0 Lr1 Lr2 Lr3 Lfr0 Lfr1 Lfr2 Lfr3
  replace acc := acc.alloc (.cells #[.int .i64 U.sort, .int .i64 U.n, .string U.s, .int .i64 U.t] 31)
  replace bA := bA.alloc (.cells #[.int .i64 U.sort, .int .i64 U.n, .string U.s, .int .i64 U.t] 31)
  replace bB := bB.alloc (.cells #[.int .i64 U.sort, .int .i64 U.n, .string U.s, .int .i64 U.t] 31)
  replace bR := bR.alloc (.cells #[.int .i64 U.sort, .int .i64 U.n, .string U.s, .int .i64 U.t] 31)
  clear a0 a1 a2 a3 b0 b1 b2 b3 r0 r1 r2 r3 fa0 fa1 fa2 fa3 fb0 fb1 fb2 fb3 fr0 fr1 fr2 fr3
  refine (hO _).mono ?_
  rintro e w5 ⟨rfl, k5⟩
  replace acc := acc.trans k5
  replace bA := bA.wr0 k5
  replace bB := bB.wr0 k5
  replace bR := bR.wr0 k5
  clear k5
  have a0 := bA.cell 0
  have a1 := bA.cell 1
  have a2 := bA.cell 2
  have a3 := bA.cell 3
  simp [zeroR] at a0 a1 a2 a3
  have b0 := bB.cell 0
  have b1 := bB.cell 1
  have b2 := bB.cell 2
  have b3 := bB.cell 3
  simp [zeroR] at b0 b1 b2 b3
  have r0 := bR.cell 0
  have r1 := bR.cell 1
  have r2 := bR.cell 2
  have r3 := bR.cell 3
  simp [zeroR] at r0 r1 r2 r3
  have fa0 := bA.frozen 0
  have fa1 := bA.frozen 1
  have fa2 := bA.frozen 2
  have fa3 := bA.frozen 3
  have fb0 := bB.frozen 0
  have fb1 := bB.frozen 1
  have fb2 := bB.frozen 2
  have fb3 := bB.frozen 3
  have fr0 := bR.frozen 0
  have fr1 := bR.frozen 1
  have fr2 := bR.frozen 2
  have fr3 := bR.frozen 3
  unfold refV
  go_wp2_with fail
  clear a0 a1 a2 a3 b0 b1 b2 b3 r0 r1 r2 r3 fa0 fa1 fa2 fa3 fb0 fb1 fb2 fb3 fr0 fr1 fr2 fr3
  obtain ⟨z1, z2⟩ := end4 (x0 := .int .i64 0) (x1 := .int .i64 0) (x2 := .string ⟨#[]⟩) (x3 := .int .i64 0) acc (by rw [Hg.out]; omega) bR _ _ _ _
  have d0 := z2.cell 0
  have d1 := z2.cell 1
  have d2 := z2.cell 2
  have d3 := z2.cell 3
  simp at d0 d1 d2 d3
  refine bodyPost_ret (v := .tuple #[refV V, .int .i64 E]) ?_ rfl ⟨rfl, z1⟩
  simp [results, Try.results18, go_sem, d0, d1, d2, d3, refV, KV.none_]

end Go.Proofs.Ytpfidbpbomamjaa
