/- works, heavy, Same, Raw.Any: walked. No conditions but that the values are such as Go has. -/
import Derived.Test.YtpfidbpbomamjaaKoQ
namespace Go.Proofs.Ytpfidbpbomamjaa
open Go.RowKit
set_option linter.unusedVariables false

theorem whole_ok {n : Int} (h : -9223372036854775808 ≤ n ∧ n ≤ 9223372036854775807) : (KV.whole n).ok := by simp [KV.ok, KV.whole, h]
theorem letter_ok' {n : Int} (h : 0 ≤ n ∧ n ≤ 255) : (⟨2, n, 0, ⟨#[]⟩⟩ : KV).ok := by simp [KV.ok, h]
theorem bits_ok {n : Int} (h : 0 ≤ n ∧ n ≤ 65535) : (KV.bits n).ok := by simp [KV.ok, KV.bits, h]
theorem truth_ok (b : Bool) : (KV.truth b).ok := by cases b <;> simp [KV.ok, KV.truth]
theorem none_ok : KV.none_.ok := by simp [KV.ok, KV.none_]

set_option maxHeartbeats 1000000 in
theorem works_any (w : World) : Calls Try.prog 9 #[] w fun e w' => e = .returned (.bool true) ∧ Wr [] w w' := by
  have m1 := @mkIface 34 rfl
  have m2 := @mkIface 55 rfl
  have m3 := @mkIface 39 rfl
  have m4 := @mkIface 57 rfl
  have d1 := fun w => does_op4 (KV.whole (-7)) (KV.whole 2) (whole_ok (by decide)) (whole_ok (by decide)) w
  rw [show doesK 4 (KV.whole (-7)) (KV.whole 2) = (KV.whole (-3), 0) from by kernel_rfl] at d1
  have d2 := fun w => does_op14 ⟨2, 1, 0, ⟨#[]⟩⟩ (KV.bits 2) (letter_ok' (by decide)) (bits_ok (by decide)) w
  rw [show doesK 14 ⟨2, 1, 0, ⟨#[]⟩⟩ (KV.bits 2) = (KV.truth true, 0) from by kernel_rfl] at d2
  have s1 := fun w => same_any (KV.whole (-3)) ⟨1, -3, 0, ⟨#[]⟩⟩ (whole_ok (by decide)) w
  rw [show KV.eqB (KV.whole (-3)).look ⟨1, -3, 0, ⟨#[]⟩⟩ = true from by decide +kernel] at s1
  have s2 := fun w => same_any (KV.truth true) ⟨3, 1, 0, ⟨#[]⟩⟩ (truth_ok _) w
  rw [show KV.eqB (KV.truth true).look ⟨3, 1, 0, ⟨#[]⟩⟩ = true from by decide +kernel] at s2
  have i1 := fun w => is_any KV.null KV.null_ok w
  rw [show KV.null.isB = true from rfl] at i1
  have i2 := fun w => is_any KV.none_ none_ok w
  rw [show KV.none_.isB = false from rfl] at i2
  have p1 := fun w => panics_null w
  have p2 := fun w => panics_three w
  have p3 := fun w => must_three w
  rw [show (KV.whole (-3)).val = .iface 34 (.int .i64 (-3)) from rfl] at d1 s1
  rw [show (KV.whole (-7)).val = .iface 34 (.int .i64 (-7)) from rfl, show (KV.whole 2).val = .iface 34 (.int .i64 2) from rfl] at d1
  rw [show (KV.truth true).val = .iface 40 (.bool true) from rfl] at d2 s2
  rw [show (KV.mk 2 1 0 ⟨#[]⟩).val = .iface 55 (.int .u8 1) from rfl, show (KV.bits 2).val = .iface 39 (.int .u16 2) from rfl] at d2
  rw [show refV ⟨1, -3, 0, ⟨#[]⟩⟩ = .agg #[.int .i64 1, .int .i64 (-3), .string ⟨#[]⟩, .int .i64 0] from rfl] at s1
  rw [show refV ⟨3, 1, 0, ⟨#[]⟩⟩ = .agg #[.int .i64 3, .int .i64 1, .string ⟨#[]⟩, .int .i64 0] from rfl] at s2
  rw [show KV.null.val = .iface 57 (.agg #[]) from rfl] at i1
  rw [show KV.none_.val = .nilIface from rfl] at i2
  go_enter Try.func9, Try.ntmps9
  go_wp2_with fail
  refine (d1 _).mono ?_
  clear d1
  rintro e w1 ⟨rfl, r1⟩
  go_wp2_with fail
  refine (d2 _).mono ?_
  clear d2
  rintro e w2 ⟨rfl, r2⟩
  go_wp2_with fail
  refine (s1 _).mono ?_
  clear s1
  rintro e w3 ⟨rfl, r3⟩
  go_wp2_with fail
  refine (s2 _).mono ?_
  clear s2
  rintro e w4 ⟨rfl, r4⟩
  go_wp2_with fail
  refine (i1 _).mono ?_
  clear i1
  rintro e w5 ⟨rfl, r5⟩
  go_wp2_with fail
  refine (i2 _).mono ?_
  clear i2
  rintro e w6 ⟨rfl, r6⟩
  go_wp2_with fail
  refine (p1 _).mono ?_
  clear p1
  rintro e w7 ⟨rfl, r7⟩
  go_wp2_with fail
  refine (p2 _).mono ?_
  clear p2
  rintro e w8 ⟨rfl, r8⟩
  go_wp2_with fail
  refine (p3 _).mono ?_
  clear p3
  rintro e w9 ⟨rfl, r9⟩
  go_wp2_with fail
  go_ret
  exact ⟨rfl, ((((((((r1.trans r2).trans r3).trans r4).trans r5).trans r6).trans r7).trans r8).trans r9)⟩

/-- What a value is made of, as a struct. -/
def rawV (s n t : Int) (b : ByteArray) : Value := .agg #[.int .u8 s, .int .i64 n, .string b, .int .i64 t]

set_option maxHeartbeats 1000000 in
theorem heavy_any (s1 n1 t1 s2 n2 t2 : Int) (b1 b2 : ByteArray) (h1 : b1.size ≤ 9223372036854775807) (h2 : b2.size ≤ 9223372036854775807) (w : World) :
    Calls Try.prog 8 #[rawV s1 n1 t1 b1, rawV s2 n2 t2 b2] w fun e w' => e = .returned (.bool (decide (wrap64 ((b1.size : Int) + b2.size) > 4096))) ∧ Wr [] w w' := by
  unfold rawV
  go_enter Try.func8, Try.ntmps8
  go_wp2_with fail
  go_ret
  exact ⟨rfl, ((Wr.refl [] w).alloc _).alloc _⟩

set_option maxHeartbeats 1000000 in
theorem Same_any (x y : KV) (hx : x.ok) (hy : y.ok) (w : World) (q : Bool) (hq : ∀ w, (binOp .eql 20 x.val y.val).run Try.prog w = .ok (.bool q) w) (hg : ∀ i j w, (eqGuard .eql 20 (.tmp i) (.tmp j) x.val y.val).run Try.prog w = .ok () w) :
    Calls Try.prog 13 #[x.val, y.val] w fun e w' => e = .returned (.bool (bif x.isB && y.isB then q else !x.isB && !y.isB)) ∧ Wr [] w w' := by
  have ix := fun w => is_any x hx w
  have iy := fun w => is_any y hy w
  generalize x.val = xv at hq hg ix ⊢
  generalize y.val = yv at hq hg iy ⊢
  generalize x.isB = bx at ix ⊢
  generalize y.isB = by_ at iy ⊢
  have hg' := hg 21 22
  clear hg
  cases bx with
  | false =>
    go_enter Try.func13, Try.ntmps13
    go_wp2_with fail
    refine (ix _).mono ?_
    rintro e w1 ⟨rfl, r1⟩
    go_wp2_with fail
    refine (ix _).mono ?_
    rintro e w2 ⟨rfl, r2⟩
    go_wp2_with fail
    refine (iy _).mono ?_
    rintro e w3 ⟨rfl, r3⟩
    go_wp2_with fail
    go_ret
    exact ⟨rfl, (r1.trans r2).trans r3⟩
  | true =>
    cases by_ with
    | false =>
      go_enter Try.func13, Try.ntmps13
      go_wp2_with fail
      refine (ix _).mono ?_
      rintro e w1 ⟨rfl, r1⟩
      go_wp2_with fail
      refine (iy _).mono ?_
      rintro e w2 ⟨rfl, r2⟩
      go_wp2_with fail
      refine (ix _).mono ?_
      rintro e w3 ⟨rfl, r3⟩
      go_wp2_with fail
      go_ret
      exact ⟨rfl, (r1.trans r2).trans r3⟩
    | true =>
      go_enter Try.func13, Try.ntmps13
      go_wp2_with fail
      refine (ix _).mono ?_
      rintro e w1 ⟨rfl, r1⟩
      go_wp2_with fail
      refine (iy _).mono ?_
      rintro e w2 ⟨rfl, r2⟩
      go_wp2_with fail
      go_ret
      exact ⟨rfl, r1.trans r2⟩
end Go.Proofs.Ytpfidbpbomamjaa
