/- A table's holds, Compatible; konst.Number of NIL, and of a string of one letter; Assignable of them: walked. Conditions: the table is there; what Alike answers is known where it is asked. -/
import Derived.Test.YtcpgkeceefoljaaTyT
namespace Go.Proofs.Ytcpgkeceefoljaa
open Go.RowKit
set_option linter.unusedVariables false
set_option linter.unusedSimpArgs false

/-- Is the one of constants, or NIL, and the other such as has them? -/
def holdsK (ka kb kk : Int) : Bool := if ka = 5 then kk == 1 || kk == 2 else if ka = 7 then kb == 14 || kb == 15 || kb == 16 else false
def holdsB (tys : List Ty) (a b : Int) : Bool := holdsK (tyOf tys a).kind (tyOf tys b).kind (kindOf tys b)
def compB (tys : List Ty) (al : Bool) (a b : Int) : Bool :=
  if (tyOf tys a).kind = 0 ∨ (tyOf tys b).kind = 0 then false else baseOf tys a == baseOf tys b || (holdsB tys a b || (holdsB tys b a || ((tyOf tys a).kind == 16 && al)))
/-- A type's kind, behind of. -/
theorem fld_kind (ty : Ty) (A1 A2 A3 A4 : Option Addr) (c1 c2 c3 c4 : Nat) (w : World) : (Instr.field 31 (.agg #[.int .u8 ty.kind, .string ty.module, .string ty.name, .int .i64 ty.base, .int .i64 ty.index, .int .i64 ty.low, .int .i64 ty.high, .slice A1 ty.names.length c1, .slice A2 ty.fields.length c2, .slice A3 ty.arms.length c3, .slice A4 ty.params.length c4, .int .i64 ty.result]) 0).run Try.prog w = .ok (.int .u8 ty.kind) w := by kernel_rfl
theorem fld_index (ty : Ty) (A1 A2 A3 A4 : Option Addr) (c1 c2 c3 c4 : Nat) (w : World) : (Instr.field 31 (.agg #[.int .u8 ty.kind, .string ty.module, .string ty.name, .int .i64 ty.base, .int .i64 ty.index, .int .i64 ty.low, .int .i64 ty.high, .slice A1 ty.names.length c1, .slice A2 ty.fields.length c2, .slice A3 ty.arms.length c3, .slice A4 ty.params.length c4, .int .i64 ty.result]) 4).run Try.prog w = .ok (.int .i64 ty.index) w := by kernel_rfl
/-- What is known of 'of' for the walk: its kind. -/
def OfK (w : World) (ty : Ty) (e : Ending) (w' : World) : Prop := ∃ (A1 : Option Addr) (c1 : Nat) (A2 : Option Addr) (c2 : Nat) (A3 : Option Addr) (c3 : Nat) (A4 : Option Addr) (c4 : Nat), e = .returned (.agg #[.int .u8 ty.kind, .string ty.module, .string ty.name, .int .i64 ty.base, .int .i64 ty.index, .int .i64 ty.low, .int .i64 ty.high, .slice A1 ty.names.length c1, .slice A2 ty.fields.length c2, .slice A3 ty.arms.length c3, .slice A4 ty.params.length c4, .int .i64 ty.result]) ∧ Wr [] w w'
section
variable (w : World) (t : Nat) (v : Value) (L : List Nat) (base : Nat) (tys : List Ty) (h : Tab 71 w t v L base tys)
include h
theorem of_k (i : Int) : Calls Try.prog 30 #[.pointer (some ⟨t, 0, none⟩), .int .i64 i] w (OfK w (tyOf tys i)) := by
  refine (of_any w t v L base tys h i).mono ?_
  rintro e w1 ⟨vn, vf, va, vp, rfl, r1, hl⟩
  obtain ⟨⟨A1, c1, rfl⟩, ⟨A2, c2, rfl⟩, ⟨A3, c3, rfl⟩, ⟨A4, c4, rfl⟩⟩ := hl.forms
  exact ⟨A1, c1, A2, c2, A3, c3, A4, c4, rfl, r1⟩

set_option maxHeartbeats 4000000 in
theorem holds_any (a b : Int) : Calls Try.prog 33 #[.pointer (some ⟨t, 0, none⟩), .int .i64 a, .int .i64 b] w fun e w' => e = .returned (.bool (holdsB tys a b)) ∧ Wr [] w w' := by
  have hk := kind_any w t v L base tys h b
  have ha := fun W (r : Wr [] w W) => of_k W t v L base tys (h.wr0 r) a
  have hb := fun W (r : Wr [] w W) => of_k W t v L base tys (h.wr0 r) b
  unfold holdsB
  generalize kindOf tys b = kk at *
  generalize tyOf tys a = tya at *
  generalize tyOf tys b = tyb at *
  clear h
  by_cases k5 : tya.kind = 5
  · have kb : (tya.kind == 5) = true := by simp [k5]
    have hv : holdsK tya.kind tyb.kind kk = (kk == 1 || kk == 2) := by simp [holdsK, k5]
    rw [hv]
    clear hv hb k5
    by_cases q1 : kk = 1
    · subst q1
      go_enter Try.func33, Try.ntmps33
      go_wp2_with fail
      refine hk.mono ?_
      clear hk
      rintro e w1 ⟨rfl, r1⟩
      go_wp2_with fail
      refine (ha _ r1).mono ?_
      clear ha
      rintro e w2 ⟨A1, c1, A2, c2, A3, c3, A4, c4, rfl, r2⟩
      have f2 := fld_kind tya A1 A2 A3 A4 c1 c2 c3 c4
      have R2 := Lib.hid (r1.trans r2)
      clear r1 r2
      go_wp2_with fail
      go_ret
      exact ⟨rfl, R2.out⟩
    by_cases q2 : kk = 2
    · subst q2
      go_enter Try.func33, Try.ntmps33
      go_wp2_with fail
      refine hk.mono ?_
      clear hk
      rintro e w1 ⟨rfl, r1⟩
      go_wp2_with fail
      refine (ha _ r1).mono ?_
      clear ha
      rintro e w2 ⟨A1, c1, A2, c2, A3, c3, A4, c4, rfl, r2⟩
      have f2 := fld_kind tya A1 A2 A3 A4 c1 c2 c3 c4
      have R2 := Lib.hid (r1.trans r2)
      clear r1 r2
      go_wp2_with fail
      go_ret
      exact ⟨rfl, R2.out⟩
    have e1 : (kk == 1) = false := by simp [q1]
    have e2 : (kk == 2) = false := by simp [q2]
    rw [e1, e2]
    clear q1 q2
    go_enter Try.func33, Try.ntmps33
    go_wp2_with fail
    refine hk.mono ?_
    clear hk
    rintro e w1 ⟨rfl, r1⟩
    go_wp2_with fail
    refine (ha _ r1).mono ?_
    clear ha
    rintro e w2 ⟨A1, c1, A2, c2, A3, c3, A4, c4, rfl, r2⟩
    have f2 := fld_kind tya A1 A2 A3 A4 c1 c2 c3 c4
    have R2 := Lib.hid (r1.trans r2)
    clear r1 r2
    go_wp2_with fail
    go_ret
    exact ⟨rfl, R2.out⟩
  have n5 : (tya.kind == 5) = false := by simp [k5]
  by_cases k7 : tya.kind = 7
  · have kb : (tya.kind == 7) = true := by simp [k7]
    have hv : holdsK tya.kind tyb.kind kk = (tyb.kind == 14 || tyb.kind == 15 || tyb.kind == 16) := by simp [holdsK, k7]
    rw [hv]
    clear hv k5 k7
    by_cases q14 : tyb.kind = 14
    · have e14 : (tyb.kind == 14) = true := by simp [q14]
      rw [e14]
      clear q14
      go_enter Try.func33, Try.ntmps33
      go_wp2_with fail
      refine hk.mono ?_
      clear hk
      rintro e w1 ⟨rfl, r1⟩
      go_wp2_with fail
      refine (ha _ r1).mono ?_
      clear ha
      rintro e w2 ⟨A1, c1, A2, c2, A3, c3, A4, c4, rfl, r2⟩
      have f2 := fld_kind tya A1 A2 A3 A4 c1 c2 c3 c4
      have R2 := Lib.hid (r1.trans r2)
      clear r1 r2
      go_wp2_with fail
      refine (hb _ R2.out).mono ?_
      clear hb
      rintro e w3 ⟨B1, d1, B2, d2, B3, d3, B4, d4, rfl, r3⟩
      have f3 := fld_kind tyb B1 B2 B3 B4 d1 d2 d3 d4
      have R3 := Lib.hid (R2.out.trans r3)
      clear r3
      go_wp2_with fail
      go_ret
      exact ⟨by simp, R3.out⟩
    by_cases q15 : tyb.kind = 15
    · have e15 : (tyb.kind == 15) = true := by simp [q15]
      have e14 : (tyb.kind == 14) = false := by simp [q15]
      rw [e14, e15]
      clear q14 q15
      go_enter Try.func33, Try.ntmps33
      go_wp2_with fail
      refine hk.mono ?_
      clear hk
      rintro e w1 ⟨rfl, r1⟩
      go_wp2_with fail
      refine (ha _ r1).mono ?_
      clear ha
      rintro e w2 ⟨A1, c1, A2, c2, A3, c3, A4, c4, rfl, r2⟩
      have f2 := fld_kind tya A1 A2 A3 A4 c1 c2 c3 c4
      have R2 := Lib.hid (r1.trans r2)
      clear r1 r2
      go_wp2_with fail
      refine (hb _ R2.out).mono ?_
      clear hb
      rintro e w3 ⟨B1, d1, B2, d2, B3, d3, B4, d4, rfl, r3⟩
      have f3 := fld_kind tyb B1 B2 B3 B4 d1 d2 d3 d4
      have R3 := Lib.hid (R2.out.trans r3)
      clear r3
      go_wp2_with fail
      go_ret
      exact ⟨by simp, R3.out⟩
    by_cases q16 : tyb.kind = 16
    · have e16 : (tyb.kind == 16) = true := by simp [q16]
      have e14 : (tyb.kind == 14) = false := by simp [q16]
      have e15 : (tyb.kind == 15) = false := by simp [q16]
      rw [e14, e15, e16]
      clear q14 q15 q16
      go_enter Try.func33, Try.ntmps33
      go_wp2_with fail
      refine hk.mono ?_
      clear hk
      rintro e w1 ⟨rfl, r1⟩
      go_wp2_with fail
      refine (ha _ r1).mono ?_
      clear ha
      rintro e w2 ⟨A1, c1, A2, c2, A3, c3, A4, c4, rfl, r2⟩
      have f2 := fld_kind tya A1 A2 A3 A4 c1 c2 c3 c4
      have R2 := Lib.hid (r1.trans r2)
      clear r1 r2
      go_wp2_with fail
      refine (hb _ R2.out).mono ?_
      clear hb
      rintro e w3 ⟨B1, d1, B2, d2, B3, d3, B4, d4, rfl, r3⟩
      have f3 := fld_kind tyb B1 B2 B3 B4 d1 d2 d3 d4
      have R3 := Lib.hid (R2.out.trans r3)
      clear r3
      go_wp2_with fail
      go_ret
      exact ⟨by simp, R3.out⟩
    have e14 : (tyb.kind == 14) = false := by simp [q14]
    have e15 : (tyb.kind == 15) = false := by simp [q15]
    have e16 : (tyb.kind == 16) = false := by simp [q16]
    rw [e14, e15, e16]
    clear q14 q15 q16
    go_enter Try.func33, Try.ntmps33
    go_wp2_with fail
    refine hk.mono ?_
    clear hk
    rintro e w1 ⟨rfl, r1⟩
    go_wp2_with fail
    refine (ha _ r1).mono ?_
    clear ha
    rintro e w2 ⟨A1, c1, A2, c2, A3, c3, A4, c4, rfl, r2⟩
    have f2 := fld_kind tya A1 A2 A3 A4 c1 c2 c3 c4
    have R2 := Lib.hid (r1.trans r2)
    clear r1 r2
    go_wp2_with fail
    refine (hb _ R2.out).mono ?_
    clear hb
    rintro e w3 ⟨B1, d1, B2, d2, B3, d3, B4, d4, rfl, r3⟩
    have f3 := fld_kind tyb B1 B2 B3 B4 d1 d2 d3 d4
    have R3 := Lib.hid (R2.out.trans r3)
    clear r3
    go_wp2_with fail
    go_ret
    exact ⟨rfl, R3.out⟩
  have n7 : (tya.kind == 7) = false := by simp [k7]
  have hv : holdsK tya.kind tyb.kind kk = false := by simp [holdsK, k5, k7]
  rw [hv]
  clear hv k5 k7
  go_enter Try.func33, Try.ntmps33
  go_wp2_with fail
  refine hk.mono ?_
  clear hk
  rintro e w1 ⟨rfl, r1⟩
  go_wp2_with fail
  refine (ha _ r1).mono ?_
  clear ha
  rintro e w2 ⟨A1, c1, A2, c2, A3, c3, A4, c4, rfl, r2⟩
  have f2 := fld_kind tya A1 A2 A3 A4 c1 c2 c3 c4
  have R2 := Lib.hid (r1.trans r2)
  clear r1 r2
  go_wp2_with fail
  go_ret
  exact ⟨rfl, R2.out⟩

set_option maxRecDepth 100000 in
set_option maxHeartbeats 8000000 in
theorem compat_any (al : Bool) (a b : Int) (hal : (tyOf tys a).kind = 16 → ∀ W, Wr [] w W → Calls Try.prog 9 #[.pointer (some ⟨t, 0, none⟩), .int .i64 a, .int .i64 b] W fun e w' => e = .returned (.bool al) ∧ Wr [] W w') :
    Calls Try.prog 10 #[.pointer (some ⟨t, 0, none⟩), .int .i64 a, .int .i64 b] w fun e w' => e = .returned (.bool (compB tys al a b)) ∧ Wr [] w w' := by
  have ha := fun W (r : Wr [] w W) => of_k W t v L base tys (h.wr0 r) a
  have hb := fun W (r : Wr [] w W) => of_k W t v L base tys (h.wr0 r) b
  have ba := fun W (r : Wr [] w W) => base_any W t v L base tys (h.wr0 r) a
  have bb := fun W (r : Wr [] w W) => base_any W t v L base tys (h.wr0 r) b
  have hab := fun W (r : Wr [] w W) => holds_any W t v L base tys (h.wr0 r) a b
  have hba := fun W (r : Wr [] w W) => holds_any W t v L base tys (h.wr0 r) b a
  unfold compB
  generalize holdsB tys a b = p at *
  generalize holdsB tys b a = q at *
  generalize baseOf tys a = x at *
  generalize baseOf tys b = y at *
  generalize tyOf tys a = tya at *
  generalize tyOf tys b = tyb at *
  clear h
  have HAL := Lib.hid hal
  clear hal
  by_cases ka : tya.kind = 0
  · rw [if_pos (.inl ka)]
    have kb : (tya.kind == 0) = true := by simp [ka]
    clear ka hb ba bb hab hba
    go_enter Try.func10, Try.ntmps10
    go_wp2_with fail
    refine (ha _ (Wr.refl [] w)).mono ?_
    rintro e w1 ⟨A1, c1, A2, c2, A3, c3, A4, c4, rfl, r1⟩
    have f1 := fld_kind tya A1 A2 A3 A4 c1 c2 c3 c4
    go_wp2_with fail
    go_ret
    exact ⟨rfl, r1⟩
  have na : (tya.kind == 0) = false := by simp [ka]
  by_cases kb : tyb.kind = 0
  · rw [if_pos (.inr kb)]
    have kb2 : (tyb.kind == 0) = true := by simp [kb]
    clear ka kb ba bb hab hba
    go_enter Try.func10, Try.ntmps10
    go_wp2_with fail
    refine (ha _ (Wr.refl [] w)).mono ?_
    rintro e w1 ⟨A1, c1, A2, c2, A3, c3, A4, c4, rfl, r1⟩
    have f1 := fld_kind tya A1 A2 A3 A4 c1 c2 c3 c4
    go_wp2_with fail
    refine (hb _ r1).mono ?_
    clear hb
    rintro e w2 ⟨B1, d1, B2, d2, B3, d3, B4, d4, rfl, r2⟩
    have f2 := fld_kind tyb B1 B2 B3 B4 d1 d2 d3 d4
    replace r2 := r1.trans r2
    go_wp2_with fail
    go_ret
    exact ⟨rfl, r2⟩
  have nb : (tyb.kind == 0) = false := by simp [kb]
  rw [if_neg (by simp [ka, kb])]
  clear ka kb
  by_cases hxy : x = y
  · subst hxy
    rw [beq_self_eq_true, Bool.true_or]
    clear hab hba
    go_enter Try.func10, Try.ntmps10
    go_wp2_with fail
    refine (ha _ (Wr.refl [] w)).mono ?_
    rintro e w1 ⟨A1, c1, A2, c2, A3, c3, A4, c4, rfl, r1⟩
    have f1 := fld_kind tya A1 A2 A3 A4 c1 c2 c3 c4
    go_wp2_with fail
    refine (hb _ r1).mono ?_
    clear hb
    rintro e w2 ⟨B1, d1, B2, d2, B3, d3, B4, d4, rfl, r2⟩
    have f2 := fld_kind tyb B1 B2 B3 B4 d1 d2 d3 d4
    replace r2 := r1.trans r2
    go_wp2_with fail
    refine (ba _ r2).mono ?_
    clear ba
    rintro e w3 ⟨rfl, r3⟩
    replace r3 := r2.trans r3
    go_wp2_with fail
    refine (bb _ r3).mono ?_
    clear bb
    rintro e w4 ⟨rfl, r4⟩
    replace r4 := r3.trans r4
    go_wp2_with fail
    go_ret
    exact ⟨rfl, r4⟩
  have nxy : (x == y) = false := by simp [hxy]
  rw [nxy, Bool.false_or]
  clear hxy
  cases p with
  | true =>
    rw [Bool.true_or]
    clear hba
    go_enter Try.func10, Try.ntmps10
    go_wp2_with fail
    refine (ha _ (Wr.refl [] w)).mono ?_
    rintro e w1 ⟨A1, c1, A2, c2, A3, c3, A4, c4, rfl, r1⟩
    have f1 := fld_kind tya A1 A2 A3 A4 c1 c2 c3 c4
    go_wp2_with fail
    refine (hb _ r1).mono ?_
    clear hb
    rintro e w2 ⟨B1, d1, B2, d2, B3, d3, B4, d4, rfl, r2⟩
    have f2 := fld_kind tyb B1 B2 B3 B4 d1 d2 d3 d4
    replace r2 := r1.trans r2
    go_wp2_with fail
    refine (ba _ r2).mono ?_
    clear ba
    rintro e w3 ⟨rfl, r3⟩
    replace r3 := r2.trans r3
    go_wp2_with fail
    refine (bb _ r3).mono ?_
    clear bb
    rintro e w4 ⟨rfl, r4⟩
    replace r4 := r3.trans r4
    go_wp2_with fail
    refine (hab _ r4).mono ?_
    clear hab
    rintro e w5 ⟨rfl, r5⟩
    replace r5 := r4.trans r5
    go_wp2_with fail
    go_ret
    exact ⟨rfl, r5⟩
  | false =>
  rw [Bool.false_or]
  cases q with
  | true =>
    rw [Bool.true_or]
    go_enter Try.func10, Try.ntmps10
    go_wp2_with fail
    refine (ha _ (Wr.refl [] w)).mono ?_
    rintro e w1 ⟨A1, c1, A2, c2, A3, c3, A4, c4, rfl, r1⟩
    have f1 := fld_kind tya A1 A2 A3 A4 c1 c2 c3 c4
    go_wp2_with fail
    refine (hb _ r1).mono ?_
    clear hb
    rintro e w2 ⟨B1, d1, B2, d2, B3, d3, B4, d4, rfl, r2⟩
    have f2 := fld_kind tyb B1 B2 B3 B4 d1 d2 d3 d4
    replace r2 := r1.trans r2
    go_wp2_with fail
    refine (ba _ r2).mono ?_
    clear ba
    rintro e w3 ⟨rfl, r3⟩
    replace r3 := r2.trans r3
    go_wp2_with fail
    refine (bb _ r3).mono ?_
    clear bb
    rintro e w4 ⟨rfl, r4⟩
    replace r4 := r3.trans r4
    go_wp2_with fail
    refine (hab _ r4).mono ?_
    clear hab
    rintro e w5 ⟨rfl, r5⟩
    replace r5 := r4.trans r5
    go_wp2_with fail
    refine (hba _ r5).mono ?_
    clear hba
    rintro e w6 ⟨rfl, r6⟩
    replace r6 := r5.trans r6
    go_wp2_with fail
    go_ret
    exact ⟨rfl, r6⟩
  | false =>
  rw [Bool.false_or]
  by_cases k16 : tya.kind = 16
  · have kb : (tya.kind == 16) = true := by simp [k16]
    have K16 := Lib.hid k16
    clear k16
    rw [kb, Bool.true_and]
    go_enter Try.func10, Try.ntmps10
    go_wp2_with fail
    refine (ha _ (Wr.refl [] w)).mono ?_
    rintro e w1 ⟨A1, c1, A2, c2, A3, c3, A4, c4, rfl, r1⟩
    have f1 := fld_kind tya A1 A2 A3 A4 c1 c2 c3 c4
    go_wp2_with fail
    refine (hb _ r1).mono ?_
    clear hb
    rintro e w2 ⟨B1, d1, B2, d2, B3, d3, B4, d4, rfl, r2⟩
    have f2 := fld_kind tyb B1 B2 B3 B4 d1 d2 d3 d4
    replace r2 := r1.trans r2
    go_wp2_with fail
    refine (ba _ r2).mono ?_
    clear ba
    rintro e w3 ⟨rfl, r3⟩
    replace r3 := r2.trans r3
    go_wp2_with fail
    refine (bb _ r3).mono ?_
    clear bb
    rintro e w4 ⟨rfl, r4⟩
    replace r4 := r3.trans r4
    go_wp2_with fail
    refine (hab _ r4).mono ?_
    clear hab
    rintro e w5 ⟨rfl, r5⟩
    replace r5 := r4.trans r5
    go_wp2_with fail
    refine (hba _ r5).mono ?_
    clear hba
    rintro e w6 ⟨rfl, r6⟩
    replace r6 := r5.trans r6
    go_wp2_with fail
    refine (ha _ r6).mono ?_
    clear ha
    rintro e w7 ⟨E1, g1, E2, g2, E3, g3, E4, g4, rfl, r7⟩
    have f7 := fld_kind tya E1 E2 E3 E4 g1 g2 g3 g4
    replace r7 := r6.trans r7
    go_wp2_with fail
    refine (HAL.out K16.out _ r7).mono ?_
    rintro e w8 ⟨rfl, r8⟩
    replace r8 := r7.trans r8
    go_wp2_with fail
    go_ret
    exact ⟨rfl, r8⟩
  have k6 : (tya.kind == 16) = false := by simp [k16]
  rw [k6, Bool.false_and]
  clear k16
  go_enter Try.func10, Try.ntmps10
  go_wp2_with fail
  refine (ha _ (Wr.refl [] w)).mono ?_
  rintro e w1 ⟨A1, c1, A2, c2, A3, c3, A4, c4, rfl, r1⟩
  have f1 := fld_kind tya A1 A2 A3 A4 c1 c2 c3 c4
  go_wp2_with fail
  refine (hb _ r1).mono ?_
  clear hb
  rintro e w2 ⟨B1, d1, B2, d2, B3, d3, B4, d4, rfl, r2⟩
  have f2 := fld_kind tyb B1 B2 B3 B4 d1 d2 d3 d4
  replace r2 := r1.trans r2
  go_wp2_with fail
  refine (ba _ r2).mono ?_
  clear ba
  rintro e w3 ⟨rfl, r3⟩
  replace r3 := r2.trans r3
  go_wp2_with fail
  refine (bb _ r3).mono ?_
  clear bb
  rintro e w4 ⟨rfl, r4⟩
  replace r4 := r3.trans r4
  go_wp2_with fail
  refine (hab _ r4).mono ?_
  clear hab
  rintro e w5 ⟨rfl, r5⟩
  replace r5 := r4.trans r5
  go_wp2_with fail
  refine (hba _ r5).mono ?_
  clear hba
  rintro e w6 ⟨rfl, r6⟩
  replace r6 := r5.trans r6
  go_wp2_with fail
  refine (ha _ r6).mono ?_
  clear ha
  rintro e w7 ⟨E1, g1, E2, g2, E3, g3, E4, g4, rfl, r7⟩
  have f7 := fld_kind tya E1 E2 E3 E4 g1 g2 g3 g4
  replace r7 := r6.trans r7
  go_wp2_with fail
  go_ret
  exact ⟨rfl, r7⟩
end
end Go.Proofs.Ytcpgkeceefoljaa

