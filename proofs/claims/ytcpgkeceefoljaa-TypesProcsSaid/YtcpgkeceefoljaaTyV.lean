/- konst.Number of NIL, and of a string of one letter; Assignable of them; law 11's works: walked. Conditions: the table is there; what Alike answers is known where it is asked. -/
import Derived.Test.YtcpgkeceefoljaaTyU
namespace Go.Proofs.Ytcpgkeceefoljaa
open Go.RowKit
set_option linter.unusedVariables false
set_option linter.unusedSimpArgs false

theorem as_self {T xT : TypeId} {u : TypeDesc} (hu : Try.prog.underlying T = some u) (hi : (match u with | .interface _ => true | _ => false) = false) (v : Value) (w : World) :
    (Instr.typeAssert (.iface T v) xT T true).run Try.prog w = .ok (.tuple #[v, .bool true]) w := by
  cases u <;> first | (cases hi; done) | simp [Instr.typeAssert, run_underlying hu]
theorem as_other {T xT t : TypeId} {u : TypeDesc} {z : Value} (hu : Try.prog.underlying T = some u) (hi : (match u with | .interface _ => true | _ => false) = false) (hz : ∀ w, (zeroValue T).run Try.prog w = .ok z w) (ht : t ≠ T) (v : Value) (w : World) :
    (Instr.typeAssert (.iface t v) xT T true).run Try.prog w = .ok (.tuple #[z, .bool false]) w := by
  cases u <;> first | (cases hi; done) | simp [Instr.typeAssert, run_underlying hu, ht, hz]
theorem as_nil {T xT : TypeId} {u : TypeDesc} {z : Value} (hu : Try.prog.underlying T = some u) (hi : (match u with | .interface _ => true | _ => false) = false) (hz : ∀ w, (zeroValue T).run Try.prog w = .ok z w) (w : World) :
    (Instr.typeAssert .nilIface xT T true).run Try.prog w = .ok (.tuple #[z, .bool false]) w := by
  cases u <;> first | (cases hi; done) | simp [Instr.typeAssert, run_underlying hu, hz]
theorem mkIface {T : TypeId} (h : Try.prog.concrete T = true) (v : Value) (w : World) : (Instr.makeInterface T v).run Try.prog w = .ok (.iface T v) w := run_makeInterface w T v h

set_option maxRecDepth 100000 in
set_option maxHeartbeats 2000000 in
theorem number_nil (w : World) : Calls Try.prog 34 #[.nilIface] w fun e w' => e = .returned (.tuple #[.int .i64 0, .bool false]) ∧ Wr [] w w' := by
  have a0 := fun (w : World) => as_nil (xT := 20) Try.underlying94 rfl Try.zeroValue94 w
  have a1 := fun (w : World) => as_nil (xT := 20) Try.underlying97 rfl Try.zeroValue97 w
  have a2 := fun (w : World) => as_nil (xT := 20) Try.underlying99 rfl Try.zeroValue99 w
  have a3 := fun (w : World) => as_nil (xT := 20) Try.underlying103 rfl Try.zeroValue103 w
  have a4 := fun (w : World) => as_nil (xT := 20) Try.underlying69 rfl Try.zeroValue69 w
  go_enter Try.func34, Try.ntmps34
  go_wp2_with fail
  go_ret2
  exact ⟨rfl, (Wr.refl _ _).alloc _⟩
def txA : Value := .iface 69 (.string ⟨#[97]⟩)
set_option maxRecDepth 100000 in
set_option maxHeartbeats 2000000 in
theorem number_a (w : World) : Calls Try.prog 34 #[txA] w fun e w' => e = .returned (.tuple #[.int .i64 97, .bool true]) ∧ Wr [] w w' := by
  unfold txA
  have a0 := fun (w : World) => as_other (xT := 20) (t := 69) Try.underlying94 rfl Try.zeroValue94 (by decide) (.string ⟨#[97]⟩) w
  have a1 := fun (w : World) => as_other (xT := 20) (t := 69) Try.underlying97 rfl Try.zeroValue97 (by decide) (.string ⟨#[97]⟩) w
  have a2 := fun (w : World) => as_other (xT := 20) (t := 69) Try.underlying99 rfl Try.zeroValue99 (by decide) (.string ⟨#[97]⟩) w
  have a3 := fun (w : World) => as_other (xT := 20) (t := 69) Try.underlying103 rfl Try.zeroValue103 (by decide) (.string ⟨#[97]⟩) w
  have a4 := fun (w : World) => as_self (xT := 20) Try.underlying69 rfl (.string ⟨#[97]⟩) w
  go_enter Try.func34, Try.ntmps34
  go_wp2_with fail
  go_ret2
  exact ⟨by kernel_rfl, (Wr.refl _ _).alloc _⟩
section
variable (w : World) (t : Nat) (v : Value) (L : List Nat) (base : Nat) (tys : List Ty) (h : Tab 71 w t v L base tys)
include h
set_option maxRecDepth 100000 in
set_option maxHeartbeats 8000000 in
theorem assign_proc (al : Bool) (a b : Int) (h16 : (tyOf tys a).kind = 16) (hal : ∀ W, Wr [] w W → Calls Try.prog 9 #[.pointer (some ⟨t, 0, none⟩), .int .i64 a, .int .i64 b] W fun e w' => e = .returned (.bool al) ∧ Wr [] W w') :
    Calls Try.prog 11 #[.pointer (some ⟨t, 0, none⟩), .int .i64 a, .int .i64 b, .nilIface] w fun e w' => e = .returned (.bool (compB tys al a b)) ∧ Wr [] w w' := by
  have hb9 : baseOf tys a = a := by rw [baseOf, h16]; rfl
  have hkd : kindOf tys a = 16 := by rw [kindOf, hb9]; exact h16
  have hnum : numB tys a = false := by rw [numB, hkd]; rfl
  have hoa := fun W (r : Wr [] w W) => of_k W t v L base tys (h.wr0 r) a
  have hob := fun W (r : Wr [] w W) => of_k W t v L base tys (h.wr0 r) b
  have hcm := fun W (r : Wr [] w W) => compat_any W t v L base tys (h.wr0 r) al a b (fun _ W' r' => (hal W' (r.trans r')))
  have hnm := fun W (r : Wr [] w W) => number_any W t v L base tys (h.wr0 r) a
  have hrg := fun W (r : Wr [] w W) => range_any W t v L base tys (h.wr0 r) a
  rw [hnum] at hnm
  generalize compB tys al a b = c at *
  generalize loB tys a = lo at *
  generalize hiB tys a = hi at *
  generalize ordB tys a = od at *
  generalize tyOf tys a = ty at *
  generalize tyOf tys b = tyb at *
  have as5 := fun (w : World) => as_nil (xT := 20) Try.underlying69 rfl Try.zeroValue69 w
  have HAL := Lib.hid hal
  have H16 := Lib.hid h16
  clear h hal hb9 hkd hnum h16
  go_enter Try.func11, Try.ntmps11
  go_wp2_with fail
  refine (hoa _ (Wr.refl [] w)).mono ?_
  clear hoa
  rintro e w1 ⟨A1, c1, A2, c2, A3, c3, A4, c4, rfl, r1⟩
  have b1 := Blk.new w1 31 #[.int .u8 ty.kind, .string ty.module, .string ty.name, .int .i64 ty.base, .int .i64 ty.index, .int .i64 ty.low, .int .i64 ty.high, .slice A1 ty.names.length c1, .slice A2 ty.fields.length c2, .slice A3 ty.arms.length c3, .slice A4 ty.params.length c4, .int .i64 ty.result]
  rw [H16.out] at b1
  have R1 := Lib.hid (r1.alloc (.cells #[.int .u8 ty.kind, .string ty.module, .string ty.name, .int .i64 ty.base, .int .i64 ty.index, .int .i64 ty.low, .int .i64 ty.high, .slice A1 ty.names.length c1, .slice A2 ty.fields.length c2, .slice A3 ty.arms.length c3, .slice A4 ty.params.length c4, .int .i64 ty.result] 31))
  rw [H16.out] at R1
  simp only [H16.out]
  go_wp2_with fail
  refine (number_nil _).mono ?_
  rintro e w2 ⟨rfl, r2⟩
  have b2 := b1.wr0 r2
  have R2 := Lib.hid (R1.out.trans r2)
  generalize w1.heap.size = g at *
  clear r2 b1 R1 r1
  go_wp2_with fail
  refine (hob _ R2.out).mono ?_
  clear hob
  rintro e w3 ⟨B1, d1, B2, d2, B3, d3, B4, d4, rfl, r3⟩
  have f3 := fld_kind tyb B1 B2 B3 B4 d1 d2 d3 d4
  have b3 := b2.wr0 r3
  have R3 := Lib.hid (R2.out.trans r3)
  clear r3 b2 R2
  go_wp2_with fail
  refine (hcm _ R3.out).mono ?_
  clear hcm
  rintro e w4 ⟨rfl, r4⟩
  have b4 := b3.wr0 r4
  have R4 := Lib.hid (R3.out.trans r4)
  clear r4 b3 R3
  have HB4 := Lib.hid b4
  clear b4
  cases c with
  | true =>
    go_wp2_with fail
    refine (hrg _ R4.out).mono ?_
    clear hrg
    rintro e w6 ⟨rfl, r6⟩
    have b6 := HB4.out.wr0 r6
    have x0 := b6.cell 0
    simp only [List.getElem?_toArray, List.getElem?_cons_zero] at x0
    have R6 := Lib.hid (Wr.trans R4.out r6)
    clear r6 b6
    cases hk : (tyb.kind == 6) with
    | true =>
      go_wp2_with fail
      go_ret
      exact ⟨rfl, R6.out⟩
    | false =>
      go_wp2_with fail
      go_ret
      exact ⟨rfl, R6.out⟩
  | false =>
    go_wp2_with fail
    refine (hnm _ R4.out).mono ?_
    clear hnm
    rintro e w5 ⟨rfl, r5⟩
    have b5 := HB4.out.wr0 r5
    have HB5 := Lib.hid b5
    have R5 := Lib.hid (R4.out.trans r5)
    clear r5 b5
    go_wp2_with fail
    refine (hrg _ R5.out).mono ?_
    clear hrg
    rintro e w6 ⟨rfl, r6⟩
    have b6 := HB5.out.wr0 r6
    have x0 := b6.cell 0
    simp only [List.getElem?_toArray, List.getElem?_cons_zero] at x0
    have R6 := Lib.hid (Wr.trans R5.out r6)
    clear r6 b6
    cases hk : (tyb.kind == 6) with
    | true =>
      go_wp2_with fail
      go_ret
      exact ⟨rfl, R6.out⟩
    | false =>
      go_wp2_with fail
      go_ret
      exact ⟨rfl, R6.out⟩

set_option maxRecDepth 100000 in
set_option maxHeartbeats 8000000 in
theorem assign_char (a b : Int) (ha : (tyOf tys a).kind = 4) (hb : (tyOf tys b).kind = 6) (hc : compB tys false a b = false) (hnum : numB tys a = false) (hlo : loB tys a = 0) (hhi : hiB tys a = 255) (hod : ordB tys a = true) (hkd : kindOf tys a = 4) :
    Calls Try.prog 11 #[.pointer (some ⟨t, 0, none⟩), .int .i64 a, .int .i64 b, txA] w fun e w' => e = .returned (.bool true) ∧ Wr [] w w' := by
  have hoa := fun W (r : Wr [] w W) => of_k W t v L base tys (h.wr0 r) a
  have hob := fun W (r : Wr [] w W) => of_k W t v L base tys (h.wr0 r) b
  have hcm := fun W (r : Wr [] w W) => compat_any W t v L base tys (h.wr0 r) false a b (fun e => absurd (ha.symm.trans e) (by decide))
  have hnm := fun W (r : Wr [] w W) => number_any W t v L base tys (h.wr0 r) a
  have hrg := fun W (r : Wr [] w W) => range_any W t v L base tys (h.wr0 r) a
  have hkn := fun W (r : Wr [] w W) => kind_any W t v L base tys (h.wr0 r) a
  rw [hnum] at hnm
  rw [hc] at hcm
  rw [hlo, hhi, hod] at hrg
  rw [hkd] at hkn
  generalize tyOf tys a = ty at *
  generalize tyOf tys b = tyb at *
  have as5 := fun (w : World) => as_self (xT := 20) Try.underlying69 rfl (.string ⟨#[97]⟩) w
  have H16 := Lib.hid ha
  have HB := Lib.hid hb
  clear h ha hb hc hnum hlo hhi hod hkd
  have hna := number_a
  unfold txA at *
  go_enter Try.func11, Try.ntmps11
  go_wp2_with fail
  refine (hoa _ (Wr.refl [] w)).mono ?_
  clear hoa
  rintro e w1 ⟨A1, c1, A2, c2, A3, c3, A4, c4, rfl, r1⟩
  have b1 := Blk.new w1 31 #[.int .u8 ty.kind, .string ty.module, .string ty.name, .int .i64 ty.base, .int .i64 ty.index, .int .i64 ty.low, .int .i64 ty.high, .slice A1 ty.names.length c1, .slice A2 ty.fields.length c2, .slice A3 ty.arms.length c3, .slice A4 ty.params.length c4, .int .i64 ty.result]
  rw [H16.out] at b1
  have R1 := Lib.hid (r1.alloc (.cells #[.int .u8 ty.kind, .string ty.module, .string ty.name, .int .i64 ty.base, .int .i64 ty.index, .int .i64 ty.low, .int .i64 ty.high, .slice A1 ty.names.length c1, .slice A2 ty.fields.length c2, .slice A3 ty.arms.length c3, .slice A4 ty.params.length c4, .int .i64 ty.result] 31))
  rw [H16.out] at R1
  simp only [H16.out]
  go_wp2_with fail
  refine (hna _).mono ?_
  clear hna
  rintro e w2 ⟨rfl, r2⟩
  have b2 := b1.wr0 r2
  have R2 := Lib.hid (R1.out.trans r2)
  generalize w1.heap.size = g at *
  clear r2 b1 R1 r1
  go_wp2_with fail
  refine (hob _ R2.out).mono ?_
  clear hob
  rintro e w3 ⟨B1, d1, B2, d2, B3, d3, B4, d4, rfl, r3⟩
  have f3 := fld_kind tyb B1 B2 B3 B4 d1 d2 d3 d4
  simp only [HB.out] at f3 ⊢
  have b3 := b2.wr0 r3
  have R3 := Lib.hid (R2.out.trans r3)
  clear r3 b2 R2
  go_wp2_with fail
  refine (hcm _ R3.out).mono ?_
  clear hcm
  rintro e w4 ⟨rfl, r4⟩
  have b4 := b3.wr0 r4
  have R4 := Lib.hid (R3.out.trans r4)
  clear r4 b3 R3
  go_wp2_with fail
  refine (hnm _ R4.out).mono ?_
  clear hnm
  rintro e w5 ⟨rfl, r5⟩
  have b5 := b4.wr0 r5
  have R5 := Lib.hid (R4.out.trans r5)
  clear r5 b4 R4
  go_wp2_with fail
  refine (hrg _ R5.out).mono ?_
  clear hrg
  rintro e w6 ⟨rfl, r6⟩
  have b6 := b5.wr0 r6
  have x0 := b6.cell 0
  simp only [List.getElem?_toArray, List.getElem?_cons_zero] at x0
  have R6 := Lib.hid (R5.out.trans r6)
  clear r6 b6 b5 R5
  go_wp2_with fail
  refine (hkn _ R6.out).mono ?_
  clear hkn
  rintro e w7 ⟨rfl, r7⟩
  have R7 := Lib.hid (R6.out.trans r7)
  clear r7
  go_wp2_with fail
  go_ret
  exact ⟨rfl, R7.out⟩
end
end Go.Proofs.Ytcpgkeceefoljaa

