/- A table's Len, Number; the document's Base, kind, Number, Ordinal, Range: walked. No conditions but that the table is there. -/
import Derived.Test.YtcpgkeceefoljaaTyR
namespace Go.Proofs.Ytcpgkeceefoljaa
open Go.RowKit
set_option linter.unusedVariables false
set_option linter.unusedSimpArgs false

def numOf (k : Int) : Bool := k == 1 || k == 2 || k == 5
def numB (tys : List Ty) (i : Int) : Bool := numOf (kindOf tys i)
theorem ord_num (k : Int) : (rngIs k || k == 8) = (numOf k || k == 3 || k == 4 || k == 8) := by
  unfold rngIs rngOf numOf
  by_cases h1 : k = 1
  · subst h1; rfl
  by_cases h2 : k = 2
  · subst h2; rfl
  by_cases h3 : k = 3
  · subst h3; rfl
  by_cases h4 : k = 4
  · subst h4; rfl
  by_cases h5 : k = 5
  · subst h5; rfl
  simp [h1, h2, h3, h4, h5]
/-- The range of a kind, the document's. -/
def loR (ty : Ty) : Int := if rngIs ty.kind = true then rngLo ty.kind else ty.low
def hiR (ty : Ty) : Int := if rngIs ty.kind = true then rngHi ty.kind else ty.high
section
variable (w : World) (t : Nat) (v : Value) (L : List Nat) (base : Nat) (tys : List Ty) (h : Tab 71 w t v L base tys) (i : Int)
include h
theorem len_any : Calls Try.prog 13 #[.pointer (some ⟨t, 0, none⟩)] w fun e w' => e = .returned (.int .i64 tys.length) ∧ Wr [] w w' := by
  obtain ⟨A, c, rfl, h1, h2⟩ := h.len
  have c0 := h.blk.cell 0
  simp only [List.getElem?_toArray, List.getElem?_cons_zero] at c0
  unfold maxLen at h2
  clear h
  go_enter Try.func13, Try.ntmps13
  go_wp2_with fail
  go_ret
  exact ⟨rfl, Wr.refl _ _⟩
set_option maxHeartbeats 1000000 in
theorem number_any : Calls Try.prog 23 #[.pointer (some ⟨t, 0, none⟩), .int .i64 i] w fun e w' => e = .returned (.bool (numB tys i)) ∧ Wr [] w w' := by
  have hk := kind_any w t v L base tys h i
  unfold numB
  generalize kindOf tys i = k at *
  clear h
  by_cases h1 : k = 1
  · subst h1
    go_enter Try.func23, Try.ntmps23
    go_wp2_with fail
    refine hk.mono ?_
    clear hk
    rintro e w1 ⟨rfl, r1⟩
    have R1 := Lib.hid r1
    clear r1
    go_wp2_with fail
    go_ret
    exact ⟨rfl, R1.out⟩
  by_cases h2 : k = 2
  · subst h2
    go_enter Try.func23, Try.ntmps23
    go_wp2_with fail
    refine hk.mono ?_
    clear hk
    rintro e w1 ⟨rfl, r1⟩
    have R1 := Lib.hid r1
    clear r1
    go_wp2_with fail
    go_ret
    exact ⟨rfl, R1.out⟩
  by_cases h5 : k = 5
  · subst h5
    go_enter Try.func23, Try.ntmps23
    go_wp2_with fail
    refine hk.mono ?_
    clear hk
    rintro e w1 ⟨rfl, r1⟩
    have R1 := Lib.hid r1
    clear r1
    go_wp2_with fail
    go_ret
    exact ⟨rfl, R1.out⟩
  · have e1 : (k == 1) = false := by simp [h1]
    have e2 : (k == 2) = false := by simp [h2]
    have e5 : (k == 5) = false := by simp [h5]
    have en : numOf k = false := by simp [numOf, h1, h2, h5]
    rw [en]
    clear en h1 h2 h5
    go_enter Try.func23, Try.ntmps23
    go_wp2_with fail
    refine hk.mono ?_
    clear hk
    rintro e w1 ⟨rfl, r1⟩
    have R1 := Lib.hid r1
    clear r1
    go_wp2_with fail
    go_ret
    exact ⟨rfl, R1.out⟩
end
section
variable (w : World) (t : Nat) (v : Value) (L : List Nat) (base : Nat) (tys : List Ty) (h : Tab 47 w t v L base tys) (i : Int)
include h
set_option maxHeartbeats 1000000 in
theorem rbase_any : Calls Try.prog 21 #[.pointer (some ⟨t, 0, none⟩), .int .i64 i] w fun e w' => e = .returned (.int .i64 (baseOf tys i)) ∧ Wr [] w w' := by
  have hof := rget_any w t v L base tys h i
  unfold baseOf
  generalize tyOf tys i = ty at *
  clear h
  by_cases hk : ty.kind = 9
  · rw [if_pos hk]
    have HK := Lib.hid hk
    have hkb : (ty.kind == 9) = true := by simp [hk]
    clear hk
    go_enter Try.func21, Try.ntmps21
    go_wp2_with fail
    refine hof.mono ?_
    clear hof
    rintro e w1 ⟨vn, vf, va, vp, rfl, r1, hl⟩
    obtain ⟨⟨A1, c1, rfl⟩, ⟨A2, c2, rfl⟩, ⟨A3, c3, rfl⟩, ⟨A4, c4, rfl⟩⟩ := hl.forms
    have R1 := Lib.hid r1
    clear hl r1
    unfold Ty.val Ty.cells
    go_wp2_with fail
    go_ret
    exact ⟨rfl, R1.out.alloc _⟩
  · rw [if_neg hk]
    have hkb : (ty.kind == 9) = false := by simp [hk]
    clear hk
    go_enter Try.func21, Try.ntmps21
    go_wp2_with fail
    refine hof.mono ?_
    clear hof
    rintro e w1 ⟨vn, vf, va, vp, rfl, r1, hl⟩
    obtain ⟨⟨A1, c1, rfl⟩, ⟨A2, c2, rfl⟩, ⟨A3, c3, rfl⟩, ⟨A4, c4, rfl⟩⟩ := hl.forms
    have R1 := Lib.hid r1
    clear hl r1
    unfold Ty.val Ty.cells
    go_wp2_with fail
    go_ret
    exact ⟨rfl, R1.out.alloc _⟩
set_option maxHeartbeats 1000000 in
theorem rkind_any : Calls Try.prog 40 #[.pointer (some ⟨t, 0, none⟩), .int .i64 i] w fun e w' => e = .returned (.int .u8 (kindOf tys i)) ∧ Wr [] w w' := by
  have hof := fun W (r : Wr [] w W) => rget_any W t v L base tys (h.wr0 r) (baseOf tys i)
  have hbs := rbase_any w t v L base tys h i
  unfold kindOf
  generalize tyOf tys (baseOf tys i) = ty at *
  generalize baseOf tys i = j at *
  clear h
  go_enter Try.func40, Try.ntmps40
  go_wp2_with fail
  refine hbs.mono ?_
  clear hbs
  rintro e w1 ⟨rfl, r0⟩
  go_wp2_with fail
  refine (hof _ r0).mono ?_
  clear hof
  rintro e w2 ⟨vn, vf, va, vp, rfl, r1, hl⟩
  obtain ⟨⟨A1, c1, rfl⟩, ⟨A2, c2, rfl⟩, ⟨A3, c3, rfl⟩, ⟨A4, c4, rfl⟩⟩ := hl.forms
  have R1 := Lib.hid r1
  clear hl r1
  unfold Ty.val Ty.cells
  have hfd : ∀ (w : World), (Instr.field 31 (.agg #[.int .u8 ty.kind, .string ty.module, .string ty.name, .int .i64 ty.base, .int .i64 ty.index, .int .i64 ty.low, .int .i64 ty.high, .slice A1 ty.names.length c1, .slice A2 ty.fields.length c2, .slice A3 ty.arms.length c3, .slice A4 ty.params.length c4, .int .i64 ty.result]) 0).run Try.prog w = .ok (.int .u8 ty.kind) w := fun w => by kernel_rfl
  go_wp2_with fail
  go_ret
  exact ⟨rfl, r0.trans R1.out⟩
set_option maxHeartbeats 1000000 in
theorem rnumber_any : Calls Try.prog 24 #[.pointer (some ⟨t, 0, none⟩), .int .i64 i] w fun e w' => e = .returned (.bool (numB tys i)) ∧ Wr [] w w' := by
  have hk := rkind_any w t v L base tys h i
  unfold numB
  generalize kindOf tys i = k at *
  clear h
  by_cases h1 : k = 1
  · subst h1
    go_enter Try.func24, Try.ntmps24
    go_wp2_with fail
    refine hk.mono ?_
    clear hk
    rintro e w1 ⟨rfl, r1⟩
    have R1 := Lib.hid r1
    clear r1
    go_wp2_with fail
    go_ret
    exact ⟨rfl, R1.out⟩
  by_cases h2 : k = 2
  · subst h2
    go_enter Try.func24, Try.ntmps24
    go_wp2_with fail
    refine hk.mono ?_
    clear hk
    rintro e w1 ⟨rfl, r1⟩
    have R1 := Lib.hid r1
    clear r1
    go_wp2_with fail
    go_ret
    exact ⟨rfl, R1.out⟩
  by_cases h5 : k = 5
  · subst h5
    go_enter Try.func24, Try.ntmps24
    go_wp2_with fail
    refine hk.mono ?_
    clear hk
    rintro e w1 ⟨rfl, r1⟩
    have R1 := Lib.hid r1
    clear r1
    go_wp2_with fail
    go_ret
    exact ⟨rfl, R1.out⟩
  · have e1 : (k == 1) = false := by simp [h1]
    have e2 : (k == 2) = false := by simp [h2]
    have e5 : (k == 5) = false := by simp [h5]
    have en : numOf k = false := by simp [numOf, h1, h2, h5]
    rw [en]
    clear en h1 h2 h5
    go_enter Try.func24, Try.ntmps24
    go_wp2_with fail
    refine hk.mono ?_
    clear hk
    rintro e w1 ⟨rfl, r1⟩
    have R1 := Lib.hid r1
    clear r1
    go_wp2_with fail
    go_ret
    exact ⟨rfl, R1.out⟩
set_option maxHeartbeats 1000000 in
theorem rordinal_any : Calls Try.prog 15 #[.pointer (some ⟨t, 0, none⟩), .int .i64 i] w fun e w' => e = .returned (.bool (ordB tys i)) ∧ Wr [] w w' := by
  have hk := rkind_any w t v L base tys h i
  have hn := fun W (r : Wr [] w W) => rnumber_any W t v L base tys (h.wr0 r) i
  unfold numB at hn
  unfold ordB
  rw [ord_num]
  generalize kindOf tys i = k at *
  clear h
  cases hq : numOf k with
  | true =>
    rw [hq] at hn
    simp only [Bool.true_or]
    clear hq
    go_enter Try.func15, Try.ntmps15
    go_wp2_with fail
    refine hk.mono ?_
    clear hk
    rintro e w1 ⟨rfl, r1⟩
    go_wp2_with fail
    refine (hn _ r1).mono ?_
    clear hn
    rintro e w2 ⟨rfl, r2⟩
    have R2 := Lib.hid (r1.trans r2)
    clear r1 r2
    go_wp2_with fail
    go_ret
    exact ⟨rfl, R2.out⟩
  | false =>
    rw [hq] at hn
    simp only [Bool.false_or]
    clear hq
    by_cases h3 : k = 3
    · subst h3
      go_enter Try.func15, Try.ntmps15
      go_wp2_with fail
      refine hk.mono ?_
      clear hk
      rintro e w1 ⟨rfl, r1⟩
      go_wp2_with fail
      refine (hn _ r1).mono ?_
      clear hn
      rintro e w2 ⟨rfl, r2⟩
      have R2 := Lib.hid (r1.trans r2)
      clear r1 r2
      go_wp2_with fail
      go_ret
      exact ⟨rfl, R2.out⟩

    by_cases h4 : k = 4
    · subst h4
      go_enter Try.func15, Try.ntmps15
      go_wp2_with fail
      refine hk.mono ?_
      clear hk
      rintro e w1 ⟨rfl, r1⟩
      go_wp2_with fail
      refine (hn _ r1).mono ?_
      clear hn
      rintro e w2 ⟨rfl, r2⟩
      have R2 := Lib.hid (r1.trans r2)
      clear r1 r2
      go_wp2_with fail
      go_ret
      exact ⟨rfl, R2.out⟩

    by_cases h8 : k = 8
    · subst h8
      go_enter Try.func15, Try.ntmps15
      go_wp2_with fail
      refine hk.mono ?_
      clear hk
      rintro e w1 ⟨rfl, r1⟩
      go_wp2_with fail
      refine (hn _ r1).mono ?_
      clear hn
      rintro e w2 ⟨rfl, r2⟩
      have R2 := Lib.hid (r1.trans r2)
      clear r1 r2
      go_wp2_with fail
      go_ret
      exact ⟨rfl, R2.out⟩

    have e3 : (k == 3) = false := by simp [h3]
    have e4 : (k == 4) = false := by simp [h4]
    have e8 : (k == 8) = false := by simp [h8]
    rw [e3, e4, e8]
    clear h3 h4 h8
    go_enter Try.func15, Try.ntmps15
    go_wp2_with fail
    refine hk.mono ?_
    clear hk
    rintro e w1 ⟨rfl, r1⟩
    go_wp2_with fail
    refine (hn _ r1).mono ?_
    clear hn
    rintro e w2 ⟨rfl, r2⟩
    have R2 := Lib.hid (r1.trans r2)
    clear r1 r2
    go_wp2_with fail
    go_ret
    exact ⟨rfl, R2.out⟩
def RRangeP (w : World) (ty : Ty) (e : Ending) (w' : World) : Prop := e = .returned (.tuple #[.int .i64 (loR ty), .int .i64 (hiR ty)]) ∧ Wr [] w w'
set_option maxRecDepth 100000 in
set_option maxHeartbeats 2000000 in
theorem rrange_any : Calls Try.prog 16 #[.pointer (some ⟨t, 0, none⟩), .int .i64 i] w (RRangeP w (tyOf tys i)) := by
  have hof := rget_any w t v L base tys h i
  unfold RRangeP
  generalize tyOf tys i = ty at *
  clear h
  obtain ⟨k, md, nm, b, x, lo, hi, ns, fs, ams, ps, rs⟩ := ty
  by_cases h1 : k = 1
  · subst h1
    have eL : loR ⟨1, md, nm, b, x, lo, hi, ns, fs, ams, ps, rs⟩ = -32768 := rfl
    have eH : hiR ⟨1, md, nm, b, x, lo, hi, ns, fs, ams, ps, rs⟩ = 32767 := rfl
    rw [eL, eH]
    clear eL eH
    go_enter Try.func16, Try.ntmps16
    go_wp2_with fail
    refine hof.mono ?_
    clear hof
    rintro e w1 ⟨vn, vf, va, vp, rfl, r1, hl⟩
    obtain ⟨⟨A1, c1, rfl⟩, ⟨A2, c2, rfl⟩, ⟨A3, c3, rfl⟩, ⟨A4, c4, rfl⟩⟩ := hl.forms
    have R1 := Lib.hid r1
    clear hl r1
    unfold Ty.val Ty.cells
    go_wp2_with fail
    go_ret2
    exact ⟨rfl, R1.out.alloc _⟩
  by_cases h2 : k = 2
  · subst h2
    have eL : loR ⟨2, md, nm, b, x, lo, hi, ns, fs, ams, ps, rs⟩ = 0 := rfl
    have eH : hiR ⟨2, md, nm, b, x, lo, hi, ns, fs, ams, ps, rs⟩ = 65535 := rfl
    rw [eL, eH]
    clear eL eH
    go_enter Try.func16, Try.ntmps16
    go_wp2_with fail
    refine hof.mono ?_
    clear hof
    rintro e w1 ⟨vn, vf, va, vp, rfl, r1, hl⟩
    obtain ⟨⟨A1, c1, rfl⟩, ⟨A2, c2, rfl⟩, ⟨A3, c3, rfl⟩, ⟨A4, c4, rfl⟩⟩ := hl.forms
    have R1 := Lib.hid r1
    clear hl r1
    unfold Ty.val Ty.cells
    go_wp2_with fail
    go_ret2
    exact ⟨rfl, R1.out.alloc _⟩
  by_cases h3 : k = 3
  · subst h3
    have eL : loR ⟨3, md, nm, b, x, lo, hi, ns, fs, ams, ps, rs⟩ = 0 := rfl
    have eH : hiR ⟨3, md, nm, b, x, lo, hi, ns, fs, ams, ps, rs⟩ = 1 := rfl
    rw [eL, eH]
    clear eL eH
    go_enter Try.func16, Try.ntmps16
    go_wp2_with fail
    refine hof.mono ?_
    clear hof
    rintro e w1 ⟨vn, vf, va, vp, rfl, r1, hl⟩
    obtain ⟨⟨A1, c1, rfl⟩, ⟨A2, c2, rfl⟩, ⟨A3, c3, rfl⟩, ⟨A4, c4, rfl⟩⟩ := hl.forms
    have R1 := Lib.hid r1
    clear hl r1
    unfold Ty.val Ty.cells
    go_wp2_with fail
    go_ret2
    exact ⟨rfl, R1.out.alloc _⟩
  by_cases h4 : k = 4
  · subst h4
    have eL : loR ⟨4, md, nm, b, x, lo, hi, ns, fs, ams, ps, rs⟩ = 0 := rfl
    have eH : hiR ⟨4, md, nm, b, x, lo, hi, ns, fs, ams, ps, rs⟩ = 255 := rfl
    rw [eL, eH]
    clear eL eH
    go_enter Try.func16, Try.ntmps16
    go_wp2_with fail
    refine hof.mono ?_
    clear hof
    rintro e w1 ⟨vn, vf, va, vp, rfl, r1, hl⟩
    obtain ⟨⟨A1, c1, rfl⟩, ⟨A2, c2, rfl⟩, ⟨A3, c3, rfl⟩, ⟨A4, c4, rfl⟩⟩ := hl.forms
    have R1 := Lib.hid r1
    clear hl r1
    unfold Ty.val Ty.cells
    go_wp2_with fail
    go_ret2
    exact ⟨rfl, R1.out.alloc _⟩
  by_cases h5 : k = 5
  · subst h5
    have eL : loR ⟨5, md, nm, b, x, lo, hi, ns, fs, ams, ps, rs⟩ = -32768 := rfl
    have eH : hiR ⟨5, md, nm, b, x, lo, hi, ns, fs, ams, ps, rs⟩ = 65535 := rfl
    rw [eL, eH]
    clear eL eH
    go_enter Try.func16, Try.ntmps16
    go_wp2_with fail
    refine hof.mono ?_
    clear hof
    rintro e w1 ⟨vn, vf, va, vp, rfl, r1, hl⟩
    obtain ⟨⟨A1, c1, rfl⟩, ⟨A2, c2, rfl⟩, ⟨A3, c3, rfl⟩, ⟨A4, c4, rfl⟩⟩ := hl.forms
    have R1 := Lib.hid r1
    clear hl r1
    unfold Ty.val Ty.cells
    go_wp2_with fail
    go_ret2
    exact ⟨rfl, R1.out.alloc _⟩
  · have hr : rngIs k = false := by simp [rngIs, rngOf, h1, h2, h3, h4, h5]
    have eL : loR ⟨k, md, nm, b, x, lo, hi, ns, fs, ams, ps, rs⟩ = lo := by simp [loR, hr]
    have eH : hiR ⟨k, md, nm, b, x, lo, hi, ns, fs, ams, ps, rs⟩ = hi := by simp [hiR, hr]
    rw [eL, eH]
    have e1 : (k == 1) = false := by simp [h1]
    have e2 : (k == 2) = false := by simp [h2]
    have e3 : (k == 3) = false := by simp [h3]
    have e4 : (k == 4) = false := by simp [h4]
    have e5 : (k == 5) = false := by simp [h5]
    clear eL eH hr h1 h2 h3 h4 h5
    go_enter Try.func16, Try.ntmps16
    go_wp2_with fail
    refine hof.mono ?_
    clear hof
    rintro e w1 ⟨vn, vf, va, vp, rfl, r1, hl⟩
    obtain ⟨⟨A1, c1, rfl⟩, ⟨A2, c2, rfl⟩, ⟨A3, c3, rfl⟩, ⟨A4, c4, rfl⟩⟩ := hl.forms
    have R1 := Lib.hid r1
    clear hl r1
    unfold Ty.val Ty.cells
    go_wp2_with fail
    go_quiet (fail)
    go_wp2_with fail
    go_ret2
    exact ⟨rfl, ((R1.out.alloc _).drewN _)⟩
end
end Go.Proofs.Ytcpgkeceefoljaa

