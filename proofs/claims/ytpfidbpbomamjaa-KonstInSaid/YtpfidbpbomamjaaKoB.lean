/- konst.Does and konst.Same of two sets, of two numbers: contracts over the plain values. No conditions but that the numbers are such as Go has. -/
import Derived.Test.YtpfidbpbomamjaaKoW
import Derived.Laws.BitsAllLaws
namespace Go.Proofs.Ytpfidbpbomamjaa
open Go.RowKit
set_option linter.unusedVariables false
set_option linter.unusedSimpArgs false

/-- A set's word. -/
abbrev bv (a : Int) : BitVec 16 := BitVec.ofInt 16 a
theorem bv_nat {a : Int} (h : 0 ≤ a ∧ a ≤ 65535) : ((bv a).toNat : Int) = a := by
  obtain ⟨n, rfl⟩ := Int.eq_ofNat_of_zero_le h.1
  have := Go.ofInt_u16 n (by omega)
  show ((BitVec.ofInt 16 (n : Int)).toNat : Int) = n
  rw [this]
theorem bv_of (v : BitVec 16) : bv (v.toNat : Int) = v := by
  apply BitVec.eq_of_toNat_eq
  have := v.isLt
  exact Go.ofInt_u16 v.toNat (by omega)
theorem wrap_bv (v : BitVec 16) : IntKind.u16.wrap (v.toNat : Int) = v.toNat := by
  have := v.isLt
  rw [IntKind.wrap_u16]
  omega
theorem bits_or_bv (a b : Int) : bits .or .u16 a b = ((bv a ||| bv b).toNat : Int) := wrap_bv _
theorem bits_and_bv (a b : Int) : bits .and .u16 a b = ((bv a &&& bv b).toNat : Int) := wrap_bv _
theorem bits_xor_bv (a b : Int) : bits .xor .u16 a b = ((bv a ^^^ bv b).toNat : Int) := wrap_bv _
theorem bits_andNot_bv (a b : Int) : bits .andNot .u16 a b = ((bv a &&& ~~~bv b).toNat : Int) := wrap_bv _
theorem bits_u16 (op : BinOp) (a b : Int) : 0 ≤ bits op .u16 a b ∧ bits op .u16 a b ≤ 65535 := ⟨Go.bits_lo_u16 op a b, Go.bits_hi_u16 op a b⟩

theorem does_bits (k : Nat) (h : isOf k) (a b : Int) : doesK k (KV.bits a) (KV.bits b) = (setK k a b, 0) := by
  have hk : ¬ 15 ≤ k := by unfold isOf at h; omega
  have h14 : ¬ k = 14 := by unfold isOf at h; omega
  have l : ∀ a, (KV.bits a).letter = KV.bits a := fun a => by simp [KV.letter, KV.bits]
  simp only [doesK, hk, h14, if_false, l]
  simp [KV.isB, KV.is, KV.bits, goesK, h, KV.num]

section
variable (a b : Int) (ha : 0 ≤ a ∧ a ≤ 65535) (hb : 0 ≤ b ∧ b ≤ 65535)
include ha hb
theorem dB0 (v : Int) (h : bits .or .u16 a b = v) (w : World) : Calls Try.prog 11 #[.string ⟨#[43]⟩, .iface 39 (.int .u16 a), .iface 39 (.int .u16 b)] w fun e w' => e = .returned (.tuple #[.iface 39 (.int .u16 v), .int .i64 0]) ∧ Wr [] w w' := by
  have d := does_op0 (KV.bits a) (KV.bits b) (bits_ok ha) (bits_ok hb) w
  rw [does_bits 0 (by decide)] at d
  subst h
  exact d
theorem dB1 (v : Int) (h : bits .andNot .u16 a b = v) (w : World) : Calls Try.prog 11 #[.string ⟨#[45]⟩, .iface 39 (.int .u16 a), .iface 39 (.int .u16 b)] w fun e w' => e = .returned (.tuple #[.iface 39 (.int .u16 v), .int .i64 0]) ∧ Wr [] w w' := by
  have d := does_op1 (KV.bits a) (KV.bits b) (bits_ok ha) (bits_ok hb) w
  rw [does_bits 1 (by decide)] at d
  subst h
  exact d
theorem dB2 (v : Int) (h : bits .and .u16 a b = v) (w : World) : Calls Try.prog 11 #[.string ⟨#[42]⟩, .iface 39 (.int .u16 a), .iface 39 (.int .u16 b)] w fun e w' => e = .returned (.tuple #[.iface 39 (.int .u16 v), .int .i64 0]) ∧ Wr [] w w' := by
  have d := does_op2 (KV.bits a) (KV.bits b) (bits_ok ha) (bits_ok hb) w
  rw [does_bits 2 (by decide)] at d
  subst h
  exact d
theorem dB3 (v : Int) (h : bits .xor .u16 a b = v) (w : World) : Calls Try.prog 11 #[.string ⟨#[47]⟩, .iface 39 (.int .u16 a), .iface 39 (.int .u16 b)] w fun e w' => e = .returned (.tuple #[.iface 39 (.int .u16 v), .int .i64 0]) ∧ Wr [] w w' := by
  have d := does_op3 (KV.bits a) (KV.bits b) (bits_ok ha) (bits_ok hb) w
  rw [does_bits 3 (by decide)] at d
  subst h
  exact d
theorem dB11 (v : Bool) (h : (bits .andNot .u16 a b == 0) = v) (w : World) : Calls Try.prog 11 #[.string ⟨#[60, 61]⟩, .iface 39 (.int .u16 a), .iface 39 (.int .u16 b)] w fun e w' => e = .returned (.tuple #[.iface 40 (.bool v), .int .i64 0]) ∧ Wr [] w w' := by
  have d := does_op11 (KV.bits a) (KV.bits b) (bits_ok ha) (bits_ok hb) w
  rw [does_bits 11 (by decide)] at d
  rw [show setK 11 a b = KV.truth (bits .andNot .u16 a b == 0) from rfl, h] at d
  simp only [KV.truth_val] at d
  exact d
theorem dB13 (v : Bool) (h : (bits .andNot .u16 b a == 0) = v) (w : World) : Calls Try.prog 11 #[.string ⟨#[62, 61]⟩, .iface 39 (.int .u16 a), .iface 39 (.int .u16 b)] w fun e w' => e = .returned (.tuple #[.iface 40 (.bool v), .int .i64 0]) ∧ Wr [] w w' := by
  have d := does_op13 (KV.bits a) (KV.bits b) (bits_ok ha) (bits_ok hb) w
  rw [does_bits 13 (by decide)] at d
  rw [show setK 13 a b = KV.truth (bits .andNot .u16 b a == 0) from rfl, h] at d
  simp only [KV.truth_val] at d
  exact d
theorem sameB (v : Bool) (h : (a == b) = v) (w : World) : Calls Try.prog 13 #[.iface 39 (.int .u16 a), .iface 39 (.int .u16 b)] w fun e w' => e = .returned (.bool v) ∧ Wr [] w w' := by
  subst h
  have h := Same_any (KV.bits a) (KV.bits b) (bits_ok ha) (bits_ok hb) w (a == b) (fun w => by kernel_rfl) (fun i j w => by simp [KV.bits_val, eqGuard, go_sem])
  exact h
end
theorem sameT (a b v : Bool) (h : (a == b) = v) (w : World) : Calls Try.prog 13 #[.iface 40 (.bool a), .iface 40 (.bool b)] w fun e w' => e = .returned (.bool v) ∧ Wr [] w w' := by
  subst h
  have h := Same_any (KV.truth a) (KV.truth b) (truth_ok a) (truth_ok b) w (a == b) (fun w => by cases a <;> cases b <;> kernel_rfl) (fun i j w => by simp [KV.truth_val, eqGuard, go_sem])
  rw [KV.truth_val, KV.truth_val] at h
  exact h
theorem sameW (a b : Int) (ha : -32768 ≤ a ∧ a ≤ 65535) (hb : -32768 ≤ b ∧ b ≤ 65535) (v : Bool) (h : (a == b) = v) (w : World) : Calls Try.prog 13 #[.iface 34 (.int .i64 a), .iface 34 (.int .i64 b)] w fun e w' => e = .returned (.bool v) ∧ Wr [] w w' := by
  subst h
  have h := Same_any (KV.whole a) (KV.whole b) (whole_ok (by omega)) (whole_ok (by omega)) w (a == b) (fun w => by kernel_rfl) (fun i j w => by simp [KV.whole_val, eqGuard, go_sem])
  rw [show (KV.whole a).isB = true by simp [KV.isB, KV.is, KV.whole, inB_yes ha.1 ha.2], show (KV.whole b).isB = true by simp [KV.isB, KV.is, KV.whole, inB_yes hb.1 hb.2]] at h
  exact h
end Go.Proofs.Ytpfidbpbomamjaa
