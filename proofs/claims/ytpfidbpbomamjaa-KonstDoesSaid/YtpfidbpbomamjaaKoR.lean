/- Raw.Any: walked; the argument opened. No conditions. -/
import Derived.Test.YtpfidbpbomamjaaKoW
import Derived.ProofKit
import Derived.OpenShut
import Derived.Lib.SmallJoins
namespace Go.Proofs.Ytpfidbpbomamjaa
open Go.ChangeShapes Go.WideShapes Go.ChangeAt Go.RowKit
set_option linter.unusedVariables false

/-- What a value is made of, as a value. -/
def rawK (s n t : Int) (b : ByteArray) : KV :=
  if s % 9 = 1 then ⟨1, n, 0, ⟨#[]⟩⟩ else if s % 9 = 2 then ⟨2, IntKind.u8.wrap n, 0, ⟨#[]⟩⟩ else if s % 9 = 3 then KV.truth (bits .and .i64 n 1 == 1) else if s % 9 = 4 then ⟨4, IntKind.u16.wrap n, 0, ⟨#[]⟩⟩
  else if s % 9 = 5 then ⟨5, 0, 0, b⟩ else if s % 9 = 6 then ⟨6, n, t, ⟨#[]⟩⟩ else if s % 9 = 7 then ⟨7, 0, 0, ⟨#[]⟩⟩ else if s % 9 = 8 then ⟨8, n, 0, ⟨#[]⟩⟩ else ⟨0, 0, 0, ⟨#[]⟩⟩
structure RawOk (s n t : Int) (b : ByteArray) : Prop where
  s : 0 ≤ s ∧ s ≤ 255
  n : -9223372036854775808 ≤ n ∧ n ≤ 9223372036854775807
  t : -9223372036854775808 ≤ t ∧ t ≤ 9223372036854775807
  b : b.size ≤ 9223372036854775807
theorem rawK_ok {s n t : Int} {b : ByteArray} (h : RawOk s n t b) : (rawK s n t b).ok := by
  unfold rawK
  by_cases h1 : s % 9 = 1
  · simp [KV.ok, h1, h.n]
  by_cases h2 : s % 9 = 2
  · simp [KV.ok, h2, IntKind.wrap, IntKind.bits, IntKind.signed]
    omega
  by_cases h3 : s % 9 = 3
  · rw [if_neg h1, if_neg h2, if_pos h3]
    exact truth_ok _
  by_cases h4 : s % 9 = 4
  · simp [KV.ok, h4, IntKind.wrap, IntKind.bits, IntKind.signed]
    omega
  by_cases h5 : s % 9 = 5
  · simp [KV.ok, h5, h.b]
  by_cases h6 : s % 9 = 6
  · simp [KV.ok, h6, h.n, h.t]
  by_cases h7 : s % 9 = 7
  · simp [KV.ok, h7]
  by_cases h8 : s % 9 = 8
  · simp [KV.ok, h8, h.n]
  simp [KV.ok, h1, h2, h3, h4, h5, h6, h7, h8]

set_option maxHeartbeats 2000000 in
theorem any_any (s n t : Int) (b : ByteArray) (h : RawOk s n t b) (w : World) :
    Calls Try.prog 10 #[rawV s n t b] w fun e w' => e = .returned (rawK s n t b).val ∧ Wr [] w w' := by
  have m1 := @mkIface 34 rfl
  have m2 := @mkIface 55 rfl
  have m3 := @mkIface 39 rfl
  have m4 := @mkIface 57 rfl
  have m5 := @mkIface 40 rfl
  have m6 := @mkIface 59 rfl
  have m7 := @mkIface 61 rfl
  have m8 := @mkIface 2 rfl
  obtain ⟨⟨s0, s1⟩, ⟨n0, n1⟩, ⟨t0, t1⟩, hb⟩ := h
  have hr : s % 9 = 0 ∨ s % 9 = 1 ∨ s % 9 = 2 ∨ s % 9 = 3 ∨ s % 9 = 4 ∨ s % 9 = 5 ∨ s % 9 = 6 ∨ s % 9 = 7 ∨ s % 9 = 8 := by omega
  have hmod : s.tmod 9 = s % 9 := Int.tmod_eq_emod_of_nonneg s0
  have hv : (rawK s n t b).val = if s % 9 = 1 then .iface 34 (.int .i64 n) else if s % 9 = 2 then .iface 55 (.int .u8 (IntKind.u8.wrap n)) else if s % 9 = 3 then .iface 40 (.bool (bits .and .i64 n 1 == 1)) else if s % 9 = 4 then .iface 39 (.int .u16 (IntKind.u16.wrap n)) else if s % 9 = 5 then .iface 59 (.string b) else if s % 9 = 6 then .iface 61 (.agg #[.int .i64 t, .int .i64 n]) else if s % 9 = 7 then .iface 57 (.agg #[]) else if s % 9 = 8 then .iface 2 (.int .i64 n) else .nilIface := by
    rcases hr with h | h | h | h | h | h | h | h | h
    · simp [rawK, h, KV.val]
    · simp [rawK, h, KV.val]
    · simp [rawK, h, KV.val]
    · simp only [rawK, h]
      exact KV.truth_val _
    all_goals simp [rawK, h, KV.val]
  rw [hv]
  clear hv
  unfold rawV
  rcases hr with h | h | h | h | h | h | h | h | h
  all_goals
    rw [h] at hmod
    simp only [h]
    clear h
    go_enter Try.func10, Try.ntmps10
    go_wp2_with fail
    go_ret
    exact ⟨rfl, (Wr.refl [] w).alloc _⟩

/-- An argument that is what a value is made of. -/
def IsRaw (v : Value) : Prop := ∃ s n t b, v = rawV s n t b ∧ RawOk s n t b
theorem open_raw {H : Type} {enc : TypeId × Value → H} {W : World} {r : Reach} {b0 : Nat} {v : Value} {d : DataW H} {p : List MemPlace}
    (hv : Value.okWide Try.prog W r b0 23 v) (h : DataW.Trod enc Try.prog W 0 (fun _ => true) true 23 v d p) : IsRaw v := by
  obtain ⟨v0, v1, v2, v3, y0, y1, y2, y3, n, rfl, _, _, h0, h1, h2, h3⟩ := Go.Joins.open_agg4 Try.underlying23 (by kernel_rfl) (by kernel_rfl) hv h
  obtain ⟨z0, e0, _, w0⟩ := DataW.trod_int Try.underlying5 h0
  obtain ⟨z1, e1, _, w1⟩ := DataW.trod_int Try.underlying2 h1
  obtain ⟨z2, e2, _, w2⟩ := DataW.trod_string Try.underlying9 h2
  obtain ⟨z3, e3, _, w3⟩ := DataW.trod_int Try.underlying3 h3
  simp only [List.cons.injEq, and_true] at e0 e1 e2 e3
  subst e0 e1 e2 e3
  exact ⟨z0, z1, z3, z2, rfl, Go.bounds_u8 w0, Go.bounds_i64 w1, Go.bounds_i64 w3, by simpa [maxLen] using w2⟩
end Go.Proofs.Ytpfidbpbomamjaa
