/- KonstDoes, walked whole. No conditions. -/
import Derived.Test.YtpfidbpbomamjaaKoA
namespace Go.Proofs.Ytpfidbpbomamjaa
open Go.RowKit
set_option linter.unusedVariables false
set_option linter.unusedSimpArgs false

theorem wholeK_ok (n : Int) : (wholeK n).1.ok := by
  unfold wholeK
  cases h : inB n with
  | true =>
    have := inB_true h
    exact whole_ok (by omega)
  | false => exact none_ok
theorem reckK_ok (k : Nat) (n m : Int) : (reckK k n m).1.ok := by
  unfold reckK divK
  repeat' split
  all_goals first | exact wholeK_ok _ | exact none_ok
theorem bits_ok' (op : BinOp) (a b : Int) : (KV.bits (bits op .u16 a b)).ok := bits_ok ⟨Go.bits_lo_u16 op a b, Go.bits_hi_u16 op a b⟩
theorem setK_ok (k : Nat) (a b : Int) : (setK k a b).ok := by
  unfold setK
  repeat' split
  all_goals first | exact bits_ok' _ _ _ | exact truth_ok _
theorem goesK_ok (k : Nat) (x y : KV) (n : Int) : (goesK k x y n).1.ok := by
  unfold goesK
  repeat' split
  all_goals first | exact setK_ok _ _ _ | exact truth_ok _ | exact none_ok | exact reckK_ok _ _ _
theorem doesK_ok (k : Nat) (x y : KV) : (doesK k x y).1.ok := by
  unfold doesK
  repeat' split
  all_goals first | exact goesK_ok _ _ _ _ | exact truth_ok _ | exact none_ok
theorem oneK_ok (k : Nat) {x : KV} (hx : x.ok) : (oneK k x).1.ok := by
  unfold oneK
  repeat' split
  all_goals first | exact hx | exact truth_ok _ | exact none_ok | exact wholeK_ok _
theorem look_okR {x : KV} (hx : x.ok) : okR x.look := by
  unfold okR KV.look
  by_cases h5 : x.sort = 5
  · have := hx.2.2.2.2.1 h5
    simp [h5, this]
  · simp only [h5, if_false]
    have e : emptyS.size ≤ 9223372036854775807 := by decide
    repeat' split
    all_goals first
      | exact e
      | (cases inB x.n <;> exact e)
theorem look_lt (x : KV) : x.look.letter.sort < 8 := by
  have h : x.look.sort < 8 := by
    unfold KV.look
    repeat' split
    all_goals first
      | (simp; done)
      | (cases inB x.n <;> simp; done)
  unfold KV.letter
  split
  · simp
  · exact h
theorem look_bits' {x : KV} (hx : x.ok) (h : x.look.sort = 4) : 0 ≤ x.look.n ∧ x.look.n ≤ 65535 := by
  cases hb : x.isB with
  | false => rw [look_no hb] at h; cases h
  | true =>
    have hs : x.sort = 4 := by rw [← look_sort hb]; exact h
    rw [look_n hx hb (by omega) (by omega)]
    exact hx.2.2.2.1 hs
theorem eqB_self (x : KV) : KV.eqB x x = true := by simp [KV.eqB]

theorem kd_walk (w : World) (v0 : Value) (g0 : IsRaw v0) (v1 : Value) (g1 : IsRaw v1) (o : Int) (wo : (Lit.int .u8 o).wf = true) :
    Calls Try.prog 7 #[v0, v1, .int .u8 o] w fun e w' => e = .returned (.bool true) ∧ Wr [] w w' := by
  have ho := Go.bounds_u8 wo
  obtain ⟨s1, n1, t1, b1, rfl, o1⟩ := g0
  obtain ⟨s2, n2, t2, b2, rfl, o2⟩ := g1
  cases hv : decide (wrap64 ((b1.size : Int) + b2.size) > 4096) with
  | true => exact kd_heavy _ _ _ _ _ _ _ _ o o1.b o2.b hv w
  | false =>
    have hk : o.toNat % 18 < 18 := Nat.mod_lt _ (by decide)
    have hmod : o.tmod 18 = ((o.toNat % 18 : Nat) : Int) := by
      rw [Int.tmod_eq_emod_of_nonneg ho.1]
      omega
    generalize o.toNat % 18 = k at hk hmod
    have x1 := rawK_ok o1
    have x2 := rawK_ok o2
    have hA1 := fun w => any_any s1 n1 t1 b1 o1 w
    have hA2 := fun w => any_any s2 n2 t2 b2 o2 w
    generalize rawK s1 n1 t1 b1 = X at x1 hA1
    generalize rawK s2 n2 t2 b2 = Y at x2 hA2
    have hR := fun w => does_ref k hk X.look Y.look (look_okR x1) (look_okR x2) (look_lt X) (look_bits' x2) w
    rw [does_eq k x1 x2] at hR
    have hP := fun w => one_ref k hk X.look w
    rw [one_eq k x1] at hP
    have hS1 := fun w => same_any (doesK k X Y).1 (doesK k X Y).1.look (doesK_ok k X Y) w
    rw [eqB_self] at hS1
    have hS2 := fun w => same_any (oneK k X).1 (oneK k X).1.look (oneK_ok k x1) w
    rw [eqB_self] at hS2
    exact kd_main o1.b o2.b hv hk ho hmod hA1 hA2 (fun w => look_any X x1 w) (fun w => look_any Y x2 w) (fun w => does_any k hk X Y x1 x2 w) hR (fun w => one_any k hk X x1 w) hP hS1 hS2 w
end Go.Proofs.Ytpfidbpbomamjaa
