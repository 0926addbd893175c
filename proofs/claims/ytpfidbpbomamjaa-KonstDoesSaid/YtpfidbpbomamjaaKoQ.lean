/- same, Same, heavy, Raw.Any: walked. No conditions but that the values are such as Go has. -/
import Derived.Test.YtpfidbpbomamjaaKoL
import Derived.Deep.RegionHeld3
namespace Go.Proofs.Ytpfidbpbomamjaa
open Go.RowKit
set_option linter.unusedVariables false

def KV.eqB (x y : KV) : Bool := (((x.sort : Int) == y.sort) && (x.n == y.n)) && ((x.s.toList == y.s.toList) && (x.t == y.t))
theorem ref_eq (x y : KV) (w : World) : (binOp .eql 31 (refV x) (refV y)).run Try.prog w = .ok (.bool (KV.eqB x y)) w := by
  simp only [refV, KV.eqB]
  by_cases h1 : (x.sort : Int) = y.sort <;> by_cases h2 : x.n = y.n <;> by_cases h3 : x.s.toList = y.s.toList <;> by_cases h4 : x.t = y.t <;> simp [go_sem, h1, h2, h3, h4]

theorem ref_guard (i j : Nat) (x y : KV) (w : World) : (eqGuard .eql 31 (.tmp i) (.tmp j) (refV x) (refV y)).run Try.prog w = .ok () w := by
  simp [eqGuard, refV, go_sem]

set_option maxHeartbeats 1000000 in
theorem same_any (x y : KV) (hx : x.ok) (w : World) :
    Calls Try.prog 12 #[x.val, refV y] w fun e w' => e = .returned (.bool (KV.eqB x.look y)) ∧ Wr [] w w' := by
  obtain ⟨w0, hw0⟩ : ∃ w0, w.alloc (.cells #[.int .i64 y.sort, .int .i64 y.n, .string y.s, .int .i64 y.t] 31) = w0 := ⟨_, rfl⟩
  obtain ⟨g, hg⟩ : ∃ g, w.heap.size = g := ⟨_, rfl⟩
  have r0 : Wr [] w w0 := by rw [← hw0]; exact (Wr.refl _ _).alloc _
  have hb : Blk w0 g 31 #[.int .i64 y.sort, .int .i64 y.n, .string y.s, .int .i64 y.t] := by rw [← hw0, ← hg]; exact Blk.new _ _ _
  have c0 := hb.cell 0
  have c1 := hb.cell 1
  have c2 := hb.cell 2
  have c3 := hb.cell 3
  simp at c0 c1 c2 c3
  have hl := look_any x hx w0.drew
  have he := ref_eq x.look y
  have hge := ref_guard 6 7 x.look y
  have hv : refV y = .agg #[.int .i64 y.sort, .int .i64 y.n, .string y.s, .int .i64 y.t] := rfl
  generalize refV x.look = lv at hl he hge
  rw [hv] at he hge ⊢
  generalize KV.eqB x.look y = q at he ⊢
  generalize x.val = V at hl ⊢
  have Hw0 := Lib.hid hw0
  have Hg := Lib.hid hg
  clear hw0 hg hb hv
  go_enter Try.func12, Try.ntmps12
  go_wp2_with fail
  rw [Hw0.out, Hg.out]
  go_region_held3 (fun w' => w'.cell? ⟨g, 0, none⟩ = some (.int .i64 y.sort) ∧ w'.cell? ⟨g, 1, none⟩ = some (.int .i64 y.n) ∧ w'.cell? ⟨g, 2, none⟩ = some (.string y.s) ∧ w'.cell? ⟨g, 3, none⟩ = some (.int .i64 y.t)) (first | go_keep | (go_split_ands; refine ⟨?_, ?_, ?_, ?_⟩ <;> exact Wr.cellOf (by assumption) (by assumption) (by simp))) (first | (go_at_call 17; refine hl.mono ?_; rintro e w1 ⟨rfl, k1⟩))
  go_wp2_with fail
  go_ret
  exact ⟨rfl, (r0.drew).trans k1⟩
end Go.Proofs.Ytpfidbpbomamjaa
