/- Must, panics: walked at the two values that the laws ask. No conditions. -/
import Derived.Test.YtpfidbpbomamjaaKoD
import Derived.Defers
import Derived.Recover
import Derived.Laws.Pointers
namespace Go.Proofs.Ytpfidbpbomamjaa
open Go.RowKit
set_option linter.unusedVariables false

def KV.null : KV := ⟨7, 0, 0, ⟨#[]⟩⟩
theorem KV.null_ok : KV.null.ok := by simp [KV.ok, KV.null]
theorem KV.three_ok : (KV.whole 3).ok := by simp [KV.ok, KV.whole]

theorem as_self_plain {T xT : TypeId} {u : TypeDesc} (hu : Try.prog.underlying T = some u) (hi : (match u with | .interface _ => true | _ => false) = false) (v : Value) (w : World) :
    (Instr.typeAssert (.iface T v) xT T false).run Try.prog w = .ok v w := by
  cases u <;> first | (cases hi; done) | simp [Instr.typeAssert, run_underlying hu]
set_option maxHeartbeats 400000 in
theorem must_three (w : World) :
    Calls Try.prog 22 #[.iface 34 (.int .i64 3)] w fun e w' => e = .returned (.int .i64 3) ∧ Wr [] w w' := by
  have h := is_any (KV.whole 3) KV.three_ok w
  rw [show (KV.whole 3).isB = true from rfl, KV.whole_val] at h
  have a1 := as_self_plain (T := 34) (xT := 20) Try.underlying34 rfl (.int .i64 3)
  go_enter Try.func22, Try.ntmps22
  go_wp2_with fail
  refine h.mono ?_
  clear h
  rintro e w1 ⟨rfl, h1⟩
  go_wp2_with fail
  go_ret
  exact ⟨rfl, h1⟩

theorem as_null_panics (w : World) : ∃ u pv wc, (Instr.typeAssert (.iface 57 (.agg #[])) 20 34 false).run Try.prog w = .halt (.panic (.iface u pv)) wc ∧ Wr [] w wc := by
  have h : ∃ E, ∀ w, (elemOf 15).run Try.prog w = .ok E w := ⟨_, fun w => rfl⟩
  obtain ⟨E, hE⟩ := h
  have key : (Instr.typeAssert (.iface 57 (.agg #[])) 20 34 false).run Try.prog w = .halt (.panic (.iface 15 (.pointer (some ⟨w.heap.size, 0, none⟩)))) (w.alloc (.cells #[typeHandle Try.prog 20, typeHandle Try.prog 57, typeHandle Try.prog 34, strVal ""] E)) := by
    simp [Instr.typeAssert, run_underlying Try.underlying34]
    simp [runtimePanic, goPanic, go_sem]
    rw [hE]
    rfl
  exact ⟨_, _, _, key, (Wr.refl [] w).alloc _⟩

set_option maxHeartbeats 400000 in
theorem must_null (w : World) :
    Calls Try.prog 22 #[.iface 57 (.agg #[])] w fun e w' => (∃ u pv, e = .panicked [{ v := .iface u pv, recovered := false }]) ∧ Wr [] w w' := by
  have h := is_any KV.null KV.null_ok w
  rw [show KV.null.isB = true from rfl, show KV.null.val = .iface 57 (.agg #[]) from rfl] at h
  go_enter Try.func22, Try.ntmps22
  go_wp2_with fail
  refine h.mono ?_
  clear h
  rintro e w1 ⟨rfl, h1⟩
  obtain ⟨u, pv, wc, ha, hwc⟩ := as_null_panics w1
  go_wp2_with fail
  exact ⟨rfl, ⟨u, pv, rfl⟩, h1.trans hwc⟩

theorem hmf_ (fn : Fn) (first cap : Array Value) (w : World) : (Instr.makeFunc fn first cap).run Try.prog w = .ok (.func fn first cap) w := rfl

theorem catch_panicking (p : Addr) (x : Bool) (u : TypeId) (pv : Value) (older : List PanicEntry) (w : World) (hc : w.cell? p = some (.bool x)) (hz : w.frozen? p = false) :
    CallsD Try.prog 39 #[.pointer (some p)] (.panicking ({ v := .iface u pv, recovered := false } :: older)) w fun e u' w' =>
      e = .returned (.tuple #[]) ∧ u' = .panicking ({ v := .iface u pv, recovered := true } :: older) ∧ w' = w.setCell p (.bool true) := by
  refine callsD_of_wpS Try.func39 rfl fun c₀ cs hu => ?_
  apply wpS_seq
  apply wpS_region
  simp [wpOpsS, go_sem, recoverD, hu, Try.ntmps39, Exit.thenS]
  refine wpS_cond (t := true) (by simp [Act.eval, Array.replicate]) ?_
  simp only [if_true]
  apply wpS_region
  simp [wpOpsS, go_sem, hc, hz, bodyPostS, results, Try.results39]

theorem catch_idle (p : Addr) (w : World) :
    CallsD Try.prog 39 #[.pointer (some p)] .returning w fun e u' w' => e = .returned (.tuple #[]) ∧ u' = .returning ∧ w' = w := by
  refine callsD_of_wpS Try.func39 rfl fun c₀ cs hu => ?_
  apply wpS_seq
  apply wpS_region
  simp [wpOpsS, go_sem, recoverD, hu, Try.ntmps39, Exit.thenS]
  refine wpS_cond (t := false) (by simp [Act.eval, Array.replicate]) ?_
  simp only [Bool.false_eq_true, if_false]
  refine wpS_of_wp (wp_skip ?_)
  cases c₀
  simp_all [bodyPostS, results, Try.results39]

theorem panics_three (w : World) :
    Calls Try.prog 21 #[.iface 34 (.int .i64 3)] w fun e w' => e = .returned (.bool false) ∧ Wr [] w w' := by
  have hmf := hmf_
  have hm := fun w => must_three w
  go_enter_defers Try.func21, Try.ntmps21
  go_wp2_with fail
  refine (hm _).mono ?_
  rintro e w1 ⟨rfl, h1⟩
  have hc : w1.cell? ⟨w.heap.size, 0, none⟩ = some (.bool false) := h1.cellOf (by simp) (by simp)
  have hz : w1.frozen? ⟨w.heap.size, 0, none⟩ = false := h1.frozenOf (v := .bool false) (by simp) (by simp) (by simp)
  go_wp2_with fail
  refine leaves_cons (f := 39) (args := #[.pointer (some ⟨w.heap.size, 0, none⟩)]) (by simp) (by simp [go_sem]) ?_
  refine (catch_idle ⟨w.heap.size, 0, none⟩ _).mono ?_
  rintro e u' w'' ⟨rfl, rfl, rfl⟩
  have hc2 : (w1.setCell { block := w.heap.size, off := 0 } (Value.bool false)).cell? { block := w.heap.size, off := 0 } = some (.bool false) := by
    rw [World.cell?_setCell_same' _ _ _ (by simp [hc])]
  simp [Leaves, settle, results, Try.results21, go_sem, hc2]
  exact ((Wr.refl [] w).alloc _ |>.trans h1).setNew (Nat.le_refl _) _

theorem panics_null (w : World) :
    Calls Try.prog 21 #[.iface 57 (.agg #[])] w fun e w' => e = .returned (.bool true) ∧ Wr [] w w' := by
  have hmf := hmf_
  have hm := fun w => must_null w
  go_enter_defers Try.func21, Try.ntmps21
  go_wp2_with fail
  refine (hm _).mono ?_
  rintro e w1 ⟨⟨u, pv, rfl⟩, h1⟩
  have hc : w1.cell? ⟨w.heap.size, 0, none⟩ = some (.bool false) := h1.cellOf (by simp) (by simp)
  have hz : w1.frozen? ⟨w.heap.size, 0, none⟩ = false := h1.frozenOf (v := .bool false) (by simp) (by simp) (by simp)
  go_wp2_with fail
  refine leaves_cons (f := 39) (args := #[.pointer (some ⟨w.heap.size, 0, none⟩)]) (by simp) (by simp [go_sem]) ?_
  refine (catch_panicking ⟨w.heap.size, 0, none⟩ false u pv [] _ hc hz).mono ?_
  rintro e u' w'' ⟨rfl, rfl, rfl⟩
  have hc2 : (w1.setCell { block := w.heap.size, off := 0 } (Value.bool true)).cell? { block := w.heap.size, off := 0 } = some (.bool true) := by
    rw [World.cell?_setCell_same' _ _ _ (by simp [hc])]
  simp [Leaves, settle, results, Try.results21, go_sem, hc2]
  exact ((Wr.refl [] w).alloc _ |>.trans h1).setNew (Nat.le_refl _) _
end Go.Proofs.Ytpfidbpbomamjaa
