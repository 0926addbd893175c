/- Maps by whole numbers: what they hold, as a function; an update, a look-up. No conditions. -/
import Derived.Test.YtfeeeogkkajefaaMapA
namespace Go.Proofs.Ytfeeeogkkajefaa
open Go.RowKit
set_option linter.unusedVariables false

/-- What lies there under a number. -/
def fndI : List MapEntry → Int → Option Value
  | [], _ => none
  | e :: l, k => match e.key with | .int .i64 a => if a = k then some e.val else fndI l k | _ => none
def IntKeys (l : List MapEntry) : Prop := ∀ e ∈ l, ∃ a, e.key = .int .i64 a

theorem findNow_int : ∀ (l : List MapEntry) (k : Int) (i : Nat), IntKeys l → ∃ o, Instr.findNow (.int .i64) (.int .i64 k) l i = some o ∧ o.map (·.2) = fndI l k ∧
    ∀ p, o = some p → ∃ j e, p.1 = i + j ∧ l[j]? = some e ∧ e.key = .int .i64 k ∧ ∀ v k', fndI (l.modify j fun e => { e with key := .int .i64 k, val := v }) k' = if k' = k then some v else fndI l k'
  | [], k, i, _ => ⟨none, rfl, rfl, fun p h => by cases h⟩
  | e :: l, k, i, h => by
    obtain ⟨a, ha⟩ := h e (.head _)
    by_cases hak : a = k
    · subst hak
      refine ⟨some (i, e.val), ?_, ?_, ?_⟩
      · simp [Instr.findNow, Instr.sameNow, ha]
      · simp [fndI, ha]
      · intro p hp
        injection hp with hp
        subst hp
        refine ⟨0, e, by simp, rfl, ha, fun v k' => ?_⟩
        simp only [List.modify_zero_cons, fndI, ha]
        by_cases h1 : k' = a
        · subst h1; simp
        · have h2 : ¬ a = k' := fun e => h1 e.symm
          simp [h1, h2]
    · obtain ⟨o, h1, h2, h3⟩ := findNow_int l k (i + 1) (fun e he => h e (.tail _ he))
      refine ⟨o, ?_, ?_, ?_⟩
      · have : (k == a) = false := by simp; omega
        simp [Instr.findNow, Instr.sameNow, ha, this, h1]
      · simp [fndI, ha, hak, h2]
      · intro p hp
        obtain ⟨j, e', g1, g2, g3, g4⟩ := h3 p hp
        refine ⟨j + 1, e', by omega, g2, g3, fun v k' => ?_⟩
        simp only [List.modify_succ_cons, fndI, ha]
        by_cases h5 : a = k'
        · subst h5
          simp [hak]
        · simp only [h5, if_false]
          exact g4 v k'
theorem fndI_push (l : List MapEntry) (k : Int) (v : Value) (b : Nat) (h : fndI l k = none) (hk : IntKeys l) (k' : Int) : fndI (l ++ [{ key := .int .i64 k, val := v, born := b }]) k' = if k' = k then some v else fndI l k' := by
  induction l with
  | nil =>
    simp only [List.nil_append, fndI]
    by_cases h1 : k' = k
    · subst h1; simp
    · have : ¬ k = k' := fun e => h1 e.symm
      simp [h1, this]
  | cons e l ih =>
    obtain ⟨a, ha⟩ := hk e (.head _)
    simp only [List.cons_append, fndI, ha] at h ⊢
    by_cases h2 : a = k
    · simp [h2] at h
    · rw [if_neg h2] at h
      by_cases h3 : a = k'
      · subst h3
        simp [h2]
      · simp only [h3, if_false]
        exact ih h (fun e he => hk e (.tail _ he))

theorem intKeys_modify (l : List MapEntry) (h : IntKeys l) (j : Nat) (k : Int) (v : Value) : IntKeys (l.modify j fun e => { e with key := .int .i64 k, val := v }) := by
  intro e he
  obtain ⟨i, hi⟩ := List.mem_iff_getElem?.1 he
  rw [List.getElem?_modify] at hi
  cases hx : l[i]? with
  | none => rw [hx] at hi; cases hi
  | some x =>
    rw [hx] at hi
    by_cases hj : j = i
    · subst hj
      simp at hi
      subst hi
      exact ⟨k, rfl⟩
    · simp [hj] at hi
      subst hi
      exact h x (List.mem_of_getElem? hx)

/-- A map by whole numbers, in block r: kn says what it holds. -/
def MapI (w : World) (r : Nat) (kn : Int → Option Value) : Prop := ∃ es c, w.heap[r]? = some (.map es c) ∧ IntKeys es.toList ∧ ∀ k, fndI es.toList k = kn k
theorem MapI.wr {w w' : World} {r : Nat} {kn : Int → Option Value} {l : List Nat} (h : MapI w r kn) (hw : Wr l w w') (hr : r ∉ l) : MapI w' r kn := by
  obtain ⟨es, c, h1, h2, h3⟩ := h
  have hlt : r < w.heap.size := by
    rcases Nat.lt_or_ge r w.heap.size with h | h
    · exact h
    · rw [Array.getElem?_eq_none h] at h1; cases h1
  exact ⟨es, c, (hw.block r hlt hr).trans h1, h2, h3⟩
theorem MapI.lt {w : World} {r : Nat} {kn : Int → Option Value} (h : MapI w r kn) : r < w.heap.size := by
  obtain ⟨es, c, h1, h2, h3⟩ := h
  rcases Nat.lt_or_ge r w.heap.size with h | h
  · exact h
  · rw [Array.getElem?_eq_none h] at h1; cases h1
theorem MapI.new (w : World) : MapI (w.alloc (.map #[] 0)) w.heap.size (fun _ => none) := ⟨#[], 0, heap_alloc_new w _, by simp [IntKeys], fun k => rfl⟩

section
variable {P : Program} {T K E : TypeId} (hu : P.underlying T = some (.map K E)) (hk : P.underlying K = some (.int .i64))
include hu hk
theorem mapI_upd {w : World} {r : Nat} {kn : Int → Option Value} (h : MapI w r kn) (k : Int) (v : Value) :
    ∃ W, (Instr.mapUpdate T (.map (some r)) (.int .i64 k) v).run P w = .ok () W ∧ Wr [r] w W ∧ MapI W r (fun j => if j = k then some v else kn j) := by
  have hr := h.lt
  obtain ⟨es, c, h1, h2, h3⟩ := h
  have hc : ∀ w, (Instr.checkKey false 10000 K (.int .i64 k)).run P w = .ok () w := fun w => MapKept.run_checkKey hk (by simp [MapKept.IsKey]) false 9999
  have hW : ∀ o, Wr [r] w { w with heap := w.heap.setIfInBounds r o } := fun o => ⟨rfl, rfl, rfl, by simp, fun j _ hj => by
    have : r ≠ j := fun e => hj (by simp [e])
    simp [this]⟩
  have hH : ∀ o, (w.heap.setIfInBounds r o)[r]? = some o := fun o => by simp [hr]
  obtain ⟨o, g1, g2, g3⟩ := findNow_int es.toList k 0 h2
  cases o with
  | none =>
    refine ⟨_, ins_at hu hk w r es c (.int .i64 k) v h1 hc g1, hW _, _, _, hH _, ?_, ?_⟩
    · intro e he
      simp only [Array.toList_push, List.mem_append, List.mem_singleton] at he
      rcases he with he | rfl
      · exact h2 e he
      · exact ⟨k, rfl⟩
    · intro k'
      rw [Array.toList_push, fndI_push es.toList k v c g2.symm h2 k', h3]
  | some p =>
    obtain ⟨j, e, q1, q2, q3, q4⟩ := g3 p rfl
    have hj : es[p.1]? = some e := by
      rw [q1, Nat.zero_add, ← Array.getElem?_toList]
      exact q2
    have hrun : (Instr.mapUpdate T (.map (some r)) (.int .i64 k) v).run P w = .ok () { w with heap := w.heap.setIfInBounds r (.map (es.modify p.1 fun e => { e with key := .int .i64 k, val := v }) c) } := by
      obtain ⟨a, b⟩ := p
      simp only at hj
      simp [Instr.mapUpdate, run_underlying hu, Sem.run_bind, hc, Instr.findKey, run_underlying hk, g1, getObj, setObj, Sem.run, h1, Result.andThen, hj, q3]
      have := MapKept.run_keyThatStays (P := P) (w := w) (d := .int .i64) (k := .int .i64 k) (by simp [MapKept.IsKey])
      rw [this]
      simp [h1]
    refine ⟨_, hrun, hW _, _, _, hH _, ?_, ?_⟩
    · rw [Array.toList_modify]
      exact intKeys_modify _ h2 _ _ _
    · intro k'
      rw [Array.toList_modify, q1, Nat.zero_add, q4 v k', h3]
theorem mapI_look {w : World} {r : Nat} {kn : Int → Option Value} (h : MapI w r kn) (k : Int) {z : Value} (hz : ∀ w, (zeroValue E).run P w = .ok z w) :
    (Instr.lookup T (.map (some r)) (.int .i64 k) true).run P w = .ok (.tuple #[(kn k).getD z, .bool (kn k).isSome]) w := by
  obtain ⟨es, c, h1, h2, h3⟩ := h
  obtain ⟨o, g1, g2, _⟩ := findNow_int es.toList k 0 h2
  have hc : ∀ b w, (Instr.checkKey b 10000 K (.int .i64 k)).run P w = .ok () w := fun b w => MapKept.run_checkKey hk (by simp [MapKept.IsKey]) b 9999
  have := look_at hu hk w r es c (.int .i64 k) o z h1 hc g1 hz true
  rw [g2, h3] at this
  have e : o.isSome = (kn k).isSome := by rw [← h3 k, ← g2]; cases o <;> rfl
  rw [e] at this
  exact this
end
end Go.Proofs.Ytfeeeogkkajefaa
