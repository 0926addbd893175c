/- Maps by strings: what they hold, as a function; an update, a look-up. No conditions. -/
import Derived.Test.YtjanbpchedgoiaaMapA
namespace Go.Proofs.Ytjanbpchedgoiaa
open Go.RowKit
set_option linter.unusedVariables false

theorem beqB (a b : ByteArray) : (a == b) = decide (a = b) := by
  rw [Bool.eq_iff_iff, decide_eq_true_iff]
  obtain ⟨x⟩ := a
  obtain ⟨y⟩ := b
  show (x == y) = true ↔ _
  rw [beq_iff_eq]
  simp
/-- What lies there under a string. -/
def fndS : List MapEntry → ByteArray → Option Value
  | [], _ => none
  | e :: l, k => match e.key with | .string a => if a = k then some e.val else fndS l k | _ => none
def StrKeys (l : List MapEntry) : Prop := ∀ e ∈ l, ∃ a, e.key = .string a

theorem findNow_str : ∀ (l : List MapEntry) (k : ByteArray) (i : Nat), StrKeys l → ∃ o, Instr.findNow .string (.string k) l i = some o ∧ o.map (·.2) = fndS l k ∧
    ∀ p, o = some p → ∃ j e, p.1 = i + j ∧ l[j]? = some e ∧ e.key = .string k ∧ ∀ v k', fndS (l.modify j fun e => { e with key := .string k, val := v }) k' = if k' = k then some v else fndS l k'
  | [], k, i, _ => ⟨none, rfl, rfl, fun p h => by cases h⟩
  | e :: l, k, i, h => by
    obtain ⟨a, ha⟩ := h e (.head _)
    by_cases hak : a = k
    · subst hak
      refine ⟨some (i, e.val), ?_, ?_, ?_⟩
      · simp [Instr.findNow, Instr.sameNow, ha, beqB]
      · simp [fndS, ha]
      · intro p hp
        injection hp with hp
        subst hp
        refine ⟨0, e, by simp, rfl, ha, fun v k' => ?_⟩
        simp only [List.modify_zero_cons, fndS, ha]
        by_cases h1 : k' = a
        · subst h1; simp
        · have h2 : ¬ a = k' := fun e => h1 e.symm
          simp [h1, h2]
    · obtain ⟨o, h1, h2, h3⟩ := findNow_str l k (i + 1) (fun e he => h e (.tail _ he))
      refine ⟨o, ?_, ?_, ?_⟩
      · have : (k == a) = false := by rw [beqB]; exact decide_eq_false (fun e => hak e.symm)
        simp [Instr.findNow, Instr.sameNow, ha, this, h1]
      · simp [fndS, ha, hak, h2]
      · intro p hp
        obtain ⟨j, e', g1, g2, g3, g4⟩ := h3 p hp
        refine ⟨j + 1, e', by omega, g2, g3, fun v k' => ?_⟩
        simp only [List.modify_succ_cons, fndS, ha]
        by_cases h5 : a = k'
        · subst h5
          simp [hak]
        · simp only [h5, if_false]
          exact g4 v k'
theorem fndS_push (l : List MapEntry) (k : ByteArray) (v : Value) (b : Nat) (h : fndS l k = none) (hk : StrKeys l) (k' : ByteArray) : fndS (l ++ [{ key := .string k, val := v, born := b }]) k' = if k' = k then some v else fndS l k' := by
  induction l with
  | nil =>
    simp only [List.nil_append, fndS]
    by_cases h1 : k' = k
    · subst h1; simp
    · have : ¬ k = k' := fun e => h1 e.symm
      simp [h1, this]
  | cons e l ih =>
    obtain ⟨a, ha⟩ := hk e (.head _)
    simp only [List.cons_append, fndS, ha] at h ⊢
    by_cases h2 : a = k
    · simp [h2] at h
    · rw [if_neg h2] at h
      by_cases h3 : a = k'
      · subst h3
        simp [h2]
      · simp only [h3, if_false]
        exact ih h (fun e he => hk e (.tail _ he))

theorem strKeys_modify (l : List MapEntry) (h : StrKeys l) (j : Nat) (k : ByteArray) (v : Value) : StrKeys (l.modify j fun e => { e with key := .string k, val := v }) := by
  intro e he
  obtain ⟨i, hi⟩ := List.mem_iff_getElem?.1 he
  rw [List.getElem?_modify] at hi
  cases hx : l[i]? with
  | none => rw [hx] at hi; cases hi
  | some x =>
    rw [hx] at hi
    by_cases hj : j = i
    · subst hj
      simp at hi
      subst hi
      exact ⟨k, rfl⟩
    · simp [hj] at hi
      subst hi
      exact h x (List.mem_of_getElem? hx)

/-- A map by strings, in block r: kn says what it holds. -/
def MapS (w : World) (r : Nat) (kn : ByteArray → Option Value) : Prop := ∃ es c, w.heap[r]? = some (.map es c) ∧ StrKeys es.toList ∧ ∀ k, fndS es.toList k = kn k
theorem MapS.wr {w w' : World} {r : Nat} {kn : ByteArray → Option Value} {l : List Nat} (h : MapS w r kn) (hw : Wr l w w') (hr : r ∉ l) : MapS w' r kn := by
  obtain ⟨es, c, h1, h2, h3⟩ := h
  have hlt : r < w.heap.size := by
    rcases Nat.lt_or_ge r w.heap.size with h | h
    · exact h
    · rw [Array.getElem?_eq_none h] at h1; cases h1
  exact ⟨es, c, (hw.block r hlt hr).trans h1, h2, h3⟩
theorem MapS.lt {w : World} {r : Nat} {kn : ByteArray → Option Value} (h : MapS w r kn) : r < w.heap.size := by
  obtain ⟨es, c, h1, h2, h3⟩ := h
  rcases Nat.lt_or_ge r w.heap.size with h | h
  · exact h
  · rw [Array.getElem?_eq_none h] at h1; cases h1
theorem MapS.new (w : World) : MapS (w.alloc (.map #[] 0)) w.heap.size (fun _ => none) := ⟨#[], 0, heap_alloc_new w _, by simp [StrKeys], fun k => rfl⟩

section
variable {P : Program} {T K E : TypeId} (hu : P.underlying T = some (.map K E)) (hk : P.underlying K = some .string)
include hu hk
theorem mapS_upd {w : World} {r : Nat} {kn : ByteArray → Option Value} (h : MapS w r kn) (k : ByteArray) (v : Value) :
    ∃ W, (Instr.mapUpdate T (.map (some r)) (.string k) v).run P w = .ok () W ∧ Wr [r] w W ∧ MapS W r (fun j => if j = k then some v else kn j) := by
  have hr := h.lt
  obtain ⟨es, c, h1, h2, h3⟩ := h
  have hc : ∀ w, (Instr.checkKey false 10000 K (.string k)).run P w = .ok () w := fun w => MapKept.run_checkKey hk (by simp [MapKept.IsKey]) false 9999
  have hW : ∀ o, Wr [r] w { w with heap := w.heap.setIfInBounds r o } := fun o => ⟨rfl, rfl, rfl, by simp, fun j _ hj => by
    have : r ≠ j := fun e => hj (by simp [e])
    simp [this]⟩
  have hH : ∀ o, (w.heap.setIfInBounds r o)[r]? = some o := fun o => by simp [hr]
  obtain ⟨o, g1, g2, g3⟩ := findNow_str es.toList k 0 h2
  cases o with
  | none =>
    refine ⟨_, ins_at hu hk w r es c (.string k) v h1 hc g1, hW _, _, _, hH _, ?_, ?_⟩
    · intro e he
      simp only [Array.toList_push, List.mem_append, List.mem_singleton] at he
      rcases he with he | rfl
      · exact h2 e he
      · exact ⟨k, rfl⟩
    · intro k'
      rw [Array.toList_push, fndS_push es.toList k v c g2.symm h2 k', h3]
  | some p =>
    obtain ⟨j, e, q1, q2, q3, q4⟩ := g3 p rfl
    have hj : es[p.1]? = some e := by
      rw [q1, Nat.zero_add, ← Array.getElem?_toList]
      exact q2
    have hrun : (Instr.mapUpdate T (.map (some r)) (.string k) v).run P w = .ok () { w with heap := w.heap.setIfInBounds r (.map (es.modify p.1 fun e => { e with key := .string k, val := v }) c) } := by
      obtain ⟨a, b⟩ := p
      simp only at hj
      simp [Instr.mapUpdate, run_underlying hu, Sem.run_bind, hc, Instr.findKey, run_underlying hk, g1, getObj, setObj, Sem.run, h1, Result.andThen, hj, q3]
      have := MapKept.run_keyThatStays (P := P) (w := w) (d := .string) (k := .string k) (by simp [MapKept.IsKey])
      rw [this]
      simp [h1]
    refine ⟨_, hrun, hW _, _, _, hH _, ?_, ?_⟩
    · rw [Array.toList_modify]
      exact strKeys_modify _ h2 _ _ _
    · intro k'
      rw [Array.toList_modify, q1, Nat.zero_add, q4 v k', h3]
theorem mapS_look {w : World} {r : Nat} {kn : ByteArray → Option Value} (h : MapS w r kn) (k : ByteArray) {z : Value} (hz : ∀ w, (zeroValue E).run P w = .ok z w) :
    (Instr.lookup T (.map (some r)) (.string k) true).run P w = .ok (.tuple #[(kn k).getD z, .bool (kn k).isSome]) w := by
  obtain ⟨es, c, h1, h2, h3⟩ := h
  obtain ⟨o, g1, g2, _⟩ := findNow_str es.toList k 0 h2
  have hc : ∀ b w, (Instr.checkKey b 10000 K (.string k)).run P w = .ok () w := fun b w => MapKept.run_checkKey hk (by simp [MapKept.IsKey]) b 9999
  have := look_at hu hk w r es c (.string k) o z h1 hc g1 hz true
  rw [g2, h3] at this
  have e : o.isSome = (kn k).isSome := by rw [← h3 k, ← g2]; cases o <;> rfl
  rw [e] at this
  exact this
theorem mapS_look1 {w : World} {r : Nat} {kn : ByteArray → Option Value} (h : MapS w r kn) (k : ByteArray) {z : Value} (hz : ∀ w, (zeroValue E).run P w = .ok z w) :
    (Instr.lookup T (.map (some r)) (.string k) false).run P w = .ok ((kn k).getD z) w := by
  obtain ⟨es, c, h1, h2, h3⟩ := h
  obtain ⟨o, g1, g2, _⟩ := findNow_str es.toList k 0 h2
  have hc : ∀ b w, (Instr.checkKey b 10000 K (.string k)).run P w = .ok () w := fun b w => MapKept.run_checkKey hk (by simp [MapKept.IsKey]) b 9999
  have := look_at hu hk w r es c (.string k) o z h1 hc g1 hz false
  rw [g2, h3] at this
  exact this
end
end Go.Proofs.Ytjanbpchedgoiaa
