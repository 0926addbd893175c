/- ref 23's Link: the plain part. No conditions. -/
import Derived.Test.YtfeeeogkkajefaaRfF
import Derived.Test.YtfeeeogkkajefaaLkC
namespace Go.Proofs.Ytfeeeogkkajefaa
open Go.RowKit
set_option linter.unusedVariables false
set_option linter.unusedSimpArgs false

section
variable {P : Program} {ops : Array Oper} {md : Region.Mode}
/-- A condition that is owed all the time. -/
def Always (C : World → Prop) : Array Bool → World → Prop := fun _ w => C w
theorem always_take (C : World → Prop) {i : Nat} (l : Array Bool) (w : World) : Always C (l.setIfInBounds i true) w ↔ Always C l w := Iff.rfl
theorem yields_always {C : World → Prop} {i : Nat} {o : Oper} {v : Value} {a : Act}
    (h : (Region.wanted o (yielded ops a.tmps) = true ∧ ∀ w, C w → (execOp a.eval o).run P w = .ok (.value v) w) ∨ (Region.wanted o (yielded ops a.tmps) = false ∧ v = undef)) : YieldsL P md ops (Always C) i o v a :=
  h.imp (fun ⟨hw, hv⟩ => ⟨hw, fun l w hc hun hS => hv w hS⟩) id
end
theorem nodup_at_ {α : Type} {f : α → ByteArray} {l : List α} (hn : (l.map f).Nodup) {i j : Nat} {x y : α} (hi : l[i]? = some x) (hj : l[j]? = some y) (e : f x = f y) : i = j := by
  obtain ⟨h1, e1⟩ := List.getElem?_eq_some_iff.1 hi
  obtain ⟨h2, e2⟩ := List.getElem?_eq_some_iff.1 hj
  refine (List.getElem_inj (xs := l.map f) (h₀ := by simpa using h1) (h₁ := by simpa using h2) hn).1 ?_
  rw [List.getElem_map, List.getElem_map, e1, e2, e]
theorem ofP_objOf {l : List ObjD} (hn : (l.map ObjD.module).Nodup) (m : ByteArray) : ofP l m = objOf l m := by
  by_cases hm : m ∈ l.map ObjD.module
  · obtain ⟨o, ho, e⟩ := List.mem_map.1 hm
    obtain ⟨k, hk⟩ := List.getElem?_of_mem ho
    have h1 := objOf_uniq hn ho
    rw [e] at h1
    rw [h1]
    refine ofP_some hk e (fun i y hi hy e2 => ?_)
    have := nodup_at_ hn hk hy (by rw [e, e2])
    omega
  · rw [ofP_none (fun i y hy e => hm (List.mem_map.2 ⟨y, List.mem_of_getElem? hy, e⟩))]
    unfold objOf
    cases hl : lastOf (named l) m with
    | none => rfl
    | some v =>
      exfalso
      have := lastOf_mem hl
      obtain ⟨o, ho, e⟩ := List.mem_map.1 this
      injection e with e1 e2
      exact hm (List.mem_map.2 ⟨o, ho, e1⟩)
theorem idx_place {names : List ByteArray} (hn : names.Nodup) {m : ByteArray} (hm : m ∈ names) : idxP id names m = placeOf names m := by
  obtain ⟨k, hk⟩ := List.getElem?_of_mem hm
  rw [placeOf_eq hn hk]
  refine idxP_some (f := id) hk rfl (fun i y hi hy e => ?_)
  have := nodup_at_ (f := id) (by rw [List.map_id]; exact hn) hk hy e.symm
  omega
/-- What holds once the order stands. -/
structure OrdOk (l : List ObjD) (names : List ByteArray) : Prop where
  uniq : (l.map ObjD.module).Nodup
  nodup : names.Nodup
  obj : ∀ m ∈ names, ∃ o ∈ l, o.module = m ∧ ∀ u ∈ o.uses, u.module ∈ names
theorem ordOk {l : List ObjD} {main : ByteArray} (ho : (orderP (l.map needOf) main).2.2 = 0) : OrdOk l (orderP (l.map needOf) main).1 := by
  have hord : ∃ t, (orderP (l.map needOf) main) = (t.ord, ⟨#[]⟩, 0) ∧ twiceOf [] (l.map needOf) = none ∧ thr (allOf (l.map needOf)) ((l.map needOf).length + 1) main ⟨fun _ => 0, []⟩ = .ok t := by
    unfold orderP at ho ⊢
    cases ht : twiceOf [] (l.map needOf) with
    | some d => rw [ht] at ho; simp at ho
    | none =>
      rw [ht] at ho
      cases hr : thr (allOf (l.map needOf)) ((l.map needOf).length + 1) main ⟨fun _ => 0, []⟩ with
      | ok t => exact ⟨t, by simp only, rfl, rfl⟩
      | err who' e =>
        exfalso
        simp only [hr] at ho
        subst ho
        exact thr_err_ne _ _ _ _ _ hr
  obtain ⟨t, e, htw, hthr⟩ := hord
  rw [e]
  obtain ⟨hnd, _⟩ := twiceOf_none _ _ htw
  obtain ⟨hinv, _, _⟩ := thr_inv _ _ _ _ rfl (inv_start _) hthr
  refine ⟨by rw [← need_fst]; exact hnd, hinv.nodup, fun m hm => ?_⟩
  obtain ⟨i, hi⟩ := List.getElem?_of_mem hm
  obtain ⟨s, ha, hs⟩ := hinv.ahead i m hi
  obtain ⟨y, hy, e1, e2⟩ := (allOf_iff hnd m s).1 ha
  obtain ⟨o, ho', rfl⟩ := List.mem_map.1 hy
  refine ⟨o, ho', e1, fun u hu => ?_⟩
  obtain ⟨j, _, hj⟩ := hs u.module (by rw [← e2]; exact List.mem_map.2 ⟨u, hu, rfl⟩)
  exact List.mem_of_getElem? hj
theorem OrdOk.of {l : List ObjD} {names : List ByteArray} (h : OrdOk l names) {m : ByteArray} (hm : m ∈ names) {u : UseD} (hu : u ∈ (objOf l m).uses) : u.module ∈ names := by
  obtain ⟨o, ho, e, hus⟩ := h.obj m hm
  have := objOf_uniq h.uniq ho
  rw [e] at this
  rw [this] at hu
  exact hus u hu
theorem orderP_e {l : List NeedD} {f : ByteArray} : (orderP l f).2.2 = 0 ∨ (orderP l f).2.2 ≠ 0 := Classical.em _
theorem mis_at {l : List ObjD} {o : ObjD} {j : Nat} {u : UseD} (hj : o.uses[j]? = some u) (hne : (objOf l u.module).key ≠ u.key) : mismatch l o = true := by
  unfold mismatch
  rw [List.any_eq_true]
  exact ⟨u, List.mem_of_getElem? hj, decide_eq_true hne⟩
theorem mis_none {l : List ObjD} {o : ObjD} (h : ∀ (j : Nat) (u : UseD), j < o.uses.length → o.uses[j]? = some u → (objOf l u.module).key = u.key) : mismatch l o = false := by
  unfold mismatch
  rw [List.any_eq_false]
  intro u hu
  obtain ⟨j, hj⟩ := List.getElem?_of_mem hu
  simpa using h j u (List.getElem?_eq_some_iff.1 hj).1 hj
end Go.Proofs.Ytfeeeogkkajefaa
