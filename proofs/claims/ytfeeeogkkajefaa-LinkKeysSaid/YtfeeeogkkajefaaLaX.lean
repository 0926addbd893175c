/- A key that is changed: the plain part, and the row with one object's cells stored anew. No conditions. -/
import Derived.Test.YtfeeeogkkajefaaLaR
namespace Go.Proofs.Ytfeeeogkkajefaa
open Go.RowKit
set_option linter.unusedVariables false
set_option linter.unusedSimpArgs false

theorem xor_same {a b : Nat} : a ^^^ b = a ↔ b = 0 := by
  constructor
  · intro h
    have h2 : a ^^^ (a ^^^ b) = a ^^^ a := by rw [h]
    rwa [← Nat.xor_assoc, Nat.xor_self, Nat.zero_xor] at h2
  · rintro rfl
    exact Nat.xor_zero a
/-- One object's key changed, in the row. -/
theorem RowO.rekey {w wr : World} {l : List ObjD} {g cap : Nat} (h : RowO w wr l (.slice (some ⟨g, 0, none⟩) l.length cap)) {p : Nat} {o : ObjD} (hp : l[p]? = some o) (key : Int) :
    ∃ vu vp vi vn, (∀ j u, (o.cells vu vp vi vn)[j]? = some u → wr.cell? ⟨g, p * 9 + j, none⟩ = some u) ∧ ObjL wr (fun b => b < w.heap.size) vu vp vi vn o ∧ w.heap.size ≤ g ∧ (∀ j, wr.frozen? ⟨g, j, none⟩ = false) ∧
      ∀ W0, Wr [] wr W0 → (∀ j, W0.frozen? ⟨g, j, none⟩ = false) ∧ ∀ W, W = (((((((((W0.setCell ⟨g, p * 9, none⟩ (.string o.module)).setCell ⟨g, p * 9 + 1, none⟩ (.bool o.main)).setCell ⟨g, p * 9 + 2, none⟩ (.int .u64 key)).setCell ⟨g, p * 9 + 3, none⟩ vu).setCell ⟨g, p * 9 + 4, none⟩ (.string o.mod.code)).setCell ⟨g, p * 9 + 5, none⟩ vp).setCell ⟨g, p * 9 + 6, none⟩ vi).setCell ⟨g, p * 9 + 7, none⟩ (.int .i64 o.mod.data)).setCell ⟨g, p * 9 + 8, none⟩ vn) →
        Wr [g] W0 W ∧ RowO w W (l.set p { o with key := key }) (.slice (some ⟨g, 0, none⟩) l.length cap) := by
  obtain ⟨xs, h1, h2, h3⟩ := h
  obtain ⟨vu, vp, vi, vn, e1, e2⟩ := h3 p o hp
  have hg := h1.lt g rfl
  have hpl := (List.getElem?_eq_some_iff.1 hp).1
  refine ⟨vu, vp, vi, vn, fun j u hj => ?_, e2, hg.1, fun j => h1.frozenAt j, ?_⟩
  · have := h1.cells (g := g) rfl _ u (e1 j u hj)
    simpa [Addr.add_lit] using this
  · intro W0 hw0
    replace h1 := own_keep h1 hw0 (fun _ _ => by simp)
    replace e2 := e2.wr0 hw0
    replace h3 := fun i o hi => ((h3 i o hi).imp fun _ => .imp fun _ => .imp fun _ => .imp fun _ h => And.intro h.1 (ObjL.wr0 h.2 hw0) : ∃ vu vp vi vn, (∀ (j : Nat) (u : Value), (o.cells vu vp vi vn)[j]? = some u → xs[i * 9 + j]? = some u) ∧ ObjL W0 (fun b => b < w.heap.size) vu vp vi vn o)
    refine ⟨fun j => h1.frozenAt j, ?_⟩
    rintro W rfl
    have keep : ∀ {q : World} {j : Nat} {u : Value}, Wr [g] W0 q → Wr [g] W0 (q.setCell ⟨g, j, none⟩ u) := fun hq => hq.setOn (by simp) _
    have hW : Wr [g] W0 (((((((((W0.setCell ⟨g, p * 9, none⟩ (.string o.module)).setCell ⟨g, p * 9 + 1, none⟩ (.bool o.main)).setCell ⟨g, p * 9 + 2, none⟩ (.int .u64 key)).setCell ⟨g, p * 9 + 3, none⟩ vu).setCell ⟨g, p * 9 + 4, none⟩ (.string o.mod.code)).setCell ⟨g, p * 9 + 5, none⟩ vp).setCell ⟨g, p * 9 + 6, none⟩ vi).setCell ⟨g, p * 9 + 7, none⟩ (.int .i64 o.mod.data)).setCell ⟨g, p * 9 + 8, none⟩ vn) := keep (keep (keep (keep (keep (keep (keep (keep (keep (Wr.refl [g] W0)))))))))
    refine ⟨hW, ?_⟩
    have s := ((((((((((h1.stored (p * 9) (.string o.module)).1.stored (p * 9 + 1) (.bool o.main)).1.stored (p * 9 + 2) (.int .u64 key)).1.stored (p * 9 + 3) vu).1.stored (p * 9 + 4) (.string o.mod.code)).1.stored (p * 9 + 5) vp).1.stored (p * 9 + 6) vi).1.stored (p * 9 + 7) (.int .i64 o.mod.data)).1.stored (p * 9 + 8) vn).1)
    have hset : ∀ (ys : List Value) (j : Nat) (u : Value), ys[j]? = some u → ys.set j u = ys := by
      intro ys j u hu
      obtain ⟨hj, rfl⟩ := List.getElem?_eq_some_iff.1 hu
      exact List.set_getElem_self hj
    have x0 := e1 0 _ rfl
    have x1 := e1 1 _ rfl
    have x3 := e1 3 _ rfl
    have x4 := e1 4 _ rfl
    have x5 := e1 5 _ rfl
    have x6 := e1 6 _ rfl
    have x7 := e1 7 _ rfl
    have x8 := e1 8 _ rfl
    simp only [Nat.add_zero] at x0
    have far : ∀ (j : Nat) (u : Value), j ≠ 2 → xs[p * 9 + j]? = some u → (xs.set (p * 9 + 2) (.int .u64 key))[p * 9 + j]? = some u := by
      intro j u hj hu
      rw [List.getElem?_set_ne (by omega)]
      exact hu
    rw [hset xs _ _ x0, hset xs _ _ x1, hset _ _ _ (far 3 _ (by decide) x3), hset _ _ _ (far 4 _ (by decide) x4), hset _ _ _ (far 5 _ (by decide) x5), hset _ _ _ (far 6 _ (by decide) x6), hset _ _ _ (far 7 _ (by decide) x7), hset _ _ _ (far 8 _ (by decide) x8)] at s
    have hnot : ∀ b, b < w.heap.size → b ∉ [g] := fun b hb hm => by
      simp only [List.mem_singleton] at hm
      omega
    refine ⟨_, by rw [List.length_set]; exact s, fun u hu => ?_, fun i y hi => ?_⟩
    · rcases List.mem_or_eq_of_mem_set hu with hu | hu
      · exact h2 u hu
      · rw [hu]; rfl
    · rw [List.getElem?_set] at hi
      by_cases hip : p = i
      · subst hip
        rw [if_pos rfl, if_pos hpl] at hi
        injection hi with hi
        subst hi
        refine ⟨vu, vp, vi, vn, fun j u hj => ?_, ⟨(e2.keep hW hnot).uses, (e2.keep hW hnot).mod⟩⟩
        rcases Nat.lt_trichotomy j 2 with hj2 | hj2 | hj2
        · refine far j u (by omega) (e1 j u ?_)
          match j, hj2 with
          | 0, _ => exact hj
          | 1, _ => exact hj
        · subst hj2
          have hl := (List.getElem?_eq_some_iff.1 (e1 2 _ rfl)).1
          rw [List.getElem?_set_self hl]
          exact hj
        · refine far j u (by omega) (e1 j u ?_)
          match j, hj2 with
          | j + 3, _ => exact hj
      · rw [if_neg hip] at hi
        obtain ⟨vu', vp', vi', vn', a1, a2⟩ := h3 i y hi
        refine ⟨vu', vp', vi', vn', fun j u hj => ?_, a2.keep hW hnot⟩
        have hj9 : j < 9 := (List.getElem?_eq_some_iff.1 hj).1
        rw [List.getElem?_set_ne (by omega)]
        exact a1 j u hj
end Go.Proofs.Ytfeeeogkkajefaa
