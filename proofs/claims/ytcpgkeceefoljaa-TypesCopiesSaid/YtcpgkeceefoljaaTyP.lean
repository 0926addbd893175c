/- An argument that is a list of what types are made of, opened. No conditions. -/
import Derived.Test.YtcpgkeceefoljaaTyQ
import Derived.Test.YtcpgkeceefoljaaArgsS
import Derived.Deep.Grids
namespace Go.Proofs.Ytcpgkeceefoljaa
open Go.ChangeShapes Go.WideShapes Go.ChangeAt Go.RowKit Go.Deep
set_option linter.unusedVariables false

section
variable {H : Type} {enc : TypeId × Value → H} {P : Program} {w : World} {base : Nat} {held : Bool}
theorem inner_ints {t e : TypeId} {k : IntKind} {n : Nat} {v : Value} {y : DataW H × List MemPlace} (ht : P.underlying t = some (.slice e)) (he : P.underlying e = some (.int k)) (hC : P.cellsOf e = 1)
    (h : DataW.trod enc P w base (fun _ => true) held n t [v] = some y) :
    ∃ (A : Option Addr) (cap : Nat) (zs : List Int), v = .slice A zs.length cap ∧ zs.length ≤ cap ∧ cap ≤ maxLen ∧ (∀ i, i < zs.length → (Lit.int k (zs.getD i 0)).wf = true) ∧
      ∀ i, i < zs.length → ∃ b off, A = some ⟨b, off, none⟩ ∧ w.cell? ⟨b, off + i, none⟩ = some (.int k (zs.getD i 0)) := by
  rcases open_ints ht he hC h with ⟨hcs, _⟩ | ⟨x, l, c, zs, hcs, _, hl, hm, hz, _, hcell, hwz⟩
  · simp only [List.cons.injEq, and_true] at hcs
    subst hcs
    exact ⟨_, _, [], rfl, by simp, by simp, fun i hi => absurd hi (by simp), fun i hi => absurd hi (by simp)⟩
  · simp only [List.cons.injEq, and_true] at hcs
    subst hcs
    have hzl : zs.length = c := by simpa using hz
    have hlen : (zs.take l).length = l := by rw [List.length_take]; omega
    refine ⟨some x, c, zs.take l, by rw [hlen], by omega, hm, fun i hi => ?_, fun i hi => ?_⟩
    · have : (zs.take l).getD i 0 = zs[i]'(by omega) := by simp [List.getD, show i < l by omega, List.getElem?_eq_getElem (show i < zs.length by omega)]
      rw [this]
      exact hwz _ (List.getElem_mem _)
    · have hc := hcell i (by omega)
      obtain ⟨b, off, spot⟩ := x
      have hc0 := hcell 0 (by omega)
      have hspot : spot = none := by simpa [Addr.add] using World.cell?_spot hc0
      subst hspot
      refine ⟨b, off, rfl, ?_⟩
      have : (zs.take l).getD i 0 = zs.getD i 0 := by simp [List.getD, show i < l by omega]
      rw [this]
      simpa [Addr.add_lit] using hc
theorem inner_bools {t e : TypeId} {n : Nat} {v : Value} {y : DataW H × List MemPlace} (ht : P.underlying t = some (.slice e)) (he : P.underlying e = some .bool) (hC : P.cellsOf e = 1)
    (h : DataW.trod enc P w base (fun _ => true) held n t [v] = some y) :
    ∃ (A : Option Addr) (cap : Nat) (zs : List Bool), v = .slice A zs.length cap ∧ zs.length ≤ cap ∧ cap ≤ maxLen ∧
      ∀ i, i < zs.length → ∃ b off, A = some ⟨b, off, none⟩ ∧ w.cell? ⟨b, off + i, none⟩ = some (.bool (zs.getD i false)) := by
  rcases open_bools ht he hC h with ⟨hcs, _⟩ | ⟨x, l, c, B, hcs, _, hl, hm, _, hcell⟩
  · simp only [List.cons.injEq, and_true] at hcs
    subst hcs
    exact ⟨_, _, [], rfl, by simp, by simp, fun i hi => absurd hi (by simp)⟩
  · simp only [List.cons.injEq, and_true] at hcs
    subst hcs
    have hlen : ((List.range l).map B).length = l := by simp
    refine ⟨some x, c, (List.range l).map B, by rw [hlen], by omega, hm, fun i hi => ?_⟩
    have hc := hcell i (by omega)
    obtain ⟨b, off, spot⟩ := x
    have hc0 := hcell 0 (by omega)
    have hspot : spot = none := by simpa [Addr.add] using World.cell?_spot hc0
    subst hspot
    refine ⟨b, off, rfl, ?_⟩
    have : ((List.range l).map B).getD i false = B i := by simp [List.getD, List.getElem?_range (show i < l by omega)]
    rw [this]
    simpa [Addr.add_lit] using hc
end

set_option maxRecDepth 100000 in
theorem open_mades {H : Type} {enc : TypeId × Value → H} {W : World} {r : Reach} {b0 : Nat} {v : Value} {d : DataW H} {p : List MemPlace}
    (hv : Value.okWide Try.prog W r b0 40 v) (h : DataW.Trod enc Try.prog W 0 (fun _ => true) true 40 v d p) : ∃ l, IsMades W v l := by
  obtain ⟨a, len, cap, rfl⟩ := okWide_slice Try.underlying40 hv
  obtain ⟨fuel, hf⟩ := h
  rcases open_slice_fields Try.underlying40 Try.underlying61 (by kernel_rfl) (by kernel_rfl) hf with hcs | ⟨x, l, c, m, hcs, hl, hm, hmm, hi⟩
  · simp [Value.cells] at hcs
    obtain ⟨rfl, rfl, rfl⟩ := hcs
    exact ⟨[], _, _, rfl, by simp, by simp, by simp, fun i m hi => by simp at hi⟩
  · simp [Value.cells] at hcs
    obtain ⟨rfl, rfl, rfl⟩ := hcs
    have hlm : len ≤ m := by rw [hmm]; split <;> omega
    have hh : ∀ i, i < len → ∃ q : MadeD, q.ok ∧ ∃ b off, some x = some ⟨b, off, none⟩ ∧ MadeIn W b (off + i * 7) q := by
      intro i hil
      obtain ⟨n, hf⟩ := hi i (by omega)
      obtain ⟨v0, y0, hc0, ht0⟩ := hf 0 _ rfl
      obtain ⟨v1, y1, hc1, ht1⟩ := hf 1 _ rfl
      obtain ⟨v2, y2, hc2, ht2⟩ := hf 2 _ rfl
      obtain ⟨v3, y3, hc3, ht3⟩ := hf 3 _ rfl
      obtain ⟨v4, y4, hc4, ht4⟩ := hf 4 _ rfl
      obtain ⟨v5, y5, hc5, ht5⟩ := hf 5 _ rfl
      obtain ⟨v6, y6, hc6, ht6⟩ := hf 6 _ rfl
      obtain ⟨z0, e0, _, w0⟩ := DataW.trod_int Try.underlying5 ht0
      obtain ⟨z1, e1, _, w1⟩ := DataW.trod_int Try.underlying57 ht1
      obtain ⟨z2, e2, _, w2⟩ := DataW.trod_int Try.underlying57 ht2
      obtain ⟨z3, e3, _, w3⟩ := DataW.trod_int Try.underlying21 ht3
      obtain ⟨z4, e4, _, w4⟩ := DataW.trod_int Try.underlying21 ht4
      obtain ⟨A5, k5, z5, e5, g5, g5', w5, hz5⟩ := inner_ints Try.underlying58 Try.underlying57 (by kernel_rfl) ht5
      obtain ⟨A6, k6, z6, e6, g6, g6', hz6⟩ := inner_bools Try.underlying59 Try.underlying4 (by kernel_rfl) ht6
      simp only [List.cons.injEq, and_true] at e0 e1 e2 e3 e4
      subst e0 e1 e2 e3 e4 e5 e6
      obtain ⟨b, off, spot⟩ := x
      have hspot : spot = none := by
        obtain ⟨n', hf'⟩ := hi 0 (by omega)
        obtain ⟨v2, y2, hc2, _⟩ := hf' 0 _ rfl
        simpa [Addr.add] using World.cell?_spot hc2
      subst hspot
      refine ⟨⟨z0, z1, z2, z3, z4, z5, z6⟩, ⟨Go.bounds_u8 w0, Go.bounds_u16 w1, Go.bounds_u16 w2, Go.bounds_i32 w3, Go.bounds_i32 w4, fun i hi => Go.bounds_u16 (w5 i hi)⟩, b, off, rfl, A5, A6, k5, k6, ⟨g5, g5'⟩, ⟨g6, g6'⟩, ?_, ?_, ?_, ?_, ?_, ?_, ?_, hz5, hz6⟩
      · simpa [Addr.add_lit, Nat.add_assoc] using hc0
      · simpa [Addr.add_lit, Nat.add_assoc] using hc1
      · simpa [Addr.add_lit, Nat.add_assoc] using hc2
      · simpa [Addr.add_lit, Nat.add_assoc] using hc3
      · simpa [Addr.add_lit, Nat.add_assoc] using hc4
      · simpa [Addr.add_lit, Nat.add_assoc] using hc5
      · simpa [Addr.add_lit, Nat.add_assoc] using hc6
    let F : Nat → MadeD := fun i => if h : i < len then Classical.choose (hh i h) else ⟨0, 0, 0, 0, 0, [], []⟩
    have hF : ∀ i, i < len → (F i).ok ∧ ∃ b off, some x = some ⟨b, off, none⟩ ∧ MadeIn W b (off + i * 7) (F i) := fun i hil => by
      have := Classical.choose_spec (hh i hil)
      simpa [F, hil] using this
    have hlen : ((List.range len).map F).length = len := by simp
    refine ⟨(List.range len).map F, some x, cap, by rw [hlen], by omega, hm, fun m hm => ?_, fun i m hi => ?_⟩
    · obtain ⟨i, hi, rfl⟩ := List.mem_map.1 hm
      exact (hF i (List.mem_range.1 hi)).1
    · obtain ⟨j, hj, rfl⟩ := List.mem_map.1 (List.mem_of_getElem? hi)
      have hil : i < len := by
        have := (List.getElem?_eq_some_iff.1 hi).1
        omega
      have : F j = F i := by
        rw [List.getElem?_map, List.getElem?_range hil] at hi
        injection hi with hi
        exact hi.symm
      rw [this]
      exact (hF i hil).2
end Go.Proofs.Ytcpgkeceefoljaa
