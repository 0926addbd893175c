/- An argument that is a list of objects, opened. No conditions. -/
import Derived.Test.YtfeeeogkkajefaaLkE
import Derived.Test.YtfeeeogkkajefaaArgsS
import Derived.Deep.Grids
namespace Go.Proofs.Ytfeeeogkkajefaa
open Go.ChangeShapes Go.WideShapes Go.ChangeAt Go.RowKit Go.Deep
set_option linter.unusedVariables false
set_option linter.unusedSimpArgs false

section
variable {H : Type} {enc : TypeId × Value → H} {P : Program} {w : World} {base : Nat} {held : Bool} {spare : Nat → Bool}
theorem open_things {α : Type} {t e : TypeId} {S : Nat} (R : α → List Value → Prop) (ht : P.underlying t = some (.slice e)) (hC : P.cellsOf e = S) (hS : 0 < S)
    (hel : ∀ n cs y, cs.length = S → DataW.trod enc P w base spare held n e cs = some y → ∃ x : α, R x cs) {n : Nat} {cs : List Value} {y : DataW H × List MemPlace} (h : DataW.trod enc P w base spare held n t cs = some y) :
    ∃ (l : List α) (v : Value) (xs : List Value), cs = [v] ∧ Sl w (fun _ => True) S v l.length xs ∧ ∀ i x, l[i]? = some x → ∃ c, c.length = S ∧ R x c ∧ ∀ (k : Nat) (u : Value), c[k]? = some u → xs[i * S + k]? = some u := by
  rcases open_slice ht h with ⟨h0, _⟩ | ⟨a, len, cap, m, n', D, Pl, hcs, hb, hl, hm, hmm, hx, hi⟩
  · exact ⟨[], _, [], h0, Sl.nil _ _ _, fun i x hx => by simp at hx⟩
  · have hlm : len ≤ m := by rw [hmm]; split <;> omega
    have hh : ∀ i : Fin len, ∃ p : α × List Value, p.2.length = S ∧ R p.1 p.2 ∧ ∀ k, k < S → w.cell? (a.add (i.1 * S + k)) = p.2[k]? := by
      intro i
      obtain ⟨cs', hc, ht'⟩ := hi i.1 (by have := i.2; omega)
      rw [hC] at hc
      obtain ⟨_, hcl, hat⟩ := World.cells?_some hc
      obtain ⟨x, hx⟩ := hel _ _ _ hcl ht'
      refine ⟨(x, cs'), hcl, hx, fun k hk => ?_⟩
      rw [← Go.Deep.add_add]
      exact hat k hk
    obtain ⟨F, hF⟩ := Classical.axiomOfChoice hh
    let V : Nat → Value := fun j => (w.cell? (a.add j)).getD (.bool false)
    have hV : ∀ j, j < len * S → w.cell? (a.add j) = some (V j) := by
      intro j hj
      have h1 : j / S < len := Nat.div_lt_of_lt_mul (by rw [Nat.mul_comm]; exact hj)
      have h2 : j % S < S := Nat.mod_lt _ hS
      obtain ⟨g1, g2, g3⟩ := hF ⟨j / S, h1⟩
      have := g3 (j % S) h2
      have e : j / S * S + j % S = j := by rw [Nat.mul_comm]; exact Nat.div_add_mod j S
      simp only [e] at this
      rw [List.getElem?_eq_getElem (by omega)] at this
      simp only [V, this, Option.getD_some]
    have hll : (List.ofFn (fun i => (F i).1)).length = len := by simp
    refine ⟨List.ofFn (fun i => (F i).1), .slice (some a) len cap, (List.range (len * S)).map V, hcs, ?_, fun i x hx => ?_⟩
    · rw [hll]
      refine ⟨some a, cap, rfl, hl, hm, by simp, fun j u hj => ?_⟩
      have hjl : j < len * S := by
        have := (List.getElem?_eq_some_iff.1 hj).1
        simpa using this
      rw [List.getElem?_map, List.getElem?_range hjl] at hj
      have hc := hV j hjl
      injection hj with hj
      rw [hj] at hc
      obtain ⟨b, off, spot⟩ := a
      have hspot : spot = none := by
        have := hV 0 (by omega)
        simpa [Addr.add] using World.cell?_spot this
      subst hspot
      exact ⟨b, off, rfl, trivial, by simpa [Addr.add_lit] using hc⟩
    · have hil : i < len := by
        have := (List.getElem?_eq_some_iff.1 hx).1
        omega
      obtain ⟨g1, g2, g3⟩ := hF ⟨i, hil⟩
      have hxe : x = (F ⟨i, hil⟩).1 := by
        rw [List.getElem?_ofFn] at hx
        simpa [hil] using hx.symm
      refine ⟨_, g1, by rw [hxe]; exact g2, fun k u hk => ?_⟩
      have hkS : k < S := by
        have := (List.getElem?_eq_some_iff.1 hk).1
        omega
      have hj : i * S + k < len * S := by
        have : (i + 1) * S ≤ len * S := Nat.mul_le_mul_right _ hil
        rw [Nat.succ_mul] at this
        omega
      rw [List.getElem?_map, List.getElem?_range hj]
      have h1 := g3 k hkS
      simp only at h1
      rw [hk] at h1
      have h2 := hV _ hj
      rw [h2] at h1
      exact h1
theorem flat_len {α : Type} {g : α → List Value} {S : Nat} (hg : ∀ x, (g x).length = S) : ∀ l : List α, (l.flatMap g).length = l.length * S
  | [] => by simp
  | x :: l => by rw [List.flatMap_cons, List.length_append, hg, flat_len hg l, List.length_cons, Nat.succ_mul]; omega
theorem flat_of {α : Type} {g : α → List Value} {S : Nat} (hS : 0 < S) (hg : ∀ x, (g x).length = S) {l : List α} {xs : List Value} (hx : xs.length = l.length * S) (h : ∀ (i : Nat) (x : α), l[i]? = some x → ∀ (k : Nat) (u : Value), (g x)[k]? = some u → xs[i * S + k]? = some u) : xs = l.flatMap g := by
  apply List.ext_getElem?
  intro j
  rcases Nat.lt_or_ge j (l.length * S) with hj | hj
  · have h1 : j / S < l.length := Nat.div_lt_of_lt_mul (by rw [Nat.mul_comm]; exact hj)
    have h2 : j % S < S := Nat.mod_lt _ hS
    have e : j / S * S + j % S = j := by rw [Nat.mul_comm]; exact Nat.div_add_mod j S
    have hxi : l[j / S]? = some l[j / S] := List.getElem?_eq_getElem h1
    have hu : (g l[j / S])[j % S]? = some ((g l[j / S])[j % S]'(by rw [hg]; exact h2)) := List.getElem?_eq_getElem _
    have a1 := h _ _ hxi _ _ hu
    have a2 := flat_at hg l _ _ _ hxi h2
    rw [e] at a1 a2
    rw [a1, a2, hu]
  · rw [List.getElem?_eq_none (by omega), List.getElem?_eq_none (by rw [flat_len hg]; omega)]
/-- A slice of things of known cells. -/
theorem open_flat {α : Type} {t e : TypeId} {S : Nat} (g : α → List Value) (hg : ∀ x, (g x).length = S) (ht : P.underlying t = some (.slice e)) (hC : P.cellsOf e = S) (hS : 0 < S)
    (hel : ∀ n cs y, cs.length = S → DataW.trod enc P w base spare held n e cs = some y → ∃ x : α, cs = g x) {n : Nat} {cs : List Value} {y : DataW H × List MemPlace} (h : DataW.trod enc P w base spare held n t cs = some y) :
    ∃ (l : List α) (v : Value), cs = [v] ∧ Sl w (fun _ => True) S v l.length (l.flatMap g) := by
  obtain ⟨l, v, xs, h1, h2, h3⟩ := open_things (fun x c => c = g x) ht hC hS hel h
  have hl : xs.length = l.length * S := by
    obtain ⟨A, c, _, _, _, hl, _⟩ := h2
    exact hl
  have := flat_of hS hg hl (fun i x hi k u hk => by
    obtain ⟨c, _, rfl, hc⟩ := h3 i x hi
    exact hc k u hk)
  rw [this] at h2
  exact ⟨l, v, h1, h2⟩
theorem fields {e : TypeId} {fs : Array Field} {n : Nat} {cs : List Value} {y : DataW H × List MemPlace} (he : P.underlying e = some (.struct fs)) (h : DataW.trod enc P w base spare held n e cs = some y) :
    ∃ n', ∀ (j : Nat) (T : TypeId) (o S : Nat), fs[j]?.map (fun f => (f.type, f.offset)) = some (T, o) → P.cellsOf T = S → ∃ y', DataW.trod enc P w base spare held n' T ((cs.drop o).take S) = some y' := by
  obtain ⟨ys, n', hn', hy, hlen, hyl, hf⟩ := DataW.trod_struct he h
  refine ⟨n', fun j T o S hj hS => ?_⟩
  cases hfj : fs[j]? with
  | none => rw [hfj] at hj; cases hj
  | some f =>
    rw [hfj] at hj
    simp only [Option.map_some, Option.some.injEq, Prod.mk.injEq] at hj
    obtain ⟨rfl, rfl⟩ := hj
    have hjl : j < fs.size := (Array.getElem?_eq_some_iff.1 hfj).1
    rw [← hS]
    exact ⟨_, (hf j f hfj).trans (List.getElem?_eq_getElem (by omega))⟩
theorem open_ints1 {t e : TypeId} {k : IntKind} (ht : P.underlying t = some (.slice e)) (he : P.underlying e = some (.int k)) (hC : P.cellsOf e = 1) {n : Nat} {cs : List Value} {y : DataW H × List MemPlace} (h : DataW.trod enc P w base spare held n t cs = some y) :
    ∃ (l : List Int) (v : Value), cs = [v] ∧ Sl w (fun _ => True) 1 v l.length (l.map (Value.int k)) := by
  obtain ⟨l, v, h1, h2⟩ := open_flat (fun x => [Value.int k x]) (fun _ => rfl) ht hC (by decide) (fun n cs y _ h => by
    obtain ⟨z, e, _⟩ := DataW.trod_int he h
    exact ⟨z, e⟩) h
  refine ⟨l, v, h1, ?_⟩
  have : l.flatMap (fun x => [Value.int k x]) = l.map (Value.int k) := by
    clear h2
    induction l with
    | nil => rfl
    | cons a l ih => simp [List.flatMap_cons, ih]
  rw [← this]
  exact h2
end

section
variable {H : Type} {enc : TypeId × Value → H} {w : World} {base : Nat} {held : Bool} {spare : Nat → Bool} {n : Nat} {cs : List Value} {y : DataW H × List MemPlace}
theorem c_int : Try.prog.cellsOf 3 = 1 := by kernel_rfl
theorem c_bool : Try.prog.cellsOf 4 = 1 := by kernel_rfl
theorem c_u64 : Try.prog.cellsOf 45 = 1 := by kernel_rfl
theorem c_u16 : Try.prog.cellsOf 78 = 1 := by kernel_rfl
theorem c_str : Try.prog.cellsOf 9 = 1 := by kernel_rfl
theorem c_prcs : Try.prog.cellsOf 47 = 1 := by kernel_rfl
theorem c_uses : Try.prog.cellsOf 46 = 1 := by kernel_rfl
theorem c_ints : Try.prog.cellsOf 27 = 1 := by kernel_rfl
theorem c_u16s : Try.prog.cellsOf 48 = 1 := by kernel_rfl
theorem c_prc : Try.prog.cellsOf 59 = 6 := by kernel_rfl
theorem c_use : Try.prog.cellsOf 54 = 2 := by kernel_rfl
theorem c_mod : Try.prog.cellsOf 50 = 5 := by kernel_rfl
theorem c_obj : Try.prog.cellsOf 52 = 9 := by kernel_rfl
set_option maxRecDepth 100000 in
theorem open_prc (hl : cs.length = 6) (h : DataW.trod enc Try.prog w base spare held n 59 cs = some y) : ∃ p : PrcD, cs = p.cells := by
  obtain ⟨n', hf⟩ := fields Try.underlying59 h
  match cs, hl with
  | [c0, c1, c2, c3, c4, c5], _ =>
    obtain ⟨y0, h0⟩ := hf 0 3 0 _ rfl c_int
    obtain ⟨y1, h1⟩ := hf 1 3 1 _ rfl c_int
    obtain ⟨y2, h2⟩ := hf 2 3 2 _ rfl c_int
    obtain ⟨y3, h3⟩ := hf 3 3 3 _ rfl c_int
    obtain ⟨y4, h4⟩ := hf 4 3 4 _ rfl c_int
    obtain ⟨y5, h5⟩ := hf 5 4 5 _ rfl c_bool
    obtain ⟨z0, e0, _⟩ := DataW.trod_int Try.underlying3 h0
    obtain ⟨z1, e1, _⟩ := DataW.trod_int Try.underlying3 h1
    obtain ⟨z2, e2, _⟩ := DataW.trod_int Try.underlying3 h2
    obtain ⟨z3, e3, _⟩ := DataW.trod_int Try.underlying3 h3
    obtain ⟨z4, e4, _⟩ := DataW.trod_int Try.underlying3 h4
    obtain ⟨z5, e5, _⟩ := DataW.trod_bool Try.underlying4 h5
    simp only [List.drop_zero, List.drop_succ_cons, List.take_succ_cons, List.take_zero, List.cons.injEq, and_true] at e0 e1 e2 e3 e4 e5
    subst e0 e1 e2 e3 e4 e5
    exact ⟨⟨z0, z1, z2, z3, z4, z5⟩, rfl⟩
set_option maxRecDepth 100000 in
theorem open_use (hl : cs.length = 2) (h : DataW.trod enc Try.prog w base spare held n 54 cs = some y) : ∃ p : UseD, cs = p.cells := by
  obtain ⟨n', hf⟩ := fields Try.underlying54 h
  match cs, hl with
  | [c0, c1], _ =>
    obtain ⟨y0, h0⟩ := hf 0 9 0 _ rfl c_str
    obtain ⟨y1, h1⟩ := hf 1 45 1 _ rfl c_u64
    obtain ⟨z0, e0, _⟩ := DataW.trod_string Try.underlying9 h0
    obtain ⟨z1, e1, _⟩ := DataW.trod_int Try.underlying45 h1
    simp only [List.drop_zero, List.drop_succ_cons, List.take_succ_cons, List.take_zero, List.cons.injEq, and_true] at e0 e1
    subst e0 e1
    exact ⟨⟨z0, z1⟩, rfl⟩
set_option maxRecDepth 100000 in
theorem open_mod (hl : cs.length = 5) (h : DataW.trod enc Try.prog w base spare held n 50 cs = some y) : ∃ (m : ModD) (vp vi vn : Value), cs = m.cells vp vi vn ∧ ModL w (fun _ => True) vp vi vn m := by
  obtain ⟨n', hf⟩ := fields Try.underlying50 h
  match cs, hl with
  | [c0, c1, c2, c3, c4], _ =>
    obtain ⟨y0, h0⟩ := hf 0 9 0 _ rfl c_str
    obtain ⟨y1, h1⟩ := hf 1 47 1 _ rfl c_prcs
    obtain ⟨y2, h2⟩ := hf 2 27 2 _ rfl c_ints
    obtain ⟨y3, h3⟩ := hf 3 3 3 _ rfl c_int
    obtain ⟨y4, h4⟩ := hf 4 48 4 _ rfl c_u16s
    obtain ⟨z0, e0, _⟩ := DataW.trod_string Try.underlying9 h0
    obtain ⟨l1, v1, e1, s1⟩ := open_flat PrcD.cells (S := 6) (fun _ => rfl) Try.underlying47 c_prc (by decide) (fun n cs y hl h => open_prc hl h) h1
    obtain ⟨l2, v2, e2, s2⟩ := open_ints1 Try.underlying27 Try.underlying3 c_int h2
    obtain ⟨z3, e3, _⟩ := DataW.trod_int Try.underlying3 h3
    obtain ⟨l4, v4, e4, s4⟩ := open_ints1 Try.underlying48 Try.underlying78 c_u16 h4
    simp only [List.drop_zero, List.drop_succ_cons, List.take_succ_cons, List.take_zero, List.cons.injEq, and_true] at e0 e1 e2 e3 e4
    subst e0 e1 e2 e3 e4
    exact ⟨⟨z0, l1, l2, z3, l4⟩, _, _, _, rfl, ⟨s1, s2, s4⟩⟩
set_option maxRecDepth 100000 in
theorem open_obj (hl : cs.length = 9) (h : DataW.trod enc Try.prog w base spare held n 52 cs = some y) : ∃ (o : ObjD) (vu vp vi vn : Value), cs = o.cells vu vp vi vn ∧ ObjL w (fun _ => True) vu vp vi vn o ∧ (Lit.int .u64 o.key).wf = true := by
  obtain ⟨n', hf⟩ := fields Try.underlying52 h
  match cs, hl with
  | [c0, c1, c2, c3, c4, c5, c6, c7, c8], _ =>
    obtain ⟨y0, h0⟩ := hf 0 9 0 _ rfl c_str
    obtain ⟨y1, h1⟩ := hf 1 4 1 _ rfl c_bool
    obtain ⟨y2, h2⟩ := hf 2 45 2 _ rfl c_u64
    obtain ⟨y3, h3⟩ := hf 3 46 3 _ rfl c_uses
    obtain ⟨y4, h4⟩ := hf 4 50 4 _ rfl c_mod
    obtain ⟨z0, e0, _⟩ := DataW.trod_string Try.underlying9 h0
    obtain ⟨z1, e1, _⟩ := DataW.trod_bool Try.underlying4 h1
    obtain ⟨z2, e2, _, w2⟩ := DataW.trod_int Try.underlying45 h2
    obtain ⟨l3, v3, e3, s3⟩ := open_flat UseD.cells (S := 2) (fun _ => rfl) Try.underlying46 c_use (by decide) (fun n cs y hl h => open_use hl h) h3
    obtain ⟨m, vp, vi, vn, e4, s4⟩ := open_mod (by rfl) h4
    unfold ModD.cells at e4
    simp only [List.drop_zero, List.drop_succ_cons, List.take_succ_cons, List.take_zero, List.cons.injEq, and_true] at e0 e1 e2 e3 e4
    obtain ⟨e4, e5, e6, e7, e8⟩ := e4
    subst e0 e1 e2 e3 e4 e5 e6 e7 e8
    exact ⟨⟨z0, z1, z2, l3, m⟩, _, _, _, _, rfl, ⟨s3, s4⟩, w2⟩
end
theorem Sl.one {w : World} {P : Nat → Prop} {size n : Nat} {v : Value} {xs : List Value} (h : Sl w P size v n xs) : v.oneCell' = true := by
  obtain ⟨A, c, rfl, _⟩ := h
  rfl
set_option maxRecDepth 100000 in
theorem open_objsK {H : Type} {enc : TypeId × Value → H} {W : World} {r : Reach} {b0 : Nat} {v : Value} {d : DataW H} {p : List MemPlace}
    (hv : Value.okWide Try.prog W r b0 22 v) (h : DataW.Trod enc Try.prog W 0 (fun _ => true) true 22 v d p) : ∃ l, SlObjs W (fun _ => True) v l ∧ ∀ o ∈ l, (Lit.int .u64 o.key).wf = true := by
  obtain ⟨a, len, cap, rfl⟩ := okWide_slice Try.underlying22 hv
  obtain ⟨fuel, hf⟩ := h
  obtain ⟨l, v, xs, h1, h2, h3⟩ := open_things (fun (o : ObjD) c => ∃ vu vp vi vn, c = o.cells vu vp vi vn ∧ ObjL W (fun _ => True) vu vp vi vn o ∧ (Lit.int .u64 o.key).wf = true) Try.underlying22 c_obj (by decide) (fun n cs y hl h => open_obj hl h) hf
  simp only [Value.cells, List.cons.injEq, and_true] at h1
  subst h1
  have hl : xs.length = l.length * 9 := by
    obtain ⟨A, c, _, _, _, hl, _⟩ := h2
    exact hl
  refine ⟨l, ⟨xs, h2, fun u hu => ?_, fun i o hi => ?_⟩, fun o ho => ?_⟩
  · obtain ⟨j, hj⟩ := List.mem_iff_getElem?.1 hu
    have hjl : j < l.length * 9 := by
      have := (List.getElem?_eq_some_iff.1 hj).1
      omega
    have h1 : j / 9 < l.length := by omega
    obtain ⟨c, hc, ⟨vu, vp, vi, vn, rfl, ho, _⟩, hx⟩ := h3 (j / 9) _ (List.getElem?_eq_getElem h1)
    obtain ⟨u', hu'⟩ : ∃ u', (l[j / 9].cells vu vp vi vn)[j % 9]? = some u' := ⟨_, List.getElem?_eq_getElem (show j % 9 < (l[j / 9].cells vu vp vi vn).length by rw [hc]; omega)⟩
    have := hx _ _ hu'
    rw [show j / 9 * 9 + j % 9 = j by omega, hj] at this
    injection this with this
    subst this
    have hm := List.mem_of_getElem? hu'
    have a1 := Sl.one ho.uses
    have a2 := Sl.one ho.mod.procs
    have a3 := Sl.one ho.mod.imports
    have a4 := Sl.one ho.mod.init
    simp only [ObjD.cells, List.mem_cons, List.not_mem_nil, or_false] at hm
    rcases hm with rfl | rfl | rfl | rfl | rfl | rfl | rfl | rfl | rfl <;> first | rfl | assumption
  · obtain ⟨c, hc, ⟨vu, vp, vi, vn, rfl, ho, _⟩, hx⟩ := h3 i o hi
    exact ⟨vu, vp, vi, vn, hx, ho⟩
  · obtain ⟨i, hi⟩ := List.getElem?_of_mem ho
    obtain ⟨c, hc, ⟨vu, vp, vi, vn, _, _, hw⟩, _⟩ := h3 i o hi
    exact hw
theorem open_objs {H : Type} {enc : TypeId × Value → H} {W : World} {r : Reach} {b0 : Nat} {v : Value} {d : DataW H} {p : List MemPlace}
    (hv : Value.okWide Try.prog W r b0 22 v) (h : DataW.Trod enc Try.prog W 0 (fun _ => true) true 22 v d p) : ∃ l, SlObjs W (fun _ => True) v l := by
  obtain ⟨l, h1, _⟩ := open_objsK hv h
  exact ⟨l, h1⟩
end Go.Proofs.Ytfeeeogkkajefaa
