/- Slices of things, structs by value, opened. No conditions. -/
import Derived.Test.YtildcdgobdfieaaGreatOT17
import Derived.Test.YtildcdgobdfieaaGreatOT37
import Derived.Deep.Grids
import Derived.Test.YtildcdgobdfieaaGreatOT02
import Derived.Test.YtildcdgobdfieaaGreatOT07
set_option linter.unusedVariables false
set_option linter.unusedSimpArgs false
set_option maxRecDepth 100000
set_option maxHeartbeats 32000000
namespace Go.Proofs.YtildcdgobdfieaaGreat
open Go.ChangeShapes Go.WideShapes Go.ChangeAt Go.RowKit Go.Deep
section
variable {H : Type} {enc : TypeId × Value → H} {P : Program} {w : World} {base : Nat} {held : Bool} {spare : Nat → Bool}
theorem open_things {α : Type} {t e : TypeId} {S : Nat} (R : α → List Value → Prop) (ht : P.underlying t = some (.slice e)) (hC : P.cellsOf e = S) (hS : 0 < S)
  (hel : ∀ n cs y, cs.length = S → DataW.trod enc P w base spare held n e cs = some y → ∃ x : α, R x cs) {n : Nat} {cs : List Value} {y : DataW H × List MemPlace} (h : DataW.trod enc P w base spare held n t cs = some y) :
  ∃ (l : List α) (v : Value) (xs : List Value), cs = [v] ∧ Sl w (fun _ => True) S v l.length xs ∧ ∀ i x, l[i]? = some x → ∃ c, c.length = S ∧ R x c ∧ ∀ (k : Nat) (u : Value), c[k]? = some u → xs[i * S + k]? = some u := by
 rcases open_slice ht h with ⟨h0, _⟩ | ⟨a, len, cap, m, n', D, Pl, hcs, hb, hl, hm, hmm, hx, hi⟩
 ·exact ⟨[], _, [], h0, Sl.nil _ _ _, fun i x hx => by simp at hx⟩
 ·have hlm : len ≤ m := by rw [hmm]; split <;> omega
  have hh : ∀ i : Fin len, ∃ p : α × List Value, p.2.length = S ∧ R p.1 p.2 ∧ ∀ k, k < S → w.cell? (a.add (i.1 * S + k)) = p.2[k]? := by
   intro i
   obtain ⟨cs', hc, ht'⟩ := hi i.1 (by have := i.2; omega)
   rw [hC] at hc
   obtain ⟨_, hcl, hat⟩ := World.cells?_some hc
   obtain ⟨x, hx⟩ := hel _ _ _ hcl ht'
   refine ⟨(x, cs'), hcl, hx, fun k hk => ?_⟩
   rw [← Go.Deep.add_add]
   exact hat k hk
  obtain ⟨F, hF⟩ := Classical.axiomOfChoice hh
  let V : Nat → Value := fun j => (w.cell? (a.add j)).getD (.bool false)
  have hV : ∀ j, j < len * S → w.cell? (a.add j) = some (V j) := by
   intro j hj
   have h1 : j / S < len := Nat.div_lt_of_lt_mul (by rw [Nat.mul_comm]; exact hj)
   have h2 : j % S < S := Nat.mod_lt _ hS
   obtain ⟨g1, g2, g3⟩ := hF ⟨j / S, h1⟩
   have := g3 (j % S) h2
   have e : j / S * S + j % S = j := by rw [Nat.mul_comm]; exact Nat.div_add_mod j S
   simp only [e] at this
   rw [List.getElem?_eq_getElem (by omega)] at this
   simp only [V, this, Option.getD_some]
  have hll : (List.ofFn (fun i => (F i).1)).length = len := by simp
  refine ⟨List.ofFn (fun i => (F i).1), .slice (some a) len cap, (List.range (len * S)).map V, hcs, ?_, fun i x hx => ?_⟩
  ·rw [hll]
   refine ⟨some a, cap, rfl, hl, hm, by simp, fun j u hj => ?_⟩
   have hjl : j < len * S := by
    have := (List.getElem?_eq_some_iff.1 hj).1
    simpa using this
   rw [List.getElem?_map, List.getElem?_range hjl] at hj
   have hc := hV j hjl
   injection hj with hj
   rw [hj] at hc
   obtain ⟨b, off, spot⟩ := a
   have hspot : spot = none := by
    have := hV 0 (by omega)
    simpa [Addr.add] using World.cell?_spot this
   subst hspot
   exact ⟨b, off, rfl, trivial, by simpa [Addr.add_lit] using hc⟩
  ·have hil : i < len := by
    have := (List.getElem?_eq_some_iff.1 hx).1
    omega
   obtain ⟨g1, g2, g3⟩ := hF ⟨i, hil⟩
   have hxe : x = (F ⟨i, hil⟩).1 := by
    rw [List.getElem?_ofFn] at hx
    simpa [hil] using hx.symm
   refine ⟨_, g1, by rw [hxe]; exact g2, fun k u hk => ?_⟩
   have hkS : k < S := by
    have := (List.getElem?_eq_some_iff.1 hk).1
    omega
   have hj : i * S + k < len * S := by
    have : (i + 1) * S ≤ len * S := Nat.mul_le_mul_right _ hil
    rw [Nat.succ_mul] at this
    omega
   rw [List.getElem?_map, List.getElem?_range hj]
   have h1 := g3 k hkS
   simp only at h1
   rw [hk] at h1
   have h2 := hV _ hj
   rw [h2] at h1
   exact h1
theorem flatO_len {α : Type} {g : α → List Value} {S : Nat} (hg : ∀ x, (g x).length = S) : ∀ l : List α, (l.flatMap g).length = l.length * S
 | [] => by simp
 | x :: l => by rw [List.flatMap_cons, List.length_append, hg, flatO_len hg l, List.length_cons, Nat.succ_mul]; omega
theorem flat_of {α : Type} {g : α → List Value} {S : Nat} (hS : 0 < S) (hg : ∀ x, (g x).length = S) {l : List α} {xs : List Value} (hx : xs.length = l.length * S) (h : ∀ (i : Nat) (x : α), l[i]? = some x → ∀ (k : Nat) (u : Value), (g x)[k]? = some u → xs[i * S + k]? = some u) : xs = l.flatMap g := by
 apply List.ext_getElem?
 intro j
 rcases Nat.lt_or_ge j (l.length * S) with hj | hj
 ·have h1 : j / S < l.length := Nat.div_lt_of_lt_mul (by rw [Nat.mul_comm]; exact hj)
  have h2 : j % S < S := Nat.mod_lt _ hS
  have e : j / S * S + j % S = j := by rw [Nat.mul_comm]; exact Nat.div_add_mod j S
  have hxi : l[j / S]? = some l[j / S] := List.getElem?_eq_getElem h1
  have hu : (g l[j / S])[j % S]? = some ((g l[j / S])[j % S]'(by rw [hg]; exact h2)) := List.getElem?_eq_getElem _
  have a1 := h _ _ hxi _ _ hu
  have a2 := flatF_at hg l _ _ _ hxi h2
  rw [e] at a1 a2
  rw [a1, a2, hu]
 ·rw [List.getElem?_eq_none (by omega), List.getElem?_eq_none (by rw [flatO_len hg]; omega)]
theorem open_flat {α : Type} {t e : TypeId} {S : Nat} (g : α → List Value) (hg : ∀ x, (g x).length = S) (ht : P.underlying t = some (.slice e)) (hC : P.cellsOf e = S) (hS : 0 < S)
  (hel : ∀ n cs y, cs.length = S → DataW.trod enc P w base spare held n e cs = some y → ∃ x : α, cs = g x) {n : Nat} {cs : List Value} {y : DataW H × List MemPlace} (h : DataW.trod enc P w base spare held n t cs = some y) :
  ∃ (l : List α) (v : Value), cs = [v] ∧ Sl w (fun _ => True) S v l.length (l.flatMap g) := by
 obtain ⟨l, v, xs, h1, h2, h3⟩ := open_things (fun x c => c = g x) ht hC hS hel h
 have hl : xs.length = l.length * S := by
  obtain ⟨A, c, _, _, _, hl, _⟩ := h2
  exact hl
 have := flat_of hS hg hl (fun i x hi k u hk => by
  obtain ⟨c, _, rfl, hc⟩ := h3 i x hi
  exact hc k u hk)
 rw [this] at h2
 exact ⟨l, v, h1, h2⟩
theorem fields {e : TypeId} {fs : Array Field} {n : Nat} {cs : List Value} {y : DataW H × List MemPlace} (he : P.underlying e = some (.struct fs)) (h : DataW.trod enc P w base spare held n e cs = some y) :
  ∃ n', ∀ (j : Nat) (T : TypeId) (o S : Nat), fs[j]?.map (fun f => (f.type, f.offset)) = some (T, o) → P.cellsOf T = S → ∃ y', DataW.trod enc P w base spare held n' T ((cs.drop o).take S) = some y' := by
 obtain ⟨ys, n', hn', hy, hlen, hyl, hf⟩ := DataW.trod_struct he h
 refine ⟨n', fun j T o S hj hS => ?_⟩
 cases hfj : fs[j]? with
 | none => rw [hfj] at hj; cases hj
 | some f =>
  rw [hfj] at hj
  simp only [Option.map_some, Option.some.injEq, Prod.mk.injEq] at hj
  obtain ⟨rfl, rfl⟩ := hj
  have hjl : j < fs.size := (Array.getElem?_eq_some_iff.1 hfj).1
  rw [← hS]
  exact ⟨_, (hf j f hfj).trans (List.getElem?_eq_getElem (by omega))⟩
theorem open_ints1 {t e : TypeId} {k : IntKind} (ht : P.underlying t = some (.slice e)) (he : P.underlying e = some (.int k)) (hC : P.cellsOf e = 1) {n : Nat} {cs : List Value} {y : DataW H × List MemPlace} (h : DataW.trod enc P w base spare held n t cs = some y) :
  ∃ (l : List Int) (v : Value), cs = [v] ∧ Sl w (fun _ => True) 1 v l.length (l.map (Value.int k)) := by
 obtain ⟨l, v, h1, h2⟩ := open_flat (fun x => [Value.int k x]) (fun _ => rfl) ht hC (by decide) (fun n cs y _ h => by
  obtain ⟨z, e, _⟩ := DataW.trod_int he h
  exact ⟨z, e⟩) h
 refine ⟨l, v, h1, ?_⟩
 have : l.flatMap (fun x => [Value.int k x]) = l.map (Value.int k) := by
  clear h2
  induction l with
  | nil => rfl
  | cons a l ih => simp [List.flatMap_cons, ih]
 rw [← this]
 exact h2
theorem open_aggF {r : Reach} {b0 : Nat} {t : TypeId} {fs : Array Field} {v : Value} {d : DataW H} {p : List MemPlace} (hs : P.underlying t = some (.struct fs))
  (hv : Value.okWide P w r b0 t v) (h : DataW.Trod enc P w base spare held t v d p) :
  ∃ (cs : List Value) (n : Nat) (y : DataW H × List MemPlace), v = .agg cs.toArray ∧ cs.length = P.cellsOf t ∧ DataW.trod enc P w base spare held n t cs = some y := by
 obtain ⟨cs, rfl, hsz⟩ := okWide_struct hs hv
 obtain ⟨fuel, hf⟩ := h
 have e : (Value.agg cs).cells.toList = cs.toList := by simp [Value.cells]
 rw [e] at hf
 exact ⟨cs.toList, fuel, _, by simp, by simpa using hsz, hf⟩
end
end Go.Proofs.YtildcdgobdfieaaGreat

namespace Go.Proofs.YtildcdgobdfieaaGreat
open Go.ChangeShapes Go.WideShapes Go.ChangeAt Go.RowKit Go.Deep
section
variable {H : Type} {enc : TypeId × Value → H} {w : World} {base : Nat} {held : Bool} {spare : Nat → Bool} {n : Nat} {cs : List Value} {y : DataW H × List MemPlace}
theorem cB_int : Tryz.prog.cellsOf 3 = 1 := by kernel_rfl
theorem cB_u16 : Tryz.prog.cellsOf 67 = 1 := by kernel_rfl
theorem cB_bool : Tryz.prog.cellsOf 4 = 1 := by kernel_rfl
theorem cB_u64 : Tryz.prog.cellsOf 22 = 1 := by kernel_rfl
theorem cB_str : Tryz.prog.cellsOf 9 = 1 := by kernel_rfl
theorem cB_prcs : Tryz.prog.cellsOf 24 = 1 := by kernel_rfl
theorem cB_uses : Tryz.prog.cellsOf 23 = 1 := by kernel_rfl
theorem cB_ints : Tryz.prog.cellsOf 25 = 1 := by kernel_rfl
theorem cB_u16s : Tryz.prog.cellsOf 26 = 1 := by kernel_rfl
theorem cB_prc : Tryz.prog.cellsOf 98 = 6 := by kernel_rfl
theorem cB_use : Tryz.prog.cellsOf 72 = 2 := by kernel_rfl
theorem cB_mod : Tryz.prog.cellsOf 28 = 5 := by kernel_rfl
theorem cB_obj : Tryz.prog.cellsOf 30 = 9 := by kernel_rfl
theorem openB_prc (hl : cs.length = 6) (h : DataW.trod enc Tryz.prog w base spare held n 98 cs = some y) : ∃ p : PrcD, cs = p.cells ∧ True := by
 obtain ⟨n', hf⟩ := fields Tryz.underlying98 h
 match cs, hl with
 | [c0, c1, c2, c3, c4, c5], _ =>
  obtain ⟨y0, h0⟩ := hf 0 3 0 _ rfl cB_int
  obtain ⟨z0, e0, _, w0⟩ := DataW.trod_int Tryz.underlying3 h0
  obtain ⟨y1, h1⟩ := hf 1 3 1 _ rfl cB_int
  obtain ⟨z1, e1, _, w1⟩ := DataW.trod_int Tryz.underlying3 h1
  obtain ⟨y2, h2⟩ := hf 2 3 2 _ rfl cB_int
  obtain ⟨z2, e2, _, w2⟩ := DataW.trod_int Tryz.underlying3 h2
  obtain ⟨y3, h3⟩ := hf 3 3 3 _ rfl cB_int
  obtain ⟨z3, e3, _, w3⟩ := DataW.trod_int Tryz.underlying3 h3
  obtain ⟨y4, h4⟩ := hf 4 3 4 _ rfl cB_int
  obtain ⟨z4, e4, _, w4⟩ := DataW.trod_int Tryz.underlying3 h4
  obtain ⟨y5, h5⟩ := hf 5 4 5 _ rfl cB_bool
  obtain ⟨z5, e5, _⟩ := DataW.trod_bool Tryz.underlying4 h5
  simp only [List.drop_zero, List.drop_succ_cons, List.take_succ_cons, List.take_zero, List.cons.injEq, and_true] at e0 e1 e2 e3 e4 e5
  subst e0 e1 e2 e3 e4 e5
  exact ⟨⟨z0, z1, z2, z3, z4, z5⟩, rfl, trivial⟩
theorem openB_use (hl : cs.length = 2) (h : DataW.trod enc Tryz.prog w base spare held n 72 cs = some y) : ∃ p : UseD, cs = p.cells ∧ (0 ≤ p.key ∧ p.key < 18446744073709551616) := by
 obtain ⟨n', hf⟩ := fields Tryz.underlying72 h
 match cs, hl with
 | [c0, c1], _ =>
  obtain ⟨y0, h0⟩ := hf 0 9 0 _ rfl cB_str
  obtain ⟨z0, e0, _, w0⟩ := DataW.trod_string Tryz.underlying9 h0
  obtain ⟨y1, h1⟩ := hf 1 22 1 _ rfl cB_u64
  obtain ⟨z1, e1, _, w1⟩ := DataW.trod_int Tryz.underlying22 h1
  simp only [List.drop_zero, List.drop_succ_cons, List.take_succ_cons, List.take_zero, List.cons.injEq, and_true] at e0 e1
  subst e0 e1
  exact ⟨⟨z0, z1⟩, rfl, (by have := Go.bounds_u64 w1; simp only; omega)⟩
theorem open_flatB {α : Type} {t e : TypeId} {S : Nat} (g : α → List Value) (R : α → Prop) (hg : ∀ x, (g x).length = S) (ht : Tryz.prog.underlying t = some (.slice e)) (hC : Tryz.prog.cellsOf e = S) (hS : 0 < S)
  (hel : ∀ n cs y, cs.length = S → DataW.trod enc Tryz.prog w base spare held n e cs = some y → ∃ x : α, cs = g x ∧ R x) (h : DataW.trod enc Tryz.prog w base spare held n t cs = some y) :
  ∃ (l : List α) (v : Value), cs = [v] ∧ Sl w (fun _ => True) S v l.length (l.flatMap g) ∧ ∀ x ∈ l, R x := by
 obtain ⟨l, v, xs, h1, h2, h3⟩ := open_things (fun x c => c = g x ∧ R x) ht hC hS hel h
 have hl : xs.length = l.length * S := by
  obtain ⟨A, c, _, _, _, hl, _⟩ := h2
  exact hl
 have := flat_of hS hg hl (fun i x hi k u hk => by
  obtain ⟨c, _, ⟨rfl, _⟩, hc⟩ := h3 i x hi
  exact hc k u hk)
 rw [this] at h2
 refine ⟨l, v, h1, h2, fun x hx => ?_⟩
 obtain ⟨i, hi⟩ := List.getElem?_of_mem hx
 obtain ⟨c, _, ⟨_, hr⟩, _⟩ := h3 i x hi
 exact hr
theorem flat_map1 {α : Type} (f : α → Value) (l : List α) : l.flatMap (fun x => [f x]) = l.map f := by
 induction l with
 | nil => rfl
 | cons x l ih => rw [List.flatMap_cons, ih]; rfl
theorem openB_mod (hl : cs.length = 5) (h : DataW.trod enc Tryz.prog w base spare held n 28 cs = some y) : ∃ (m : ModD) (vp vi vn : Value), cs = m.cells vp vi vn ∧ ModL w (fun _ => True) vp vi vn m ∧ wordsB m := by
 obtain ⟨n', hf⟩ := fields Tryz.underlying28 h
 match cs, hl with
 | [c0, c1, c2, c3, c4], _ =>
  obtain ⟨y0, h0⟩ := hf 0 9 0 _ rfl cB_str
  obtain ⟨y1, h1⟩ := hf 1 24 1 _ rfl cB_prcs
  obtain ⟨y2, h2⟩ := hf 2 25 2 _ rfl cB_ints
  obtain ⟨y3, h3⟩ := hf 3 3 3 _ rfl cB_int
  obtain ⟨y4, h4⟩ := hf 4 26 4 _ rfl cB_u16s
  obtain ⟨z0, e0, _⟩ := DataW.trod_string Tryz.underlying9 h0
  obtain ⟨l1, v1, e1, s1, _⟩ := open_flatB PrcD.cells (fun _ => True) (S := 6) (fun _ => rfl) Tryz.underlying24 cB_prc (by decide) (fun n cs y hl h => openB_prc hl h) h1
  obtain ⟨l2, v2, e2, s2⟩ := open_ints1 Tryz.underlying25 Tryz.underlying3 cB_int h2
  obtain ⟨z3, e3, _, w3⟩ := DataW.trod_int Tryz.underlying3 h3
  obtain ⟨l4, v4, e4, s4, r4⟩ := open_flatB (fun x : Int => [Value.int .u16 x]) (fun x => 0 ≤ x ∧ x ≤ 65535) (S := 1) (fun _ => rfl) Tryz.underlying26 cB_u16 (by decide) (fun n cs y hl h => by
   obtain ⟨z, e, _, wz⟩ := DataW.trod_int Tryz.underlying67 h
   exact ⟨z, e, by have := Go.bounds_u16 wz; omega⟩) h4
  rw [flat_map1] at s4
  simp only [List.drop_zero, List.drop_succ_cons, List.take_succ_cons, List.take_zero, List.cons.injEq, and_true] at e0 e1 e2 e3 e4
  subst e0 e1 e2 e3 e4
  exact ⟨⟨z0, l1, l2, z3, l4⟩, _, _, _, rfl, ⟨s1, s2, s4⟩, r4⟩
theorem openB_obj (hl : cs.length = 9) (h : DataW.trod enc Tryz.prog w base spare held n 30 cs = some y) : ∃ (o : ObjD) (vu vp vi vn : Value), cs = o.cells vu vp vi vn ∧ ObjL w (fun _ => True) vu vp vi vn o ∧ objW o := by
 obtain ⟨n', hf⟩ := fields Tryz.underlying30 h
 match cs, hl with
 | [c0, c1, c2, c3, c4, c5, c6, c7, c8], _ =>
  obtain ⟨y0, h0⟩ := hf 0 9 0 _ rfl cB_str
  obtain ⟨y1, h1⟩ := hf 1 4 1 _ rfl cB_bool
  obtain ⟨y2, h2⟩ := hf 2 22 2 _ rfl cB_u64
  obtain ⟨y3, h3⟩ := hf 3 23 3 _ rfl cB_uses
  obtain ⟨y4, h4⟩ := hf 4 28 4 _ rfl cB_mod
  obtain ⟨z0, e0, _⟩ := DataW.trod_string Tryz.underlying9 h0
  obtain ⟨z1, e1, _⟩ := DataW.trod_bool Tryz.underlying4 h1
  obtain ⟨z2, e2, _, w2⟩ := DataW.trod_int Tryz.underlying22 h2
  obtain ⟨l3, v3, e3, s3, r3⟩ := open_flatB UseD.cells (fun u => 0 ≤ u.key ∧ u.key < 18446744073709551616) (S := 2) (fun _ => rfl) Tryz.underlying23 cB_use (by decide) (fun n cs y hl h => openB_use hl h) h3
  obtain ⟨m, vp, vi, vn, e4, s4, r4⟩ := openB_mod (by rfl) h4
  unfold ModD.cells at e4
  simp only [List.drop_zero, List.drop_succ_cons, List.take_succ_cons, List.take_zero, List.cons.injEq, and_true] at e0 e1 e2 e3 e4
  obtain ⟨e4, e5, e6, e7, e8⟩ := e4
  subst e0 e1 e2 e3 e4 e5 e6 e7 e8
  have hk := Go.bounds_u64 w2
  exact ⟨⟨z0, z1, z2, l3, m⟩, _, _, _, _, rfl, ⟨s3, s4⟩, ⟨by simp only; omega, r3, r4⟩⟩
end
def IsObj (W : World) (v : Value) : Prop := ∃ (o : ObjD) (vu vp vi vn : Value), v = o.val vu vp vi vn ∧ ObjL W (fun _ => True) vu vp vi vn o ∧ objW o
theorem open_object {H : Type} {enc : TypeId × Value → H} {W : World} {r : Reach} {b0 : Nat} {v : Value} {d : DataW H} {p : List MemPlace}
  (hv : Value.okWide Tryz.prog W r b0 30 v) (h : DataW.Trod enc Tryz.prog W 0 (fun _ => true) true 30 v d p) : IsObj W v := by
 obtain ⟨cs, n, y, rfl, hl, hd⟩ := open_aggF Tryz.underlying30 hv h
 rw [cB_obj] at hl
 obtain ⟨o, vu, vp, vi, vn, rfl, h1, h2⟩ := openB_obj hl hd
 exact ⟨o, vu, vp, vi, vn, rfl, h1, h2⟩
end Go.Proofs.YtildcdgobdfieaaGreat

namespace Go.Proofs.YtildcdgobdfieaaGreat
open Go.RowKit
theorem objTells_walk (w : World) (v1 : Value) (h1 : IsObj w v1) (v2 : Value) (h2 : IsObj w v2) :
  Calls Tryz.prog 3 #[v1, v2] w fun e w' => e = .returned (.bool true) ∧ Wr [] w w' := by
 obtain ⟨o1, vu, vp, vi, vn, rfl, l1, k1⟩ := h1
 obtain ⟨o2, uu, up, ui, un, rfl, l2, k2⟩ := h2
 exact objTells_any o1 o2 vu vp vi vn uu up ui un k1 k2 w l1 l2
end Go.Proofs.YtildcdgobdfieaaGreat
