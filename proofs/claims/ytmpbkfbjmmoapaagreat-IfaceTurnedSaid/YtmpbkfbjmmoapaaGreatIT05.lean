/- Slices of things, structs by value, opened. No conditions. -/
import Derived.Test.YtmpbkfbjmmoapaaGreatIT04
import Derived.Deep.Grids
import Derived.Test.YtmpbkfbjmmoapaaGreatIT02
namespace Go.Proofs.YtmpbkfbjmmoapaaGreat
open Go.ChangeShapes Go.WideShapes Go.ChangeAt Go.RowKit Go.Deep
set_option linter.unusedVariables false
set_option linter.unusedSimpArgs false
section
variable {H : Type} {enc : TypeId × Value → H} {P : Program} {w : World} {base : Nat} {held : Bool} {spare : Nat → Bool}
theorem open_things {α : Type} {t e : TypeId} {S : Nat} (R : α → List Value → Prop) (ht : P.underlying t = some (.slice e)) (hC : P.cellsOf e = S) (hS : 0 < S)
  (hel : ∀ n cs y, cs.length = S → DataW.trod enc P w base spare held n e cs = some y → ∃ x : α, R x cs) {n : Nat} {cs : List Value} {y : DataW H × List MemPlace} (h : DataW.trod enc P w base spare held n t cs = some y) :
  ∃ (l : List α) (v : Value) (xs : List Value), cs = [v] ∧ Sl w (fun _ => True) S v l.length xs ∧ ∀ i x, l[i]? = some x → ∃ c, c.length = S ∧ R x c ∧ ∀ (k : Nat) (u : Value), c[k]? = some u → xs[i * S + k]? = some u := by
 rcases open_slice ht h with ⟨h0, _⟩ | ⟨a, len, cap, m, n', D, Pl, hcs, hb, hl, hm, hmm, hx, hi⟩
 ·exact ⟨[], _, [], h0, Sl.nil _ _ _, fun i x hx => by simp at hx⟩
 ·have hlm : len ≤ m := by rw [hmm]; split <;> omega
  have hh : ∀ i : Fin len, ∃ p : α × List Value, p.2.length = S ∧ R p.1 p.2 ∧ ∀ k, k < S → w.cell? (a.add (i.1 * S + k)) = p.2[k]? := by
   intro i
   obtain ⟨cs', hc, ht'⟩ := hi i.1 (by have := i.2; omega)
   rw [hC] at hc
   obtain ⟨_, hcl, hat⟩ := World.cells?_some hc
   obtain ⟨x, hx⟩ := hel _ _ _ hcl ht'
   refine ⟨(x, cs'), hcl, hx, fun k hk => ?_⟩
   rw [← Go.Deep.add_add]
   exact hat k hk
  obtain ⟨F, hF⟩ := Classical.axiomOfChoice hh
  let V : Nat → Value := fun j => (w.cell? (a.add j)).getD (.bool false)
  have hV : ∀ j, j < len * S → w.cell? (a.add j) = some (V j) := by
   intro j hj
   have h1 : j / S < len := Nat.div_lt_of_lt_mul (by rw [Nat.mul_comm]; exact hj)
   have h2 : j % S < S := Nat.mod_lt _ hS
   obtain ⟨g1, g2, g3⟩ := hF ⟨j / S, h1⟩
   have := g3 (j % S) h2
   have e : j / S * S + j % S = j := by rw [Nat.mul_comm]; exact Nat.div_add_mod j S
   simp only [e] at this
   rw [List.getElem?_eq_getElem (by omega)] at this
   simp only [V, this, Option.getD_some]
  have hll : (List.ofFn (fun i => (F i).1)).length = len := by simp
  refine ⟨List.ofFn (fun i => (F i).1), .slice (some a) len cap, (List.range (len * S)).map V, hcs, ?_, fun i x hx => ?_⟩
  ·rw [hll]
   refine ⟨some a, cap, rfl, hl, hm, by simp, fun j u hj => ?_⟩
   have hjl : j < len * S := by
    have := (List.getElem?_eq_some_iff.1 hj).1
    simpa using this
   rw [List.getElem?_map, List.getElem?_range hjl] at hj
   have hc := hV j hjl
   injection hj with hj
   rw [hj] at hc
   obtain ⟨b, off, spot⟩ := a
   have hspot : spot = none := by
    have := hV 0 (by omega)
    simpa [Addr.add] using World.cell?_spot this
   subst hspot
   exact ⟨b, off, rfl, trivial, by simpa [Addr.add_lit] using hc⟩
  ·have hil : i < len := by
    have := (List.getElem?_eq_some_iff.1 hx).1
    omega
   obtain ⟨g1, g2, g3⟩ := hF ⟨i, hil⟩
   have hxe : x = (F ⟨i, hil⟩).1 := by
    rw [List.getElem?_ofFn] at hx
    simpa [hil] using hx.symm
   refine ⟨_, g1, by rw [hxe]; exact g2, fun k u hk => ?_⟩
   have hkS : k < S := by
    have := (List.getElem?_eq_some_iff.1 hk).1
    omega
   have hj : i * S + k < len * S := by
    have : (i + 1) * S ≤ len * S := Nat.mul_le_mul_right _ hil
    rw [Nat.succ_mul] at this
    omega
   rw [List.getElem?_map, List.getElem?_range hj]
   have h1 := g3 k hkS
   simp only at h1
   rw [hk] at h1
   have h2 := hV _ hj
   rw [h2] at h1
   exact h1
theorem flatO_len {α : Type} {g : α → List Value} {S : Nat} (hg : ∀ x, (g x).length = S) : ∀ l : List α, (l.flatMap g).length = l.length * S
 | [] => by simp
 | x :: l => by rw [List.flatMap_cons, List.length_append, hg, flatO_len hg l, List.length_cons, Nat.succ_mul]; omega
theorem flat_of {α : Type} {g : α → List Value} {S : Nat} (hS : 0 < S) (hg : ∀ x, (g x).length = S) {l : List α} {xs : List Value} (hx : xs.length = l.length * S) (h : ∀ (i : Nat) (x : α), l[i]? = some x → ∀ (k : Nat) (u : Value), (g x)[k]? = some u → xs[i * S + k]? = some u) : xs = l.flatMap g := by
 apply List.ext_getElem?
 intro j
 rcases Nat.lt_or_ge j (l.length * S) with hj | hj
 ·have h1 : j / S < l.length := Nat.div_lt_of_lt_mul (by rw [Nat.mul_comm]; exact hj)
  have h2 : j % S < S := Nat.mod_lt _ hS
  have e : j / S * S + j % S = j := by rw [Nat.mul_comm]; exact Nat.div_add_mod j S
  have hxi : l[j / S]? = some l[j / S] := List.getElem?_eq_getElem h1
  have hu : (g l[j / S])[j % S]? = some ((g l[j / S])[j % S]'(by rw [hg]; exact h2)) := List.getElem?_eq_getElem _
  have a1 := h _ _ hxi _ _ hu
  have a2 := flatF_at hg l _ _ _ hxi h2
  rw [e] at a1 a2
  rw [a1, a2, hu]
 ·rw [List.getElem?_eq_none (by omega), List.getElem?_eq_none (by rw [flatO_len hg]; omega)]
theorem open_flat {α : Type} {t e : TypeId} {S : Nat} (g : α → List Value) (hg : ∀ x, (g x).length = S) (ht : P.underlying t = some (.slice e)) (hC : P.cellsOf e = S) (hS : 0 < S)
  (hel : ∀ n cs y, cs.length = S → DataW.trod enc P w base spare held n e cs = some y → ∃ x : α, cs = g x) {n : Nat} {cs : List Value} {y : DataW H × List MemPlace} (h : DataW.trod enc P w base spare held n t cs = some y) :
  ∃ (l : List α) (v : Value), cs = [v] ∧ Sl w (fun _ => True) S v l.length (l.flatMap g) := by
 obtain ⟨l, v, xs, h1, h2, h3⟩ := open_things (fun x c => c = g x) ht hC hS hel h
 have hl : xs.length = l.length * S := by
  obtain ⟨A, c, _, _, _, hl, _⟩ := h2
  exact hl
 have := flat_of hS hg hl (fun i x hi k u hk => by
  obtain ⟨c, _, rfl, hc⟩ := h3 i x hi
  exact hc k u hk)
 rw [this] at h2
 exact ⟨l, v, h1, h2⟩
theorem fields {e : TypeId} {fs : Array Field} {n : Nat} {cs : List Value} {y : DataW H × List MemPlace} (he : P.underlying e = some (.struct fs)) (h : DataW.trod enc P w base spare held n e cs = some y) :
  ∃ n', ∀ (j : Nat) (T : TypeId) (o S : Nat), fs[j]?.map (fun f => (f.type, f.offset)) = some (T, o) → P.cellsOf T = S → ∃ y', DataW.trod enc P w base spare held n' T ((cs.drop o).take S) = some y' := by
 obtain ⟨ys, n', hn', hy, hlen, hyl, hf⟩ := DataW.trod_struct he h
 refine ⟨n', fun j T o S hj hS => ?_⟩
 cases hfj : fs[j]? with
 | none => rw [hfj] at hj; cases hj
 | some f =>
  rw [hfj] at hj
  simp only [Option.map_some, Option.some.injEq, Prod.mk.injEq] at hj
  obtain ⟨rfl, rfl⟩ := hj
  have hjl : j < fs.size := (Array.getElem?_eq_some_iff.1 hfj).1
  rw [← hS]
  exact ⟨_, (hf j f hfj).trans (List.getElem?_eq_getElem (by omega))⟩
theorem open_ints1 {t e : TypeId} {k : IntKind} (ht : P.underlying t = some (.slice e)) (he : P.underlying e = some (.int k)) (hC : P.cellsOf e = 1) {n : Nat} {cs : List Value} {y : DataW H × List MemPlace} (h : DataW.trod enc P w base spare held n t cs = some y) :
  ∃ (l : List Int) (v : Value), cs = [v] ∧ Sl w (fun _ => True) 1 v l.length (l.map (Value.int k)) := by
 obtain ⟨l, v, h1, h2⟩ := open_flat (fun x => [Value.int k x]) (fun _ => rfl) ht hC (by decide) (fun n cs y _ h => by
  obtain ⟨z, e, _⟩ := DataW.trod_int he h
  exact ⟨z, e⟩) h
 refine ⟨l, v, h1, ?_⟩
 have : l.flatMap (fun x => [Value.int k x]) = l.map (Value.int k) := by
  clear h2
  induction l with
  | nil => rfl
  | cons a l ih => simp [List.flatMap_cons, ih]
 rw [← this]
 exact h2
theorem open_aggF {r : Reach} {b0 : Nat} {t : TypeId} {fs : Array Field} {v : Value} {d : DataW H} {p : List MemPlace} (hs : P.underlying t = some (.struct fs))
  (hv : Value.okWide P w r b0 t v) (h : DataW.Trod enc P w base spare held t v d p) :
  ∃ (cs : List Value) (n : Nat) (y : DataW H × List MemPlace), v = .agg cs.toArray ∧ cs.length = P.cellsOf t ∧ DataW.trod enc P w base spare held n t cs = some y := by
 obtain ⟨cs, rfl, hsz⟩ := okWide_struct hs hv
 obtain ⟨fuel, hf⟩ := h
 have e : (Value.agg cs).cells.toList = cs.toList := by simp [Value.cells]
 rw [e] at hf
 exact ⟨cs.toList, fuel, _, by simp, by simpa using hsz, hf⟩
end
theorem Sl.oneO {w : World} {P : Nat → Prop} {size n : Nat} {v : Value} {xs : List Value} (h : Sl w P size v n xs) : v.oneCell' = true := by
 obtain ⟨A, c, rfl, _⟩ := h
 rfl
end Go.Proofs.YtmpbkfbjmmoapaaGreat

/- The document's interfaces, whose values are plain: as data, in memory; a plain value as an any. No conditions. -/
namespace Go.Proofs.YtmpbkfbjmmoapaaGreat
open Go.RowKit
set_option linter.unusedVariables false
set_option linter.unusedSimpArgs false
structure PVal where
 sort : Int
 n : Int
 type : Int
 text : ByteArray
structure PItm where
 name : ByteArray
 kind : Int
 type : Int
 at_ : Int
 v : PVal
structure FaceP where
 module : ByteArray
 uses : List UseD
 types : List Ty
 items : List PItm
def anyOf (v : PVal) : AnyD :=
 if v.sort = 0 then .nil else if v.sort = 1 then .whole v.n else if v.sort = 2 then .letter (v.n % 256) else if v.sort = 3 then .truth (decide (v.n % 2 ≠ 0)) else if v.sort = 4 then .bits (v.n % 65536) else if v.sort = 5 then .str v.text else if v.sort = 6 then .item v.type v.n else if v.sort = 7 then .null else .other
def itmOf (x : PItm) : ItmD := ⟨x.name, x.kind, x.type, x.at_, anyOf x.v⟩
def faceOf (f : FaceP) : FaceD := ⟨f.module, f.uses, f.types, f.items.map itmOf⟩
def valOf : AnyD → PVal
 | .nil => ⟨0, 0, 0, ⟨#[]⟩⟩
 | .whole n => ⟨1, n, 0, ⟨#[]⟩⟩
 | .letter n => ⟨2, n, 0, ⟨#[]⟩⟩
 | .truth b => ⟨3, if b then 1 else 0, 0, ⟨#[]⟩⟩
 | .bits n => ⟨4, n, 0, ⟨#[]⟩⟩
 | .str s => ⟨5, 0, 0, s⟩
 | .item t n => ⟨6, n, t, ⟨#[]⟩⟩
 | .null => ⟨7, 0, 0, ⟨#[]⟩⟩
 | .other => ⟨8, 0, 0, ⟨#[]⟩⟩
def pitmOf (x : ItmD) : PItm := ⟨x.name, x.kind, x.type, x.at_, valOf x.v⟩
def facePl (f : FaceD) : FaceP := ⟨f.module, f.uses, f.types, f.items.map pitmOf⟩
def PVal.cells (v : PVal) : List Value := [.int .u8 v.sort, .int .i64 v.n, .int .i64 v.type, .string v.text]
def PItm.cells (x : PItm) : List Value := [.string x.name, .int .u8 x.kind, .int .i64 x.type, .int .i64 x.at_, .int .u8 x.v.sort, .int .i64 x.v.n, .int .i64 x.v.type, .string x.v.text]
theorem pitm_len (x : PItm) : x.cells.length = 8 := rfl
def SlPItms (w : World) (P : Nat → Prop) (v : Value) (l : List PItm) : Prop := Sl w P 8 v l.length (l.flatMap PItm.cells)
structure FacePL (w : World) (P : Nat → Prop) (vu vt vi : Value) (f : FaceP) : Prop where
 uses : SlUsesF w P vu f.uses
 types : SlTys w P vt f.types
 items : SlPItms w P vi f.items
theorem pitm_at {w : World} {P : Nat → Prop} {v : Value} {l : List PItm} (h : SlPItms w P v l) {i : Nat} {x : PItm} (hi : l[i]? = some x) : ∃ b off c, v = .slice (some ⟨b, off, none⟩) l.length c ∧ P b ∧ ∀ j u, x.cells[j]? = some u → w.cell? ⟨b, off + i * 8 + j, none⟩ = some u := by
 obtain ⟨b, off, c, e, _, _, hP, h4⟩ := Sl.thing h (by decide) (List.getElem?_eq_some_iff.1 hi).1
 refine ⟨b, off, c, e, hP, fun j u hj => ?_⟩
 have hj5 : j < 8 := (List.getElem?_eq_some_iff.1 hj).1
 rw [Nat.add_assoc]
 exact h4 j u hj5 (by rw [flatF_at pitm_len l i j x hi hj5]; exact hj)
theorem FacePL.keep {w w' : World} {P : Nat → Prop} {vu vt vi : Value} {ls : List Nat} {f : FaceP} (h : FacePL w P vu vt vi f) (hw : Wr ls w w') (hP : ∀ b, P b → b ∉ ls) : FacePL w' P vu vt vi f := ⟨Sl.keep h.uses hw hP, h.types.keep hw hP, Sl.keep h.items hw hP⟩
theorem FacePL.wr0 {w w' : World} {P : Nat → Prop} {vu vt vi : Value} {f : FaceP} (h : FacePL w P vu vt vi f) (hw : Wr [] w w') : FacePL w' P vu vt vi f := h.keep hw (fun _ _ => by simp)
theorem FacePL.forms {w : World} {P : Nat → Prop} {vu vt vi : Value} {f : FaceP} (h : FacePL w P vu vt vi f) : (∃ A k, vu = .slice A f.uses.length k ∧ f.uses.length ≤ k ∧ k ≤ maxLen) ∧ (∃ A k, vt = .slice A f.types.length k ∧ f.types.length ≤ k ∧ k ≤ maxLen) ∧ ∃ A k, vi = .slice A f.items.length k ∧ f.items.length ≤ k ∧ k ≤ maxLen := ⟨Sl.form h.uses, h.types.form, Sl.form h.items⟩
set_option maxRecDepth 100000 in
set_option maxHeartbeats 1000000 in
theorem any_0 (n t : Int) (x : ByteArray) (w : World) : Calls Tryz.prog 20 #[.agg #[.int .u8 0, .int .i64 n, .int .i64 t, .string x]] w fun e w' => e = .returned (.nilIface) ∧ Wr [] w w' := by
 go_enter Tryz.func20, Tryz.ntmps20
 go_wp2_with fail
 go_ret
 exact ⟨rfl, (Wr.refl _ _).alloc _⟩
set_option maxRecDepth 100000 in
set_option maxHeartbeats 1000000 in
theorem any_1 (n t : Int) (x : ByteArray) (w : World) : Calls Tryz.prog 20 #[.agg #[.int .u8 1, .int .i64 n, .int .i64 t, .string x]] w fun e w' => e = .returned (.iface 110 (.int .i64 n)) ∧ Wr [] w w' := by
 go_enter Tryz.func20, Tryz.ntmps20
 go_wp2_with fail
 go_ret
 exact ⟨rfl, (Wr.refl _ _).alloc _⟩
set_option maxRecDepth 100000 in
set_option maxHeartbeats 1000000 in
theorem any_2 (n t : Int) (x : ByteArray) (w : World) : Calls Tryz.prog 20 #[.agg #[.int .u8 2, .int .i64 n, .int .i64 t, .string x]] w fun e w' => e = .returned (.iface 111 (.int .u8 (n % 256))) ∧ Wr [] w w' := by
 have e1 : IntKind.u8.wrap n = n % 256 := IntKind.wrap_u8 n
 go_enter Tryz.func20, Tryz.ntmps20
 go_wp2_with fail
 go_ret
 exact ⟨rfl, (Wr.refl _ _).alloc _⟩
set_option maxRecDepth 100000 in
set_option maxHeartbeats 1000000 in
theorem any_3 (n t : Int) (x : ByteArray) (w : World) : Calls Tryz.prog 20 #[.agg #[.int .u8 3, .int .i64 n, .int .i64 t, .string x]] w fun e w' => e = .returned (.iface 112 (.bool (decide (n % 2 ≠ 0)))) ∧ Wr [] w w' := by
 have e1 : (n.tmod 2 != 0) = decide (n % 2 ≠ 0) := by
  have k : n.tmod 2 = 0 ↔ n % 2 = 0 := ⟨fun h => Int.emod_eq_zero_of_dvd (Int.dvd_of_tmod_eq_zero h), fun h => Int.tmod_eq_zero_of_dvd (Int.dvd_of_emod_eq_zero h)⟩
  by_cases h : n % 2 = 0
  ·simp [k.2 h, h]
  ·have h2 : n.tmod 2 ≠ 0 := fun e => h (k.1 e)
   simp [h, h2]
 generalize decide (n % 2 ≠ 0) = tt at *
 go_enter Tryz.func20, Tryz.ntmps20
 go_wp2_with fail
 go_ret
 exact ⟨rfl, (Wr.refl _ _).alloc _⟩
set_option maxRecDepth 100000 in
set_option maxHeartbeats 1000000 in
theorem any_4 (n t : Int) (x : ByteArray) (w : World) : Calls Tryz.prog 20 #[.agg #[.int .u8 4, .int .i64 n, .int .i64 t, .string x]] w fun e w' => e = .returned (.iface 114 (.int .u16 (n % 65536))) ∧ Wr [] w w' := by
 have e1 : IntKind.u16.wrap n = n % 65536 := by simp [IntKind.wrap, IntKind.bits, IntKind.signed]
 go_enter Tryz.func20, Tryz.ntmps20
 go_wp2_with fail
 go_ret
 exact ⟨rfl, (Wr.refl _ _).alloc _⟩
set_option maxRecDepth 100000 in
set_option maxHeartbeats 1000000 in
theorem any_5 (n t : Int) (x : ByteArray) (w : World) : Calls Tryz.prog 20 #[.agg #[.int .u8 5, .int .i64 n, .int .i64 t, .string x]] w fun e w' => e = .returned (.iface 115 (.string x)) ∧ Wr [] w w' := by
 go_enter Tryz.func20, Tryz.ntmps20
 go_wp2_with fail
 go_ret
 exact ⟨rfl, (Wr.refl _ _).alloc _⟩
set_option maxRecDepth 100000 in
set_option maxHeartbeats 1000000 in
theorem any_6 (n t : Int) (x : ByteArray) (w : World) : Calls Tryz.prog 20 #[.agg #[.int .u8 6, .int .i64 n, .int .i64 t, .string x]] w fun e w' => e = .returned (.iface 73 (.agg #[.int .i64 t, .int .i64 n])) ∧ Wr [] w w' := by
 go_enter Tryz.func20, Tryz.ntmps20
 go_wp2_with fail
 go_ret
 exact ⟨rfl, (Wr.refl _ _).alloc _⟩
set_option maxRecDepth 100000 in
set_option maxHeartbeats 1000000 in
theorem any_7 (n t : Int) (x : ByteArray) (w : World) : Calls Tryz.prog 20 #[.agg #[.int .u8 7, .int .i64 n, .int .i64 t, .string x]] w fun e w' => e = .returned (.iface 117 (.agg #[])) ∧ Wr [] w w' := by
 go_enter Tryz.func20, Tryz.ntmps20
 go_wp2_with fail
 go_ret
 exact ⟨rfl, (Wr.refl _ _).alloc _⟩
set_option maxRecDepth 100000 in
set_option maxHeartbeats 1000000 in
theorem any_8 (s n t : Int) (x : ByteArray) (h0 : 8 ≤ s) (w : World) : Calls Tryz.prog 20 #[.agg #[.int .u8 s, .int .i64 n, .int .i64 t, .string x]] w fun e w' => e = .returned (.iface 9 (.string ⟨#[110, 111, 110, 101]⟩)) ∧ Wr [] w w' := by
 have d0 : (s == 0) = false := by simp; omega
 have d1 : (s == 1) = false := by simp; omega
 have d2 : (s == 2) = false := by simp; omega
 have d3 : (s == 3) = false := by simp; omega
 have d4 : (s == 4) = false := by simp; omega
 have d5 : (s == 5) = false := by simp; omega
 have d6 : (s == 6) = false := by simp; omega
 have d7 : (s == 7) = false := by simp; omega
 go_enter Tryz.func20, Tryz.ntmps20
 go_wp2_with fail
 go_ret
 exact ⟨rfl, (Wr.refl _ _).alloc _⟩
theorem any_any (v : PVal) (h0 : 0 ≤ v.sort) (w : World) : Calls Tryz.prog 20 #[.agg #[.int .u8 v.sort, .int .i64 v.n, .int .i64 v.type, .string v.text]] w fun e w' => e = .returned (anyOf v).val ∧ Wr [] w w' := by
 obtain ⟨s, n, t, x⟩ := v
 simp only at h0 ⊢
 rcases Int.lt_or_le s 8 with h | h
 ·have : s = 0 ∨ s = 1 ∨ s = 2 ∨ s = 3 ∨ s = 4 ∨ s = 5 ∨ s = 6 ∨ s = 7 := by omega
  rcases this with rfl | rfl | rfl | rfl | rfl | rfl | rfl | rfl
  ·exact any_0 n t x w
  ·exact any_1 n t x w
  ·exact any_2 n t x w
  ·exact any_3 n t x w
  ·exact any_4 n t x w
  ·exact any_5 n t x w
  ·exact any_6 n t x w
  ·exact any_7 n t x w
 ·have e : anyOf ⟨s, n, t, x⟩ = .other := by
   unfold anyOf
   simp only
   rw [if_neg (by omega), if_neg (by omega), if_neg (by omega), if_neg (by omega), if_neg (by omega), if_neg (by omega), if_neg (by omega), if_neg (by omega)]
  rw [e]
  exact any_8 s n t x h w
end Go.Proofs.YtmpbkfbjmmoapaaGreat

/- An argument separatumref14.Face, opened. No conditions. -/
namespace Go.Proofs.YtmpbkfbjmmoapaaGreat
open Go.ChangeShapes Go.WideShapes Go.ChangeAt Go.RowKit Go.Deep
set_option linter.unusedVariables false
set_option linter.unusedSimpArgs false
def i64B (n : Int) : Prop := -9223372036854775808 ≤ n ∧ n ≤ 9223372036854775807
def tyBnd (t : Ty) : Prop := i64B t.base ∧ i64B t.index ∧ i64B t.result ∧ (∀ f ∈ t.fields, i64B f.type) ∧ ∀ p ∈ t.params, i64B p.type
theorem anyW_ofB (v : PVal) : anyW (anyOf v) := by
 unfold anyOf
 repeat' split
 all_goals simp only [anyW] <;> omega
section
variable {H : Type} {enc : TypeId × Value → H} {w : World} {base : Nat} {held : Bool} {spare : Nat → Bool} {n : Nat} {cs : List Value} {y : DataW H × List MemPlace}
theorem cB_int : Tryz.prog.cellsOf 3 = 1 := by kernel_rfl
theorem cB_i64 : Tryz.prog.cellsOf 2 = 1 := by kernel_rfl
theorem cB_bool : Tryz.prog.cellsOf 4 = 1 := by kernel_rfl
theorem cB_u8 : Tryz.prog.cellsOf 5 = 1 := by kernel_rfl
theorem cB_u64 : Tryz.prog.cellsOf 41 = 1 := by kernel_rfl
theorem cB_str : Tryz.prog.cellsOf 9 = 1 := by kernel_rfl
theorem cB_ints : Tryz.prog.cellsOf 82 = 1 := by kernel_rfl
theorem cB_strs : Tryz.prog.cellsOf 45 = 1 := by kernel_rfl
theorem cB_flds : Tryz.prog.cellsOf 46 = 1 := by kernel_rfl
theorem cB_arms : Tryz.prog.cellsOf 47 = 1 := by kernel_rfl
theorem cB_pars : Tryz.prog.cellsOf 48 = 1 := by kernel_rfl
theorem cB_uses : Tryz.prog.cellsOf 22 = 1 := by kernel_rfl
theorem cB_tys : Tryz.prog.cellsOf 23 = 1 := by kernel_rfl
theorem cB_itms : Tryz.prog.cellsOf 24 = 1 := by kernel_rfl
theorem cB_fld : Tryz.prog.cellsOf 69 = 3 := by kernel_rfl
theorem cB_arm : Tryz.prog.cellsOf 84 = 3 := by kernel_rfl
theorem cB_par : Tryz.prog.cellsOf 71 = 2 := by kernel_rfl
theorem cB_use : Tryz.prog.cellsOf 43 = 2 := by kernel_rfl
theorem cB_ty : Tryz.prog.cellsOf 50 = 12 := by kernel_rfl
theorem cB_itm : Tryz.prog.cellsOf 54 = 8 := by kernel_rfl
theorem cB_val : Tryz.prog.cellsOf 52 = 4 := by kernel_rfl
theorem cB_face : Tryz.prog.cellsOf 26 = 4 := by kernel_rfl
theorem open_flatRB {α : Type} {t e : TypeId} {S : Nat} (g : α → List Value) (R : α → Prop) (hg : ∀ x, (g x).length = S) (ht : Tryz.prog.underlying t = some (.slice e)) (hC : Tryz.prog.cellsOf e = S) (hS : 0 < S)
  (hel : ∀ n cs y, cs.length = S → DataW.trod enc Tryz.prog w base spare held n e cs = some y → ∃ x : α, cs = g x ∧ R x) (h : DataW.trod enc Tryz.prog w base spare held n t cs = some y) :
  ∃ (l : List α) (v : Value), cs = [v] ∧ Sl w (fun _ => True) S v l.length (l.flatMap g) ∧ ∀ x ∈ l, R x := by
 obtain ⟨l, v, xs, h1, h2, h3⟩ := open_things (fun x c => c = g x ∧ R x) ht hC hS hel h
 have hl : xs.length = l.length * S := by
  obtain ⟨A, c, _, _, _, hl, _⟩ := h2
  exact hl
 have := flat_of hS hg hl (fun i x hi k u hk => by
  obtain ⟨c, _, ⟨rfl, _⟩, hc⟩ := h3 i x hi
  exact hc k u hk)
 rw [this] at h2
 refine ⟨l, v, h1, h2, fun x hx => ?_⟩
 obtain ⟨i, hi⟩ := List.getElem?_of_mem hx
 obtain ⟨c, _, ⟨_, hr⟩, _⟩ := h3 i x hi
 exact hr
set_option maxRecDepth 100000 in
theorem openB_fld (hl : cs.length = 3) (h : DataW.trod enc Tryz.prog w base spare held n 69 cs = some y) : ∃ p : Fld, cs = p.cells ∧ i64B p.type := by
 obtain ⟨n', hf⟩ := fields Tryz.underlying69 h
 match cs, hl with
 | [c0, c1, c2], _ =>
  obtain ⟨y0, h0⟩ := hf 0 9 0 _ rfl cB_str
  obtain ⟨z0, e0, _, w0⟩ := DataW.trod_string Tryz.underlying9 h0
  obtain ⟨y1, h1⟩ := hf 1 3 1 _ rfl cB_int
  obtain ⟨z1, e1, _, w1⟩ := DataW.trod_int Tryz.underlying3 h1
  obtain ⟨y2, h2⟩ := hf 2 3 2 _ rfl cB_int
  obtain ⟨z2, e2, _, w2⟩ := DataW.trod_int Tryz.underlying3 h2
  simp only [List.drop_zero, List.drop_succ_cons, List.take_succ_cons, List.take_zero, List.cons.injEq, and_true] at e0 e1 e2
  subst e0 e1 e2
  exact ⟨⟨z0, z1, z2⟩, rfl, Go.bounds_i64 w1⟩
set_option maxRecDepth 100000 in
theorem openB_par (hl : cs.length = 2) (h : DataW.trod enc Tryz.prog w base spare held n 71 cs = some y) : ∃ p : Par, cs = p.cells ∧ i64B p.type := by
 obtain ⟨n', hf⟩ := fields Tryz.underlying71 h
 match cs, hl with
 | [c0, c1], _ =>
  obtain ⟨y0, h0⟩ := hf 0 4 0 _ rfl cB_bool
  obtain ⟨z0, e0, _⟩ := DataW.trod_bool Tryz.underlying4 h0
  obtain ⟨y1, h1⟩ := hf 1 3 1 _ rfl cB_int
  obtain ⟨z1, e1, _, w1⟩ := DataW.trod_int Tryz.underlying3 h1
  simp only [List.drop_zero, List.drop_succ_cons, List.take_succ_cons, List.take_zero, List.cons.injEq, and_true] at e0 e1
  subst e0 e1
  exact ⟨⟨z0, z1⟩, rfl, Go.bounds_i64 w1⟩
set_option maxRecDepth 100000 in
theorem openB_use (hl : cs.length = 2) (h : DataW.trod enc Tryz.prog w base spare held n 43 cs = some y) : ∃ p : UseD, cs = p.cellsF ∧ 0 ≤ p.key ∧ p.key < 18446744073709551616 := by
 obtain ⟨n', hf⟩ := fields Tryz.underlying43 h
 match cs, hl with
 | [c0, c1], _ =>
  obtain ⟨y0, h0⟩ := hf 0 9 0 _ rfl cB_str
  obtain ⟨z0, e0, _, w0⟩ := DataW.trod_string Tryz.underlying9 h0
  obtain ⟨y1, h1⟩ := hf 1 41 1 _ rfl cB_u64
  obtain ⟨z1, e1, _, w1⟩ := DataW.trod_int Tryz.underlying41 h1
  simp only [List.drop_zero, List.drop_succ_cons, List.take_succ_cons, List.take_zero, List.cons.injEq, and_true] at e0 e1
  subst e0 e1
  exact ⟨⟨z0, z1⟩, rfl, (by have := Go.bounds_u64 w1; simp only; omega)⟩
set_option maxRecDepth 100000 in
theorem openB_arm (hl : cs.length = 3) (h : DataW.trod enc Tryz.prog w base spare held n 84 cs = some y) : ∃ (p : ArmD) (va vb : Value), cs = [va, vb, .bool p.els] ∧ SlInts w (fun _ => True) va p.frm ∧ SlInts w (fun _ => True) vb p.to := by
 obtain ⟨n', hf⟩ := fields Tryz.underlying84 h
 match cs, hl with
 | [c0, c1, c2], _ =>
  obtain ⟨y0, h0⟩ := hf 0 82 0 _ rfl cB_ints
  obtain ⟨z0, v0, e0, s0⟩ := open_ints1 Tryz.underlying82 Tryz.underlying2 cB_i64 h0
  obtain ⟨y1, h1⟩ := hf 1 82 1 _ rfl cB_ints
  obtain ⟨z1, v1, e1, s1⟩ := open_ints1 Tryz.underlying82 Tryz.underlying2 cB_i64 h1
  obtain ⟨y2, h2⟩ := hf 2 4 2 _ rfl cB_bool
  obtain ⟨z2, e2, _⟩ := DataW.trod_bool Tryz.underlying4 h2
  simp only [List.drop_zero, List.drop_succ_cons, List.take_succ_cons, List.take_zero, List.cons.injEq, and_true] at e0 e1 e2
  subst e0 e1 e2
  exact ⟨⟨z0, z1, z2⟩, _, _, rfl, s0, s1⟩
set_option maxRecDepth 100000 in
theorem openB_val (hl : cs.length = 4) (h : DataW.trod enc Tryz.prog w base spare held n 52 cs = some y) : ∃ p : PVal, cs = p.cells ∧ 0 ≤ p.sort ∧ i64B p.type := by
 obtain ⟨n', hf⟩ := fields Tryz.underlying52 h
 match cs, hl with
 | [c0, c1, c2, c3], _ =>
  obtain ⟨y0, h0⟩ := hf 0 5 0 _ rfl cB_u8
  obtain ⟨z0, e0, _, w0⟩ := DataW.trod_int Tryz.underlying5 h0
  obtain ⟨y1, h1⟩ := hf 1 2 1 _ rfl cB_i64
  obtain ⟨z1, e1, _, w1⟩ := DataW.trod_int Tryz.underlying2 h1
  obtain ⟨y2, h2⟩ := hf 2 3 2 _ rfl cB_int
  obtain ⟨z2, e2, _, w2⟩ := DataW.trod_int Tryz.underlying3 h2
  obtain ⟨y3, h3⟩ := hf 3 9 3 _ rfl cB_str
  obtain ⟨z3, e3, _, w3⟩ := DataW.trod_string Tryz.underlying9 h3
  simp only [List.drop_zero, List.drop_succ_cons, List.take_succ_cons, List.take_zero, List.cons.injEq, and_true] at e0 e1 e2 e3
  subst e0 e1 e2 e3
  exact ⟨⟨z0, z1, z2, z3⟩, rfl, (Go.bounds_u8 w0).1, Go.bounds_i64 w2⟩
set_option maxRecDepth 100000 in
theorem openB_itm (hl : cs.length = 8) (h : DataW.trod enc Tryz.prog w base spare held n 54 cs = some y) : ∃ p : PItm, cs = p.cells ∧ (0 ≤ p.kind ∧ p.kind ≤ 255) ∧ 0 ≤ p.v.sort ∧ i64B p.type ∧ i64B p.v.type := by
 obtain ⟨n', hf⟩ := fields Tryz.underlying54 h
 match cs, hl with
 | [c0, c1, c2, c3, c4, c5, c6, c7], _ =>
  obtain ⟨y0, h0⟩ := hf 0 9 0 _ rfl cB_str
  obtain ⟨z0, e0, _, w0⟩ := DataW.trod_string Tryz.underlying9 h0
  obtain ⟨y1, h1⟩ := hf 1 5 1 _ rfl cB_u8
  obtain ⟨z1, e1, _, w1⟩ := DataW.trod_int Tryz.underlying5 h1
  obtain ⟨y2, h2⟩ := hf 2 3 2 _ rfl cB_int
  obtain ⟨z2, e2, _, w2⟩ := DataW.trod_int Tryz.underlying3 h2
  obtain ⟨y3, h3⟩ := hf 3 3 3 _ rfl cB_int
  obtain ⟨z3, e3, _, w3⟩ := DataW.trod_int Tryz.underlying3 h3
  obtain ⟨y4, h4⟩ := hf 4 52 4 _ rfl cB_val
  obtain ⟨z4, e4, r4⟩ := openB_val (by rfl) h4
  unfold PVal.cells at e4
  simp only [List.drop_zero, List.drop_succ_cons, List.take_succ_cons, List.take_zero, List.cons.injEq, and_true] at e0 e1 e2 e3 e4
  obtain ⟨x0, x1, x2, x3⟩ := e4
  subst e0 e1 e2 e3 x0 x1 x2 x3
  exact ⟨⟨z0, z1, z2, z3, z4⟩, rfl, (by have := Go.bounds_u8 w1; omega), r4.1, Go.bounds_i64 w2, r4.2⟩
set_option maxRecDepth 100000 in
theorem openB_strs (h : DataW.trod enc Tryz.prog w base spare held n 45 cs = some y) : ∃ (l : List ByteArray) (v : Value), cs = [v] ∧ SlStrs w (fun _ => True) v l := by
 obtain ⟨l, v, h1, h2⟩ := open_flat (fun x => [Value.string x]) (fun _ => rfl) Tryz.underlying45 cB_str (by decide) (fun n cs y _ h => by
  obtain ⟨z, e, _⟩ := DataW.trod_string Tryz.underlying9 h
  exact ⟨z, e⟩) h
 refine ⟨l, v, h1, ?_⟩
 have : l.flatMap (fun x => [Value.string x]) = l.map Value.string := by
  clear h2
  induction l with
  | nil => rfl
  | cons a l ih => simp [List.flatMap_cons, ih]
 unfold SlStrs
 rw [← this]
 exact h2
theorem openB_uses (h : DataW.trod enc Tryz.prog w base spare held n 22 cs = some y) : ∃ (l : List UseD) (v : Value), cs = [v] ∧ SlUsesF w (fun _ => True) v l ∧ ∀ u ∈ l, 0 ≤ u.key ∧ u.key < 18446744073709551616 :=
 open_flatRB UseD.cellsF (fun u => 0 ≤ u.key ∧ u.key < 18446744073709551616) useF_len Tryz.underlying22 cB_use (by decide) (fun n cs y hl h => openB_use hl h) h
theorem openB_itms (h : DataW.trod enc Tryz.prog w base spare held n 24 cs = some y) : ∃ (l : List PItm) (v : Value), cs = [v] ∧ SlPItms w (fun _ => True) v l ∧ ∀ x ∈ l, (0 ≤ x.kind ∧ x.kind ≤ 255) ∧ 0 ≤ x.v.sort ∧ i64B x.type ∧ i64B x.v.type :=
 open_flatRB PItm.cells (fun x => (0 ≤ x.kind ∧ x.kind ≤ 255) ∧ 0 ≤ x.v.sort ∧ i64B x.type ∧ i64B x.v.type) pitm_len Tryz.underlying24 cB_itm (by decide) (fun n cs y hl h => openB_itm hl h) h
theorem ones_ofB {α : Type} {S : Nat} (hS : 0 < S) {l : List α} {xs : List Value} (hl : xs.length = l.length * S) (h : ∀ i x, l[i]? = some x → ∃ c : List Value, c.length = S ∧ (∀ u ∈ c, u.oneCell' = true) ∧ ∀ (k : Nat) (u : Value), c[k]? = some u → xs[i * S + k]? = some u) : ∀ u ∈ xs, u.oneCell' = true := by
 intro u hu
 obtain ⟨j, hj⟩ := List.mem_iff_getElem?.1 hu
 have hjl : j < l.length * S := by
  have := (List.getElem?_eq_some_iff.1 hj).1
  omega
 have h1 : j / S < l.length := Nat.div_lt_of_lt_mul (by rw [Nat.mul_comm]; exact hjl)
 have h2 : j % S < S := Nat.mod_lt _ hS
 have e : j / S * S + j % S = j := by rw [Nat.mul_comm]; exact Nat.div_add_mod j S
 obtain ⟨c, hc, ho, hx⟩ := h (j / S) _ (List.getElem?_eq_getElem h1)
 have hu' := List.getElem?_eq_getElem (l := c) (i := j % S) (by omega)
 have := hx _ _ hu'
 rw [e, hj] at this
 injection this with this
 subst this
 exact ho _ (List.getElem_mem _)
theorem openB_arms (h : DataW.trod enc Tryz.prog w base spare held n 47 cs = some y) : ∃ (l : List ArmD) (v : Value), cs = [v] ∧ SlArms w (fun _ => True) v l := by
 obtain ⟨l, v, xs, h1, h2, h3⟩ := open_things (fun (p : ArmD) c => ∃ va vb, c = [va, vb, .bool p.els] ∧ SlInts w (fun _ => True) va p.frm ∧ SlInts w (fun _ => True) vb p.to) Tryz.underlying47 cB_arm (by decide) (fun n cs y hl h => openB_arm hl h) h
 have hl : xs.length = l.length * 3 := by
  obtain ⟨A, c, _, _, _, hl, _⟩ := h2
  exact hl
 refine ⟨l, v, h1, xs, h2, ones_ofB (by decide) hl (fun i x hi => ?_), fun i x hi => ?_⟩
 ·obtain ⟨c, hc, ⟨va, vb, rfl, ha, hb⟩, hx⟩ := h3 i x hi
  refine ⟨_, hc, fun u hu => ?_, hx⟩
  have a1 := Sl.oneO ha
  have a2 := Sl.oneO hb
  simp only [List.mem_cons, List.not_mem_nil, or_false] at hu
  rcases hu with rfl | rfl | rfl <;> first | rfl | assumption
 ·obtain ⟨c, hc, ⟨va, vb, rfl, ha, hb⟩, hx⟩ := h3 i x hi
  exact ⟨va, vb, hx 0 _ rfl, hx 1 _ rfl, hx 2 _ rfl, ha, hb⟩
set_option maxRecDepth 100000 in
theorem openB_ty (hl : cs.length = 12) (h : DataW.trod enc Tryz.prog w base spare held n 50 cs = some y) : ∃ (p : Ty) (vn vf va vp : Value), cs = p.cells vn vf va vp ∧ Lists w (fun _ => True) vn vf va vp p ∧ (0 ≤ p.kind ∧ p.kind ≤ 255) ∧ tyBnd p := by
 obtain ⟨n', hf⟩ := fields Tryz.underlying50 h
 match cs, hl with
 | [c0, c1, c2, c3, c4, c5, c6, c7, c8, c9, c10, c11], _ =>
  obtain ⟨y0, h0⟩ := hf 0 5 0 _ rfl cB_u8
  obtain ⟨z0, e0, _, w0⟩ := DataW.trod_int Tryz.underlying5 h0
  obtain ⟨y1, h1⟩ := hf 1 9 1 _ rfl cB_str
  obtain ⟨z1, e1, _, w1⟩ := DataW.trod_string Tryz.underlying9 h1
  obtain ⟨y2, h2⟩ := hf 2 9 2 _ rfl cB_str
  obtain ⟨z2, e2, _, w2⟩ := DataW.trod_string Tryz.underlying9 h2
  obtain ⟨y3, h3⟩ := hf 3 3 3 _ rfl cB_int
  obtain ⟨z3, e3, _, w3⟩ := DataW.trod_int Tryz.underlying3 h3
  obtain ⟨y4, h4⟩ := hf 4 3 4 _ rfl cB_int
  obtain ⟨z4, e4, _, w4⟩ := DataW.trod_int Tryz.underlying3 h4
  obtain ⟨y5, h5⟩ := hf 5 2 5 _ rfl cB_i64
  obtain ⟨z5, e5, _, w5⟩ := DataW.trod_int Tryz.underlying2 h5
  obtain ⟨y6, h6⟩ := hf 6 2 6 _ rfl cB_i64
  obtain ⟨z6, e6, _, w6⟩ := DataW.trod_int Tryz.underlying2 h6
  obtain ⟨y7, h7⟩ := hf 7 45 7 _ rfl cB_strs
  obtain ⟨z7, v7, e7, s7⟩ := openB_strs h7
  obtain ⟨y8, h8⟩ := hf 8 46 8 _ rfl cB_flds
  obtain ⟨z8, v8, e8, s8, r8⟩ := open_flatRB Fld.cells (S := 3) (fun f => i64B f.type) (fun _ => rfl) Tryz.underlying46 cB_fld (by decide) (fun n cs y hl h => openB_fld hl h) h8
  obtain ⟨y9, h9⟩ := hf 9 47 9 _ rfl cB_arms
  obtain ⟨z9, v9, e9, s9⟩ := openB_arms h9
  obtain ⟨y10, h10⟩ := hf 10 48 10 _ rfl cB_pars
  obtain ⟨z10, v10, e10, s10, r10⟩ := open_flatRB Par.cells (S := 2) (fun f => i64B f.type) (fun _ => rfl) Tryz.underlying48 cB_par (by decide) (fun n cs y hl h => openB_par hl h) h10
  obtain ⟨y11, h11⟩ := hf 11 3 11 _ rfl cB_int
  obtain ⟨z11, e11, _, w11⟩ := DataW.trod_int Tryz.underlying3 h11
  simp only [List.drop_zero, List.drop_succ_cons, List.take_succ_cons, List.take_zero, List.cons.injEq, and_true] at e0 e1 e2 e3 e4 e5 e6 e7 e8 e9 e10 e11
  subst e0 e1 e2 e3 e4 e5 e6 e7 e8 e9 e10 e11
  exact ⟨⟨z0, z1, z2, z3, z4, z5, z6, z7, z8, z9, z10, z11⟩, _, _, _, _, rfl, ⟨s7, s8, s9, s10⟩, (by have := Go.bounds_u8 w0; simp only; omega), ⟨Go.bounds_i64 w3, Go.bounds_i64 w4, Go.bounds_i64 w11, r8, r10⟩⟩
theorem openB_tys (h : DataW.trod enc Tryz.prog w base spare held n 23 cs = some y) : ∃ (l : List Ty) (v : Value), cs = [v] ∧ SlTys w (fun _ => True) v l ∧ ∀ t ∈ l, (0 ≤ t.kind ∧ t.kind ≤ 255) ∧ tyBnd t := by
 obtain ⟨l, v, xs, h1, h2, h3⟩ := open_things (fun (p : Ty) c => ∃ vn vf va vp, c = p.cells vn vf va vp ∧ Lists w (fun _ => True) vn vf va vp p ∧ (0 ≤ p.kind ∧ p.kind ≤ 255) ∧ tyBnd p) Tryz.underlying23 cB_ty (by decide) (fun n cs y hl h => openB_ty hl h) h
 have hl : xs.length = l.length * 12 := by
  obtain ⟨A, c, _, _, _, hl, _⟩ := h2
  exact hl
 refine ⟨l, v, h1, ⟨xs, h2, ones_ofB (by decide) hl (fun i x hi => ?_), fun i x hi => ?_⟩, fun t ht => ?_⟩
 ·obtain ⟨c, hc, ⟨vn, vf, va, vp, rfl, ho, _⟩, hx⟩ := h3 i x hi
  refine ⟨_, hc, fun u hu => ?_, hx⟩
  have a1 := Sl.oneO ho.names
  have a2 := Sl.oneO ho.fields
  obtain ⟨ys, g1, _⟩ := ho.arms
  have a3 := Sl.oneO g1
  have a4 := Sl.oneO ho.params
  simp only [Ty.cells, List.mem_cons, List.not_mem_nil, or_false] at hu
  rcases hu with rfl | rfl | rfl | rfl | rfl | rfl | rfl | rfl | rfl | rfl | rfl | rfl <;> first | rfl | assumption
 ·obtain ⟨c, hc, ⟨vn, vf, va, vp, rfl, ho, _⟩, hx⟩ := h3 i x hi
  exact ⟨vn, vf, va, vp, hx, ho⟩
 ·obtain ⟨i, hi⟩ := List.getElem?_of_mem ht
  obtain ⟨c, hc, ⟨vn, vf, va, vp, _, _, hw⟩, _⟩ := h3 i t hi
  exact hw
set_option maxRecDepth 100000 in
theorem openB_face (hl : cs.length = 4) (h : DataW.trod enc Tryz.prog w base spare held n 26 cs = some y) : ∃ (f : FaceP) (vu vt vi : Value), cs = [.string f.module, vu, vt, vi] ∧ FacePL w (fun _ => True) vu vt vi f ∧ (∀ x ∈ f.items, 0 ≤ x.v.sort) ∧ faceW (faceOf f) ∧ f.module.size ≤ maxLen ∧ (∀ t ∈ f.types, tyBnd t) ∧ ∀ x ∈ f.items, i64B x.type ∧ i64B x.v.type := by
 obtain ⟨n', hf⟩ := fields Tryz.underlying26 h
 match cs, hl with
 | [c0, c1, c2, c3], _ =>
  obtain ⟨y0, h0⟩ := hf 0 9 0 _ rfl cB_str
  obtain ⟨z0, e0, _, w0⟩ := DataW.trod_string Tryz.underlying9 h0
  obtain ⟨y1, h1⟩ := hf 1 22 1 _ rfl cB_uses
  obtain ⟨z1, v1, e1, s1, r1⟩ := openB_uses h1
  obtain ⟨y2, h2⟩ := hf 2 23 2 _ rfl cB_tys
  obtain ⟨z2, v2, e2, s2, r2⟩ := openB_tys h2
  obtain ⟨y3, h3⟩ := hf 3 24 3 _ rfl cB_itms
  obtain ⟨z3, v3, e3, s3, r3⟩ := openB_itms h3
  simp only [List.drop_zero, List.drop_succ_cons, List.take_succ_cons, List.take_zero, List.cons.injEq, and_true] at e0 e1 e2 e3
  subst e0 e1 e2 e3
  refine ⟨⟨z0, z1, z2, z3⟩, _, _, _, rfl, ⟨s1, s2, s3⟩, fun x hx => (r3 x hx).2.1, ⟨r1, fun t ht => (r2 t ht).1, fun x hx => ?_, fun x hx => ?_⟩, w0, fun t ht => (r2 t ht).2, fun x hx => (r3 x hx).2.2⟩
  ·obtain ⟨p, hp, rfl⟩ := List.mem_map.1 hx
   exact (r3 p hp).1
  ·obtain ⟨p, hp, rfl⟩ := List.mem_map.1 hx
   exact anyW_ofB p.v
end
def IsFaceB (W : World) (v : Value) : Prop := ∃ (f : FaceP) (vu vt vi : Value), v = .agg #[.string f.module, vu, vt, vi] ∧ FacePL W (fun _ => True) vu vt vi f ∧ (∀ x ∈ f.items, 0 ≤ x.v.sort) ∧ faceW (faceOf f) ∧ f.module.size ≤ maxLen ∧ (∀ t ∈ f.types, tyBnd t) ∧ ∀ x ∈ f.items, i64B x.type ∧ i64B x.v.type
set_option maxRecDepth 100000 in
theorem open_faceB {H : Type} {enc : TypeId × Value → H} {W : World} {r : Reach} {b0 : Nat} {v : Value} {d : DataW H} {p : List MemPlace}
  (hv : Value.okWide Tryz.prog W r b0 26 v) (h : DataW.Trod enc Tryz.prog W 0 (fun _ => true) true 26 v d p) : IsFaceB W v := by
 obtain ⟨cs, n, y, rfl, hl, ht⟩ := open_aggF Tryz.underlying26 hv h
 rw [cB_face] at hl
 obtain ⟨f, vu, vt, vi, rfl, hf⟩ := openB_face hl ht
 exact ⟨f, vu, vt, vi, rfl, hf⟩
end Go.Proofs.YtmpbkfbjmmoapaaGreat

/- Interface bytes that are read are written as they were. No conditions. -/
namespace Go.Proofs.YtmpbkfbjmmoapaaGreat
set_option linter.unusedVariables false
structure Back {α : Type} (f : Rd → α × Rd) (enc : α → List UInt8) : Prop where
 keeps : ∀ r : Rd, r.bad = true → (f r).2.bad = true
 back : ∀ (s : List UInt8) (x : α) (r : List UInt8), f ⟨s, false⟩ = (x, ⟨r, false⟩) → s = enc x ++ r
theorem Back.map {α β : Type} {f : Rd → α × Rd} {e : α → List UInt8} (hf : Back f e) (g : α → β) {k : β → List UInt8} (hk : ∀ x, k (g x) = e x) : Back (fun r => (g (f r).1, (f r).2)) k := by
 refine ⟨fun r h => hf.keeps r h, fun s x r h => ?_⟩
 injection h with h1 h2
 rw [← h1, hk]
 exact hf.back s _ r (by rw [← h2])
theorem numL_valN : ∀ (k : Nat) (l : List UInt8), l.length = k → numL (valN l) k = l ∧ valN l < 256 ^ k := by
 intro k
 induction k with
 | zero =>
  intro l hl
  rw [List.eq_nil_of_length_eq_zero hl]
  exact ⟨rfl, by decide⟩
 | succ k ih =>
  intro l hl
  have hne : l ≠ [] := by intro e; rw [e] at hl; cases hl
  have dl : l = l.dropLast ++ [l.getLast hne] := (List.dropLast_concat_getLast hne).symm
  generalize l.getLast hne = x at dl
  obtain ⟨h1, h2⟩ := ih l.dropLast (by simp [hl])
  have hx := x.toNat_lt
  generalize l.dropLast = m at dl h1 h2
  subst dl
  rw [valN_snoc, numL_snoc, show (256 * valN m + x.toNat) / 256 = valN m by omega, show (256 * valN m + x.toNat) % 256 = x.toNat by omega, h1]
  refine ⟨by rw [UInt8.ofNat_toNat], by rw [Nat.pow_succ]; omega⟩
def Rd.str (k : Nat) (r : Rd) : ByteArray × Rd := (⟨(((r.num k).2.raw (r.num k).1).1).toArray⟩, ((r.num k).2.raw (r.num k).1).2)
end Go.Proofs.YtmpbkfbjmmoapaaGreat
