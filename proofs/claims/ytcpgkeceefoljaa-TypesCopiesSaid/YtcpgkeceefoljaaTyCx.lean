/- A struct Made by value, opened; TypesCopies over it. No conditions. -/
import Derived.Test.YtcpgkeceefoljaaTyP
import Derived.Test.YtcpgkeceefoljaaTyCw
namespace Go.Proofs.Ytcpgkeceefoljaa
open Go.ChangeShapes Go.WideShapes Go.ChangeAt Go.RowKit Go.Deep
set_option linter.unusedVariables false
section
variable {H : Type} {enc : TypeId × Value → H} {P : Program} {w : World} {base : Nat} {held : Bool} {spare : Nat → Bool}
theorem open_agg_fields {r : Reach} {b0 : Nat} {t : TypeId} {fs : Array Field} {v : Value} {d : DataW H} {p : List MemPlace} (hs : P.underlying t = some (.struct fs)) (hone : oneCellFields P fs = true) (hC : P.cellsOf t = fs.size)
    (hv : Value.okWide P w r b0 t v) (h : DataW.Trod enc P w base spare held t v d p) :
    ∃ (cs : Array Value) (n : Nat), v = .agg cs ∧ cs.size = fs.size ∧ ∀ (j : Nat) (f : Field), fs[j]? = some f → ∃ (u : Value) (y : DataW H × List MemPlace), cs[j]? = some u ∧ DataW.trod enc P w base spare held n f.type [u] = some y := by
  obtain ⟨cs, rfl, hsz⟩ := okWide_struct hs hv
  obtain ⟨fuel, hf⟩ := h
  obtain ⟨ys, n', hn', hy, hlen, hyl, hf⟩ := DataW.trod_struct hs hf
  refine ⟨cs, n', rfl, hsz.trans hC, fun j f hj => ?_⟩
  obtain ⟨ho, hk⟩ := hone_of hone j f hj
  have hjl : j < fs.size := (Array.getElem?_eq_some_iff.1 hj).1
  have hjc : j < cs.size := by rw [hsz, hC]; exact hjl
  have h1 := hf j f hj
  rw [ho, hk] at h1
  have hone' : ((Value.agg cs).cells.toList.drop j).take 1 = [cs[j]] := by
    have : (Value.agg cs).cells.toList = cs.toList := by simp [Value.cells]
    rw [this, List.drop_eq_getElem_cons (by simpa using hjc)]
    simp
  rw [hone'] at h1
  have hys : ys[j]? = some (ys[j]'(by omega)) := List.getElem?_eq_getElem (by omega)
  exact ⟨_, _, Array.getElem?_eq_getElem hjc, h1.trans hys⟩
end
/-- A value that is a Made. -/
def IsMade (w : World) (v : Value) : Prop := ∃ (m : MadeD) (Ap Av : Option Addr) (cp cv : Nat), m.ok ∧ v = .agg #[.int .u8 m.k, .int .u16 m.b, .int .u16 m.x, .int .i32 m.lo, .int .i32 m.hi, .slice Ap m.ps.length cp, .slice Av m.vs.length cv] ∧ (m.ps.length ≤ cp ∧ cp ≤ maxLen) ∧ (m.vs.length ≤ cv ∧ cv ≤ maxLen) ∧
    (∀ i, i < m.ps.length → ∃ b' o', Ap = some ⟨b', o', none⟩ ∧ w.cell? ⟨b', o' + i, none⟩ = some (.int .u16 (m.ps.getD i 0))) ∧
    (∀ i, i < m.vs.length → ∃ b' o', Av = some ⟨b', o', none⟩ ∧ w.cell? ⟨b', o' + i, none⟩ = some (.bool (m.vs.getD i false)))
set_option maxRecDepth 100000 in
theorem open_made {H : Type} {enc : TypeId × Value → H} {W : World} {r : Reach} {b0 : Nat} {v : Value} {d : DataW H} {p : List MemPlace}
    (hv : Value.okWide Try.prog W r b0 61 v) (h : DataW.Trod enc Try.prog W 0 (fun _ => true) true 61 v d p) : IsMade W v := by
  obtain ⟨cs, n, rfl, hsz, hf⟩ := open_agg_fields Try.underlying61 (by kernel_rfl) (by kernel_rfl) hv h
  obtain ⟨v0, y0, hc0, ht0⟩ := hf 0 _ rfl
  obtain ⟨v1, y1, hc1, ht1⟩ := hf 1 _ rfl
  obtain ⟨v2, y2, hc2, ht2⟩ := hf 2 _ rfl
  obtain ⟨v3, y3, hc3, ht3⟩ := hf 3 _ rfl
  obtain ⟨v4, y4, hc4, ht4⟩ := hf 4 _ rfl
  obtain ⟨v5, y5, hc5, ht5⟩ := hf 5 _ rfl
  obtain ⟨v6, y6, hc6, ht6⟩ := hf 6 _ rfl
  obtain ⟨z0, e0, _, w0⟩ := DataW.trod_int Try.underlying5 ht0
  obtain ⟨z1, e1, _, w1⟩ := DataW.trod_int Try.underlying57 ht1
  obtain ⟨z2, e2, _, w2⟩ := DataW.trod_int Try.underlying57 ht2
  obtain ⟨z3, e3, _, w3⟩ := DataW.trod_int Try.underlying21 ht3
  obtain ⟨z4, e4, _, w4⟩ := DataW.trod_int Try.underlying21 ht4
  obtain ⟨A5, k5, z5, e5, g5, g5', w5, hz5⟩ := inner_ints Try.underlying58 Try.underlying57 (by kernel_rfl) ht5
  obtain ⟨A6, k6, z6, e6, g6, g6', hz6⟩ := inner_bools Try.underlying59 Try.underlying4 (by kernel_rfl) ht6
  simp only [List.cons.injEq, and_true] at e0 e1 e2 e3 e4
  subst e0 e1 e2 e3 e4 e5 e6
  obtain ⟨l⟩ := cs
  have hl : l.length = 7 := hsz
  match l, hl with
  | [c0, c1, c2, c3, c4, c5, c6], _ =>
    simp only [List.getElem?_toArray, List.getElem?_cons_zero, List.getElem?_cons_succ, Option.some.injEq] at hc0 hc1 hc2 hc3 hc4 hc5 hc6
    subst hc0 hc1 hc2 hc3 hc4 hc5 hc6
    exact ⟨⟨z0, z1, z2, z3, z4, z5, z6⟩, A5, A6, k5, k6, ⟨Go.bounds_u8 w0, Go.bounds_u16 w1, Go.bounds_u16 w2, Go.bounds_i32 w3, Go.bounds_i32 w4, fun i hi => Go.bounds_u16 (w5 i hi)⟩, rfl, ⟨g5, g5'⟩, ⟨g6, g6'⟩, hz5, hz6⟩
theorem copies_made (w : World) (v : Value) (h : IsMade w v) (nm : ByteArray) (hnm : nm.size ≤ maxLen) : Calls Try.prog 5 #[v, .string nm] w fun e w' => e = .returned (.bool true) ∧ Wr [] w w' := by
  obtain ⟨m, Ap, Av, cp, cv, hok, rfl, h1, h2, h3, h4⟩ := h
  exact copies_walk w m hok Ap Av cp cv h1 h2 h3 h4 nm
end Go.Proofs.Ytcpgkeceefoljaa
