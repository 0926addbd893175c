/- Slices that read as lists, and a type as it lies in memory. No conditions. -/
import Derived.Test.YtjanbpchedgoiaaCom
import Derived.Maps.AppendAt
import Derived.Deep.AppendLies
import Derived.RegionTactic
import Derived.OwnWalk
import Derived.Laws.OwnMore
import Derived.Deep.Draws
import Derived.Laws.Rows
namespace Go.Proofs.Ytjanbpchedgoiaa
open Go.RowKit
set_option linter.unusedVariables false

/-- A slice of n things of some cells each that reads xs; it lies in blocks that P lets in. -/
def Sl (w : World) (P : Nat → Prop) (size : Nat) (v : Value) (n : Nat) (xs : List Value) : Prop :=
  ∃ (A : Option Addr) (c : Nat), v = .slice A n c ∧ n ≤ c ∧ c ≤ maxLen ∧ xs.length = n * size ∧ ∀ (j : Nat) (u : Value), xs[j]? = some u → ∃ b off, A = some ⟨b, off, none⟩ ∧ P b ∧ w.cell? ⟨b, off + j, none⟩ = some u

section
variable {w w' : World} {P Q : Nat → Prop} {size n : Nat} {v : Value} {xs : List Value}
theorem Sl.nil (w : World) (P : Nat → Prop) (size : Nat) : Sl w P size (.slice none 0 0) 0 [] := ⟨none, 0, rfl, Nat.le_refl _, by simp, by simp, fun j u h => by simp at h⟩
theorem Sl.keep {l : List Nat} (h : Sl w P size v n xs) (hw : Wr l w w') (hP : ∀ b, P b → b ∉ l) : Sl w' P size v n xs := by
  obtain ⟨A, c, hv, h1, h2, h3, h4⟩ := h
  refine ⟨A, c, hv, h1, h2, h3, fun j u hj => ?_⟩
  obtain ⟨b, off, hA, hb, hc⟩ := h4 j u hj
  exact ⟨b, off, hA, hb, hw.cellOf hc (hP b hb)⟩
theorem Sl.wr0 (h : Sl w P size v n xs) (hw : Wr [] w w') : Sl w' P size v n xs := h.keep hw (fun _ _ => by simp)
theorem Sl.into (h : Sl w P size v n xs) (hP : ∀ b, P b → b < w.heap.size → Q b) : Sl w Q size v n xs := by
  obtain ⟨A, c, hv, h1, h2, h3, h4⟩ := h
  refine ⟨A, c, hv, h1, h2, h3, fun j u hj => ?_⟩
  obtain ⟨b, off, hA, hb, hc⟩ := h4 j u hj
  exact ⟨b, off, hA, hP b hb (World.block_lt_of_cell? w _ hc), hc⟩
theorem Sl.mono (h : Sl w P size v n xs) (hP : ∀ b, P b → Q b) : Sl w Q size v n xs := h.into fun b hb _ => hP b hb
theorem Sl.ofOwn {base : Nat} {e : TypeId} (h : w.ownsRow base e size v n xs) (hP : ∀ b, v.ownBlock = some b → P b) : Sl w P size v n xs := by
  have hl := h.1
  rcases h.2 with ⟨rfl, rfl⟩ | ⟨b, cap, cur, rfl, hb, hh, hn, hc, hs, ht⟩
  · have hx : xs = [] := List.eq_nil_of_length_eq_zero (by simpa using hl)
    subst hx
    exact ⟨none, 0, rfl, Nat.le_refl _, by simp, hl, fun j u h => by simp at h⟩
  · refine ⟨_, cap, rfl, hn, hc, hl, fun j u hj => ⟨b, 0, rfl, hP b rfl, ?_⟩⟩
    have := h.cells (g := b) rfl j u hj
    rw [Addr.add_lit] at this
    exact this
/-- The cell of a thing's field. -/
theorem Sl.at_ (h : Sl w P size v n xs) {j : Nat} {u : Value} (hj : xs[j]? = some u) : ∃ b off c, v = .slice (some ⟨b, off, none⟩) n c ∧ n ≤ c ∧ c ≤ maxLen ∧ P b ∧ w.cell? ⟨b, off + j, none⟩ = some u := by
  obtain ⟨A, c, hv, h1, h2, h3, h4⟩ := h
  obtain ⟨b, off, rfl, hb, hc⟩ := h4 j u hj
  exact ⟨b, off, c, hv, h1, h2, hb, hc⟩
theorem Sl.len (h : Sl w P size v n xs) : xs.length = n * size := by
  obtain ⟨A, c, hv, h1, h2, h3, h4⟩ := h
  exact h3
theorem Sl.form (h : Sl w P size v n xs) : ∃ A c, v = .slice A n c ∧ n ≤ c ∧ c ≤ maxLen := by
  obtain ⟨A, c, hv, h1, h2, h3, h4⟩ := h
  exact ⟨A, c, hv, h1, h2⟩
/-- A thing's cells, all at one address. -/
theorem Sl.thing (h : Sl w P size v n xs) (hs : 0 < size) {i : Nat} (hi : i < n) : ∃ b off c, v = .slice (some ⟨b, off, none⟩) n c ∧ n ≤ c ∧ c ≤ maxLen ∧ P b ∧
    ∀ j u, j < size → xs[i * size + j]? = some u → w.cell? ⟨b, off + (i * size + j), none⟩ = some u := by
  have hl := h.len
  obtain ⟨A, c, hv, h1, h2, h3, h4⟩ := h
  have h0 : 0 < xs.length := by rw [hl]; exact Nat.mul_pos (by omega) hs
  obtain ⟨b, off, rfl, hb, hc⟩ := h4 0 xs[0] (List.getElem?_eq_getElem h0)
  refine ⟨b, off, c, hv, h1, h2, hb, fun j u hj hu => ?_⟩
  obtain ⟨b', off', e, hb', hc'⟩ := h4 _ u hu
  injection e with e
  injection e with e1 e2
  subst e1 e2
  exact hc'
end

/-- 'append' of a slice behind a row of the call's own. -/
theorem run_append_sl {P : Program} (w : World) (base : Nat) (t ty e : TypeId) (i : TypeInfo) (z : Value) (size bytes : Nat) (ht : P.underlying t = some (.slice e)) (hi : P.info? e = some i) (hz : i.zero = some z)
    (hsize : i.size = size) (hby : i.bytes = bytes) (hzs : z.cells.size = size) (hsz : 0 < size)
    (v : Value) (n : Nat) (xs : List Value) (hown : w.ownsRow base e size v n xs) (Q : Nat → Prop) (vs : Value) (m : Nat) (news : List Value) (hr : Sl w Q size vs m news) (h1 : ∀ u ∈ news, u.oneCell' = true)
    (h63 : n + m ≤ maxLen) (hbytes : (n + m) * bytes ≤ 140737488355328) (hbase : base ≤ w.heap.size) :
    ∃ v' w', (Builtin.append_ #[t, t] ty #[v, vs]).run P w = .ok v' w' ∧ w'.ownsRow base e size v' (n + m) (xs ++ news) ∧ w.grownBy w' v.ownBlock ∧ (v'.ownBlock = v.ownBlock ∨ v'.ownBlock = some w.heap.size) := by
  obtain ⟨A, c, rfl, _, _, hl, hc⟩ := hr
  rcases Nat.eq_zero_or_pos m with h0 | h0
  · subst h0
    have hn : news = [] := List.eq_nil_of_length_eq_zero (by simpa using hl)
    subst hn
    have hrun : (Builtin.append_ #[t, t] ty #[v, .slice A 0 c]).run P w = .ok v w := by
      rcases hown.2 with ⟨rfl, rfl⟩ | ⟨g, cap, cur, rfl, _, _, hnc, _⟩
      · cases A <;> simp [Builtin.append_, run_underlying ht, sizeOf, typeInfo, hi, Builtin.lenOf, Builtin.firstCells, loadCells, loadCellsFrom, storeCells]
      · cases A <;> simp [Builtin.append_, run_underlying ht, sizeOf, typeInfo, hi, Builtin.lenOf, Builtin.firstCells, hnc, loadCells, loadCellsFrom, storeCells]
    exact ⟨v, w, hrun, by simpa using hown, World.grownBy.refl w _, .inl rfl⟩
  · have hnl : 0 < news.length := by rw [hl]; exact Nat.mul_pos h0 hsz
    obtain ⟨b, off, rfl, _, _⟩ := hc 0 news[0] (List.getElem?_eq_getElem hnl)
    have hcells : ∀ j u, news[j]? = some u → w.cell? ((⟨b, off, none⟩ : Addr).add j) = some u := by
      intro j u hu
      obtain ⟨b', off', e', _, hc'⟩ := hc j u hu
      injection e' with e'
      injection e' with e1 e2
      subst e1 e2
      rw [Addr.add_lit]
      exact hc'
    obtain ⟨v', w', hrun, h2, h3, _, h5⟩ := run_append_own_at (P := P) w base t ty e i z size bytes ht hi hz hsize hby hzs hsz v n xs hown ⟨b, off, none⟩ m c news hl hcells h1 h63 hbytes hbase
    exact ⟨v', w', hrun, h2, h3, h5⟩

section
variable {P : Program} {a : Act} {Q : Exit → Act → World → Prop} {w : World} {o : Oper}
/-- 'append' in a walk, by its run. -/
theorem wp_append_run {K : Act → World → Prop} (s x : Operand) (t : TypeId) (ho : o.op = .call { callee := .builtin .append, args := #[s, x], argTypes := #[t, t] }) (vs vx : Value) (hs : a.eval s = vs) (hx : a.eval x = vx) (v' : Value) (w' : World)
    (hrun : (Builtin.append_ #[t, t] o.type #[vs, vx]).run P w = .ok v' w') (h : K (a.put o.dst v') w') : o.wp P a w K Q := by
  unfold Oper.wp execOp
  simp only [ho, resolve, invoke, builtin, Sem.run_bind, Sem.run_pure, Result.andThen_ok, List.map_toArray, List.map_cons, List.map_nil, hs, hx, hrun]
  exact h
theorem wpList_append_run {ops : Array Oper} {rest : List Oper} (hgd : o.guard = none) (s x : Operand) (t : TypeId) (ho : o.op = .call { callee := .builtin .append, args := #[s, x], argTypes := #[t, t] }) (vs vx : Value) (hs : a.eval s = vs) (hx : a.eval x = vx) (v' : Value) (w' : World)
    (hrun : (Builtin.append_ #[t, t] o.type #[vs, vx]).run P w = .ok v' w') (h : wpList P ops Q rest (a.put o.dst v') w') : wpList P ops Q (o :: rest) a w :=
  wpList_plain hgd fun _ hK => wp_append_run s x t ho vs vx hs hx v' w' hrun (hK _ _ h)
theorem step_append_run {ops : Array Oper} {K : Act → World → Prop} {E : Prop} (hgd : o.guard = none) (s x : Operand) (t : TypeId) (ho : o.op = .call { callee := .builtin .append, args := #[s, x], argTypes := #[t, t] }) (vs vx : Value) (hs : a.eval s = vs) (hx : a.eval x = vx) (v' : Value) (w' : World)
    (hrun : (Builtin.append_ #[t, t] o.type #[vs, vx]).run P w = .ok v' w') (h : K (a.put o.dst v') w') : if Region.wanted o (yielded ops a.tmps) = true then Oper.wp P o a w K Q else E := by
  have hw : Region.wanted o (yielded ops a.tmps) = true := by simp [Region.wanted, hgd]
  rw [if_pos hw]
  exact wp_append_run s x t ho vs vx hs hx v' w' hrun h
end

/-- The row's own block, as a list. -/
def ownL (v : Value) : List Nat := match v.ownBlock with | some k => [k] | none => []
theorem mem_ownL {v : Value} {k : Nat} : k ∈ ownL v ↔ v.ownBlock = some k := by
  unfold ownL
  cases h : v.ownBlock with
  | none => simp
  | some g => simp; exact ⟨fun e => e.symm, fun e => e.symm⟩
theorem Wr.ofGrownOwn {w w' : World} {v : Value} (h : w.grownBy w' v.ownBlock) : Wr (ownL v) w w' := Wr.ofGrown h fun k hk => mem_ownL.2 hk
end Go.Proofs.Ytjanbpchedgoiaa
