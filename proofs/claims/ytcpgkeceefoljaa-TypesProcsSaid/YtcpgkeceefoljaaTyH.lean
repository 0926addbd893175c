/- A table of types in memory; may, of, Get, Base, kind: walked. No conditions but that the table is there. -/
import Derived.Test.YtcpgkeceefoljaaTyG
namespace Go.Proofs.Ytcpgkeceefoljaa
open Go.RowKit
set_option linter.unusedVariables false
set_option linter.unusedSimpArgs false

def Ty.none : Ty := ⟨0, ⟨#[]⟩, ⟨#[]⟩, 0, 0, 0, 0, [], [], [], [], 0⟩
theorem Lists.none (w : World) (P : Nat → Prop) : Lists w P (.slice .none 0 0) (.slice .none 0 0) (.slice .none 0 0) (.slice .none 0 0) Ty.none :=
  ⟨Sl.nil w P 1, Sl.nil w P 3, SlArms.nil w P, Sl.nil w P 2⟩
theorem Lists.forms {w : World} {P : Nat → Prop} {vn vf va vp : Value} {t : Ty} (h : Lists w P vn vf va vp t) :
    (∃ A c, vn = .slice A t.names.length c) ∧ (∃ A c, vf = .slice A t.fields.length c) ∧ (∃ A c, va = .slice A t.arms.length c) ∧ (∃ A c, vp = .slice A t.params.length c) := by
  obtain ⟨A1, c1, e1, _, _⟩ := h.names.form
  obtain ⟨A2, c2, e2, _, _⟩ := h.fields.form
  obtain ⟨xs, h3, _, _⟩ := h.arms
  obtain ⟨A3, c3, e3, _, _⟩ := h3.form
  obtain ⟨A4, c4, e4, _, _⟩ := h.params.form
  exact ⟨⟨A1, c1, e1⟩, ⟨A2, c2, e2⟩, ⟨A3, c3, e3⟩, ⟨A4, c4, e4⟩⟩

/-- A type's cells, in a list of cells. -/
def TyAt (w : World) (P : Nat → Prop) (xs : List Value) (i : Nat) (ty : Ty) : Prop :=
  ∃ vn vf va vp, (∀ j u, (ty.cells vn vf va vp)[j]? = some u → xs[i * 12 + j]? = some u) ∧ Lists w P vn vf va vp ty
theorem TyAt.keep {w w' : World} {P : Nat → Prop} {xs : List Value} {i : Nat} {ty : Ty} {l : List Nat} (h : TyAt w P xs i ty) (hw : Wr l w w') (hP : ∀ b, P b → b ∉ l) : TyAt w' P xs i ty := by
  obtain ⟨vn, vf, va, vp, hc, hl⟩ := h
  exact ⟨vn, vf, va, vp, hc, hl.keep hw hP⟩
theorem TyAt.into {w : World} {P Q : Nat → Prop} {xs : List Value} {i : Nat} {ty : Ty} (h : TyAt w P xs i ty) (hP : ∀ b, P b → b < w.heap.size → Q b) : TyAt w Q xs i ty := by
  obtain ⟨vn, vf, va, vp, hc, hl⟩ := h
  exact ⟨vn, vf, va, vp, hc, hl.into hP⟩

/-- A table, in block t: its types lie in a row of the call's own; nothing of theirs lies in the blocks of L. -/
structure Tab (T : TypeId) (w : World) (t : Nat) (v : Value) (L : List Nat) (base : Nat) (tys : List Ty) : Prop where
  blk : Blk w t T #[v]
  row : ∃ xs, w.ownsRow base 31 12 v tys.length xs ∧ (∀ u ∈ xs, u.oneCell' = true) ∧ ∀ i ty, tys[i]? = some ty → TyAt w (· ∉ L) xs i ty
  tin : t ∈ L
  rin : ∀ k, v.ownBlock = some k → k ∈ L
  room : ∀ ty ∈ tys, ty.room
  lin : ∀ x ∈ L, x < w.heap.size

section
variable {T : TypeId} {w w' : World} {t : Nat} {v : Value} {L L' : List Nat} {base : Nat} {tys : List Ty}
theorem Tab.keep {l : List Nat} (h : Tab T w t v L base tys) (hw : Wr l w w') (hl : ∀ x ∈ l, x ∈ L) (ht : t ∉ l) (hv : ∀ k, v.ownBlock = some k → k ∉ l) : Tab T w' t v L base tys := by
  refine ⟨h.blk.wr hw ht, ?_, h.tin, h.rin, h.room, fun x hx => Nat.lt_of_lt_of_le (h.lin x hx) hw.size⟩
  obtain ⟨xs, ho, h1, hx⟩ := h.row
  exact ⟨xs, ownsRow_wr ho hw hv, h1, fun i ty hi => (hx i ty hi).keep hw (fun b hb hm => hb (hl b hm))⟩
theorem Tab.wr0 (h : Tab T w t v L base tys) (hw : Wr [] w w') : Tab T w' t v L base tys := h.keep hw (by simp) (by simp) (by simp)
theorem Tab.step {l : List Nat} (h : Tab T w t v L base tys) (hw : Wr l w w') (hl : ∀ x ∈ l, x ∈ L) (ht : t ∉ l) (hv : ∀ k, v.ownBlock = some k → k ∉ l) (h1 : ∀ x ∈ L, x ∈ L') (h2 : ∀ x ∈ L', x ∈ L ∨ w.heap.size ≤ x) (h3 : ∀ x ∈ L', x < w'.heap.size) : Tab T w' t v L' base tys := by
  refine ⟨h.blk.wr hw ht, ?_, h1 _ h.tin, fun k hk => h1 _ (h.rin k hk), h.room, h3⟩
  obtain ⟨xs, ho, h4, hx⟩ := h.row
  refine ⟨xs, ownsRow_wr ho hw hv, h4, fun i ty hi => ?_⟩
  have k1 := (hx i ty hi).into (Q := fun b => b ∉ L' ∧ b ∉ L) (fun b hb hs => ⟨fun hm => by
    rcases h2 b hm with h5 | h5
    · exact hb h5
    · omega, hb⟩)
  exact (k1.keep hw (fun b hb hm => hb.2 (hl b hm))).into (fun b hb _ => hb.1)
theorem Tab.len (h : Tab T w t v L base tys) : ∃ A c, v = .slice A tys.length c ∧ tys.length ≤ c ∧ c ≤ maxLen := by
  obtain ⟨xs, ho, h1, hx⟩ := h.row
  exact (Sl.ofOwn (P := fun _ => True) ho (fun _ _ => trivial)).form
end

/-- The type of a number. -/
def tyOf (tys : List Ty) (i : Int) : Ty := if 0 ≤ i then tys.getD i.toNat Ty.none else Ty.none
/-- A type, as it stands there. -/
def OfP (w : World) (L : List Nat) (ty : Ty) (e : Ending) (w' : World) : Prop :=
  ∃ vn vf va vp, e = .returned (ty.val vn vf va vp) ∧ Wr [] w w' ∧ Lists w' (· ∉ L) vn vf va vp ty

set_option maxHeartbeats 1000000 in
theorem of_any (w : World) (t : Nat) (v : Value) (L : List Nat) (base : Nat) (tys : List Ty) (h : Tab 71 w t v L base tys) (i : Int) :
    Calls Try.prog 30 #[.pointer (some ⟨t, 0, none⟩), .int .i64 i] w (OfP w L (tyOf tys i)) := by
  obtain ⟨A, c, rfl, h1, h2⟩ := h.len
  have hb := h.blk
  have c0 := hb.cell 0
  have f0 := hb.frozen 0
  simp only [List.getElem?_toArray, List.getElem?_cons_zero] at c0
  have HT := Lib.hid h
  unfold maxLen at h2
  have hz := hb.lt
  clear hb h
  by_cases hneg : i < 0
  · have ht : tyOf tys i = Ty.none := if_neg (by omega)
    rw [ht]
    clear ht
    go_enter Try.func30, Try.ntmps30
    go_wp2_with fail
    refine bodyPost_ret (v := Ty.none.val (.slice .none 0 0) (.slice .none 0 0) (.slice .none 0 0) (.slice .none 0 0)) ?_ rfl ⟨_, _, _, _, rfl, ?_, Lists.none _ _⟩
    · simp [Ty.val, Ty.cells, Ty.none, results, Try.results30, go_sem]
    · exact (Wr.refl [] w).alloc _
  · obtain ⟨k, rfl⟩ := Int.eq_ofNat_of_zero_le (show 0 ≤ i by omega)
    by_cases hlt : k < tys.length
    · have ht : tyOf tys (k : Int) = tys[k] := by
        unfold tyOf
        rw [if_pos (by omega), Int.toNat_natCast, List.getD_eq_getElem?_getD, List.getElem?_eq_getElem hlt]
        rfl
      rw [ht]
      obtain ⟨xs, ho, hone, hx⟩ := HT.out.row
      obtain ⟨vn, vf, va, vp, hc, hl⟩ := hx k _ (List.getElem?_eq_getElem hlt)
      obtain ⟨⟨A1, c1, rfl⟩, ⟨A2, c2, rfl⟩, ⟨A3, c3, rfl⟩, ⟨A4, c4, rfl⟩⟩ := hl.forms
      generalize tys[k] = ty at *
      obtain ⟨g, rfl⟩ : ∃ g, A = some ⟨g, 0, none⟩ := by
        rcases ho.2 with ⟨e1, _⟩ | ⟨g, _, _, e1, _⟩
        · injection e1 with _ e2 _
          omega
        · injection e1 with e1
          exact ⟨g, e1⟩
      have a0 := (ho.cellAt (k * 12 + 0) (by omega)).trans (hc 0 _ rfl)
      have a1 := (ho.cellAt (k * 12 + 1) (by omega)).trans (hc 1 _ rfl)
      have a2 := (ho.cellAt (k * 12 + 2) (by omega)).trans (hc 2 _ rfl)
      have a3 := (ho.cellAt (k * 12 + 3) (by omega)).trans (hc 3 _ rfl)
      have a4 := (ho.cellAt (k * 12 + 4) (by omega)).trans (hc 4 _ rfl)
      have a5 := (ho.cellAt (k * 12 + 5) (by omega)).trans (hc 5 _ rfl)
      have a6 := (ho.cellAt (k * 12 + 6) (by omega)).trans (hc 6 _ rfl)
      have a7 := (ho.cellAt (k * 12 + 7) (by omega)).trans (hc 7 _ rfl)
      have a8 := (ho.cellAt (k * 12 + 8) (by omega)).trans (hc 8 _ rfl)
      have a9 := (ho.cellAt (k * 12 + 9) (by omega)).trans (hc 9 _ rfl)
      have a10 := (ho.cellAt (k * 12 + 10) (by omega)).trans (hc 10 _ rfl)
      have a11 := (ho.cellAt (k * 12 + 11) (by omega)).trans (hc 11 _ rfl)
      have HL := Lib.hid hl
      have hgl := (ho.lt g rfl).2
      have hi0 : (0 : Int) ≤ (k : Int) := by omega
      have hi1 : (k : Int) < (tys.length : Int) := by omega
      clear ht hc hl hx hone ho hneg
      simp only [Nat.add_zero] at a0
      go_enter Try.func30, Try.ntmps30
      go_wp2_with fail
      refine bodyPost_ret (v := ty.val (.slice A1 ty.names.length c1) (.slice A2 ty.fields.length c2) (.slice A3 ty.arms.length c3) (.slice A4 ty.params.length c4)) ?_ rfl ⟨_, _, _, _, rfl, ?_, Lists.wr0 HL.out ?_⟩
      · simp [Ty.val, Ty.cells, results, Try.results30, go_sem]
      · exact (Wr.refl [] w).alloc _
      · exact (Wr.refl [] w).alloc _
    · have ht : tyOf tys (k : Int) = Ty.none := by
        unfold tyOf
        rw [if_pos (by omega), Int.toNat_natCast, List.getD_eq_getElem?_getD, List.getElem?_eq_none (by omega)]
        rfl
      rw [ht]
      clear ht
      go_enter Try.func30, Try.ntmps30
      go_wp2_with fail
      refine bodyPost_ret (v := Ty.none.val (.slice .none 0 0) (.slice .none 0 0) (.slice .none 0 0) (.slice .none 0 0)) ?_ rfl ⟨_, _, _, _, rfl, ?_, Lists.none _ _⟩
      · simp [Ty.val, Ty.cells, Ty.none, results, Try.results30, go_sem]
      · exact (Wr.refl [] w).alloc _
end Go.Proofs.Ytcpgkeceefoljaa
