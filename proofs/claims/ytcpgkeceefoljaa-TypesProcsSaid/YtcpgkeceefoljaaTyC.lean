/- A type's cells written over others'; a table's Set: walked. Conditions: the lists of the type that is set take no more room than there is. -/
import Derived.Test.YtcpgkeceefoljaaTyW
import Derived.Test.YtcpgkeceefoljaaRegL
namespace Go.Proofs.Ytcpgkeceefoljaa
open Go.RowKit
set_option linter.unusedVariables false
set_option linter.unusedSimpArgs false
set_option linter.unusedSectionVars false
attribute [local go_sem ↓] Go.wp_at_zero Go.wp_at_succ

/-- Cells written one behind the other. -/
def setW (g : Nat) : Nat → List Value → World → World
  | _, [], w => w
  | p, u :: us, w => setW g (p + 1) us (w.setCell ⟨g, p, none⟩ u)
def setL : Nat → List Value → List Value → List Value
  | _, [], xs => xs
  | p, u :: us, xs => setL (p + 1) us (xs.set p u)
theorem setL_len : ∀ (us : List Value) (p : Nat) (xs : List Value), (setL p us xs).length = xs.length
  | [], _, _ => rfl
  | u :: us, p, xs => by rw [setL, setL_len us, List.length_set]
theorem setL_out : ∀ (us : List Value) (p : Nat) (xs : List Value) (i : Nat), (i < p ∨ p + us.length ≤ i) → (setL p us xs)[i]? = xs[i]?
  | [], _, _, _, _ => rfl
  | u :: us, p, xs, i, h => by
    rw [setL, setL_out us (p + 1) _ i (by simp only [List.length_cons] at h; omega), List.getElem?_set_ne (by simp only [List.length_cons] at h; omega)]
theorem setL_in : ∀ (us : List Value) (p : Nat) (xs : List Value) (j : Nat), j < us.length → p + us.length ≤ xs.length → (setL p us xs)[p + j]? = us[j]?
  | [], _, _, _, h, _ => by simp at h
  | u :: us, p, xs, 0, _, hx => by
    rw [setL, setL_out us (p + 1) _ _ (by omega), Nat.add_zero, List.getElem?_set_self (by simp only [List.length_cons] at hx; omega)]
    rfl
  | u :: us, p, xs, j + 1, h, hx => by
    rw [setL, show p + (j + 1) = p + 1 + j by omega, setL_in us (p + 1) _ j (by simpa using h) (by rw [List.length_set]; simp only [List.length_cons] at hx; omega)]
    rfl
theorem setL_all {Q : Value → Prop} : ∀ (us : List Value) (p : Nat) (xs : List Value), (∀ u ∈ xs, Q u) → (∀ u ∈ us, Q u) → ∀ u ∈ setL p us xs, Q u
  | [], _, _, h, _ => h
  | u :: us, p, xs, h, h2 => by
    refine setL_all us (p + 1) _ (fun x hx => ?_) (fun x hx => h2 x (.tail _ hx))
    rcases List.mem_or_eq_of_mem_set hx with e | e
    · exact h x e
    · rw [e]; exact h2 u (.head _)
theorem row_set {w : World} {base size n g j : Nat} {e : TypeId} {v : Value} {xs : List Value} (h : w.ownsRow base e size v n xs) (hg : v.ownBlock = some g) (hj : j < xs.length) (u : Value) : (w.setCell ⟨g, j, none⟩ u).ownsRow base e size v n (xs.set j u) := by
  have hl := h.1
  rcases h.2 with ⟨rfl, rfl⟩ | ⟨b, cap, cur, rfl, hb, hh, hn, hc, hs, ht⟩
  · simp [Value.ownBlock] at hg
  · injection hg with hg
    subst hg
    refine ⟨by rw [List.length_set]; exact hl, .inr ⟨b, cap, cur.setIfInBounds j u, rfl, hb, ?_, hn, hc, by rw [Array.size_setIfInBounds]; exact hs, ?_⟩⟩
    · exact Blk.set_ (show Blk w b e cur from hh) j u
    · rw [Array.toList_setIfInBounds, List.take_set, ht]
theorem row_setW {base size n g : Nat} {e : TypeId} {v : Value} : ∀ (us : List Value) (p : Nat) (w : World) (xs : List Value), w.ownsRow base e size v n xs → v.ownBlock = some g → p + us.length ≤ xs.length → (setW g p us w).ownsRow base e size v n (setL p us xs)
  | [], _, _, _, h, _, _ => h
  | u :: us, p, w, xs, h, hg, hl => row_setW us (p + 1) _ _ (row_set h hg (by simp only [List.length_cons] at hl; omega) u) hg (by rw [List.length_set]; simp only [List.length_cons] at hl; omega)
theorem wr_setW (g : Nat) : ∀ (us : List Value) (p : Nat) (w : World), Wr [g] w (setW g p us w)
  | [], _, w => Wr.refl _ w
  | u :: us, p, w => ((Wr.refl [g] w).setOn (by simp) u).trans (wr_setW g us (p + 1) _)
/-- A table in which one type stands for another. -/
theorem tab_set {T : TypeId} {w W : World} {t : Nat} {v : Value} {L : List Nat} {base g k : Nat} {tys : List Ty} {ty : Ty} {vn vf va vp : Value} (h : Tab T w t v L base tys) (hg : v.ownBlock = some g) (hgt : g ≠ t) (hk : k < tys.length) (hl : Lists w (· ∉ L) vn vf va vp ty) (hr : ty.room)
    (hW : W = setW g (k * 12) (ty.cells vn vf va vp) w) : Tab T W t v L base (tys.set k ty) ∧ Wr [g] w W := by
  have hw : Wr [g] w W := by rw [hW]; exact wr_setW g _ _ w
  obtain ⟨xs, ho, h1, hx⟩ := h.row
  have hc : (ty.cells vn vf va vp).length = 12 := rfl
  have hgL := h.rin g hg
  refine ⟨⟨h.blk.wr hw (by simp; omega), ⟨setL (k * 12) (ty.cells vn vf va vp) xs, ?_, setL_all _ _ _ h1 hl.one, fun i y hi => ?_⟩, h.tin, h.rin, fun y hy => ?_, fun x hx => Nat.lt_of_lt_of_le (h.lin x hx) hw.size⟩, hw⟩
  · rw [List.length_set, hW]
    exact row_setW _ _ _ _ ho hg (by rw [hc, ho.1]; omega)
  · by_cases hik : i = k
    · subst hik
      rw [List.getElem?_set_self hk] at hi
      injection hi with hi
      subst hi
      refine ⟨vn, vf, va, vp, fun j u hj => ?_, hl.keep hw (fun b hb hm => by simp at hm; rw [hm] at hb; exact hb hgL)⟩
      have hj12 : j < 12 := (List.getElem?_eq_some_iff.1 hj).1
      rw [setL_in (ty.cells vn vf va vp) (i * 12) xs j hj12 (by rw [hc, ho.1]; omega)]
      exact hj
    · rw [List.getElem?_set_ne (fun e => hik e.symm)] at hi
      have hlt : i < tys.length := (List.getElem?_eq_some_iff.1 hi).1
      obtain ⟨vn', vf', va', vp', hc', hl'⟩ := hx i y hi
      refine ⟨vn', vf', va', vp', fun j u hj => ?_, hl'.keep hw (fun b hb hm => by simp at hm; rw [hm] at hb; exact hb hgL)⟩
      have hj12 : j < 12 := (List.getElem?_eq_some_iff.1 hj).1
      rw [setL_out _ _ _ _ (by rw [hc]; omega)]
      exact hc' j u hj
  · rcases List.mem_or_eq_of_mem_set hy with e | e
    · exact h.room y e
    · rw [e]; exact hr
/-- What Set did. -/
def SetP (T : TypeId) (w : World) (t : Nat) (v : Value) (L : List Nat) (base : Nat) (tys : List Ty) (k : Nat) (ty : Ty) (e : Ending) (w' : World) : Prop :=
  e = .returned (.int .i64 0) ∧ Wr (ownL v) w w' ∧ Tab T w' t v L base (tys.set k ty)
section
variable (w : World) (t : Nat) (v : Value) (L : List Nat) (base : Nat) (tys : List Ty) (h : Tab 71 w t v L base tys) (ty : Ty) (vn vf va vp : Value) (P : Nat → Prop) (hl : Lists w P vn vf va vp ty)
include h hl
set_option maxHeartbeats 4000000 in
theorem set_low (i : Int) (hi : i < 10) : Calls Try.prog 26 #[.pointer (some ⟨t, 0, none⟩), .int .i64 i, ty.val vn vf va vp] w fun e w' => e = .returned (.int .i64 2) ∧ Wr [] w w' := by
  obtain ⟨⟨A1, c1, rfl⟩, ⟨A2, c2, rfl⟩, ⟨A3, c3, rfl⟩, ⟨A4, c4, rfl⟩⟩ := hl.forms
  clear h hl
  unfold Ty.val Ty.cells
  go_enter Try.func26, Try.ntmps26
  go_wp2_with fail
  go_ret
  exact ⟨rfl, (Wr.refl [] w).alloc _⟩
/-- What stands there: its row's cell. -/
theorem set_kind (k : Nat) (hk : k < tys.length) : ∃ g c, v = .slice (some ⟨g, 0, none⟩) tys.length c ∧ tys.length ≤ c ∧ c ≤ maxLen ∧ g ≠ t ∧ w.cell? ⟨t, 0, none⟩ = some v ∧ w.cell? ⟨g, k * 12, none⟩ = some (.int .u8 (tys[k]'hk).kind) ∧ (∀ j, j < 12 → ∃ u, w.cell? ⟨g, k * 12 + j, none⟩ = some u) ∧ ∀ j, w.frozen? ⟨g, j, none⟩ = false := by
  obtain ⟨xs, ho, h1, hx⟩ := h.row
  have c0 := h.blk.cell 0
  simp only [List.getElem?_toArray, List.getElem?_cons_zero] at c0
  obtain ⟨vn', vf', va', vp', hc', _⟩ := hx k _ (List.getElem?_eq_getElem hk)
  have hap := h.apart (by decide)
  obtain ⟨g, c, rfl, hc1, hc2⟩ := ho.form (by omega)
  rcases ho.2 with ⟨e1, _⟩ | ⟨b, cap, cur, e1, hb, hh, hn, hc, hs, ht⟩
  · injection e1 with e1 _ _; cases e1
  · injection e1 with e1 _ e3
    injection e1 with e1
    injection e1 with e1
    subst e1 e3
    refine ⟨g, c, rfl, hn, hc, fun e => hap (by rw [← e]; exact mem_ownL.2 rfl), c0, ?_, fun j hj => ?_, fun j => Blk.frozen (show Blk w g 31 cur from hh) j⟩
    · exact (ho.cellAt (k * 12) (by omega)).trans (by have := hc' 0 _ rfl; rwa [Nat.add_zero] at this)
    · have hlt : k * 12 + j < xs.length := by rw [ho.1]; omega
      exact ⟨_, (ho.cellAt (k * 12 + j) (by omega)).trans (List.getElem?_eq_getElem hlt)⟩
set_option maxRecDepth 100000 in
set_option maxHeartbeats 8000000 in
theorem set_no (k : Nat) (hk : k < tys.length) (hk10 : 10 ≤ k) (hm : mayB ty.kind = true) (hkd : (tys[k]'hk).kind ≠ 17) : Calls Try.prog 26 #[.pointer (some ⟨t, 0, none⟩), .int .i64 k, ty.val vn vf va vp] w fun e w' => e = .returned (.int .i64 2) ∧ Wr [] w w' := by
  obtain ⟨⟨A1, c1, rfl⟩, ⟨A2, c2, rfl⟩, ⟨A3, c3, rfl⟩, ⟨A4, c4, rfl⟩⟩ := hl.forms
  obtain ⟨g, c, rfl, hc1, hc2, hgt, h0, hk0, hcs, hfz⟩ := set_kind w t v L base tys h ty _ _ _ _ P hl k hk
  unfold maxLen at hc2
  have hmy := fun w => may_any w ty A1 A2 A3 A4 c1 c2 c3 c4
  rw [hm] at hmy
  have hzt := h.blk.lt
  have hzg := World.block_lt_of_cell? w _ hk0
  simp only at hzg
  have hi0 : (0 : Int) ≤ (k : Int) := by omega
  have hi1 : (k : Int) < (tys.length : Int) := by omega
  have hi2 : ¬(k : Int) < 10 := by omega
  have hkb : ((tys[k]'hk).kind != 17) = true := by simp [hkd]
  generalize (tys[k]'hk).kind = kd at *
  have r0 := (Wr.refl [] w).alloc (.cells #[.int .u8 ty.kind, .string ty.module, .string ty.name, .int .i64 ty.base, .int .i64 ty.index, .int .i64 ty.low, .int .i64 ty.high, .slice A1 ty.names.length c1, .slice A2 ty.fields.length c2, .slice A3 ty.arms.length c3, .slice A4 ty.params.length c4, .int .i64 ty.result] 31)
  have h0' := r0.cellOf h0 (by simp)
  have hk0' := r0.cellOf hk0 (by simp)
  clear h hl hcs hfz hkd hm
  unfold Ty.val Ty.cells at *
  go_enter Try.func26, Try.ntmps26
  go_wp2_with fail
  refine (hmy _).mono ?_
  clear hmy
  rintro e w1 ⟨rfl, r1⟩
  replace h0' := r1.cellOf h0' (by simp)
  replace hk0' := r1.cellOf hk0' (by simp)
  have R1 := Lib.hid (r0.trans r1)
  clear r0 r1 h0 hk0
  go_wp2_with fail
  go_ret
  exact ⟨rfl, R1.out⟩
set_option maxRecDepth 100000 in
set_option maxHeartbeats 8000000 in
theorem set_yes (k : Nat) (hk : k < tys.length) (hk10 : 10 ≤ k) (hm : mayB ty.kind = true) (hkd : (tys[k]'hk).kind = 17) (hr : ty.room) : Calls Try.prog 26 #[.pointer (some ⟨t, 0, none⟩), .int .i64 k, ty.val vn vf va vp] w (SetP 71 w t v L base tys k ty) := by
  obtain ⟨⟨A1, c1, rfl⟩, ⟨A2, c2, rfl⟩, ⟨A3, c3, rfl⟩, ⟨A4, c4, rfl⟩⟩ := hl.forms
  obtain ⟨g, c, rfl, hc1, hc2, hgt, h0, hk0, hcs, hfz⟩ := set_kind w t v L base tys h ty _ _ _ _ P hl k hk
  unfold maxLen at hc2
  have hmy := fun w => may_any w ty A1 A2 A3 A4 c1 c2 c3 c4
  rw [hm] at hmy
  have hzt := h.blk.lt
  have hzg := World.block_lt_of_cell? w _ hk0
  simp only at hzg
  have hi0 : (0 : Int) ≤ (k : Int) := by omega
  have hi1 : (k : Int) < (tys.length : Int) := by omega
  have hi2 : ¬(k : Int) < 10 := by omega
  rw [hkd] at hk0
  have r0 := (Wr.refl [] w).alloc (.cells #[.int .u8 ty.kind, .string ty.module, .string ty.name, .int .i64 ty.base, .int .i64 ty.index, .int .i64 ty.low, .int .i64 ty.high, .slice A1 ty.names.length c1, .slice A2 ty.fields.length c2, .slice A3 ty.arms.length c3, .slice A4 ty.params.length c4, .int .i64 ty.result] 31)
  have b0 := Blk.new w 31 #[.int .u8 ty.kind, .string ty.module, .string ty.name, .int .i64 ty.base, .int .i64 ty.index, .int .i64 ty.low, .int .i64 ty.high, .slice A1 ty.names.length c1, .slice A2 ty.fields.length c2, .slice A3 ty.arms.length c3, .slice A4 ty.params.length c4, .int .i64 ty.result]
  have h0' := r0.cellOf h0 (by simp)
  have hk0' := r0.cellOf hk0 (by simp)
  have HT := Lib.hid h
  have HL := Lib.hid hl
  have HRM := Lib.hid hr
  have HKK := Lib.hid hk
  clear h hl hcs hfz hkd hm hr hk
  unfold Ty.val Ty.cells at *
  go_enter Try.func26, Try.ntmps26
  go_wp2_with fail
  refine (hmy _).mono ?_
  clear hmy
  rintro e w1 ⟨rfl, r1⟩
  replace h0' := r1.cellOf h0' (by simp)
  replace hk0' := r1.cellOf hk0' (by simp)
  have b1 := b0.wr0 r1
  have R1 := Lib.hid (r0.trans r1)
  have z01 := (r0.trans r1).size
  generalize w.heap.size = gx at *
  clear r0 r1 h0 hk0 b0
  go_upto_region 8 with (fail)
  have hcp := fun W (r : Wr [] w1 W) => copied_any W P ty _ _ _ _ (HL.out.wr0 (R1.out.trans r)) HRM.out
  unfold Ty.val Ty.cells at hcp
  have d0 := b1.cell 0
  have d1 := b1.cell 1
  have d2 := b1.cell 2
  have d3 := b1.cell 3
  have d4 := b1.cell 4
  have d5 := b1.cell 5
  have d6 := b1.cell 6
  have d7 := b1.cell 7
  have d8 := b1.cell 8
  have d9 := b1.cell 9
  have d10 := b1.cell 10
  have d11 := b1.cell 11
  simp only [List.getElem?_toArray, List.getElem?_cons_zero, List.getElem?_cons_succ] at d0 d1 d2 d3 d4 d5 d6 d7 d8 d9 d10 d11
  have h0 := h0'
  clear h0' hk0'
  have hC : ∀ W, Wr [] w1 W → W.cell? ⟨t, 0, none⟩ = some (.slice (some ⟨g, 0, none⟩) tys.length c) ∧ W.cell? ⟨gx, 0, none⟩ = some (.int .u8 ty.kind) ∧ W.cell? ⟨gx, 1, none⟩ = some (.string ty.module) ∧ W.cell? ⟨gx, 2, none⟩ = some (.string ty.name) ∧ W.cell? ⟨gx, 3, none⟩ = some (.int .i64 ty.base) ∧ W.cell? ⟨gx, 4, none⟩ = some (.int .i64 ty.index) ∧ W.cell? ⟨gx, 5, none⟩ = some (.int .i64 ty.low) ∧ W.cell? ⟨gx, 6, none⟩ = some (.int .i64 ty.high) ∧ W.cell? ⟨gx, 7, none⟩ = some (.slice A1 ty.names.length c1) ∧ W.cell? ⟨gx, 8, none⟩ = some (.slice A2 ty.fields.length c2) ∧ W.cell? ⟨gx, 9, none⟩ = some (.slice A3 ty.arms.length c3) ∧ W.cell? ⟨gx, 10, none⟩ = some (.slice A4 ty.params.length c4) ∧ W.cell? ⟨gx, 11, none⟩ = some (.int .i64 ty.result) := fun W hW => ⟨hW.cellOf h0 (by simp), hW.cellOf d0 (by simp), hW.cellOf d1 (by simp), hW.cellOf d2 (by simp), hW.cellOf d3 (by simp), hW.cellOf d4 (by simp), hW.cellOf d5 (by simp), hW.cellOf d6 (by simp), hW.cellOf d7 (by simp), hW.cellOf d8 (by simp), hW.cellOf d9 (by simp), hW.cellOf d10 (by simp), hW.cellOf d11 (by simp)⟩
  have HC := Lib.hid hC
  clear hC
  refine wp_region_noPanic ?_
  refine wp_region_L (Until 8 fun w' => w'.cell? ⟨t, 0, none⟩ = some (.slice (some ⟨g, 0, none⟩) tys.length c) ∧ w'.cell? ⟨gx, 0, none⟩ = some (.int .u8 ty.kind) ∧ w'.cell? ⟨gx, 1, none⟩ = some (.string ty.module) ∧ w'.cell? ⟨gx, 2, none⟩ = some (.string ty.name) ∧ w'.cell? ⟨gx, 3, none⟩ = some (.int .i64 ty.base) ∧ w'.cell? ⟨gx, 4, none⟩ = some (.int .i64 ty.index) ∧ w'.cell? ⟨gx, 5, none⟩ = some (.int .i64 ty.low) ∧ w'.cell? ⟨gx, 6, none⟩ = some (.int .i64 ty.high) ∧ w'.cell? ⟨gx, 7, none⟩ = some (.slice A1 ty.names.length c1) ∧ w'.cell? ⟨gx, 8, none⟩ = some (.slice A2 ty.fields.length c2) ∧ w'.cell? ⟨gx, 9, none⟩ = some (.slice A3 ty.arms.length c3) ∧ w'.cell? ⟨gx, 10, none⟩ = some (.slice A4 ty.params.length c4) ∧ w'.cell? ⟨gx, 11, none⟩ = some (.int .i64 ty.result)) (by kernel_rfl) (fun hcl => ?_)
  have hS : Until 8 (fun w' => w'.cell? ⟨t, 0, none⟩ = some (.slice (some ⟨g, 0, none⟩) tys.length c) ∧ w'.cell? ⟨gx, 0, none⟩ = some (.int .u8 ty.kind) ∧ w'.cell? ⟨gx, 1, none⟩ = some (.string ty.module) ∧ w'.cell? ⟨gx, 2, none⟩ = some (.string ty.name) ∧ w'.cell? ⟨gx, 3, none⟩ = some (.int .i64 ty.base) ∧ w'.cell? ⟨gx, 4, none⟩ = some (.int .i64 ty.index) ∧ w'.cell? ⟨gx, 5, none⟩ = some (.int .i64 ty.low) ∧ w'.cell? ⟨gx, 6, none⟩ = some (.int .i64 ty.high) ∧ w'.cell? ⟨gx, 7, none⟩ = some (.slice A1 ty.names.length c1) ∧ w'.cell? ⟨gx, 8, none⟩ = some (.slice A2 ty.fields.length c2) ∧ w'.cell? ⟨gx, 9, none⟩ = some (.slice A3 ty.arms.length c3) ∧ w'.cell? ⟨gx, 10, none⟩ = some (.slice A4 ty.params.length c4) ∧ w'.cell? ⟨gx, 11, none⟩ = some (.int .i64 ty.result)) (Array.replicate 9 false) w1.drew := fun _ => ⟨h0, d0, d1, d2, d3, d4, d5, d6, d7, d8, d9, d10, d11⟩
  refine wpAnyL_take (i := 0) (oi := ?oi1) (v := ?v1) ?hi1 (by kernel_rfl) (by kernel_rfl) (by kernel_rfl) (fun _ _ _ h => h) (until_take 8 _ (by decide)) ?hy1 hcl hS ?rest1
  case hi1 =>
    simp only [List.getElem?_toArray, List.getElem?_cons_succ, List.getElem?_cons_zero]
    rfl
  case hy1 =>
    refine yields_until (by kernel_rfl) (Or.inl ⟨by rfl, fun w' hS => ?_⟩)
    try go_split_ands
    go_simp
    try rfl
  case rest1 =>
  intro hcl1 hS1
  clear hcl hS
  try simp only [Act.put, List.setIfInBounds_toArray, List.set_cons_zero, List.set_cons_succ]
  refine wpAnyL_take (i := 1) (oi := ?oi2) (v := ?v2) ?hi2 (by kernel_rfl) (by kernel_rfl) (by kernel_rfl) (fun _ _ _ h => h) (until_take 8 _ (by decide)) ?hy2 hcl1 hS1 ?rest2
  case hi2 =>
    simp only [List.getElem?_toArray, List.getElem?_cons_succ, List.getElem?_cons_zero]
    rfl
  case hy2 =>
    refine yields_until (by kernel_rfl) (Or.inl ⟨by rfl, fun w' hS => ?_⟩)
    try go_split_ands
    go_simp
    try rfl
  case rest2 =>
  intro hcl2 hS2
  clear hcl1 hS1
  try simp only [Act.put, List.setIfInBounds_toArray, List.set_cons_zero, List.set_cons_succ]
  refine wpAnyL_take (i := 2) (oi := ?oi3) (v := ?v3) ?hi3 (by kernel_rfl) (by kernel_rfl) (by kernel_rfl) (fun _ _ _ h => h) (until_take 8 _ (by decide)) ?hy3 hcl2 hS2 ?rest3
  case hi3 =>
    simp only [List.getElem?_toArray, List.getElem?_cons_succ, List.getElem?_cons_zero]
    rfl
  case hy3 =>
    refine yields_until (by kernel_rfl) (Or.inl ⟨by rfl, fun w' hS => ?_⟩)
    try go_split_ands
    go_simp
    try rfl
  case rest3 =>
  intro hcl3 hS3
  clear hcl2 hS2
  try simp only [Act.put, List.setIfInBounds_toArray, List.set_cons_zero, List.set_cons_succ]
  refine wpAnyL_take (i := 3) (oi := ?oi4) (v := ?v4) ?hi4 (by kernel_rfl) (by kernel_rfl) (by kernel_rfl) (fun _ _ _ h => h) (until_take 8 _ (by decide)) ?hy4 hcl3 hS3 ?rest4
  case hi4 =>
    simp only [List.getElem?_toArray, List.getElem?_cons_succ, List.getElem?_cons_zero]
    rfl
  case hy4 =>
    refine yields_until (by kernel_rfl) (Or.inl ⟨by rfl, fun w' hS => ?_⟩)
    try go_split_ands
    go_simp
    try rfl
  case rest4 =>
  intro hcl4 hS4
  clear hcl3 hS3
  try simp only [Act.put, List.setIfInBounds_toArray, List.set_cons_zero, List.set_cons_succ]
  refine wpAnyL_take (i := 4) (oi := ?oi5) (v := ?v5) ?hi5 (by kernel_rfl) (by kernel_rfl) (by kernel_rfl) (fun _ _ _ h => h) (until_take 8 _ (by decide)) ?hy5 hcl4 hS4 ?rest5
  case hi5 =>
    simp only [List.getElem?_toArray, List.getElem?_cons_succ, List.getElem?_cons_zero]
    rfl
  case hy5 =>
    refine yields_until (by kernel_rfl) (Or.inl ⟨by rfl, fun w' hS => ?_⟩)
    try go_split_ands
    go_simp
    try rfl
  case rest5 =>
  intro hcl5 hS5
  clear hcl4 hS4
  try simp only [Act.put, List.setIfInBounds_toArray, List.set_cons_zero, List.set_cons_succ]
  refine wpAnyL_take (i := 5) (oi := ?oi6) (v := ?v6) ?hi6 (by kernel_rfl) (by kernel_rfl) (by kernel_rfl) (fun _ _ _ h => h) (until_take 8 _ (by decide)) ?hy6 hcl5 hS5 ?rest6
  case hi6 =>
    simp only [List.getElem?_toArray, List.getElem?_cons_succ, List.getElem?_cons_zero]
    rfl
  case hy6 =>
    refine yields_until (by kernel_rfl) (Or.inl ⟨by rfl, fun w' hS => ?_⟩)
    try go_split_ands
    go_simp
    try rfl
  case rest6 =>
  intro hcl6 hS6
  clear hcl5 hS5
  try simp only [Act.put, List.setIfInBounds_toArray, List.set_cons_zero, List.set_cons_succ]
  refine wpAnyL_step (i := 6) (o := ?oi7) ?hi7 (by kernel_rfl) hcl6 ?rest7
  case hi7 =>
    simp only [List.getElem?_toArray, List.getElem?_cons_succ, List.getElem?_cons_zero]
    rfl
  case rest7 =>
  intro K hK
  go_simp
  go_at_call 28
  refine (hcp _ (Wr.refl [] w1).drew).mono ?_
  rintro e w2 ⟨vn2, vf2, va2, vp2, rfl, r2, hl2⟩
  obtain ⟨⟨B1, d1', rfl⟩, ⟨B2, d2', rfl⟩, ⟨B3, d3', rfl⟩, ⟨B4, d4', rfl⟩⟩ := hl2.forms
  unfold Ty.val Ty.cells
  refine hK _ _ (fun _ => HC.out _ ((Wr.refl [] w1).drew.trans r2)) (fun hcl7 => ?_)
  clear hK K hcl6 hS6
  try simp only [Act.put, List.setIfInBounds_toArray, List.set_cons_zero, List.set_cons_succ]
  have HW2 := Lib.hid (R1.out.trans ((Wr.refl [] w1).drew.trans r2))
  have ht2 := HT.out.wr0 HW2.out
  obtain ⟨g', c', ev, _, _, _, _, _, hcs2, hfz2⟩ := set_kind w2 t _ L base tys ht2 ty _ _ _ _ _ hl2 k HKK.out
  injection ev with ev _ ev3
  injection ev with ev
  injection ev with ev
  subst ev ev3
  obtain ⟨u0, k0⟩ := hcs2 0 (by omega)
  rw [Nat.add_zero] at k0
  obtain ⟨u1, k1⟩ := hcs2 1 (by omega)
  obtain ⟨u2, k2⟩ := hcs2 2 (by omega)
  obtain ⟨u3, k3⟩ := hcs2 3 (by omega)
  obtain ⟨u4, k4⟩ := hcs2 4 (by omega)
  obtain ⟨u5, k5⟩ := hcs2 5 (by omega)
  obtain ⟨u6, k6⟩ := hcs2 6 (by omega)
  obtain ⟨u7, k7⟩ := hcs2 7 (by omega)
  obtain ⟨u8, k8⟩ := hcs2 8 (by omega)
  obtain ⟨u9, k9⟩ := hcs2 9 (by omega)
  obtain ⟨u10, k10⟩ := hcs2 10 (by omega)
  obtain ⟨u11, k11⟩ := hcs2 11 (by omega)
  have m0 := hfz2 (k * 12)
  have m1 := hfz2 (k * 12 + 1)
  have m2 := hfz2 (k * 12 + 2)
  have m3 := hfz2 (k * 12 + 3)
  have m4 := hfz2 (k * 12 + 4)
  have m5 := hfz2 (k * 12 + 5)
  have m6 := hfz2 (k * 12 + 6)
  have m7 := hfz2 (k * 12 + 7)
  have m8 := hfz2 (k * 12 + 8)
  have m9 := hfz2 (k * 12 + 9)
  have m10 := hfz2 (k * 12 + 10)
  have m11 := hfz2 (k * 12 + 11)
  have HL2 := Lib.hid hl2
  have HT2 := Lib.hid ht2
  clear hcs2 hfz2 hl2 ht2
  refine wpAnyL_take (i := 7) (oi := ?oi8) (v := ?v8) ?hi8 (by kernel_rfl) (by kernel_rfl) (by kernel_rfl) (fun _ _ _ h => h) (until_take 8 _ (by decide)) ?hy8 hcl7 (fun _ => HC.out _ ((Wr.refl [] w1).drew.trans r2)) ?rest8
  case hi8 =>
    simp only [List.getElem?_toArray, List.getElem?_cons_succ, List.getElem?_cons_zero]
    rfl
  case hy8 =>
    refine yields_until (by kernel_rfl) (Or.inl ⟨by rfl, fun w' hS => ?_⟩)
    try go_split_ands
    go_simp
    try rfl
  case rest8 =>
  intro hcl8 hS8
  clear hcl7
  try simp only [Act.put, List.setIfInBounds_toArray, List.set_cons_zero, List.set_cons_succ]
  refine wpAnyL_step (i := 8) (o := ?oi9) ?hi9 (by kernel_rfl) hcl8 ?rest9
  case hi9 =>
    simp only [List.getElem?_toArray, List.getElem?_cons_succ, List.getElem?_cons_zero]
    rfl
  case rest9 =>
  intro K hK
  go_simp
  refine hK _ _ (fun hb => absurd hb (by decide)) (fun hcl999 => ?_)
  clear hK K hcl8 hS8
  refine wpAnyL_done (by kernel_rfl) (NoPanic.normal ?_) _
  try simp only [Act.put, List.setIfInBounds_toArray, List.set_cons_zero, List.set_cons_succ]

  go_wp2_with fail
  go_ret
  have hts := tab_set (T := 71) (g := g) (k := k) HT2.out rfl hgt HKK.out (HL2.out.into (fun b hb _ hm => by have q1 := HT.out.lin b hm; have q2 : w1.heap.size ≤ b := hb; have q3 := R1.out.size; omega)) HRM.out rfl
  exact ⟨rfl, HW2.out.nil.trans (hts.2.more (fun x hx => by simpa [ownL, Value.ownBlock] using hx)), hts.1⟩
end
end Go.Proofs.Ytcpgkeceefoljaa

