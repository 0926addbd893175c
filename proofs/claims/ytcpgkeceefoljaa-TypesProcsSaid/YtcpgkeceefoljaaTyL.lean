/- types.may; a table's Add: walked. Conditions: the lists of the type that is added take no more room than there is. -/
import Derived.Test.YtcpgkeceefoljaaTyK
import Derived.Deep.RegionLaw
import Derived.Deep.DrawnRows
namespace Go.Proofs.Ytcpgkeceefoljaa
open Go.RowKit
set_option linter.unusedVariables false
set_option linter.unusedSimpArgs false
set_option linter.unusedSectionVars false
attribute [local go_sem ↓] Go.wp_at_zero Go.wp_at_succ

/-- May a type be added? -/
def mayB (k : Int) : Bool := decide (8 ≤ k) && decide (k ≤ 17)
set_option maxHeartbeats 1000000 in
theorem may_any (w : World) (ty : Ty) (A1 A2 A3 A4 : Option Addr) (c1 c2 c3 c4 : Nat) :
    Calls Try.prog 27 #[ty.val (.slice A1 ty.names.length c1) (.slice A2 ty.fields.length c2) (.slice A3 ty.arms.length c3) (.slice A4 ty.params.length c4)] w fun e w' => e = .returned (.bool (mayB ty.kind)) ∧ Wr [] w w' := by
  unfold Ty.val Ty.cells mayB
  by_cases h : 8 ≤ ty.kind
  · rw [decide_eq_true h]
    go_enter Try.func27, Try.ntmps27
    go_wp2_with fail
    go_ret
    exact ⟨by simp, (Wr.refl [] w).alloc _⟩
  · rw [decide_eq_false h]
    go_enter Try.func27, Try.ntmps27
    go_wp2_with fail
    go_ret
    exact ⟨by simp, (Wr.refl [] w).alloc _⟩

theorem info_ty : (Try.prog.info? 31).map (fun i => (i.zero, i.size, i.bytes)) = some (some (.agg #[.int .u8 0, .string ⟨#[]⟩, .string ⟨#[]⟩, .int .i64 0, .int .i64 0, .int .i64 0, .int .i64 0, .slice none 0 0, .slice none 0 0, .slice none 0 0, .slice none 0 0, .int .i64 0]), 12, 176) := by kernel_rfl

/-- A type that was refused. -/
def AddNo (w : World) (c : Int) (e : Ending) (w' : World) : Prop := e = .returned (.tuple #[.int .i64 0, .int .i64 c]) ∧ Wr [] w w'
/-- A type that was added. -/
def AddP (T : TypeId) (w : World) (t : Nat) (v : Value) (L : List Nat) (base : Nat) (tys : List Ty) (ty : Ty) (e : Ending) (w' : World) : Prop :=
  ∃ v' L', e = .returned (.tuple #[.int .i64 tys.length, .int .i64 0]) ∧ Wr (t :: ownL v) w w' ∧ Tab T w' t v' L' base (tys ++ [ty]) ∧ (∀ x ∈ L, x ∈ L') ∧ (∀ x ∈ L', x ∈ L ∨ w.heap.size ≤ x) ∧
    (v'.ownBlock = v.ownBlock ∨ ∃ k, v'.ownBlock = some k ∧ w.heap.size ≤ k)

theorem Lists.one {w : World} {P : Nat → Prop} {vn vf va vp : Value} {t : Ty} (h : Lists w P vn vf va vp t) : ∀ u ∈ t.cells vn vf va vp, u.oneCell' = true := by
  obtain ⟨⟨A1, c1, rfl⟩, ⟨A2, c2, rfl⟩, ⟨A3, c3, rfl⟩, ⟨A4, c4, rfl⟩⟩ := h.forms
  intro u hu
  simp only [Ty.cells, List.mem_cons, List.not_mem_nil, or_false] at hu
  rcases hu with rfl | rfl | rfl | rfl | rfl | rfl | rfl | rfl | rfl | rfl | rfl | rfl <;> rfl

/-- A type's cells behind those of others. -/
theorem tab_snoc {T : TypeId} {w : World} {t : Nat} {v : Value} {L : List Nat} {base : Nat} {tys : List Ty} {ty : Ty} {xs : List Value} {vn vf va vp : Value} (hb : Blk w t T #[v])
    (ho : w.ownsRow base 31 12 v (tys.length + 1) (xs ++ ty.cells vn vf va vp)) (hl : xs.length = tys.length * 12) (h1 : ∀ u ∈ xs, u.oneCell' = true) (hx : ∀ i y, tys[i]? = some y → TyAt w (· ∉ L) xs i y)
    (hy : Lists w (· ∉ L) vn vf va vp ty) (hr : ∀ y ∈ tys, y.room) (hr1 : ty.room) (ht : t ∈ L) (hv : ∀ k, v.ownBlock = some k → k ∈ L) (hin : ∀ x ∈ L, x < w.heap.size) : Tab T w t v L base (tys ++ [ty]) := by
  refine ⟨hb, ⟨_, by rw [List.length_append]; exact ho, ?_, ?_⟩, ht, hv, ?_, hin⟩
  · intro u hu
    rcases List.mem_append.1 hu with h | h
    · exact h1 u h
    · exact hy.one u h
  · intro i y hi
    by_cases hlt : i < tys.length
    · rw [List.getElem?_append_left hlt] at hi
      obtain ⟨vn, vf, va, vp, hc, hl'⟩ := hx i y hi
      refine ⟨vn, vf, va, vp, fun j u hj => ?_, hl'⟩
      have hj' : j < 12 := (List.getElem?_eq_some_iff.1 hj).1
      rw [List.getElem?_append_left (by omega)]
      exact hc j u hj
    · rw [List.getElem?_append_right (by omega)] at hi
      have hi0 : i - tys.length = 0 := by
        have := (List.getElem?_eq_some_iff.1 hi).1
        simp at this
        omega
      rw [hi0] at hi
      simp only [List.getElem?_cons_zero, Option.some.injEq] at hi
      subst hi
      refine ⟨vn, vf, va, vp, fun j u hj => ?_, hy⟩
      rw [List.getElem?_append_right (by omega), show i * 12 + j - xs.length = j from by omega]
      exact hj
  · intro y hm
    rcases List.mem_append.1 hm with h | h
    · exact hr y h
    · rw [List.mem_singleton] at h
      subst h
      exact hr1

theorem Tab.apart {T : TypeId} {w : World} {t : Nat} {v : Value} {L : List Nat} {base : Nat} {tys : List Ty} (h : Tab T w t v L base tys) (hT : T ≠ 31) : t ∉ ownL v := by
  intro hm
  rw [mem_ownL] at hm
  obtain ⟨xs, ho, _, _⟩ := h.row
  have hb := h.blk
  rcases ho.2 with ⟨rfl, _⟩ | ⟨g, cap, cur, rfl, _, hh, _⟩
  · cases hm
  · have : g = t := by simpa [Value.ownBlock] using hm
    subst this
    unfold Blk at hb
    rw [hb] at hh
    injection hh with hh
    injection hh with _ e
    exact hT e

/-- 'append' of one type. -/
theorem append_ty (base : Nat) (v : Value) (n : Nat) (xs : List Value) (W : World) (ho : W.ownsRow base 31 12 v n xs) (cs : List Value) (hc : cs.length = 12) (h1 : ∀ u ∈ cs, u.oneCell' = true) (hn : n < 1024) (hb : base ≤ W.heap.size) :
    ∃ v' w', (Builtin.append_ #[45, 45] 45 #[v, .slice (some ⟨W.heap.size, 0, none⟩) 1 1]).run Try.prog (W.alloc (.cells cs.toArray 31)) = .ok v' w' ∧
      w'.ownsRow base 31 12 v' (n + 1) (xs ++ cs) ∧ Wr (ownL v) W w' ∧ (v'.ownBlock = v.ownBlock ∨ ∃ k, v'.ownBlock = some k ∧ W.heap.size ≤ k) := by
  obtain ⟨i0, hi0, hz0, hz1, hz2⟩ := info_parts info_ty
  have hs : Sl (W.alloc (.cells cs.toArray 31)) (fun _ => True) 12 (.slice (some ⟨W.heap.size, 0, none⟩) 1 1) 1 cs :=
    Sl.ofOwn (World.ownsRow_lit W cs.toArray 1 (Nat.le_refl _) (by simp only [maxLen]; omega) (by simp [hc])) (fun _ _ => trivial)
  obtain ⟨v', w', hrun, hown, hg, hat⟩ := run_append_sl (P := Try.prog) (W.alloc (.cells cs.toArray 31)) base 45 45 31 i0 _ 12 176 Try.underlying45 hi0 hz0 hz1 hz2 rfl (by omega)
    v n xs (ho.alloc _) (fun _ => True) _ 1 cs hs h1 (by simp only [maxLen]; omega) (by omega) (by simp; omega)
  refine ⟨v', w', hrun, hown, ((Wr.refl _ W).alloc _).trans (Wr.ofGrownOwn hg), ?_⟩
  rcases hat with e | e
  · exact .inl e
  · exact .inr ⟨_, e, by simp⟩

section
variable (w : World) (t : Nat) (v : Value) (L : List Nat) (base : Nat) (tys : List Ty) (h : Tab 71 w t v L base tys) (ty : Ty) (vn vf va vp : Value) (P : Nat → Prop) (hl : Lists w P vn vf va vp ty)
include h hl

set_option maxHeartbeats 1000000 in
theorem add_no (hm : mayB ty.kind = false) : Calls Try.prog 8 #[.pointer (some ⟨t, 0, none⟩), ty.val vn vf va vp] w (AddNo w 2) := by
  obtain ⟨⟨A1, c1, rfl⟩, ⟨A2, c2, rfl⟩, ⟨A3, c3, rfl⟩, ⟨A4, c4, rfl⟩⟩ := hl.forms
  have hmy := fun w => may_any w ty A1 A2 A3 A4 c1 c2 c3 c4
  rw [hm] at hmy
  clear hm h hl
  unfold Ty.val Ty.cells at *
  go_enter Try.func8, Try.ntmps8
  go_wp2_with fail
  refine (hmy _).mono ?_
  rintro e w1 ⟨rfl, r1⟩
  go_wp2_with fail
  go_ret2
  exact ⟨rfl, ((Wr.refl [] w).alloc _).trans r1⟩

set_option maxHeartbeats 1000000 in
theorem add_full (hm : mayB ty.kind = true) (hn : 1024 ≤ tys.length) : Calls Try.prog 8 #[.pointer (some ⟨t, 0, none⟩), ty.val vn vf va vp] w (AddNo w 4) := by
  obtain ⟨⟨A1, c1, rfl⟩, ⟨A2, c2, rfl⟩, ⟨A3, c3, rfl⟩, ⟨A4, c4, rfl⟩⟩ := hl.forms
  have hmy := fun w => may_any w ty A1 A2 A3 A4 c1 c2 c3 c4
  rw [hm] at hmy
  obtain ⟨A, c, rfl, h1, h2⟩ := h.len
  have a0 := h.blk.cell 0
  simp only [List.getElem?_toArray, List.getElem?_cons_zero] at a0
  have hd : decide ((tys.length : Int) ≥ 1024) = true := by simp; omega
  clear hm h hl h1 h2
  unfold Ty.val Ty.cells at *
  go_enter Try.func8, Try.ntmps8
  go_wp2_with fail
  refine (hmy _).mono ?_
  rintro e w1 ⟨rfl, r1⟩
  have r01 := ((Wr.refl [] w).alloc (.cells #[.int .u8 ty.kind, .string ty.module, .string ty.name, .int .i64 ty.base, .int .i64 ty.index, .int .i64 ty.low, .int .i64 ty.high, .slice A1 ty.names.length c1, .slice A2 ty.fields.length c2, .slice A3 ty.arms.length c3, .slice A4 ty.params.length c4, .int .i64 ty.result] 31)).trans r1
  replace a0 := r01.cellOf a0 (by simp)
  go_wp2_with fail
  go_ret2
  exact ⟨rfl, r01⟩

set_option maxRecDepth 100000 in
set_option maxHeartbeats 4000000 in
theorem add_yes (hm : mayB ty.kind = true) (hn : tys.length < 1024) (hr : ty.room) (hbase : base ≤ w.heap.size) : Calls Try.prog 8 #[.pointer (some ⟨t, 0, none⟩), ty.val vn vf va vp] w (AddP 71 w t v L base tys ty) := by
  obtain ⟨⟨A1, c1, rfl⟩, ⟨A2, c2, rfl⟩, ⟨A3, c3, rfl⟩, ⟨A4, c4, rfl⟩⟩ := hl.forms
  have hmy := fun w => may_any w ty A1 A2 A3 A4 c1 c2 c3 c4
  rw [hm] at hmy
  have hcp := fun W (r : Wr [] w W) => copied_any W P ty _ _ _ _ (hl.wr0 r) hr
  obtain ⟨A, c, rfl, h1, h2⟩ := h.len
  unfold maxLen at h2
  have a0 := h.blk.cell 0
  simp only [List.getElem?_toArray, List.getElem?_cons_zero] at a0
  have hd : decide ((tys.length : Int) ≥ 1024) = false := by simp; omega
  have HT := Lib.hid h
  have HN := Lib.hid hn
  have HR := Lib.hid hr
  have hzt := h.blk.lt
  clear hm h hl hn hr h1
  unfold Ty.val Ty.cells at *
  go_enter Try.func8, Try.ntmps8
  go_wp2_with fail
  refine (hmy _).mono ?_
  clear hmy
  rintro e w1 ⟨rfl, r1⟩
  have r01 := ((Wr.refl [] w).alloc (.cells #[.int .u8 ty.kind, .string ty.module, .string ty.name, .int .i64 ty.base, .int .i64 ty.index, .int .i64 ty.low, .int .i64 ty.high, .slice A1 ty.names.length c1, .slice A2 ty.fields.length c2, .slice A3 ty.arms.length c3, .slice A4 ty.params.length c4, .int .i64 ty.result] 31)).trans r1
  have hb1 := (Blk.new w 31 #[.int .u8 ty.kind, .string ty.module, .string ty.name, .int .i64 ty.base, .int .i64 ty.index, .int .i64 ty.low, .int .i64 ty.high, .slice A1 ty.names.length c1, .slice A2 ty.fields.length c2, .slice A3 ty.arms.length c3, .slice A4 ty.params.length c4, .int .i64 ty.result]).wr0 r1
  replace a0 := r01.cellOf a0 (by simp)
  have b0 := hb1.cell 0
  have b1 := hb1.cell 1
  have b2 := hb1.cell 2
  have b3 := hb1.cell 3
  have b4 := hb1.cell 4
  have b5 := hb1.cell 5
  have b6 := hb1.cell 6
  have b7 := hb1.cell 7
  have b8 := hb1.cell 8
  have b9 := hb1.cell 9
  have b10 := hb1.cell 10
  have b11 := hb1.cell 11
  simp only [List.getElem?_toArray, List.getElem?_cons_zero, List.getElem?_cons_succ] at b0 b1 b2 b3 b4 b5 b6 b7 b8 b9 b10 b11
  have acc := Acc0.mk r01
  clear r01 hb1 r1
  obtain ⟨xs, hxo, hx1, hxa⟩ := HT.out.row
  have HX := Lib.hid (And.intro hx1 hxa)
  have hap := HT.out.apart (by decide)
  have HO1 := Lib.hid (ownsRow_wr0 hxo acc.h)
  have HB1 := Lib.hid (HT.out.blk.wr0 acc.h)
  have z01 := acc.h.size
  have HAP := Lib.hid hap
  clear hxo hx1 hxa hap
  go_upto_region 7 with (fail)
  go_region_law (first
    | (go_simp; go_at_call 28; refine (hcp _ (Wr.drew acc.h)).mono ?_; rintro e w2 ⟨vn2, vf2, va2, vp2, rfl, r2, hl2⟩
       obtain ⟨⟨B1, d1, rfl⟩, ⟨B2, d2, rfl⟩, ⟨B3, d3, rfl⟩, ⟨B4, d4, rfl⟩⟩ := hl2.forms
       have acc2 := Acc0.mk ((Wr.drew acc.h).trans r2); have HO2 := Lib.hid (ownsRow_wr0 HO1.out.drew r2); have hb2 := HB1.out.drew.wr0 r2; have HB2 := Lib.hid hb2
       have a2 := hb2.cell 0; have z2 := hb2.lt; have z12 : w1.heap.size ≤ w2.heap.size := r2.size; have HL2 := Lib.hid hl2
       simp only [List.getElem?_toArray, List.getElem?_cons_zero] at a2; unfold Ty.val Ty.cells; clear r2 hl2 hb2)
    | (obtain ⟨v3, w3, hrun, ho3, r3, hat3⟩ := append_ty base _ _ _ w2 HO2.out _ rfl HL2.out.one HN.out (by omega)
       refine step_append_run (by rfl) _ _ _ (by rfl) _ _ (by rfl) (by rfl) _ _ hrun ?_
       obtain ⟨g3, cap3, rfl, hcap3, hlt3⟩ := ho3.form (by omega)
       have hb3 := HB2.out.wr r3 HAP.out; have HB3 := Lib.hid hb3; have a3 := hb3.cell 0; have f3 := hb3.frozen 0; have z3 := hb3.lt
       have HO3 := Lib.hid ho3; have R3 := Lib.hid r3; have HAT3 := Lib.hid hat3
       simp only [List.getElem?_toArray, List.getElem?_cons_zero] at a3
       clear hrun hb3 ho3 r3 hat3))
  all_goals
    have hn1 : tys.length < 1024 := HN.out
    go_wp2_with fail
    go_ret2
    have hT := HT.out
    have z02 : w.heap.size ≤ w2.heap.size := acc2.h.size
    have z03 : w2.heap.size ≤ w3.heap.size := R3.out.size
    have hcs : (Value.slice (some ⟨g3, 0, none⟩) (tys.length + 1) cap3).ownBlock = some g3 := rfl
    have hg3 : g3 ∈ L ∨ w2.heap.size ≤ g3 := by
      rcases HAT3.out with e | ⟨k, e, hk⟩
      · exact .inl (hT.rin g3 (e.symm.trans hcs))
      · rw [hcs] at e
        injection e with e
        exact .inr (by omega)
    have ht3 : t ≠ g3 := by
      rcases HAT3.out with e | ⟨k, e, hk⟩
      · intro h
        exact HAP.out (mem_ownL.2 (by rw [h]; exact e.symm.trans hcs))
      · rw [hcs] at e
        injection e with e
        omega
    have hown : ∀ x ∈ ownL (Value.slice A tys.length c), x ∈ L := fun x hx => hT.rin x (mem_ownL.1 hx)
    have hW : Wr (t :: ownL (Value.slice A tys.length c)) w (w3.setCell ⟨t, 0, none⟩ (.slice (some ⟨g3, 0, none⟩) (tys.length + 1) cap3)) :=
      (acc2.h.nil.trans (R3.out.more (fun x hx => List.mem_cons_of_mem _ hx))).setOn (by simp) _
    have hW3 : Wr [t] w3 (w3.setCell ⟨t, 0, none⟩ (.slice (some ⟨g3, 0, none⟩) (tys.length + 1) cap3)) := (Wr.refl _ _).setOn (by simp) _
    have hW2 : Wr (t :: ownL (Value.slice A tys.length c)) w2 (w3.setCell ⟨t, 0, none⟩ (.slice (some ⟨g3, 0, none⟩) (tys.length + 1) cap3)) :=
      (R3.out.more (fun x hx => List.mem_cons_of_mem _ hx)).setOn (by simp) _
    have hdr : w1.drew.heap.size = w1.heap.size := rfl
    refine ⟨_, g3 :: L, rfl, hW, tab_snoc (HB3.out.set_ 0 _) (ownsRow_wr HO3.out hW3 (fun k hk => ?_)) HO2.out.1 HX.out.1 (fun i y hi => ?_) (Lists.into (P := fun b => w1.heap.size ≤ b ∧ b ∉ g3 :: L) ((Lists.into HL2.out (fun b hb hs => ?_)).keep hW2 (fun b hb hm => ?_)) (fun b hb _ => hb.2)) hT.room HR.out (List.mem_cons_of_mem _ hT.tin) ?_ ?_, fun x hx => List.mem_cons_of_mem _ hx, ?_, ?_⟩
    · rw [hcs] at hk
      injection hk with hk
      simp
      omega
    · have k1 := (HX.out.2 i y hi).into (Q := fun b => b ∉ g3 :: L ∧ b ∉ L) (fun b hb hs => ⟨fun hm => by
        rcases List.mem_cons.1 hm with h | h
        · rcases hg3 with h5 | h5
          · exact hb (h ▸ h5)
          · omega
        · exact hb h, hb⟩)
      exact (k1.keep hW (fun b hb hm => by
        rcases List.mem_cons.1 hm with h | h
        · exact hb.2 (h ▸ hT.tin)
        · exact hb.2 (hown b h))).into (fun b hb _ => hb.1)
    · refine ⟨by omega, fun hm => ?_⟩
      rcases List.mem_cons.1 hm with h | h
      · rcases hg3 with h5 | h5
        · have := hT.lin g3 h5
          omega
        · omega
      · have := hT.lin b h
        omega
    · rcases List.mem_cons.1 hm with h | h
      · omega
      · have := hT.lin b (hown b h)
        omega
    · intro k hk
      rw [hcs] at hk
      injection hk with hk
      simp [hk]
    · intro x hx
      rw [World.size_setCell]
      rcases List.mem_cons.1 hx with h | h
      · omega
      · have := hT.lin x h
        omega
    · intro x hx
      rcases List.mem_cons.1 hx with h | h
      · rcases hg3 with h5 | h5
        · exact .inl (h ▸ h5)
        · exact .inr (by omega)
      · exact .inl h
    · rcases HAT3.out with e | ⟨k, e, hk⟩
      · exact .inl e
      · exact .inr ⟨k, e, by omega⟩
end
end Go.Proofs.Ytcpgkeceefoljaa
