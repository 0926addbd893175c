/- The document's table of types: Get, may, Add: walked. No conditions but that the table is there. -/
import Derived.Test.YtcpgkeceefoljaaTyL
import Derived.StillTailTactics
namespace Go.Proofs.Ytcpgkeceefoljaa
open Go.RowKit
set_option linter.unusedVariables false
set_option linter.unusedSimpArgs false
set_option linter.unusedSectionVars false

set_option maxHeartbeats 1000000 in
theorem rget_any (w : World) (t : Nat) (v : Value) (L : List Nat) (base : Nat) (tys : List Ty) (h : Tab 47 w t v L base tys) (i : Int) :
    Calls Try.prog 19 #[.pointer (some ⟨t, 0, none⟩), .int .i64 i] w (OfP w L (tyOf tys i)) := by
  obtain ⟨A, c, rfl, h1, h2⟩ := h.len
  have hb := h.blk
  have c0 := hb.cell 0
  have f0 := hb.frozen 0
  simp only [List.getElem?_toArray, List.getElem?_cons_zero] at c0
  have HT := Lib.hid h
  unfold maxLen at h2
  have hz := hb.lt
  clear hb h
  by_cases hneg : i < 0
  · have ht : tyOf tys i = Ty.none := if_neg (by omega)
    rw [ht]
    clear ht
    go_enter Try.func19, Try.ntmps19
    go_wp2_with fail
    refine bodyPost_ret (v := Ty.none.val (.slice .none 0 0) (.slice .none 0 0) (.slice .none 0 0) (.slice .none 0 0)) ?_ rfl ⟨_, _, _, _, rfl, ?_, Lists.none _ _⟩
    · simp [Ty.val, Ty.cells, Ty.none, results, Try.results19, go_sem]
    · exact (Wr.refl [] w).alloc _
  · obtain ⟨k, rfl⟩ := Int.eq_ofNat_of_zero_le (show 0 ≤ i by omega)
    by_cases hlt : k < tys.length
    · have ht : tyOf tys (k : Int) = tys[k] := by
        unfold tyOf
        rw [if_pos (by omega), Int.toNat_natCast, List.getD_eq_getElem?_getD, List.getElem?_eq_getElem hlt]
        rfl
      rw [ht]
      obtain ⟨xs, ho, hone, hx⟩ := HT.out.row
      obtain ⟨vn, vf, va, vp, hc, hl⟩ := hx k _ (List.getElem?_eq_getElem hlt)
      obtain ⟨⟨A1, c1, rfl⟩, ⟨A2, c2, rfl⟩, ⟨A3, c3, rfl⟩, ⟨A4, c4, rfl⟩⟩ := hl.forms
      generalize tys[k] = ty at *
      obtain ⟨g, rfl⟩ : ∃ g, A = some ⟨g, 0, none⟩ := by
        rcases ho.2 with ⟨e1, _⟩ | ⟨g, _, _, e1, _⟩
        · injection e1 with _ e2 _
          omega
        · injection e1 with e1
          exact ⟨g, e1⟩
      have a0 := (ho.cellAt (k * 12 + 0) (by omega)).trans (hc 0 _ rfl)
      have a1 := (ho.cellAt (k * 12 + 1) (by omega)).trans (hc 1 _ rfl)
      have a2 := (ho.cellAt (k * 12 + 2) (by omega)).trans (hc 2 _ rfl)
      have a3 := (ho.cellAt (k * 12 + 3) (by omega)).trans (hc 3 _ rfl)
      have a4 := (ho.cellAt (k * 12 + 4) (by omega)).trans (hc 4 _ rfl)
      have a5 := (ho.cellAt (k * 12 + 5) (by omega)).trans (hc 5 _ rfl)
      have a6 := (ho.cellAt (k * 12 + 6) (by omega)).trans (hc 6 _ rfl)
      have a7 := (ho.cellAt (k * 12 + 7) (by omega)).trans (hc 7 _ rfl)
      have a8 := (ho.cellAt (k * 12 + 8) (by omega)).trans (hc 8 _ rfl)
      have a9 := (ho.cellAt (k * 12 + 9) (by omega)).trans (hc 9 _ rfl)
      have a10 := (ho.cellAt (k * 12 + 10) (by omega)).trans (hc 10 _ rfl)
      have a11 := (ho.cellAt (k * 12 + 11) (by omega)).trans (hc 11 _ rfl)
      have HL := Lib.hid hl
      have hgl := (ho.lt g rfl).2
      have hi0 : (0 : Int) ≤ (k : Int) := by omega
      have hi1 : (k : Int) < (tys.length : Int) := by omega
      clear ht hc hl hx hone ho hneg
      simp only [Nat.add_zero] at a0
      go_enter Try.func19, Try.ntmps19
      go_wp2_with fail
      refine bodyPost_ret (v := ty.val (.slice A1 ty.names.length c1) (.slice A2 ty.fields.length c2) (.slice A3 ty.arms.length c3) (.slice A4 ty.params.length c4)) ?_ rfl ⟨_, _, _, _, rfl, ?_, Lists.wr0 HL.out ?_⟩
      · simp [Ty.val, Ty.cells, results, Try.results19, go_sem]
      · exact (Wr.refl [] w).alloc _
      · exact (Wr.refl [] w).alloc _
    · have ht : tyOf tys (k : Int) = Ty.none := by
        unfold tyOf
        rw [if_pos (by omega), Int.toNat_natCast, List.getD_eq_getElem?_getD, List.getElem?_eq_none (by omega)]
        rfl
      rw [ht]
      clear ht
      go_enter Try.func19, Try.ntmps19
      go_wp2_with fail
      refine bodyPost_ret (v := Ty.none.val (.slice .none 0 0) (.slice .none 0 0) (.slice .none 0 0) (.slice .none 0 0)) ?_ rfl ⟨_, _, _, _, rfl, ?_, Lists.none _ _⟩
      · simp [Ty.val, Ty.cells, Ty.none, results, Try.results19, go_sem]
      · exact (Wr.refl [] w).alloc _

set_option maxHeartbeats 1000000 in
theorem rmay_any (w : World) (ty : Ty) (A1 A2 A3 A4 : Option Addr) (c1 c2 c3 c4 : Nat) :
    Calls Try.prog 48 #[ty.val (.slice A1 ty.names.length c1) (.slice A2 ty.fields.length c2) (.slice A3 ty.arms.length c3) (.slice A4 ty.params.length c4)] w fun e w' => e = .returned (.bool (mayB ty.kind)) ∧ Wr [] w w' := by
  unfold Ty.val Ty.cells mayB
  by_cases h : 8 ≤ ty.kind
  · rw [decide_eq_true h]
    go_enter Try.func48, Try.ntmps48
    go_wp2_with fail
    go_ret
    exact ⟨by simp, (Wr.refl [] w).alloc _⟩
  · rw [decide_eq_false h]
    go_enter Try.func48, Try.ntmps48
    go_wp2_with fail
    go_ret
    exact ⟨by simp, (Wr.refl [] w).alloc _⟩

/-- A type that was added as it is: its lists lie where they lay. -/
theorem tab_add {T : TypeId} {w w3 W : World} {t : Nat} {v : Value} {L : List Nat} {base : Nat} {tys : List Ty} {ty : Ty} {xs : List Value} {vn vf va vp v' : Value} (hT : Tab T w t v L base tys) (hxs : w.ownsRow base 31 12 v tys.length xs) (h1 : ∀ u ∈ xs, u.oneCell' = true) (hx : ∀ i y, tys[i]? = some y → TyAt w (· ∉ L) xs i y)
    (ho : w3.ownsRow base 31 12 v' (tys.length + 1) (xs ++ ty.cells vn vf va vp)) (r : Wr (ownL v) w w3) (hW3 : Wr [t] w3 W) (hblk : Blk W t T #[v']) (hat : v'.ownBlock = v.ownBlock ∨ ∃ k, v'.ownBlock = some k ∧ w.heap.size ≤ k)
    (hl : Lists w (· ∉ L) vn vf va vp ty) (hr : ty.room) (hne : t ∉ ownL v) :
    ∃ L', Wr (t :: ownL v) w W ∧ Tab T W t v' L' base (tys ++ [ty]) ∧ (∀ x ∈ L, x ∈ L') ∧ (∀ x ∈ L', x ∈ L ∨ w.heap.size ≤ x) := by
  have hown : ∀ x ∈ ownL v, x ∈ L := fun x hx => hT.rin x (mem_ownL.1 hx)
  have hW : Wr (t :: ownL v) w W := (r.more (fun x hx => List.mem_cons_of_mem _ hx)).trans' (hW3.more (fun x hx => by simp at hx; simp [hx])) (fun x hx => .inl hx)
  have hz := r.size
  have hz3 := hW3.size
  have hLv : ∀ k, v'.ownBlock = some k → k ∈ L ∨ w.heap.size ≤ k := by
    intro k hk
    rcases hat with e | ⟨k', e, hk'⟩
    · exact .inl (hT.rin k (e.symm.trans hk))
    · rw [hk] at e
      injection e with e
      exact .inr (by omega)
  have htk : ∀ k, v'.ownBlock = some k → k ∉ [t] := by
    intro k hk hm
    rw [List.mem_singleton] at hm
    rcases hat with e | ⟨k', e, hk'⟩
    · exact hne (mem_ownL.2 (by rw [← hm]; exact e.symm.trans hk))
    · rw [hk] at e
      injection e with e
      have := hT.blk.lt
      omega
  have step : ∀ b, b ∉ L → b < w.heap.size → b ∉ ownL v' ++ L ∧ b ∉ L := by
    intro b hb hs
    refine ⟨fun hm => ?_, hb⟩
    rcases List.mem_append.1 hm with h | h
    · rcases hLv b (mem_ownL.1 h) with h5 | h5
      · exact hb h5
      · omega
    · exact hb h
  have kp : ∀ b, b ∉ ownL v' ++ L ∧ b ∉ L → b ∉ t :: ownL v := by
    intro b hb hm
    rcases List.mem_cons.1 hm with h | h
    · exact hb.2 (h ▸ hT.tin)
    · exact hb.2 (hown b h)
  refine ⟨ownL v' ++ L, hW, tab_snoc hblk (ownsRow_wr ho hW3 htk) hxs.1 h1 (fun i y hi => ((hx i y hi).into step).keep hW kp |>.into (fun b hb _ => hb.1)) (((hl.into step).keep hW kp).into (fun b hb _ => hb.1)) hT.room hr (List.mem_append_right _ hT.tin) (fun k hk => List.mem_append_left _ (mem_ownL.2 hk)) ?_, fun x hx => List.mem_append_right _ hx, ?_⟩
  · intro x hx
    rcases List.mem_append.1 hx with h | h
    · have := (ownsRow_wr ho hW3 htk).lt x (mem_ownL.1 h)
      omega
    · have := hT.lin x h
      omega
  · intro x hx
    rcases List.mem_append.1 hx with h | h
    · exact hLv x (mem_ownL.1 h)
    · exact .inl h

section
variable (w : World) (t : Nat) (v : Value) (L : List Nat) (base : Nat) (tys : List Ty) (h : Tab 47 w t v L base tys) (ty : Ty) (vn vf va vp : Value) (hl : Lists w (· ∉ L) vn vf va vp ty)
include h hl

set_option maxHeartbeats 1000000 in
theorem radd_no (hm : mayB ty.kind = false) : Calls Try.prog 38 #[.pointer (some ⟨t, 0, none⟩), ty.val vn vf va vp] w (AddNo w 2) := by
  obtain ⟨⟨A1, c1, rfl⟩, ⟨A2, c2, rfl⟩, ⟨A3, c3, rfl⟩, ⟨A4, c4, rfl⟩⟩ := hl.forms
  have hmy := fun w => rmay_any w ty A1 A2 A3 A4 c1 c2 c3 c4
  rw [hm] at hmy
  clear hm h hl
  unfold Ty.val Ty.cells at *
  go_enter Try.func38, Try.ntmps38
  go_wp2_with fail
  refine (hmy _).mono ?_
  rintro e w1 ⟨rfl, r1⟩
  go_wp2_with fail
  go_ret2
  exact ⟨rfl, ((Wr.refl [] w).alloc _).trans r1⟩

set_option maxRecDepth 100000 in
set_option maxHeartbeats 4000000 in
theorem radd_yes (hm : mayB ty.kind = true) (hn : tys.length < 1024) (hr : ty.room) (hbase : base ≤ w.heap.size) : Calls Try.prog 38 #[.pointer (some ⟨t, 0, none⟩), ty.val vn vf va vp] w (AddP 47 w t v L base tys ty) := by
  have HLI := Lib.hid hl
  obtain ⟨⟨A1, c1, rfl⟩, ⟨A2, c2, rfl⟩, ⟨A3, c3, rfl⟩, ⟨A4, c4, rfl⟩⟩ := hl.forms
  have hmy := fun w => rmay_any w ty A1 A2 A3 A4 c1 c2 c3 c4
  rw [hm] at hmy
  obtain ⟨A, c, rfl, h1, h2⟩ := h.len
  unfold maxLen at h2
  have a0 := h.blk.cell 0
  simp only [List.getElem?_toArray, List.getElem?_cons_zero] at a0
  have hd : decide ((tys.length : Int) ≥ 1024) = false := by simp; omega
  have HT := Lib.hid h
  have HN := Lib.hid hn
  have HR := Lib.hid hr
  have hzt := h.blk.lt
  clear hm h hl hn hr h1
  unfold Ty.val Ty.cells at *
  go_enter Try.func38, Try.ntmps38
  go_wp2_with fail
  refine (hmy _).mono ?_
  clear hmy
  rintro e w1 ⟨rfl, r1⟩
  have r01 := ((Wr.refl [] w).alloc (.cells #[.int .u8 ty.kind, .string ty.module, .string ty.name, .int .i64 ty.base, .int .i64 ty.index, .int .i64 ty.low, .int .i64 ty.high, .slice A1 ty.names.length c1, .slice A2 ty.fields.length c2, .slice A3 ty.arms.length c3, .slice A4 ty.params.length c4, .int .i64 ty.result] 31)).trans r1
  have hb1 := (Blk.new w 31 #[.int .u8 ty.kind, .string ty.module, .string ty.name, .int .i64 ty.base, .int .i64 ty.index, .int .i64 ty.low, .int .i64 ty.high, .slice A1 ty.names.length c1, .slice A2 ty.fields.length c2, .slice A3 ty.arms.length c3, .slice A4 ty.params.length c4, .int .i64 ty.result]).wr0 r1
  replace a0 := r01.cellOf a0 (by simp)
  have b0 := hb1.cell 0
  have b1 := hb1.cell 1
  have b2 := hb1.cell 2
  have b3 := hb1.cell 3
  have b4 := hb1.cell 4
  have b5 := hb1.cell 5
  have b6 := hb1.cell 6
  have b7 := hb1.cell 7
  have b8 := hb1.cell 8
  have b9 := hb1.cell 9
  have b10 := hb1.cell 10
  have b11 := hb1.cell 11
  simp only [List.getElem?_toArray, List.getElem?_cons_zero, List.getElem?_cons_succ] at b0 b1 b2 b3 b4 b5 b6 b7 b8 b9 b10 b11
  have HT1 := Lib.hid (HT.out.wr0 r01)
  have HL1 := Lib.hid (HLI.out.wr0 r01)
  have R01 := Lib.hid r01
  have hz01 := r01.size
  clear r01 hb1 r1
  obtain ⟨xs, hxo, hx1, hxa⟩ := HT1.out.row
  have hap := HT1.out.apart (by decide)
  have HX := Lib.hid (And.intro hxo (And.intro hx1 hxa))
  have HAP := Lib.hid hap
  clear hxo hx1 hxa hap
  go_upto_region 5 with (fail)
  obtain ⟨v3, w3, hrun, ho3, r3, hat3⟩ := append_ty base _ _ _ w1.drew HX.out.1.drew _ rfl HL1.out.one HN.out (by show base ≤ w1.heap.size; omega)
  obtain ⟨g3, cap3, rfl, hcap3, hlt3⟩ := ho3.form (by omega)
  have hb3 := HT1.out.blk.drew.wr r3 HAP.out
  have a3 := hb3.cell 0
  have f3 := hb3.frozen 0
  have z3 := hb3.lt
  have z1 : t < w1.heap.size := HT1.out.blk.lt
  simp only [List.getElem?_toArray, List.getElem?_cons_zero] at a3
  have HB3 := Lib.hid hb3
  have HO3 := Lib.hid ho3
  have R3 := Lib.hid r3
  have HAT3 := Lib.hid hat3
  clear hb3 ho3 r3 hat3
  simp only [Ty.cells] at hrun
  have HRUN := Lib.hid hrun
  clear hrun
  go_region_law (first
    | (refine step_append_run (by rfl) _ _ _ (by rfl) _ _ (by rfl) (by rfl) _ _ HRUN.out ?_))
  all_goals
    have hn1 : tys.length < 1024 := HN.out
    go_wp2_with fail
    go_ret2
    have hwd : w1.drew.heap.size = w1.heap.size := rfl
    obtain ⟨L', k1, k2, k3, k4⟩ := tab_add (T := 47) (W := w3.setCell ⟨t, 0, none⟩ (.slice (some ⟨g3, 0, none⟩) (tys.length + 1) cap3)) HT1.out HX.out.1 HX.out.2.1 HX.out.2.2 HO3.out (Wr.trans' (Wr.drewN (Wr.refl (ownL (.slice A tys.length c)) w1) 1) R3.out (fun x hx => .inl hx)) ((Wr.refl [t] w3).setOn (by simp) _) (HB3.out.set_ 0 _) (by rcases HAT3.out with e | ⟨k, e, hk⟩; exact .inl e; exact .inr ⟨k, e, by omega⟩) HL1.out HR.out HAP.out
    refine ⟨_, L', rfl, R01.out.nil.trans k1, k2, k3, fun x hx => ?_, ?_⟩
    · rcases k4 x hx with e | e
      · exact .inl e
      · exact .inr (by omega)
    · rcases HAT3.out with e | ⟨k, e, hk⟩
      · exact .inl e
      · exact .inr ⟨k, e, by omega⟩
end
end Go.Proofs.Ytcpgkeceefoljaa
