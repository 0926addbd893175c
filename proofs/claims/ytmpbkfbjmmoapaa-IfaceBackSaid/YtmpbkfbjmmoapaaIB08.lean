/- iface's May: walked. No conditions. -/
import Derived.Test.YtmpbkfbjmmoapaaIB07
import Derived.Test.YtmpbkfbjmmoapaaIB01
import Derived.Test.YtmpbkfbjmmoapaaIB03
namespace Go.Proofs.Ytmpbkfbjmmoapaa
open Go.RowKit
set_option linter.unusedVariables false
set_option linter.unusedSimpArgs false
theorem fit_types {f : FaceD} (h : faceFit f = true) : f.types.length ≤ 1024 := by
  unfold faceFit at h
  simp only [Bool.and_eq_true, decide_eq_true_eq] at h
  exact h.1.1.1.1.2
set_option maxRecDepth 100000 in
set_option maxHeartbeats 4000000 in
theorem may_any (f : FaceD) (vu vt vi : Value) (P : Nat → Prop) (w : World) (h : FaceL w P vu vt vi f) :
    Calls Try.prog 12 #[.agg #[.string f.module, vu, vt, vi]] w fun e w' => e = .returned (.int .i64 (mayP f)) ∧ Wr [] w w' := by
  obtain ⟨⟨A1, k1, rfl, hn1, hn2⟩, ⟨A2, k2, rfl, hf1, hf2⟩, ⟨A3, k3, rfl, ha1, ha2⟩⟩ := h.forms
  unfold maxLen at hn2 hf2 ha2
  have acc := (Wr.refl [] w).alloc (.cells #[.string f.module, .slice A1 f.uses.length k1, .slice A2 f.types.length k2, .slice A3 f.items.length k3] 31)
  have bA := Blk.new w 31 #[.string f.module, .slice A1 f.uses.length k1, .slice A2 f.types.length k2, .slice A3 f.items.length k3]
  have hfi := fitting_any f _ _ _ P _ (h.wr0 acc)
  have hfo := fun hnt W (hW : Wr [] w W) => formed_any f _ _ _ P W (h.wr0 hW) hnt
  have hou := fun W (hW : Wr [] w W) => onceU_any f.uses _ P W (Sl.wr0 h.uses hW)
  have hoe := fun W (hW : Wr [] w W) => onceE_any f.items _ P W (Sl.wr0 h.items hW)
  obtain ⟨v, hv⟩ : ∃ v, mayP f = v := ⟨_, rfl⟩
  obtain ⟨r1, h1⟩ : ∃ r, faceFit f = r := ⟨_, rfl⟩
  obtain ⟨r2, h2⟩ : ∃ r, onceB [] (f.uses.map fun x => x.module) = r := ⟨_, rfl⟩
  obtain ⟨r3, h3⟩ : ∃ r, onceB [] (f.items.map fun x => x.name) = r := ⟨_, rfl⟩
  obtain ⟨r4, h4⟩ : ∃ r, faceForm f = r := ⟨_, rfl⟩
  have hm : v = if r1 then if r2 && r3 then if r4 then 0 else 7 else 6 else 5 := by rw [← hv, ← h1, ← h2, ← h3, ← h4]; rfl
  rw [hv]
  rw [h1] at hfi
  rw [h2] at hou
  rw [h3] at hoe
  rw [h4] at hfo
  have HFI := Lib.hid hfi
  have HFO := Lib.hid hfo
  have HOU := Lib.hid hou
  have HOE := Lib.hid hoe
  have HM := Lib.hid hm
  have H1 := Lib.hid h1
  have ACC := Lib.hid acc
  have BA := Lib.hid bA
  clear hfi hfo hou hoe hm h1 h2 h3 h4 hv acc bA h
  go_enter Try.func12, Try.ntmps12
  go_wp2_with fail
  refine HFI.out.mono ?_
  rintro e w1 ⟨rfl, q1⟩
  have ACC1 := Lib.hid (ACC.out.trans q1)
  have BA1 := Lib.hid (BA.out.wr0 q1)
  clear q1
  cases r1 with
  | false =>
    obtain rfl : v = 5 := by rw [HM.out]; rfl
    clear HM
    go_wp2_with fail
    go_ret
    exact ⟨rfl, ACC1.out⟩
  | true =>
  have c1 := BA1.out.cell 1
  simp only [List.getElem?_toArray, List.getElem?_cons_zero, List.getElem?_cons_succ] at c1
  go_wp2_with fail
  refine (HOU.out _ ACC1.out).mono ?_
  rintro e w2 ⟨rfl, q2⟩
  have ACC2 := Lib.hid (ACC1.out.trans q2)
  have BA2 := Lib.hid (BA1.out.wr0 q2)
  clear q2 c1
  cases r2 with
  | false =>
    obtain rfl : v = 6 := by rw [HM.out]; rfl
    clear HM
    go_wp2_with fail
    go_ret
    exact ⟨rfl, ACC2.out⟩
  | true =>
  have c3 := BA2.out.cell 3
  simp only [List.getElem?_toArray, List.getElem?_cons_zero, List.getElem?_cons_succ] at c3
  go_wp2_with fail
  refine (HOE.out _ ACC2.out).mono ?_
  rintro e w3 ⟨rfl, q3⟩
  have ACC3 := Lib.hid (ACC2.out.trans q3)
  have BA3 := Lib.hid (BA2.out.wr0 q3)
  clear q3 c3
  cases r3 with
  | false =>
    obtain rfl : v = 6 := by rw [HM.out]; rfl
    clear HM
    go_wp2_with fail
    go_ret
    exact ⟨rfl, ACC3.out⟩
  | true =>
  have c0 := BA3.out.cell 0
  have c1 := BA3.out.cell 1
  have c2 := BA3.out.cell 2
  have c3 := BA3.out.cell 3
  simp only [List.getElem?_toArray, List.getElem?_cons_zero, List.getElem?_cons_succ] at c0 c1 c2 c3
  go_wp2_with fail
  refine (HFO.out (fit_types H1.out) _ ACC3.out).mono ?_
  rintro e w4 ⟨rfl, q4⟩
  clear c0 c1 c2 c3
  cases r4 with
  | false =>
    obtain rfl : v = 7 := by rw [HM.out]; rfl
    clear HM
    go_wp2_with fail
    go_ret
    exact ⟨rfl, ACC3.out.trans q4⟩
  | true =>
    obtain rfl : v = 0 := by rw [HM.out]; rfl
    clear HM
    go_wp2_with fail
    go_ret
    exact ⟨rfl, ACC3.out.trans q4⟩
end Go.Proofs.Ytmpbkfbjmmoapaa

/- slices.Clone of uses, types, items: walked. Conditions: what is copied takes no more room than an address can reach. -/
namespace Go.Proofs.Ytmpbkfbjmmoapaa
open Go.RowKit
set_option linter.unusedVariables false
set_option linter.unusedSimpArgs false
theorem info_use : (Try.prog.info? 47).map (fun i => (i.zero, i.size, i.bytes)) = some (some (.agg #[.string ⟨#[]⟩, .int .u64 0]), 2, 24) := by kernel_rfl
set_option maxHeartbeats 400000 in
theorem cloneO_use (w : World) (P : Nat → Prop) (v : Value) (n : Nat) (xs : List Value) (h : Sl w P 2 v n xs) (h1 : ∀ u ∈ xs, u.oneCell' = true) (hb : n * 24 ≤ 140737488355328) :
    Calls Try.prog 36 #[v] w (CloneO w 47 2 n xs) := by
  obtain ⟨i0, hi0, hz0, hz1, hz2⟩ := info_parts info_use
  have hm : 0 + n ≤ maxLen := by obtain ⟨A, c, _, k1, k2⟩ := h.form; omega
  have H := Lib.hid h
  have hl := Lib.hid h.len
  obtain ⟨A, c, rfl, k1, k2⟩ := h.form
  clear h k1 k2
  cases A with
  | none =>
    clear hi0 hz0 hz1 hz2 hb hm h1
    have he := fun (w : World) => Lib.run_eql_slice_nil (P := Try.prog) w 22 47 none n c 0 0 Try.underlying22
    go_enter Try.func36, Try.ntmps36
    go_wp2_with fail
    go_ret
    have h0 : xs = [] := by
      obtain ⟨A, c, e, _, _, _, hc⟩ := H.out
      cases xs with
      | nil => rfl
      | cons x l =>
        obtain ⟨b, off, e', _, _⟩ := hc 0 x rfl
        subst e'
        injection e with e
        cases e
    subst h0
    have hn : n = 0 := by have := hl.out; simp at this; omega
    subst hn
    exact ⟨_, rfl, Wr.refl _ _, World.ownsRow_nil w _ _ _⟩
  | some ad =>
    obtain ⟨v1, w1, hrun, hown, hg, hat⟩ := run_append_sl (P := Try.prog) (w.alloc (.cells #[] 47)) w.heap.size 22 22 47 i0 _ 2 24 Try.underlying22 hi0 hz0 hz1 hz2 rfl (by omega)
      (.slice (some ⟨w.heap.size, 0, none⟩) 0 0) 0 [] (World.ownsRow_made w #[] 0 (Nat.le_refl _) (by simp) rfl) P (.slice (some ad) n c) n xs (H.out.wr0 ((Wr.refl _ _).alloc _)) h1 hm (by omega) (by simp)
    simp only [Nat.zero_add, List.nil_append] at hown
    have HG := Lib.hid hg
    have HO := Lib.hid hown
    clear hi0 hz0 hz1 hz2 hm hb h1 hg hat hown
    have he := fun (w : World) => Lib.run_eql_slice_nil (P := Try.prog) w 22 47 (some ad) n c 0 0 Try.underlying22
    go_enter Try.func36, Try.ntmps36
    go_wp2_with (at_builtin; refine wpList_append_run rfl _ _ _ rfl _ _ rfl rfl _ _ hrun ?_)
    go_ret
    refine ⟨_, rfl, ?_, HO.out⟩
    exact ((Wr.refl [] w).alloc _).trans' (Wr.ofGrown HG.out (l := [w.heap.size]) (fun k hk => by simp [Value.ownBlock] at hk; simp [hk])) (fun x hx => .inr (by simp at hx; omega))
theorem info_typ : (Try.prog.info? 56).map (fun i => (i.zero, i.size, i.bytes)) = some (some (.agg #[.int .u8 0, .string ⟨#[]⟩, .string ⟨#[]⟩, .int .i64 0, .int .i64 0, .int .i64 0, .int .i64 0, .slice none 0 0, .slice none 0 0, .slice none 0 0, .slice none 0 0, .int .i64 0]), 12, 176) := by kernel_rfl
set_option maxHeartbeats 400000 in
theorem cloneO_typ (w : World) (P : Nat → Prop) (v : Value) (n : Nat) (xs : List Value) (h : Sl w P 12 v n xs) (h1 : ∀ u ∈ xs, u.oneCell' = true) (hb : n * 176 ≤ 140737488355328) :
    Calls Try.prog 37 #[v] w (CloneO w 56 12 n xs) := by
  obtain ⟨i0, hi0, hz0, hz1, hz2⟩ := info_parts info_typ
  have hm : 0 + n ≤ maxLen := by obtain ⟨A, c, _, k1, k2⟩ := h.form; omega
  have H := Lib.hid h
  have hl := Lib.hid h.len
  obtain ⟨A, c, rfl, k1, k2⟩ := h.form
  clear h k1 k2
  cases A with
  | none =>
    clear hi0 hz0 hz1 hz2 hb hm h1
    have he := fun (w : World) => Lib.run_eql_slice_nil (P := Try.prog) w 23 56 none n c 0 0 Try.underlying23
    go_enter Try.func37, Try.ntmps37
    go_wp2_with fail
    go_ret
    have h0 : xs = [] := by
      obtain ⟨A, c, e, _, _, _, hc⟩ := H.out
      cases xs with
      | nil => rfl
      | cons x l =>
        obtain ⟨b, off, e', _, _⟩ := hc 0 x rfl
        subst e'
        injection e with e
        cases e
    subst h0
    have hn : n = 0 := by have := hl.out; simp at this; omega
    subst hn
    exact ⟨_, rfl, Wr.refl _ _, World.ownsRow_nil w _ _ _⟩
  | some ad =>
    obtain ⟨v1, w1, hrun, hown, hg, hat⟩ := run_append_sl (P := Try.prog) (w.alloc (.cells #[] 56)) w.heap.size 23 23 56 i0 _ 12 176 Try.underlying23 hi0 hz0 hz1 hz2 rfl (by omega)
      (.slice (some ⟨w.heap.size, 0, none⟩) 0 0) 0 [] (World.ownsRow_made w #[] 0 (Nat.le_refl _) (by simp) rfl) P (.slice (some ad) n c) n xs (H.out.wr0 ((Wr.refl _ _).alloc _)) h1 hm (by omega) (by simp)
    simp only [Nat.zero_add, List.nil_append] at hown
    have HG := Lib.hid hg
    have HO := Lib.hid hown
    clear hi0 hz0 hz1 hz2 hm hb h1 hg hat hown
    have he := fun (w : World) => Lib.run_eql_slice_nil (P := Try.prog) w 23 56 (some ad) n c 0 0 Try.underlying23
    go_enter Try.func37, Try.ntmps37
    go_wp2_with (at_builtin; refine wpList_append_run rfl _ _ _ rfl _ _ rfl rfl _ _ hrun ?_)
    go_ret
    refine ⟨_, rfl, ?_, HO.out⟩
    exact ((Wr.refl [] w).alloc _).trans' (Wr.ofGrown HG.out (l := [w.heap.size]) (fun k hk => by simp [Value.ownBlock] at hk; simp [hk])) (fun x hx => .inr (by simp at hx; omega))
theorem info_exp : (Try.prog.info? 44).map (fun i => (i.zero, i.size, i.bytes)) = some (some (.agg #[.string ⟨#[]⟩, .int .u8 0, .int .i64 0, .nilIface, .int .i64 0]), 5, 56) := by kernel_rfl
set_option maxHeartbeats 400000 in
theorem cloneO_exp (w : World) (P : Nat → Prop) (v : Value) (n : Nat) (xs : List Value) (h : Sl w P 5 v n xs) (h1 : ∀ u ∈ xs, u.oneCell' = true) (hb : n * 56 ≤ 140737488355328) :
    Calls Try.prog 38 #[v] w (CloneO w 44 5 n xs) := by
  obtain ⟨i0, hi0, hz0, hz1, hz2⟩ := info_parts info_exp
  have hm : 0 + n ≤ maxLen := by obtain ⟨A, c, _, k1, k2⟩ := h.form; omega
  have H := Lib.hid h
  have hl := Lib.hid h.len
  obtain ⟨A, c, rfl, k1, k2⟩ := h.form
  clear h k1 k2
  cases A with
  | none =>
    clear hi0 hz0 hz1 hz2 hb hm h1
    have he := fun (w : World) => Lib.run_eql_slice_nil (P := Try.prog) w 29 44 none n c 0 0 Try.underlying29
    go_enter Try.func38, Try.ntmps38
    go_wp2_with fail
    go_ret
    have h0 : xs = [] := by
      obtain ⟨A, c, e, _, _, _, hc⟩ := H.out
      cases xs with
      | nil => rfl
      | cons x l =>
        obtain ⟨b, off, e', _, _⟩ := hc 0 x rfl
        subst e'
        injection e with e
        cases e
    subst h0
    have hn : n = 0 := by have := hl.out; simp at this; omega
    subst hn
    exact ⟨_, rfl, Wr.refl _ _, World.ownsRow_nil w _ _ _⟩
  | some ad =>
    obtain ⟨v1, w1, hrun, hown, hg, hat⟩ := run_append_sl (P := Try.prog) (w.alloc (.cells #[] 44)) w.heap.size 29 29 44 i0 _ 5 56 Try.underlying29 hi0 hz0 hz1 hz2 rfl (by omega)
      (.slice (some ⟨w.heap.size, 0, none⟩) 0 0) 0 [] (World.ownsRow_made w #[] 0 (Nat.le_refl _) (by simp) rfl) P (.slice (some ad) n c) n xs (H.out.wr0 ((Wr.refl _ _).alloc _)) h1 hm (by omega) (by simp)
    simp only [Nat.zero_add, List.nil_append] at hown
    have HG := Lib.hid hg
    have HO := Lib.hid hown
    clear hi0 hz0 hz1 hz2 hm hb h1 hg hat hown
    have he := fun (w : World) => Lib.run_eql_slice_nil (P := Try.prog) w 29 44 (some ad) n c 0 0 Try.underlying29
    go_enter Try.func38, Try.ntmps38
    go_wp2_with (at_builtin; refine wpList_append_run rfl _ _ _ rfl _ _ rfl rfl _ _ hrun ?_)
    go_ret
    refine ⟨_, rfl, ?_, HO.out⟩
    exact ((Wr.refl [] w).alloc _).trans' (Wr.ofGrown HG.out (l := [w.heap.size]) (fun k hk => by simp [Value.ownBlock] at hk; simp [hk])) (fun x hx => .inr (by simp at hx; omega))
end Go.Proofs.Ytmpbkfbjmmoapaa

/- iface's clone, of an interface of one type without lists: walked. No conditions. -/
namespace Go.Proofs.Ytmpbkfbjmmoapaa
open Go.RowKit
set_option linter.unusedVariables false
set_option linter.unusedSimpArgs false
def recL : List Value := [.int .u8 12, .string ⟨#[]⟩, .string ⟨#[]⟩, .int .i64 0, .int .i64 0, .int .i64 0, .int .i64 0, .slice none 0 0, .slice none 0 0, .slice none 0 0, .slice none 0 0, .int .i64 0]
def cjV (q g : Nat) : Nat → Value
  | 0 => .pointer (some ⟨g, 1, none⟩)
  | 3 => .pointer (some ⟨g, 2, none⟩)
  | 6 => .pointer (some ⟨g, 3, none⟩)
  | 9 => .pointer (some ⟨g, 1, none⟩)
  | 11 => .pointer (some ⟨g, 2, none⟩)
  | 13 => .pointer (some ⟨g, 3, none⟩)
  | 10 => undef
  | 12 => undef
  | 14 => undef
  | 4 => .slice (some ⟨q, 0, none⟩) 1 1
  | _ => .slice none 0 0
def cjB (q : Nat) (σ : Nat → Value) (l : Array Bool) : Value := if lst l 12 = true then σ 5 else .slice (some ⟨q, 0, none⟩) 1 1
structure CjI (m : ByteArray) (q : Nat) (wd : World) (g : Nat) (σ : Nat → Value) (l : Array Bool) (w' : World) : Prop where
  v : ∀ j, j ≠ 5 → lst l j = true → σ j = cjV q g j
  o : lst l 12 = true → lst l 5 = true
  o4 : lst l 5 = true → lst l 4 = true
  t : lst l 5 = true → w'.ownsRow wd.heap.size 56 12 (σ 5) 1 recL
  s : Blk w' q 56 recL.toArray
  b : Blk w' g 31 #[.string m, .slice none 0 0, cjB q σ l, .slice none 0 0]
  acc : Wr [g] wd w'
section
variable {m : ByteArray} {q : Nat} {wd : World} {g : Nat} {σ : Nat → Value} {l : Array Bool} {w1 w2 : World}
theorem own_wr {b : Nat} {T : TypeId} {z n : Nat} {v : Value} {xs : List Value} {ls : List Nat} (h : w1.ownsRow b T z v n xs) (r : Wr ls w1 w2) (hl : ∀ x ∈ ls, x < b) : w2.ownsRow b T z v n xs := by
  refine ⟨h.1, ?_⟩
  rcases h.2 with hn | ⟨g, cap, cur, rfl, hb, hgg, rest⟩
  · exact .inl hn
  · exact .inr ⟨g, cap, cur, rfl, hb, Blk.wr (show Blk w1 g T cur from hgg) r (fun h => by have := hl g h; omega), rest⟩
theorem CjI.quiet (h : CjI m q wd g σ l w1) (hz : l.size = 15) (i : Nat) (hi : i ≠ 5 ∧ i ≠ 12) (r : Wr [] w1 w2) : CjI m q wd g (upd σ i (cjV q g i)) (l.setIfInBounds i true) w2 := by
  have e5 : lst (l.setIfInBounds i true) 5 = lst l 5 := lst_ne (fun e => hi.1 e.symm)
  have e12 : lst (l.setIfInBounds i true) 12 = lst l 12 := lst_ne (fun e => hi.2 e.symm)
  have u5 : upd σ i (cjV q g i) 5 = σ 5 := upd_ne σ _ (fun e => hi.1 e.symm)
  refine ⟨fun j h5 hj => ?_, fun h12 => ?_, fun h5 => ?_, fun h5 => ?_, h.s.wr0 r, ?_, h.acc.trans' r (by simp)⟩
  · by_cases hji : j = i
    · subst hji
      exact upd_same _ _ _
    · rw [upd_ne σ _ hji]
      rw [lst_ne hji] at hj
      exact h.v j h5 hj
  · rw [e5]; rw [e12] at h12; exact h.o h12
  · rw [e5] at h5
    by_cases h4 : 4 = i
    · subst h4
      exact lst_same (by omega)
    · rw [lst_ne h4]
      exact h.o4 h5
  · rw [u5]; rw [e5] at h5; exact own_wr (h.t h5) r (by simp)
  · unfold cjB
    rw [e12, u5]
    exact h.b.wr0 r
theorem own_base {b b' : Nat} {T : TypeId} {z n : Nat} {v : Value} {xs : List Value} (h : w1.ownsRow b T z v n xs) (hb : b' ≤ b) : w1.ownsRow b' T z v n xs := by
  refine ⟨h.1, ?_⟩
  rcases h.2 with hn | ⟨g, cap, cur, rfl, hb', rest⟩
  · exact .inl hn
  · exact .inr ⟨g, cap, cur, rfl, by omega, rest⟩
theorem CjI.called (h : CjI m q wd g σ l w1) (hz : l.size = 15) (hl : lst l 5 = false) (h4 : lst l 4 = true) (r : Wr [] w1 w2) {vt : Value} (ho : w2.ownsRow w1.heap.size 56 12 vt 1 recL) : CjI m q wd g (upd σ 5 vt) (l.setIfInBounds 5 true) w2 := by
  have n12 : lst l 12 = false := by
    cases h12 : lst l 12 with
    | false => rfl
    | true =>
      rw [h.o h12] at hl
      cases hl
  have e12 : lst (l.setIfInBounds 5 true) 12 = false := by rw [lst_ne (by decide)]; exact n12
  refine ⟨fun j h5 hj => ?_, fun h12 => ?_, fun h5 => ?_, fun _ => ?_, h.s.wr0 r, ?_, h.acc.trans' r (by simp)⟩
  · rw [upd_ne σ _ h5]
    rw [lst_ne h5] at hj
    exact h.v j h5 hj
  · rw [e12] at h12; cases h12
  · rw [lst_ne (by decide)]; exact h4
  · rw [upd_same]; exact own_base ho h.acc.size
  · have := h.b.wr0 r
    unfold cjB at this ⊢
    rw [n12] at this
    rw [e12]
    exact this
theorem CjI.store (h : CjI m q wd g σ l w1) (hz : l.size = 15) (i : Nat) (hi : i ≠ 5 ∧ i ≠ 12 ∧ i ≠ 4) (k : Nat) (hk : k = 1 ∨ k = 3) (hgw : g < wd.heap.size) (hqg : q ≠ g) (hu : cjV q g i = undef) : CjI m q wd g (upd σ i undef) (l.setIfInBounds i true) (w1.setCell ⟨g, k, none⟩ (.slice none 0 0)) := by
  have r : Wr [g] w1 (w1.setCell ⟨g, k, none⟩ (.slice none 0 0)) := (Wr.refl [g] _).setOn (by simp) _
  have e5 : lst (l.setIfInBounds i true) 5 = lst l 5 := lst_ne (fun e => hi.1 e.symm)
  have e12 : lst (l.setIfInBounds i true) 12 = lst l 12 := lst_ne (fun e => hi.2.1 e.symm)
  have e4 : lst (l.setIfInBounds i true) 4 = lst l 4 := lst_ne (fun e => hi.2.2 e.symm)
  have u5 : upd σ i undef 5 = σ 5 := upd_ne σ _ (fun e => hi.1 e.symm)
  refine ⟨fun j h5 hj => ?_, fun h12 => ?_, fun h5 => ?_, fun h5 => ?_, h.s.wr r (by simpa using hqg), ?_, h.acc.trans r⟩
  · by_cases hji : j = i
    · subst hji
      rw [upd_same, hu]
    · rw [upd_ne σ _ hji]
      rw [lst_ne hji] at hj
      exact h.v j h5 hj
  · rw [e5]; rw [e12] at h12; exact h.o h12
  · rw [e4]; rw [e5] at h5; exact h.o4 h5
  · rw [u5]; rw [e5] at h5; exact own_wr (h.t h5) r (by simpa using hgw)
  · have := h.b.set_ k (.slice none 0 0)
    unfold cjB at this ⊢
    rw [e12, u5]
    rcases hk with rfl | rfl <;> simpa using this
theorem CjI.stored (h : CjI m q wd g σ l w1) (hz : l.size = 15) (h5l : lst l 5 = true) (hgw : g < wd.heap.size) (hqg : q ≠ g) : CjI m q wd g (upd σ 12 undef) (l.setIfInBounds 12 true) (w1.setCell ⟨g, 2, none⟩ (σ 5)) := by
  have r : Wr [g] w1 (w1.setCell ⟨g, 2, none⟩ (σ 5)) := (Wr.refl [g] _).setOn (by simp) _
  have u5 : upd σ 12 undef 5 = σ 5 := upd_ne σ _ (by decide)
  refine ⟨fun j h5 hj => ?_, fun _ => ?_, fun h5 => ?_, fun h5 => ?_, h.s.wr r (by simpa using hqg), ?_, h.acc.trans r⟩
  · by_cases hji : j = 12
    · subst hji
      rw [upd_same]
      rfl
    · rw [upd_ne σ _ hji]
      rw [lst_ne hji] at hj
      exact h.v j h5 hj
  · rw [lst_ne (by decide)]; exact h5l
  · rw [lst_ne (by decide)]; exact h.o4 h5l
  · rw [u5]; exact own_wr (h.t h5l) r (by simpa using hgw)
  · have := h.b.set_ 2 (σ 5)
    unfold cjB at this ⊢
    rw [lst_same (by omega), if_pos rfl, u5]
    simpa using this
end
def ckV (g : Nat) : Nat → Value

  | 0 => .pointer (some ⟨g, 0, none⟩)
  | 1 => .pointer (some ⟨g, 0, none⟩)
  | 2 => .pointer (some ⟨g, 0, none⟩)
  | 3 => .pointer (some ⟨g, 0, none⟩)
  | 4 => .pointer (some ⟨g, 0, none⟩)
  | 5 => .pointer (some ⟨g, 0, none⟩)
  | 9 => .pointer (some ⟨g, 0, none⟩)
  | 10 => .pointer (some ⟨g, 0, none⟩)
  | 14 => .pointer (some ⟨g, 0, none⟩)
  | 15 => .pointer (some ⟨g, 0, none⟩)
  | 19 => .pointer (some ⟨g, 0, none⟩)
  | 20 => .pointer (some ⟨g, 0, none⟩)
  | 24 => .pointer (some ⟨g, 0, none⟩)
  | 27 => .pointer (some ⟨g, 0, none⟩)
  | 30 => .pointer (some ⟨g, 0, none⟩)
  | 33 => .pointer (some ⟨g, 0, none⟩)
  | 6 => .pointer (some ⟨g, 7, none⟩)
  | 25 => .pointer (some ⟨g, 7, none⟩)
  | 11 => .pointer (some ⟨g, 8, none⟩)
  | 28 => .pointer (some ⟨g, 8, none⟩)
  | 16 => .pointer (some ⟨g, 9, none⟩)
  | 31 => .pointer (some ⟨g, 9, none⟩)
  | 21 => .pointer (some ⟨g, 10, none⟩)
  | 34 => .pointer (some ⟨g, 10, none⟩)
  | 26 => undef
  | 29 => undef
  | 32 => undef
  | 35 => undef
  | _ => .slice none 0 0
structure CkI (cap base : Nat) (wd : World) (g : Nat) (σ : Nat → Value) (l : Array Bool) (w' : World) : Prop where
  v : ∀ j, lst l j = true → σ j = ckV g j
  t : w'.ownsRow base 56 12 (.slice (some ⟨g, 0, none⟩) 1 cap) 1 recL
  acc : Wr [g] wd w'
theorem CkI.step {cap base : Nat} {wd : World} {g : Nat} {σ : Nat → Value} {l : Array Bool} {w1 w2 : World} (h : CkI cap base wd g σ l w1) (i : Nat) (ht : w2.ownsRow base 56 12 (.slice (some ⟨g, 0, none⟩) 1 cap) 1 recL) (r : Wr [g] w1 w2) : CkI cap base wd g (upd σ i (ckV g i)) (l.setIfInBounds i true) w2 := by
  refine ⟨fun j hj => ?_, ht, h.acc.trans r⟩
  by_cases hji : j = i
  · subst hji
    exact upd_same _ _ _
  · rw [upd_ne σ _ hji]
    rw [lst_ne hji] at hj
    exact h.v j hj
end Go.Proofs.Ytmpbkfbjmmoapaa
