/- iface's May: walked. No conditions. -/
import Derived.Test.YtjanbpchedgoiaaKI06
import Derived.Test.YtjanbpchedgoiaaKI01
namespace Go.Proofs.Ytjanbpchedgoiaa
open Go.RowKit
set_option linter.unusedVariables false
set_option linter.unusedSimpArgs false

theorem fit_types {f : FaceD} (h : faceFit f = true) : f.types.length ≤ 1024 := by
  unfold faceFit at h
  simp only [Bool.and_eq_true, decide_eq_true_eq] at h
  exact h.1.1.1.1.2
set_option maxRecDepth 100000 in
set_option maxHeartbeats 4000000 in
theorem may_any (f : FaceD) (vu vt vi : Value) (P : Nat → Prop) (w : World) (h : FaceL w P vu vt vi f) :
    Calls Try.prog 19 #[.agg #[.string f.module, vu, vt, vi]] w fun e w' => e = .returned (.int .i64 (mayP f)) ∧ Wr [] w w' := by
  obtain ⟨⟨A1, k1, rfl, hn1, hn2⟩, ⟨A2, k2, rfl, hf1, hf2⟩, ⟨A3, k3, rfl, ha1, ha2⟩⟩ := h.forms
  unfold maxLen at hn2 hf2 ha2
  have acc := (Wr.refl [] w).alloc (.cells #[.string f.module, .slice A1 f.uses.length k1, .slice A2 f.types.length k2, .slice A3 f.items.length k3] 39)
  have bA := Blk.new w 39 #[.string f.module, .slice A1 f.uses.length k1, .slice A2 f.types.length k2, .slice A3 f.items.length k3]
  have hfi := fitting_any f _ _ _ P _ (h.wr0 acc)
  have hfo := fun hnt W (hW : Wr [] w W) => formed_any f _ _ _ P W (h.wr0 hW) hnt
  have hou := fun W (hW : Wr [] w W) => onceU_any f.uses _ P W (Sl.wr0 h.uses hW)
  have hoe := fun W (hW : Wr [] w W) => onceE_any f.items _ P W (Sl.wr0 h.items hW)
  obtain ⟨v, hv⟩ : ∃ v, mayP f = v := ⟨_, rfl⟩
  obtain ⟨r1, h1⟩ : ∃ r, faceFit f = r := ⟨_, rfl⟩
  obtain ⟨r2, h2⟩ : ∃ r, onceB [] (f.uses.map fun x => x.module) = r := ⟨_, rfl⟩
  obtain ⟨r3, h3⟩ : ∃ r, onceB [] (f.items.map fun x => x.name) = r := ⟨_, rfl⟩
  obtain ⟨r4, h4⟩ : ∃ r, faceForm f = r := ⟨_, rfl⟩
  have hm : v = if r1 then if r2 && r3 then if r4 then 0 else 7 else 6 else 5 := by rw [← hv, ← h1, ← h2, ← h3, ← h4]; rfl
  rw [hv]
  rw [h1] at hfi
  rw [h2] at hou
  rw [h3] at hoe
  rw [h4] at hfo
  have HFI := Lib.hid hfi
  have HFO := Lib.hid hfo
  have HOU := Lib.hid hou
  have HOE := Lib.hid hoe
  have HM := Lib.hid hm
  have H1 := Lib.hid h1
  have ACC := Lib.hid acc
  have BA := Lib.hid bA
  clear hfi hfo hou hoe hm h1 h2 h3 h4 hv acc bA h
  go_enter Try.func19, Try.ntmps19
  go_wp2_with fail
  refine HFI.out.mono ?_
  rintro e w1 ⟨rfl, q1⟩
  have ACC1 := Lib.hid (ACC.out.trans q1)
  have BA1 := Lib.hid (BA.out.wr0 q1)
  clear q1
  cases r1 with
  | false =>
    obtain rfl : v = 5 := by rw [HM.out]; rfl
    clear HM
    go_wp2_with fail
    go_ret
    exact ⟨rfl, ACC1.out⟩
  | true =>
  have c1 := BA1.out.cell 1
  simp only [List.getElem?_toArray, List.getElem?_cons_zero, List.getElem?_cons_succ] at c1
  go_wp2_with fail
  refine (HOU.out _ ACC1.out).mono ?_
  rintro e w2 ⟨rfl, q2⟩
  have ACC2 := Lib.hid (ACC1.out.trans q2)
  have BA2 := Lib.hid (BA1.out.wr0 q2)
  clear q2 c1
  cases r2 with
  | false =>
    obtain rfl : v = 6 := by rw [HM.out]; rfl
    clear HM
    go_wp2_with fail
    go_ret
    exact ⟨rfl, ACC2.out⟩
  | true =>
  have c3 := BA2.out.cell 3
  simp only [List.getElem?_toArray, List.getElem?_cons_zero, List.getElem?_cons_succ] at c3
  go_wp2_with fail
  refine (HOE.out _ ACC2.out).mono ?_
  rintro e w3 ⟨rfl, q3⟩
  have ACC3 := Lib.hid (ACC2.out.trans q3)
  have BA3 := Lib.hid (BA2.out.wr0 q3)
  clear q3 c3
  cases r3 with
  | false =>
    obtain rfl : v = 6 := by rw [HM.out]; rfl
    clear HM
    go_wp2_with fail
    go_ret
    exact ⟨rfl, ACC3.out⟩
  | true =>
  have c0 := BA3.out.cell 0
  have c1 := BA3.out.cell 1
  have c2 := BA3.out.cell 2
  have c3 := BA3.out.cell 3
  simp only [List.getElem?_toArray, List.getElem?_cons_zero, List.getElem?_cons_succ] at c0 c1 c2 c3
  go_wp2_with fail
  refine (HFO.out (fit_types H1.out) _ ACC3.out).mono ?_
  rintro e w4 ⟨rfl, q4⟩
  clear c0 c1 c2 c3
  cases r4 with
  | false =>
    obtain rfl : v = 7 := by rw [HM.out]; rfl
    clear HM
    go_wp2_with fail
    go_ret
    exact ⟨rfl, ACC3.out.trans q4⟩
  | true =>
    obtain rfl : v = 0 := by rw [HM.out]; rfl
    clear HM
    go_wp2_with fail
    go_ret
    exact ⟨rfl, ACC3.out.trans q4⟩
end Go.Proofs.Ytjanbpchedgoiaa

/- slices.Clone of uses, types, items: walked. Conditions: what is copied takes no more room than an address can reach. -/
namespace Go.Proofs.Ytjanbpchedgoiaa
open Go.RowKit
set_option linter.unusedVariables false
set_option linter.unusedSimpArgs false

theorem info_use : (Try.prog.info? 61).map (fun i => (i.zero, i.size, i.bytes)) = some (some (.agg #[.string ⟨#[]⟩, .int .u64 0]), 2, 24) := by kernel_rfl
set_option maxHeartbeats 400000 in
theorem cloneO_use (w : World) (P : Nat → Prop) (v : Value) (n : Nat) (xs : List Value) (h : Sl w P 2 v n xs) (h1 : ∀ u ∈ xs, u.oneCell' = true) (hb : n * 24 ≤ 140737488355328) :
    Calls Try.prog 32 #[v] w (CloneO w 61 2 n xs) := by
  obtain ⟨i0, hi0, hz0, hz1, hz2⟩ := info_parts info_use
  have hm : 0 + n ≤ maxLen := by obtain ⟨A, c, _, k1, k2⟩ := h.form; omega
  have H := Lib.hid h
  have hl := Lib.hid h.len
  obtain ⟨A, c, rfl, k1, k2⟩ := h.form
  clear h k1 k2
  cases A with
  | none =>
    clear hi0 hz0 hz1 hz2 hb hm h1
    have he := fun (w : World) => Lib.run_eql_slice_nil (P := Try.prog) w 31 61 none n c 0 0 Try.underlying31
    go_enter Try.func32, Try.ntmps32
    go_wp2_with fail
    go_ret
    have h0 : xs = [] := by
      obtain ⟨A, c, e, _, _, _, hc⟩ := H.out
      cases xs with
      | nil => rfl
      | cons x l =>
        obtain ⟨b, off, e', _, _⟩ := hc 0 x rfl
        subst e'
        injection e with e
        cases e
    subst h0
    have hn : n = 0 := by have := hl.out; simp at this; omega
    subst hn
    exact ⟨_, rfl, Wr.refl _ _, World.ownsRow_nil w _ _ _⟩
  | some ad =>
    obtain ⟨v1, w1, hrun, hown, hg, hat⟩ := run_append_sl (P := Try.prog) (w.alloc (.cells #[] 61)) w.heap.size 31 31 61 i0 _ 2 24 Try.underlying31 hi0 hz0 hz1 hz2 rfl (by omega)
      (.slice (some ⟨w.heap.size, 0, none⟩) 0 0) 0 [] (World.ownsRow_made w #[] 0 (Nat.le_refl _) (by simp) rfl) P (.slice (some ad) n c) n xs (H.out.wr0 ((Wr.refl _ _).alloc _)) h1 hm (by omega) (by simp)
    simp only [Nat.zero_add, List.nil_append] at hown
    have HG := Lib.hid hg
    have HO := Lib.hid hown
    clear hi0 hz0 hz1 hz2 hm hb h1 hg hat hown
    have he := fun (w : World) => Lib.run_eql_slice_nil (P := Try.prog) w 31 61 (some ad) n c 0 0 Try.underlying31
    go_enter Try.func32, Try.ntmps32
    go_wp2_with (at_builtin; refine wpList_append_run rfl _ _ _ rfl _ _ rfl rfl _ _ hrun ?_)
    go_ret
    refine ⟨_, rfl, ?_, HO.out⟩
    exact ((Wr.refl [] w).alloc _).trans' (Wr.ofGrown HG.out (l := [w.heap.size]) (fun k hk => by simp [Value.ownBlock] at hk; simp [hk])) (fun x hx => .inr (by simp at hx; omega))
theorem clone_use (w : World) (P : Nat → Prop) (v : Value) (n : Nat) (xs : List Value) (h : Sl w P 2 v n xs) (h1 : ∀ u ∈ xs, u.oneCell' = true) (hb : n * 24 ≤ 140737488355328) :
    Calls Try.prog 32 #[v] w (CloneP w 2 n xs) := (cloneO_use w P v n xs h h1 hb).mono fun _ _ k => k.toP

theorem info_typ : (Try.prog.info? 55).map (fun i => (i.zero, i.size, i.bytes)) = some (some (.agg #[.int .u8 0, .string ⟨#[]⟩, .string ⟨#[]⟩, .int .i64 0, .int .i64 0, .int .i64 0, .int .i64 0, .slice none 0 0, .slice none 0 0, .slice none 0 0, .slice none 0 0, .int .i64 0]), 12, 176) := by kernel_rfl
set_option maxHeartbeats 400000 in
theorem cloneO_typ (w : World) (P : Nat → Prop) (v : Value) (n : Nat) (xs : List Value) (h : Sl w P 12 v n xs) (h1 : ∀ u ∈ xs, u.oneCell' = true) (hb : n * 176 ≤ 140737488355328) :
    Calls Try.prog 33 #[v] w (CloneO w 55 12 n xs) := by
  obtain ⟨i0, hi0, hz0, hz1, hz2⟩ := info_parts info_typ
  have hm : 0 + n ≤ maxLen := by obtain ⟨A, c, _, k1, k2⟩ := h.form; omega
  have H := Lib.hid h
  have hl := Lib.hid h.len
  obtain ⟨A, c, rfl, k1, k2⟩ := h.form
  clear h k1 k2
  cases A with
  | none =>
    clear hi0 hz0 hz1 hz2 hb hm h1
    have he := fun (w : World) => Lib.run_eql_slice_nil (P := Try.prog) w 32 55 none n c 0 0 Try.underlying32
    go_enter Try.func33, Try.ntmps33
    go_wp2_with fail
    go_ret
    have h0 : xs = [] := by
      obtain ⟨A, c, e, _, _, _, hc⟩ := H.out
      cases xs with
      | nil => rfl
      | cons x l =>
        obtain ⟨b, off, e', _, _⟩ := hc 0 x rfl
        subst e'
        injection e with e
        cases e
    subst h0
    have hn : n = 0 := by have := hl.out; simp at this; omega
    subst hn
    exact ⟨_, rfl, Wr.refl _ _, World.ownsRow_nil w _ _ _⟩
  | some ad =>
    obtain ⟨v1, w1, hrun, hown, hg, hat⟩ := run_append_sl (P := Try.prog) (w.alloc (.cells #[] 55)) w.heap.size 32 32 55 i0 _ 12 176 Try.underlying32 hi0 hz0 hz1 hz2 rfl (by omega)
      (.slice (some ⟨w.heap.size, 0, none⟩) 0 0) 0 [] (World.ownsRow_made w #[] 0 (Nat.le_refl _) (by simp) rfl) P (.slice (some ad) n c) n xs (H.out.wr0 ((Wr.refl _ _).alloc _)) h1 hm (by omega) (by simp)
    simp only [Nat.zero_add, List.nil_append] at hown
    have HG := Lib.hid hg
    have HO := Lib.hid hown
    clear hi0 hz0 hz1 hz2 hm hb h1 hg hat hown
    have he := fun (w : World) => Lib.run_eql_slice_nil (P := Try.prog) w 32 55 (some ad) n c 0 0 Try.underlying32
    go_enter Try.func33, Try.ntmps33
    go_wp2_with (at_builtin; refine wpList_append_run rfl _ _ _ rfl _ _ rfl rfl _ _ hrun ?_)
    go_ret
    refine ⟨_, rfl, ?_, HO.out⟩
    exact ((Wr.refl [] w).alloc _).trans' (Wr.ofGrown HG.out (l := [w.heap.size]) (fun k hk => by simp [Value.ownBlock] at hk; simp [hk])) (fun x hx => .inr (by simp at hx; omega))
theorem clone_typ (w : World) (P : Nat → Prop) (v : Value) (n : Nat) (xs : List Value) (h : Sl w P 12 v n xs) (h1 : ∀ u ∈ xs, u.oneCell' = true) (hb : n * 176 ≤ 140737488355328) :
    Calls Try.prog 33 #[v] w (CloneP w 12 n xs) := (cloneO_typ w P v n xs h h1 hb).mono fun _ _ k => k.toP

theorem info_exp : (Try.prog.info? 57).map (fun i => (i.zero, i.size, i.bytes)) = some (some (.agg #[.string ⟨#[]⟩, .int .u8 0, .int .i64 0, .nilIface, .int .i64 0]), 5, 56) := by kernel_rfl
set_option maxHeartbeats 400000 in
theorem cloneO_exp (w : World) (P : Nat → Prop) (v : Value) (n : Nat) (xs : List Value) (h : Sl w P 5 v n xs) (h1 : ∀ u ∈ xs, u.oneCell' = true) (hb : n * 56 ≤ 140737488355328) :
    Calls Try.prog 34 #[v] w (CloneO w 57 5 n xs) := by
  obtain ⟨i0, hi0, hz0, hz1, hz2⟩ := info_parts info_exp
  have hm : 0 + n ≤ maxLen := by obtain ⟨A, c, _, k1, k2⟩ := h.form; omega
  have H := Lib.hid h
  have hl := Lib.hid h.len
  obtain ⟨A, c, rfl, k1, k2⟩ := h.form
  clear h k1 k2
  cases A with
  | none =>
    clear hi0 hz0 hz1 hz2 hb hm h1
    have he := fun (w : World) => Lib.run_eql_slice_nil (P := Try.prog) w 37 57 none n c 0 0 Try.underlying37
    go_enter Try.func34, Try.ntmps34
    go_wp2_with fail
    go_ret
    have h0 : xs = [] := by
      obtain ⟨A, c, e, _, _, _, hc⟩ := H.out
      cases xs with
      | nil => rfl
      | cons x l =>
        obtain ⟨b, off, e', _, _⟩ := hc 0 x rfl
        subst e'
        injection e with e
        cases e
    subst h0
    have hn : n = 0 := by have := hl.out; simp at this; omega
    subst hn
    exact ⟨_, rfl, Wr.refl _ _, World.ownsRow_nil w _ _ _⟩
  | some ad =>
    obtain ⟨v1, w1, hrun, hown, hg, hat⟩ := run_append_sl (P := Try.prog) (w.alloc (.cells #[] 57)) w.heap.size 37 37 57 i0 _ 5 56 Try.underlying37 hi0 hz0 hz1 hz2 rfl (by omega)
      (.slice (some ⟨w.heap.size, 0, none⟩) 0 0) 0 [] (World.ownsRow_made w #[] 0 (Nat.le_refl _) (by simp) rfl) P (.slice (some ad) n c) n xs (H.out.wr0 ((Wr.refl _ _).alloc _)) h1 hm (by omega) (by simp)
    simp only [Nat.zero_add, List.nil_append] at hown
    have HG := Lib.hid hg
    have HO := Lib.hid hown
    clear hi0 hz0 hz1 hz2 hm hb h1 hg hat hown
    have he := fun (w : World) => Lib.run_eql_slice_nil (P := Try.prog) w 37 57 (some ad) n c 0 0 Try.underlying37
    go_enter Try.func34, Try.ntmps34
    go_wp2_with (at_builtin; refine wpList_append_run rfl _ _ _ rfl _ _ rfl rfl _ _ hrun ?_)
    go_ret
    refine ⟨_, rfl, ?_, HO.out⟩
    exact ((Wr.refl [] w).alloc _).trans' (Wr.ofGrown HG.out (l := [w.heap.size]) (fun k hk => by simp [Value.ownBlock] at hk; simp [hk])) (fun x hx => .inr (by simp at hx; omega))
theorem clone_exp (w : World) (P : Nat → Prop) (v : Value) (n : Nat) (xs : List Value) (h : Sl w P 5 v n xs) (h1 : ∀ u ∈ xs, u.oneCell' = true) (hb : n * 56 ≤ 140737488355328) :
    Calls Try.prog 34 #[v] w (CloneP w 5 n xs) := (cloneO_exp w P v n xs h h1 hb).mono fun _ _ k => k.toP

end Go.Proofs.Ytjanbpchedgoiaa
