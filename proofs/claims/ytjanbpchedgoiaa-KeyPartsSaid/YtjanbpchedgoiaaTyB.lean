/- slices.Clone, walked at five kinds of lists. Conditions: what is copied takes no more room than an address can reach. -/
import Derived.Test.YtjanbpchedgoiaaTyA
namespace Go.Proofs.Ytjanbpchedgoiaa
open Go.RowKit
set_option linter.unusedVariables false
set_option linter.unusedSimpArgs false

/-- A copy, in memory of its own. -/
def CloneP (w : World) (size n : Nat) (xs : List Value) (e : Ending) (w' : World) : Prop := ∃ v', e = .returned v' ∧ Wr [] w w' ∧ Sl w' (fun b => w.heap.size ≤ b) size v' n xs
/-- The same, of a row of the call's own. -/
def CloneO (w : World) (t : TypeId) (size n : Nat) (xs : List Value) (e : Ending) (w' : World) : Prop := ∃ v', e = .returned v' ∧ Wr [] w w' ∧ w'.ownsRow w.heap.size t size v' n xs
theorem CloneO.toP {w w' : World} {t : TypeId} {size n : Nat} {xs : List Value} {e : Ending} (h : CloneO w t size n xs e w') : CloneP w size n xs e w' := by
  obtain ⟨v', he, r, ho⟩ := h
  exact ⟨v', he, r, Sl.ofOwn ho fun b hb => (ho.lt b hb).1⟩

theorem info_str : (Try.prog.info? 9).map (fun i => (i.zero, i.size, i.bytes)) = some (some (.string ⟨#[]⟩), 1, 16) := by kernel_rfl
set_option maxHeartbeats 400000 in
theorem cloneO_str (w : World) (P : Nat → Prop) (v : Value) (n : Nat) (xs : List Value) (h : Sl w P 1 v n xs) (h1 : ∀ u ∈ xs, u.oneCell' = true) (hb : n * 16 ≤ 140737488355328) :
    Calls Try.prog 35 #[v] w (CloneO w 9 1 n xs) := by
  obtain ⟨i0, hi0, hz0, hz1, hz2⟩ := info_parts info_str
  have hm : 0 + n ≤ maxLen := by obtain ⟨A, c, _, k1, k2⟩ := h.form; omega
  have H := Lib.hid h
  have hl := Lib.hid h.len
  obtain ⟨A, c, rfl, k1, k2⟩ := h.form
  clear h k1 k2
  cases A with
  | none =>
    clear hi0 hz0 hz1 hz2 hb hm h1
    have he := fun (w : World) => Lib.run_eql_slice_nil (P := Try.prog) w 50 9 none n c 0 0 Try.underlying50
    go_enter Try.func35, Try.ntmps35
    go_wp2_with fail
    go_ret
    have h0 : xs = [] := by
      obtain ⟨A, c, e, _, _, _, hc⟩ := H.out
      cases xs with
      | nil => rfl
      | cons x l =>
        obtain ⟨b, off, e', _, _⟩ := hc 0 x rfl
        subst e'
        injection e with e
        cases e
    subst h0
    have hn : n = 0 := by have := hl.out; simp at this; omega
    subst hn
    exact ⟨_, rfl, Wr.refl _ _, World.ownsRow_nil w _ _ _⟩
  | some ad =>
    obtain ⟨v1, w1, hrun, hown, hg, hat⟩ := run_append_sl (P := Try.prog) (w.alloc (.cells #[] 9)) w.heap.size 50 50 9 i0 _ 1 16 Try.underlying50 hi0 hz0 hz1 hz2 rfl (by omega)
      (.slice (some ⟨w.heap.size, 0, none⟩) 0 0) 0 [] (World.ownsRow_made w #[] 0 (Nat.le_refl _) (by simp) rfl) P (.slice (some ad) n c) n xs (H.out.wr0 ((Wr.refl _ _).alloc _)) h1 hm (by omega) (by simp)
    simp only [Nat.zero_add, List.nil_append] at hown
    have HG := Lib.hid hg
    have HO := Lib.hid hown
    clear hi0 hz0 hz1 hz2 hm hb h1 hg hat hown
    have he := fun (w : World) => Lib.run_eql_slice_nil (P := Try.prog) w 50 9 (some ad) n c 0 0 Try.underlying50
    go_enter Try.func35, Try.ntmps35
    go_wp2_with (at_builtin; refine wpList_append_run rfl _ _ _ rfl _ _ rfl rfl _ _ hrun ?_)
    go_ret
    refine ⟨_, rfl, ?_, HO.out⟩
    exact ((Wr.refl [] w).alloc _).trans' (Wr.ofGrown HG.out (l := [w.heap.size]) (fun k hk => by simp [Value.ownBlock] at hk; simp [hk])) (fun x hx => .inr (by simp at hx; omega))
theorem clone_str (w : World) (P : Nat → Prop) (v : Value) (n : Nat) (xs : List Value) (h : Sl w P 1 v n xs) (h1 : ∀ u ∈ xs, u.oneCell' = true) (hb : n * 16 ≤ 140737488355328) :
    Calls Try.prog 35 #[v] w (CloneP w 1 n xs) := (cloneO_str w P v n xs h h1 hb).mono fun _ _ k => k.toP

theorem info_fld : (Try.prog.info? 75).map (fun i => (i.zero, i.size, i.bytes)) = some (some (.agg #[.string ⟨#[]⟩, .int .i64 0, .int .i64 0]), 3, 32) := by kernel_rfl
set_option maxHeartbeats 400000 in
theorem cloneO_fld (w : World) (P : Nat → Prop) (v : Value) (n : Nat) (xs : List Value) (h : Sl w P 3 v n xs) (h1 : ∀ u ∈ xs, u.oneCell' = true) (hb : n * 32 ≤ 140737488355328) :
    Calls Try.prog 36 #[v] w (CloneO w 75 3 n xs) := by
  obtain ⟨i0, hi0, hz0, hz1, hz2⟩ := info_parts info_fld
  have hm : 0 + n ≤ maxLen := by obtain ⟨A, c, _, k1, k2⟩ := h.form; omega
  have H := Lib.hid h
  have hl := Lib.hid h.len
  obtain ⟨A, c, rfl, k1, k2⟩ := h.form
  clear h k1 k2
  cases A with
  | none =>
    clear hi0 hz0 hz1 hz2 hb hm h1
    have he := fun (w : World) => Lib.run_eql_slice_nil (P := Try.prog) w 51 75 none n c 0 0 Try.underlying51
    go_enter Try.func36, Try.ntmps36
    go_wp2_with fail
    go_ret
    have h0 : xs = [] := by
      obtain ⟨A, c, e, _, _, _, hc⟩ := H.out
      cases xs with
      | nil => rfl
      | cons x l =>
        obtain ⟨b, off, e', _, _⟩ := hc 0 x rfl
        subst e'
        injection e with e
        cases e
    subst h0
    have hn : n = 0 := by have := hl.out; simp at this; omega
    subst hn
    exact ⟨_, rfl, Wr.refl _ _, World.ownsRow_nil w _ _ _⟩
  | some ad =>
    obtain ⟨v1, w1, hrun, hown, hg, hat⟩ := run_append_sl (P := Try.prog) (w.alloc (.cells #[] 75)) w.heap.size 51 51 75 i0 _ 3 32 Try.underlying51 hi0 hz0 hz1 hz2 rfl (by omega)
      (.slice (some ⟨w.heap.size, 0, none⟩) 0 0) 0 [] (World.ownsRow_made w #[] 0 (Nat.le_refl _) (by simp) rfl) P (.slice (some ad) n c) n xs (H.out.wr0 ((Wr.refl _ _).alloc _)) h1 hm (by omega) (by simp)
    simp only [Nat.zero_add, List.nil_append] at hown
    have HG := Lib.hid hg
    have HO := Lib.hid hown
    clear hi0 hz0 hz1 hz2 hm hb h1 hg hat hown
    have he := fun (w : World) => Lib.run_eql_slice_nil (P := Try.prog) w 51 75 (some ad) n c 0 0 Try.underlying51
    go_enter Try.func36, Try.ntmps36
    go_wp2_with (at_builtin; refine wpList_append_run rfl _ _ _ rfl _ _ rfl rfl _ _ hrun ?_)
    go_ret
    refine ⟨_, rfl, ?_, HO.out⟩
    exact ((Wr.refl [] w).alloc _).trans' (Wr.ofGrown HG.out (l := [w.heap.size]) (fun k hk => by simp [Value.ownBlock] at hk; simp [hk])) (fun x hx => .inr (by simp at hx; omega))
theorem clone_fld (w : World) (P : Nat → Prop) (v : Value) (n : Nat) (xs : List Value) (h : Sl w P 3 v n xs) (h1 : ∀ u ∈ xs, u.oneCell' = true) (hb : n * 32 ≤ 140737488355328) :
    Calls Try.prog 36 #[v] w (CloneP w 3 n xs) := (cloneO_fld w P v n xs h h1 hb).mono fun _ _ k => k.toP

theorem info_par : (Try.prog.info? 77).map (fun i => (i.zero, i.size, i.bytes)) = some (some (.agg #[.bool false, .int .i64 0]), 2, 16) := by kernel_rfl
set_option maxHeartbeats 400000 in
theorem cloneO_par (w : World) (P : Nat → Prop) (v : Value) (n : Nat) (xs : List Value) (h : Sl w P 2 v n xs) (h1 : ∀ u ∈ xs, u.oneCell' = true) (hb : n * 16 ≤ 140737488355328) :
    Calls Try.prog 38 #[v] w (CloneO w 77 2 n xs) := by
  obtain ⟨i0, hi0, hz0, hz1, hz2⟩ := info_parts info_par
  have hm : 0 + n ≤ maxLen := by obtain ⟨A, c, _, k1, k2⟩ := h.form; omega
  have H := Lib.hid h
  have hl := Lib.hid h.len
  obtain ⟨A, c, rfl, k1, k2⟩ := h.form
  clear h k1 k2
  cases A with
  | none =>
    clear hi0 hz0 hz1 hz2 hb hm h1
    have he := fun (w : World) => Lib.run_eql_slice_nil (P := Try.prog) w 53 77 none n c 0 0 Try.underlying53
    go_enter Try.func38, Try.ntmps38
    go_wp2_with fail
    go_ret
    have h0 : xs = [] := by
      obtain ⟨A, c, e, _, _, _, hc⟩ := H.out
      cases xs with
      | nil => rfl
      | cons x l =>
        obtain ⟨b, off, e', _, _⟩ := hc 0 x rfl
        subst e'
        injection e with e
        cases e
    subst h0
    have hn : n = 0 := by have := hl.out; simp at this; omega
    subst hn
    exact ⟨_, rfl, Wr.refl _ _, World.ownsRow_nil w _ _ _⟩
  | some ad =>
    obtain ⟨v1, w1, hrun, hown, hg, hat⟩ := run_append_sl (P := Try.prog) (w.alloc (.cells #[] 77)) w.heap.size 53 53 77 i0 _ 2 16 Try.underlying53 hi0 hz0 hz1 hz2 rfl (by omega)
      (.slice (some ⟨w.heap.size, 0, none⟩) 0 0) 0 [] (World.ownsRow_made w #[] 0 (Nat.le_refl _) (by simp) rfl) P (.slice (some ad) n c) n xs (H.out.wr0 ((Wr.refl _ _).alloc _)) h1 hm (by omega) (by simp)
    simp only [Nat.zero_add, List.nil_append] at hown
    have HG := Lib.hid hg
    have HO := Lib.hid hown
    clear hi0 hz0 hz1 hz2 hm hb h1 hg hat hown
    have he := fun (w : World) => Lib.run_eql_slice_nil (P := Try.prog) w 53 77 (some ad) n c 0 0 Try.underlying53
    go_enter Try.func38, Try.ntmps38
    go_wp2_with (at_builtin; refine wpList_append_run rfl _ _ _ rfl _ _ rfl rfl _ _ hrun ?_)
    go_ret
    refine ⟨_, rfl, ?_, HO.out⟩
    exact ((Wr.refl [] w).alloc _).trans' (Wr.ofGrown HG.out (l := [w.heap.size]) (fun k hk => by simp [Value.ownBlock] at hk; simp [hk])) (fun x hx => .inr (by simp at hx; omega))
theorem clone_par (w : World) (P : Nat → Prop) (v : Value) (n : Nat) (xs : List Value) (h : Sl w P 2 v n xs) (h1 : ∀ u ∈ xs, u.oneCell' = true) (hb : n * 16 ≤ 140737488355328) :
    Calls Try.prog 38 #[v] w (CloneP w 2 n xs) := (cloneO_par w P v n xs h h1 hb).mono fun _ _ k => k.toP

theorem info_i64 : (Try.prog.info? 2).map (fun i => (i.zero, i.size, i.bytes)) = some (some (.int .i64 0), 1, 8) := by kernel_rfl
set_option maxHeartbeats 400000 in
theorem cloneO_i64 (w : World) (P : Nat → Prop) (v : Value) (n : Nat) (xs : List Value) (h : Sl w P 1 v n xs) (h1 : ∀ u ∈ xs, u.oneCell' = true) (hb : n * 8 ≤ 140737488355328) :
    Calls Try.prog 39 #[v] w (CloneO w 2 1 n xs) := by
  obtain ⟨i0, hi0, hz0, hz1, hz2⟩ := info_parts info_i64
  have hm : 0 + n ≤ maxLen := by obtain ⟨A, c, _, k1, k2⟩ := h.form; omega
  have H := Lib.hid h
  have hl := Lib.hid h.len
  obtain ⟨A, c, rfl, k1, k2⟩ := h.form
  clear h k1 k2
  cases A with
  | none =>
    clear hi0 hz0 hz1 hz2 hb hm h1
    have he := fun (w : World) => Lib.run_eql_slice_nil (P := Try.prog) w 91 2 none n c 0 0 Try.underlying91
    go_enter Try.func39, Try.ntmps39
    go_wp2_with fail
    go_ret
    have h0 : xs = [] := by
      obtain ⟨A, c, e, _, _, _, hc⟩ := H.out
      cases xs with
      | nil => rfl
      | cons x l =>
        obtain ⟨b, off, e', _, _⟩ := hc 0 x rfl
        subst e'
        injection e with e
        cases e
    subst h0
    have hn : n = 0 := by have := hl.out; simp at this; omega
    subst hn
    exact ⟨_, rfl, Wr.refl _ _, World.ownsRow_nil w _ _ _⟩
  | some ad =>
    obtain ⟨v1, w1, hrun, hown, hg, hat⟩ := run_append_sl (P := Try.prog) (w.alloc (.cells #[] 2)) w.heap.size 91 91 2 i0 _ 1 8 Try.underlying91 hi0 hz0 hz1 hz2 rfl (by omega)
      (.slice (some ⟨w.heap.size, 0, none⟩) 0 0) 0 [] (World.ownsRow_made w #[] 0 (Nat.le_refl _) (by simp) rfl) P (.slice (some ad) n c) n xs (H.out.wr0 ((Wr.refl _ _).alloc _)) h1 hm (by omega) (by simp)
    simp only [Nat.zero_add, List.nil_append] at hown
    have HG := Lib.hid hg
    have HO := Lib.hid hown
    clear hi0 hz0 hz1 hz2 hm hb h1 hg hat hown
    have he := fun (w : World) => Lib.run_eql_slice_nil (P := Try.prog) w 91 2 (some ad) n c 0 0 Try.underlying91
    go_enter Try.func39, Try.ntmps39
    go_wp2_with (at_builtin; refine wpList_append_run rfl _ _ _ rfl _ _ rfl rfl _ _ hrun ?_)
    go_ret
    refine ⟨_, rfl, ?_, HO.out⟩
    exact ((Wr.refl [] w).alloc _).trans' (Wr.ofGrown HG.out (l := [w.heap.size]) (fun k hk => by simp [Value.ownBlock] at hk; simp [hk])) (fun x hx => .inr (by simp at hx; omega))
theorem clone_i64 (w : World) (P : Nat → Prop) (v : Value) (n : Nat) (xs : List Value) (h : Sl w P 1 v n xs) (h1 : ∀ u ∈ xs, u.oneCell' = true) (hb : n * 8 ≤ 140737488355328) :
    Calls Try.prog 39 #[v] w (CloneP w 1 n xs) := (cloneO_i64 w P v n xs h h1 hb).mono fun _ _ k => k.toP

theorem info_arm : (Try.prog.info? 93).map (fun i => (i.zero, i.size, i.bytes)) = some (some (.agg #[.slice none 0 0, .slice none 0 0, .bool false]), 3, 56) := by kernel_rfl
set_option maxHeartbeats 400000 in
theorem cloneO_arm (w : World) (P : Nat → Prop) (v : Value) (n : Nat) (xs : List Value) (h : Sl w P 3 v n xs) (h1 : ∀ u ∈ xs, u.oneCell' = true) (hb : n * 56 ≤ 140737488355328) :
    Calls Try.prog 37 #[v] w (CloneO w 93 3 n xs) := by
  obtain ⟨i0, hi0, hz0, hz1, hz2⟩ := info_parts info_arm
  have hm : 0 + n ≤ maxLen := by obtain ⟨A, c, _, k1, k2⟩ := h.form; omega
  have H := Lib.hid h
  have hl := Lib.hid h.len
  obtain ⟨A, c, rfl, k1, k2⟩ := h.form
  clear h k1 k2
  cases A with
  | none =>
    clear hi0 hz0 hz1 hz2 hb hm h1
    have he := fun (w : World) => Lib.run_eql_slice_nil (P := Try.prog) w 52 93 none n c 0 0 Try.underlying52
    go_enter Try.func37, Try.ntmps37
    go_wp2_with fail
    go_ret
    have h0 : xs = [] := by
      obtain ⟨A, c, e, _, _, _, hc⟩ := H.out
      cases xs with
      | nil => rfl
      | cons x l =>
        obtain ⟨b, off, e', _, _⟩ := hc 0 x rfl
        subst e'
        injection e with e
        cases e
    subst h0
    have hn : n = 0 := by have := hl.out; simp at this; omega
    subst hn
    exact ⟨_, rfl, Wr.refl _ _, World.ownsRow_nil w _ _ _⟩
  | some ad =>
    obtain ⟨v1, w1, hrun, hown, hg, hat⟩ := run_append_sl (P := Try.prog) (w.alloc (.cells #[] 93)) w.heap.size 52 52 93 i0 _ 3 56 Try.underlying52 hi0 hz0 hz1 hz2 rfl (by omega)
      (.slice (some ⟨w.heap.size, 0, none⟩) 0 0) 0 [] (World.ownsRow_made w #[] 0 (Nat.le_refl _) (by simp) rfl) P (.slice (some ad) n c) n xs (H.out.wr0 ((Wr.refl _ _).alloc _)) h1 hm (by omega) (by simp)
    simp only [Nat.zero_add, List.nil_append] at hown
    have HG := Lib.hid hg
    have HO := Lib.hid hown
    clear hi0 hz0 hz1 hz2 hm hb h1 hg hat hown
    have he := fun (w : World) => Lib.run_eql_slice_nil (P := Try.prog) w 52 93 (some ad) n c 0 0 Try.underlying52
    go_enter Try.func37, Try.ntmps37
    go_wp2_with (at_builtin; refine wpList_append_run rfl _ _ _ rfl _ _ rfl rfl _ _ hrun ?_)
    go_ret
    refine ⟨_, rfl, ?_, HO.out⟩
    exact ((Wr.refl [] w).alloc _).trans' (Wr.ofGrown HG.out (l := [w.heap.size]) (fun k hk => by simp [Value.ownBlock] at hk; simp [hk])) (fun x hx => .inr (by simp at hx; omega))
theorem clone_arm (w : World) (P : Nat → Prop) (v : Value) (n : Nat) (xs : List Value) (h : Sl w P 3 v n xs) (h1 : ∀ u ∈ xs, u.oneCell' = true) (hb : n * 56 ≤ 140737488355328) :
    Calls Try.prog 37 #[v] w (CloneP w 3 n xs) := (cloneO_arm w P v n xs h h1 hb).mono fun _ _ k => k.toP

end Go.Proofs.Ytjanbpchedgoiaa
