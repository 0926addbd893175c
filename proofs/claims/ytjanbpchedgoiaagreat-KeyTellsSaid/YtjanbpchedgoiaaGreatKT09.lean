/- slices.Clone of uses, types, items: walked. Conditions: what is copied takes no more room than an address can reach. -/
import Derived.Test.YtjanbpchedgoiaaGreatKT03
import Derived.Test.YtjanbpchedgoiaaGreatKT08
set_option linter.unusedVariables false
set_option linter.unusedSimpArgs false
set_option maxRecDepth 100000
set_option maxHeartbeats 32000000
namespace Go.Proofs.YtjanbpchedgoiaaGreat
open Go.RowKit
theorem info_use : (Tryz.prog.info? 45).map (fun i => (i.zero, i.size, i.bytes)) = some (some (.agg #[.string ⟨#[]⟩, .int .u64 0]), 2, 24) := by kernel_rfl
theorem cloneO_use (w : World) (P : Nat → Prop) (v : Value) (n : Nat) (xs : List Value) (h : Sl w P 2 v n xs) (h1 : ∀ u ∈ xs, u.oneCell' = true) (hb : n * 24 ≤ 140737488355328) :
  Calls Tryz.prog 45 #[v] w (CloneO w 45 2 n xs) := by
 obtain ⟨i0, hi0, hz0, hz1, hz2⟩ := info_parts info_use
 have hm : 0 + n ≤ maxLen := by obtain ⟨A, c, _, k1, k2⟩ := h.form; omega
 have H := qh h
 have hl := qh h.len
 obtain ⟨A, c, rfl, k1, k2⟩ := h.form
 clear h k1 k2
 cases A with
 | none =>
  clear hi0 hz0 hz1 hz2 hb hm h1
  have he := fun (w : World) => Lib.run_eql_slice_nil (P := Tryz.prog) w 23 45 none n c 0 0 Tryz.underlying23
  go_enter Tryz.func45, Tryz.ntmps45
  go_wp2_with fail
  go_ret
  have h0 : xs = [] := by
   obtain ⟨A, c, e, _, _, _, hc⟩ := H.out
   cases xs with
   | nil => rfl
   | cons x l =>
    obtain ⟨b, off, e', _, _⟩ := hc 0 x rfl
    subst e'
    injection e with e
    cases e
  subst h0
  have hn : n = 0 := by have := hl.out; simp at this; omega
  subst hn
  exact ⟨_, rfl, Wr.refl _ _, World.ownsRow_nil w _ _ _⟩
 | some ad =>
  obtain ⟨v1, w1, hrun, hown, hg, hat⟩ := run_append_sl (P := Tryz.prog) (w.alloc (.cells #[] 45)) w.heap.size 23 23 45 i0 _ 2 24 Tryz.underlying23 hi0 hz0 hz1 hz2 rfl (by omega)
   (.slice (some ⟨w.heap.size, 0, none⟩) 0 0) 0 [] (World.ownsRow_made w #[] 0 (Nat.le_refl _) (by simp) rfl) P (.slice (some ad) n c) n xs (H.out.wr0 ((Wr.refl _ _).alloc _)) h1 hm (by omega) (by simp)
  simp only [Nat.zero_add, List.nil_append] at hown
  have HG := qh hg
  have HO := qh hown
  clear hi0 hz0 hz1 hz2 hm hb h1 hg hat hown
  have he := fun (w : World) => Lib.run_eql_slice_nil (P := Tryz.prog) w 23 45 (some ad) n c 0 0 Tryz.underlying23
  go_enter Tryz.func45, Tryz.ntmps45
  go_wp2_with (at_builtin; refine wpList_append_run rfl _ _ _ rfl _ _ rfl rfl _ _ hrun ?_)
  go_ret
  refine ⟨_, rfl, ?_, HO.out⟩
  exact ((Wr.refl [] w).alloc _).trans' (Wr.ofGrown HG.out (l := [w.heap.size]) (fun k hk => by simp [Value.ownBlock] at hk; simp [hk])) (fun x hx => .inr (by simp at hx; omega))
theorem info_typ : (Tryz.prog.info? 52).map (fun i => (i.zero, i.size, i.bytes)) = some (some (.agg #[.int .u8 0, .string ⟨#[]⟩, .string ⟨#[]⟩, .int .i64 0, .int .i64 0, .int .i64 0, .int .i64 0, .slice none 0 0, .slice none 0 0, .slice none 0 0, .slice none 0 0, .int .i64 0]), 12, 176) := by kernel_rfl
theorem cloneO_typ (w : World) (P : Nat → Prop) (v : Value) (n : Nat) (xs : List Value) (h : Sl w P 12 v n xs) (h1 : ∀ u ∈ xs, u.oneCell' = true) (hb : n * 176 ≤ 140737488355328) :
  Calls Tryz.prog 46 #[v] w (CloneO w 52 12 n xs) := by
 obtain ⟨i0, hi0, hz0, hz1, hz2⟩ := info_parts info_typ
 have hm : 0 + n ≤ maxLen := by obtain ⟨A, c, _, k1, k2⟩ := h.form; omega
 have H := qh h
 have hl := qh h.len
 obtain ⟨A, c, rfl, k1, k2⟩ := h.form
 clear h k1 k2
 cases A with
 | none =>
  clear hi0 hz0 hz1 hz2 hb hm h1
  have he := fun (w : World) => Lib.run_eql_slice_nil (P := Tryz.prog) w 24 52 none n c 0 0 Tryz.underlying24
  go_enter Tryz.func46, Tryz.ntmps46
  go_wp2_with fail
  go_ret
  have h0 : xs = [] := by
   obtain ⟨A, c, e, _, _, _, hc⟩ := H.out
   cases xs with
   | nil => rfl
   | cons x l =>
    obtain ⟨b, off, e', _, _⟩ := hc 0 x rfl
    subst e'
    injection e with e
    cases e
  subst h0
  have hn : n = 0 := by have := hl.out; simp at this; omega
  subst hn
  exact ⟨_, rfl, Wr.refl _ _, World.ownsRow_nil w _ _ _⟩
 | some ad =>
  obtain ⟨v1, w1, hrun, hown, hg, hat⟩ := run_append_sl (P := Tryz.prog) (w.alloc (.cells #[] 52)) w.heap.size 24 24 52 i0 _ 12 176 Tryz.underlying24 hi0 hz0 hz1 hz2 rfl (by omega)
   (.slice (some ⟨w.heap.size, 0, none⟩) 0 0) 0 [] (World.ownsRow_made w #[] 0 (Nat.le_refl _) (by simp) rfl) P (.slice (some ad) n c) n xs (H.out.wr0 ((Wr.refl _ _).alloc _)) h1 hm (by omega) (by simp)
  simp only [Nat.zero_add, List.nil_append] at hown
  have HG := qh hg
  have HO := qh hown
  clear hi0 hz0 hz1 hz2 hm hb h1 hg hat hown
  have he := fun (w : World) => Lib.run_eql_slice_nil (P := Tryz.prog) w 24 52 (some ad) n c 0 0 Tryz.underlying24
  go_enter Tryz.func46, Tryz.ntmps46
  go_wp2_with (at_builtin; refine wpList_append_run rfl _ _ _ rfl _ _ rfl rfl _ _ hrun ?_)
  go_ret
  refine ⟨_, rfl, ?_, HO.out⟩
  exact ((Wr.refl [] w).alloc _).trans' (Wr.ofGrown HG.out (l := [w.heap.size]) (fun k hk => by simp [Value.ownBlock] at hk; simp [hk])) (fun x hx => .inr (by simp at hx; omega))
theorem info_exp : (Tryz.prog.info? 59).map (fun i => (i.zero, i.size, i.bytes)) = some (some (.agg #[.string ⟨#[]⟩, .int .u8 0, .int .i64 0, .nilIface, .int .i64 0]), 5, 56) := by kernel_rfl
theorem cloneO_exp (w : World) (P : Nat → Prop) (v : Value) (n : Nat) (xs : List Value) (h : Sl w P 5 v n xs) (h1 : ∀ u ∈ xs, u.oneCell' = true) (hb : n * 56 ≤ 140737488355328) :
  Calls Tryz.prog 47 #[v] w (CloneO w 59 5 n xs) := by
 obtain ⟨i0, hi0, hz0, hz1, hz2⟩ := info_parts info_exp
 have hm : 0 + n ≤ maxLen := by obtain ⟨A, c, _, k1, k2⟩ := h.form; omega
 have H := qh h
 have hl := qh h.len
 obtain ⟨A, c, rfl, k1, k2⟩ := h.form
 clear h k1 k2
 cases A with
 | none =>
  clear hi0 hz0 hz1 hz2 hb hm h1
  have he := fun (w : World) => Lib.run_eql_slice_nil (P := Tryz.prog) w 33 59 none n c 0 0 Tryz.underlying33
  go_enter Tryz.func47, Tryz.ntmps47
  go_wp2_with fail
  go_ret
  have h0 : xs = [] := by
   obtain ⟨A, c, e, _, _, _, hc⟩ := H.out
   cases xs with
   | nil => rfl
   | cons x l =>
    obtain ⟨b, off, e', _, _⟩ := hc 0 x rfl
    subst e'
    injection e with e
    cases e
  subst h0
  have hn : n = 0 := by have := hl.out; simp at this; omega
  subst hn
  exact ⟨_, rfl, Wr.refl _ _, World.ownsRow_nil w _ _ _⟩
 | some ad =>
  obtain ⟨v1, w1, hrun, hown, hg, hat⟩ := run_append_sl (P := Tryz.prog) (w.alloc (.cells #[] 59)) w.heap.size 33 33 59 i0 _ 5 56 Tryz.underlying33 hi0 hz0 hz1 hz2 rfl (by omega)
   (.slice (some ⟨w.heap.size, 0, none⟩) 0 0) 0 [] (World.ownsRow_made w #[] 0 (Nat.le_refl _) (by simp) rfl) P (.slice (some ad) n c) n xs (H.out.wr0 ((Wr.refl _ _).alloc _)) h1 hm (by omega) (by simp)
  simp only [Nat.zero_add, List.nil_append] at hown
  have HG := qh hg
  have HO := qh hown
  clear hi0 hz0 hz1 hz2 hm hb h1 hg hat hown
  have he := fun (w : World) => Lib.run_eql_slice_nil (P := Tryz.prog) w 33 59 (some ad) n c 0 0 Tryz.underlying33
  go_enter Tryz.func47, Tryz.ntmps47
  go_wp2_with (at_builtin; refine wpList_append_run rfl _ _ _ rfl _ _ rfl rfl _ _ hrun ?_)
  go_ret
  refine ⟨_, rfl, ?_, HO.out⟩
  exact ((Wr.refl [] w).alloc _).trans' (Wr.ofGrown HG.out (l := [w.heap.size]) (fun k hk => by simp [Value.ownBlock] at hk; simp [hk])) (fun x hx => .inr (by simp at hx; omega))
def recL : List Value := [.int .u8 12, .string ⟨#[]⟩, .string ⟨#[]⟩, .int .i64 0, .int .i64 0, .int .i64 0, .int .i64 0, .slice none 0 0, .slice none 0 0, .slice none 0 0, .slice none 0 0, .int .i64 0]
def cjV (q g : Nat) : Nat → Value
 | 0 => .pointer (some ⟨g, 1, none⟩)
 | 3 => .pointer (some ⟨g, 2, none⟩)
 | 6 => .pointer (some ⟨g, 3, none⟩)
 | 9 => .pointer (some ⟨g, 1, none⟩)
 | 11 => .pointer (some ⟨g, 2, none⟩)
 | 13 => .pointer (some ⟨g, 3, none⟩)
 | 10 => undef
 | 12 => undef
 | 14 => undef
 | 4 => .slice (some ⟨q, 0, none⟩) 1 1
 | _ => .slice none 0 0
def cjB (q : Nat) (σ : Nat → Value) (l : Array Bool) : Value := if lst l 12 = true then σ 5 else .slice (some ⟨q, 0, none⟩) 1 1
structure CjI (m : ByteArray) (q : Nat) (wd : World) (g : Nat) (σ : Nat → Value) (l : Array Bool) (w' : World) : Prop where
 v : ∀ j, j ≠ 5 → lst l j = true → σ j = cjV q g j
 o : lst l 12 = true → lst l 5 = true
 o4 : lst l 5 = true → lst l 4 = true
 t : lst l 5 = true → w'.ownsRow wd.heap.size 52 12 (σ 5) 1 recL
 s : Blk w' q 52 recL.toArray
 b : Blk w' g 35 #[.string m, .slice none 0 0, cjB q σ l, .slice none 0 0]
 acc : Wr [g] wd w'
section
variable {m : ByteArray} {q : Nat} {wd : World} {g : Nat} {σ : Nat → Value} {l : Array Bool} {w1 w2 : World}
theorem own_wr {b : Nat} {T : TypeId} {z n : Nat} {v : Value} {xs : List Value} {ls : List Nat} (h : w1.ownsRow b T z v n xs) (r : Wr ls w1 w2) (hl : ∀ x ∈ ls, x < b) : w2.ownsRow b T z v n xs := by
 refine ⟨h.1, ?_⟩
 rcases h.2 with hn | ⟨g, cap, cur, rfl, hb, hgg, rest⟩
 ·exact .inl hn
 ·exact .inr ⟨g, cap, cur, rfl, hb, Blk.wr (show Blk w1 g T cur from hgg) r (fun h => by have := hl g h; omega), rest⟩
theorem CjI.quiet (h : CjI m q wd g σ l w1) (hz : l.size = 15) (i : Nat) (hi : i ≠ 5 ∧ i ≠ 12) (r : Wr [] w1 w2) : CjI m q wd g (upd σ i (cjV q g i)) (l.setIfInBounds i true) w2 := by
 have e5 : lst (l.setIfInBounds i true) 5 = lst l 5 := lst_ne (fun e => hi.1 e.symm)
 have e12 : lst (l.setIfInBounds i true) 12 = lst l 12 := lst_ne (fun e => hi.2 e.symm)
 have u5 : upd σ i (cjV q g i) 5 = σ 5 := upd_ne σ _ (fun e => hi.1 e.symm)
 refine ⟨fun j h5 hj => ?_, fun h12 => ?_, fun h5 => ?_, fun h5 => ?_, h.s.wr0 r, ?_, h.acc.trans' r (by simp)⟩
 ·by_cases hji : j = i
  ·subst hji
   exact upd_same _ _ _
  ·rw [upd_ne σ _ hji]
   rw [lst_ne hji] at hj
   exact h.v j h5 hj
 ·rw [e5]; rw [e12] at h12; exact h.o h12
 ·rw [e5] at h5
  by_cases h4 : 4 = i
  ·subst h4
   exact lst_same (by omega)
  ·rw [lst_ne h4]
   exact h.o4 h5
 ·rw [u5]; rw [e5] at h5; exact own_wr (h.t h5) r (by simp)
 ·unfold cjB
  rw [e12, u5]
  exact h.b.wr0 r
theorem own_base {b b' : Nat} {T : TypeId} {z n : Nat} {v : Value} {xs : List Value} (h : w1.ownsRow b T z v n xs) (hb : b' ≤ b) : w1.ownsRow b' T z v n xs := by
 refine ⟨h.1, ?_⟩
 rcases h.2 with hn | ⟨g, cap, cur, rfl, hb', rest⟩
 ·exact .inl hn
 ·exact .inr ⟨g, cap, cur, rfl, by omega, rest⟩
theorem CjI.no12 (h : CjI m q wd g σ l w1) (hl : lst l 4 = false) : lst l 12 = false := by
 cases h12 : lst l 12 with
 | false => rfl
 | true =>
  rw [h.o4 (h.o h12)] at hl
  cases hl
theorem CjI.called (h : CjI m q wd g σ l w1) (hz : l.size = 15) (hl : lst l 5 = false) (h4 : lst l 4 = true) (r : Wr [] w1 w2) {vt : Value} (ho : w2.ownsRow w1.heap.size 52 12 vt 1 recL) : CjI m q wd g (upd σ 5 vt) (l.setIfInBounds 5 true) w2 := by
 have n12 : lst l 12 = false := by
  cases h12 : lst l 12 with
  | false => rfl
  | true =>
   rw [h.o h12] at hl
   cases hl
 have e12 : lst (l.setIfInBounds 5 true) 12 = false := by rw [lst_ne (by decide)]; exact n12
 refine ⟨fun j h5 hj => ?_, fun h12 => ?_, fun h5 => ?_, fun _ => ?_, h.s.wr0 r, ?_, h.acc.trans' r (by simp)⟩
 ·rw [upd_ne σ _ h5]
  rw [lst_ne h5] at hj
  exact h.v j h5 hj
 ·rw [e12] at h12; cases h12
 ·rw [lst_ne (by decide)]; exact h4
 ·rw [upd_same]; exact own_base ho h.acc.size
 ·have := h.b.wr0 r
  unfold cjB at this ⊢
  rw [n12] at this
  rw [e12]
  exact this
theorem CjI.store (h : CjI m q wd g σ l w1) (hz : l.size = 15) (i : Nat) (hi : i ≠ 5 ∧ i ≠ 12 ∧ i ≠ 4) (k : Nat) (hk : k = 1 ∨ k = 3) (hgw : g < wd.heap.size) (hqg : q ≠ g) (hu : cjV q g i = undef) : CjI m q wd g (upd σ i undef) (l.setIfInBounds i true) (w1.setCell ⟨g, k, none⟩ (.slice none 0 0)) := by
 have r : Wr [g] w1 (w1.setCell ⟨g, k, none⟩ (.slice none 0 0)) := (Wr.refl [g] _).setOn (by simp) _
 have e5 : lst (l.setIfInBounds i true) 5 = lst l 5 := lst_ne (fun e => hi.1 e.symm)
 have e12 : lst (l.setIfInBounds i true) 12 = lst l 12 := lst_ne (fun e => hi.2.1 e.symm)
 have e4 : lst (l.setIfInBounds i true) 4 = lst l 4 := lst_ne (fun e => hi.2.2 e.symm)
 have u5 : upd σ i undef 5 = σ 5 := upd_ne σ _ (fun e => hi.1 e.symm)
 refine ⟨fun j h5 hj => ?_, fun h12 => ?_, fun h5 => ?_, fun h5 => ?_, h.s.wr r (by simpa using hqg), ?_, h.acc.trans r⟩
 ·by_cases hji : j = i
  ·subst hji
   rw [upd_same, hu]
  ·rw [upd_ne σ _ hji]
   rw [lst_ne hji] at hj
   exact h.v j h5 hj
 ·rw [e5]; rw [e12] at h12; exact h.o h12
 ·rw [e4]; rw [e5] at h5; exact h.o4 h5
 ·rw [u5]; rw [e5] at h5; exact own_wr (h.t h5) r (by simpa using hgw)
 ·have := h.b.set_ k (.slice none 0 0)
  unfold cjB at this ⊢
  rw [e12, u5]
  rcases hk with rfl | rfl <;> simpa using this
theorem CjI.stored (h : CjI m q wd g σ l w1) (hz : l.size = 15) (h5l : lst l 5 = true) (hgw : g < wd.heap.size) (hqg : q ≠ g) : CjI m q wd g (upd σ 12 undef) (l.setIfInBounds 12 true) (w1.setCell ⟨g, 2, none⟩ (σ 5)) := by
 have r : Wr [g] w1 (w1.setCell ⟨g, 2, none⟩ (σ 5)) := (Wr.refl [g] _).setOn (by simp) _
 have u5 : upd σ 12 undef 5 = σ 5 := upd_ne σ _ (by decide)
 refine ⟨fun j h5 hj => ?_, fun _ => ?_, fun h5 => ?_, fun h5 => ?_, h.s.wr r (by simpa using hqg), ?_, h.acc.trans r⟩
 ·by_cases hji : j = 12
  ·subst hji
   rw [upd_same]
   rfl
  ·rw [upd_ne σ _ hji]
   rw [lst_ne hji] at hj
   exact h.v j h5 hj
 ·rw [lst_ne (by decide)]; exact h5l
 ·rw [lst_ne (by decide)]; exact h.o4 h5l
 ·rw [u5]; exact own_wr (h.t h5l) r (by simpa using hgw)
 ·have := h.b.set_ 2 (σ 5)
  unfold cjB at this ⊢
  rw [lst_same (by omega), if_pos rfl, u5]
  simpa using this
end
def ckV (g : Nat) : Nat → Value
 | 0 => .pointer (some ⟨g, 0, none⟩)
 | 1 => .pointer (some ⟨g, 0, none⟩)
 | 2 => .pointer (some ⟨g, 0, none⟩)
 | 3 => .pointer (some ⟨g, 0, none⟩)
 | 4 => .pointer (some ⟨g, 0, none⟩)
 | 5 => .pointer (some ⟨g, 0, none⟩)
 | 9 => .pointer (some ⟨g, 0, none⟩)
 | 10 => .pointer (some ⟨g, 0, none⟩)
 | 14 => .pointer (some ⟨g, 0, none⟩)
 | 15 => .pointer (some ⟨g, 0, none⟩)
 | 19 => .pointer (some ⟨g, 0, none⟩)
 | 20 => .pointer (some ⟨g, 0, none⟩)
 | 24 => .pointer (some ⟨g, 0, none⟩)
 | 27 => .pointer (some ⟨g, 0, none⟩)
 | 30 => .pointer (some ⟨g, 0, none⟩)
 | 33 => .pointer (some ⟨g, 0, none⟩)
 | 6 => .pointer (some ⟨g, 7, none⟩)
 | 25 => .pointer (some ⟨g, 7, none⟩)
 | 11 => .pointer (some ⟨g, 8, none⟩)
 | 28 => .pointer (some ⟨g, 8, none⟩)
 | 16 => .pointer (some ⟨g, 9, none⟩)
 | 31 => .pointer (some ⟨g, 9, none⟩)
 | 21 => .pointer (some ⟨g, 10, none⟩)
 | 34 => .pointer (some ⟨g, 10, none⟩)
 | 26 => undef
 | 29 => undef
 | 32 => undef
 | 35 => undef
 | _ => .slice none 0 0
structure CkI (cap base : Nat) (wd : World) (g : Nat) (σ : Nat → Value) (l : Array Bool) (w' : World) : Prop where
 v : ∀ j, lst l j = true → σ j = ckV g j
 t : w'.ownsRow base 52 12 (.slice (some ⟨g, 0, none⟩) 1 cap) 1 recL
 acc : Wr [g] wd w'
theorem CkI.step {cap base : Nat} {wd : World} {g : Nat} {σ : Nat → Value} {l : Array Bool} {w1 w2 : World} (h : CkI cap base wd g σ l w1) (i : Nat) (ht : w2.ownsRow base 52 12 (.slice (some ⟨g, 0, none⟩) 1 cap) 1 recL) (r : Wr [g] w1 w2) : CkI cap base wd g (upd σ i (ckV g i)) (l.setIfInBounds i true) w2 := by
 refine ⟨fun j hj => ?_, ht, h.acc.trans r⟩
 by_cases hji : j = i
 ·subst hji
  exact upd_same _ _ _
 ·rw [upd_ne σ _ hji]
  rw [lst_ne hji] at hj
  exact h.v j hj
theorem cloneS_nil (w : World) : Calls Tryz.prog 48 #[.slice none 0 0] w fun e w' => e = .returned (.slice none 0 0) ∧ w = w' := by
 have he := fun (w : World) => Lib.run_eql_slice_nil (P := Tryz.prog) w 47 9 none 0 0 0 0 Tryz.underlying47
 go_enter Tryz.func48, Tryz.ntmps48
 go_wp2_with fail
 go_ret
 exact ⟨rfl, rfl⟩
theorem cloneF_nil (w : World) : Calls Tryz.prog 49 #[.slice none 0 0] w fun e w' => e = .returned (.slice none 0 0) ∧ w = w' := by
 have he := fun (w : World) => Lib.run_eql_slice_nil (P := Tryz.prog) w 48 73 none 0 0 0 0 Tryz.underlying48
 go_enter Tryz.func49, Tryz.ntmps49
 go_wp2_with fail
 go_ret
 exact ⟨rfl, rfl⟩
theorem cloneA_nil (w : World) : Calls Tryz.prog 50 #[.slice none 0 0] w fun e w' => e = .returned (.slice none 0 0) ∧ w = w' := by
 have he := fun (w : World) => Lib.run_eql_slice_nil (P := Tryz.prog) w 49 76 none 0 0 0 0 Tryz.underlying49
 go_enter Tryz.func50, Tryz.ntmps50
 go_wp2_with fail
 go_ret
 exact ⟨rfl, rfl⟩
theorem cloneP_nil (w : World) : Calls Tryz.prog 51 #[.slice none 0 0] w fun e w' => e = .returned (.slice none 0 0) ∧ w = w' := by
 have he := fun (w : World) => Lib.run_eql_slice_nil (P := Tryz.prog) w 50 84 none 0 0 0 0 Tryz.underlying50
 go_enter Tryz.func51, Tryz.ntmps51
 go_wp2_with fail
 go_ret
 exact ⟨rfl, rfl⟩
theorem clone_one (m : ByteArray) (q : Nat) (w : World) (hq : Blk w q 52 recL.toArray) : Calls Tryz.prog 26 #[.agg #[.string m, .slice none 0 0, .slice (some ⟨q, 0, none⟩) 1 1, .slice none 0 0]] w fun e w' => (∃ A' n' c', e = .returned (bareI m (.slice A' n' c'))) ∧ Wr [] w w' := by
 have h1 := fun w => cloneU_nil w
 have h3 := fun w => cloneE_nil w
 have hS := fun w => cloneS_nil w
 have hF := fun w => cloneF_nil w
 have hA := fun w => cloneA_nil w
 have hP := fun w => cloneP_nil w
 have h2 : ∀ W, Blk W q 52 recL.toArray → Calls Tryz.prog 46 #[.slice (some ⟨q, 0, none⟩) 1 1] W (CloneO W 52 12 1 recL) := fun W hW => cloneO_typ W (fun _ => True) _ 1 recL ⟨some ⟨q, 0, none⟩, 1, rfl, Nat.le_refl _, by unfold maxLen; omega, rfl, fun j u hu => ⟨q, 0, rfl, trivial, by rw [Nat.zero_add, hW.cell]; simpa using hu⟩⟩ (by decide) (by decide)
 have hqs : q < w.heap.size := hq.lt
 obtain ⟨wb, hwb⟩ : ∃ wb, (w.alloc (.cells #[.string m, .slice none 0 0, .slice (some ⟨q, 0, none⟩) 1 1, .slice none 0 0] 35)).alloc (.cells #[.string ⟨#[]⟩, .slice none 0 0, .slice none 0 0, .slice none 0 0] 35) = wb := ⟨_, rfl⟩
 obtain ⟨g, hg⟩ : ∃ g, w.heap.size = g := ⟨_, rfl⟩
 have acc : Wr [] w wb := by rw [← hwb]; exact ((Wr.refl _ _).alloc _).alloc _
 have bQ : Blk wb q 52 recL.toArray := hq.wr0 acc
 have bA : Blk wb g 35 #[.string m, .slice none 0 0, .slice (some ⟨q, 0, none⟩) 1 1, .slice none 0 0] := by rw [← hwb, ← hg]; exact (Blk.new _ _ _).alloc _
 have bR : Blk wb (g + 1) 35 #[.string ⟨#[]⟩, .slice none 0 0, .slice none 0 0, .slice none 0 0] := by
  have hb := Blk.new (w.alloc (.cells #[.string m, .slice none 0 0, .slice (some ⟨q, 0, none⟩) 1 1, .slice none 0 0] 35)) 35 #[.string ⟨#[]⟩, .slice none 0 0, .slice none 0 0, .slice none 0 0]
  rw [show (w.alloc (.cells #[.string m, .slice none 0 0, .slice (some ⟨q, 0, none⟩) 1 1, .slice none 0 0] 35)).heap.size = g + 1 by simp [hg], hwb] at hb
  exact hb
 have hqg : q ≠ g := by omega
 have Hwb := qh hwb
 have Hg := qh hg
 clear hwb hg hqs hq
 go_enter Tryz.func26, Tryz.ntmps26
 go_upto_region 1 with (fail)
 rw [Hwb.out, Hg.out]
 go_cut [6] from 6 to 18 (fun s6 wx => ∃ vt, Blk wx g 35 #[.string m, .slice none 0 0, vt, .slice none 0 0] ∧ wx.ownsRow wb.heap.size 52 12 vt 1 recL ∧ Wr [g] wb wx)
 case first =>
  rename_i J K' hJ hK'
  refine wp_region_L (fun _ _ => True) (by kernel_rfl) (fun hcl => ?_)
  clear hcl
  change wpAnyL _ _ _ _ _ _ _ _ wb.drew
  have accd : Wr [g] wb wb.drew := (Wr.refl [g] wb).drew
  have hds : wb.drew.heap.size = wb.heap.size := rfl
  replace bA := bA.drew
  replace bQ := bQ.drew
  have hgw : g < wb.drew.heap.size := bA.lt
  rw [← hds] at hJ
  clear hds
  generalize wb.drew = wd at *
  refine wpAnyL_grid0 [(0, 6), (1, 7), (2, 8), (3, 9), (4, 10), (5, 11), (6, 12), (7, 13), (8, 14), (9, 15), (11, 16), (13, 17)] (CjI m q wd g) (by kernel_rfl) (by kernel_rfl) ?steps (by kernel_rfl) (fun _ _ _ _ => trivial) ?fin ⟨fun j _ h => (by rw [lst_start] at h; cases h), fun h => (by rw [lst_start] at h; cases h), fun h => (by rw [lst_start] at h; cases h), fun h => (by rw [lst_start] at h; cases h), bQ, bA, Wr.refl _ _⟩
  case steps =>
   intro n hn
   have : n = 0 ∨ n = 1 ∨ n = 2 ∨ n = 3 ∨ n = 4 ∨ n = 5 ∨ n = 6 ∨ n = 7 ∨ n = 8 ∨ n = 9 ∨ n = 10 ∨ n = 11 ∨ n = 12 ∨ n = 13 ∨ n = 14 := by
    have : n < 15 := hn
    omega
   rcases this with h | h | h | h | h | h | h | h | h | h | h | h | h | h | h <;> subst h <;> intro oi hoi' <;> simp only [qgaq, qgsq, qgzq, Option.some.injEq] at hoi' <;> subst hoi' <;> intro σ l w1 hsz hl hd hI K hK <;>
    simp only [puts, List.foldl_cons, List.foldl_nil, Act.put, qsaq, qszq, qssq] at hK ⊢
   ·go_simp
    exact hK _ _ (hI.quiet hsz 0 (by decide) (Wr.refl _ _))
   ·have e0 := hI.v 0 (by decide) (hd 0 (by decide +kernel))
    simp only [cjV] at e0
    have c0 := hI.b.cell 1
    simp only [qgaq, qgzq, qgsq] at c0
    simp only [e0] at hK ⊢
    go_simp
    exact hK _ _ (hI.quiet hsz 1 (by decide) (Wr.refl _ _))
   ·have e0 := hI.v 1 (by decide) (hd 1 (by decide +kernel))
    simp only [cjV] at e0
    simp only [e0] at hK ⊢
    go_simp
    refine (h1 _).mono ?_
    rintro e w2 ⟨rfl, rfl⟩
    exact hK _ _ (hI.quiet hsz 2 (by decide) (Wr.refl _ _))
   ·go_simp
    exact hK _ _ (hI.quiet hsz 3 (by decide) (Wr.refl _ _))
   ·have e0 := hI.v 3 (by decide) (hd 3 (by decide +kernel))
    simp only [cjV] at e0
    have n12 : lst l 12 = false := hI.no12 hl
    have c0 := hI.b.cell 2
    simp only [qgaq, qgzq, qgsq] at c0
    rw [show cjB q σ l = .slice (some ⟨q, 0, none⟩) 1 1 by unfold cjB; rw [n12]; rfl] at c0
    simp only [e0] at hK ⊢
    go_simp
    exact hK _ _ (hI.quiet hsz 4 (by decide) (Wr.refl _ _))
   ·have e0 := hI.v 4 (by decide) (hd 4 (by decide +kernel))
    simp only [cjV] at e0
    simp only [e0] at hK ⊢
    go_simp
    refine (h2 _ hI.s).mono ?_
    rintro e w2 ⟨vt, rfl, r2, ho⟩
    exact hK _ _ (hI.called hsz hl (hd 4 (by decide +kernel)) r2 ho)
   ·go_simp
    exact hK _ _ (hI.quiet hsz 6 (by decide) (Wr.refl _ _))
   ·have e0 := hI.v 6 (by decide) (hd 6 (by decide +kernel))
    simp only [cjV] at e0
    have c0 := hI.b.cell 3
    simp only [qgaq, qgzq, qgsq] at c0
    simp only [e0] at hK ⊢
    go_simp
    exact hK _ _ (hI.quiet hsz 7 (by decide) (Wr.refl _ _))
   ·have e0 := hI.v 7 (by decide) (hd 7 (by decide +kernel))
    simp only [cjV] at e0
    simp only [e0] at hK ⊢
    go_simp
    refine (h3 _).mono ?_
    rintro e w2 ⟨rfl, rfl⟩
    exact hK _ _ (hI.quiet hsz 8 (by decide) (Wr.refl _ _))
   ·go_simp
    exact hK _ _ (hI.quiet hsz 9 (by decide) (Wr.refl _ _))
   ·have e0 := hI.v 9 (by decide) (hd 9 (by decide +kernel))
    have e1 := hI.v 2 (by decide) (hd 2 (by decide +kernel))
    simp only [cjV] at e0 e1
    have c0 := hI.b.cell 1
    have f0 := hI.b.frozen 1
    simp only [qgaq, qgzq, qgsq] at c0
    simp only [e0, e1] at hK ⊢
    go_simp
    exact hK undef _ (hI.store hsz 10 (by decide) 1 (by decide) hgw hqg rfl)
   ·go_simp
    exact hK _ _ (hI.quiet hsz 11 (by decide) (Wr.refl _ _))
   ·have e0 := hI.v 11 (by decide) (hd 11 (by decide +kernel))
    simp only [cjV] at e0
    have ht := hI.t (hd 5 (by decide +kernel))
    obtain ⟨gt, cap, hv⟩ : ∃ gt cap, σ 5 = .slice (some ⟨gt, 0, none⟩) 1 cap := by
     rcases ht.2 with ⟨_, h⟩ | ⟨gt, cap, _, h, _⟩
     ·cases h
     ·exact ⟨gt, cap, h⟩
    have c0 := hI.b.cell 2
    have f0 := hI.b.frozen 2
    simp only [qgaq, qgzq, qgsq] at c0
    have hs := hI.stored hsz (hd 5 (by decide +kernel)) hgw hqg
    rw [hv] at hs
    simp only [e0, hv] at hK ⊢
    go_simp
    exact hK undef _ hs
   ·go_simp
    exact hK _ _ (hI.quiet hsz 13 (by decide) (Wr.refl _ _))
   ·have e0 := hI.v 13 (by decide) (hd 13 (by decide +kernel))
    have e1 := hI.v 8 (by decide) (hd 8 (by decide +kernel))
    simp only [cjV] at e0 e1
    have c0 := hI.b.cell 3
    have f0 := hI.b.frozen 3
    simp only [qgaq, qgzq, qgsq] at c0
    simp only [e0, e1] at hK ⊢
    go_simp
    exact hK undef _ (hI.store hsz 14 (by decide) 3 (by decide) hgw hqg rfl)
  case fin =>
   intro σ l w1 hall hI
   simp only [puts, List.foldl_cons, List.foldl_nil, Act.put, qsaq, qszq, qssq]
   refine hK' _ _ (Met.intro (hJ _ _ ?_))
   repeat apply Exists.intro
   exact ⟨⟨σ 5, by have := hI.b; unfold cjB at this; rw [hall 12 (by decide)] at this; exact this, hI.t (hall 5 (by decide)), accd.trans hI.acc⟩, rfl⟩
 case rest =>
  obtain ⟨vt, bx, ht, rx⟩ := hcut
  obtain ⟨gt, cap, rfl⟩ : ∃ gt cap, vt = .slice (some ⟨gt, 0, none⟩) 1 cap := by
   rcases ht.2 with ⟨_, h⟩ | ⟨gt, cap, _, h, _⟩
   ·cases h
   ·exact ⟨gt, cap, h⟩
  have hgt := ht.lt gt rfl
  have hgg : gt ≠ g := by have := bA.lt; omega
  have hgb : g < wb.heap.size := bA.lt
  have hgb1 : g + 1 < wb.heap.size := bR.lt
  have hg1t : g + 1 ≠ gt := by omega
  have hcap : 1 ≤ cap ∧ cap ≤ maxLen := by
   rcases ht.2 with ⟨h, _⟩ | ⟨gt', cap', _, h, _, _, h1, h2, _⟩
   ·cases h
   ·injection h with e1 e2 e3
    subst e3
    exact ⟨h1, h2⟩
  unfold maxLen at hcap
  have bR2 := bR.wr rx (by simp)
  have HT := qh ht
  have BR := qh bR2
  have RX := qh rx
  have BX := qh bx
  clear bR2 rx ht bR
  have c0 := bx.cell 0
  have c1 := bx.cell 1
  have c2 := bx.cell 2
  have c3 := bx.cell 3
  simp only [qgaq, qgzq, qgsq] at c0 c1 c2 c3
  go_wp2_with fail
  refine wp_loop_rounds 2 ?_
  rw [rounds_succ]
  go_upto_region 6 with (fail)
  go_cut [21] from 21 to 101 (fun s21 wy => s21 = .int .i64 0 ∧ wy.ownsRow wb.heap.size 52 12 (.slice (some ⟨gt, 0, none⟩) 1 cap) 1 recL ∧ Wr [gt] wc wy)
  case first =>
   rename_i J K' hJ hK'
   refine wp_region_L (fun _ _ => True) (by kernel_rfl) (fun hcl => ?_)
   clear hcl
   change wpAnyL _ _ _ _ _ _ _ _ wc.drew
   have accd : Wr [gt] wc wc.drew := (Wr.refl [gt] wc).drew
   have htd : wc.drew.ownsRow wb.heap.size 52 12 (.slice (some ⟨gt, 0, none⟩) 1 cap) 1 recL := HT.out
   generalize wc.drew = wd at *
   refine wpAnyL_grid0 [(0, 28), (1, 29), (2, 30), (3, 31), (4, 32), (5, 33), (6, 34), (7, 35), (8, 36), (9, 37), (10, 38), (11, 39), (12, 40), (13, 41), (14, 42), (15, 43), (16, 44), (17, 45), (18, 46), (19, 47), (20, 48), (21, 49), (22, 50), (23, 51), (24, 52), (25, 53), (27, 54), (28, 55), (30, 56), (31, 57), (33, 58), (34, 59)] (CkI cap wb.heap.size wd gt) (by kernel_rfl) (by kernel_rfl) ?steps (by kernel_rfl) (fun _ _ _ _ => trivial) ?fin ⟨fun j h => (by rw [lst_start] at h; cases h), htd, Wr.refl _ _⟩
   case steps =>
    intro n hn
    have : n = 0 ∨ n = 1 ∨ n = 2 ∨ n = 3 ∨ n = 4 ∨ n = 5 ∨ n = 6 ∨ n = 7 ∨ n = 8 ∨ n = 9 ∨ n = 10 ∨ n = 11 ∨ n = 12 ∨ n = 13 ∨ n = 14 ∨ n = 15 ∨ n = 16 ∨ n = 17 ∨ n = 18 ∨ n = 19 ∨ n = 20 ∨ n = 21 ∨ n = 22 ∨ n = 23 ∨ n = 24 ∨ n = 25 ∨ n = 26 ∨ n = 27 ∨ n = 28 ∨ n = 29 ∨ n = 30 ∨ n = 31 ∨ n = 32 ∨ n = 33 ∨ n = 34 ∨ n = 35 := by
     have : n < 36 := hn
     omega
    rcases this with h | h | h | h | h | h | h | h | h | h | h | h | h | h | h | h | h | h | h | h | h | h | h | h | h | h | h | h | h | h | h | h | h | h | h | h <;> subst h <;> intro oi hoi' <;> simp only [qgaq, qgsq, qgzq, Option.some.injEq] at hoi' <;> subst hoi' <;> intro σ l w1 hsz hl hd hI K hK <;>
     simp only [puts, List.foldl_cons, List.foldl_nil, Act.put, qsaq, qszq, qssq] at hK ⊢
    ·go_simp
     exact hK _ _ (hI.step 0 hI.t (Wr.refl _ _))
    ·go_simp
     exact hK _ _ (hI.step 1 hI.t (Wr.refl _ _))
    ·go_simp
     exact hK _ _ (hI.step 2 hI.t (Wr.refl _ _))
    ·go_simp
     exact hK _ _ (hI.step 3 hI.t (Wr.refl _ _))
    ·go_simp
     exact hK _ _ (hI.step 4 hI.t (Wr.refl _ _))
    ·have e0 := hI.v 4 (hd 4 (by decide +kernel))
     simp only [ckV] at e0
     simp only [e0] at hK ⊢
     go_simp
     exact hK _ _ (hI.step 5 hI.t (Wr.refl _ _))
    ·have e0 := hI.v 5 (hd 5 (by decide +kernel))
     simp only [ckV] at e0
     simp only [e0] at hK ⊢
     go_simp
     exact hK _ _ (hI.step 6 hI.t (Wr.refl _ _))
    ·have e0 := hI.v 6 (hd 6 (by decide +kernel))
     simp only [ckV] at e0
     have c0 := hI.t.cellAt 7 (by decide)
     simp only [recL, qgzq, qgsq] at c0
     simp only [e0] at hK ⊢
     go_simp
     exact hK _ _ (hI.step 7 hI.t (Wr.refl _ _))
    ·have e0 := hI.v 7 (hd 7 (by decide +kernel))
     simp only [ckV] at e0
     simp only [e0] at hK ⊢
     go_simp
     refine (hS _).mono ?_
     rintro e w2 ⟨rfl, rfl⟩
     exact hK _ _ (hI.step 8 hI.t (Wr.refl _ _))
    ·go_simp
     exact hK _ _ (hI.step 9 hI.t (Wr.refl _ _))
    ·have e0 := hI.v 9 (hd 9 (by decide +kernel))
     simp only [ckV] at e0
     simp only [e0] at hK ⊢
     go_simp
     exact hK _ _ (hI.step 10 hI.t (Wr.refl _ _))
    ·have e0 := hI.v 10 (hd 10 (by decide +kernel))
     simp only [ckV] at e0
     simp only [e0] at hK ⊢
     go_simp
     exact hK _ _ (hI.step 11 hI.t (Wr.refl _ _))
    ·have e0 := hI.v 11 (hd 11 (by decide +kernel))
     simp only [ckV] at e0
     have c0 := hI.t.cellAt 8 (by decide)
     simp only [recL, qgzq, qgsq] at c0
     simp only [e0] at hK ⊢
     go_simp
     exact hK _ _ (hI.step 12 hI.t (Wr.refl _ _))
    ·have e0 := hI.v 12 (hd 12 (by decide +kernel))
     simp only [ckV] at e0
     simp only [e0] at hK ⊢
     go_simp
     refine (hF _).mono ?_
     rintro e w2 ⟨rfl, rfl⟩
     exact hK _ _ (hI.step 13 hI.t (Wr.refl _ _))
    ·go_simp
     exact hK _ _ (hI.step 14 hI.t (Wr.refl _ _))
    ·have e0 := hI.v 14 (hd 14 (by decide +kernel))
     simp only [ckV] at e0
     simp only [e0] at hK ⊢
     go_simp
     exact hK _ _ (hI.step 15 hI.t (Wr.refl _ _))
    ·have e0 := hI.v 15 (hd 15 (by decide +kernel))
     simp only [ckV] at e0
     simp only [e0] at hK ⊢
     go_simp
     exact hK _ _ (hI.step 16 hI.t (Wr.refl _ _))
    ·have e0 := hI.v 16 (hd 16 (by decide +kernel))
     simp only [ckV] at e0
     have c0 := hI.t.cellAt 9 (by decide)
     simp only [recL, qgzq, qgsq] at c0
     simp only [e0] at hK ⊢
     go_simp
     exact hK _ _ (hI.step 17 hI.t (Wr.refl _ _))
    ·have e0 := hI.v 17 (hd 17 (by decide +kernel))
     simp only [ckV] at e0
     simp only [e0] at hK ⊢
     go_simp
     refine (hA _).mono ?_
     rintro e w2 ⟨rfl, rfl⟩
     exact hK _ _ (hI.step 18 hI.t (Wr.refl _ _))
    ·go_simp
     exact hK _ _ (hI.step 19 hI.t (Wr.refl _ _))
    ·have e0 := hI.v 19 (hd 19 (by decide +kernel))
     simp only [ckV] at e0
     simp only [e0] at hK ⊢
     go_simp
     exact hK _ _ (hI.step 20 hI.t (Wr.refl _ _))
    ·have e0 := hI.v 20 (hd 20 (by decide +kernel))
     simp only [ckV] at e0
     simp only [e0] at hK ⊢
     go_simp
     exact hK _ _ (hI.step 21 hI.t (Wr.refl _ _))
    ·have e0 := hI.v 21 (hd 21 (by decide +kernel))
     simp only [ckV] at e0
     have c0 := hI.t.cellAt 10 (by decide)
     simp only [recL, qgzq, qgsq] at c0
     simp only [e0] at hK ⊢
     go_simp
     exact hK _ _ (hI.step 22 hI.t (Wr.refl _ _))
    ·have e0 := hI.v 22 (hd 22 (by decide +kernel))
     simp only [ckV] at e0
     simp only [e0] at hK ⊢
     go_simp
     refine (hP _).mono ?_
     rintro e w2 ⟨rfl, rfl⟩
     exact hK _ _ (hI.step 23 hI.t (Wr.refl _ _))
    ·have e0 := hI.v 0 (hd 0 (by decide +kernel))
     simp only [ckV] at e0
     simp only [e0] at hK ⊢
     go_simp
     exact hK _ _ (hI.step 24 hI.t (Wr.refl _ _))
    ·have e0 := hI.v 24 (hd 24 (by decide +kernel))
     simp only [ckV] at e0
     simp only [e0] at hK ⊢
     go_simp
     exact hK _ _ (hI.step 25 hI.t (Wr.refl _ _))
    ·have e0 := hI.v 25 (hd 25 (by decide +kernel))
     have e1 := hI.v 8 (hd 8 (by decide +kernel))
     simp only [ckV] at e0 e1
     have c0 := hI.t.cellAt 7 (by decide)
     simp only [recL, qgzq, qgsq] at c0
     have f0 := hI.t.frozenAt 7
     simp only [e0, e1] at hK ⊢
     go_simp
     exact hK undef _ (hI.step 26 (hI.t.stored 7 (.slice none 0 0)).1 ((Wr.refl [gt] _).setOn (by simp) _))
    ·have e0 := hI.v 1 (hd 1 (by decide +kernel))
     simp only [ckV] at e0
     simp only [e0] at hK ⊢
     go_simp
     exact hK _ _ (hI.step 27 hI.t (Wr.refl _ _))
    ·have e0 := hI.v 27 (hd 27 (by decide +kernel))
     simp only [ckV] at e0
     simp only [e0] at hK ⊢
     go_simp
     exact hK _ _ (hI.step 28 hI.t (Wr.refl _ _))
    ·have e0 := hI.v 28 (hd 28 (by decide +kernel))
     have e1 := hI.v 13 (hd 13 (by decide +kernel))
     simp only [ckV] at e0 e1
     have c0 := hI.t.cellAt 8 (by decide)
     simp only [recL, qgzq, qgsq] at c0
     have f0 := hI.t.frozenAt 8
     simp only [e0, e1] at hK ⊢
     go_simp
     exact hK undef _ (hI.step 29 (hI.t.stored 8 (.slice none 0 0)).1 ((Wr.refl [gt] _).setOn (by simp) _))
    ·have e0 := hI.v 2 (hd 2 (by decide +kernel))
     simp only [ckV] at e0
     simp only [e0] at hK ⊢
     go_simp
     exact hK _ _ (hI.step 30 hI.t (Wr.refl _ _))
    ·have e0 := hI.v 30 (hd 30 (by decide +kernel))
     simp only [ckV] at e0
     simp only [e0] at hK ⊢
     go_simp
     exact hK _ _ (hI.step 31 hI.t (Wr.refl _ _))
    ·have e0 := hI.v 31 (hd 31 (by decide +kernel))
     have e1 := hI.v 18 (hd 18 (by decide +kernel))
     simp only [ckV] at e0 e1
     have c0 := hI.t.cellAt 9 (by decide)
     simp only [recL, qgzq, qgsq] at c0
     have f0 := hI.t.frozenAt 9
     simp only [e0, e1] at hK ⊢
     go_simp
     exact hK undef _ (hI.step 32 (hI.t.stored 9 (.slice none 0 0)).1 ((Wr.refl [gt] _).setOn (by simp) _))
    ·have e0 := hI.v 3 (hd 3 (by decide +kernel))
     simp only [ckV] at e0
     simp only [e0] at hK ⊢
     go_simp
     exact hK _ _ (hI.step 33 hI.t (Wr.refl _ _))
    ·have e0 := hI.v 33 (hd 33 (by decide +kernel))
     simp only [ckV] at e0
     simp only [e0] at hK ⊢
     go_simp
     exact hK _ _ (hI.step 34 hI.t (Wr.refl _ _))
    ·have e0 := hI.v 34 (hd 34 (by decide +kernel))
     have e1 := hI.v 23 (hd 23 (by decide +kernel))
     simp only [ckV] at e0 e1
     have c0 := hI.t.cellAt 10 (by decide)
     simp only [recL, qgzq, qgsq] at c0
     have f0 := hI.t.frozenAt 10
     simp only [e0, e1] at hK ⊢
     go_simp
     exact hK undef _ (hI.step 35 (hI.t.stored 10 (.slice none 0 0)).1 ((Wr.refl [gt] _).setOn (by simp) _))
   case fin =>
    intro σ l w1 hall hI
    simp only [puts, List.foldl_cons, List.foldl_nil, Act.put, qsaq, qszq, qssq]
    refine hK' _ _ (Met.intro (hJ _ _ ?_))
    repeat apply Exists.intro
    exact ⟨⟨rfl, hI.t, accd.trans hI.acc⟩, rfl⟩
  case rest =>
   obtain ⟨rfl, ht, ry⟩ := hcut
   have bx2 := BX.out.wr ry (by simpa using fun e => hgg e.symm)
   have bR2 := BR.out.wr ry (by simpa using hg1t)
   clear c0 c1 c2 c3
   have c0 := bx2.cell 0
   have c1 := bx2.cell 1
   have c2 := bx2.cell 2
   have c3 := bx2.cell 3
   simp only [qgaq, qgzq, qgsq] at c0 c1 c2 c3
   have d9 := ht.cellAt 9 (by decide)
   simp only [recL, qgzq, qgsq] at d9
   have s0 := bR2.cell 0
   have s1 := bR2.cell 1
   have s2 := bR2.cell 2
   have s3 := bR2.cell 3
   simp only [qgaq, qgzq, qgsq] at s0 s1 s2 s3
   have z0 := bR2.frozen 0
   have z1 := bR2.frozen 1
   have z2 := bR2.frozen 2
   have z3 := bR2.frozen 3
   have RY := qh ry
   have BR2 := qh bR2
   clear ry bR2 bx2 ht
   go_wp2_with fail
   refine wp_loop_rounds 1 ?_
   rw [rounds_succ]
   go_wp2_with fail
   rw [rounds_succ]
   go_wp2_with fail
   refine bodyPost_ret (v := bareI m (.slice (some ⟨gt, 0, none⟩) 1 cap)) ?_ rfl ⟨⟨_, _, _, rfl⟩, ?_⟩
   ·have cc := blk4 wc (g + 1) 35 _ _ _ _ (.string m) (.slice none 0 0) (.slice (some ⟨gt, 0, none⟩) 1 cap) (.slice none 0 0) BR2.out
    have t0 := cc.cell 0
    have t1 := cc.cell 1
    have t2 := cc.cell 2
    have t3 := cc.cell 3
    simp only [qgaq, qgzq, qgsq] at t0 t1 t2 t3
    simp [results, Tryz.results26, go_sem, t0, t1, t2, t3, bareI]
   ·have e := Hg.out
    have a := acc.size
    exact ((acc.new RX.out (by omega)).new RY.out (by omega)).new (wr4 wc (g + 1) _ _ _ _) (by omega)
end Go.Proofs.YtjanbpchedgoiaaGreat
