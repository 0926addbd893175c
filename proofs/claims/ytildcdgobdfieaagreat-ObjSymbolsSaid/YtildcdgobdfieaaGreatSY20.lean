/- slices.Clone of uses, types, items: walked. Conditions: what is copied takes no more room than an address can reach. -/
import Derived.Test.YtildcdgobdfieaaGreatSY01
import Derived.Test.YtildcdgobdfieaaGreatSY15
import Derived.Test.YtildcdgobdfieaaGreatSY19
set_option linter.unusedVariables false
set_option linter.unusedSimpArgs false
set_option maxRecDepth 100000
set_option maxHeartbeats 32000000
namespace Go.Proofs.YtildcdgobdfieaaGreat
open Go.RowKit
theorem info_use : (Tryz.prog.info? 72).map (fun i => (i.zero, i.size, i.bytes)) = some (some (.agg #[.string ⟨#[]⟩, .int .u64 0]), 2, 24) := by kernel_rfl
theorem cloneO_use (w : World) (P : Nat → Prop) (v : Value) (n : Nat) (xs : List Value) (h : Sl w P 2 v n xs) (h1 : ∀ u ∈ xs, u.oneCell' = true) (hb : n * 24 ≤ 140737488355328) :
  Calls Tryz.prog 131 #[v] w (CloneO w 72 2 n xs) := by
 obtain ⟨i0, hi0, hz0, hz1, hz2⟩ := info_parts info_use
 have hm : 0 + n ≤ maxLen := by obtain ⟨A, c, _, k1, k2⟩ := h.form; omega
 have H := qh h
 have hl := qh h.len
 obtain ⟨A, c, rfl, k1, k2⟩ := h.form
 clear h k1 k2
 cases A with
 | none =>
  clear hi0 hz0 hz1 hz2 hb hm h1
  have he := fun (w : World) => Lib.run_eql_slice_nil (P := Tryz.prog) w 23 72 none n c 0 0 Tryz.underlying23
  go_enter Tryz.func131, Tryz.ntmps131
  go_wp2_with fail
  go_ret
  have h0 : xs = [] := by
   obtain ⟨A, c, e, _, _, _, hc⟩ := H.out
   cases xs with
   | nil => rfl
   | cons x l =>
    obtain ⟨b, off, e', _, _⟩ := hc 0 x rfl
    subst e'
    injection e with e
    cases e
  subst h0
  have hn : n = 0 := by have := hl.out; simp at this; omega
  subst hn
  exact ⟨_, rfl, Wr.refl _ _, World.ownsRow_nil w _ _ _⟩
 | some ad =>
  obtain ⟨v1, w1, hrun, hown, hg, hat⟩ := run_append_sl (P := Tryz.prog) (w.alloc (.cells #[] 72)) w.heap.size 23 23 72 i0 _ 2 24 Tryz.underlying23 hi0 hz0 hz1 hz2 rfl (by omega)
   (.slice (some ⟨w.heap.size, 0, none⟩) 0 0) 0 [] (World.ownsRow_made w #[] 0 (Nat.le_refl _) (by simp) rfl) P (.slice (some ad) n c) n xs (H.out.wr0 ((Wr.refl _ _).alloc _)) h1 hm (by omega) (by simp)
  simp only [Nat.zero_add, List.nil_append] at hown
  have HG := qh hg
  have HO := qh hown
  clear hi0 hz0 hz1 hz2 hm hb h1 hg hat hown
  have he := fun (w : World) => Lib.run_eql_slice_nil (P := Tryz.prog) w 23 72 (some ad) n c 0 0 Tryz.underlying23
  go_enter Tryz.func131, Tryz.ntmps131
  go_wp2_with (at_builtin; refine wpList_append_run rfl _ _ _ rfl _ _ rfl rfl _ _ hrun ?_)
  go_ret
  refine ⟨_, rfl, ?_, HO.out⟩
  exact ((Wr.refl [] w).alloc _).trans' (Wr.ofGrown HG.out (l := [w.heap.size]) (fun k hk => by simp [Value.ownBlock] at hk; simp [hk])) (fun x hx => .inr (by simp at hx; omega))
theorem info_typ : (Tryz.prog.info? 129).map (fun i => (i.zero, i.size, i.bytes)) = some (some (.agg #[.int .u8 0, .string ⟨#[]⟩, .string ⟨#[]⟩, .int .i64 0, .int .i64 0, .int .i64 0, .int .i64 0, .slice none 0 0, .slice none 0 0, .slice none 0 0, .slice none 0 0, .int .i64 0]), 12, 176) := by kernel_rfl
theorem cloneO_typ (w : World) (P : Nat → Prop) (v : Value) (n : Nat) (xs : List Value) (h : Sl w P 12 v n xs) (h1 : ∀ u ∈ xs, u.oneCell' = true) (hb : n * 176 ≤ 140737488355328) :
  Calls Tryz.prog 132 #[v] w (CloneO w 129 12 n xs) := by
 obtain ⟨i0, hi0, hz0, hz1, hz2⟩ := info_parts info_typ
 have hm : 0 + n ≤ maxLen := by obtain ⟨A, c, _, k1, k2⟩ := h.form; omega
 have H := qh h
 have hl := qh h.len
 obtain ⟨A, c, rfl, k1, k2⟩ := h.form
 clear h k1 k2
 cases A with
 | none =>
  clear hi0 hz0 hz1 hz2 hb hm h1
  have he := fun (w : World) => Lib.run_eql_slice_nil (P := Tryz.prog) w 52 129 none n c 0 0 Tryz.underlying52
  go_enter Tryz.func132, Tryz.ntmps132
  go_wp2_with fail
  go_ret
  have h0 : xs = [] := by
   obtain ⟨A, c, e, _, _, _, hc⟩ := H.out
   cases xs with
   | nil => rfl
   | cons x l =>
    obtain ⟨b, off, e', _, _⟩ := hc 0 x rfl
    subst e'
    injection e with e
    cases e
  subst h0
  have hn : n = 0 := by have := hl.out; simp at this; omega
  subst hn
  exact ⟨_, rfl, Wr.refl _ _, World.ownsRow_nil w _ _ _⟩
 | some ad =>
  obtain ⟨v1, w1, hrun, hown, hg, hat⟩ := run_append_sl (P := Tryz.prog) (w.alloc (.cells #[] 129)) w.heap.size 52 52 129 i0 _ 12 176 Tryz.underlying52 hi0 hz0 hz1 hz2 rfl (by omega)
   (.slice (some ⟨w.heap.size, 0, none⟩) 0 0) 0 [] (World.ownsRow_made w #[] 0 (Nat.le_refl _) (by simp) rfl) P (.slice (some ad) n c) n xs (H.out.wr0 ((Wr.refl _ _).alloc _)) h1 hm (by omega) (by simp)
  simp only [Nat.zero_add, List.nil_append] at hown
  have HG := qh hg
  have HO := qh hown
  clear hi0 hz0 hz1 hz2 hm hb h1 hg hat hown
  have he := fun (w : World) => Lib.run_eql_slice_nil (P := Tryz.prog) w 52 129 (some ad) n c 0 0 Tryz.underlying52
  go_enter Tryz.func132, Tryz.ntmps132
  go_wp2_with (at_builtin; refine wpList_append_run rfl _ _ _ rfl _ _ rfl rfl _ _ hrun ?_)
  go_ret
  refine ⟨_, rfl, ?_, HO.out⟩
  exact ((Wr.refl [] w).alloc _).trans' (Wr.ofGrown HG.out (l := [w.heap.size]) (fun k hk => by simp [Value.ownBlock] at hk; simp [hk])) (fun x hx => .inr (by simp at hx; omega))
theorem info_exp : (Tryz.prog.info? 136).map (fun i => (i.zero, i.size, i.bytes)) = some (some (.agg #[.string ⟨#[]⟩, .int .u8 0, .int .i64 0, .nilIface, .int .i64 0]), 5, 56) := by kernel_rfl
theorem cloneO_exp (w : World) (P : Nat → Prop) (v : Value) (n : Nat) (xs : List Value) (h : Sl w P 5 v n xs) (h1 : ∀ u ∈ xs, u.oneCell' = true) (hb : n * 56 ≤ 140737488355328) :
  Calls Tryz.prog 133 #[v] w (CloneO w 136 5 n xs) := by
 obtain ⟨i0, hi0, hz0, hz1, hz2⟩ := info_parts info_exp
 have hm : 0 + n ≤ maxLen := by obtain ⟨A, c, _, k1, k2⟩ := h.form; omega
 have H := qh h
 have hl := qh h.len
 obtain ⟨A, c, rfl, k1, k2⟩ := h.form
 clear h k1 k2
 cases A with
 | none =>
  clear hi0 hz0 hz1 hz2 hb hm h1
  have he := fun (w : World) => Lib.run_eql_slice_nil (P := Tryz.prog) w 53 136 none n c 0 0 Tryz.underlying53
  go_enter Tryz.func133, Tryz.ntmps133
  go_wp2_with fail
  go_ret
  have h0 : xs = [] := by
   obtain ⟨A, c, e, _, _, _, hc⟩ := H.out
   cases xs with
   | nil => rfl
   | cons x l =>
    obtain ⟨b, off, e', _, _⟩ := hc 0 x rfl
    subst e'
    injection e with e
    cases e
  subst h0
  have hn : n = 0 := by have := hl.out; simp at this; omega
  subst hn
  exact ⟨_, rfl, Wr.refl _ _, World.ownsRow_nil w _ _ _⟩
 | some ad =>
  obtain ⟨v1, w1, hrun, hown, hg, hat⟩ := run_append_sl (P := Tryz.prog) (w.alloc (.cells #[] 136)) w.heap.size 53 53 136 i0 _ 5 56 Tryz.underlying53 hi0 hz0 hz1 hz2 rfl (by omega)
   (.slice (some ⟨w.heap.size, 0, none⟩) 0 0) 0 [] (World.ownsRow_made w #[] 0 (Nat.le_refl _) (by simp) rfl) P (.slice (some ad) n c) n xs (H.out.wr0 ((Wr.refl _ _).alloc _)) h1 hm (by omega) (by simp)
  simp only [Nat.zero_add, List.nil_append] at hown
  have HG := qh hg
  have HO := qh hown
  clear hi0 hz0 hz1 hz2 hm hb h1 hg hat hown
  have he := fun (w : World) => Lib.run_eql_slice_nil (P := Tryz.prog) w 53 136 (some ad) n c 0 0 Tryz.underlying53
  go_enter Tryz.func133, Tryz.ntmps133
  go_wp2_with (at_builtin; refine wpList_append_run rfl _ _ _ rfl _ _ rfl rfl _ _ hrun ?_)
  go_ret
  refine ⟨_, rfl, ?_, HO.out⟩
  exact ((Wr.refl [] w).alloc _).trans' (Wr.ofGrown HG.out (l := [w.heap.size]) (fun k hk => by simp [Value.ownBlock] at hk; simp [hk])) (fun x hx => .inr (by simp at hx; omega))
end Go.Proofs.YtildcdgobdfieaaGreat

namespace Go.Proofs.YtildcdgobdfieaaGreat
open Go.RowKit
def recL : List Value := [.int .u8 12, .string ⟨#[]⟩, .string ⟨#[]⟩, .int .i64 0, .int .i64 0, .int .i64 0, .int .i64 0, .slice none 0 0, .slice none 0 0, .slice none 0 0, .slice none 0 0, .int .i64 0]
def cjV (q g : Nat) : Nat → Value
 | 0 => .pointer (some ⟨g, 1, none⟩)
 | 3 => .pointer (some ⟨g, 2, none⟩)
 | 6 => .pointer (some ⟨g, 3, none⟩)
 | 9 => .pointer (some ⟨g, 1, none⟩)
 | 11 => .pointer (some ⟨g, 2, none⟩)
 | 13 => .pointer (some ⟨g, 3, none⟩)
 | 10 => undef
 | 12 => undef
 | 14 => undef
 | 4 => .slice (some ⟨q, 0, none⟩) 1 1
 | _ => .slice none 0 0
def cjB (q : Nat) (σ : Nat → Value) (l : Array Bool) : Value := if lst l 12 = true then σ 5 else .slice (some ⟨q, 0, none⟩) 1 1
structure CjI (m : ByteArray) (q : Nat) (wd : World) (g : Nat) (σ : Nat → Value) (l : Array Bool) (w' : World) : Prop where
 v : ∀ j, j ≠ 5 → lst l j = true → σ j = cjV q g j
 o : lst l 12 = true → lst l 5 = true
 o4 : lst l 5 = true → lst l 4 = true
 t : lst l 5 = true → w'.ownsRow wd.heap.size 129 12 (σ 5) 1 recL
 s : Blk w' q 129 recL.toArray
 b : Blk w' g 55 #[.string m, .slice none 0 0, cjB q σ l, .slice none 0 0]
 acc : Wr [g] wd w'
section
variable {m : ByteArray} {q : Nat} {wd : World} {g : Nat} {σ : Nat → Value} {l : Array Bool} {w1 w2 : World}
theorem own_wr {b : Nat} {T : TypeId} {z n : Nat} {v : Value} {xs : List Value} {ls : List Nat} (h : w1.ownsRow b T z v n xs) (r : Wr ls w1 w2) (hl : ∀ x ∈ ls, x < b) : w2.ownsRow b T z v n xs := by
 refine ⟨h.1, ?_⟩
 rcases h.2 with hn | ⟨g, cap, cur, rfl, hb, hgg, rest⟩
 ·exact .inl hn
 ·exact .inr ⟨g, cap, cur, rfl, hb, Blk.wr (show Blk w1 g T cur from hgg) r (fun h => by have := hl g h; omega), rest⟩
theorem CjI.quiet (h : CjI m q wd g σ l w1) (hz : l.size = 15) (i : Nat) (hi : i ≠ 5 ∧ i ≠ 12) (r : Wr [] w1 w2) : CjI m q wd g (upd σ i (cjV q g i)) (l.setIfInBounds i true) w2 := by
 have e5 : lst (l.setIfInBounds i true) 5 = lst l 5 := lst_ne (fun e => hi.1 e.symm)
 have e12 : lst (l.setIfInBounds i true) 12 = lst l 12 := lst_ne (fun e => hi.2 e.symm)
 have u5 : upd σ i (cjV q g i) 5 = σ 5 := upd_ne σ _ (fun e => hi.1 e.symm)
 refine ⟨fun j h5 hj => ?_, fun h12 => ?_, fun h5 => ?_, fun h5 => ?_, h.s.wr0 r, ?_, h.acc.trans' r (by simp)⟩
 ·by_cases hji : j = i
  ·subst hji
   exact upd_same _ _ _
  ·rw [upd_ne σ _ hji]
   rw [lst_ne hji] at hj
   exact h.v j h5 hj
 ·rw [e5]; rw [e12] at h12; exact h.o h12
 ·rw [e5] at h5
  by_cases h4 : 4 = i
  ·subst h4
   exact lst_same (by omega)
  ·rw [lst_ne h4]
   exact h.o4 h5
 ·rw [u5]; rw [e5] at h5; exact own_wr (h.t h5) r (by simp)
 ·unfold cjB
  rw [e12, u5]
  exact h.b.wr0 r
theorem own_base {b b' : Nat} {T : TypeId} {z n : Nat} {v : Value} {xs : List Value} (h : w1.ownsRow b T z v n xs) (hb : b' ≤ b) : w1.ownsRow b' T z v n xs := by
 refine ⟨h.1, ?_⟩
 rcases h.2 with hn | ⟨g, cap, cur, rfl, hb', rest⟩
 ·exact .inl hn
 ·exact .inr ⟨g, cap, cur, rfl, by omega, rest⟩
theorem CjI.called (h : CjI m q wd g σ l w1) (hz : l.size = 15) (hl : lst l 5 = false) (h4 : lst l 4 = true) (r : Wr [] w1 w2) {vt : Value} (ho : w2.ownsRow w1.heap.size 129 12 vt 1 recL) : CjI m q wd g (upd σ 5 vt) (l.setIfInBounds 5 true) w2 := by
 have n12 : lst l 12 = false := by
  cases h12 : lst l 12 with
  | false => rfl
  | true =>
   rw [h.o h12] at hl
   cases hl
 have e12 : lst (l.setIfInBounds 5 true) 12 = false := by rw [lst_ne (by decide)]; exact n12
 refine ⟨fun j h5 hj => ?_, fun h12 => ?_, fun h5 => ?_, fun _ => ?_, h.s.wr0 r, ?_, h.acc.trans' r (by simp)⟩
 ·rw [upd_ne σ _ h5]
  rw [lst_ne h5] at hj
  exact h.v j h5 hj
 ·rw [e12] at h12; cases h12
 ·rw [lst_ne (by decide)]; exact h4
 ·rw [upd_same]; exact own_base ho h.acc.size
 ·have := h.b.wr0 r
  unfold cjB at this ⊢
  rw [n12] at this
  rw [e12]
  exact this
theorem CjI.store (h : CjI m q wd g σ l w1) (hz : l.size = 15) (i : Nat) (hi : i ≠ 5 ∧ i ≠ 12 ∧ i ≠ 4) (k : Nat) (hk : k = 1 ∨ k = 3) (hgw : g < wd.heap.size) (hqg : q ≠ g) (hu : cjV q g i = undef) : CjI m q wd g (upd σ i undef) (l.setIfInBounds i true) (w1.setCell ⟨g, k, none⟩ (.slice none 0 0)) := by
 have r : Wr [g] w1 (w1.setCell ⟨g, k, none⟩ (.slice none 0 0)) := (Wr.refl [g] _).setOn (by simp) _
 have e5 : lst (l.setIfInBounds i true) 5 = lst l 5 := lst_ne (fun e => hi.1 e.symm)
 have e12 : lst (l.setIfInBounds i true) 12 = lst l 12 := lst_ne (fun e => hi.2.1 e.symm)
 have e4 : lst (l.setIfInBounds i true) 4 = lst l 4 := lst_ne (fun e => hi.2.2 e.symm)
 have u5 : upd σ i undef 5 = σ 5 := upd_ne σ _ (fun e => hi.1 e.symm)
 refine ⟨fun j h5 hj => ?_, fun h12 => ?_, fun h5 => ?_, fun h5 => ?_, h.s.wr r (by simpa using hqg), ?_, h.acc.trans r⟩
 ·by_cases hji : j = i
  ·subst hji
   rw [upd_same, hu]
  ·rw [upd_ne σ _ hji]
   rw [lst_ne hji] at hj
   exact h.v j h5 hj
 ·rw [e5]; rw [e12] at h12; exact h.o h12
 ·rw [e4]; rw [e5] at h5; exact h.o4 h5
 ·rw [u5]; rw [e5] at h5; exact own_wr (h.t h5) r (by simpa using hgw)
 ·have := h.b.set_ k (.slice none 0 0)
  unfold cjB at this ⊢
  rw [e12, u5]
  rcases hk with rfl | rfl <;> simpa using this
theorem CjI.stored (h : CjI m q wd g σ l w1) (hz : l.size = 15) (h5l : lst l 5 = true) (hgw : g < wd.heap.size) (hqg : q ≠ g) : CjI m q wd g (upd σ 12 undef) (l.setIfInBounds 12 true) (w1.setCell ⟨g, 2, none⟩ (σ 5)) := by
 have r : Wr [g] w1 (w1.setCell ⟨g, 2, none⟩ (σ 5)) := (Wr.refl [g] _).setOn (by simp) _
 have u5 : upd σ 12 undef 5 = σ 5 := upd_ne σ _ (by decide)
 refine ⟨fun j h5 hj => ?_, fun _ => ?_, fun h5 => ?_, fun h5 => ?_, h.s.wr r (by simpa using hqg), ?_, h.acc.trans r⟩
 ·by_cases hji : j = 12
  ·subst hji
   rw [upd_same]
   rfl
  ·rw [upd_ne σ _ hji]
   rw [lst_ne hji] at hj
   exact h.v j h5 hj
 ·rw [lst_ne (by decide)]; exact h5l
 ·rw [lst_ne (by decide)]; exact h.o4 h5l
 ·rw [u5]; exact own_wr (h.t h5l) r (by simpa using hgw)
 ·have := h.b.set_ 2 (σ 5)
  unfold cjB at this ⊢
  rw [lst_same (by omega), if_pos rfl, u5]
  simpa using this
end
def ckV (g : Nat) : Nat → Value
 | 0 => .pointer (some ⟨g, 0, none⟩)
 | 1 => .pointer (some ⟨g, 0, none⟩)
 | 2 => .pointer (some ⟨g, 0, none⟩)
 | 3 => .pointer (some ⟨g, 0, none⟩)
 | 4 => .pointer (some ⟨g, 0, none⟩)
 | 5 => .pointer (some ⟨g, 0, none⟩)
 | 9 => .pointer (some ⟨g, 0, none⟩)
 | 10 => .pointer (some ⟨g, 0, none⟩)
 | 14 => .pointer (some ⟨g, 0, none⟩)
 | 15 => .pointer (some ⟨g, 0, none⟩)
 | 19 => .pointer (some ⟨g, 0, none⟩)
 | 20 => .pointer (some ⟨g, 0, none⟩)
 | 24 => .pointer (some ⟨g, 0, none⟩)
 | 27 => .pointer (some ⟨g, 0, none⟩)
 | 30 => .pointer (some ⟨g, 0, none⟩)
 | 33 => .pointer (some ⟨g, 0, none⟩)
 | 6 => .pointer (some ⟨g, 7, none⟩)
 | 25 => .pointer (some ⟨g, 7, none⟩)
 | 11 => .pointer (some ⟨g, 8, none⟩)
 | 28 => .pointer (some ⟨g, 8, none⟩)
 | 16 => .pointer (some ⟨g, 9, none⟩)
 | 31 => .pointer (some ⟨g, 9, none⟩)
 | 21 => .pointer (some ⟨g, 10, none⟩)
 | 34 => .pointer (some ⟨g, 10, none⟩)
 | 26 => undef
 | 29 => undef
 | 32 => undef
 | 35 => undef
 | _ => .slice none 0 0
structure CkI (cap base : Nat) (wd : World) (g : Nat) (σ : Nat → Value) (l : Array Bool) (w' : World) : Prop where
 v : ∀ j, lst l j = true → σ j = ckV g j
 t : w'.ownsRow base 129 12 (.slice (some ⟨g, 0, none⟩) 1 cap) 1 recL
 acc : Wr [g] wd w'
theorem CkI.step {cap base : Nat} {wd : World} {g : Nat} {σ : Nat → Value} {l : Array Bool} {w1 w2 : World} (h : CkI cap base wd g σ l w1) (i : Nat) (ht : w2.ownsRow base 129 12 (.slice (some ⟨g, 0, none⟩) 1 cap) 1 recL) (r : Wr [g] w1 w2) : CkI cap base wd g (upd σ i (ckV g i)) (l.setIfInBounds i true) w2 := by
 refine ⟨fun j hj => ?_, ht, h.acc.trans r⟩
 by_cases hji : j = i
 ·subst hji
  exact upd_same _ _ _
 ·rw [upd_ne σ _ hji]
  rw [lst_ne hji] at hj
  exact h.v j hj
end Go.Proofs.YtildcdgobdfieaaGreat

namespace Go.Proofs.YtildcdgobdfieaaGreat
open Go.RowKit
def Lb (S : Nat) (lab : Nat → Nat × Nat) (i c : Nat) (b : Nat) : Prop := S ≤ b ∧ lab b = (i, c)
def OwnL (w : World) (S : Nat) (lab : Nat → Nat × Nat) (i c : Nat) (T : TypeId) (size : Nat) (v : Value) (n : Nat) (xs : List Value) : Prop :=
 w.ownsRow S T size v n xs ∧ ∀ g, v.ownBlock = some g → lab g = (i, c)
def Lba (S : Nat) (lab : Nat → Nat × Nat) (i : Nat) (b : Nat) : Prop := S ≤ b ∧ (lab b = (i, 2) ∨ lab b = (i, 4))
def ArmO (w : World) (S : Nat) (lab : Nat → Nat × Nat) (i : Nat) (xs : List Value) (j : Nat) (x : ArmD) : Prop :=
 ∃ va vb, xs[j * 3]? = some va ∧ xs[j * 3 + 1]? = some vb ∧ xs[j * 3 + 2]? = some (.bool x.els) ∧ OwnL w S lab i 4 2 1 va x.frm.length (x.frm.map (Value.int .i64)) ∧ OwnL w S lab i 4 2 1 vb x.to.length (x.to.map (Value.int .i64))
def ArmsO (w : World) (S : Nat) (lab : Nat → Nat × Nat) (i : Nat) (v : Value) (l : List ArmD) : Prop :=
 ∃ xs, OwnL w S lab i 2 187 3 v l.length xs ∧ (∀ u ∈ xs, u.oneCell' = true) ∧ ∀ j x, l[j]? = some x → ArmO w S lab i xs j x
structure TyO (w : World) (S : Nat) (lab : Nat → Nat × Nat) (i : Nat) (vn vf va vp : Value) (t : Ty) : Prop where
 names : SlStrs w (Lb S lab i 0) vn t.names
 fields : OwnL w S lab i 1 173 3 vf t.fields.length (t.fields.flatMap Fld.cells)
 arms : ArmsO w S lab i va t.arms
 params : OwnL w S lab i 3 175 2 vp t.params.length (t.params.flatMap Par.cells)
section
variable {w w' : World} {S i c : Nat} {lab lab' : Nat → Nat × Nat} {T : TypeId} {size n : Nat} {v vn vf va vp : Value} {xs : List Value} {t : Ty} {ls : List Nat}
theorem own_keep {b : Nat} (h : w.ownsRow b T size v n xs) (r : Wr ls w w') (hl : ∀ g, v.ownBlock = some g → g ∉ ls) : w'.ownsRow b T size v n xs := by
 refine ⟨h.1, ?_⟩
 rcases h.2 with hn | ⟨g, cap, cur, rfl, hb, hgg, rest⟩
 ·exact .inl hn
 ·exact .inr ⟨g, cap, cur, rfl, hb, Blk.wr (show Blk w g T cur from hgg) r (hl g rfl), rest⟩
theorem OwnL.keep (h : OwnL w S lab i c T size v n xs) (r : Wr ls w w') (hl : ∀ x ∈ ls, S ≤ x → lab x ≠ (i, c)) : OwnL w' S lab i c T size v n xs :=
 ⟨own_keep h.1 r (fun g hg hm => hl g hm (h.1.lt g hg).1 (h.2 g hg)), h.2⟩
theorem OwnL.relab (h : OwnL w S lab i c T size v n xs) (hl : ∀ b, b < w.heap.size → lab' b = lab b) : OwnL w S lab' i c T size v n xs :=
 ⟨h.1, fun g hg => by rw [hl g (h.1.lt g hg).2]; exact h.2 g hg⟩
theorem OwnL.sl (h : OwnL w S lab i c T size v n xs) : Sl w (Lb S lab i c) size v n xs := Sl.ofOwn h.1 fun b hb => ⟨(h.1.lt b hb).1, h.2 b hb⟩
theorem OwnL.low (h : OwnL w S lab i c T size v n xs) {S' : Nat} (hs : S' ≤ S) : OwnL w S' lab i c T size v n xs := ⟨own_base h.1 hs, h.2⟩
theorem ArmO.keep {xs : List Value} {j : Nat} {x : ArmD} (h : ArmO w S lab i xs j x) (r : Wr ls w w') (hl : ∀ y ∈ ls, S ≤ y → lab y ≠ (i, 4)) : ArmO w' S lab i xs j x := by
 obtain ⟨va, vb, e1, e2, e3, ka, kb⟩ := h
 exact ⟨va, vb, e1, e2, e3, ka.keep r hl, kb.keep r hl⟩
theorem ArmO.relab {xs : List Value} {j : Nat} {x : ArmD} (h : ArmO w S lab i xs j x) (hl : ∀ b, b < w.heap.size → lab' b = lab b) : ArmO w S lab' i xs j x := by
 obtain ⟨va, vb, e1, e2, e3, ka, kb⟩ := h
 exact ⟨va, vb, e1, e2, e3, ka.relab hl, kb.relab hl⟩
theorem ArmsO.keep {l : List ArmD} (h : ArmsO w S lab i v l) (r : Wr ls w w') (hl : ∀ y ∈ ls, S ≤ y → (lab y).1 ≠ i) : ArmsO w' S lab i v l := by
 obtain ⟨xs, h1, h2, h3⟩ := h
 exact ⟨xs, h1.keep r (fun x hx hs e => hl x hx hs (by rw [e])), h2, fun j x hx => (h3 j x hx).keep r (fun x hx hs e => hl x hx hs (by rw [e]))⟩
theorem ArmsO.relab {l : List ArmD} (h : ArmsO w S lab i v l) (hl : ∀ b, b < w.heap.size → lab' b = lab b) : ArmsO w S lab' i v l := by
 obtain ⟨xs, h1, h2, h3⟩ := h
 exact ⟨xs, h1.relab hl, h2, fun j x hx => (h3 j x hx).relab hl⟩
theorem ArmsO.low {l : List ArmD} (h : ArmsO w S lab i v l) {S' : Nat} (hs : S' ≤ S) : ArmsO w S' lab i v l := by
 obtain ⟨xs, h1, h2, h3⟩ := h
 exact ⟨xs, h1.low hs, h2, fun j x hx => by
  obtain ⟨va, vb, e1, e2, e3, ka, kb⟩ := h3 j x hx
  exact ⟨va, vb, e1, e2, e3, ka.low hs, kb.low hs⟩⟩
theorem ArmsO.arms {l : List ArmD} (h : ArmsO w S lab i v l) : SlArms w (Lba S lab i) v l := by
 obtain ⟨xs, h1, h2, h3⟩ := h
 exact ⟨xs, Sl.mono h1.sl (fun b hb => ⟨hb.1, .inl hb.2⟩), h2, fun j x hx => by
  obtain ⟨va, vb, e1, e2, e3, ka, kb⟩ := h3 j x hx
  exact ⟨va, vb, e1, e2, e3, Sl.mono ka.sl (fun b hb => ⟨hb.1, .inr hb.2⟩), Sl.mono kb.sl (fun b hb => ⟨hb.1, .inr hb.2⟩)⟩⟩
theorem TyO.keep (h : TyO w S lab i vn vf va vp t) (r : Wr ls w w') (hl : ∀ x ∈ ls, S ≤ x → (lab x).1 ≠ i) : TyO w' S lab i vn vf va vp t := by
 have hb : ∀ c b, Lb S lab i c b → b ∉ ls := fun c b hb hm => hl b hm hb.1 (by rw [hb.2])
 exact ⟨Sl.keep h.names r (hb 0), h.fields.keep r (fun x hx hs e => hl x hx hs (by rw [e])), h.arms.keep r hl, h.params.keep r (fun x hx hs e => hl x hx hs (by rw [e]))⟩
theorem TyO.relab (h : TyO w S lab i vn vf va vp t) (hl : ∀ b, b < w.heap.size → lab' b = lab b) : TyO w S lab' i vn vf va vp t := by
 have hb : ∀ c b, Lb S lab i c b → b < w.heap.size → Lb S lab' i c b := fun c b hb hlt => ⟨hb.1, by rw [hl b hlt]; exact hb.2⟩
 exact ⟨Sl.into h.names (hb 0), h.fields.relab hl, h.arms.relab hl, h.params.relab hl⟩
theorem TyO.lists (h : TyO w S lab i vn vf va vp t) : Lists w (fun b => S ≤ b) vn vf va vp t :=
 ⟨Sl.mono h.names (fun b hb => hb.1), Sl.mono h.fields.sl (fun b hb => hb.1), h.arms.arms.into (fun b hb _ => hb.1), Sl.mono h.params.sl (fun b hb => hb.1)⟩
theorem TyO.low {vn vf va vp : Value} (h : TyO w S lab i vn vf va vp t) {S' : Nat} (hs : S' ≤ S) : TyO w S' lab i vn vf va vp t := by
 have hb : ∀ c b, Lb S lab i c b → Lb S' lab i c b := fun c b hb => ⟨Nat.le_trans hs hb.1, hb.2⟩
 exact ⟨Sl.mono h.names (hb 0), ⟨own_base h.fields.1 hs, h.fields.2⟩, h.arms.low hs, ⟨own_base h.params.1 hs, h.params.2⟩⟩
end
def labNew (w : World) (lab : Nat → Nat × Nat) (i c : Nat) : Nat → Nat × Nat := fun b => if w.heap.size ≤ b then (i, c) else lab b
theorem labNew_old {w : World} {lab : Nat → Nat × Nat} {i c : Nat} : ∀ b, b < w.heap.size → labNew w lab i c b = lab b := fun b hb => if_neg (by omega)
theorem labNew_new {w : World} {lab : Nat → Nat × Nat} {i c b : Nat} (h : w.heap.size ≤ b) : labNew w lab i c b = (i, c) := if_pos h
theorem own_new {w w' : World} {S i c : Nat} {lab : Nat → Nat × Nat} {T : TypeId} {size n : Nat} {v : Value} {xs : List Value} (h : w'.ownsRow w.heap.size T size v n xs) (hS : S ≤ w.heap.size) : OwnL w' S (labNew w lab i c) i c T size v n xs :=
 ⟨own_base h hS, fun g hg => labNew_new (h.lt g hg).1⟩
theorem sl_new {w w' : World} {S i c : Nat} {lab : Nat → Nat × Nat} {size n : Nat} {v : Value} {xs : List Value} (h : Sl w' (fun b => w.heap.size ≤ b) size v n xs) (hS : S ≤ w.heap.size) : Sl w' (Lb S (labNew w lab i c) i c) size v n xs :=
 Sl.mono h (fun b hb => ⟨Nat.le_trans hS hb, labNew_new hb⟩)
end Go.Proofs.YtildcdgobdfieaaGreat

namespace Go.Proofs.YtildcdgobdfieaaGreat
open Go.RowKit
def CopR (S : Nat) (t : Ty) (xa : List Value) (i : Nat) (lab : Nat → Nat × Nat) : Nat → World → Value → Prop
 | 0, w, u => SlStrs w (Lb S lab i 0) u t.names
 | 1, w, u => OwnL w S lab i 1 173 3 u t.fields.length (t.fields.flatMap Fld.cells)
 | 2, w, u => OwnL w S lab i 2 187 3 u t.arms.length xa
 | _, w, u => OwnL w S lab i 3 175 2 u t.params.length (t.params.flatMap Par.cells)
section
variable {S i : Nat} {t : Ty} {xa : List Value} {lab lab' : Nat → Nat × Nat} {w w' : World} {u : Value} {ls : List Nat}
theorem CopR.keep {c : Nat} (h : CopR S t xa i lab c w u) (r : Wr ls w w') (hl : ∀ x ∈ ls, x < S) : CopR S t xa i lab c w' u := by
 have hb : ∀ c b, Lb S lab i c b → b ∉ ls := fun c b hb hm => by have := hl b hm; have := hb.1; omega
 have hx : ∀ c, ∀ x ∈ ls, S ≤ x → lab x ≠ (i, c) := fun c x hx hs => by have := hl x hx; omega
 match c, h with
 | 0, h => exact Sl.keep (h : SlStrs w (Lb S lab i 0) u t.names) r (hb 0)
 | 1, h => exact OwnL.keep (show OwnL w S lab i 1 _ 3 u _ _ from h) r (hx 1)
 | 2, h => exact OwnL.keep (show OwnL w S lab i 2 _ 3 u _ _ from h) r (hx 2)
 | _ + 3, h => exact OwnL.keep (show OwnL w S lab i 3 _ 2 u _ _ from h) r (hx 3)
theorem CopR.relab {c : Nat} (h : CopR S t xa i lab c w u) (hl : ∀ b, b < w.heap.size → lab' b = lab b) : CopR S t xa i lab' c w u := by
 have hb : ∀ c b, Lb S lab i c b → b < w.heap.size → Lb S lab' i c b := fun c b hb hlt => ⟨hb.1, by rw [hl b hlt]; exact hb.2⟩
 match c, h with
 | 0, h => exact Sl.into (h : SlStrs w (Lb S lab i 0) u t.names) (hb 0)
 | 1, h => exact OwnL.relab (show OwnL w S lab i 1 _ 3 u _ _ from h) hl
 | 2, h => exact OwnL.relab (show OwnL w S lab i 2 _ 3 u _ _ from h) hl
 | _ + 3, h => exact OwnL.relab (show OwnL w S lab i 3 _ 2 u _ _ from h) hl
end
def coC : Nat → Nat | 0 => 8 | 1 => 13 | 2 => 18 | _ => 23
def coS : Nat → Nat | 0 => 26 | 1 => 29 | 2 => 32 | _ => 35
def coU (src : Nat → Value) (σ : Nat → Value) (l : Array Bool) (c : Nat) : Value := if lst l (coS c) = true then σ (coC c) else src c
def coX (ys : List Value) (o : Nat) (f : Nat → Value) : List Value := (((ys.set (o + 7) (f 0)).set (o + 8) (f 1)).set (o + 9) (f 2)).set (o + 10) (f 3)
theorem coX_set (ys : List Value) (o : Nat) (f f' : Nat → Value) (c : Nat) (hc : c < 4) (hf : ∀ c', c' < 4 → c' ≠ c → f' c' = f c') : (coX ys o f).set (o + 7 + c) (f' c) = coX ys o f' := by
 unfold coX
 have n1 : ∀ a b : Nat, a ≠ b → o + a ≠ o + b := fun a b h => by omega
 match c, hc with
 | 0, _ =>
  rw [hf 1 (by decide) (by decide), hf 2 (by decide) (by decide), hf 3 (by decide) (by decide), Nat.add_zero, List.set_comm _ _ (n1 10 7 (by decide)), List.set_comm _ _ (n1 9 7 (by decide)), List.set_comm _ _ (n1 8 7 (by decide)), List.set_set]
 | 1, _ =>
  rw [hf 0 (by decide) (by decide), hf 2 (by decide) (by decide), hf 3 (by decide) (by decide), show o + 7 + 1 = o + 8 from rfl, List.set_comm _ _ (n1 10 8 (by decide)), List.set_comm _ _ (n1 9 8 (by decide)), List.set_set]
 | 2, _ =>
  rw [hf 0 (by decide) (by decide), hf 1 (by decide) (by decide), hf 3 (by decide) (by decide), show o + 7 + 2 = o + 9 from rfl, List.set_comm _ _ (n1 10 9 (by decide)), List.set_set]
 | 3, _ =>
  rw [hf 0 (by decide) (by decide), hf 1 (by decide) (by decide), hf 2 (by decide) (by decide), show o + 7 + 3 = o + 10 from rfl, List.set_set]
structure CoI (cnV : Nat → Value) (src : Nat → Value) (ys : List Value) (n cap B g o S : Nat) (t : Ty) (xa : List Value) (i : Nat) (lab0 : Nat → Nat × Nat) (wd : World) (σ : Nat → Value) (l : Array Bool) (w' : World) : Prop where
 v : ∀ j, (∀ c, c < 4 → j ≠ coC c) → lst l j = true → σ j = cnV j
 od : ∀ c, c < 4 → lst l (coS c) = true → lst l (coC c) = true
 ol : ∀ c, c < 4 → lst l (coC c) = true → lst l (coC c - 1) = true
 row : w'.ownsRow B 129 12 (.slice (some ⟨g, 0, none⟩) n cap) n (coX ys o (coU src σ l))
 lb : ∃ lab, (∀ b, b < wd.heap.size → lab b = lab0 b) ∧ ∀ c, c < 4 → lst l (coC c) = true → CopR S t xa i lab c w' (σ (coC c))
 acc : Wr [g] wd w'
theorem coCS : ∀ c, c < 4 → ∀ c', c' < 4 → coC c ≠ coS c' := by decide
theorem coC_1 : ∀ c, c < 4 → ∀ c', c' < 4 → coC c' - 1 ≠ coC c ∧ coC c' - 1 ≠ coS c := by decide
theorem coC_ne : ∀ c, c < 4 → ∀ c', c' < 4 → c ≠ c' → coC c ≠ coC c' := by decide
theorem coS_ne : ∀ c, c < 4 → ∀ c', c' < 4 → c ≠ c' → coS c ≠ coS c' := by decide
section
variable {cnV src : Nat → Value} {ys : List Value} {n cap B g o S : Nat} {t : Ty} {xa : List Value} {i : Nat} {lab0 : Nat → Nat × Nat} {wd : World} {σ : Nat → Value} {l : Array Bool} {w1 w2 : World}
theorem coX_congr {f f' : Nat → Value} (h : ∀ c, c < 4 → f c = f' c) : coX ys o f = coX ys o f' := by
 unfold coX
 rw [h 0 (by decide), h 1 (by decide), h 2 (by decide), h 3 (by decide)]
theorem CoI.quiet (h : CoI cnV src ys n cap B g o S t xa i lab0 wd σ l w1) (j : Nat) (hz : l.size = 36) (hjz : j < 36) (hj : (∀ c, c < 4 → j ≠ coC c) ∧ ∀ c, c < 4 → j ≠ coS c) (hgS : g < S) (r : Wr [] w1 w2) :
  CoI cnV src ys n cap B g o S t xa i lab0 wd (upd σ j (cnV j)) (l.setIfInBounds j true) w2 := by
 have eC : ∀ c, c < 4 → lst (l.setIfInBounds j true) (coC c) = lst l (coC c) := fun c hc => lst_ne (fun e => hj.1 c hc e.symm)
 have eS : ∀ c, c < 4 → lst (l.setIfInBounds j true) (coS c) = lst l (coS c) := fun c hc => lst_ne (fun e => hj.2 c hc e.symm)
 have uC : ∀ c, c < 4 → upd σ j (cnV j) (coC c) = σ (coC c) := fun c hc => upd_ne σ _ (fun e => hj.1 c hc e.symm)
 refine ⟨fun k hk hl => ?_, fun c hc hs => ?_, fun c hc hs => ?_, ?_, ?_, h.acc.trans' r (by simp)⟩
 ·by_cases hkj : k = j
  ·subst hkj
   exact upd_same _ _ _
  ·rw [upd_ne σ _ hkj]
   rw [lst_ne hkj] at hl
   exact h.v k hk hl
 ·rw [eC c hc]
  rw [eS c hc] at hs
  exact h.od c hc hs
 ·rw [eC c hc] at hs
  have := h.ol c hc hs
  by_cases e : coC c - 1 = j
  ·rw [e]
   exact lst_same (by omega)
  ·rw [lst_ne e]
   exact this
 ·have := own_wr h.row r (by simp)
  rw [coX_congr (f := coU src σ l) (f' := coU src (upd σ j (cnV j)) (l.setIfInBounds j true)) (fun c hc => by unfold coU; rw [eS c hc, uC c hc])] at this
  exact this
 ·obtain ⟨lab, h1, h2⟩ := h.lb
  exact ⟨lab, h1, fun c hc hs => by rw [uC c hc]; rw [eC c hc] at hs; exact (h2 c hc hs).keep r (by simp)⟩
theorem CoI.called (h : CoI cnV src ys n cap B g o S t xa i lab0 wd σ l w1) (c : Nat) (hc : c < 4) (hz : l.size = 36) (hl : lst l (coC c) = false) (hol : lst l (coC c - 1) = true) (hgS : g < S) (r : Wr [] w1 w2) {u : Value} (hu : ∀ lab, CopR S t xa i (labNew w1 lab i c) c w2 u) :
  CoI cnV src ys n cap B g o S t xa i lab0 wd (upd σ (coC c) u) (l.setIfInBounds (coC c) true) w2 := by
 have eS : ∀ c', c' < 4 → lst (l.setIfInBounds (coC c) true) (coS c') = lst l (coS c') := fun c' hc' => lst_ne (fun e => coCS c hc c' hc' e.symm)
 have hS : lst l (coS c) = false := by
  cases hs : lst l (coS c) with
  | false => rfl
  | true =>
   rw [h.od c hc hs] at hl
   cases hl
 refine ⟨fun k hk hl' => ?_, fun c' hc' hs => ?_, fun c' hc' hs => ?_, ?_, ?_, h.acc.trans' r (by simp)⟩
 ·have hkj := hk c hc
  rw [upd_ne σ _ hkj]
  rw [lst_ne hkj] at hl'
  exact h.v k hk hl'
 ·rw [eS c' hc'] at hs
  have := h.od c' hc' hs
  by_cases e : c' = c
  ·subst e
   rw [hS] at hs
   cases hs
  ·rw [lst_ne (coC_ne c' hc' c hc e)]
   exact this
 ·rw [lst_ne (coC_1 c hc c' hc').1]
  by_cases e : c' = c
  ·subst e
   exact hol
  ·rw [lst_ne (coC_ne c' hc' c hc e)] at hs
   exact h.ol c' hc' hs
 ·have := own_wr h.row r (by simp)
  rw [coX_congr (f := coU src σ l) (f' := coU src (upd σ (coC c) u) (l.setIfInBounds (coC c) true)) (fun c' hc' => by
   unfold coU
   rw [eS c' hc']
   by_cases e : c' = c
   ·subst e
    rw [hS]
    rfl
   ·rw [upd_ne σ _ (coC_ne c' hc' c hc e)])] at this
  exact this
 ·obtain ⟨lab, h1, h2⟩ := h.lb
  refine ⟨labNew w1 lab i c, fun b hb => by rw [labNew_old b (Nat.lt_of_lt_of_le hb h.acc.size)]; exact h1 b hb, fun c' hc' hs => ?_⟩
  by_cases e : c' = c
  ·subst e
   rw [upd_same]
   exact hu lab
  ·rw [upd_ne σ _ (coC_ne c' hc' c hc e)]
   rw [lst_ne (coC_ne c' hc' c hc e)] at hs
   exact ((h2 c' hc' hs).relab labNew_old).keep r (by simp)
theorem CoI.stored (h : CoI cnV src ys n cap B g o S t xa i lab0 wd σ l w1) (c : Nat) (hc : c < 4) (hz : l.size = 36) (hl : lst l (coC c) = true) (hgS : g < S) (hv : cnV (coS c) = undef) :
  CoI cnV src ys n cap B g o S t xa i lab0 wd (upd σ (coS c) undef) (l.setIfInBounds (coS c) true) (w1.setCell ⟨g, o + 7 + c, none⟩ (σ (coC c))) := by
 have r : Wr [g] w1 (w1.setCell ⟨g, o + 7 + c, none⟩ (σ (coC c))) := (Wr.refl [g] _).setOn (by simp) _
 have eC : ∀ c', c' < 4 → lst (l.setIfInBounds (coS c) true) (coC c') = lst l (coC c') := fun c' hc' => lst_ne (coCS c' hc' c hc)
 have uC : ∀ c', c' < 4 → upd σ (coS c) undef (coC c') = σ (coC c') := fun c' hc' => upd_ne σ _ (coCS c' hc' c hc)
 have hs36 : coS c < l.size := by
  rw [hz]
  exact (by decide : ∀ c, c < 4 → coS c < 36) c hc
 refine ⟨fun k hk hl' => ?_, fun c' hc' hs => ?_, fun c' hc' hs => ?_, ?_, ?_, h.acc.trans r⟩
 ·by_cases hkj : k = coS c
  ·subst hkj
   rw [upd_same, hv]
  ·rw [upd_ne σ _ hkj]
   rw [lst_ne hkj] at hl'
   exact h.v k hk hl'
 ·rw [eC c' hc']
  by_cases e : c' = c
  ·subst e
   exact hl
  ·rw [lst_ne (coS_ne c' hc' c hc e)] at hs
   exact h.od c' hc' hs
 ·rw [lst_ne (coC_1 c hc c' hc').2]
  rw [eC c' hc'] at hs
  exact h.ol c' hc' hs
 ·have := (h.row.stored (o + 7 + c) (σ (coC c))).1
  have e1 : coU src (upd σ (coS c) undef) (l.setIfInBounds (coS c) true) c = σ (coC c) := by
   unfold coU
   rw [lst_same hs36, if_pos rfl, uC c hc]
  rw [← e1, coX_set ys o (coU src σ l) (coU src (upd σ (coS c) undef) (l.setIfInBounds (coS c) true)) c hc (fun c' hc' hne => by unfold coU; rw [lst_ne (coS_ne c' hc' c hc hne), uC c' hc'])] at this
  rw [e1] at this
  exact this
 ·obtain ⟨lab, h1, h2⟩ := h.lb
  exact ⟨lab, h1, fun c' hc' hs => by rw [uC c' hc']; rw [eC c' hc'] at hs; exact (h2 c' hc' hs).keep r (by simpa using hgS)⟩
theorem CoI.unst (h : CoI cnV src ys n cap B g o S t xa i lab0 wd σ l w1) (c : Nat) (hc : c < 4) (hl : lst l (coC c - 1) = false) : lst l (coS c) = false := by
 cases hs : lst l (coS c) with
 | false => rfl
 | true =>
  rw [h.ol c hc (h.od c hc hs)] at hl
  cases hl
end
end Go.Proofs.YtildcdgobdfieaaGreat
