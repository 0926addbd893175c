/- LayoutArms, walked. No conditions. -/
import Derived.Test.YtloihffdolehhaaLyI
import Derived.Test.YtloihffdolehhaaRegL
namespace Go.Proofs.Ytloihffdolehhaa
open Go.RowKit
set_option linter.unusedVariables false
set_option linter.unusedSimpArgs false
attribute [local go_sem ↓] Go.wp_at_zero Go.wp_at_succ

theorem mk4 (w : World) : (Instr.makeSlice 35 (.int .i64 4) (.int .i64 4)).run Try.prog w = .ok (.slice (some ⟨w.heap.size, 0, none⟩) 4 4) (w.alloc (.cells #[Value.slice none 0 0, .slice none 0 0, .bool false, Value.slice none 0 0, .slice none 0 0, .bool false, Value.slice none 0 0, .slice none 0 0, .bool false, Value.slice none 0 0, .slice none 0 0, .bool false] 54)) := by kernel_rfl
def arrOf (R : Nat → Value) : Array Value := #[R 0, R 1, .bool false, R 2, R 3, .bool false, R 4, R 5, .bool false, R 6, R 7, .bool false]
theorem arr_at (R : Nat → Value) (r : Nat) (hr : r < 4) : (arrOf R)[r * 3]? = some (R (2 * r)) ∧ (arrOf R)[r * 3 + 1]? = some (R (2 * r + 1)) ∧ (arrOf R)[r * 3 + 2]? = some (.bool false) := by
  match r, hr with
  | 0, _ => exact ⟨rfl, rfl, rfl⟩
  | 1, _ => exact ⟨rfl, rfl, rfl⟩
  | 2, _ => exact ⟨rfl, rfl, rfl⟩
  | 3, _ => exact ⟨rfl, rfl, rfl⟩
def updR (R : Nat → Value) (r : Nat) (a b : Value) : Nat → Value := fun q => if q = 2 * r then a else if q = 2 * r + 1 then b else R q
theorem arr_set (R : Nat → Value) (r : Nat) (hr : r < 4) (a b : Value) : (((arrOf R).setIfInBounds (r * 3) a).setIfInBounds (r * 3 + 1) b).setIfInBounds (r * 3 + 2) (.bool false) = arrOf (updR R r a b) := by
  match r, hr with
  | 0, _ => rfl
  | 1, _ => rfl
  | 2, _ => rfl
  | 3, _ => rfl
/-- The rows of labels: each of its own. -/
structure LabRows (w : World) (base : Nat) (R : Nat → Value) (zs : List Int) (k : Nat) : Prop where
  row : ∀ q, q < 8 → w.ownsRow base 2 1 (R q) (labs zs (q / 2) k).length ((labs zs (q / 2) k).map (Value.int .i64))
  dis : ∀ q q', q < 8 → q' < 8 → q ≠ q' → ∀ x ∈ ownL (R q), x ∉ ownL (R q')
theorem updR_else {R : Nat → Value} {r q : Nat} {a b : Value} (h1 : q ≠ 2 * r) (h2 : q ≠ 2 * r + 1) : updR R r a b q = R q := by unfold updR; rw [if_neg h1, if_neg h2]
theorem updR_a {R : Nat → Value} {r : Nat} {a b : Value} : updR R r a b (2 * r) = a := if_pos rfl
theorem updR_b {R : Nat → Value} {r : Nat} {a b : Value} : updR R r a b (2 * r + 1) = b := by unfold updR; rw [if_neg (by omega), if_pos rfl]
/-- One label more. -/
theorem LabRows.step {wr w5 w6 w7 w8 W : World} {base : Nat} {R : Nat → Value} {zs : List Int} {k r g10 gA : Nat} {v6 v8 : Value} (h : LabRows wr base R zs k) (hr : r < 4) (hz : zs.getD k 0 % 4 = (r : Int)) (r5 : Wr [] wr w5)
    (ho6 : w6.ownsRow base 2 1 v6 (labs zs r k ++ [(k : Int)]).length ((labs zs r k ++ [(k : Int)]).map (Value.int .i64))) (r6 : Wr (ownL (R (2 * r))) w5 w6) (hat6 : v6.ownBlock = (R (2 * r)).ownBlock ∨ ∃ j, v6.ownBlock = some j ∧ w5.heap.size ≤ j)
    (r7 : Wr [g10] w6 w7) (ho8 : w8.ownsRow base 2 1 v8 (labs zs r k ++ [(k : Int)]).length ((labs zs r k ++ [(k : Int)]).map (Value.int .i64))) (r8 : Wr (ownL (R (2 * r + 1))) w7 w8) (hat8 : v8.ownBlock = (R (2 * r + 1)).ownBlock ∨ ∃ j, v8.ownBlock = some j ∧ w7.heap.size ≤ j)
    (r9 : Wr [g10, gA] w8 W) (hg : wr.heap.size ≤ g10) (hg5 : g10 < w5.heap.size) (hgA : gA < base) : LabRows W base (updR R r v6 v8) zs (k + 1) := by
  have z6 := r6.size
  have z7 := r7.size
  have z8 := r8.size
  have z5 := r5.size
  have hold : ∀ q, q < 8 → ∀ y ∈ ownL (R q), base ≤ y ∧ y < wr.heap.size := fun q hq y hy => (h.row q hq).lt y (mem_ownL.1 hy)
  have h6 : ∀ y ∈ ownL v6, y ∈ ownL (R (2 * r)) ∨ (w5.heap.size ≤ y ∧ y < w6.heap.size) := fun y hy => by
    have e1 := mem_ownL.1 hy
    rcases hat6 with e | ⟨j, e, hj⟩
    · exact .inl (mem_ownL.2 (e.symm.trans e1))
    · rw [e] at e1
      injection e1 with e1
      subst e1
      exact .inr ⟨hj, (ho6.lt j e).2⟩
  have h8 : ∀ y ∈ ownL v8, y ∈ ownL (R (2 * r + 1)) ∨ w7.heap.size ≤ y := fun y hy => by
    have e1 := mem_ownL.1 hy
    rcases hat8 with e | ⟨j, e, hj⟩
    · exact .inl (mem_ownL.2 (e.symm.trans e1))
    · rw [e] at e1
      injection e1 with e1
      subst e1
      exact .inr hj
  have d := h.dis (2 * r) (2 * r + 1) (by omega) (by omega) (by omega)
  refine ⟨fun q hq => ?_, fun q q' hq hq' hne x hx hx' => ?_⟩
  · by_cases c1 : q = 2 * r
    · subst c1
      have e : labs zs (2 * r / 2) (k + 1) = labs zs r k ++ [(k : Int)] := by rw [show 2 * r / 2 = r by omega, labs_succ, if_pos hz]
      rw [updR_a, e]
      refine ownsRow_wr (ownsRow_wr (ownsRow_wr ho6 r7 (fun y hy hm => ?_)) r8 (fun y hy hm => ?_)) r9 (fun y hy hm => ?_)
      · rw [List.mem_singleton] at hm
        rcases h6 y (mem_ownL.2 hy) with e | e
        · have := hold _ (by omega) y e; omega
        · omega
      · rcases h6 y (mem_ownL.2 hy) with e | e
        · exact d y e hm
        · have := hold _ (by omega) y hm; omega
      · have hb := (ho6.lt y hy).1
        simp only [List.mem_cons, List.not_mem_nil, or_false] at hm
        rcases hm with rfl | rfl
        · rcases h6 y (mem_ownL.2 hy) with e | e
          · have := hold _ (by omega) y e; omega
          · omega
        · omega
    · by_cases c2 : q = 2 * r + 1
      · subst c2
        have e : labs zs ((2 * r + 1) / 2) (k + 1) = labs zs r k ++ [(k : Int)] := by rw [show (2 * r + 1) / 2 = r by omega, labs_succ, if_pos hz]
        rw [updR_b, e]
        refine ownsRow_wr ho8 r9 (fun y hy hm => ?_)
        have hb := (ho8.lt y hy).1
        simp only [List.mem_cons, List.not_mem_nil, or_false] at hm
        rcases hm with rfl | rfl
        · rcases h8 y (mem_ownL.2 hy) with e | e
          · have := hold _ (by omega) y e; omega
          · omega
        · omega
      · have e : labs zs (q / 2) (k + 1) = labs zs (q / 2) k := by rw [labs_succ, if_neg (by omega)]
        rw [updR_else c1 c2, e]
        have hq0 := fun y (hy : (R q).ownBlock = some y) => hold q hq y (mem_ownL.2 hy)
        refine ownsRow_wr (ownsRow_wr (ownsRow_wr (ownsRow_wr (ownsRow_wr0 (h.row q hq) r5) r6 (fun y hy hm => ?_)) r7 (fun y hy hm => ?_)) r8 (fun y hy hm => ?_)) r9 (fun y hy hm => ?_)
        · exact h.dis q (2 * r) hq (by omega) c1 y (mem_ownL.2 hy) hm
        · rw [List.mem_singleton] at hm
          have := hq0 y hy; omega
        · exact h.dis q (2 * r + 1) hq (by omega) c2 y (mem_ownL.2 hy) hm
        · have := hq0 y hy
          simp only [List.mem_cons, List.not_mem_nil, or_false] at hm
          omega
  · have cls : ∀ q, q < 8 → ∀ x ∈ ownL (updR R r v6 v8 q), (x ∈ ownL (R q)) ∨ (q = 2 * r ∧ w5.heap.size ≤ x ∧ x < w6.heap.size) ∨ (q = 2 * r + 1 ∧ w7.heap.size ≤ x) := fun q hq x hx => by
      by_cases c1 : q = 2 * r
      · subst c1
        rw [updR_a] at hx
        rcases h6 x hx with e | e
        · exact .inl e
        · exact .inr (.inl ⟨rfl, e⟩)
      · by_cases c2 : q = 2 * r + 1
        · subst c2
          rw [updR_b] at hx
          rcases h8 x hx with e | e
          · exact .inl e
          · exact .inr (.inr ⟨rfl, e⟩)
        · rw [updR_else c1 c2] at hx
          exact .inl hx
    rcases cls q hq x hx with e | ⟨e, e1, e2⟩ | ⟨e, e1⟩ <;> rcases cls q' hq' x hx' with f | ⟨f, f1, f2⟩ | ⟨f, f1⟩
    · exact h.dis q q' hq hq' hne x e f
    · have := hold q hq x e; omega
    · have := hold q hq x e; omega
    · have := hold q' hq' x f; omega
    · omega
    · omega
    · have := hold q' hq' x f; omega
    · omega
    · omega
theorem arms_at {w : World} {base : Nat} {R : Nat → Value} {zs : List Int} (h : LabRows w base R zs zs.length) (r : Nat) (hr : r < 4) : ArmAt w (fun _ => True) (arrOf R).toList r (armOne zs r) := by
  obtain ⟨e0, e1, e2⟩ := arr_at R r hr
  have hf := h.row (2 * r) (by omega)
  have hg := h.row (2 * r + 1) (by omega)
  rw [show 2 * r / 2 = r by omega] at hf
  rw [show (2 * r + 1) / 2 = r by omega] at hg
  exact ⟨_, _, by rw [Array.getElem?_toList]; exact e0, by rw [Array.getElem?_toList]; exact e1, by rw [Array.getElem?_toList]; exact e2, Sl.ofOwn hf (fun _ _ => trivial), Sl.ofOwn hg (fun _ _ => trivial)⟩
theorem arms_one {w : World} {base : Nat} {R : Nat → Value} {zs : List Int} {k : Nat} (h : LabRows w base R zs k) : ∀ u ∈ (arrOf R).toList, u.oneCell' = true := by
  have hR : ∀ q, q < 8 → (R q).oneCell' = true := fun q hq => by
    obtain ⟨A, c, e, _, _⟩ := Sl.form (P := fun _ => True) (Sl.ofOwn (h.row q hq) (fun _ _ => trivial))
    rw [e]
    rfl
  intro u hu
  simp only [arrOf, List.mem_cons, List.not_mem_nil, or_false] at hu
  rcases hu with rfl | rfl | rfl | rfl | rfl | rfl | rfl | rfl | rfl | rfl | rfl | rfl
  · exact hR 0 (by omega)
  · exact hR 1 (by omega)
  · rfl
  · exact hR 2 (by omega)
  · exact hR 3 (by omega)
  · rfl
  · exact hR 4 (by omega)
  · exact hR 5 (by omega)
  · rfl
  · exact hR 6 (by omega)
  · exact hR 7 (by omega)
  · rfl
theorem arms_no {w : World} {base g : Nat} {R : Nat → Value} {zs : List Int} (h : LabRows w base R zs zs.length) (hb : Blk w g 54 (arrOf R)) : SlArms w (fun _ => True) (.slice (some ⟨g, 0, none⟩) 4 4) (armsT zs false) := by
  refine ⟨(arrOf R).toList, Sl.mono (Sl.ofBlk hb 3 4 rfl (by simp only [maxLen]; omega)) (fun _ _ => trivial), arms_one h, fun i x hi => ?_⟩
  have hi4 : i < 4 := (List.getElem?_eq_some_iff.1 hi).1
  have : x = armOne zs i := by
    match i, hi4 with
    | 0, _ => injection hi with hi; exact hi.symm
    | 1, _ => injection hi with hi; exact hi.symm
    | 2, _ => injection hi with hi; exact hi.symm
    | 3, _ => injection hi with hi; exact hi.symm
  rw [this]
  exact arms_at h i hi4
theorem arms_yes {w W : World} {base base' cap g7 : Nat} {R : Nat → Value} {zs : List Int} {l : List Nat} (h : LabRows w base R zs zs.length) (hw : Wr l w W) (hl : ∀ x ∈ l, x < base)
    (ho : W.ownsRow base' 54 3 (.slice (some ⟨g7, 0, none⟩) 5 cap) 5 ((arrOf R).toList ++ [.slice none 0 0, .slice none 0 0, .bool true])) : SlArms W (fun _ => True) (.slice (some ⟨g7, 0, none⟩) 5 cap) (armsT zs true) := by
  have h' : LabRows W base R zs zs.length := ⟨fun q hq => ownsRow_wr (h.row q hq) hw (fun y hy hm => by
    have := hl y hm
    have := ((h.row q hq).lt y hy).1
    omega), h.dis⟩
  refine ⟨(arrOf R).toList ++ [.slice none 0 0, .slice none 0 0, .bool true], Sl.ofOwn ho (fun _ _ => trivial), fun u hu => ?_, fun i x hi => ?_⟩
  · rcases List.mem_append.1 hu with e | e
    · exact arms_one h' u e
    · simp only [List.mem_cons, List.not_mem_nil, or_false] at e
      rcases e with rfl | rfl | rfl <;> rfl
  · have hi5 : i < 5 := (List.getElem?_eq_some_iff.1 hi).1
    by_cases hi4 : i < 4
    · have : x = armOne zs i := by
        match i, hi4 with
        | 0, _ => injection hi with hi; exact hi.symm
        | 1, _ => injection hi with hi; exact hi.symm
        | 2, _ => injection hi with hi; exact hi.symm
        | 3, _ => injection hi with hi; exact hi.symm
      rw [this]
      exact (arms_at h' i hi4).app
    · obtain rfl : i = 4 := by omega
      injection hi with hi
      subst hi
      exact ⟨.slice none 0 0, .slice none 0 0, rfl, rfl, rfl, Sl.nil _ _ 1, Sl.nil _ _ 1⟩
theorem roomT (zs : List Int) (other : Bool) (h : zs.length ≤ 40) : (tyT zs other).room := by
  refine ⟨by simp [tyT], by simp [tyT], by cases other <;> simp [tyT, armsT], by simp [tyT], fun x hx => ?_⟩
  have h0 : ∀ r, (armOne zs r).frm.length ≤ 1099511627776 ∧ (armOne zs r).to.length ≤ 1099511627776 := fun r => by
    have := labs_len zs r zs.length
    exact ⟨by show (labs zs r zs.length).length ≤ _; omega, by show (labs zs r zs.length).length ≤ _; omega⟩
  have hx' : x ∈ armsT zs other := hx
  unfold armsT at hx'
  rcases List.mem_append.1 hx' with e | e
  · simp only [List.mem_cons, List.not_mem_nil, or_false] at e
    rcases e with rfl | rfl | rfl | rfl <;> exact h0 _
  · cases other with
    | true =>
      simp only [if_true, List.mem_singleton] at e
      rw [e]
      exact ⟨by decide, by decide⟩
    | false => simp at e
theorem armOf_T (zs : List Int) (other : Bool) (hz : ∀ i, i < zs.length → 0 ≤ zs.getD i 0) (tag : Nat) :
    armOf (tys0 ++ [tyT zs other]) 10 tag = if tag < zs.length then (2 + zs.getD tag 0 % 4, true) else if other = true then (6, true) else (0, false) := by
  have e : tyOf (tys0 ++ [tyT zs other]) 10 = tyT zs other := rfl
  rw [armOf, e, if_neg (by show ¬((12 : Int) ≠ 12); simp)]
  exact armK_T zs other hz tag
def ArmsIn (w2 : World) (zs : List Int) (gA : Nat) (s9 : Value) (wr : World) : Prop :=
  ∃ (k : Nat) (R : Nat → Value), k ≤ zs.length ∧ s9 = .int .i64 k ∧ Wr [gA] w2 wr ∧ Blk wr gA 54 (arrOf R) ∧ LabRows wr w2.heap.size R zs k

set_option maxRecDepth 100000 in
set_option maxHeartbeats 8000000 in
theorem arms_walk (w : World) (v0 : Value) (h0 : IsInts .u8 w v0) (other : Bool) (tag : Int) (wt : (Lit.int .u8 tag).wf = true) :
    Calls Try.prog 5 #[v0, .bool other, .int .u8 tag] w fun e w' => e = .returned (.bool true) ∧ Wr [] w w' := by
  obtain ⟨A0, len, c0, zs, rfl, hl0, hm0, rfl, hwf, hcell⟩ := h0
  obtain ⟨t0, t1⟩ := Go.bounds_u8 wt
  unfold maxLen at hm0
  have hw := fun w => works_any w
  have HWF := Lib.hid hwf
  have HCELL := Lib.hid hcell
  clear hwf hcell wt
  by_cases hbig : 40 < zs.length
  · go_enter Try.func5, Try.ntmps5
    go_wp2_with fail
    refine (hw _).mono ?_
    rintro e w2 ⟨rfl, k⟩
    go_wp2_with fail
    go_ret
    exact ⟨rfl, k⟩
  have hmk := mk4
  go_enter Try.func5, Try.ntmps5
  go_wp2_with fail
  refine (newN (Wr.refl [] w)).mono ?_
  rintro e w1 ⟨t, rfl, h1⟩
  have H1 := Lib.hid h1
  clear h1
  go_wp2_with fail
  have hbF := ((Blk.new w1 45 #[.string ⟨#[116]⟩, .int .i64 2, .int .i64 1]).alloc (.cells #[Value.slice none 0 0, .slice none 0 0, .bool false, Value.slice none 0 0, .slice none 0 0, .bool false, Value.slice none 0 0, .slice none 0 0, .bool false, Value.slice none 0 0, .slice none 0 0, .bool false] 54)).alloc (.cells #[.int .u8 12, .string ⟨#[]⟩, .string ⟨#[]⟩, .int .i64 0, .int .i64 0, .int .i64 0, .int .i64 0, .slice none 0 0, .slice (some ⟨w1.heap.size, 0, none⟩) 1 1, .slice (some ⟨w1.heap.size + 1, 0, none⟩) 4 4, .slice none 0 0, .int .i64 0] 38)
  have hbA := (Blk.new (w1.alloc (.cells #[.string ⟨#[116]⟩, .int .i64 2, .int .i64 1] 45)) 54 #[Value.slice none 0 0, .slice none 0 0, .bool false, Value.slice none 0 0, .slice none 0 0, .bool false, Value.slice none 0 0, .slice none 0 0, .bool false, Value.slice none 0 0, .slice none 0 0, .bool false]).alloc (.cells #[.int .u8 12, .string ⟨#[]⟩, .string ⟨#[]⟩, .int .i64 0, .int .i64 0, .int .i64 0, .int .i64 0, .slice none 0 0, .slice (some ⟨w1.heap.size, 0, none⟩) 1 1, .slice (some ⟨w1.heap.size + 1, 0, none⟩) 4 4, .slice none 0 0, .int .i64 0] 38)
  have hbX := Blk.new ((w1.alloc (.cells #[.string ⟨#[116]⟩, .int .i64 2, .int .i64 1] 45)).alloc (.cells #[Value.slice none 0 0, .slice none 0 0, .bool false, Value.slice none 0 0, .slice none 0 0, .bool false, Value.slice none 0 0, .slice none 0 0, .bool false, Value.slice none 0 0, .slice none 0 0, .bool false] 54)) 38 #[.int .u8 12, .string ⟨#[]⟩, .string ⟨#[]⟩, .int .i64 0, .int .i64 0, .int .i64 0, .int .i64 0, .slice none 0 0, .slice (some ⟨w1.heap.size, 0, none⟩) 1 1, .slice (some ⟨w1.heap.size + 1, 0, none⟩) 4 4, .slice none 0 0, .int .i64 0]
  have acc := (((Wr.refl [] w1).alloc (.cells #[.string ⟨#[116]⟩, .int .i64 2, .int .i64 1] 45)).alloc (.cells #[Value.slice none 0 0, .slice none 0 0, .bool false, Value.slice none 0 0, .slice none 0 0, .bool false, Value.slice none 0 0, .slice none 0 0, .bool false, Value.slice none 0 0, .slice none 0 0, .bool false] 54)).alloc (.cells #[.int .u8 12, .string ⟨#[]⟩, .string ⟨#[]⟩, .int .i64 0, .int .i64 0, .int .i64 0, .int .i64 0, .slice none 0 0, .slice (some ⟨w1.heap.size, 0, none⟩) 1 1, .slice (some ⟨w1.heap.size + 1, 0, none⟩) 4 4, .slice none 0 0, .int .i64 0] 38)
  simp only [World.size_alloc] at hbA hbX
  generalize ((w1.alloc (.cells #[.string ⟨#[116]⟩, .int .i64 2, .int .i64 1] 45)).alloc (.cells #[Value.slice none 0 0, .slice none 0 0, .bool false, Value.slice none 0 0, .slice none 0 0, .bool false, Value.slice none 0 0, .slice none 0 0, .bool false, Value.slice none 0 0, .slice none 0 0, .bool false] 54)).alloc (.cells #[.int .u8 12, .string ⟨#[]⟩, .string ⟨#[]⟩, .int .i64 0, .int .i64 0, .int .i64 0, .int .i64 0, .slice none 0 0, .slice (some ⟨w1.heap.size, 0, none⟩) 1 1, .slice (some ⟨w1.heap.size + 1, 0, none⟩) 4 4, .slice none 0 0, .int .i64 0] 38) = w2 at *
  have hxs := hbX.lt
  have hw1 : w.heap.size ≤ w1.heap.size := H1.out.wr.size
  generalize hhx : w1.heap.size + 1 + 1 = hx at *
  generalize hhA : w1.heap.size + 1 = gA at *
  generalize hhF : w1.heap.size = gF at *
  have hAx : gA < hx := by omega
  have hFA : gF < gA := by omega
  have HGF := Lib.hid hhF
  clear hhx hhA hhF
  have at0 : ArmsIn w2 zs gA (.int .i64 0) w2 := ⟨0, fun _ => .slice none 0 0, Nat.zero_le _, rfl, Wr.refl _ _, hbA, fun q hq => World.ownsRow_nil _ _ _ _, fun q q' _ _ _ x hx => by simp [ownL, Value.ownBlock] at hx⟩
  have AT0 := Lib.hid at0
  have HBF := Lib.hid hbF
  have HBX := Lib.hid hbX
  have ACC := Lib.hid acc
  clear hbF hbA hbX acc at0 hmk
  go_loopw [9] (fun s9 wr => ArmsIn w2 zs gA s9 wr) (fun s9 _ => zs.length - (intOf s9).toNat)
  case atStart => exact AT0.out
  case round =>
    clear AT0
    obtain ⟨k, R, hk, rfl, hr, hbA, hrows⟩ := hrel
    have hbx := HBX.out.wr hr (by simp; omega)
    have x9 := hbx.cell 9
    simp only [List.getElem?_toArray, List.getElem?_cons_zero, List.getElem?_cons_succ] at x9
    have zr := hr.size
    by_cases hlt : k < zs.length
    · obtain ⟨b, off, rfl, hc⟩ := HCELL.out k hlt
      have hbw := World.block_lt_of_cell? w _ hc
      simp only at hbw
      replace hc := hr.cellOf (ACC.out.cellOf (H1.out.wr.cellOf hc (by simp)) (by simp)) (by simp; omega)
      obtain ⟨z, hz⟩ : ∃ z, z = zs.getD k 0 := ⟨_, rfl⟩
      have hzw := Go.bounds_u8 (HWF.out k hlt)
      rw [← hz] at hc hzw
      obtain ⟨z0, z1⟩ := hzw
      obtain ⟨r, hrz⟩ : ∃ r : Nat, z % 4 = (r : Int) := ⟨(z % 4).toNat, by omega⟩
      have hr4 : r < 4 := by omega
      have q1 : Int.tmod z 4 = (r : Int) := by rw [Int.tmod_eq_emod_of_nonneg z0, hrz]
      have hzr : zs.getD k 0 % 4 = (r : Int) := by rw [← hz]; exact hrz
      obtain ⟨e0, e1, e2⟩ := arr_at R r hr4
      have c0 := (hbA.cell (r * 3)).trans e0
      have c1 := (hbA.cell (r * 3 + 1)).trans e1
      have c2 := (hbA.cell (r * 3 + 2)).trans e2
      have rowf := hrows.row (2 * r) (by omega)
      have rowg := hrows.row (2 * r + 1) (by omega)
      rw [show 2 * r / 2 = r by omega] at rowf
      rw [show (2 * r + 1) / 2 = r by omega] at rowg
      have hnk := labs_len zs r k
      obtain ⟨lb, hlb⟩ : ∃ lb, lb = labs zs r k := ⟨_, rfl⟩
      rw [← hlb] at rowf rowg hnk
      obtain ⟨Af, cf, hvf, _, _⟩ := Sl.form (P := fun _ => True) (Sl.ofOwn rowf (fun _ _ => trivial))
      obtain ⟨Ag, cg, hvg, _, _⟩ := Sl.form (P := fun _ => True) (Sl.ofOwn rowg (fun _ _ => trivial))
      rw [hvf] at c0 rowf
      rw [hvg] at c1 rowg
      have hr0 : (0 : Int) ≤ (r : Int) := by omega
      have hr1 : (r : Int) < 4 := by omega
      have hi0 : (0 : Int) ≤ (k : Int) := by omega
      have hi1 : (k : Int) < (zs.length : Int) := by omega
      have zgA := hbA.lt
      have zhx := hbx.lt
      have zb := World.block_lt_of_cell? wr _ hc
      have HVF := Lib.hid hvf
      have HVG := Lib.hid hvg
      have HZR := Lib.hid hzr
      have HLB := Lib.hid hlb
      have HR := Lib.hid hr
      have HBA := Lib.hid hbA
      have HBX2 := Lib.hid hbx
      have HROWS := Lib.hid hrows
      have ROWF := Lib.hid rowf
      have ROWG := Lib.hid rowg
      clear hvf hvg hzr hlb hr hbA hbx hrows rowf rowg hz e0 e1 e2 hrz
      go_wp2_with fail
      have hC : ∀ W, Wr [] wr W → W.cell? ⟨hx, 9, none⟩ = some (.slice (some ⟨gA, 0, none⟩) 4 4) ∧ W.cell? ⟨b, off + k, none⟩ = some (.int .u8 z) ∧ W.cell? ⟨gA, r * 3, none⟩ = some (.slice Af lb.length cf) ∧ W.cell? ⟨gA, r * 3 + 1, none⟩ = some (.slice Ag lb.length cg) ∧ W.cell? ⟨gA, r * 3 + 2, none⟩ = some (.bool false) := fun W hW => ⟨hW.cellOf x9 (by simp), hW.cellOf hc (by simp), hW.cellOf c0 (by simp), hW.cellOf c1 (by simp), hW.cellOf c2 (by simp)⟩
      have HC := Lib.hid hC
      clear hC
      refine wp_region_noPanic ?_
      refine wp_region_L (Until 10 fun w' => w'.cell? ⟨hx, 9, none⟩ = some (.slice (some ⟨gA, 0, none⟩) 4 4) ∧ w'.cell? ⟨b, off + k, none⟩ = some (.int .u8 z) ∧ w'.cell? ⟨gA, r * 3, none⟩ = some (.slice Af lb.length cf) ∧ w'.cell? ⟨gA, r * 3 + 1, none⟩ = some (.slice Ag lb.length cg) ∧ w'.cell? ⟨gA, r * 3 + 2, none⟩ = some (.bool false)) (by kernel_rfl) (fun hcl => ?_)
      have hS : Until 10 (fun w' => w'.cell? ⟨hx, 9, none⟩ = some (.slice (some ⟨gA, 0, none⟩) 4 4) ∧ w'.cell? ⟨b, off + k, none⟩ = some (.int .u8 z) ∧ w'.cell? ⟨gA, r * 3, none⟩ = some (.slice Af lb.length cf) ∧ w'.cell? ⟨gA, r * 3 + 1, none⟩ = some (.slice Ag lb.length cg) ∧ w'.cell? ⟨gA, r * 3 + 2, none⟩ = some (.bool false)) (Array.replicate 11 false) wr.drew := fun _ => ⟨x9, hc, c0, c1, c2⟩
      refine wpAnyL_take (i := 0) (oi := ?oi1) (v := ?v1) ?hi1 (by kernel_rfl) (by kernel_rfl) (by kernel_rfl) (fun _ _ _ h => h) (until_take 10 _ (by decide)) ?hy1 hcl hS ?rest1
      case hi1 =>
        simp only [List.getElem?_toArray, List.getElem?_cons_succ, List.getElem?_cons_zero]
        rfl
      case hy1 =>
        refine yields_until (by kernel_rfl) (Or.inl ⟨by rfl, fun w' hS => ?_⟩)
        try go_split_ands
        go_simp
        try rfl
      case rest1 =>
      intro hcl1 hS1
      clear hcl hS
      try simp only [Act.put, List.setIfInBounds_toArray, List.set_cons_zero, List.set_cons_succ]
      refine wpAnyL_take (i := 1) (oi := ?oi2) (v := ?v2) ?hi2 (by kernel_rfl) (by kernel_rfl) (by kernel_rfl) (fun _ _ _ h => h) (until_take 10 _ (by decide)) ?hy2 hcl1 hS1 ?rest2
      case hi2 =>
        simp only [List.getElem?_toArray, List.getElem?_cons_succ, List.getElem?_cons_zero]
        rfl
      case hy2 =>
        refine yields_until (by kernel_rfl) (Or.inl ⟨by rfl, fun w' hS => ?_⟩)
        try go_split_ands
        go_simp
        try rfl
      case rest2 =>
      intro hcl2 hS2
      clear hcl1 hS1
      try simp only [Act.put, List.setIfInBounds_toArray, List.set_cons_zero, List.set_cons_succ]
      refine wpAnyL_take (i := 2) (oi := ?oi3) (v := ?v3) ?hi3 (by kernel_rfl) (by kernel_rfl) (by kernel_rfl) (fun _ _ _ h => h) (until_take 10 _ (by decide)) ?hy3 hcl2 hS2 ?rest3
      case hi3 =>
        simp only [List.getElem?_toArray, List.getElem?_cons_succ, List.getElem?_cons_zero]
        rfl
      case hy3 =>
        refine yields_until (by kernel_rfl) (Or.inl ⟨by rfl, fun w' hS => ?_⟩)
        try go_split_ands
        go_simp
        try rfl
      case rest3 =>
      intro hcl3 hS3
      clear hcl2 hS2
      try simp only [Act.put, List.setIfInBounds_toArray, List.set_cons_zero, List.set_cons_succ]
      refine wpAnyL_take (i := 3) (oi := ?oi4) (v := ?v4) ?hi4 (by kernel_rfl) (by kernel_rfl) (by kernel_rfl) (fun _ _ _ h => h) (until_take 10 _ (by decide)) ?hy4 hcl3 hS3 ?rest4
      case hi4 =>
        simp only [List.getElem?_toArray, List.getElem?_cons_succ, List.getElem?_cons_zero]
        rfl
      case hy4 =>
        refine yields_until (by kernel_rfl) (Or.inl ⟨by rfl, fun w' hS => ?_⟩)
        try go_split_ands
        go_simp
        try rfl
      case rest4 =>
      intro hcl4 hS4
      clear hcl3 hS3
      try simp only [Act.put, List.setIfInBounds_toArray, List.set_cons_zero, List.set_cons_succ]
      refine wpAnyL_take (i := 4) (oi := ?oi5) (v := ?v5) ?hi5 (by kernel_rfl) (by kernel_rfl) (by kernel_rfl) (fun _ _ _ h => h) (until_take 10 _ (by decide)) ?hy5 hcl4 hS4 ?rest5
      case hi5 =>
        simp only [List.getElem?_toArray, List.getElem?_cons_succ, List.getElem?_cons_zero]
        rfl
      case hy5 =>
        refine yields_until (by kernel_rfl) (Or.inl ⟨by rfl, fun w' hS => ?_⟩)
        try go_split_ands
        go_simp
        try rfl
      case rest5 =>
      intro hcl5 hS5
      clear hcl4 hS4
      try simp only [Act.put, List.setIfInBounds_toArray, List.set_cons_zero, List.set_cons_succ]
      refine wpAnyL_take (i := 5) (oi := ?oi6) (v := ?v6) ?hi6 (by kernel_rfl) (by kernel_rfl) (by kernel_rfl) (fun _ _ _ h => h) (until_take 10 _ (by decide)) ?hy6 hcl5 hS5 ?rest6
      case hi6 =>
        simp only [List.getElem?_toArray, List.getElem?_cons_succ, List.getElem?_cons_zero]
        rfl
      case hy6 =>
        refine yields_until (by kernel_rfl) (Or.inl ⟨by rfl, fun w' hS => ?_⟩)
        try go_split_ands
        go_simp
        try rfl
      case rest6 =>
      intro hcl6 hS6
      clear hcl5 hS5
      try simp only [Act.put, List.setIfInBounds_toArray, List.set_cons_zero, List.set_cons_succ]
      refine wpAnyL_take (i := 6) (oi := ?oi7) (v := ?v7) ?hi7 (by kernel_rfl) (by kernel_rfl) (by kernel_rfl) (fun _ _ _ h => h) (until_take 10 _ (by decide)) ?hy7 hcl6 hS6 ?rest7
      case hi7 =>
        simp only [List.getElem?_toArray, List.getElem?_cons_succ, List.getElem?_cons_zero]
        rfl
      case hy7 =>
        refine yields_until (by kernel_rfl) (Or.inl ⟨by rfl, fun w' hS => ?_⟩)
        try go_split_ands
        go_simp
        try rfl
      case rest7 =>
      intro hcl7 hS7
      clear hcl6 hS6
      try simp only [Act.put, List.setIfInBounds_toArray, List.set_cons_zero, List.set_cons_succ]
      refine wpAnyL_take (i := 7) (oi := ?oi8) (v := ?v8) ?hi8 (by kernel_rfl) (by kernel_rfl) (by kernel_rfl) (fun _ _ _ h => h) (until_take 10 _ (by decide)) ?hy8 hcl7 hS7 ?rest8
      case hi8 =>
        simp only [List.getElem?_toArray, List.getElem?_cons_succ, List.getElem?_cons_zero]
        rfl
      case hy8 =>
        refine yields_until (by kernel_rfl) (Or.inl ⟨by rfl, fun w' hS => ?_⟩)
        try go_split_ands
        go_simp
        try rfl
      case rest8 =>
      intro hcl8 hS8
      clear hcl7 hS7
      try simp only [Act.put, List.setIfInBounds_toArray, List.set_cons_zero, List.set_cons_succ]
      refine wpAnyL_take (i := 8) (oi := ?oi9) (v := ?v9) ?hi9 (by kernel_rfl) (by kernel_rfl) (by kernel_rfl) (fun _ _ _ h => h) (until_take 10 _ (by decide)) ?hy9 hcl8 hS8 ?rest9
      case hi9 =>
        simp only [List.getElem?_toArray, List.getElem?_cons_succ, List.getElem?_cons_zero]
        rfl
      case hy9 =>
        refine yields_until (by kernel_rfl) (Or.inl ⟨by rfl, fun w' hS => ?_⟩)
        try go_split_ands
        go_simp
        try rfl
      case rest9 =>
      intro hcl9 hS9
      clear hcl8 hS8
      try simp only [Act.put, List.setIfInBounds_toArray, List.set_cons_zero, List.set_cons_succ]
      refine wpAnyL_step (i := 9) (o := ?oi10) ?hi10 (by kernel_rfl) hcl9 ?rest10
      case hi10 =>
        simp only [List.getElem?_toArray, List.getElem?_cons_succ, List.getElem?_cons_zero]
        rfl
      case rest10 =>
      intro K hK
      go_simp
      refine hK _ _ (fun _ => HC.out _ (((Wr.refl _ wr).alloc _).drew)) (fun hcl10 => ?_)
      clear hK K hcl9 hS9
      try simp only [Act.put, List.setIfInBounds_toArray, List.set_cons_zero, List.set_cons_succ]
      refine wpAnyL_step (i := 10) (o := ?oi11) ?hi11 (by kernel_rfl) hcl10 ?rest11
      case hi11 =>
        simp only [List.getElem?_toArray, List.getElem?_cons_succ, List.getElem?_cons_zero]
        rfl
      case rest11 =>
      intro K hK
      go_simp
      refine hK _ _ (fun hb => absurd hb (by decide)) (fun hcl999 => ?_)
      clear hK K hcl10
      refine wpAnyL_done (by kernel_rfl) (NoPanic.normal ?_) _
      try simp only [Act.put, List.setIfInBounds_toArray, List.set_cons_zero, List.set_cons_succ]

      have b5 := (Blk.new wr 54 #[.slice Af lb.length cf, .slice Ag lb.length cg, .bool false]).drew
      have r5 := ((Wr.refl [] wr).alloc (.cells #[.slice Af lb.length cf, .slice Ag lb.length cg, .bool false] 54)).drew
      generalize (wr.alloc (.cells #[.slice Af lb.length cf, .slice Ag lb.length cg, .bool false] 54)).drew = w5 at *
      have z5 := b5.lt
      have rf5 := ownsRow_wr0 ROWF.out r5
      have rg5 := ownsRow_wr0 ROWG.out r5
      have hc5 := r5.cellOf hc (by simp)
      have bA5 := HBA.out.wr0 r5
      have bX5 := HBX2.out.wr0 r5
      have R5 := Lib.hid r5
      generalize hg10 : wr.heap.size = g10 at *
      have HG10 := Lib.hid hg10
      have hownf : ∀ y, y ∈ ownL (Value.slice Af lb.length cf) → w2.heap.size ≤ y ∧ y < g10 := fun y hy => by have := ROWF.out.lt y (mem_ownL.1 hy); rw [hg10] at this; exact this
      have howng : ∀ y, y ∈ ownL (Value.slice Ag lb.length cg) → w2.heap.size ≤ y ∧ y < g10 := fun y hy => by have := ROWG.out.lt y (mem_ownL.1 hy); rw [hg10] at this; exact this
      have HOF := Lib.hid hownf
      have HOG := Lib.hid howng
      clear hg10 hownf howng r5 hc c0 c1 c2 x9
      obtain ⟨v6, w6, hrun6, ho6, r6, hat6⟩ := append_i64 w2.heap.size (.slice Af lb.length cf) lb w5 rf5 (k : Int) (by omega) (by omega)
      have hl1 : (lb ++ [(k : Int)]).length = lb.length + 1 := by simp
      rw [hl1] at ho6
      obtain ⟨g6, cap6, rfl, hcap6, hlt6⟩ := ho6.form (by omega)
      have b6 := b5.wr r6 (fun hm => by have := HOF.out _ hm; omega)
      have a6 := b6.cell 0
      have f6 := b6.frozen 0
      have p0 := b5.cell 0
      simp only [List.getElem?_toArray, List.getElem?_cons_zero, List.getElem?_cons_succ] at a6 p0
      have HRUN6 := Lib.hid hrun6
      have z6 := b6.lt
      have HL1 := Lib.hid hl1
      clear hrun6 hl1
      go_upto_region 10 with (at_builtin; refine wpList_append_run rfl _ _ _ rfl _ _ rfl rfl _ _ HRUN6.out ?_)
      have b7 : Blk (w6.setCell ⟨g10, 0, none⟩ (.slice (some ⟨g6, 0, none⟩) (lb.length + 1) cap6)) g10 54 #[.slice (some ⟨g6, 0, none⟩) (lb.length + 1) cap6, .slice Ag lb.length cg, .bool false] := b6.set_ 0 _
      have r7 : Wr [g10] w6 (w6.setCell ⟨g10, 0, none⟩ (.slice (some ⟨g6, 0, none⟩) (lb.length + 1) cap6)) := (Wr.refl _ _).setOn (by simp) _
      generalize w6.setCell ⟨g10, 0, none⟩ (.slice (some ⟨g6, 0, none⟩) (lb.length + 1) cap6) = w7 at *
      have nf : ∀ y, y ≤ hx → y ∉ ownL (Value.slice Af lb.length cf) := fun y hy hm => by have := HOF.out y hm; omega
      have ng : ∀ y, y ≤ hx → y ∉ ownL (Value.slice Ag lb.length cg) := fun y hy hm => by have := HOG.out y hm; omega
      have nb : ∀ y, y < w.heap.size → y ∉ ownL (Value.slice Af lb.length cf) := fun y hy hm => by have := HOF.out y hm; omega
      have nb2 : ∀ y, y < w.heap.size → y ∉ ownL (Value.slice Ag lb.length cg) := fun y hy hm => by have := HOG.out y hm; omega
      have hdis := HROWS.out.dis (2 * r) (2 * r + 1) (by omega) (by omega) (by omega)
      rw [HVF.out, HVG.out] at hdis
      have rg7 := ownsRow_wr (ownsRow_wr rg5 r6 (fun y hy hm => hdis y hm (mem_ownL.2 hy))) r7 (fun y hy hm => by
        rw [List.mem_singleton] at hm
        have := HOG.out y (mem_ownL.2 hy); omega)
      have hc7 := r7.cellOf (r6.cellOf hc5 (nb b hbw)) (by simp; omega)
      have bA7 := (bA5.wr r6 (nf gA (by omega))).wr r7 (by simp; omega)
      have bX7 := (bX5.wr r6 (nf hx (by omega))).wr r7 (by simp; omega)
      have z7 := b7.lt
      have z67 := r6.size
      have z77 := r7.size
      obtain ⟨v8, w8, hrun8, ho8, r8, hat8⟩ := append_i64 w2.heap.size (.slice Ag lb.length cg) lb w7 rg7 (k : Int) (by omega) (by omega)
      have hl1 : (lb ++ [(k : Int)]).length = lb.length + 1 := by simp
      rw [hl1] at ho8
      obtain ⟨g8, cap8, rfl, hcap8, hlt8⟩ := ho8.form (by omega)
      have b8 := b7.wr r8 (fun hm => by have := HOG.out _ hm; omega)
      have a8 := b8.cell 1
      have f8 := b8.frozen 1
      have p1 := b7.cell 1
      simp only [List.getElem?_toArray, List.getElem?_cons_zero, List.getElem?_cons_succ] at a8 p1
      have HRUN8 := Lib.hid hrun8
      have z8 := b8.lt
      clear hrun8 hl1 a6 f6 p0
      have HO6 := Lib.hid ho6
      have HAT6 := Lib.hid hat6
      have R6 := Lib.hid r6
      have R7 := Lib.hid r7
      clear ho6 hat6 r6 r7 rf5 rg5 hc5 bA5 bX5 b5 b6
      go_upto_region 11 with (at_builtin; refine wpList_append_run rfl _ _ _ rfl _ _ rfl rfl _ _ HRUN8.out ?_)
      have b9 : Blk (w8.setCell ⟨g10, 1, none⟩ (.slice (some ⟨g8, 0, none⟩) (lb.length + 1) cap8)) g10 54 #[.slice (some ⟨g6, 0, none⟩) (lb.length + 1) cap6, .slice (some ⟨g8, 0, none⟩) (lb.length + 1) cap8, .bool false] := b8.set_ 1 _
      have r9 : Wr [g10] w8 (w8.setCell ⟨g10, 1, none⟩ (.slice (some ⟨g8, 0, none⟩) (lb.length + 1) cap8)) := (Wr.refl _ _).setOn (by simp) _
      generalize w8.setCell ⟨g10, 1, none⟩ (.slice (some ⟨g8, 0, none⟩) (lb.length + 1) cap8) = w9 at *
      have hc9 := r9.cellOf (r8.cellOf hc7 (nb2 b hbw)) (by simp; omega)
      have bA9 := (bA7.wr r8 (ng gA (by omega))).wr r9 (by simp; omega)
      have bX9 := (bX7.wr r8 (ng hx (by omega))).wr r9 (by simp; omega)
      have y9 := bX9.cell 9
      have s0 := b9.cell 0
      have s1 := b9.cell 1
      have s2 := b9.cell 2
      simp only [List.getElem?_toArray, List.getElem?_cons_zero, List.getElem?_cons_succ] at y9 s0 s1 s2
      obtain ⟨e0, e1, e2⟩ := arr_at R r hr4
      have d0 := (bA9.cell (r * 3)).trans e0
      have d1 := (bA9.cell (r * 3 + 1)).trans e1
      have d2 := (bA9.cell (r * 3 + 2)).trans e2
      have m0 := bA9.frozen (r * 3)
      have m1 := bA9.frozen (r * 3 + 1)
      have m2 := bA9.frozen (r * 3 + 2)
      have z9 := b9.lt
      have z9a := bA9.lt
      have z9x := bX9.lt
      have HO8 := Lib.hid ho8
      have HAT8 := Lib.hid hat8
      have R8 := Lib.hid r8
      have R9 := Lib.hid r9
      have BA9 := Lib.hid bA9
      clear ho8 hat8 r8 r9 hc7 bA7 bX7 b7 b8 a8 f8 p1 rg7 bA9 bX9 b9 e0 e1 e2 nf ng nb nb2 hdis
      have hC : ∀ W, Wr [] w9 W → W.cell? ⟨hx, 9, none⟩ = some (.slice (some ⟨gA, 0, none⟩) 4 4) ∧ W.cell? ⟨b, off + k, none⟩ = some (.int .u8 z) ∧ W.cell? ⟨g10, 0, none⟩ = some (.slice (some ⟨g6, 0, none⟩) (lb.length + 1) cap6) ∧ W.cell? ⟨g10, 1, none⟩ = some (.slice (some ⟨g8, 0, none⟩) (lb.length + 1) cap8) ∧ W.cell? ⟨g10, 2, none⟩ = some (.bool false) := fun W hW => ⟨hW.cellOf y9 (by simp), hW.cellOf hc9 (by simp), hW.cellOf s0 (by simp), hW.cellOf s1 (by simp), hW.cellOf s2 (by simp)⟩
      have HC := Lib.hid hC
      clear hC
      refine wp_region_noPanic ?_
      refine wp_region_L (Until 9 fun w' => w'.cell? ⟨hx, 9, none⟩ = some (.slice (some ⟨gA, 0, none⟩) 4 4) ∧ w'.cell? ⟨b, off + k, none⟩ = some (.int .u8 z) ∧ w'.cell? ⟨g10, 0, none⟩ = some (.slice (some ⟨g6, 0, none⟩) (lb.length + 1) cap6) ∧ w'.cell? ⟨g10, 1, none⟩ = some (.slice (some ⟨g8, 0, none⟩) (lb.length + 1) cap8) ∧ w'.cell? ⟨g10, 2, none⟩ = some (.bool false)) (by kernel_rfl) (fun hcl => ?_)
      have hS : Until 9 (fun w' => w'.cell? ⟨hx, 9, none⟩ = some (.slice (some ⟨gA, 0, none⟩) 4 4) ∧ w'.cell? ⟨b, off + k, none⟩ = some (.int .u8 z) ∧ w'.cell? ⟨g10, 0, none⟩ = some (.slice (some ⟨g6, 0, none⟩) (lb.length + 1) cap6) ∧ w'.cell? ⟨g10, 1, none⟩ = some (.slice (some ⟨g8, 0, none⟩) (lb.length + 1) cap8) ∧ w'.cell? ⟨g10, 2, none⟩ = some (.bool false)) (Array.replicate 10 false) w9.drew := fun _ => ⟨y9, hc9, s0, s1, s2⟩
      refine wpAnyL_take (i := 0) (oi := ?oi101) (v := ?v101) ?hi101 (by kernel_rfl) (by kernel_rfl) (by kernel_rfl) (fun _ _ _ h => h) (until_take 9 _ (by decide)) ?hy101 hcl hS ?rest101
      case hi101 =>
        simp only [List.getElem?_toArray, List.getElem?_cons_succ, List.getElem?_cons_zero]
        rfl
      case hy101 =>
        refine yields_until (by kernel_rfl) (Or.inl ⟨by rfl, fun w' hS => ?_⟩)
        try go_split_ands
        go_simp
        try rfl
      case rest101 =>
      intro hcl101 hS101
      clear hcl hS
      try simp only [Act.put, List.setIfInBounds_toArray, List.set_cons_zero, List.set_cons_succ]
      refine wpAnyL_take (i := 1) (oi := ?oi102) (v := ?v102) ?hi102 (by kernel_rfl) (by kernel_rfl) (by kernel_rfl) (fun _ _ _ h => h) (until_take 9 _ (by decide)) ?hy102 hcl101 hS101 ?rest102
      case hi102 =>
        simp only [List.getElem?_toArray, List.getElem?_cons_succ, List.getElem?_cons_zero]
        rfl
      case hy102 =>
        refine yields_until (by kernel_rfl) (Or.inl ⟨by rfl, fun w' hS => ?_⟩)
        try go_split_ands
        go_simp
        try rfl
      case rest102 =>
      intro hcl102 hS102
      clear hcl101 hS101
      try simp only [Act.put, List.setIfInBounds_toArray, List.set_cons_zero, List.set_cons_succ]
      refine wpAnyL_take (i := 2) (oi := ?oi103) (v := ?v103) ?hi103 (by kernel_rfl) (by kernel_rfl) (by kernel_rfl) (fun _ _ _ h => h) (until_take 9 _ (by decide)) ?hy103 hcl102 hS102 ?rest103
      case hi103 =>
        simp only [List.getElem?_toArray, List.getElem?_cons_succ, List.getElem?_cons_zero]
        rfl
      case hy103 =>
        refine yields_until (by kernel_rfl) (Or.inl ⟨by rfl, fun w' hS => ?_⟩)
        try go_split_ands
        go_simp
        try rfl
      case rest103 =>
      intro hcl103 hS103
      clear hcl102 hS102
      try simp only [Act.put, List.setIfInBounds_toArray, List.set_cons_zero, List.set_cons_succ]
      refine wpAnyL_take (i := 3) (oi := ?oi104) (v := ?v104) ?hi104 (by kernel_rfl) (by kernel_rfl) (by kernel_rfl) (fun _ _ _ h => h) (until_take 9 _ (by decide)) ?hy104 hcl103 hS103 ?rest104
      case hi104 =>
        simp only [List.getElem?_toArray, List.getElem?_cons_succ, List.getElem?_cons_zero]
        rfl
      case hy104 =>
        refine yields_until (by kernel_rfl) (Or.inl ⟨by rfl, fun w' hS => ?_⟩)
        try go_split_ands
        go_simp
        try rfl
      case rest104 =>
      intro hcl104 hS104
      clear hcl103 hS103
      try simp only [Act.put, List.setIfInBounds_toArray, List.set_cons_zero, List.set_cons_succ]
      refine wpAnyL_take (i := 4) (oi := ?oi105) (v := ?v105) ?hi105 (by kernel_rfl) (by kernel_rfl) (by kernel_rfl) (fun _ _ _ h => h) (until_take 9 _ (by decide)) ?hy105 hcl104 hS104 ?rest105
      case hi105 =>
        simp only [List.getElem?_toArray, List.getElem?_cons_succ, List.getElem?_cons_zero]
        rfl
      case hy105 =>
        refine yields_until (by kernel_rfl) (Or.inl ⟨by rfl, fun w' hS => ?_⟩)
        try go_split_ands
        go_simp
        try rfl
      case rest105 =>
      intro hcl105 hS105
      clear hcl104 hS104
      try simp only [Act.put, List.setIfInBounds_toArray, List.set_cons_zero, List.set_cons_succ]
      refine wpAnyL_take (i := 5) (oi := ?oi106) (v := ?v106) ?hi106 (by kernel_rfl) (by kernel_rfl) (by kernel_rfl) (fun _ _ _ h => h) (until_take 9 _ (by decide)) ?hy106 hcl105 hS105 ?rest106
      case hi106 =>
        simp only [List.getElem?_toArray, List.getElem?_cons_succ, List.getElem?_cons_zero]
        rfl
      case hy106 =>
        refine yields_until (by kernel_rfl) (Or.inl ⟨by rfl, fun w' hS => ?_⟩)
        try go_split_ands
        go_simp
        try rfl
      case rest106 =>
      intro hcl106 hS106
      clear hcl105 hS105
      try simp only [Act.put, List.setIfInBounds_toArray, List.set_cons_zero, List.set_cons_succ]
      refine wpAnyL_take (i := 6) (oi := ?oi107) (v := ?v107) ?hi107 (by kernel_rfl) (by kernel_rfl) (by kernel_rfl) (fun _ _ _ h => h) (until_take 9 _ (by decide)) ?hy107 hcl106 hS106 ?rest107
      case hi107 =>
        simp only [List.getElem?_toArray, List.getElem?_cons_succ, List.getElem?_cons_zero]
        rfl
      case hy107 =>
        refine yields_until (by kernel_rfl) (Or.inl ⟨by rfl, fun w' hS => ?_⟩)
        try go_split_ands
        go_simp
        try rfl
      case rest107 =>
      intro hcl107 hS107
      clear hcl106 hS106
      try simp only [Act.put, List.setIfInBounds_toArray, List.set_cons_zero, List.set_cons_succ]
      refine wpAnyL_take (i := 7) (oi := ?oi108) (v := ?v108) ?hi108 (by kernel_rfl) (by kernel_rfl) (by kernel_rfl) (fun _ _ _ h => h) (until_take 9 _ (by decide)) ?hy108 hcl107 hS107 ?rest108
      case hi108 =>
        simp only [List.getElem?_toArray, List.getElem?_cons_succ, List.getElem?_cons_zero]
        rfl
      case hy108 =>
        refine yields_until (by kernel_rfl) (Or.inl ⟨by rfl, fun w' hS => ?_⟩)
        try go_split_ands
        go_simp
        try rfl
      case rest108 =>
      intro hcl108 hS108
      clear hcl107 hS107
      try simp only [Act.put, List.setIfInBounds_toArray, List.set_cons_zero, List.set_cons_succ]
      refine wpAnyL_take (i := 8) (oi := ?oi109) (v := ?v109) ?hi109 (by kernel_rfl) (by kernel_rfl) (by kernel_rfl) (fun _ _ _ h => h) (until_take 9 _ (by decide)) ?hy109 hcl108 hS108 ?rest109
      case hi109 =>
        simp only [List.getElem?_toArray, List.getElem?_cons_succ, List.getElem?_cons_zero]
        rfl
      case hy109 =>
        refine yields_until (by kernel_rfl) (Or.inl ⟨by rfl, fun w' hS => ?_⟩)
        try go_split_ands
        go_simp
        try rfl
      case rest109 =>
      intro hcl109 hS109
      clear hcl108 hS108
      try simp only [Act.put, List.setIfInBounds_toArray, List.set_cons_zero, List.set_cons_succ]
      refine wpAnyL_step (i := 9) (o := ?oi110) ?hi110 (by kernel_rfl) hcl109 ?rest110
      case hi110 =>
        simp only [List.getElem?_toArray, List.getElem?_cons_succ, List.getElem?_cons_zero]
        rfl
      case rest110 =>
      intro K hK
      go_simp
      refine hK _ _ (fun hb => absurd hb (by decide)) (fun hcl999 => ?_)
      clear hK K hcl109 hS109
      refine wpAnyL_done (by kernel_rfl) (NoPanic.normal ?_) _
      try simp only [Act.put, List.setIfInBounds_toArray, List.set_cons_zero, List.set_cons_succ]

      go_wp2_with fail
      go_roundw
      case rel =>
        have h29 : Wr [gA] w2 w9 := ((((HR.out.trans0 R5.out).trans' R6.out (fun x hm => .inr (HOF.out x hm).1)).trans' R7.out (fun x hm => by rw [List.mem_singleton] at hm; exact .inr (by omega))).trans' R8.out (fun x hm => .inr (HOG.out x hm).1)).trans' R9.out (fun x hm => by rw [List.mem_singleton] at hm; exact .inr (by omega))
        have hbf := ((BA9.out.drew.set_ (r * 3) (.slice (some ⟨g6, 0, none⟩) (lb.length + 1) cap6)).set_ (r * 3 + 1) (.slice (some ⟨g8, 0, none⟩) (lb.length + 1) cap8)).set_ (r * 3 + 2) (.bool false)
        rw [arr_set R r hr4] at hbf
        refine ⟨k + 1, updR R r (.slice (some ⟨g6, 0, none⟩) (lb.length + 1) cap6) (.slice (some ⟨g8, 0, none⟩) (lb.length + 1) cap8), by omega, by go_num, ((h29.drew.setOn (by simp) _).setOn (by simp) _).setOn (by simp) _, hbf, ?_⟩
        exact HROWS.out.step hr4 HZR.out R5.out (by rw [← HLB.out, HL1.out]; exact HO6.out) (by rw [HVF.out]; exact R6.out) (by rw [HVF.out]; exact HAT6.out) R7.out (by rw [← HLB.out, HL1.out]; exact HO8.out) (by rw [HVG.out]; exact R8.out) (by rw [HVG.out]; exact HAT8.out)
          ((((R9.out.more (l' := [g10, gA]) (fun x hm => by simp at hm; simp [hm])).drew.setOn (by simp) _).setOn (by simp) _).setOn (by simp) _) (by rw [HG10.out]; exact Nat.le_refl _) z5 (by omega)
      case measure => simp [intOf]; omega
    · obtain rfl : k = zs.length := by omega
      obtain ⟨tg, rfl⟩ := Int.eq_ofNat_of_zero_le t0
      clear hlt hk
      cases other with
      | true =>
        have hrm := roomT zs true (by omega)
        have rowA : wr.ownsRow 0 54 3 (.slice (some ⟨gA, 0, none⟩) 4 4) 4 (arrOf R).toList := ⟨rfl, .inr ⟨gA, 4, arrOf R, rfl, Nat.zero_le _, hbA, Nat.le_refl _, by simp only [maxLen]; omega, rfl, rfl⟩⟩
        obtain ⟨v7, w7, hrun7, ho7, r7, hat7⟩ := append_arm 0 (.slice (some ⟨gA, 0, none⟩) 4 4) 4 (arrOf R).toList wr rowA none 0 0 none 0 0 true (by omega) (Nat.zero_le _)
        replace ho7 : w7.ownsRow 0 54 3 v7 5 ((arrOf R).toList ++ [.slice none 0 0, .slice none 0 0, .bool true]) := ho7
        obtain ⟨g7, cap7, rfl, hcap7, hlt7⟩ := ho7.form (by omega)
        have bX7 := hbx.wr r7 (by simp [ownL, Value.ownBlock]; omega)
        have n9 := bX7.cell 9
        have m9 := bX7.frozen 9
        simp only [List.getElem?_toArray, List.getElem?_cons_zero, List.getElem?_cons_succ] at n9
        have HRUN7 := Lib.hid hrun7
        have z7 := bX7.lt
        have R7 := Lib.hid r7
        have HO7 := Lib.hid ho7
        have BX7 := Lib.hid bX7
        have HROWS := Lib.hid hrows
        have HR := Lib.hid hr
        clear hrun7 r7 ho7 hat7 rowA hrows bX7 hr hbA hbx
        go_upto_region 14 with (at_builtin; refine wpList_append_run rfl _ _ _ rfl _ _ rfl rfl _ _ HRUN7.out ?_)
        have rW : Wr [gA, hx] wr (w7.setCell ⟨hx, 9, none⟩ (.slice (some ⟨g7, 0, none⟩) 5 cap7)) := (R7.out.more (fun x hm => by simp [ownL, Value.ownBlock] at hm; simp [hm])).setOn (by simp) _
        have rW7 : Wr [hx] w7 (w7.setCell ⟨hx, 9, none⟩ (.slice (some ⟨g7, 0, none⟩) 5 cap7)) := (Wr.refl _ _).setOn (by simp) _
        have bX : Blk (w7.setCell ⟨hx, 9, none⟩ (.slice (some ⟨g7, 0, none⟩) 5 cap7)) hx 38 #[.int .u8 12, .string ⟨#[]⟩, .string ⟨#[]⟩, .int .i64 0, .int .i64 0, .int .i64 0, .int .i64 0, .slice none 0 0, .slice (some ⟨gF, 0, none⟩) 1 1, .slice (some ⟨g7, 0, none⟩) 5 cap7, .slice none 0 0, .int .i64 0] := BX7.out.set_ 9 _
        generalize w7.setCell ⟨hx, 9, none⟩ (.slice (some ⟨g7, 0, none⟩) 5 cap7) = wz at *
        have hg7x : g7 ≠ hx := by
          intro e
          have hb7 := BX7.out
          rcases HO7.out.2 with ⟨e1, _⟩ | ⟨b7, _, _, e1, _, hh7, _⟩
          · injection e1 with _ e2 _; omega
          · injection e1 with e1 _ _
            injection e1 with e1
            injection e1 with e1
            subst e1
            subst e
            unfold Blk at hb7
            rw [hb7] at hh7
            injection hh7 with hh7
            injection hh7 with _ e3
            exact absurd e3 (by decide)
        have hoz := ownsRow_wr HO7.out rW7 (fun y hy hm => by
          rw [List.mem_singleton] at hm
          injection hy with hy
          exact hg7x (hy.trans hm))
        have hsa := arms_yes HROWS.out rW (fun x hm => by simp only [List.mem_cons, List.not_mem_nil, or_false] at hm; omega) hoz
        have r2z : Wr [gA, hx] w2 wz := (HR.out.more (fun x hm => by simp at hm; simp [hm])).trans rW
        clear HRUN7 n9 m9 rW rW7 hoz
        have x0 := bX.cell 0
        have x1 := bX.cell 1
        have x2 := bX.cell 2
        have x3 := bX.cell 3
        have x4 := bX.cell 4
        have x5 := bX.cell 5
        have x6 := bX.cell 6
        have x7 := bX.cell 7
        have x8 := bX.cell 8
        have x9 := bX.cell 9
        have x10 := bX.cell 10
        have x11 := bX.cell 11
        simp only [List.getElem?_toArray, List.getElem?_cons_zero, List.getElem?_cons_succ] at x0 x1 x2 x3 x4 x5 x6 x7 x8 x9 x10 x11
        have r1z : Wr [] w1 wz := ACC.out.trans' r2z (fun x hm => .inr (by
          rw [HGF.out]
          simp only [List.mem_cons, List.not_mem_nil, or_false] at hm
          omega))
        have hbf := HBF.out.wr r2z (by simp; omega)
        have hls : Lists wz (fun _ => True) (.slice none 0 0) (.slice (some ⟨gF, 0, none⟩) 1 1) (.slice (some ⟨g7, 0, none⟩) 5 cap7) (.slice none 0 0) (tyT zs true) := ⟨Sl.nil _ _ 1, Sl.mono (Sl.ofBlk hbf 3 1 rfl (by simp only [maxLen]; omega)) (fun _ _ => trivial), hsa, Sl.nil _ _ 2⟩
        have hadd := addN (H1.out.wr0 r1z) (tyT zs true) _ _ _ _ _ hls (by show mayB 12 = true; decide) hrm 10 (by decide) (by decide)
        have hza : ∀ W, Wr [] w W → tg < zs.length → ∃ bb oo, A0 = some ⟨bb, oo, none⟩ ∧ W.cell? ⟨bb, oo + tg, none⟩ = some (.int .u8 (zs.getD tg 0)) := fun W hW ht => by
          obtain ⟨bb, oo, e1, e2⟩ := HCELL.out tg ht
          exact ⟨bb, oo, e1, hW.cellOf e2 (by simp)⟩
        have HZA := Lib.hid hza
        have HADD := Lib.hid hadd
        clear hadd hls hsa hbf r1z r2z bX hza
        unfold Ty.val Ty.cells tyT armsT at HADD
        go_wp2_with fail
        refine HADD.out.mono ?_
        clear HADD x0 x1 x2 x3 x4 x5 x6 x7 x8 x9 x10 x11
        rintro e w8 ⟨rfl, h8⟩
        have harm := armN (tys := tys0 ++ [tyT zs true]) h8 10 tg _ (armOf_T zs true (fun i hi => (Go.bounds_u8 (HWF.out i hi)).1) tg)
        clear h8
        by_cases htl : tg < zs.length
        · rw [if_pos htl] at harm
          obtain ⟨z, hz⟩ : ∃ z, z = zs.getD tg 0 := ⟨_, rfl⟩
          have hzw := Go.bounds_u8 (HWF.out tg htl)
          rw [← hz] at harm hzw
          obtain ⟨z0, z1⟩ := hzw
          have q1 : Int.tmod z 4 = z % 4 := Int.tmod_eq_emod_of_nonneg z0
          have q2 : IntKind.i64.wrap (z % 4) = z % 4 := by rw [IntKind.wrap_i64]; omega
          have q3 : IntKind.u8.wrap (z % 4) = z % 4 := by rw [IntKind.wrap_u8]; omega
          have ht1 : (tg : Int) < (zs.length : Int) := by omega
          have HZ := Lib.hid hz
          clear hz
          go_wp2_with fail
          refine harm.mono ?_
          clear harm
          rintro e w9 ⟨rfl, h9, _⟩
          obtain ⟨bb, oo, rfl, hcc⟩ := HZA.out w9 h9.wr htl
          rw [← HZ.out] at hcc
          have H9 := Lib.hid h9
          clear h9
          go_wp2_with fail
          refine (hw _).mono ?_
          rintro e wy ⟨rfl, ky⟩
          go_wp2_with fail
          go_ret
          exact ⟨rfl, H9.out.wr.trans ky⟩
        · rw [if_neg htl] at harm
          have ht1 : ¬(tg : Int) < (zs.length : Int) := by omega
          simp only [if_true, Bool.false_eq_true, if_false] at harm
          go_wp2_with fail
          refine harm.mono ?_
          clear harm
          rintro e w9 ⟨rfl, h9, _⟩
          have H9 := Lib.hid h9
          clear h9
          go_wp2_with fail
          refine (hw _).mono ?_
          rintro e wy ⟨rfl, ky⟩
          go_wp2_with fail
          go_ret
          exact ⟨rfl, H9.out.wr.trans ky⟩
      | false =>
        have hrm := roomT zs false (by omega)
        have hsa := arms_no hrows hbA
        have bX := hbx
        have r2z : Wr [gA, hx] w2 wr := hr.more (fun x hm => by simp at hm; simp [hm])
        clear hrows hbA hbx hr
        go_upto_region 14 with (fail)
        generalize wr = wz at *
        have x0 := bX.cell 0
        have x1 := bX.cell 1
        have x2 := bX.cell 2
        have x3 := bX.cell 3
        have x4 := bX.cell 4
        have x5 := bX.cell 5
        have x6 := bX.cell 6
        have x7 := bX.cell 7
        have x8 := bX.cell 8
        have x9 := bX.cell 9
        have x10 := bX.cell 10
        have x11 := bX.cell 11
        simp only [List.getElem?_toArray, List.getElem?_cons_zero, List.getElem?_cons_succ] at x0 x1 x2 x3 x4 x5 x6 x7 x8 x9 x10 x11
        have r1z : Wr [] w1 wz := ACC.out.trans' r2z (fun x hm => .inr (by
          rw [HGF.out]
          simp only [List.mem_cons, List.not_mem_nil, or_false] at hm
          omega))
        have hbf := HBF.out.wr r2z (by simp; omega)
        have hls : Lists wz (fun _ => True) (.slice none 0 0) (.slice (some ⟨gF, 0, none⟩) 1 1) (.slice (some ⟨gA, 0, none⟩) 4 4) (.slice none 0 0) (tyT zs false) := ⟨Sl.nil _ _ 1, Sl.mono (Sl.ofBlk hbf 3 1 rfl (by simp only [maxLen]; omega)) (fun _ _ => trivial), hsa, Sl.nil _ _ 2⟩
        have hadd := addN (H1.out.wr0 r1z) (tyT zs false) _ _ _ _ _ hls (by show mayB 12 = true; decide) hrm 10 (by decide) (by decide)
        have hza : ∀ W, Wr [] w W → tg < zs.length → ∃ bb oo, A0 = some ⟨bb, oo, none⟩ ∧ W.cell? ⟨bb, oo + tg, none⟩ = some (.int .u8 (zs.getD tg 0)) := fun W hW ht => by
          obtain ⟨bb, oo, e1, e2⟩ := HCELL.out tg ht
          exact ⟨bb, oo, e1, hW.cellOf e2 (by simp)⟩
        have HZA := Lib.hid hza
        have HADD := Lib.hid hadd
        clear hadd hls hsa hbf r1z r2z bX hza
        unfold Ty.val Ty.cells tyT armsT at HADD
        go_wp2_with fail
        refine HADD.out.mono ?_
        clear HADD x0 x1 x2 x3 x4 x5 x6 x7 x8 x9 x10 x11
        rintro e w8 ⟨rfl, h8⟩
        have harm := armN (tys := tys0 ++ [tyT zs false]) h8 10 tg _ (armOf_T zs false (fun i hi => (Go.bounds_u8 (HWF.out i hi)).1) tg)
        clear h8
        by_cases htl : tg < zs.length
        · rw [if_pos htl] at harm
          obtain ⟨z, hz⟩ : ∃ z, z = zs.getD tg 0 := ⟨_, rfl⟩
          have hzw := Go.bounds_u8 (HWF.out tg htl)
          rw [← hz] at harm hzw
          obtain ⟨z0, z1⟩ := hzw
          have q1 : Int.tmod z 4 = z % 4 := Int.tmod_eq_emod_of_nonneg z0
          have q2 : IntKind.i64.wrap (z % 4) = z % 4 := by rw [IntKind.wrap_i64]; omega
          have q3 : IntKind.u8.wrap (z % 4) = z % 4 := by rw [IntKind.wrap_u8]; omega
          have ht1 : (tg : Int) < (zs.length : Int) := by omega
          have HZ := Lib.hid hz
          clear hz
          go_wp2_with fail
          refine harm.mono ?_
          clear harm
          rintro e w9 ⟨rfl, h9, _⟩
          obtain ⟨bb, oo, rfl, hcc⟩ := HZA.out w9 h9.wr htl
          rw [← HZ.out] at hcc
          have H9 := Lib.hid h9
          clear h9
          go_wp2_with fail
          refine (hw _).mono ?_
          rintro e wy ⟨rfl, ky⟩
          go_wp2_with fail
          go_ret
          exact ⟨rfl, H9.out.wr.trans ky⟩
        · rw [if_neg htl] at harm
          have ht1 : ¬(tg : Int) < (zs.length : Int) := by omega
          simp only [if_true, Bool.false_eq_true, if_false] at harm
          go_wp2_with fail
          refine harm.mono ?_
          clear harm
          rintro e w9 ⟨rfl, h9, _⟩
          have H9 := Lib.hid h9
          clear h9
          go_wp2_with fail
          refine (hw _).mono ?_
          rintro e wy ⟨rfl, ky⟩
          go_wp2_with fail
          go_ret
          exact ⟨rfl, H9.out.wr.trans ky⟩
end Go.Proofs.Ytloihffdolehhaa

