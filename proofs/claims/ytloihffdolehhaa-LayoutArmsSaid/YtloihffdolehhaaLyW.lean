/- A table that the call itself made; law 12's works: walked. No conditions. -/
import Derived.Test.YtloihffdolehhaaLyH
namespace Go.Proofs.Ytloihffdolehhaa
open Go.RowKit
set_option linter.unusedVariables false
set_option linter.unusedSimpArgs false

/-- A table that was made since the world was w0. -/
def TabN (w0 w : World) (t : Nat) (tys : List Ty) : Prop := ∃ v L, Tab 74 w t v L w0.heap.size tys ∧ (∀ x ∈ L, w0.heap.size ≤ x) ∧ Wr [] w0 w
def AddN (w0 : World) (t : Nat) (tys : List Ty) (n : Int) (e : Ending) (w' : World) : Prop := e = .returned (.tuple #[.int .i64 n, .int .i64 0]) ∧ TabN w0 w' t tys
def PairN (w0 w : World) (t : Nat) (tys : List Ty) (x : Int × Int) (e : Ending) (w' : World) : Prop := e = .returned (.tuple #[.int .i64 x.1, .int .i64 x.2]) ∧ TabN w0 w' t tys ∧ Wr [] w w'
def ArmN (w0 w : World) (t : Nat) (tys : List Ty) (x : Int × Bool) (e : Ending) (w' : World) : Prop := e = .returned (.tuple #[.int .i64 x.1, .bool x.2]) ∧ TabN w0 w' t tys ∧ Wr [] w w'
def NewN (w0 : World) (e : Ending) (w' : World) : Prop := ∃ t, e = .returned (.pointer (some ⟨t, 0, none⟩)) ∧ TabN w0 w' t tys0
theorem ownsRow_mono {w : World} {base base' size n : Nat} {e : TypeId} {v : Value} {xs : List Value} (h : w.ownsRow base e size v n xs) (hb : base' ≤ base) : w.ownsRow base' e size v n xs := by
  refine ⟨h.1, ?_⟩
  rcases h.2 with h0 | ⟨b, cap, cur, e1, e2, e3⟩
  · exact .inl h0
  · exact .inr ⟨b, cap, cur, e1, Nat.le_trans hb e2, e3⟩
section
variable {w0 w w' : World} {t : Nat} {tys : List Ty}
theorem TabN.wr0 (h : TabN w0 w t tys) (hw : Wr [] w w') : TabN w0 w' t tys := by
  obtain ⟨v, L, h1, h2, h3⟩ := h
  exact ⟨v, L, h1.wr0 hw, h2, h3.trans hw⟩
theorem TabN.wr (h : TabN w0 w t tys) : Wr [] w0 w := by
  obtain ⟨v, L, h1, h2, h3⟩ := h
  exact h3
theorem newN (hw : Wr [] w0 w) : Calls Try.prog 14 #[] w (NewN w0) := by
  refine (new_any w).mono ?_
  rintro e w' ⟨t, v, L, rfl, r, hT, hL⟩
  have hz := hw.size
  refine ⟨t, rfl, v, L, ⟨hT.blk, ?_, hT.tin, hT.rin, hT.room, hT.lin⟩, fun x hx => Nat.le_trans hz (hL x hx), hw.trans r⟩
  obtain ⟨xs, ho, h1, h2⟩ := hT.row
  exact ⟨xs, ownsRow_mono ho hz, h1, h2⟩
theorem addN (h : TabN w0 w t tys) (ty : Ty) (vn vf va vp : Value) (P : Nat → Prop) (hl : Lists w P vn vf va vp ty) (hm : mayB ty.kind = true) (hr : ty.room) (n : Int) (hn : (tys.length : Int) = n) (hn2 : n < 1024) :
    Calls Try.prog 15 #[.pointer (some ⟨t, 0, none⟩), ty.val vn vf va vp] w (AddN w0 t (tys ++ [ty]) n) := by
  obtain ⟨v, L, h1, h2, h3⟩ := h
  refine (add_yes w t v L _ tys h1 ty vn vf va vp P hl hm (by omega) hr h3.size).mono ?_
  rintro e w' ⟨v', L', rfl, r, hT, g1, g2, g3⟩
  have hz := h3.size
  refine ⟨by rw [hn], v', L', hT, fun x hx => ?_, h3.trans' r (fun x hx => .inr ?_)⟩
  · rcases g2 x hx with k | k
    · exact h2 x k
    · omega
  · rcases List.mem_cons.1 hx with k | k
    · rw [k]; exact h2 _ h1.tin
    · exact h2 _ (h1.rin _ (mem_ownL.1 k))
theorem sizeN (h : TabN w0 w t tys) (hlow : Low tys) (i : Int) (x : Int × Int) (hx : sz tys i = x) : Calls Try.prog 12 #[.pointer (some ⟨t, 0, none⟩), .int .i64 i] w (PairN w0 w t tys x) := by
  obtain ⟨v, L, h1, h2, h3⟩ := h
  refine (Size_any w t v L _ tys h1 hlow i).mono ?_
  rintro e w' ⟨rfl, r⟩
  exact ⟨by rw [hx], ⟨v, L, h1.wr0 r, h2, h3.trans r⟩, r⟩
theorem atN (h : TabN w0 w t tys) (hlow : Low tys) (i f : Int) (x : Int × Int) (hx : atK tys i f = x) : Calls Try.prog 13 #[.pointer (some ⟨t, 0, none⟩), .int .i64 i, .int .i64 f] w (PairN w0 w t tys x) := by
  obtain ⟨v, L, h1, h2, h3⟩ := h
  refine (At_any w t v L _ tys h1 hlow i f).mono ?_
  rintro e w' ⟨rfl, r⟩
  exact ⟨by rw [hx], ⟨v, L, h1.wr0 r, h2, h3.trans r⟩, r⟩
theorem armN (h : TabN w0 w t tys) (i tag : Int) (x : Int × Bool) (hx : armOf tys i tag = x) : Calls Try.prog 16 #[.pointer (some ⟨t, 0, none⟩), .int .i64 i, .int .i64 tag] w (ArmN w0 w t tys x) := by
  obtain ⟨v, L, h1, h2, h3⟩ := h
  refine (Arm_any w t v L _ tys h1 i tag (tyOf_room h1.room i).arms).mono ?_
  rintro e w' ⟨rfl, r⟩
  exact ⟨by rw [hx], ⟨v, L, h1.wr0 r, h2, h3.trans r⟩, r⟩
end
/-- A slice over a whole block. -/
theorem Sl.ofBlk {w : World} {g : Nat} {T : TypeId} {cs : Array Value} (h : Blk w g T cs) (size n : Nat) (hn : cs.size = n * size) (hm : n ≤ maxLen) : Sl w (fun b => b = g) size (.slice (some ⟨g, 0, none⟩) n n) n cs.toList := by
  refine ⟨_, n, rfl, Nat.le_refl _, hm, by rw [Array.length_toList, hn], fun j u hj => ⟨g, 0, rfl, rfl, ?_⟩⟩
  rw [Nat.zero_add, h.cell j, ← Array.getElem?_toList]
  exact hj

def tyA : Ty := ⟨10, ⟨#[]⟩, ⟨#[]⟩, 2, 3, 0, 0, [], [], [], [], 0⟩
def tyB : Ty := ⟨12, ⟨#[]⟩, ⟨#[]⟩, 0, 0, 0, 0, [], [⟨⟨#[97]⟩, 1, 0⟩, ⟨⟨#[116]⟩, 3, 1⟩, ⟨⟨#[98]⟩, 1, 2⟩, ⟨⟨#[99]⟩, 10, 3⟩, ⟨⟨#[100]⟩, 4, 3⟩], [⟨[1], [1], false⟩, ⟨[], [], true⟩], [], 0⟩
def tyC : Ty := ⟨9, ⟨#[]⟩, ⟨#[]⟩, 2, 0, 0, 3, [], [], [], [], 0⟩
def tyD : Ty := ⟨10, ⟨#[]⟩, ⟨#[]⟩, 11, 12, 0, 0, [], [], [], [], 0⟩
def tysW : List Ty := (((tys0 ++ [tyA]) ++ [tyB]) ++ [tyC]) ++ [tyD]
theorem lowW : Low tysW := by
  intro i ty hi
  have hlt : i < 14 := by
    have := (List.getElem?_eq_some_iff.1 hi).1
    exact this
  unfold lowTy
  match i, hlt with
  | 0, _ => (injection hi with hi; subst hi; refine ⟨fun h => ?_, fun h => ?_, ?_, ?_, ?_, ?_⟩ <;> first | decide | (revert h; decide))
  | 1, _ => (injection hi with hi; subst hi; refine ⟨fun h => ?_, fun h => ?_, ?_, ?_, ?_, ?_⟩ <;> first | decide | (revert h; decide))
  | 2, _ => (injection hi with hi; subst hi; refine ⟨fun h => ?_, fun h => ?_, ?_, ?_, ?_, ?_⟩ <;> first | decide | (revert h; decide))
  | 3, _ => (injection hi with hi; subst hi; refine ⟨fun h => ?_, fun h => ?_, ?_, ?_, ?_, ?_⟩ <;> first | decide | (revert h; decide))
  | 4, _ => (injection hi with hi; subst hi; refine ⟨fun h => ?_, fun h => ?_, ?_, ?_, ?_, ?_⟩ <;> first | decide | (revert h; decide))
  | 5, _ => (injection hi with hi; subst hi; refine ⟨fun h => ?_, fun h => ?_, ?_, ?_, ?_, ?_⟩ <;> first | decide | (revert h; decide))
  | 6, _ => (injection hi with hi; subst hi; refine ⟨fun h => ?_, fun h => ?_, ?_, ?_, ?_, ?_⟩ <;> first | decide | (revert h; decide))
  | 7, _ => (injection hi with hi; subst hi; refine ⟨fun h => ?_, fun h => ?_, ?_, ?_, ?_, ?_⟩ <;> first | decide | (revert h; decide))
  | 8, _ => (injection hi with hi; subst hi; refine ⟨fun h => ?_, fun h => ?_, ?_, ?_, ?_, ?_⟩ <;> first | decide | (revert h; decide))
  | 9, _ => (injection hi with hi; subst hi; refine ⟨fun h => ?_, fun h => ?_, ?_, ?_, ?_, ?_⟩ <;> first | decide | (revert h; decide))
  | 10, _ => (injection hi with hi; subst hi; refine ⟨fun h => ?_, fun h => ?_, ?_, ?_, ?_, ?_⟩ <;> first | decide | (revert h; decide))
  | 11, _ => (injection hi with hi; subst hi; refine ⟨fun h => ?_, fun h => ?_, ?_, ?_, ?_, ?_⟩ <;> first | decide | (revert h; decide))
  | 12, _ => (injection hi with hi; subst hi; refine ⟨fun h => ?_, fun h => ?_, ?_, ?_, ?_, ?_⟩ <;> first | decide | (revert h; decide))
  | 13, _ => (injection hi with hi; subst hi; refine ⟨fun h => ?_, fun h => ?_, ?_, ?_, ?_, ?_⟩ <;> first | decide | (revert h; decide))
theorem low0 : Low tys0 := by
  intro i ty hi
  have hlt : i < 10 := by
    have := (List.getElem?_eq_some_iff.1 hi).1
    exact this
  unfold lowTy
  match i, hlt with
  | 0, _ => (injection hi with hi; subst hi; refine ⟨fun h => ?_, fun h => ?_, ?_, ?_, ?_, ?_⟩ <;> first | decide | (revert h; decide))
  | 1, _ => (injection hi with hi; subst hi; refine ⟨fun h => ?_, fun h => ?_, ?_, ?_, ?_, ?_⟩ <;> first | decide | (revert h; decide))
  | 2, _ => (injection hi with hi; subst hi; refine ⟨fun h => ?_, fun h => ?_, ?_, ?_, ?_, ?_⟩ <;> first | decide | (revert h; decide))
  | 3, _ => (injection hi with hi; subst hi; refine ⟨fun h => ?_, fun h => ?_, ?_, ?_, ?_, ?_⟩ <;> first | decide | (revert h; decide))
  | 4, _ => (injection hi with hi; subst hi; refine ⟨fun h => ?_, fun h => ?_, ?_, ?_, ?_, ?_⟩ <;> first | decide | (revert h; decide))
  | 5, _ => (injection hi with hi; subst hi; refine ⟨fun h => ?_, fun h => ?_, ?_, ?_, ?_, ?_⟩ <;> first | decide | (revert h; decide))
  | 6, _ => (injection hi with hi; subst hi; refine ⟨fun h => ?_, fun h => ?_, ?_, ?_, ?_, ?_⟩ <;> first | decide | (revert h; decide))
  | 7, _ => (injection hi with hi; subst hi; refine ⟨fun h => ?_, fun h => ?_, ?_, ?_, ?_, ?_⟩ <;> first | decide | (revert h; decide))
  | 8, _ => (injection hi with hi; subst hi; refine ⟨fun h => ?_, fun h => ?_, ?_, ?_, ?_, ?_⟩ <;> first | decide | (revert h; decide))
  | 9, _ => (injection hi with hi; subst hi; refine ⟨fun h => ?_, fun h => ?_, ?_, ?_, ?_, ?_⟩ <;> first | decide | (revert h; decide))
theorem szW : sz tysW 13 = (24, 0) := by decide +kernel
theorem atW : atK tysW 11 4 = (5, 0) := by decide +kernel
theorem armW : armOf tysW 11 1 = (2, true) := by decide +kernel

theorem listsW (w : World) (P : Nat → Prop) (k b i l h : Int) : Lists w P (.slice none 0 0) (.slice none 0 0) (.slice none 0 0) (.slice none 0 0) ⟨k, ⟨#[]⟩, ⟨#[]⟩, b, i, l, h, [], [], [], [], 0⟩ :=
  ⟨Sl.nil w P 1, Sl.nil w P 3, SlArms.nil w P, Sl.nil w P 2⟩
theorem roomW (k b i l h : Int) : (Ty.mk k ⟨#[]⟩ ⟨#[]⟩ b i l h [] [] [] [] 0).room := ⟨by simp, by simp, by simp, by simp, by simp⟩
theorem listsB (w2 : World) : Lists ((((w2.alloc (.cells #[.string ⟨#[97]⟩, .int .i64 1, .int .i64 0, .string ⟨#[116]⟩, .int .i64 3, .int .i64 1, .string ⟨#[98]⟩, .int .i64 1, .int .i64 2, .string ⟨#[99]⟩, .int .i64 10, .int .i64 3, .string ⟨#[100]⟩, .int .i64 4, .int .i64 3] 45)).alloc (.cells #[.int .i64 1] 2)).alloc (.cells #[.int .i64 1] 2)).alloc (.cells #[.slice (some ⟨w2.heap.size + 1, 0, none⟩) 1 1, .slice (some ⟨w2.heap.size + 1 + 1, 0, none⟩) 1 1, .bool false, .slice none 0 0, .slice none 0 0, .bool true] 54)) (fun _ => True) (.slice none 0 0) (.slice (some ⟨w2.heap.size, 0, none⟩) 5 5) (.slice (some ⟨w2.heap.size + 1 + 1 + 1, 0, none⟩) 2 2) (.slice none 0 0) tyB := by
  have b0 := (((Blk.new w2 45 #[.string ⟨#[97]⟩, .int .i64 1, .int .i64 0, .string ⟨#[116]⟩, .int .i64 3, .int .i64 1, .string ⟨#[98]⟩, .int .i64 1, .int .i64 2, .string ⟨#[99]⟩, .int .i64 10, .int .i64 3, .string ⟨#[100]⟩, .int .i64 4, .int .i64 3]).alloc (.cells #[.int .i64 1] 2)).alloc (.cells #[.int .i64 1] 2)).alloc (.cells #[.slice (some ⟨w2.heap.size + 1, 0, none⟩) 1 1, .slice (some ⟨w2.heap.size + 1 + 1, 0, none⟩) 1 1, .bool false, .slice none 0 0, .slice none 0 0, .bool true] 54)
  have b1 := ((Blk.new (w2.alloc (.cells #[.string ⟨#[97]⟩, .int .i64 1, .int .i64 0, .string ⟨#[116]⟩, .int .i64 3, .int .i64 1, .string ⟨#[98]⟩, .int .i64 1, .int .i64 2, .string ⟨#[99]⟩, .int .i64 10, .int .i64 3, .string ⟨#[100]⟩, .int .i64 4, .int .i64 3] 45)) 2 #[.int .i64 1]).alloc (.cells #[.int .i64 1] 2)).alloc (.cells #[.slice (some ⟨w2.heap.size + 1, 0, none⟩) 1 1, .slice (some ⟨w2.heap.size + 1 + 1, 0, none⟩) 1 1, .bool false, .slice none 0 0, .slice none 0 0, .bool true] 54)
  have b2 := (Blk.new ((w2.alloc (.cells #[.string ⟨#[97]⟩, .int .i64 1, .int .i64 0, .string ⟨#[116]⟩, .int .i64 3, .int .i64 1, .string ⟨#[98]⟩, .int .i64 1, .int .i64 2, .string ⟨#[99]⟩, .int .i64 10, .int .i64 3, .string ⟨#[100]⟩, .int .i64 4, .int .i64 3] 45)).alloc (.cells #[.int .i64 1] 2)) 2 #[.int .i64 1]).alloc (.cells #[.slice (some ⟨w2.heap.size + 1, 0, none⟩) 1 1, .slice (some ⟨w2.heap.size + 1 + 1, 0, none⟩) 1 1, .bool false, .slice none 0 0, .slice none 0 0, .bool true] 54)
  have b3 := Blk.new (((w2.alloc (.cells #[.string ⟨#[97]⟩, .int .i64 1, .int .i64 0, .string ⟨#[116]⟩, .int .i64 3, .int .i64 1, .string ⟨#[98]⟩, .int .i64 1, .int .i64 2, .string ⟨#[99]⟩, .int .i64 10, .int .i64 3, .string ⟨#[100]⟩, .int .i64 4, .int .i64 3] 45)).alloc (.cells #[.int .i64 1] 2)).alloc (.cells #[.int .i64 1] 2)) 54 #[.slice (some ⟨w2.heap.size + 1, 0, none⟩) 1 1, .slice (some ⟨w2.heap.size + 1 + 1, 0, none⟩) 1 1, .bool false, .slice none 0 0, .slice none 0 0, .bool true]
  rw [World.size_alloc] at b1
  rw [World.size_alloc, World.size_alloc] at b2
  rw [World.size_alloc, World.size_alloc, World.size_alloc] at b3
  refine ⟨Sl.nil _ _ 1, Sl.mono (Sl.ofBlk b0 3 5 rfl (by simp only [maxLen]; omega)) (fun _ _ => trivial), ⟨_, Sl.mono (Sl.ofBlk b3 3 2 rfl (by simp only [maxLen]; omega)) (fun _ _ => trivial), by simp [Value.oneCell'], fun i x hi => ?_⟩, Sl.nil _ _ 2⟩
  have hlt : i < 2 := (List.getElem?_eq_some_iff.1 hi).1
  match i, hlt with
  | 0, _ =>
    injection hi with hi
    subst hi
    exact ⟨_, _, rfl, rfl, rfl, Sl.mono (Sl.ofBlk b1 1 1 rfl (by simp only [maxLen]; omega)) (fun _ _ => trivial), Sl.mono (Sl.ofBlk b2 1 1 rfl (by simp only [maxLen]; omega)) (fun _ _ => trivial)⟩
  | 1, _ =>
    injection hi with hi
    subst hi
    exact ⟨_, _, rfl, rfl, rfl, Sl.nil _ _ 1, Sl.nil _ _ 1⟩
theorem roomB : tyB.room := ⟨by decide, by decide, by decide, by decide, by
  intro x hx
  simp only [tyB, List.mem_cons, List.not_mem_nil, or_false] at hx
  rcases hx with rfl | rfl <;> decide⟩
theorem allocB (w2 : World) : Wr [] w2 ((((w2.alloc (.cells #[.string ⟨#[97]⟩, .int .i64 1, .int .i64 0, .string ⟨#[116]⟩, .int .i64 3, .int .i64 1, .string ⟨#[98]⟩, .int .i64 1, .int .i64 2, .string ⟨#[99]⟩, .int .i64 10, .int .i64 3, .string ⟨#[100]⟩, .int .i64 4, .int .i64 3] 45)).alloc (.cells #[.int .i64 1] 2)).alloc (.cells #[.int .i64 1] 2)).alloc (.cells #[.slice (some ⟨w2.heap.size + 1, 0, none⟩) 1 1, .slice (some ⟨w2.heap.size + 1 + 1, 0, none⟩) 1 1, .bool false, .slice none 0 0, .slice none 0 0, .bool true] 54)) := ((((Wr.refl [] w2).alloc _).alloc _).alloc _).alloc _
set_option maxRecDepth 100000 in
set_option maxHeartbeats 4000000 in
theorem works_any (w : World) : Calls Try.prog 9 #[] w fun e w' => e = .returned (.bool true) ∧ Wr [] w w' := by
  go_enter Try.func9, Try.ntmps9
  go_wp2_with fail
  refine (newN (Wr.refl [] w)).mono ?_
  rintro e w1 ⟨t, rfl, h1⟩
  go_wp2_with fail
  refine (addN h1 tyA _ _ _ _ (fun _ => True) (listsW _ _ _ _ _ _ _) (by decide) (roomW _ _ _ _ _) 10 (by decide) (by decide)).mono ?_
  clear h1
  rintro e w2 ⟨rfl, h2⟩
  go_wp2_with fail
  refine (addN (h2.wr0 (allocB w2)) tyB _ _ _ _ (fun _ => True) (listsB w2) (by decide) roomB 11 (by decide) (by decide)).mono ?_
  clear h2
  rintro e w3 ⟨rfl, h3⟩
  go_wp2_with fail
  refine (addN h3 tyC _ _ _ _ (fun _ => True) (listsW _ _ _ _ _ _ _) (by decide) (roomW _ _ _ _ _) 12 (by decide) (by decide)).mono ?_
  clear h3
  rintro e w4 ⟨rfl, h4⟩
  go_wp2_with fail
  refine (addN h4 tyD _ _ _ _ (fun _ => True) (listsW _ _ _ _ _ _ _) (by decide) (roomW _ _ _ _ _) 13 (by decide) (by decide)).mono ?_
  clear h4
  rintro e w5 ⟨rfl, h5⟩
  go_wp2_with fail
  refine (sizeN (tys := tysW) h5 lowW 13 _ szW).mono ?_
  clear h5
  rintro e w6 ⟨rfl, h6, _⟩
  go_wp2_with fail
  refine (atN h6 lowW 11 4 _ atW).mono ?_
  clear h6
  rintro e w7 ⟨rfl, h7, _⟩
  go_wp2_with fail
  refine (armN h7 11 1 _ armW).mono ?_
  clear h7
  rintro e w8 ⟨rfl, h8, _⟩
  go_wp2_with fail
  go_ret
  exact ⟨rfl, h8.wr⟩
end Go.Proofs.Ytloihffdolehhaa
