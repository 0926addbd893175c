/- Rows of objects whose lists lie in blocks that Q lets in; law 23's two, once more, as such a row. No conditions. -/
import Derived.Test.YtfeeeogkkajefaaLaB
import Derived.Test.YtfeeeogkkajefaaLaR
namespace Go.Proofs.Ytfeeeogkkajefaa
open Go.RowKit
set_option linter.unusedVariables false
set_option linter.unusedSimpArgs false

def RowQ (base : Nat) (wr : World) (Q : Nat → Prop) (l : List ObjD) (v : Value) : Prop :=
  ∃ xs, wr.ownsRow base 52 9 v l.length xs ∧ (∀ u ∈ xs, u.oneCell' = true) ∧ ∀ i o, l[i]? = some o → ∃ vu vp vi vn, (∀ j u, (o.cells vu vp vi vn)[j]? = some u → xs[i * 9 + j]? = some u) ∧ ObjL wr Q vu vp vi vn o
theorem RowQ.nil (base : Nat) (wr : World) (Q : Nat → Prop) : RowQ base wr Q [] (.slice none 0 0) := ⟨[], World.ownsRow_nil _ _ _ _, by simp, fun i m h => by simp at h⟩
theorem ObjL.ones {w : World} {Q : Nat → Prop} {vu vp vi vn : Value} {o : ObjD} (ho : ObjL w Q vu vp vi vn o) : ∀ u ∈ o.cells vu vp vi vn, u.oneCell' = true := by
  intro u hu
  obtain ⟨_, _, rfl, _, _⟩ := Sl.form ho.uses
  obtain ⟨_, _, rfl, _, _⟩ := Sl.form ho.mod.procs
  obtain ⟨_, _, rfl, _, _⟩ := Sl.form ho.mod.imports
  obtain ⟨_, _, rfl, _, _⟩ := Sl.form ho.mod.init
  simp only [ObjD.cells, List.mem_cons, List.not_mem_nil, or_false] at hu
  rcases hu with rfl | rfl | rfl | rfl | rfl | rfl | rfl | rfl | rfl <;> rfl
theorem RowQ.keep {base : Nat} {wr W : World} {Q : Nat → Prop} {l : List ObjD} {v : Value} {ls : List Nat} (h : RowQ base wr Q l v) (hw : Wr ls wr W) (hv : ∀ b, v.ownBlock = some b → b ∉ ls) (hQ : ∀ b, Q b → b ∉ ls) : RowQ base W Q l v := by
  obtain ⟨xs, h1, h2, h3⟩ := h
  refine ⟨xs, own_keep h1 hw hv, h2, fun i x hi => ?_⟩
  obtain ⟨vu, vp, vi, vn, e1, e2⟩ := h3 i x hi
  exact ⟨vu, vp, vi, vn, e1, e2.keep hw hQ⟩
theorem RowQ.wr0 {base : Nat} {wr W : World} {Q : Nat → Prop} {l : List ObjD} {v : Value} (h : RowQ base wr Q l v) (hw : Wr [] wr W) : RowQ base W Q l v := h.keep hw (fun _ _ => by simp) (fun _ _ => by simp)
theorem RowQ.into {base : Nat} {wr : World} {Q R : Nat → Prop} {l : List ObjD} {v : Value} (h : RowQ base wr Q l v) (hQ : ∀ b, Q b → b < wr.heap.size → R b) : RowQ base wr R l v := by
  obtain ⟨xs, h1, h2, h3⟩ := h
  refine ⟨xs, h1, h2, fun i x hi => ?_⟩
  obtain ⟨vu, vp, vi, vn, e1, e2⟩ := h3 i x hi
  exact ⟨vu, vp, vi, vn, e1, e2.into hQ⟩
theorem RowQ.push {base : Nat} {wr W : World} {Q : Nat → Prop} {l : List ObjD} {v v' vu vp vi vn : Value} {o : ObjD} {xs : List Value} (h1 : wr.ownsRow base 52 9 v l.length xs) (h2 : ∀ u ∈ xs, u.oneCell' = true)
    (h3 : ∀ (i : Nat) (m : ObjD), l[i]? = some m → ∃ vu vp vi vn, (∀ (j : Nat) (u : Value), (m.cells vu vp vi vn)[j]? = some u → xs[i * 9 + j]? = some u) ∧ ObjL wr Q vu vp vi vn m)
    (hQ : ∀ b, Q b → b ∉ ownL v) (ho : ObjL wr Q vu vp vi vn o) (hg : wr.grownBy W v.ownBlock)
    (hown : W.ownsRow base 52 9 v' (l.length + 1) (xs ++ o.cells vu vp vi vn)) : RowQ base W Q (l ++ [o]) v' := by
  have hw : Wr (ownL v) wr W := Wr.ofGrownOwn hg
  have hxl := h1.1
  refine ⟨_, by rw [List.length_append]; exact hown, ?_, fun i y hi => ?_⟩
  · intro u hu
    rcases List.mem_append.1 hu with hu | hu
    · exact h2 u hu
    · exact ho.ones u hu
  · rcases Nat.lt_or_ge i l.length with hlt | hge
    · rw [List.getElem?_append_left hlt] at hi
      obtain ⟨vu2, vp2, vi2, vn2, e1, e2⟩ := h3 i y hi
      refine ⟨vu2, vp2, vi2, vn2, fun j u hj => ?_, e2.keep hw hQ⟩
      have := e1 j u hj
      rw [List.getElem?_append_left (List.getElem?_eq_some_iff.1 this).1]
      exact this
    · rw [List.getElem?_append_right hge] at hi
      have hil : i = l.length := by
        rcases Nat.eq_zero_or_pos (i - l.length) with h | h
        · omega
        · rw [List.getElem?_eq_none (by simp; omega)] at hi; cases hi
      subst hil
      rw [Nat.sub_self] at hi
      simp only [List.getElem?_cons_zero, Option.some.injEq] at hi
      subst hi
      refine ⟨_, _, _, _, fun j u hj => ?_, ho.keep hw hQ⟩
      rw [List.getElem?_append_right (by rw [hxl]; omega), hxl, Nat.add_sub_cancel_left]
      exact hj
theorem RowQ.sl {base : Nat} {wr : World} {Q : Nat → Prop} {l : List ObjD} {v : Value} (h : RowQ base wr Q l v) : SlObjs wr (fun _ => True) v l := by
  obtain ⟨xs, h1, h2, h3⟩ := h
  refine ⟨xs, Sl.ofOwn h1 (fun b hb => trivial), h2, fun i o hi => ?_⟩
  obtain ⟨vu, vp, vi, vn, e1, e2⟩ := h3 i o hi
  exact ⟨vu, vp, vi, vn, e1, e2.into (fun _ _ _ => trivial)⟩
theorem RowQ.form {base : Nat} {wr : World} {Q : Nat → Prop} {l : List ObjD} {v : Value} (h : RowQ base wr Q l v) : ∃ A c, v = .slice A l.length c := by
  obtain ⟨A, c, e, _⟩ := h.sl.form
  exact ⟨A, c, e⟩
/-- Cells stored one behind the other, in a list. -/
def setsAt (xs : List Value) (b : Nat) : List Value → List Value
  | [] => xs
  | c :: cs => setsAt (xs.set b c) (b + 1) cs
theorem setsAt_len : ∀ (cs xs : List Value) (b : Nat), (setsAt xs b cs).length = xs.length
  | [], xs, b => rfl
  | c :: cs, xs, b => by unfold setsAt; rw [setsAt_len cs]; simp
theorem setsAt_far : ∀ (cs xs : List Value) (b i : Nat), i < b ∨ b + cs.length ≤ i → (setsAt xs b cs)[i]? = xs[i]?
  | [], xs, b, i, h => rfl
  | c :: cs, xs, b, i, h => by
    unfold setsAt
    rw [List.length_cons] at h
    rw [setsAt_far cs _ _ _ (by omega), List.getElem?_set_ne (by omega)]
theorem setsAt_at : ∀ (cs xs : List Value) (b j : Nat) (u : Value), cs[j]? = some u → b + cs.length ≤ xs.length → (setsAt xs b cs)[b + j]? = some u
  | [], xs, b, j, u, h, _ => by simp at h
  | c :: cs, xs, b, 0, u, h, hl => by
    unfold setsAt
    rw [List.length_cons] at hl
    rw [setsAt_far cs _ _ _ (by omega), Nat.add_zero, List.getElem?_set_self (by omega)]
    exact h
  | c :: cs, xs, b, j + 1, u, h, hl => by
    unfold setsAt
    rw [List.length_cons] at hl
    rw [show b + (j + 1) = b + 1 + j by omega]
    exact setsAt_at cs _ _ j u (by simpa using h) (by rw [List.length_set]; omega)
theorem setsAt_mem : ∀ (cs xs : List Value) (b : Nat) (u : Value), u ∈ setsAt xs b cs → u ∈ xs ∨ u ∈ cs
  | [], xs, b, u, h => .inl h
  | c :: cs, xs, b, u, h => by
    unfold setsAt at h
    rcases setsAt_mem cs _ _ u h with h | h
    · rcases List.mem_or_eq_of_mem_set h with h | h
      · exact .inl h
      · exact .inr (by rw [h]; simp)
    · exact .inr (by simp [h])
/-- Where an object lies in a row of one's own. -/
theorem RowQ.at_ {base : Nat} {wr : World} {Q : Nat → Prop} {l : List ObjD} {g c : Nat} (h : RowQ base wr Q l (.slice (some ⟨g, 0, none⟩) l.length c)) {p : Nat} {o : ObjD} (hp : l[p]? = some o) :
    base ≤ g ∧ (∀ j, wr.frozen? ⟨g, j, none⟩ = false) ∧ ∃ vu vp vi vn, (∀ j u, (o.cells vu vp vi vn)[j]? = some u → wr.cell? ⟨g, p * 9 + j, none⟩ = some u) ∧ ObjL wr Q vu vp vi vn o := by
  obtain ⟨xs, h1, h2, h3⟩ := h
  obtain ⟨vu, vp, vi, vn, e1, e2⟩ := h3 p o hp
  refine ⟨(h1.lt g rfl).1, fun j => h1.frozenAt j, vu, vp, vi, vn, fun j u hj => ?_, e2⟩
  have := h1.cells (g := g) rfl _ u (e1 j u hj)
  simpa [Addr.add_lit] using this
/-- An object stored anew in a row of one's own. -/
theorem RowQ.put {base : Nat} {wr : World} {Q : Nat → Prop} {l : List ObjD} {g c : Nat} (h : RowQ base wr Q l (.slice (some ⟨g, 0, none⟩) l.length c)) {p : Nat} (hp : p < l.length) {o : ObjD} {vu vp vi vn : Value} (ho : ObjL wr Q vu vp vi vn o) (hQ : ∀ b, Q b → b ≠ g)
    {W : World} (hW : W = (((((((((wr.setCell ⟨g, p * 9, none⟩ (.string o.module)).setCell ⟨g, p * 9 + 1, none⟩ (.bool o.main)).setCell ⟨g, p * 9 + 2, none⟩ (.int .u64 o.key)).setCell ⟨g, p * 9 + 3, none⟩ vu).setCell ⟨g, p * 9 + 4, none⟩ (.string o.mod.code)).setCell ⟨g, p * 9 + 5, none⟩ vp).setCell ⟨g, p * 9 + 6, none⟩ vi).setCell ⟨g, p * 9 + 7, none⟩ (.int .i64 o.mod.data)).setCell ⟨g, p * 9 + 8, none⟩ vn)) :
    Wr [g] wr W ∧ RowQ base W Q (l.set p o) (.slice (some ⟨g, 0, none⟩) l.length c) := by
  subst hW
  obtain ⟨xs, h1, h2, h3⟩ := h
  have keep : ∀ {q : World} {j : Nat} {u : Value}, Wr [g] wr q → Wr [g] wr (q.setCell ⟨g, j, none⟩ u) := fun hq => hq.setOn (by simp) _
  have hW : Wr [g] wr (((((((((wr.setCell ⟨g, p * 9, none⟩ (.string o.module)).setCell ⟨g, p * 9 + 1, none⟩ (.bool o.main)).setCell ⟨g, p * 9 + 2, none⟩ (.int .u64 o.key)).setCell ⟨g, p * 9 + 3, none⟩ vu).setCell ⟨g, p * 9 + 4, none⟩ (.string o.mod.code)).setCell ⟨g, p * 9 + 5, none⟩ vp).setCell ⟨g, p * 9 + 6, none⟩ vi).setCell ⟨g, p * 9 + 7, none⟩ (.int .i64 o.mod.data)).setCell ⟨g, p * 9 + 8, none⟩ vn) := keep (keep (keep (keep (keep (keep (keep (keep (keep (Wr.refl [g] wr)))))))))
  refine ⟨hW, setsAt xs (p * 9) (o.cells vu vp vi vn), ?_, fun u hu => ?_, fun i y hi => ?_⟩
  · rw [List.length_set]
    exact ((((((((((h1.stored (p * 9) (.string o.module)).1.stored (p * 9 + 1) (.bool o.main)).1.stored (p * 9 + 2) (.int .u64 o.key)).1.stored (p * 9 + 3) vu).1.stored (p * 9 + 4) (.string o.mod.code)).1.stored (p * 9 + 5) vp).1.stored (p * 9 + 6) vi).1.stored (p * 9 + 7) (.int .i64 o.mod.data)).1.stored (p * 9 + 8) vn).1)
  · rcases setsAt_mem _ _ _ u hu with hu | hu
    · exact h2 u hu
    · exact ho.ones u hu
  · have hxl := h1.1
    rw [List.getElem?_set] at hi
    by_cases hip : p = i
    · subst hip
      rw [if_pos rfl, if_pos hp] at hi
      injection hi with hi
      subst hi
      refine ⟨vu, vp, vi, vn, fun j u hj => ?_, ho.keep hW (fun b hb => by simpa using hQ b hb)⟩
      refine setsAt_at _ _ _ j u hj ?_
      show p * 9 + 9 ≤ _
      rw [hxl]
      have := Nat.mul_le_mul_right 9 (show p + 1 ≤ l.length by omega)
      omega
    · rw [if_neg hip] at hi
      obtain ⟨vu', vp', vi', vn', a1, a2⟩ := h3 i y hi
      refine ⟨vu', vp', vi', vn', fun j u hj => ?_, a2.keep hW (fun b hb => by simpa using hQ b hb)⟩
      have hj9 : j < 9 := (List.getElem?_eq_some_iff.1 hj).1
      rw [setsAt_far]
      · exact a1 j u hj
      · show i * 9 + j < p * 9 ∨ p * 9 + 9 ≤ i * 9 + j
        omega
/-- A row of two, out of a block that is known whole. -/
theorem rowQ_two {w : World} {base g : Nat} {Q : Nat → Prop} {o1 o2 : ObjD} {a1 a2 a3 a4 b1 b2 b3 b4 : Value} (h : Blk w g 52 (o1.cells a1 a2 a3 a4 ++ o2.cells b1 b2 b3 b4).toArray) (hb : base ≤ g) (h1 : ObjL w Q a1 a2 a3 a4 o1) (h2 : ObjL w Q b1 b2 b3 b4 o2) :
    RowQ base w Q [o1, o2] (.slice (some ⟨g, 0, none⟩) 2 2) := by
  refine ⟨o1.cells a1 a2 a3 a4 ++ o2.cells b1 b2 b3 b4, ⟨rfl, .inr ⟨g, 2, _, rfl, hb, h, Nat.le_refl _, by unfold maxLen; omega, rfl, rfl⟩⟩, fun u hu => ?_, fun i o hi => ?_⟩
  · rcases List.mem_append.1 hu with hu | hu
    · exact h1.ones u hu
    · exact h2.ones u hu
  · match i, hi with
    | 0, hi =>
      simp only [List.getElem?_cons_zero, Option.some.injEq] at hi
      subst hi
      refine ⟨a1, a2, a3, a4, fun j u hj => ?_, h1⟩
      rw [Nat.zero_mul, Nat.zero_add, List.getElem?_append_left (List.getElem?_eq_some_iff.1 hj).1]
      exact hj
    | 1, hi =>
      simp only [List.getElem?_cons_succ, List.getElem?_cons_zero, Option.some.injEq] at hi
      subst hi
      refine ⟨b1, b2, b3, b4, fun j u hj => ?_, h2⟩
      rw [List.getElem?_append_right (by show 9 ≤ 1 * 9 + j; omega)]
      show (o2.cells b1 b2 b3 b4)[1 * 9 + j - 9]? = _
      rw [show 1 * 9 + j - 9 = j by omega]
      exact hj
    | i + 2, hi => simp at hi
set_option maxRecDepth 100000 in
set_option maxHeartbeats 8000000 in
theorem two_anyQ (k : Int) (w : World) : Calls Try.prog 16 #[.int .u64 k] w fun e w' => ∃ g, e = .returned (.slice (some ⟨g, 0, none⟩) 2 2) ∧ Wr [] w w' ∧ RowQ w.heap.size w' (fun b => b ≠ g) (twoD k 0 0) (.slice (some ⟨g, 0, none⟩) 2 2) := by
  obtain ⟨s, hs⟩ : ∃ s, w.heap.size = s := ⟨_, rfl⟩
  obtain ⟨q0, g0⟩ : ∃ q, w.alloc (.cells #[.int .i64 0, .int .i64 0, .int .i64 0, .int .i64 0, .int .i64 1, .bool false] 59) = q := ⟨_, rfl⟩
  obtain ⟨q1, g1⟩ : ∃ q, q0.alloc (.cells #[.string ⟨#[]⟩, .slice (some ⟨s, 0, none⟩) 1 1, .slice none 0 0, .int .i64 0, .slice none 0 0] 50) = q := ⟨_, rfl⟩
  obtain ⟨q2, g2⟩ : ∃ q, q1.alloc (.cells #[.string ⟨#[83]⟩, .int .u64 7] 54) = q := ⟨_, rfl⟩
  obtain ⟨q3, g3⟩ : ∃ q, q2.alloc (.cells #[.string ⟨#[77]⟩, .bool true, .int .u64 0, .slice (some ⟨s + 1 + 1, 0, none⟩) 1 1, .string ⟨#[]⟩, .slice (some ⟨s, 0, none⟩) 1 1, .slice none 0 0, .int .i64 0, .slice none 0 0, .string ⟨#[83]⟩, .bool false, .int .u64 k, .slice none 0 0, .string ⟨#[]⟩, .slice (some ⟨s, 0, none⟩) 1 1, .slice none 0 0, .int .i64 0, .slice none 0 0] 52) = q := ⟨_, rfl⟩
  have z0 : q0.heap.size = s + 1 := by rw [← g0, World.size_alloc, hs]
  have z1 : q1.heap.size = s + 1 + 1 := by rw [← g1, World.size_alloc, z0]
  have z2 : q2.heap.size = s + 1 + 1 + 1 := by rw [← g2, World.size_alloc, z1]
  have r0 : Wr [] w q0 := by rw [← g0]; exact (Wr.refl [] w).alloc _
  have r1 : Wr [] q0 q1 := by rw [← g1]; exact (Wr.refl [] q0).alloc _
  have r2 : Wr [] q1 q2 := by rw [← g2]; exact (Wr.refl [] q1).alloc _
  have r3 : Wr [] q2 q3 := by rw [← g3]; exact (Wr.refl [] q2).alloc _
  have b0 : Blk q0 s 59 #[.int .i64 0, .int .i64 0, .int .i64 0, .int .i64 0, .int .i64 1, .bool false] := by rw [← g0, ← hs]; exact Blk.new _ _ _
  have b2 : Blk q2 (s + 1 + 1) 54 #[.string ⟨#[83]⟩, .int .u64 7] := by rw [← g2, ← z1]; exact Blk.new _ _ _
  have b3 : Blk q3 (s + 1 + 1 + 1) 52 #[.string ⟨#[77]⟩, .bool true, .int .u64 0, .slice (some ⟨s + 1 + 1, 0, none⟩) 1 1, .string ⟨#[]⟩, .slice (some ⟨s, 0, none⟩) 1 1, .slice none 0 0, .int .i64 0, .slice none 0 0, .string ⟨#[83]⟩, .bool false, .int .u64 k, .slice none 0 0, .string ⟨#[]⟩, .slice (some ⟨s, 0, none⟩) 1 1, .slice none 0 0, .int .i64 0, .slice none 0 0] := by rw [← g3, ← z2]; exact Blk.new _ _ _
  have nm : ∀ {q : World} {Q : Nat → Prop} {t : TypeId} {gb n size : Nat} {cs : List Value} (h : Blk q gb t cs.toArray) (hl : cs.length = n * size) (hn : n ≤ maxLen) (hQ : Q gb), Sl q Q size (.slice (some ⟨gb, 0, none⟩) n n) n cs := fun {q Q t gb n size cs} h hl hn hQ =>
    ⟨_, _, rfl, Nat.le_refl _, hn, hl, fun j u hj => ⟨gb, 0, rfl, hQ, by rw [Nat.zero_add, h.cell]; simpa using hj⟩⟩
  have hp : SlPrcs q3 (fun b => b ≠ s + 1 + 1 + 1) (.slice (some ⟨s, 0, none⟩) 1 1) [⟨0, 0, 0, 0, 1, false⟩] := nm (cs := [.int .i64 0, .int .i64 0, .int .i64 0, .int .i64 0, .int .i64 1, .bool false]) (((b0.wr0 r1).wr0 r2).wr0 r3) rfl (by unfold maxLen; omega) (by show s ≠ _; omega)
  have hu : SlUses q3 (fun b => b ≠ s + 1 + 1 + 1) (.slice (some ⟨s + 1 + 1, 0, none⟩) 1 1) [⟨⟨#[83]⟩, 7⟩] := nm (cs := [.string ⟨#[83]⟩, .int .u64 7]) (b2.wr0 r3) rfl (by unfold maxLen; omega) (by show s + 1 + 1 ≠ _; omega)
  have hml : ModL q3 (fun b => b ≠ s + 1 + 1 + 1) (.slice (some ⟨s, 0, none⟩) 1 1) (.slice none 0 0) (.slice none 0 0) { bodyM with data := 0 } := ⟨hp, Sl.nil _ _ 1, Sl.nil _ _ 1⟩
  have hob : RowQ w.heap.size q3 (fun b => b ≠ s + 1 + 1 + 1) (twoD k 0 0) (.slice (some ⟨s + 1 + 1 + 1, 0, none⟩) 2 2) :=
    rowQ_two (o1 := ⟨⟨#[77]⟩, true, 0, [⟨⟨#[83]⟩, 7⟩], { bodyM with data := 0 }⟩) (o2 := ⟨⟨#[83]⟩, false, k, [], { bodyM with data := 0 }⟩) b3 (by rw [hs]; omega) ⟨hu, hml⟩ ⟨Sl.nil _ _ 2, hml⟩
  have acc := ((r0.trans r1).trans r2).trans r3
  have HS := Lib.hid hs
  have G0 := Lib.hid g0
  have G1 := Lib.hid g1
  have G2 := Lib.hid g2
  have G3 := Lib.hid g3
  have HOB := Lib.hid hob
  have ACC := Lib.hid acc
  clear hs g0 g1 g2 g3 z0 z1 z2 r0 r1 r2 r3 b0 b2 b3 nm hp hu hml hob acc
  go_enter Try.func16, Try.ntmps16
  go_wp2_with fail
  rw [HS.out, G0.out, G1.out, G2.out, G3.out]
  go_ret
  have hob2 := HOB.out
  rw [HS.out] at hob2
  exact ⟨_, rfl, ACC.out, hob2⟩
end Go.Proofs.Ytfeeeogkkajefaa
