/- law 23's two: walked. No conditions. -/
import Derived.Test.YtfeeeogkkajefaaLnG
import Derived.Test.YtfeeeogkkajefaaLkL
namespace Go.Proofs.Ytfeeeogkkajefaa
open Go.RowKit
set_option linter.unusedVariables false
set_option linter.unusedSimpArgs false

theorem sl_blk {w : World} {g : Nat} {t : TypeId} {cs : List Value} (h : Blk w g t cs.toArray) (n size : Nat) (hl : cs.length = n * size) (hn : n ≤ maxLen) : Sl w (fun _ => True) size (.slice (some ⟨g, 0, none⟩) n n) n cs :=
  ⟨_, _, rfl, Nat.le_refl _, hn, hl, fun j u hj => ⟨g, 0, rfl, trivial, by rw [Nat.zero_add, h.cell]; simpa using hj⟩⟩
theorem SlObjs.take {w : World} {P : Nat → Prop} {A : Option Addr} {c : Nat} {l : List ObjD} (h : SlObjs w P (.slice A l.length c) l) (k : Nat) (hk : k ≤ l.length) : SlObjs w P (.slice A k c) (l.take k) := by
  obtain ⟨xs, ⟨A', c', e, h1, h2, h3, h4⟩, h5, h6⟩ := h
  injection e with e1 e2 e3
  subst e1
  subst e3
  have hlen : (l.take k).length = k := by rw [List.length_take]; omega
  refine ⟨xs.take (k * 9), ⟨_, _, by rw [hlen], by rw [hlen]; omega, h2, by rw [hlen, List.length_take, h3]; have := Nat.mul_le_mul_right 9 hk; omega, fun j u hj => ?_⟩, fun u hu => h5 u (List.mem_of_mem_take hu), fun i o hi => ?_⟩
  · rw [List.getElem?_take] at hj
    split at hj
    · exact h4 j u hj
    · cases hj
  · have hik := (List.getElem?_eq_some_iff.1 hi).1
    rw [hlen] at hik
    rw [List.getElem?_take, if_pos hik] at hi
    obtain ⟨vu, vp, vi, vn, g1, g2⟩ := h6 i o hi
    refine ⟨vu, vp, vi, vn, fun j u hj => ?_, g2⟩
    have hj9 : j < 9 := (List.getElem?_eq_some_iff.1 hj).1
    rw [List.getElem?_take, if_pos (by omega)]
    exact g1 j u hj
/-- A list of two objects, out of a block that is known whole. -/
theorem slObjs_two {w : World} {g : Nat} {t : TypeId} {o1 o2 : ObjD} {a1 a2 a3 a4 b1 b2 b3 b4 : Value} (h : Blk w g t (o1.cells a1 a2 a3 a4 ++ o2.cells b1 b2 b3 b4).toArray) (h1 : ObjL w (fun _ => True) a1 a2 a3 a4 o1) (h2 : ObjL w (fun _ => True) b1 b2 b3 b4 o2) :
    SlObjs w (fun _ => True) (.slice (some ⟨g, 0, none⟩) 2 2) [o1, o2] := by
  have one : ∀ {o : ObjD} {a1 a2 a3 a4 : Value}, ObjL w (fun _ => True) a1 a2 a3 a4 o → ∀ u ∈ o.cells a1 a2 a3 a4, u.oneCell' = true := by
    intro o a1 a2 a3 a4 ho u hu
    obtain ⟨_, _, rfl, _, _⟩ := Sl.form ho.uses
    obtain ⟨_, _, rfl, _, _⟩ := Sl.form ho.mod.procs
    obtain ⟨_, _, rfl, _, _⟩ := Sl.form ho.mod.imports
    obtain ⟨_, _, rfl, _, _⟩ := Sl.form ho.mod.init
    simp only [ObjD.cells, List.mem_cons, List.not_mem_nil, or_false] at hu
    rcases hu with rfl | rfl | rfl | rfl | rfl | rfl | rfl | rfl | rfl <;> rfl
  refine ⟨_, sl_blk h 2 9 rfl (by unfold maxLen; omega), fun u hu => ?_, fun i o hi => ?_⟩
  · rcases List.mem_append.1 hu with hu | hu
    · exact one h1 u hu
    · exact one h2 u hu
  · match i, hi with
    | 0, hi =>
      simp only [List.getElem?_cons_zero, Option.some.injEq] at hi
      subst hi
      refine ⟨a1, a2, a3, a4, fun j u hj => ?_, h1⟩
      rw [Nat.zero_mul, Nat.zero_add, List.getElem?_append_left (List.getElem?_eq_some_iff.1 hj).1]
      exact hj
    | 1, hi =>
      simp only [List.getElem?_cons_succ, List.getElem?_cons_zero, Option.some.injEq] at hi
      subst hi
      refine ⟨b1, b2, b3, b4, fun j u hj => ?_, h2⟩
      rw [List.getElem?_append_right (by show 9 ≤ 1 * 9 + j; omega)]
      show (o2.cells b1 b2 b3 b4)[1 * 9 + j - 9]? = _
      rw [show 1 * 9 + j - 9 = j by omega]
      exact hj
    | i + 2, hi => simp at hi
set_option maxRecDepth 100000 in
set_option maxHeartbeats 8000000 in
theorem two_any (k : Int) (w : World) : Calls Try.prog 16 #[.int .u64 k] w fun e w' => ∃ A, e = .returned (.slice A 2 2) ∧ Wr [] w w' ∧ SlObjs w' (fun _ => True) (.slice A 2 2) (twoD k 0 0) := by
  obtain ⟨s, hs⟩ : ∃ s, w.heap.size = s := ⟨_, rfl⟩
  obtain ⟨q0, g0⟩ : ∃ q, w.alloc (.cells #[.int .i64 0, .int .i64 0, .int .i64 0, .int .i64 0, .int .i64 1, .bool false] 59) = q := ⟨_, rfl⟩
  obtain ⟨q1, g1⟩ : ∃ q, q0.alloc (.cells #[.string ⟨#[]⟩, .slice (some ⟨s, 0, none⟩) 1 1, .slice none 0 0, .int .i64 0, .slice none 0 0] 50) = q := ⟨_, rfl⟩
  obtain ⟨q2, g2⟩ : ∃ q, q1.alloc (.cells #[.string ⟨#[83]⟩, .int .u64 7] 54) = q := ⟨_, rfl⟩
  obtain ⟨q3, g3⟩ : ∃ q, q2.alloc (.cells #[.string ⟨#[77]⟩, .bool true, .int .u64 0, .slice (some ⟨s + 1 + 1, 0, none⟩) 1 1, .string ⟨#[]⟩, .slice (some ⟨s, 0, none⟩) 1 1, .slice none 0 0, .int .i64 0, .slice none 0 0, .string ⟨#[83]⟩, .bool false, .int .u64 k, .slice none 0 0, .string ⟨#[]⟩, .slice (some ⟨s, 0, none⟩) 1 1, .slice none 0 0, .int .i64 0, .slice none 0 0] 52) = q := ⟨_, rfl⟩
  have z0 : q0.heap.size = s + 1 := by rw [← g0, World.size_alloc, hs]
  have z1 : q1.heap.size = s + 1 + 1 := by rw [← g1, World.size_alloc, z0]
  have z2 : q2.heap.size = s + 1 + 1 + 1 := by rw [← g2, World.size_alloc, z1]
  have r0 : Wr [] w q0 := by rw [← g0]; exact (Wr.refl [] w).alloc _
  have r1 : Wr [] q0 q1 := by rw [← g1]; exact (Wr.refl [] q0).alloc _
  have r2 : Wr [] q1 q2 := by rw [← g2]; exact (Wr.refl [] q1).alloc _
  have r3 : Wr [] q2 q3 := by rw [← g3]; exact (Wr.refl [] q2).alloc _
  have b0 : Blk q0 s 59 #[.int .i64 0, .int .i64 0, .int .i64 0, .int .i64 0, .int .i64 1, .bool false] := by rw [← g0, ← hs]; exact Blk.new _ _ _
  have b2 : Blk q2 (s + 1 + 1) 54 #[.string ⟨#[83]⟩, .int .u64 7] := by rw [← g2, ← z1]; exact Blk.new _ _ _
  have b3 : Blk q3 (s + 1 + 1 + 1) 52 #[.string ⟨#[77]⟩, .bool true, .int .u64 0, .slice (some ⟨s + 1 + 1, 0, none⟩) 1 1, .string ⟨#[]⟩, .slice (some ⟨s, 0, none⟩) 1 1, .slice none 0 0, .int .i64 0, .slice none 0 0, .string ⟨#[83]⟩, .bool false, .int .u64 k, .slice none 0 0, .string ⟨#[]⟩, .slice (some ⟨s, 0, none⟩) 1 1, .slice none 0 0, .int .i64 0, .slice none 0 0] := by rw [← g3, ← z2]; exact Blk.new _ _ _
  have hp : SlPrcs q3 (fun _ => True) (.slice (some ⟨s, 0, none⟩) 1 1) [⟨0, 0, 0, 0, 1, false⟩] := sl_blk (cs := [.int .i64 0, .int .i64 0, .int .i64 0, .int .i64 0, .int .i64 1, .bool false]) (((b0.wr0 r1).wr0 r2).wr0 r3) 1 6 rfl (by unfold maxLen; omega)
  have hu : SlUses q3 (fun _ => True) (.slice (some ⟨s + 1 + 1, 0, none⟩) 1 1) [⟨⟨#[83]⟩, 7⟩] := sl_blk (cs := [.string ⟨#[83]⟩, .int .u64 7]) (b2.wr0 r3) 1 2 rfl (by unfold maxLen; omega)
  have hml : ModL q3 (fun _ => True) (.slice (some ⟨s, 0, none⟩) 1 1) (.slice none 0 0) (.slice none 0 0) { bodyM with data := 0 } := ⟨hp, Sl.nil _ _ 1, Sl.nil _ _ 1⟩
  have hob : SlObjs q3 (fun _ => True) (.slice (some ⟨s + 1 + 1 + 1, 0, none⟩) 2 2) (twoD k 0 0) :=
    slObjs_two (o1 := ⟨⟨#[77]⟩, true, 0, [⟨⟨#[83]⟩, 7⟩], { bodyM with data := 0 }⟩) (o2 := ⟨⟨#[83]⟩, false, k, [], { bodyM with data := 0 }⟩) b3 ⟨hu, hml⟩ ⟨Sl.nil _ _ 2, hml⟩
  have acc := ((r0.trans r1).trans r2).trans r3
  have HS := Lib.hid hs
  have G0 := Lib.hid g0
  have G1 := Lib.hid g1
  have G2 := Lib.hid g2
  have G3 := Lib.hid g3
  have HOB := Lib.hid hob
  have ACC := Lib.hid acc
  clear hs g0 g1 g2 g3 z0 z1 z2 r0 r1 r2 r3 b0 b2 b3 hp hu hml hob acc
  go_enter Try.func16, Try.ntmps16
  go_wp2_with fail
  rw [HS.out, G0.out, G1.out, G2.out, G3.out]
  go_ret
  exact ⟨_, rfl, ACC.out, HOB.out⟩
theorem two_ok : linkP (twoD 7 0 0) ⟨#[77]⟩ = (⟨[⟨#[83]⟩, ⟨#[77]⟩], [{ bodyM with data := 0 }, { bodyM with data := 0, imports := [0] }], [0, 1]⟩, ⟨#[]⟩, 0) := by kernel_rfl
theorem two_mis : (linkP (twoD 8 0 0) ⟨#[77]⟩).2 = (⟨#[77]⟩, 230) := by kernel_rfl
theorem two_main : (linkP (twoD 7 0 0) ⟨#[83]⟩).2 = (⟨#[83]⟩, 231) := by kernel_rfl
theorem two_none : (linkP ((twoD 7 0 0).take 1) ⟨#[77]⟩).2 = (⟨#[83]⟩, 3) := by kernel_rfl
end Go.Proofs.Ytfeeeogkkajefaa
