/- iface's May: walked. No conditions. -/
import Derived.Test.YtmpbkfbjmmoapaaIL08
namespace Go.Proofs.Ytmpbkfbjmmoapaa
open Go.RowKit
set_option linter.unusedVariables false
set_option linter.unusedSimpArgs false
theorem fit_types {f : FaceD} (h : faceFit f = true) : f.types.length ≤ 1024 := by
  unfold faceFit at h
  simp only [Bool.and_eq_true, decide_eq_true_eq] at h
  exact h.1.1.1.1.2
set_option maxRecDepth 100000 in
set_option maxHeartbeats 4000000 in
theorem may_any (f : FaceD) (vu vt vi : Value) (P : Nat → Prop) (w : World) (h : FaceL w P vu vt vi f) :
    Calls Try.prog 12 #[.agg #[.string f.module, vu, vt, vi]] w fun e w' => e = .returned (.int .i64 (mayP f)) ∧ Wr [] w w' := by
  obtain ⟨⟨A1, k1, rfl, hn1, hn2⟩, ⟨A2, k2, rfl, hf1, hf2⟩, ⟨A3, k3, rfl, ha1, ha2⟩⟩ := h.forms
  unfold maxLen at hn2 hf2 ha2
  have acc := (Wr.refl [] w).alloc (.cells #[.string f.module, .slice A1 f.uses.length k1, .slice A2 f.types.length k2, .slice A3 f.items.length k3] 31)
  have bA := Blk.new w 31 #[.string f.module, .slice A1 f.uses.length k1, .slice A2 f.types.length k2, .slice A3 f.items.length k3]
  have hfi := fitting_any f _ _ _ P _ (h.wr0 acc)
  have hfo := fun hnt W (hW : Wr [] w W) => formed_any f _ _ _ P W (h.wr0 hW) hnt
  have hou := fun W (hW : Wr [] w W) => onceU_any f.uses _ P W (Sl.wr0 h.uses hW)
  have hoe := fun W (hW : Wr [] w W) => onceE_any f.items _ P W (Sl.wr0 h.items hW)
  obtain ⟨v, hv⟩ : ∃ v, mayP f = v := ⟨_, rfl⟩
  obtain ⟨r1, h1⟩ : ∃ r, faceFit f = r := ⟨_, rfl⟩
  obtain ⟨r2, h2⟩ : ∃ r, onceB [] (f.uses.map fun x => x.module) = r := ⟨_, rfl⟩
  obtain ⟨r3, h3⟩ : ∃ r, onceB [] (f.items.map fun x => x.name) = r := ⟨_, rfl⟩
  obtain ⟨r4, h4⟩ : ∃ r, faceForm f = r := ⟨_, rfl⟩
  have hm : v = if r1 then if r2 && r3 then if r4 then 0 else 7 else 6 else 5 := by rw [← hv, ← h1, ← h2, ← h3, ← h4]; rfl
  rw [hv]
  rw [h1] at hfi
  rw [h2] at hou
  rw [h3] at hoe
  rw [h4] at hfo
  have HFI := Lib.hid hfi
  have HFO := Lib.hid hfo
  have HOU := Lib.hid hou
  have HOE := Lib.hid hoe
  have HM := Lib.hid hm
  have H1 := Lib.hid h1
  have ACC := Lib.hid acc
  have BA := Lib.hid bA
  clear hfi hfo hou hoe hm h1 h2 h3 h4 hv acc bA h
  go_enter Try.func12, Try.ntmps12
  go_wp2_with fail
  refine HFI.out.mono ?_
  rintro e w1 ⟨rfl, q1⟩
  have ACC1 := Lib.hid (ACC.out.trans q1)
  have BA1 := Lib.hid (BA.out.wr0 q1)
  clear q1
  cases r1 with
  | false =>
    obtain rfl : v = 5 := by rw [HM.out]; rfl
    clear HM
    go_wp2_with fail
    go_ret
    exact ⟨rfl, ACC1.out⟩
  | true =>
  have c1 := BA1.out.cell 1
  simp only [List.getElem?_toArray, List.getElem?_cons_zero, List.getElem?_cons_succ] at c1
  go_wp2_with fail
  refine (HOU.out _ ACC1.out).mono ?_
  rintro e w2 ⟨rfl, q2⟩
  have ACC2 := Lib.hid (ACC1.out.trans q2)
  have BA2 := Lib.hid (BA1.out.wr0 q2)
  clear q2 c1
  cases r2 with
  | false =>
    obtain rfl : v = 6 := by rw [HM.out]; rfl
    clear HM
    go_wp2_with fail
    go_ret
    exact ⟨rfl, ACC2.out⟩
  | true =>
  have c3 := BA2.out.cell 3
  simp only [List.getElem?_toArray, List.getElem?_cons_zero, List.getElem?_cons_succ] at c3
  go_wp2_with fail
  refine (HOE.out _ ACC2.out).mono ?_
  rintro e w3 ⟨rfl, q3⟩
  have ACC3 := Lib.hid (ACC2.out.trans q3)
  have BA3 := Lib.hid (BA2.out.wr0 q3)
  clear q3 c3
  cases r3 with
  | false =>
    obtain rfl : v = 6 := by rw [HM.out]; rfl
    clear HM
    go_wp2_with fail
    go_ret
    exact ⟨rfl, ACC3.out⟩
  | true =>
  have c0 := BA3.out.cell 0
  have c1 := BA3.out.cell 1
  have c2 := BA3.out.cell 2
  have c3 := BA3.out.cell 3
  simp only [List.getElem?_toArray, List.getElem?_cons_zero, List.getElem?_cons_succ] at c0 c1 c2 c3
  go_wp2_with fail
  refine (HFO.out (fit_types H1.out) _ ACC3.out).mono ?_
  rintro e w4 ⟨rfl, q4⟩
  clear c0 c1 c2 c3
  cases r4 with
  | false =>
    obtain rfl : v = 7 := by rw [HM.out]; rfl
    clear HM
    go_wp2_with fail
    go_ret
    exact ⟨rfl, ACC3.out.trans q4⟩
  | true =>
    obtain rfl : v = 0 := by rw [HM.out]; rfl
    clear HM
    go_wp2_with fail
    go_ret
    exact ⟨rfl, ACC3.out.trans q4⟩
end Go.Proofs.Ytmpbkfbjmmoapaa

/- The small interface of law 14's alive: how it is made, and how such a one lies in memory. No conditions. -/
namespace Go.Proofs.Ytmpbkfbjmmoapaa
open Go.RowKit
set_option linter.unusedVariables false
set_option linter.unusedSimpArgs false
def arrT : Ty := ⟨10, ⟨#[]⟩, ⟨#[]⟩, 4, 11, 0, 0, [], [], [], [], 0⟩
def subT : Ty := ⟨9, ⟨#[]⟩, ⟨#[]⟩, 2, 0, 0, 9, [], [], [], [], 0⟩
def recT : Ty := ⟨12, ⟨#[]⟩, ⟨#[]⟩, 0, 0, 0, 0, [], [], [], [], 0⟩
def itI : ItmD := ⟨⟨#[105]⟩, 3, 11, 0, .nil⟩
def itA : ItmD := ⟨⟨#[97]⟩, 3, 10, 1, .nil⟩
def smallF : FaceD := ⟨⟨#[77]⟩, [], [arrT, subT, recT], [itI, itA]⟩
/-- A type without lists. -/
def Ty.flat (t : Ty) : List Value := t.cells (.slice none 0 0) (.slice none 0 0) (.slice none 0 0) (.slice none 0 0)
def Ty.bare (t : Ty) : Prop := t.names = [] ∧ t.fields = [] ∧ t.arms = [] ∧ t.params = []
theorem flat_len (t : Ty) : t.flat.length = 12 := rfl
theorem bare_lists {t : Ty} (h : t.bare) (w : World) (P : Nat → Prop) : Lists w P (.slice none 0 0) (.slice none 0 0) (.slice none 0 0) (.slice none 0 0) t := by
  obtain ⟨h1, h2, h3, h4⟩ := h
  refine ⟨?_, ?_, ?_, ?_⟩
  · rw [h1]; exact Sl.nil _ _ _
  · rw [h2]; exact Sl.nil _ _ _
  · rw [h3]; exact SlArms.nil _ _
  · rw [h4]; exact Sl.nil _ _ _
theorem blk_sl {w : World} {P : Nat → Prop} {g size n : Nat} {T : TypeId} {xs : List Value} (h : Blk w g T xs.toArray) (hg : P g) (hl : xs.length = n * size) (hn : n ≤ maxLen) : Sl w P size (.slice (some ⟨g, 0, none⟩) n n) n xs :=
  ⟨some ⟨g, 0, none⟩, n, rfl, Nat.le_refl _, hn, hl, fun j u hj => ⟨g, 0, rfl, hg, by rw [Nat.zero_add, h.cell, List.getElem?_toArray]; exact hj⟩⟩
/-- An interface of types without lists, in two blocks. -/
theorem face_at {w : World} {P : Nat → Prop} {gt gi : Nat} (m : ByteArray) (ts : List Ty) (is : List ItmD) (hb : ∀ t ∈ ts, t.bare) (ht : Blk w gt 56 (ts.flatMap Ty.flat).toArray) (hi : Blk w gi 44 (is.flatMap ItmD.cells).toArray) (pt : P gt) (pi : P gi) (n1 : ts.length ≤ maxLen) (n2 : is.length ≤ maxLen) :
    FaceL w P (.slice none 0 0) (.slice (some ⟨gt, 0, none⟩) ts.length ts.length) (.slice (some ⟨gi, 0, none⟩) is.length is.length) ⟨m, [], ts, is⟩ := by
  have len : ∀ ts : List Ty, (ts.flatMap Ty.flat).length = ts.length * 12 := by
    intro ts
    induction ts with
    | nil => rfl
    | cons t ts ih => rw [List.flatMap_cons, List.length_append, ih, flat_len, List.length_cons]; omega
  have len2 : ∀ ts : List ItmD, (ts.flatMap ItmD.cells).length = ts.length * 5 := by
    intro ts
    induction ts with
    | nil => rfl
    | cons t ts ih => rw [List.flatMap_cons, List.length_append, ih, itm_len, List.length_cons]; omega
  refine ⟨Sl.nil _ _ _, ⟨ts.flatMap Ty.flat, blk_sl ht pt (len ts) n1, ?_, ?_⟩, blk_sl hi pi (len2 is) n2⟩
  · intro u hu
    obtain ⟨t, _, hu⟩ := List.mem_flatMap.1 hu
    simp only [Ty.flat, Ty.cells, List.mem_cons, List.not_mem_nil, or_false] at hu
    rcases hu with rfl | rfl | rfl | rfl | rfl | rfl | rfl | rfl | rfl | rfl | rfl | rfl <;> rfl
  · intro i t hi
    refine ⟨_, _, _, _, fun j u hj => ?_, bare_lists (hb t (List.mem_of_getElem? hi)) w P⟩
    have hj12 : j < 12 := (List.getElem?_eq_some_iff.1 hj).1
    rw [flatF_at flat_len ts i j t hi hj12]
    exact hj
def tyL3 : List Value := [arrT, subT, recT].flatMap Ty.flat
def itL2 : List Value := [itI, itA].flatMap ItmD.cells
/-- What small gives back. -/
def SmallR (w : World) (e : Ending) (w' : World) : Prop :=
  ∃ gt gi, e = .returned (.agg #[.string ⟨#[77]⟩, .slice none 0 0, .slice (some ⟨gt, 0, none⟩) 3 3, .slice (some ⟨gi, 0, none⟩) 2 2]) ∧ Wr [] w w' ∧ w.heap.size ≤ gt ∧ w.heap.size ≤ gi ∧ gt ≠ gi ∧ Blk w' gt 56 tyL3.toArray ∧ Blk w' gi 44 itL2.toArray
set_option maxRecDepth 100000 in
set_option maxHeartbeats 4000000 in
theorem small14_any (w : World) : Calls Try.prog 11 #[] w (SmallR w) := by
  go_enter Try.func11, Try.ntmps11
  go_wp2_with fail
  have b0 := ((Blk.new w 31 #[.string ⟨#[77]⟩, .slice none 0 0, .slice (some ⟨w.heap.size + 1, 0, none⟩) 3 3, .slice (some ⟨w.heap.size + 1 + 1, 0, none⟩) 2 2]).alloc (.cells tyL3.toArray 56)).alloc (.cells itL2.toArray 44)
  have b1 := (Blk.new (w.alloc (.cells #[.string ⟨#[77]⟩, .slice none 0 0, .slice (some ⟨w.heap.size + 1, 0, none⟩) 3 3, .slice (some ⟨w.heap.size + 1 + 1, 0, none⟩) 2 2] 31)) 56 tyL3.toArray).alloc (.cells itL2.toArray 44)
  have b2 := Blk.new ((w.alloc (.cells #[.string ⟨#[77]⟩, .slice none 0 0, .slice (some ⟨w.heap.size + 1, 0, none⟩) 3 3, .slice (some ⟨w.heap.size + 1 + 1, 0, none⟩) 2 2] 31)).alloc (.cells tyL3.toArray 56)) 44 itL2.toArray
  have rr : Wr [] w (((w.alloc (.cells #[.string ⟨#[77]⟩, .slice none 0 0, .slice (some ⟨w.heap.size + 1, 0, none⟩) 3 3, .slice (some ⟨w.heap.size + 1 + 1, 0, none⟩) 2 2] 31)).alloc (.cells tyL3.toArray 56)).alloc (.cells itL2.toArray 44)) := (((Wr.refl [] w).alloc _).alloc _).alloc _
  rw [show (w.alloc (.cells #[.string ⟨#[77]⟩, .slice none 0 0, .slice (some ⟨w.heap.size + 1, 0, none⟩) 3 3, .slice (some ⟨w.heap.size + 1 + 1, 0, none⟩) 2 2] 31)).heap.size = w.heap.size + 1 by simp] at b1
  rw [show ((w.alloc (.cells #[.string ⟨#[77]⟩, .slice none 0 0, .slice (some ⟨w.heap.size + 1, 0, none⟩) 3 3, .slice (some ⟨w.heap.size + 1 + 1, 0, none⟩) 2 2] 31)).alloc (.cells tyL3.toArray 56)).heap.size = w.heap.size + 1 + 1 by simp] at b2
  have e3 : tyL3.toArray = #[.int .u8 10, .string ⟨#[]⟩, .string ⟨#[]⟩, .int .i64 4, .int .i64 11, .int .i64 0, .int .i64 0, .slice none 0 0, .slice none 0 0, .slice none 0 0, .slice none 0 0, .int .i64 0, .int .u8 9, .string ⟨#[]⟩, .string ⟨#[]⟩, .int .i64 2, .int .i64 0, .int .i64 0, .int .i64 9, .slice none 0 0, .slice none 0 0, .slice none 0 0, .slice none 0 0, .int .i64 0, .int .u8 12, .string ⟨#[]⟩, .string ⟨#[]⟩, .int .i64 0, .int .i64 0, .int .i64 0, .int .i64 0, .slice none 0 0, .slice none 0 0, .slice none 0 0, .slice none 0 0, .int .i64 0] := rfl
  have e2 : itL2.toArray = #[.string ⟨#[105]⟩, .int .u8 3, .int .i64 11, .nilIface, .int .i64 0, .string ⟨#[97]⟩, .int .u8 3, .int .i64 10, .nilIface, .int .i64 1] := rfl
  rw [← e2, ← e3]
  generalize (((w.alloc (.cells #[.string ⟨#[77]⟩, .slice none 0 0, .slice (some ⟨w.heap.size + 1, 0, none⟩) 3 3, .slice (some ⟨w.heap.size + 1 + 1, 0, none⟩) 2 2] 31)).alloc (.cells tyL3.toArray 56)).alloc (.cells itL2.toArray 44)) = W at *
  have t0 := b0.cell 0
  have t1 := b0.cell 1
  have t2 := b0.cell 2
  have t3 := b0.cell 3
  simp only [List.getElem?_toArray, List.getElem?_cons_zero, List.getElem?_cons_succ] at t0 t1 t2 t3
  refine bodyPost_ret (v := .agg #[.string ⟨#[77]⟩, .slice none 0 0, .slice (some ⟨w.heap.size + 1, 0, none⟩) 3 3, .slice (some ⟨w.heap.size + 1 + 1, 0, none⟩) 2 2]) ?_ rfl ⟨_, _, rfl, rr, by omega, by omega, by omega, b1, b2⟩
  simp [results, Try.results11, go_sem, t0, t1, t2, t3]
end Go.Proofs.Ytmpbkfbjmmoapaa
