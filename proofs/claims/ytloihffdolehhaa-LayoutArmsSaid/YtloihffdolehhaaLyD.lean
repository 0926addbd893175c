/- layout's reckoned: walked, over what size does. Conditions: the table's types hang on those ahead of them. -/
import Derived.Test.YtloihffdolehhaaLyC
import Derived.Deep.DeepCutAuto
import Derived.Laws.EntriesVeiled
namespace Go.Proofs.Ytloihffdolehhaa
open Go.RowKit
set_option linter.unusedVariables false
set_option linter.unusedSimpArgs false
set_option linter.unusedSectionVars false

theorem one_any (w : World) : Calls Try.prog 38 #[] w fun e w' => e = .returned (.tuple #[.int .i64 1, .int .i64 0]) ∧ w = w' := by
  go_enter Try.func38, Try.ntmps38
  go_wp2_with fail
  go_ret2
  exact ⟨rfl, rfl⟩
theorem two_any (w : World) : Calls Try.prog 39 #[] w fun e w' => e = .returned (.tuple #[.int .i64 2, .int .i64 0]) ∧ w = w' := by
  go_enter Try.func39, Try.ntmps39
  go_wp2_with fail
  go_ret2
  exact ⟨rfl, rfl⟩

section
variable (w : World) (t r g h : Nat) (v : Value) (L : List Nat) (base : Nat) (tys : List Ty) (kn : Int → Option (Int × Int)) (hs : Sizer w t r v L base tys kn) (hlow : Low tys) (i : Int) (hr : Right tys kn i) (ty : Ty) (A1 A2 A3 A4 : Option Addr) (c1 c2 c3 c4 : Nat)
  (hg : Blk w g 70 #[.pointer (some ⟨t, 0, none⟩), .map (some r)]) (hh : Blk w h 38 #[.int .u8 ty.kind, .string ty.module, .string ty.name, .int .i64 ty.base, .int .i64 ty.index, .int .i64 ty.low, .int .i64 ty.high, .slice A1 ty.names.length c1, .slice A2 ty.fields.length c2, .slice A3 ty.arms.length c3, .slice A4 ty.params.length c4, .int .i64 ty.result])
include hs hlow hr hg hh
set_option maxHeartbeats 1000000 in
theorem three_any (hbi : ty.base < i) (ih : SizeSpec t r v L base tys ty.base) :
    Calls Try.prog 40 #[.pointer (some ⟨g, 0, none⟩), .pointer (some ⟨h, 0, none⟩)] w
      (DoneP w t r v L base tys kn i (arrK (loB tys ty.index) (hiB tys ty.index) (ordB tys ty.index) (sz tys ty.base))) := by
  have ha := array_any w t r v L base tys kn hs hlow i hr ty A1 A2 A3 A4 c1 c2 c3 c4 hbi ih
  obtain ⟨res, hres⟩ : ∃ q, q = arrK (loB tys ty.index) (hiB tys ty.index) (ordB tys ty.index) (sz tys ty.base) := ⟨_, rfl⟩
  rw [← hres] at ha ⊢
  have a0 := hg.cell 0
  have a1 := hg.cell 1
  have b0 := hh.cell 0
  have b1 := hh.cell 1
  have b2 := hh.cell 2
  have b3 := hh.cell 3
  have b4 := hh.cell 4
  have b5 := hh.cell 5
  have b6 := hh.cell 6
  have b7 := hh.cell 7
  have b8 := hh.cell 8
  have b9 := hh.cell 9
  have b10 := hh.cell 10
  have b11 := hh.cell 11
  simp only [List.getElem?_toArray, List.getElem?_cons_zero, List.getElem?_cons_succ] at a0 a1 b0 b1 b2 b3 b4 b5 b6 b7 b8 b9 b10 b11
  clear hs hlow hr hg hh hbi ih hres
  unfold Ty.val Ty.cells at ha
  go_enter Try.func40, Try.ntmps40
  go_wp2_with fail
  refine ha.mono ?_
  clear ha
  rintro e w2 ⟨rfl, r2⟩
  have R2 := Lib.hid r2
  clear r2
  go_wp2_with fail
  go_ret2
  exact ⟨rfl, R2.out⟩
set_option maxHeartbeats 1000000 in
theorem four_any (P : Nat → Prop) (hl : SlFlds w P (.slice A2 ty.fields.length c2) ty.fields) (hP : ∀ b, P b → b ≠ r) (hfi : ∀ f ∈ ty.fields, f.type < i) (ih : ∀ f ∈ ty.fields, SizeSpec t r v L base tys f.type) :
    Calls Try.prog 42 #[.pointer (some ⟨g, 0, none⟩), .pointer (some ⟨h, 0, none⟩)] w (DoneP w t r v L base tys kn i (recK (sz tys) ty.fields 0)) := by
  have ha := record_any w t r v L base tys kn hs i hr ty.fields P _ hl hP hfi ih
  obtain ⟨res, hres⟩ : ∃ q, q = recK (sz tys) ty.fields 0 := ⟨_, rfl⟩
  rw [← hres] at ha ⊢
  have a0 := hg.cell 0
  have a1 := hg.cell 1
  have b8 := hh.cell 8
  simp only [List.getElem?_toArray, List.getElem?_cons_zero, List.getElem?_cons_succ] at a0 a1 b8
  clear hs hlow hr hg hh hl hP hfi ih hres
  go_enter Try.func42, Try.ntmps42
  go_wp2_with fail
  refine ha.mono ?_
  clear ha
  rintro e w2 ⟨rfl, r2⟩
  have R2 := Lib.hid r2
  clear r2
  go_wp2_with fail
  go_ret2
  exact ⟨rfl, R2.out⟩
end

def kindsEs (s x : Value) : Array MapEntry := #[{ key := .int .u8 13, val := .func (.func 38) #[] #[], born := 0 }, { key := .int .u8 14, val := .func (.func 38) #[] #[], born := 1 }, { key := .int .u8 15, val := .func (.func 38) #[] #[], born := 2 }, { key := .int .u8 16, val := .func (.func 38) #[] #[], born := 3 }, { key := .int .u8 11, val := .func (.func 39) #[] #[], born := 4 }, { key := .int .u8 10, val := .func (.func 40) #[] #[s, x], born := 5 }, { key := .int .u8 12, val := .func (.func 42) #[] #[s, x], born := 6 }]
theorem kinds_zero (w : World) : (zeroValue 94).run Try.prog w = .ok .nilFunc w := by
  simp [zeroValue]
  rfl
theorem kinds_ins0 (s x : Value) (w : World) : (Instr.mapUpdate 95 (.map (some w.heap.size)) (.int .u8 13) (.func (.func 38) #[] #[])).run Try.prog (w.alloc (.map #[] 0)) = .ok () (w.alloc (.map #[{ key := .int .u8 13, val := .func (.func 38) #[] #[], born := 0 }] 1)) :=
  ins_new Try.underlying95 Try.underlying5 w #[] 0 _ _ (fun w => key_u8 _ false w) (by kernel_rfl)
theorem kinds_ins1 (s x : Value) (w : World) : (Instr.mapUpdate 95 (.map (some w.heap.size)) (.int .u8 14) (.func (.func 38) #[] #[])).run Try.prog (w.alloc (.map #[{ key := .int .u8 13, val := .func (.func 38) #[] #[], born := 0 }] 1)) = .ok () (w.alloc (.map #[{ key := .int .u8 13, val := .func (.func 38) #[] #[], born := 0 }, { key := .int .u8 14, val := .func (.func 38) #[] #[], born := 1 }] 2)) :=
  ins_new Try.underlying95 Try.underlying5 w #[{ key := .int .u8 13, val := .func (.func 38) #[] #[], born := 0 }] 1 _ _ (fun w => key_u8 _ false w) (by kernel_rfl)
theorem kinds_ins2 (s x : Value) (w : World) : (Instr.mapUpdate 95 (.map (some w.heap.size)) (.int .u8 15) (.func (.func 38) #[] #[])).run Try.prog (w.alloc (.map #[{ key := .int .u8 13, val := .func (.func 38) #[] #[], born := 0 }, { key := .int .u8 14, val := .func (.func 38) #[] #[], born := 1 }] 2)) = .ok () (w.alloc (.map #[{ key := .int .u8 13, val := .func (.func 38) #[] #[], born := 0 }, { key := .int .u8 14, val := .func (.func 38) #[] #[], born := 1 }, { key := .int .u8 15, val := .func (.func 38) #[] #[], born := 2 }] 3)) :=
  ins_new Try.underlying95 Try.underlying5 w #[{ key := .int .u8 13, val := .func (.func 38) #[] #[], born := 0 }, { key := .int .u8 14, val := .func (.func 38) #[] #[], born := 1 }] 2 _ _ (fun w => key_u8 _ false w) (by kernel_rfl)
theorem kinds_ins3 (s x : Value) (w : World) : (Instr.mapUpdate 95 (.map (some w.heap.size)) (.int .u8 16) (.func (.func 38) #[] #[])).run Try.prog (w.alloc (.map #[{ key := .int .u8 13, val := .func (.func 38) #[] #[], born := 0 }, { key := .int .u8 14, val := .func (.func 38) #[] #[], born := 1 }, { key := .int .u8 15, val := .func (.func 38) #[] #[], born := 2 }] 3)) = .ok () (w.alloc (.map #[{ key := .int .u8 13, val := .func (.func 38) #[] #[], born := 0 }, { key := .int .u8 14, val := .func (.func 38) #[] #[], born := 1 }, { key := .int .u8 15, val := .func (.func 38) #[] #[], born := 2 }, { key := .int .u8 16, val := .func (.func 38) #[] #[], born := 3 }] 4)) :=
  ins_new Try.underlying95 Try.underlying5 w #[{ key := .int .u8 13, val := .func (.func 38) #[] #[], born := 0 }, { key := .int .u8 14, val := .func (.func 38) #[] #[], born := 1 }, { key := .int .u8 15, val := .func (.func 38) #[] #[], born := 2 }] 3 _ _ (fun w => key_u8 _ false w) (by kernel_rfl)
theorem kinds_ins4 (s x : Value) (w : World) : (Instr.mapUpdate 95 (.map (some w.heap.size)) (.int .u8 11) (.func (.func 39) #[] #[])).run Try.prog (w.alloc (.map #[{ key := .int .u8 13, val := .func (.func 38) #[] #[], born := 0 }, { key := .int .u8 14, val := .func (.func 38) #[] #[], born := 1 }, { key := .int .u8 15, val := .func (.func 38) #[] #[], born := 2 }, { key := .int .u8 16, val := .func (.func 38) #[] #[], born := 3 }] 4)) = .ok () (w.alloc (.map #[{ key := .int .u8 13, val := .func (.func 38) #[] #[], born := 0 }, { key := .int .u8 14, val := .func (.func 38) #[] #[], born := 1 }, { key := .int .u8 15, val := .func (.func 38) #[] #[], born := 2 }, { key := .int .u8 16, val := .func (.func 38) #[] #[], born := 3 }, { key := .int .u8 11, val := .func (.func 39) #[] #[], born := 4 }] 5)) :=
  ins_new Try.underlying95 Try.underlying5 w #[{ key := .int .u8 13, val := .func (.func 38) #[] #[], born := 0 }, { key := .int .u8 14, val := .func (.func 38) #[] #[], born := 1 }, { key := .int .u8 15, val := .func (.func 38) #[] #[], born := 2 }, { key := .int .u8 16, val := .func (.func 38) #[] #[], born := 3 }] 4 _ _ (fun w => key_u8 _ false w) (by kernel_rfl)
theorem kinds_ins5 (s x : Value) (w : World) : (Instr.mapUpdate 95 (.map (some w.heap.size)) (.int .u8 10) (.func (.func 40) #[] #[s, x])).run Try.prog (w.alloc (.map #[{ key := .int .u8 13, val := .func (.func 38) #[] #[], born := 0 }, { key := .int .u8 14, val := .func (.func 38) #[] #[], born := 1 }, { key := .int .u8 15, val := .func (.func 38) #[] #[], born := 2 }, { key := .int .u8 16, val := .func (.func 38) #[] #[], born := 3 }, { key := .int .u8 11, val := .func (.func 39) #[] #[], born := 4 }] 5)) = .ok () (w.alloc (.map #[{ key := .int .u8 13, val := .func (.func 38) #[] #[], born := 0 }, { key := .int .u8 14, val := .func (.func 38) #[] #[], born := 1 }, { key := .int .u8 15, val := .func (.func 38) #[] #[], born := 2 }, { key := .int .u8 16, val := .func (.func 38) #[] #[], born := 3 }, { key := .int .u8 11, val := .func (.func 39) #[] #[], born := 4 }, { key := .int .u8 10, val := .func (.func 40) #[] #[s, x], born := 5 }] 6)) :=
  ins_new Try.underlying95 Try.underlying5 w #[{ key := .int .u8 13, val := .func (.func 38) #[] #[], born := 0 }, { key := .int .u8 14, val := .func (.func 38) #[] #[], born := 1 }, { key := .int .u8 15, val := .func (.func 38) #[] #[], born := 2 }, { key := .int .u8 16, val := .func (.func 38) #[] #[], born := 3 }, { key := .int .u8 11, val := .func (.func 39) #[] #[], born := 4 }] 5 _ _ (fun w => key_u8 _ false w) (by kernel_rfl)
theorem kinds_ins6 (s x : Value) (w : World) : (Instr.mapUpdate 95 (.map (some w.heap.size)) (.int .u8 12) (.func (.func 42) #[] #[s, x])).run Try.prog (w.alloc (.map #[{ key := .int .u8 13, val := .func (.func 38) #[] #[], born := 0 }, { key := .int .u8 14, val := .func (.func 38) #[] #[], born := 1 }, { key := .int .u8 15, val := .func (.func 38) #[] #[], born := 2 }, { key := .int .u8 16, val := .func (.func 38) #[] #[], born := 3 }, { key := .int .u8 11, val := .func (.func 39) #[] #[], born := 4 }, { key := .int .u8 10, val := .func (.func 40) #[] #[s, x], born := 5 }] 6)) = .ok () (w.alloc (.map #[{ key := .int .u8 13, val := .func (.func 38) #[] #[], born := 0 }, { key := .int .u8 14, val := .func (.func 38) #[] #[], born := 1 }, { key := .int .u8 15, val := .func (.func 38) #[] #[], born := 2 }, { key := .int .u8 16, val := .func (.func 38) #[] #[], born := 3 }, { key := .int .u8 11, val := .func (.func 39) #[] #[], born := 4 }, { key := .int .u8 10, val := .func (.func 40) #[] #[s, x], born := 5 }, { key := .int .u8 12, val := .func (.func 42) #[] #[s, x], born := 6 }] 7)) :=
  ins_new Try.underlying95 Try.underlying5 w #[{ key := .int .u8 13, val := .func (.func 38) #[] #[], born := 0 }, { key := .int .u8 14, val := .func (.func 38) #[] #[], born := 1 }, { key := .int .u8 15, val := .func (.func 38) #[] #[], born := 2 }, { key := .int .u8 16, val := .func (.func 38) #[] #[], born := 3 }, { key := .int .u8 11, val := .func (.func 39) #[] #[], born := 4 }, { key := .int .u8 10, val := .func (.func 40) #[] #[s, x], born := 5 }] 6 _ _ (fun w => key_u8 _ false w) (by kernel_rfl)
theorem kinds_look (s x : Value) (r : Nat) (w : World) (hr : w.heap[r]? = some (.map (kindsEs s x) 7)) (k : Int) (o : Option (Nat × Value)) (hf : Instr.findNow (.int .u8) (.int .u8 k) (kindsEs s x).toList 0 = some o) :
    (Instr.lookup 95 (.map (some r)) (.int .u8 k) true).run Try.prog w = .ok (.tuple #[(o.map (·.2)).getD .nilFunc, .bool o.isSome]) w :=
  look_at Try.underlying95 Try.underlying5 w r (kindsEs s x) 7 (.int .u8 k) o _ hr (fun e w => key_u8 _ e w) hf kinds_zero true

section
variable (w : World) (t r : Nat) (v : Value) (L : List Nat) (base : Nat) (tys : List Ty) (kn : Int → Option (Int × Int)) (hs : Sizer w t r v L base tys kn) (hlow : Low tys) (i : Int) (hr : Right tys kn i)
include hs hlow hr

set_option maxRecDepth 100000 in
set_option maxHeartbeats 4000000 in
theorem reck_ord (ho : ordB tys i = true) (h5 : (tyOf tys i).kind ≠ 5) : Calls Try.prog 30 #[.agg #[.pointer (some ⟨t, 0, none⟩), .map (some r)], .int .i64 i] w (DoneP w t r v L base tys kn i (reckK tys (sz tys) i)) := by
  have hget := fun W (q : Wr [] w W) => get_any W t v L base tys (hs.tab.wr0 q) i
  have hord := fun W (q : Wr [] w W) => ordinal_any W t v L base tys (hs.tab.wr0 q) i
  rw [ho] at hord
  have hk5 : ((tyOf tys i).kind != 5) = true := by simp [h5]
  have HRES := Lib.hid (show reckK tys (sz tys) i = (1, 0) from by rw [reckK, if_pos ⟨ho, h5⟩])
  clear ho h5
  have HS := Lib.hid hs
  have HLOW := Lib.hid hlow
  have HR := Lib.hid hr
  have hrz := hs.map.lt
  obtain ⟨res, hres⟩ : ∃ q, q = reckK tys (sz tys) i := ⟨_, rfl⟩
  rw [← hres]
  have HX := Lib.hid hres
  clear hs hlow hr hres
  generalize hty : tyOf tys i = ty at *
  have HTY := Lib.hid hty
  clear hty
  have hmm := @run_makeMap Try.prog
  go_enter Try.func30, Try.ntmps30
  go_wp2_with fail
  refine (hget _ ((Wr.refl [] w).alloc _)).mono ?_
  clear hget
  rintro e w1 ⟨vn, vf, va, vp, rfl, r1, hl⟩
  obtain ⟨⟨A1, c1, rfl⟩, ⟨A2, c2, rfl⟩, ⟨A3, c3, rfl⟩, ⟨A4, c4, rfl⟩⟩ := hl.forms
  have hb1 := (Blk.new w 70 #[.pointer (some ⟨t, 0, none⟩), .map (some r)]).wr0 r1
  have acc1 := ((Wr.refl [] w).alloc (.cells #[.pointer (some ⟨t, 0, none⟩), .map (some r)] 70)).trans r1
  have HL := Lib.hid (hl.mono (Q := fun b => b ≠ r) (fun b hb => by simp at hb; omega))
  clear hl r1
  unfold Ty.val Ty.cells
  go_upto_region 3 with (fail)
  have hc1 := Blk.new w1 38 #[.int .u8 ty.kind, .string ty.module, .string ty.name, .int .i64 ty.base, .int .i64 ty.index, .int .i64 ty.low, .int .i64 ty.high, .slice A1 ty.names.length c1, .slice A2 ty.fields.length c2, .slice A3 ty.arms.length c3, .slice A4 ty.params.length c4, .int .i64 ty.result]
  have hb2 := hb1.alloc (.cells #[.int .u8 ty.kind, .string ty.module, .string ty.name, .int .i64 ty.base, .int .i64 ty.index, .int .i64 ty.low, .int .i64 ty.high, .slice A1 ty.names.length c1, .slice A2 ty.fields.length c2, .slice A3 ty.arms.length c3, .slice A4 ty.params.length c4, .int .i64 ty.result] 38)
  have acc2 := acc1.alloc (.cells #[.int .u8 ty.kind, .string ty.module, .string ty.name, .int .i64 ty.base, .int .i64 ty.index, .int .i64 ty.low, .int .i64 ty.high, .slice A1 ty.names.length c1, .slice A2 ty.fields.length c2, .slice A3 ty.arms.length c3, .slice A4 ty.params.length c4, .int .i64 ty.result] 38)
  have HL2 := Lib.hid (HL.out.wr0 ((Wr.refl [] w1).alloc (.cells #[.int .u8 ty.kind, .string ty.module, .string ty.name, .int .i64 ty.base, .int .i64 ty.index, .int .i64 ty.low, .int .i64 ty.high, .slice A1 ty.names.length c1, .slice A2 ty.fields.length c2, .slice A3 ty.arms.length c3, .slice A4 ty.params.length c4, .int .i64 ty.result] 38)))
  clear acc1 hb1 HL
  generalize w1.alloc (.cells #[.int .u8 ty.kind, .string ty.module, .string ty.name, .int .i64 ty.base, .int .i64 ty.index, .int .i64 ty.low, .int .i64 ty.high, .slice A1 ty.names.length c1, .slice A2 ty.fields.length c2, .slice A3 ty.arms.length c3, .slice A4 ty.params.length c4, .int .i64 ty.result] 38) = w2 at *
  generalize w1.heap.size = h at *
  have ACC2 := Lib.hid acc2
  have HB2 := Lib.hid hb2
  have HC2 := Lib.hid hc1
  have i0 := kinds_ins0 (.pointer (some ⟨w.heap.size, 0, none⟩)) (.pointer (some ⟨h, 0, none⟩))
  have i1 := kinds_ins1 (.pointer (some ⟨w.heap.size, 0, none⟩)) (.pointer (some ⟨h, 0, none⟩))
  have i2 := kinds_ins2 (.pointer (some ⟨w.heap.size, 0, none⟩)) (.pointer (some ⟨h, 0, none⟩))
  have i3 := kinds_ins3 (.pointer (some ⟨w.heap.size, 0, none⟩)) (.pointer (some ⟨h, 0, none⟩))
  have i4 := kinds_ins4 (.pointer (some ⟨w.heap.size, 0, none⟩)) (.pointer (some ⟨h, 0, none⟩))
  have i5 := kinds_ins5 (.pointer (some ⟨w.heap.size, 0, none⟩)) (.pointer (some ⟨h, 0, none⟩))
  have i6 := kinds_ins6 (.pointer (some ⟨w.heap.size, 0, none⟩)) (.pointer (some ⟨h, 0, none⟩))
  have b0 := hc1.cell 0
  have hz2 := hc1.lt
  have a0 := hb2.cell 0
  have hz3 := hb2.lt
  simp only [List.getElem?_toArray, List.getElem?_cons_zero] at b0 a0
  clear acc2 hb2 hc1
  go_wp2_with fail
  refine (hord _ (ACC2.out.alloc _)).mono ?_
  clear hord i0 i1 i2 i3 i4 i5 i6
  rintro e w4 ⟨rfl, r4⟩
  have hm4 := (r4.block w2.heap.size (by simp) (by simp)).trans (heap_alloc_new w2 (.map (kindsEs (.pointer (some ⟨w.heap.size, 0, none⟩)) (.pointer (some ⟨h, 0, none⟩))) 7))
  have hx4 := (HC2.out.alloc (.map (kindsEs (.pointer (some ⟨w.heap.size, 0, none⟩)) (.pointer (some ⟨h, 0, none⟩))) 7)).wr0 r4
  have hg4 := (HB2.out.alloc (.map (kindsEs (.pointer (some ⟨w.heap.size, 0, none⟩)) (.pointer (some ⟨h, 0, none⟩))) 7)).wr0 r4
  have hl4 := (HL2.out.wr0 ((Wr.refl [] w2).alloc (.map (kindsEs (.pointer (some ⟨w.heap.size, 0, none⟩)) (.pointer (some ⟨h, 0, none⟩))) 7))).wr0 r4
  have acc4 := (ACC2.out.alloc (.map (kindsEs (.pointer (some ⟨w.heap.size, 0, none⟩)) (.pointer (some ⟨h, 0, none⟩))) 7)).trans r4
  have HX4 := Lib.hid hx4
  have HG4 := Lib.hid hg4
  have HL4 := Lib.hid hl4
  have ACC4 := Lib.hid acc4
  have HM4 := Lib.hid hm4
  have d0 := hx4.cell 0
  simp only [List.getElem?_toArray, List.getElem?_cons_zero] at d0
  clear hm4 hx4 hg4 hl4 acc4 r4 b0 a0
  obtain rfl : res = (1, 0) := HX.out.trans HRES.out
  go_wp2_with fail
  go_ret2
  exact ⟨rfl, ACC4.out.nil, kn, HS.out.wr0 ACC4.out, fun _ _ => rfl, HR.out⟩

set_option maxRecDepth 100000 in
set_option maxHeartbeats 4000000 in
theorem reck_13 (ho : ordB tys i = false) (hk : (tyOf tys i).kind = 13) : Calls Try.prog 30 #[.agg #[.pointer (some ⟨t, 0, none⟩), .map (some r)], .int .i64 i] w (DoneP w t r v L base tys kn i (reckK tys (sz tys) i)) := by
  have hget := fun W (q : Wr [] w W) => get_any W t v L base tys (hs.tab.wr0 q) i
  have hord := fun W (q : Wr [] w W) => ordinal_any W t v L base tys (hs.tab.wr0 q) i
  rw [ho] at hord
  have HK := Lib.hid hk
  have HRES := Lib.hid (show reckK tys (sz tys) i = (1, 0) from by rw [reckK, if_neg (by simp [ho]), if_pos (by simp [hk])])
  clear ho hk
  have HS := Lib.hid hs
  have HLOW := Lib.hid hlow
  have HR := Lib.hid hr
  have hrz := hs.map.lt
  obtain ⟨res, hres⟩ : ∃ q, q = reckK tys (sz tys) i := ⟨_, rfl⟩
  rw [← hres]
  have HX := Lib.hid hres
  clear hs hlow hr hres
  generalize hty : tyOf tys i = ty at *
  have HTY := Lib.hid hty
  clear hty
  have hmm := @run_makeMap Try.prog
  go_enter Try.func30, Try.ntmps30
  go_wp2_with fail
  refine (hget _ ((Wr.refl [] w).alloc _)).mono ?_
  clear hget
  rintro e w1 ⟨vn, vf, va, vp, rfl, r1, hl⟩
  obtain ⟨⟨A1, c1, rfl⟩, ⟨A2, c2, rfl⟩, ⟨A3, c3, rfl⟩, ⟨A4, c4, rfl⟩⟩ := hl.forms
  have hb1 := (Blk.new w 70 #[.pointer (some ⟨t, 0, none⟩), .map (some r)]).wr0 r1
  have acc1 := ((Wr.refl [] w).alloc (.cells #[.pointer (some ⟨t, 0, none⟩), .map (some r)] 70)).trans r1
  have HL := Lib.hid (hl.mono (Q := fun b => b ≠ r) (fun b hb => by simp at hb; omega))
  clear hl r1
  unfold Ty.val Ty.cells
  go_upto_region 3 with (fail)
  have hc1 := Blk.new w1 38 #[.int .u8 ty.kind, .string ty.module, .string ty.name, .int .i64 ty.base, .int .i64 ty.index, .int .i64 ty.low, .int .i64 ty.high, .slice A1 ty.names.length c1, .slice A2 ty.fields.length c2, .slice A3 ty.arms.length c3, .slice A4 ty.params.length c4, .int .i64 ty.result]
  have hb2 := hb1.alloc (.cells #[.int .u8 ty.kind, .string ty.module, .string ty.name, .int .i64 ty.base, .int .i64 ty.index, .int .i64 ty.low, .int .i64 ty.high, .slice A1 ty.names.length c1, .slice A2 ty.fields.length c2, .slice A3 ty.arms.length c3, .slice A4 ty.params.length c4, .int .i64 ty.result] 38)
  have acc2 := acc1.alloc (.cells #[.int .u8 ty.kind, .string ty.module, .string ty.name, .int .i64 ty.base, .int .i64 ty.index, .int .i64 ty.low, .int .i64 ty.high, .slice A1 ty.names.length c1, .slice A2 ty.fields.length c2, .slice A3 ty.arms.length c3, .slice A4 ty.params.length c4, .int .i64 ty.result] 38)
  have HL2 := Lib.hid (HL.out.wr0 ((Wr.refl [] w1).alloc (.cells #[.int .u8 ty.kind, .string ty.module, .string ty.name, .int .i64 ty.base, .int .i64 ty.index, .int .i64 ty.low, .int .i64 ty.high, .slice A1 ty.names.length c1, .slice A2 ty.fields.length c2, .slice A3 ty.arms.length c3, .slice A4 ty.params.length c4, .int .i64 ty.result] 38)))
  clear acc1 hb1 HL
  generalize w1.alloc (.cells #[.int .u8 ty.kind, .string ty.module, .string ty.name, .int .i64 ty.base, .int .i64 ty.index, .int .i64 ty.low, .int .i64 ty.high, .slice A1 ty.names.length c1, .slice A2 ty.fields.length c2, .slice A3 ty.arms.length c3, .slice A4 ty.params.length c4, .int .i64 ty.result] 38) = w2 at *
  generalize w1.heap.size = h at *
  have ACC2 := Lib.hid acc2
  have HB2 := Lib.hid hb2
  have HC2 := Lib.hid hc1
  have i0 := kinds_ins0 (.pointer (some ⟨w.heap.size, 0, none⟩)) (.pointer (some ⟨h, 0, none⟩))
  have i1 := kinds_ins1 (.pointer (some ⟨w.heap.size, 0, none⟩)) (.pointer (some ⟨h, 0, none⟩))
  have i2 := kinds_ins2 (.pointer (some ⟨w.heap.size, 0, none⟩)) (.pointer (some ⟨h, 0, none⟩))
  have i3 := kinds_ins3 (.pointer (some ⟨w.heap.size, 0, none⟩)) (.pointer (some ⟨h, 0, none⟩))
  have i4 := kinds_ins4 (.pointer (some ⟨w.heap.size, 0, none⟩)) (.pointer (some ⟨h, 0, none⟩))
  have i5 := kinds_ins5 (.pointer (some ⟨w.heap.size, 0, none⟩)) (.pointer (some ⟨h, 0, none⟩))
  have i6 := kinds_ins6 (.pointer (some ⟨w.heap.size, 0, none⟩)) (.pointer (some ⟨h, 0, none⟩))
  have b0 := hc1.cell 0
  have hz2 := hc1.lt
  have a0 := hb2.cell 0
  have hz3 := hb2.lt
  simp only [List.getElem?_toArray, List.getElem?_cons_zero] at b0 a0
  clear acc2 hb2 hc1
  go_wp2_with fail
  refine (hord _ (ACC2.out.alloc _)).mono ?_
  clear hord i0 i1 i2 i3 i4 i5 i6
  rintro e w4 ⟨rfl, r4⟩
  have hm4 := (r4.block w2.heap.size (by simp) (by simp)).trans (heap_alloc_new w2 (.map (kindsEs (.pointer (some ⟨w.heap.size, 0, none⟩)) (.pointer (some ⟨h, 0, none⟩))) 7))
  have hx4 := (HC2.out.alloc (.map (kindsEs (.pointer (some ⟨w.heap.size, 0, none⟩)) (.pointer (some ⟨h, 0, none⟩))) 7)).wr0 r4
  have hg4 := (HB2.out.alloc (.map (kindsEs (.pointer (some ⟨w.heap.size, 0, none⟩)) (.pointer (some ⟨h, 0, none⟩))) 7)).wr0 r4
  have hl4 := (HL2.out.wr0 ((Wr.refl [] w2).alloc (.map (kindsEs (.pointer (some ⟨w.heap.size, 0, none⟩)) (.pointer (some ⟨h, 0, none⟩))) 7))).wr0 r4
  have acc4 := (ACC2.out.alloc (.map (kindsEs (.pointer (some ⟨w.heap.size, 0, none⟩)) (.pointer (some ⟨h, 0, none⟩))) 7)).trans r4
  have HX4 := Lib.hid hx4
  have HG4 := Lib.hid hg4
  have HL4 := Lib.hid hl4
  have ACC4 := Lib.hid acc4
  have HM4 := Lib.hid hm4
  have d0 := hx4.cell 0
  simp only [List.getElem?_toArray, List.getElem?_cons_zero] at d0
  clear hm4 hx4 hg4 hl4 acc4 r4 b0 a0
  obtain rfl : res = (1, 0) := HX.out.trans HRES.out
  have hlk := kinds_look _ _ _ w4 HM4.out ty.kind (some (0, .func (.func 38) #[] #[])) (by rw [HK.out]; kernel_rfl)
  simp only [Option.map_some, Option.getD_some, Option.isSome_some] at hlk
  go_wp2_with fail
  refine (one_any _).mono ?_
  rintro e w5 ⟨rfl, rfl⟩
  go_wp2_with fail
  go_ret2
  exact ⟨rfl, ACC4.out.nil, kn, HS.out.wr0 ACC4.out, fun _ _ => rfl, HR.out⟩

set_option maxRecDepth 100000 in
set_option maxHeartbeats 4000000 in
theorem reck_14 (ho : ordB tys i = false) (hk : (tyOf tys i).kind = 14) : Calls Try.prog 30 #[.agg #[.pointer (some ⟨t, 0, none⟩), .map (some r)], .int .i64 i] w (DoneP w t r v L base tys kn i (reckK tys (sz tys) i)) := by
  have hget := fun W (q : Wr [] w W) => get_any W t v L base tys (hs.tab.wr0 q) i
  have hord := fun W (q : Wr [] w W) => ordinal_any W t v L base tys (hs.tab.wr0 q) i
  rw [ho] at hord
  have HK := Lib.hid hk
  have HRES := Lib.hid (show reckK tys (sz tys) i = (1, 0) from by rw [reckK, if_neg (by simp [ho]), if_pos (by simp [hk])])
  clear ho hk
  have HS := Lib.hid hs
  have HLOW := Lib.hid hlow
  have HR := Lib.hid hr
  have hrz := hs.map.lt
  obtain ⟨res, hres⟩ : ∃ q, q = reckK tys (sz tys) i := ⟨_, rfl⟩
  rw [← hres]
  have HX := Lib.hid hres
  clear hs hlow hr hres
  generalize hty : tyOf tys i = ty at *
  have HTY := Lib.hid hty
  clear hty
  have hmm := @run_makeMap Try.prog
  go_enter Try.func30, Try.ntmps30
  go_wp2_with fail
  refine (hget _ ((Wr.refl [] w).alloc _)).mono ?_
  clear hget
  rintro e w1 ⟨vn, vf, va, vp, rfl, r1, hl⟩
  obtain ⟨⟨A1, c1, rfl⟩, ⟨A2, c2, rfl⟩, ⟨A3, c3, rfl⟩, ⟨A4, c4, rfl⟩⟩ := hl.forms
  have hb1 := (Blk.new w 70 #[.pointer (some ⟨t, 0, none⟩), .map (some r)]).wr0 r1
  have acc1 := ((Wr.refl [] w).alloc (.cells #[.pointer (some ⟨t, 0, none⟩), .map (some r)] 70)).trans r1
  have HL := Lib.hid (hl.mono (Q := fun b => b ≠ r) (fun b hb => by simp at hb; omega))
  clear hl r1
  unfold Ty.val Ty.cells
  go_upto_region 3 with (fail)
  have hc1 := Blk.new w1 38 #[.int .u8 ty.kind, .string ty.module, .string ty.name, .int .i64 ty.base, .int .i64 ty.index, .int .i64 ty.low, .int .i64 ty.high, .slice A1 ty.names.length c1, .slice A2 ty.fields.length c2, .slice A3 ty.arms.length c3, .slice A4 ty.params.length c4, .int .i64 ty.result]
  have hb2 := hb1.alloc (.cells #[.int .u8 ty.kind, .string ty.module, .string ty.name, .int .i64 ty.base, .int .i64 ty.index, .int .i64 ty.low, .int .i64 ty.high, .slice A1 ty.names.length c1, .slice A2 ty.fields.length c2, .slice A3 ty.arms.length c3, .slice A4 ty.params.length c4, .int .i64 ty.result] 38)
  have acc2 := acc1.alloc (.cells #[.int .u8 ty.kind, .string ty.module, .string ty.name, .int .i64 ty.base, .int .i64 ty.index, .int .i64 ty.low, .int .i64 ty.high, .slice A1 ty.names.length c1, .slice A2 ty.fields.length c2, .slice A3 ty.arms.length c3, .slice A4 ty.params.length c4, .int .i64 ty.result] 38)
  have HL2 := Lib.hid (HL.out.wr0 ((Wr.refl [] w1).alloc (.cells #[.int .u8 ty.kind, .string ty.module, .string ty.name, .int .i64 ty.base, .int .i64 ty.index, .int .i64 ty.low, .int .i64 ty.high, .slice A1 ty.names.length c1, .slice A2 ty.fields.length c2, .slice A3 ty.arms.length c3, .slice A4 ty.params.length c4, .int .i64 ty.result] 38)))
  clear acc1 hb1 HL
  generalize w1.alloc (.cells #[.int .u8 ty.kind, .string ty.module, .string ty.name, .int .i64 ty.base, .int .i64 ty.index, .int .i64 ty.low, .int .i64 ty.high, .slice A1 ty.names.length c1, .slice A2 ty.fields.length c2, .slice A3 ty.arms.length c3, .slice A4 ty.params.length c4, .int .i64 ty.result] 38) = w2 at *
  generalize w1.heap.size = h at *
  have ACC2 := Lib.hid acc2
  have HB2 := Lib.hid hb2
  have HC2 := Lib.hid hc1
  have i0 := kinds_ins0 (.pointer (some ⟨w.heap.size, 0, none⟩)) (.pointer (some ⟨h, 0, none⟩))
  have i1 := kinds_ins1 (.pointer (some ⟨w.heap.size, 0, none⟩)) (.pointer (some ⟨h, 0, none⟩))
  have i2 := kinds_ins2 (.pointer (some ⟨w.heap.size, 0, none⟩)) (.pointer (some ⟨h, 0, none⟩))
  have i3 := kinds_ins3 (.pointer (some ⟨w.heap.size, 0, none⟩)) (.pointer (some ⟨h, 0, none⟩))
  have i4 := kinds_ins4 (.pointer (some ⟨w.heap.size, 0, none⟩)) (.pointer (some ⟨h, 0, none⟩))
  have i5 := kinds_ins5 (.pointer (some ⟨w.heap.size, 0, none⟩)) (.pointer (some ⟨h, 0, none⟩))
  have i6 := kinds_ins6 (.pointer (some ⟨w.heap.size, 0, none⟩)) (.pointer (some ⟨h, 0, none⟩))
  have b0 := hc1.cell 0
  have hz2 := hc1.lt
  have a0 := hb2.cell 0
  have hz3 := hb2.lt
  simp only [List.getElem?_toArray, List.getElem?_cons_zero] at b0 a0
  clear acc2 hb2 hc1
  go_wp2_with fail
  refine (hord _ (ACC2.out.alloc _)).mono ?_
  clear hord i0 i1 i2 i3 i4 i5 i6
  rintro e w4 ⟨rfl, r4⟩
  have hm4 := (r4.block w2.heap.size (by simp) (by simp)).trans (heap_alloc_new w2 (.map (kindsEs (.pointer (some ⟨w.heap.size, 0, none⟩)) (.pointer (some ⟨h, 0, none⟩))) 7))
  have hx4 := (HC2.out.alloc (.map (kindsEs (.pointer (some ⟨w.heap.size, 0, none⟩)) (.pointer (some ⟨h, 0, none⟩))) 7)).wr0 r4
  have hg4 := (HB2.out.alloc (.map (kindsEs (.pointer (some ⟨w.heap.size, 0, none⟩)) (.pointer (some ⟨h, 0, none⟩))) 7)).wr0 r4
  have hl4 := (HL2.out.wr0 ((Wr.refl [] w2).alloc (.map (kindsEs (.pointer (some ⟨w.heap.size, 0, none⟩)) (.pointer (some ⟨h, 0, none⟩))) 7))).wr0 r4
  have acc4 := (ACC2.out.alloc (.map (kindsEs (.pointer (some ⟨w.heap.size, 0, none⟩)) (.pointer (some ⟨h, 0, none⟩))) 7)).trans r4
  have HX4 := Lib.hid hx4
  have HG4 := Lib.hid hg4
  have HL4 := Lib.hid hl4
  have ACC4 := Lib.hid acc4
  have HM4 := Lib.hid hm4
  have d0 := hx4.cell 0
  simp only [List.getElem?_toArray, List.getElem?_cons_zero] at d0
  clear hm4 hx4 hg4 hl4 acc4 r4 b0 a0
  obtain rfl : res = (1, 0) := HX.out.trans HRES.out
  have hlk := kinds_look _ _ _ w4 HM4.out ty.kind (some (1, .func (.func 38) #[] #[])) (by rw [HK.out]; kernel_rfl)
  simp only [Option.map_some, Option.getD_some, Option.isSome_some] at hlk
  go_wp2_with fail
  refine (one_any _).mono ?_
  rintro e w5 ⟨rfl, rfl⟩
  go_wp2_with fail
  go_ret2
  exact ⟨rfl, ACC4.out.nil, kn, HS.out.wr0 ACC4.out, fun _ _ => rfl, HR.out⟩

set_option maxRecDepth 100000 in
set_option maxHeartbeats 4000000 in
theorem reck_15 (ho : ordB tys i = false) (hk : (tyOf tys i).kind = 15) : Calls Try.prog 30 #[.agg #[.pointer (some ⟨t, 0, none⟩), .map (some r)], .int .i64 i] w (DoneP w t r v L base tys kn i (reckK tys (sz tys) i)) := by
  have hget := fun W (q : Wr [] w W) => get_any W t v L base tys (hs.tab.wr0 q) i
  have hord := fun W (q : Wr [] w W) => ordinal_any W t v L base tys (hs.tab.wr0 q) i
  rw [ho] at hord
  have HK := Lib.hid hk
  have HRES := Lib.hid (show reckK tys (sz tys) i = (1, 0) from by rw [reckK, if_neg (by simp [ho]), if_pos (by simp [hk])])
  clear ho hk
  have HS := Lib.hid hs
  have HLOW := Lib.hid hlow
  have HR := Lib.hid hr
  have hrz := hs.map.lt
  obtain ⟨res, hres⟩ : ∃ q, q = reckK tys (sz tys) i := ⟨_, rfl⟩
  rw [← hres]
  have HX := Lib.hid hres
  clear hs hlow hr hres
  generalize hty : tyOf tys i = ty at *
  have HTY := Lib.hid hty
  clear hty
  have hmm := @run_makeMap Try.prog
  go_enter Try.func30, Try.ntmps30
  go_wp2_with fail
  refine (hget _ ((Wr.refl [] w).alloc _)).mono ?_
  clear hget
  rintro e w1 ⟨vn, vf, va, vp, rfl, r1, hl⟩
  obtain ⟨⟨A1, c1, rfl⟩, ⟨A2, c2, rfl⟩, ⟨A3, c3, rfl⟩, ⟨A4, c4, rfl⟩⟩ := hl.forms
  have hb1 := (Blk.new w 70 #[.pointer (some ⟨t, 0, none⟩), .map (some r)]).wr0 r1
  have acc1 := ((Wr.refl [] w).alloc (.cells #[.pointer (some ⟨t, 0, none⟩), .map (some r)] 70)).trans r1
  have HL := Lib.hid (hl.mono (Q := fun b => b ≠ r) (fun b hb => by simp at hb; omega))
  clear hl r1
  unfold Ty.val Ty.cells
  go_upto_region 3 with (fail)
  have hc1 := Blk.new w1 38 #[.int .u8 ty.kind, .string ty.module, .string ty.name, .int .i64 ty.base, .int .i64 ty.index, .int .i64 ty.low, .int .i64 ty.high, .slice A1 ty.names.length c1, .slice A2 ty.fields.length c2, .slice A3 ty.arms.length c3, .slice A4 ty.params.length c4, .int .i64 ty.result]
  have hb2 := hb1.alloc (.cells #[.int .u8 ty.kind, .string ty.module, .string ty.name, .int .i64 ty.base, .int .i64 ty.index, .int .i64 ty.low, .int .i64 ty.high, .slice A1 ty.names.length c1, .slice A2 ty.fields.length c2, .slice A3 ty.arms.length c3, .slice A4 ty.params.length c4, .int .i64 ty.result] 38)
  have acc2 := acc1.alloc (.cells #[.int .u8 ty.kind, .string ty.module, .string ty.name, .int .i64 ty.base, .int .i64 ty.index, .int .i64 ty.low, .int .i64 ty.high, .slice A1 ty.names.length c1, .slice A2 ty.fields.length c2, .slice A3 ty.arms.length c3, .slice A4 ty.params.length c4, .int .i64 ty.result] 38)
  have HL2 := Lib.hid (HL.out.wr0 ((Wr.refl [] w1).alloc (.cells #[.int .u8 ty.kind, .string ty.module, .string ty.name, .int .i64 ty.base, .int .i64 ty.index, .int .i64 ty.low, .int .i64 ty.high, .slice A1 ty.names.length c1, .slice A2 ty.fields.length c2, .slice A3 ty.arms.length c3, .slice A4 ty.params.length c4, .int .i64 ty.result] 38)))
  clear acc1 hb1 HL
  generalize w1.alloc (.cells #[.int .u8 ty.kind, .string ty.module, .string ty.name, .int .i64 ty.base, .int .i64 ty.index, .int .i64 ty.low, .int .i64 ty.high, .slice A1 ty.names.length c1, .slice A2 ty.fields.length c2, .slice A3 ty.arms.length c3, .slice A4 ty.params.length c4, .int .i64 ty.result] 38) = w2 at *
  generalize w1.heap.size = h at *
  have ACC2 := Lib.hid acc2
  have HB2 := Lib.hid hb2
  have HC2 := Lib.hid hc1
  have i0 := kinds_ins0 (.pointer (some ⟨w.heap.size, 0, none⟩)) (.pointer (some ⟨h, 0, none⟩))
  have i1 := kinds_ins1 (.pointer (some ⟨w.heap.size, 0, none⟩)) (.pointer (some ⟨h, 0, none⟩))
  have i2 := kinds_ins2 (.pointer (some ⟨w.heap.size, 0, none⟩)) (.pointer (some ⟨h, 0, none⟩))
  have i3 := kinds_ins3 (.pointer (some ⟨w.heap.size, 0, none⟩)) (.pointer (some ⟨h, 0, none⟩))
  have i4 := kinds_ins4 (.pointer (some ⟨w.heap.size, 0, none⟩)) (.pointer (some ⟨h, 0, none⟩))
  have i5 := kinds_ins5 (.pointer (some ⟨w.heap.size, 0, none⟩)) (.pointer (some ⟨h, 0, none⟩))
  have i6 := kinds_ins6 (.pointer (some ⟨w.heap.size, 0, none⟩)) (.pointer (some ⟨h, 0, none⟩))
  have b0 := hc1.cell 0
  have hz2 := hc1.lt
  have a0 := hb2.cell 0
  have hz3 := hb2.lt
  simp only [List.getElem?_toArray, List.getElem?_cons_zero] at b0 a0
  clear acc2 hb2 hc1
  go_wp2_with fail
  refine (hord _ (ACC2.out.alloc _)).mono ?_
  clear hord i0 i1 i2 i3 i4 i5 i6
  rintro e w4 ⟨rfl, r4⟩
  have hm4 := (r4.block w2.heap.size (by simp) (by simp)).trans (heap_alloc_new w2 (.map (kindsEs (.pointer (some ⟨w.heap.size, 0, none⟩)) (.pointer (some ⟨h, 0, none⟩))) 7))
  have hx4 := (HC2.out.alloc (.map (kindsEs (.pointer (some ⟨w.heap.size, 0, none⟩)) (.pointer (some ⟨h, 0, none⟩))) 7)).wr0 r4
  have hg4 := (HB2.out.alloc (.map (kindsEs (.pointer (some ⟨w.heap.size, 0, none⟩)) (.pointer (some ⟨h, 0, none⟩))) 7)).wr0 r4
  have hl4 := (HL2.out.wr0 ((Wr.refl [] w2).alloc (.map (kindsEs (.pointer (some ⟨w.heap.size, 0, none⟩)) (.pointer (some ⟨h, 0, none⟩))) 7))).wr0 r4
  have acc4 := (ACC2.out.alloc (.map (kindsEs (.pointer (some ⟨w.heap.size, 0, none⟩)) (.pointer (some ⟨h, 0, none⟩))) 7)).trans r4
  have HX4 := Lib.hid hx4
  have HG4 := Lib.hid hg4
  have HL4 := Lib.hid hl4
  have ACC4 := Lib.hid acc4
  have HM4 := Lib.hid hm4
  have d0 := hx4.cell 0
  simp only [List.getElem?_toArray, List.getElem?_cons_zero] at d0
  clear hm4 hx4 hg4 hl4 acc4 r4 b0 a0
  obtain rfl : res = (1, 0) := HX.out.trans HRES.out
  have hlk := kinds_look _ _ _ w4 HM4.out ty.kind (some (2, .func (.func 38) #[] #[])) (by rw [HK.out]; kernel_rfl)
  simp only [Option.map_some, Option.getD_some, Option.isSome_some] at hlk
  go_wp2_with fail
  refine (one_any _).mono ?_
  rintro e w5 ⟨rfl, rfl⟩
  go_wp2_with fail
  go_ret2
  exact ⟨rfl, ACC4.out.nil, kn, HS.out.wr0 ACC4.out, fun _ _ => rfl, HR.out⟩

set_option maxRecDepth 100000 in
set_option maxHeartbeats 4000000 in
theorem reck_16 (ho : ordB tys i = false) (hk : (tyOf tys i).kind = 16) : Calls Try.prog 30 #[.agg #[.pointer (some ⟨t, 0, none⟩), .map (some r)], .int .i64 i] w (DoneP w t r v L base tys kn i (reckK tys (sz tys) i)) := by
  have hget := fun W (q : Wr [] w W) => get_any W t v L base tys (hs.tab.wr0 q) i
  have hord := fun W (q : Wr [] w W) => ordinal_any W t v L base tys (hs.tab.wr0 q) i
  rw [ho] at hord
  have HK := Lib.hid hk
  have HRES := Lib.hid (show reckK tys (sz tys) i = (1, 0) from by rw [reckK, if_neg (by simp [ho]), if_pos (by simp [hk])])
  clear ho hk
  have HS := Lib.hid hs
  have HLOW := Lib.hid hlow
  have HR := Lib.hid hr
  have hrz := hs.map.lt
  obtain ⟨res, hres⟩ : ∃ q, q = reckK tys (sz tys) i := ⟨_, rfl⟩
  rw [← hres]
  have HX := Lib.hid hres
  clear hs hlow hr hres
  generalize hty : tyOf tys i = ty at *
  have HTY := Lib.hid hty
  clear hty
  have hmm := @run_makeMap Try.prog
  go_enter Try.func30, Try.ntmps30
  go_wp2_with fail
  refine (hget _ ((Wr.refl [] w).alloc _)).mono ?_
  clear hget
  rintro e w1 ⟨vn, vf, va, vp, rfl, r1, hl⟩
  obtain ⟨⟨A1, c1, rfl⟩, ⟨A2, c2, rfl⟩, ⟨A3, c3, rfl⟩, ⟨A4, c4, rfl⟩⟩ := hl.forms
  have hb1 := (Blk.new w 70 #[.pointer (some ⟨t, 0, none⟩), .map (some r)]).wr0 r1
  have acc1 := ((Wr.refl [] w).alloc (.cells #[.pointer (some ⟨t, 0, none⟩), .map (some r)] 70)).trans r1
  have HL := Lib.hid (hl.mono (Q := fun b => b ≠ r) (fun b hb => by simp at hb; omega))
  clear hl r1
  unfold Ty.val Ty.cells
  go_upto_region 3 with (fail)
  have hc1 := Blk.new w1 38 #[.int .u8 ty.kind, .string ty.module, .string ty.name, .int .i64 ty.base, .int .i64 ty.index, .int .i64 ty.low, .int .i64 ty.high, .slice A1 ty.names.length c1, .slice A2 ty.fields.length c2, .slice A3 ty.arms.length c3, .slice A4 ty.params.length c4, .int .i64 ty.result]
  have hb2 := hb1.alloc (.cells #[.int .u8 ty.kind, .string ty.module, .string ty.name, .int .i64 ty.base, .int .i64 ty.index, .int .i64 ty.low, .int .i64 ty.high, .slice A1 ty.names.length c1, .slice A2 ty.fields.length c2, .slice A3 ty.arms.length c3, .slice A4 ty.params.length c4, .int .i64 ty.result] 38)
  have acc2 := acc1.alloc (.cells #[.int .u8 ty.kind, .string ty.module, .string ty.name, .int .i64 ty.base, .int .i64 ty.index, .int .i64 ty.low, .int .i64 ty.high, .slice A1 ty.names.length c1, .slice A2 ty.fields.length c2, .slice A3 ty.arms.length c3, .slice A4 ty.params.length c4, .int .i64 ty.result] 38)
  have HL2 := Lib.hid (HL.out.wr0 ((Wr.refl [] w1).alloc (.cells #[.int .u8 ty.kind, .string ty.module, .string ty.name, .int .i64 ty.base, .int .i64 ty.index, .int .i64 ty.low, .int .i64 ty.high, .slice A1 ty.names.length c1, .slice A2 ty.fields.length c2, .slice A3 ty.arms.length c3, .slice A4 ty.params.length c4, .int .i64 ty.result] 38)))
  clear acc1 hb1 HL
  generalize w1.alloc (.cells #[.int .u8 ty.kind, .string ty.module, .string ty.name, .int .i64 ty.base, .int .i64 ty.index, .int .i64 ty.low, .int .i64 ty.high, .slice A1 ty.names.length c1, .slice A2 ty.fields.length c2, .slice A3 ty.arms.length c3, .slice A4 ty.params.length c4, .int .i64 ty.result] 38) = w2 at *
  generalize w1.heap.size = h at *
  have ACC2 := Lib.hid acc2
  have HB2 := Lib.hid hb2
  have HC2 := Lib.hid hc1
  have i0 := kinds_ins0 (.pointer (some ⟨w.heap.size, 0, none⟩)) (.pointer (some ⟨h, 0, none⟩))
  have i1 := kinds_ins1 (.pointer (some ⟨w.heap.size, 0, none⟩)) (.pointer (some ⟨h, 0, none⟩))
  have i2 := kinds_ins2 (.pointer (some ⟨w.heap.size, 0, none⟩)) (.pointer (some ⟨h, 0, none⟩))
  have i3 := kinds_ins3 (.pointer (some ⟨w.heap.size, 0, none⟩)) (.pointer (some ⟨h, 0, none⟩))
  have i4 := kinds_ins4 (.pointer (some ⟨w.heap.size, 0, none⟩)) (.pointer (some ⟨h, 0, none⟩))
  have i5 := kinds_ins5 (.pointer (some ⟨w.heap.size, 0, none⟩)) (.pointer (some ⟨h, 0, none⟩))
  have i6 := kinds_ins6 (.pointer (some ⟨w.heap.size, 0, none⟩)) (.pointer (some ⟨h, 0, none⟩))
  have b0 := hc1.cell 0
  have hz2 := hc1.lt
  have a0 := hb2.cell 0
  have hz3 := hb2.lt
  simp only [List.getElem?_toArray, List.getElem?_cons_zero] at b0 a0
  clear acc2 hb2 hc1
  go_wp2_with fail
  refine (hord _ (ACC2.out.alloc _)).mono ?_
  clear hord i0 i1 i2 i3 i4 i5 i6
  rintro e w4 ⟨rfl, r4⟩
  have hm4 := (r4.block w2.heap.size (by simp) (by simp)).trans (heap_alloc_new w2 (.map (kindsEs (.pointer (some ⟨w.heap.size, 0, none⟩)) (.pointer (some ⟨h, 0, none⟩))) 7))
  have hx4 := (HC2.out.alloc (.map (kindsEs (.pointer (some ⟨w.heap.size, 0, none⟩)) (.pointer (some ⟨h, 0, none⟩))) 7)).wr0 r4
  have hg4 := (HB2.out.alloc (.map (kindsEs (.pointer (some ⟨w.heap.size, 0, none⟩)) (.pointer (some ⟨h, 0, none⟩))) 7)).wr0 r4
  have hl4 := (HL2.out.wr0 ((Wr.refl [] w2).alloc (.map (kindsEs (.pointer (some ⟨w.heap.size, 0, none⟩)) (.pointer (some ⟨h, 0, none⟩))) 7))).wr0 r4
  have acc4 := (ACC2.out.alloc (.map (kindsEs (.pointer (some ⟨w.heap.size, 0, none⟩)) (.pointer (some ⟨h, 0, none⟩))) 7)).trans r4
  have HX4 := Lib.hid hx4
  have HG4 := Lib.hid hg4
  have HL4 := Lib.hid hl4
  have ACC4 := Lib.hid acc4
  have HM4 := Lib.hid hm4
  have d0 := hx4.cell 0
  simp only [List.getElem?_toArray, List.getElem?_cons_zero] at d0
  clear hm4 hx4 hg4 hl4 acc4 r4 b0 a0
  obtain rfl : res = (1, 0) := HX.out.trans HRES.out
  have hlk := kinds_look _ _ _ w4 HM4.out ty.kind (some (3, .func (.func 38) #[] #[])) (by rw [HK.out]; kernel_rfl)
  simp only [Option.map_some, Option.getD_some, Option.isSome_some] at hlk
  go_wp2_with fail
  refine (one_any _).mono ?_
  rintro e w5 ⟨rfl, rfl⟩
  go_wp2_with fail
  go_ret2
  exact ⟨rfl, ACC4.out.nil, kn, HS.out.wr0 ACC4.out, fun _ _ => rfl, HR.out⟩

set_option maxRecDepth 100000 in
set_option maxHeartbeats 4000000 in
theorem reck_11 (ho : ordB tys i = false) (hk : (tyOf tys i).kind = 11) : Calls Try.prog 30 #[.agg #[.pointer (some ⟨t, 0, none⟩), .map (some r)], .int .i64 i] w (DoneP w t r v L base tys kn i (reckK tys (sz tys) i)) := by
  have hget := fun W (q : Wr [] w W) => get_any W t v L base tys (hs.tab.wr0 q) i
  have hord := fun W (q : Wr [] w W) => ordinal_any W t v L base tys (hs.tab.wr0 q) i
  rw [ho] at hord
  have HK := Lib.hid hk
  have HRES := Lib.hid (show reckK tys (sz tys) i = (2, 0) from by rw [reckK, if_neg (by simp [ho]), if_neg (by simp [hk]), if_pos hk])
  clear ho hk
  have HS := Lib.hid hs
  have HLOW := Lib.hid hlow
  have HR := Lib.hid hr
  have hrz := hs.map.lt
  obtain ⟨res, hres⟩ : ∃ q, q = reckK tys (sz tys) i := ⟨_, rfl⟩
  rw [← hres]
  have HX := Lib.hid hres
  clear hs hlow hr hres
  generalize hty : tyOf tys i = ty at *
  have HTY := Lib.hid hty
  clear hty
  have hmm := @run_makeMap Try.prog
  go_enter Try.func30, Try.ntmps30
  go_wp2_with fail
  refine (hget _ ((Wr.refl [] w).alloc _)).mono ?_
  clear hget
  rintro e w1 ⟨vn, vf, va, vp, rfl, r1, hl⟩
  obtain ⟨⟨A1, c1, rfl⟩, ⟨A2, c2, rfl⟩, ⟨A3, c3, rfl⟩, ⟨A4, c4, rfl⟩⟩ := hl.forms
  have hb1 := (Blk.new w 70 #[.pointer (some ⟨t, 0, none⟩), .map (some r)]).wr0 r1
  have acc1 := ((Wr.refl [] w).alloc (.cells #[.pointer (some ⟨t, 0, none⟩), .map (some r)] 70)).trans r1
  have HL := Lib.hid (hl.mono (Q := fun b => b ≠ r) (fun b hb => by simp at hb; omega))
  clear hl r1
  unfold Ty.val Ty.cells
  go_upto_region 3 with (fail)
  have hc1 := Blk.new w1 38 #[.int .u8 ty.kind, .string ty.module, .string ty.name, .int .i64 ty.base, .int .i64 ty.index, .int .i64 ty.low, .int .i64 ty.high, .slice A1 ty.names.length c1, .slice A2 ty.fields.length c2, .slice A3 ty.arms.length c3, .slice A4 ty.params.length c4, .int .i64 ty.result]
  have hb2 := hb1.alloc (.cells #[.int .u8 ty.kind, .string ty.module, .string ty.name, .int .i64 ty.base, .int .i64 ty.index, .int .i64 ty.low, .int .i64 ty.high, .slice A1 ty.names.length c1, .slice A2 ty.fields.length c2, .slice A3 ty.arms.length c3, .slice A4 ty.params.length c4, .int .i64 ty.result] 38)
  have acc2 := acc1.alloc (.cells #[.int .u8 ty.kind, .string ty.module, .string ty.name, .int .i64 ty.base, .int .i64 ty.index, .int .i64 ty.low, .int .i64 ty.high, .slice A1 ty.names.length c1, .slice A2 ty.fields.length c2, .slice A3 ty.arms.length c3, .slice A4 ty.params.length c4, .int .i64 ty.result] 38)
  have HL2 := Lib.hid (HL.out.wr0 ((Wr.refl [] w1).alloc (.cells #[.int .u8 ty.kind, .string ty.module, .string ty.name, .int .i64 ty.base, .int .i64 ty.index, .int .i64 ty.low, .int .i64 ty.high, .slice A1 ty.names.length c1, .slice A2 ty.fields.length c2, .slice A3 ty.arms.length c3, .slice A4 ty.params.length c4, .int .i64 ty.result] 38)))
  clear acc1 hb1 HL
  generalize w1.alloc (.cells #[.int .u8 ty.kind, .string ty.module, .string ty.name, .int .i64 ty.base, .int .i64 ty.index, .int .i64 ty.low, .int .i64 ty.high, .slice A1 ty.names.length c1, .slice A2 ty.fields.length c2, .slice A3 ty.arms.length c3, .slice A4 ty.params.length c4, .int .i64 ty.result] 38) = w2 at *
  generalize w1.heap.size = h at *
  have ACC2 := Lib.hid acc2
  have HB2 := Lib.hid hb2
  have HC2 := Lib.hid hc1
  have i0 := kinds_ins0 (.pointer (some ⟨w.heap.size, 0, none⟩)) (.pointer (some ⟨h, 0, none⟩))
  have i1 := kinds_ins1 (.pointer (some ⟨w.heap.size, 0, none⟩)) (.pointer (some ⟨h, 0, none⟩))
  have i2 := kinds_ins2 (.pointer (some ⟨w.heap.size, 0, none⟩)) (.pointer (some ⟨h, 0, none⟩))
  have i3 := kinds_ins3 (.pointer (some ⟨w.heap.size, 0, none⟩)) (.pointer (some ⟨h, 0, none⟩))
  have i4 := kinds_ins4 (.pointer (some ⟨w.heap.size, 0, none⟩)) (.pointer (some ⟨h, 0, none⟩))
  have i5 := kinds_ins5 (.pointer (some ⟨w.heap.size, 0, none⟩)) (.pointer (some ⟨h, 0, none⟩))
  have i6 := kinds_ins6 (.pointer (some ⟨w.heap.size, 0, none⟩)) (.pointer (some ⟨h, 0, none⟩))
  have b0 := hc1.cell 0
  have hz2 := hc1.lt
  have a0 := hb2.cell 0
  have hz3 := hb2.lt
  simp only [List.getElem?_toArray, List.getElem?_cons_zero] at b0 a0
  clear acc2 hb2 hc1
  go_wp2_with fail
  refine (hord _ (ACC2.out.alloc _)).mono ?_
  clear hord i0 i1 i2 i3 i4 i5 i6
  rintro e w4 ⟨rfl, r4⟩
  have hm4 := (r4.block w2.heap.size (by simp) (by simp)).trans (heap_alloc_new w2 (.map (kindsEs (.pointer (some ⟨w.heap.size, 0, none⟩)) (.pointer (some ⟨h, 0, none⟩))) 7))
  have hx4 := (HC2.out.alloc (.map (kindsEs (.pointer (some ⟨w.heap.size, 0, none⟩)) (.pointer (some ⟨h, 0, none⟩))) 7)).wr0 r4
  have hg4 := (HB2.out.alloc (.map (kindsEs (.pointer (some ⟨w.heap.size, 0, none⟩)) (.pointer (some ⟨h, 0, none⟩))) 7)).wr0 r4
  have hl4 := (HL2.out.wr0 ((Wr.refl [] w2).alloc (.map (kindsEs (.pointer (some ⟨w.heap.size, 0, none⟩)) (.pointer (some ⟨h, 0, none⟩))) 7))).wr0 r4
  have acc4 := (ACC2.out.alloc (.map (kindsEs (.pointer (some ⟨w.heap.size, 0, none⟩)) (.pointer (some ⟨h, 0, none⟩))) 7)).trans r4
  have HX4 := Lib.hid hx4
  have HG4 := Lib.hid hg4
  have HL4 := Lib.hid hl4
  have ACC4 := Lib.hid acc4
  have HM4 := Lib.hid hm4
  have d0 := hx4.cell 0
  simp only [List.getElem?_toArray, List.getElem?_cons_zero] at d0
  clear hm4 hx4 hg4 hl4 acc4 r4 b0 a0
  obtain rfl : res = (2, 0) := HX.out.trans HRES.out
  have hlk := kinds_look _ _ _ w4 HM4.out ty.kind (some (4, .func (.func 39) #[] #[])) (by rw [HK.out]; kernel_rfl)
  simp only [Option.map_some, Option.getD_some, Option.isSome_some] at hlk
  go_wp2_with fail
  refine (two_any _).mono ?_
  rintro e w5 ⟨rfl, rfl⟩
  go_wp2_with fail
  go_ret2
  exact ⟨rfl, ACC4.out.nil, kn, HS.out.wr0 ACC4.out, fun _ _ => rfl, HR.out⟩

set_option maxRecDepth 100000 in
set_option maxHeartbeats 4000000 in
theorem reck_10 (ho : ordB tys i = false) (hk : (tyOf tys i).kind = 10) (ih : SizeSpec t r v L base tys (tyOf tys i).base) : Calls Try.prog 30 #[.agg #[.pointer (some ⟨t, 0, none⟩), .map (some r)], .int .i64 i] w (DoneP w t r v L base tys kn i (reckK tys (sz tys) i)) := by
  have hget := fun W (q : Wr [] w W) => get_any W t v L base tys (hs.tab.wr0 q) i
  have hord := fun W (q : Wr [] w W) => ordinal_any W t v L base tys (hs.tab.wr0 q) i
  rw [ho] at hord
  have HK := Lib.hid hk
  have HRES := Lib.hid (show reckK tys (sz tys) i = arrK (loB tys (tyOf tys i).index) (hiB tys (tyOf tys i).index) (ordB tys (tyOf tys i).index) (sz tys (tyOf tys i).base) from by rw [reckK, if_neg (by simp [ho]), if_neg (by simp [hk]), if_neg (by simp [hk]), if_pos hk])
  have HIH := Lib.hid ih
  have HBI := Lib.hid ((tyOf_low hlow i).1 hk)
  clear ho hk ih
  have HS := Lib.hid hs
  have HLOW := Lib.hid hlow
  have HR := Lib.hid hr
  have hrz := hs.map.lt
  obtain ⟨res, hres⟩ : ∃ q, q = reckK tys (sz tys) i := ⟨_, rfl⟩
  rw [← hres]
  have HX := Lib.hid hres
  clear hs hlow hr hres
  generalize hty : tyOf tys i = ty at *
  have HTY := Lib.hid hty
  clear hty
  have hmm := @run_makeMap Try.prog
  go_enter Try.func30, Try.ntmps30
  go_wp2_with fail
  refine (hget _ ((Wr.refl [] w).alloc _)).mono ?_
  clear hget
  rintro e w1 ⟨vn, vf, va, vp, rfl, r1, hl⟩
  obtain ⟨⟨A1, c1, rfl⟩, ⟨A2, c2, rfl⟩, ⟨A3, c3, rfl⟩, ⟨A4, c4, rfl⟩⟩ := hl.forms
  have hb1 := (Blk.new w 70 #[.pointer (some ⟨t, 0, none⟩), .map (some r)]).wr0 r1
  have acc1 := ((Wr.refl [] w).alloc (.cells #[.pointer (some ⟨t, 0, none⟩), .map (some r)] 70)).trans r1
  have HL := Lib.hid (hl.mono (Q := fun b => b ≠ r) (fun b hb => by simp at hb; omega))
  clear hl r1
  unfold Ty.val Ty.cells
  go_upto_region 3 with (fail)
  have hc1 := Blk.new w1 38 #[.int .u8 ty.kind, .string ty.module, .string ty.name, .int .i64 ty.base, .int .i64 ty.index, .int .i64 ty.low, .int .i64 ty.high, .slice A1 ty.names.length c1, .slice A2 ty.fields.length c2, .slice A3 ty.arms.length c3, .slice A4 ty.params.length c4, .int .i64 ty.result]
  have hb2 := hb1.alloc (.cells #[.int .u8 ty.kind, .string ty.module, .string ty.name, .int .i64 ty.base, .int .i64 ty.index, .int .i64 ty.low, .int .i64 ty.high, .slice A1 ty.names.length c1, .slice A2 ty.fields.length c2, .slice A3 ty.arms.length c3, .slice A4 ty.params.length c4, .int .i64 ty.result] 38)
  have acc2 := acc1.alloc (.cells #[.int .u8 ty.kind, .string ty.module, .string ty.name, .int .i64 ty.base, .int .i64 ty.index, .int .i64 ty.low, .int .i64 ty.high, .slice A1 ty.names.length c1, .slice A2 ty.fields.length c2, .slice A3 ty.arms.length c3, .slice A4 ty.params.length c4, .int .i64 ty.result] 38)
  have HL2 := Lib.hid (HL.out.wr0 ((Wr.refl [] w1).alloc (.cells #[.int .u8 ty.kind, .string ty.module, .string ty.name, .int .i64 ty.base, .int .i64 ty.index, .int .i64 ty.low, .int .i64 ty.high, .slice A1 ty.names.length c1, .slice A2 ty.fields.length c2, .slice A3 ty.arms.length c3, .slice A4 ty.params.length c4, .int .i64 ty.result] 38)))
  clear acc1 hb1 HL
  generalize w1.alloc (.cells #[.int .u8 ty.kind, .string ty.module, .string ty.name, .int .i64 ty.base, .int .i64 ty.index, .int .i64 ty.low, .int .i64 ty.high, .slice A1 ty.names.length c1, .slice A2 ty.fields.length c2, .slice A3 ty.arms.length c3, .slice A4 ty.params.length c4, .int .i64 ty.result] 38) = w2 at *
  generalize w1.heap.size = h at *
  have ACC2 := Lib.hid acc2
  have HB2 := Lib.hid hb2
  have HC2 := Lib.hid hc1
  have i0 := kinds_ins0 (.pointer (some ⟨w.heap.size, 0, none⟩)) (.pointer (some ⟨h, 0, none⟩))
  have i1 := kinds_ins1 (.pointer (some ⟨w.heap.size, 0, none⟩)) (.pointer (some ⟨h, 0, none⟩))
  have i2 := kinds_ins2 (.pointer (some ⟨w.heap.size, 0, none⟩)) (.pointer (some ⟨h, 0, none⟩))
  have i3 := kinds_ins3 (.pointer (some ⟨w.heap.size, 0, none⟩)) (.pointer (some ⟨h, 0, none⟩))
  have i4 := kinds_ins4 (.pointer (some ⟨w.heap.size, 0, none⟩)) (.pointer (some ⟨h, 0, none⟩))
  have i5 := kinds_ins5 (.pointer (some ⟨w.heap.size, 0, none⟩)) (.pointer (some ⟨h, 0, none⟩))
  have i6 := kinds_ins6 (.pointer (some ⟨w.heap.size, 0, none⟩)) (.pointer (some ⟨h, 0, none⟩))
  have b0 := hc1.cell 0
  have hz2 := hc1.lt
  have a0 := hb2.cell 0
  have hz3 := hb2.lt
  simp only [List.getElem?_toArray, List.getElem?_cons_zero] at b0 a0
  clear acc2 hb2 hc1
  go_wp2_with fail
  refine (hord _ (ACC2.out.alloc _)).mono ?_
  clear hord i0 i1 i2 i3 i4 i5 i6
  rintro e w4 ⟨rfl, r4⟩
  have hm4 := (r4.block w2.heap.size (by simp) (by simp)).trans (heap_alloc_new w2 (.map (kindsEs (.pointer (some ⟨w.heap.size, 0, none⟩)) (.pointer (some ⟨h, 0, none⟩))) 7))
  have hx4 := (HC2.out.alloc (.map (kindsEs (.pointer (some ⟨w.heap.size, 0, none⟩)) (.pointer (some ⟨h, 0, none⟩))) 7)).wr0 r4
  have hg4 := (HB2.out.alloc (.map (kindsEs (.pointer (some ⟨w.heap.size, 0, none⟩)) (.pointer (some ⟨h, 0, none⟩))) 7)).wr0 r4
  have hl4 := (HL2.out.wr0 ((Wr.refl [] w2).alloc (.map (kindsEs (.pointer (some ⟨w.heap.size, 0, none⟩)) (.pointer (some ⟨h, 0, none⟩))) 7))).wr0 r4
  have acc4 := (ACC2.out.alloc (.map (kindsEs (.pointer (some ⟨w.heap.size, 0, none⟩)) (.pointer (some ⟨h, 0, none⟩))) 7)).trans r4
  have HX4 := Lib.hid hx4
  have HG4 := Lib.hid hg4
  have HL4 := Lib.hid hl4
  have ACC4 := Lib.hid acc4
  have HM4 := Lib.hid hm4
  have d0 := hx4.cell 0
  simp only [List.getElem?_toArray, List.getElem?_cons_zero] at d0
  clear hm4 hx4 hg4 hl4 acc4 r4 b0 a0
  have hlk := kinds_look _ _ _ w4 HM4.out ty.kind (some (5, .func (.func 40) #[] #[.pointer (some ⟨w.heap.size, 0, none⟩), .pointer (some ⟨h, 0, none⟩)])) (by rw [HK.out]; kernel_rfl)
  simp only [Option.map_some, Option.getD_some, Option.isSome_some] at hlk
  have hcl : Calls Try.prog 40 #[.pointer (some ⟨w.heap.size, 0, none⟩), .pointer (some ⟨h, 0, none⟩)] w4 (DoneP w4 t r v L base tys kn i res) := by
    rw [HX.out, HRES.out]
    exact three_any w4 t r _ _ v L base tys kn (HS.out.wr0 ACC4.out) HLOW.out i HR.out ty A1 A2 A3 A4 c1 c2 c3 c4 HG4.out HX4.out HBI.out HIH.out
  have HCL := Lib.hid hcl
  clear hcl
  go_wp2_with fail
  refine HCL.out.mono ?_
  rintro e w5 ⟨rfl, r5⟩
  have R5 := Lib.hid r5
  clear r5
  go_wp2_with fail
  go_ret2
  exact DoneP.after ⟨rfl, R5.out⟩ ACC4.out

set_option maxRecDepth 100000 in
set_option maxHeartbeats 4000000 in
theorem reck_12 (ho : ordB tys i = false) (hk : (tyOf tys i).kind = 12) (ih : ∀ f ∈ (tyOf tys i).fields, SizeSpec t r v L base tys f.type) : Calls Try.prog 30 #[.agg #[.pointer (some ⟨t, 0, none⟩), .map (some r)], .int .i64 i] w (DoneP w t r v L base tys kn i (reckK tys (sz tys) i)) := by
  have hget := fun W (q : Wr [] w W) => get_any W t v L base tys (hs.tab.wr0 q) i
  have hord := fun W (q : Wr [] w W) => ordinal_any W t v L base tys (hs.tab.wr0 q) i
  rw [ho] at hord
  have HK := Lib.hid hk
  have HRES := Lib.hid (show reckK tys (sz tys) i = recK (sz tys) (tyOf tys i).fields 0 from by rw [reckK, if_neg (by simp [ho]), if_neg (by simp [hk]), if_neg (by simp [hk]), if_neg (by simp [hk]), if_pos hk])
  have HIH := Lib.hid ih
  have HBI := Lib.hid ((tyOf_low hlow i).2.1 hk)
  clear ho hk ih
  have HS := Lib.hid hs
  have HLOW := Lib.hid hlow
  have HR := Lib.hid hr
  have hrz := hs.map.lt
  obtain ⟨res, hres⟩ : ∃ q, q = reckK tys (sz tys) i := ⟨_, rfl⟩
  rw [← hres]
  have HX := Lib.hid hres
  clear hs hlow hr hres
  generalize hty : tyOf tys i = ty at *
  have HTY := Lib.hid hty
  clear hty
  have hmm := @run_makeMap Try.prog
  go_enter Try.func30, Try.ntmps30
  go_wp2_with fail
  refine (hget _ ((Wr.refl [] w).alloc _)).mono ?_
  clear hget
  rintro e w1 ⟨vn, vf, va, vp, rfl, r1, hl⟩
  obtain ⟨⟨A1, c1, rfl⟩, ⟨A2, c2, rfl⟩, ⟨A3, c3, rfl⟩, ⟨A4, c4, rfl⟩⟩ := hl.forms
  have hb1 := (Blk.new w 70 #[.pointer (some ⟨t, 0, none⟩), .map (some r)]).wr0 r1
  have acc1 := ((Wr.refl [] w).alloc (.cells #[.pointer (some ⟨t, 0, none⟩), .map (some r)] 70)).trans r1
  have HL := Lib.hid (hl.mono (Q := fun b => b ≠ r) (fun b hb => by simp at hb; omega))
  clear hl r1
  unfold Ty.val Ty.cells
  go_upto_region 3 with (fail)
  have hc1 := Blk.new w1 38 #[.int .u8 ty.kind, .string ty.module, .string ty.name, .int .i64 ty.base, .int .i64 ty.index, .int .i64 ty.low, .int .i64 ty.high, .slice A1 ty.names.length c1, .slice A2 ty.fields.length c2, .slice A3 ty.arms.length c3, .slice A4 ty.params.length c4, .int .i64 ty.result]
  have hb2 := hb1.alloc (.cells #[.int .u8 ty.kind, .string ty.module, .string ty.name, .int .i64 ty.base, .int .i64 ty.index, .int .i64 ty.low, .int .i64 ty.high, .slice A1 ty.names.length c1, .slice A2 ty.fields.length c2, .slice A3 ty.arms.length c3, .slice A4 ty.params.length c4, .int .i64 ty.result] 38)
  have acc2 := acc1.alloc (.cells #[.int .u8 ty.kind, .string ty.module, .string ty.name, .int .i64 ty.base, .int .i64 ty.index, .int .i64 ty.low, .int .i64 ty.high, .slice A1 ty.names.length c1, .slice A2 ty.fields.length c2, .slice A3 ty.arms.length c3, .slice A4 ty.params.length c4, .int .i64 ty.result] 38)
  have HL2 := Lib.hid (HL.out.wr0 ((Wr.refl [] w1).alloc (.cells #[.int .u8 ty.kind, .string ty.module, .string ty.name, .int .i64 ty.base, .int .i64 ty.index, .int .i64 ty.low, .int .i64 ty.high, .slice A1 ty.names.length c1, .slice A2 ty.fields.length c2, .slice A3 ty.arms.length c3, .slice A4 ty.params.length c4, .int .i64 ty.result] 38)))
  clear acc1 hb1 HL
  generalize w1.alloc (.cells #[.int .u8 ty.kind, .string ty.module, .string ty.name, .int .i64 ty.base, .int .i64 ty.index, .int .i64 ty.low, .int .i64 ty.high, .slice A1 ty.names.length c1, .slice A2 ty.fields.length c2, .slice A3 ty.arms.length c3, .slice A4 ty.params.length c4, .int .i64 ty.result] 38) = w2 at *
  generalize w1.heap.size = h at *
  have ACC2 := Lib.hid acc2
  have HB2 := Lib.hid hb2
  have HC2 := Lib.hid hc1
  have i0 := kinds_ins0 (.pointer (some ⟨w.heap.size, 0, none⟩)) (.pointer (some ⟨h, 0, none⟩))
  have i1 := kinds_ins1 (.pointer (some ⟨w.heap.size, 0, none⟩)) (.pointer (some ⟨h, 0, none⟩))
  have i2 := kinds_ins2 (.pointer (some ⟨w.heap.size, 0, none⟩)) (.pointer (some ⟨h, 0, none⟩))
  have i3 := kinds_ins3 (.pointer (some ⟨w.heap.size, 0, none⟩)) (.pointer (some ⟨h, 0, none⟩))
  have i4 := kinds_ins4 (.pointer (some ⟨w.heap.size, 0, none⟩)) (.pointer (some ⟨h, 0, none⟩))
  have i5 := kinds_ins5 (.pointer (some ⟨w.heap.size, 0, none⟩)) (.pointer (some ⟨h, 0, none⟩))
  have i6 := kinds_ins6 (.pointer (some ⟨w.heap.size, 0, none⟩)) (.pointer (some ⟨h, 0, none⟩))
  have b0 := hc1.cell 0
  have hz2 := hc1.lt
  have a0 := hb2.cell 0
  have hz3 := hb2.lt
  simp only [List.getElem?_toArray, List.getElem?_cons_zero] at b0 a0
  clear acc2 hb2 hc1
  go_wp2_with fail
  refine (hord _ (ACC2.out.alloc _)).mono ?_
  clear hord i0 i1 i2 i3 i4 i5 i6
  rintro e w4 ⟨rfl, r4⟩
  have hm4 := (r4.block w2.heap.size (by simp) (by simp)).trans (heap_alloc_new w2 (.map (kindsEs (.pointer (some ⟨w.heap.size, 0, none⟩)) (.pointer (some ⟨h, 0, none⟩))) 7))
  have hx4 := (HC2.out.alloc (.map (kindsEs (.pointer (some ⟨w.heap.size, 0, none⟩)) (.pointer (some ⟨h, 0, none⟩))) 7)).wr0 r4
  have hg4 := (HB2.out.alloc (.map (kindsEs (.pointer (some ⟨w.heap.size, 0, none⟩)) (.pointer (some ⟨h, 0, none⟩))) 7)).wr0 r4
  have hl4 := (HL2.out.wr0 ((Wr.refl [] w2).alloc (.map (kindsEs (.pointer (some ⟨w.heap.size, 0, none⟩)) (.pointer (some ⟨h, 0, none⟩))) 7))).wr0 r4
  have acc4 := (ACC2.out.alloc (.map (kindsEs (.pointer (some ⟨w.heap.size, 0, none⟩)) (.pointer (some ⟨h, 0, none⟩))) 7)).trans r4
  have HX4 := Lib.hid hx4
  have HG4 := Lib.hid hg4
  have HL4 := Lib.hid hl4
  have ACC4 := Lib.hid acc4
  have HM4 := Lib.hid hm4
  have d0 := hx4.cell 0
  simp only [List.getElem?_toArray, List.getElem?_cons_zero] at d0
  clear hm4 hx4 hg4 hl4 acc4 r4 b0 a0
  have hlk := kinds_look _ _ _ w4 HM4.out ty.kind (some (6, .func (.func 42) #[] #[.pointer (some ⟨w.heap.size, 0, none⟩), .pointer (some ⟨h, 0, none⟩)])) (by rw [HK.out]; kernel_rfl)
  simp only [Option.map_some, Option.getD_some, Option.isSome_some] at hlk
  have hcl : Calls Try.prog 42 #[.pointer (some ⟨w.heap.size, 0, none⟩), .pointer (some ⟨h, 0, none⟩)] w4 (DoneP w4 t r v L base tys kn i res) := by
    rw [HX.out, HRES.out]
    exact four_any w4 t r _ _ v L base tys kn (HS.out.wr0 ACC4.out) HLOW.out i HR.out ty A1 A2 A3 A4 c1 c2 c3 c4 HG4.out HX4.out _ HL4.out.fields (fun b hb => hb) HBI.out HIH.out
  have HCL := Lib.hid hcl
  clear hcl
  go_wp2_with fail
  refine HCL.out.mono ?_
  rintro e w5 ⟨rfl, r5⟩
  have R5 := Lib.hid r5
  clear r5
  go_wp2_with fail
  go_ret2
  exact DoneP.after ⟨rfl, R5.out⟩ ACC4.out

set_option maxRecDepth 100000 in
set_option maxHeartbeats 4000000 in
theorem reck_other (ho : ordB tys i = false) (hk : ¬(tyOf tys i).kind = 13 ∧ ¬(tyOf tys i).kind = 14 ∧ ¬(tyOf tys i).kind = 15 ∧ ¬(tyOf tys i).kind = 16 ∧ ¬(tyOf tys i).kind = 11 ∧ ¬(tyOf tys i).kind = 10 ∧ ¬(tyOf tys i).kind = 12) : Calls Try.prog 30 #[.agg #[.pointer (some ⟨t, 0, none⟩), .map (some r)], .int .i64 i] w (DoneP w t r v L base tys kn i (reckK tys (sz tys) i)) := by
  have hget := fun W (q : Wr [] w W) => get_any W t v L base tys (hs.tab.wr0 q) i
  have hord := fun W (q : Wr [] w W) => ordinal_any W t v L base tys (hs.tab.wr0 q) i
  rw [ho] at hord
  have HK := Lib.hid hk
  have HRES := Lib.hid (show reckK tys (sz tys) i = (0, 2) from by simp [reckK, ho, hk])
  clear ho hk
  have HS := Lib.hid hs
  have HLOW := Lib.hid hlow
  have HR := Lib.hid hr
  have hrz := hs.map.lt
  obtain ⟨res, hres⟩ : ∃ q, q = reckK tys (sz tys) i := ⟨_, rfl⟩
  rw [← hres]
  have HX := Lib.hid hres
  clear hs hlow hr hres
  generalize hty : tyOf tys i = ty at *
  have HTY := Lib.hid hty
  clear hty
  have hmm := @run_makeMap Try.prog
  go_enter Try.func30, Try.ntmps30
  go_wp2_with fail
  refine (hget _ ((Wr.refl [] w).alloc _)).mono ?_
  clear hget
  rintro e w1 ⟨vn, vf, va, vp, rfl, r1, hl⟩
  obtain ⟨⟨A1, c1, rfl⟩, ⟨A2, c2, rfl⟩, ⟨A3, c3, rfl⟩, ⟨A4, c4, rfl⟩⟩ := hl.forms
  have hb1 := (Blk.new w 70 #[.pointer (some ⟨t, 0, none⟩), .map (some r)]).wr0 r1
  have acc1 := ((Wr.refl [] w).alloc (.cells #[.pointer (some ⟨t, 0, none⟩), .map (some r)] 70)).trans r1
  have HL := Lib.hid (hl.mono (Q := fun b => b ≠ r) (fun b hb => by simp at hb; omega))
  clear hl r1
  unfold Ty.val Ty.cells
  go_upto_region 3 with (fail)
  have hc1 := Blk.new w1 38 #[.int .u8 ty.kind, .string ty.module, .string ty.name, .int .i64 ty.base, .int .i64 ty.index, .int .i64 ty.low, .int .i64 ty.high, .slice A1 ty.names.length c1, .slice A2 ty.fields.length c2, .slice A3 ty.arms.length c3, .slice A4 ty.params.length c4, .int .i64 ty.result]
  have hb2 := hb1.alloc (.cells #[.int .u8 ty.kind, .string ty.module, .string ty.name, .int .i64 ty.base, .int .i64 ty.index, .int .i64 ty.low, .int .i64 ty.high, .slice A1 ty.names.length c1, .slice A2 ty.fields.length c2, .slice A3 ty.arms.length c3, .slice A4 ty.params.length c4, .int .i64 ty.result] 38)
  have acc2 := acc1.alloc (.cells #[.int .u8 ty.kind, .string ty.module, .string ty.name, .int .i64 ty.base, .int .i64 ty.index, .int .i64 ty.low, .int .i64 ty.high, .slice A1 ty.names.length c1, .slice A2 ty.fields.length c2, .slice A3 ty.arms.length c3, .slice A4 ty.params.length c4, .int .i64 ty.result] 38)
  have HL2 := Lib.hid (HL.out.wr0 ((Wr.refl [] w1).alloc (.cells #[.int .u8 ty.kind, .string ty.module, .string ty.name, .int .i64 ty.base, .int .i64 ty.index, .int .i64 ty.low, .int .i64 ty.high, .slice A1 ty.names.length c1, .slice A2 ty.fields.length c2, .slice A3 ty.arms.length c3, .slice A4 ty.params.length c4, .int .i64 ty.result] 38)))
  clear acc1 hb1 HL
  generalize w1.alloc (.cells #[.int .u8 ty.kind, .string ty.module, .string ty.name, .int .i64 ty.base, .int .i64 ty.index, .int .i64 ty.low, .int .i64 ty.high, .slice A1 ty.names.length c1, .slice A2 ty.fields.length c2, .slice A3 ty.arms.length c3, .slice A4 ty.params.length c4, .int .i64 ty.result] 38) = w2 at *
  generalize w1.heap.size = h at *
  have ACC2 := Lib.hid acc2
  have HB2 := Lib.hid hb2
  have HC2 := Lib.hid hc1
  have i0 := kinds_ins0 (.pointer (some ⟨w.heap.size, 0, none⟩)) (.pointer (some ⟨h, 0, none⟩))
  have i1 := kinds_ins1 (.pointer (some ⟨w.heap.size, 0, none⟩)) (.pointer (some ⟨h, 0, none⟩))
  have i2 := kinds_ins2 (.pointer (some ⟨w.heap.size, 0, none⟩)) (.pointer (some ⟨h, 0, none⟩))
  have i3 := kinds_ins3 (.pointer (some ⟨w.heap.size, 0, none⟩)) (.pointer (some ⟨h, 0, none⟩))
  have i4 := kinds_ins4 (.pointer (some ⟨w.heap.size, 0, none⟩)) (.pointer (some ⟨h, 0, none⟩))
  have i5 := kinds_ins5 (.pointer (some ⟨w.heap.size, 0, none⟩)) (.pointer (some ⟨h, 0, none⟩))
  have i6 := kinds_ins6 (.pointer (some ⟨w.heap.size, 0, none⟩)) (.pointer (some ⟨h, 0, none⟩))
  have b0 := hc1.cell 0
  have hz2 := hc1.lt
  have a0 := hb2.cell 0
  have hz3 := hb2.lt
  simp only [List.getElem?_toArray, List.getElem?_cons_zero] at b0 a0
  clear acc2 hb2 hc1
  go_wp2_with fail
  refine (hord _ (ACC2.out.alloc _)).mono ?_
  clear hord i0 i1 i2 i3 i4 i5 i6
  rintro e w4 ⟨rfl, r4⟩
  have hm4 := (r4.block w2.heap.size (by simp) (by simp)).trans (heap_alloc_new w2 (.map (kindsEs (.pointer (some ⟨w.heap.size, 0, none⟩)) (.pointer (some ⟨h, 0, none⟩))) 7))
  have hx4 := (HC2.out.alloc (.map (kindsEs (.pointer (some ⟨w.heap.size, 0, none⟩)) (.pointer (some ⟨h, 0, none⟩))) 7)).wr0 r4
  have hg4 := (HB2.out.alloc (.map (kindsEs (.pointer (some ⟨w.heap.size, 0, none⟩)) (.pointer (some ⟨h, 0, none⟩))) 7)).wr0 r4
  have hl4 := (HL2.out.wr0 ((Wr.refl [] w2).alloc (.map (kindsEs (.pointer (some ⟨w.heap.size, 0, none⟩)) (.pointer (some ⟨h, 0, none⟩))) 7))).wr0 r4
  have acc4 := (ACC2.out.alloc (.map (kindsEs (.pointer (some ⟨w.heap.size, 0, none⟩)) (.pointer (some ⟨h, 0, none⟩))) 7)).trans r4
  have HX4 := Lib.hid hx4
  have HG4 := Lib.hid hg4
  have HL4 := Lib.hid hl4
  have ACC4 := Lib.hid acc4
  have HM4 := Lib.hid hm4
  have d0 := hx4.cell 0
  simp only [List.getElem?_toArray, List.getElem?_cons_zero] at d0
  clear hm4 hx4 hg4 hl4 acc4 r4 b0 a0
  obtain rfl : res = (0, 2) := HX.out.trans HRES.out
  have hlk := kinds_look _ _ _ w4 HM4.out ty.kind none (by
    have e : ∀ n : Int, ¬ty.kind = n → (ty.kind == n) = false := fun n hn => by simp [hn]
    obtain ⟨q1, q2, q3, q4, q5, q6, q7⟩ := HK.out
    simp only [kindsEs, Instr.findNow, Instr.sameNow, if_pos, e _ q1, e _ q2, e _ q3, e _ q4, e _ q5, e _ q6, e _ q7])
  simp only [Option.map_none, Option.getD_none, Option.isSome_none] at hlk
  go_wp2_with fail
  go_ret2
  exact ⟨rfl, ACC4.out.nil, kn, HS.out.wr0 ACC4.out, fun _ _ => rfl, HR.out⟩

set_option maxRecDepth 100000 in
set_option maxHeartbeats 4000000 in
theorem reck_five (ho : ordB tys i = true) (h5 : (tyOf tys i).kind = 5) : Calls Try.prog 30 #[.agg #[.pointer (some ⟨t, 0, none⟩), .map (some r)], .int .i64 i] w (DoneP w t r v L base tys kn i (reckK tys (sz tys) i)) := by
  have hget := fun W (q : Wr [] w W) => get_any W t v L base tys (hs.tab.wr0 q) i
  have hord := fun W (q : Wr [] w W) => ordinal_any W t v L base tys (hs.tab.wr0 q) i
  have hk : ¬(tyOf tys i).kind = 13 ∧ ¬(tyOf tys i).kind = 14 ∧ ¬(tyOf tys i).kind = 15 ∧ ¬(tyOf tys i).kind = 16 ∧ ¬(tyOf tys i).kind = 11 ∧ ¬(tyOf tys i).kind = 10 ∧ ¬(tyOf tys i).kind = 12 := by simp [h5]
  rw [ho] at hord
  have HK := Lib.hid hk
  have hk5 : ((tyOf tys i).kind != 5) = false := by simp [h5]
  have HRES := Lib.hid (show reckK tys (sz tys) i = (0, 2) from by simp [reckK, ho, h5])
  clear ho hk h5
  have HS := Lib.hid hs
  have HLOW := Lib.hid hlow
  have HR := Lib.hid hr
  have hrz := hs.map.lt
  obtain ⟨res, hres⟩ : ∃ q, q = reckK tys (sz tys) i := ⟨_, rfl⟩
  rw [← hres]
  have HX := Lib.hid hres
  clear hs hlow hr hres
  generalize hty : tyOf tys i = ty at *
  have HTY := Lib.hid hty
  clear hty
  have hmm := @run_makeMap Try.prog
  go_enter Try.func30, Try.ntmps30
  go_wp2_with fail
  refine (hget _ ((Wr.refl [] w).alloc _)).mono ?_
  clear hget
  rintro e w1 ⟨vn, vf, va, vp, rfl, r1, hl⟩
  obtain ⟨⟨A1, c1, rfl⟩, ⟨A2, c2, rfl⟩, ⟨A3, c3, rfl⟩, ⟨A4, c4, rfl⟩⟩ := hl.forms
  have hb1 := (Blk.new w 70 #[.pointer (some ⟨t, 0, none⟩), .map (some r)]).wr0 r1
  have acc1 := ((Wr.refl [] w).alloc (.cells #[.pointer (some ⟨t, 0, none⟩), .map (some r)] 70)).trans r1
  have HL := Lib.hid (hl.mono (Q := fun b => b ≠ r) (fun b hb => by simp at hb; omega))
  clear hl r1
  unfold Ty.val Ty.cells
  go_upto_region 3 with (fail)
  have hc1 := Blk.new w1 38 #[.int .u8 ty.kind, .string ty.module, .string ty.name, .int .i64 ty.base, .int .i64 ty.index, .int .i64 ty.low, .int .i64 ty.high, .slice A1 ty.names.length c1, .slice A2 ty.fields.length c2, .slice A3 ty.arms.length c3, .slice A4 ty.params.length c4, .int .i64 ty.result]
  have hb2 := hb1.alloc (.cells #[.int .u8 ty.kind, .string ty.module, .string ty.name, .int .i64 ty.base, .int .i64 ty.index, .int .i64 ty.low, .int .i64 ty.high, .slice A1 ty.names.length c1, .slice A2 ty.fields.length c2, .slice A3 ty.arms.length c3, .slice A4 ty.params.length c4, .int .i64 ty.result] 38)
  have acc2 := acc1.alloc (.cells #[.int .u8 ty.kind, .string ty.module, .string ty.name, .int .i64 ty.base, .int .i64 ty.index, .int .i64 ty.low, .int .i64 ty.high, .slice A1 ty.names.length c1, .slice A2 ty.fields.length c2, .slice A3 ty.arms.length c3, .slice A4 ty.params.length c4, .int .i64 ty.result] 38)
  have HL2 := Lib.hid (HL.out.wr0 ((Wr.refl [] w1).alloc (.cells #[.int .u8 ty.kind, .string ty.module, .string ty.name, .int .i64 ty.base, .int .i64 ty.index, .int .i64 ty.low, .int .i64 ty.high, .slice A1 ty.names.length c1, .slice A2 ty.fields.length c2, .slice A3 ty.arms.length c3, .slice A4 ty.params.length c4, .int .i64 ty.result] 38)))
  clear acc1 hb1 HL
  generalize w1.alloc (.cells #[.int .u8 ty.kind, .string ty.module, .string ty.name, .int .i64 ty.base, .int .i64 ty.index, .int .i64 ty.low, .int .i64 ty.high, .slice A1 ty.names.length c1, .slice A2 ty.fields.length c2, .slice A3 ty.arms.length c3, .slice A4 ty.params.length c4, .int .i64 ty.result] 38) = w2 at *
  generalize w1.heap.size = h at *
  have ACC2 := Lib.hid acc2
  have HB2 := Lib.hid hb2
  have HC2 := Lib.hid hc1
  have i0 := kinds_ins0 (.pointer (some ⟨w.heap.size, 0, none⟩)) (.pointer (some ⟨h, 0, none⟩))
  have i1 := kinds_ins1 (.pointer (some ⟨w.heap.size, 0, none⟩)) (.pointer (some ⟨h, 0, none⟩))
  have i2 := kinds_ins2 (.pointer (some ⟨w.heap.size, 0, none⟩)) (.pointer (some ⟨h, 0, none⟩))
  have i3 := kinds_ins3 (.pointer (some ⟨w.heap.size, 0, none⟩)) (.pointer (some ⟨h, 0, none⟩))
  have i4 := kinds_ins4 (.pointer (some ⟨w.heap.size, 0, none⟩)) (.pointer (some ⟨h, 0, none⟩))
  have i5 := kinds_ins5 (.pointer (some ⟨w.heap.size, 0, none⟩)) (.pointer (some ⟨h, 0, none⟩))
  have i6 := kinds_ins6 (.pointer (some ⟨w.heap.size, 0, none⟩)) (.pointer (some ⟨h, 0, none⟩))
  have b0 := hc1.cell 0
  have hz2 := hc1.lt
  have a0 := hb2.cell 0
  have hz3 := hb2.lt
  simp only [List.getElem?_toArray, List.getElem?_cons_zero] at b0 a0
  clear acc2 hb2 hc1
  go_wp2_with fail
  refine (hord _ (ACC2.out.alloc _)).mono ?_
  clear hord i0 i1 i2 i3 i4 i5 i6
  rintro e w4 ⟨rfl, r4⟩
  have hm4 := (r4.block w2.heap.size (by simp) (by simp)).trans (heap_alloc_new w2 (.map (kindsEs (.pointer (some ⟨w.heap.size, 0, none⟩)) (.pointer (some ⟨h, 0, none⟩))) 7))
  have hx4 := (HC2.out.alloc (.map (kindsEs (.pointer (some ⟨w.heap.size, 0, none⟩)) (.pointer (some ⟨h, 0, none⟩))) 7)).wr0 r4
  have hg4 := (HB2.out.alloc (.map (kindsEs (.pointer (some ⟨w.heap.size, 0, none⟩)) (.pointer (some ⟨h, 0, none⟩))) 7)).wr0 r4
  have hl4 := (HL2.out.wr0 ((Wr.refl [] w2).alloc (.map (kindsEs (.pointer (some ⟨w.heap.size, 0, none⟩)) (.pointer (some ⟨h, 0, none⟩))) 7))).wr0 r4
  have acc4 := (ACC2.out.alloc (.map (kindsEs (.pointer (some ⟨w.heap.size, 0, none⟩)) (.pointer (some ⟨h, 0, none⟩))) 7)).trans r4
  have HX4 := Lib.hid hx4
  have HG4 := Lib.hid hg4
  have HL4 := Lib.hid hl4
  have ACC4 := Lib.hid acc4
  have HM4 := Lib.hid hm4
  have d0 := hx4.cell 0
  simp only [List.getElem?_toArray, List.getElem?_cons_zero] at d0
  clear hm4 hx4 hg4 hl4 acc4 r4 b0 a0
  obtain rfl : res = (0, 2) := HX.out.trans HRES.out
  have hlk := kinds_look _ _ _ w4 HM4.out ty.kind none (by
    have e : ∀ n : Int, ¬ty.kind = n → (ty.kind == n) = false := fun n hn => by simp [hn]
    obtain ⟨q1, q2, q3, q4, q5, q6, q7⟩ := HK.out
    simp only [kindsEs, Instr.findNow, Instr.sameNow, if_pos, e _ q1, e _ q2, e _ q3, e _ q4, e _ q5, e _ q6, e _ q7])
  simp only [Option.map_none, Option.getD_none, Option.isSome_none] at hlk
  go_wp2_with fail
  go_ret2
  exact ⟨rfl, ACC4.out.nil, kn, HS.out.wr0 ACC4.out, fun _ _ => rfl, HR.out⟩

theorem reck_any (ih : tyOf tys i ≠ Ty.none → ∀ j, j < i → SizeSpec t r v L base tys j) : Calls Try.prog 30 #[.agg #[.pointer (some ⟨t, 0, none⟩), .map (some r)], .int .i64 i] w (DoneP w t r v L base tys kn i (reckK tys (sz tys) i)) := by
  cases ho : ordB tys i with
  | true =>
    by_cases h5 : (tyOf tys i).kind = 5
    · exact reck_five w t r v L base tys kn hs hlow i hr ho h5
    · exact reck_ord w t r v L base tys kn hs hlow i hr ho h5
  | false =>
    by_cases h13 : (tyOf tys i).kind = 13
    · exact reck_13 w t r v L base tys kn hs hlow i hr ho h13
    by_cases h14 : (tyOf tys i).kind = 14
    · exact reck_14 w t r v L base tys kn hs hlow i hr ho h14
    by_cases h15 : (tyOf tys i).kind = 15
    · exact reck_15 w t r v L base tys kn hs hlow i hr ho h15
    by_cases h16 : (tyOf tys i).kind = 16
    · exact reck_16 w t r v L base tys kn hs hlow i hr ho h16
    by_cases h11 : (tyOf tys i).kind = 11
    · exact reck_11 w t r v L base tys kn hs hlow i hr ho h11
    by_cases h10 : (tyOf tys i).kind = 10
    · exact reck_10 w t r v L base tys kn hs hlow i hr ho h10 (ih (fun e => by rw [e] at h10; simp [Ty.none] at h10) _ ((tyOf_low hlow i).1 h10))
    by_cases h12 : (tyOf tys i).kind = 12
    · exact reck_12 w t r v L base tys kn hs hlow i hr ho h12 (fun f hf => ih (fun e => by rw [e] at h12; simp [Ty.none] at h12) _ ((tyOf_low hlow i).2.1 h12 f hf))
    exact reck_other w t r v L base tys kn hs hlow i hr ho ⟨h13, h14, h15, h16, h11, h10, h12⟩
end
end Go.Proofs.Ytloihffdolehhaa
