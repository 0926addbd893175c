/- A table's Get, Base, kind, Len, Ordinal, Range; may, ranges: walked. No conditions but that the table is there. -/
import Derived.Test.YtcpgkeceefoljaaTyH
namespace Go.Proofs.Ytcpgkeceefoljaa
open Go.RowKit
set_option linter.unusedVariables false
set_option linter.unusedSimpArgs false

theorem Ty.none_room : Ty.none.room := ⟨by simp [Ty.none], by simp [Ty.none], by simp [Ty.none], by simp [Ty.none], by simp [Ty.none]⟩
theorem tyOf_room {tys : List Ty} (h : ∀ ty ∈ tys, ty.room) (i : Int) : (tyOf tys i).room := by
  unfold tyOf
  by_cases h0 : 0 ≤ i
  · rw [if_pos h0, List.getD_eq_getElem?_getD]
    by_cases hi : i.toNat < tys.length
    · rw [List.getElem?_eq_getElem hi]
      exact h _ (List.getElem_mem _)
    · rw [List.getElem?_eq_none (by omega)]
      exact Ty.none_room
  · rw [if_neg h0]
    exact Ty.none_room

section
variable (w : World) (t : Nat) (v : Value) (L : List Nat) (base : Nat) (tys : List Ty) (h : Tab 71 w t v L base tys) (i : Int)
include h

set_option maxHeartbeats 1000000 in
theorem get_any : Calls Try.prog 18 #[.pointer (some ⟨t, 0, none⟩), .int .i64 i] w (CopyP w (tyOf tys i)) := by
  have hof := fun W (r : Wr [] w W) => of_any W t v L base tys (h.wr0 r) i
  have hr := tyOf_room h.room i
  have HR := Lib.hid hr
  clear h hr
  generalize tyOf tys i = ty at *
  go_enter Try.func18, Try.ntmps18
  go_wp2_with fail
  refine (hof _ ((Wr.refl [] w).alloc _)).mono ?_
  clear hof
  rintro e w1 ⟨vn, vf, va, vp, rfl, r1, hl⟩
  have hc := copied_any w1 _ ty vn vf va vp hl HR.out
  have R1 := Lib.hid r1
  have hz : w.heap.size < w1.heap.size := by have := r1.size; simp at this; omega
  have hb := (Blk.new w 31 (Ty.none.cells (.slice .none 0 0) (.slice .none 0 0) (.slice .none 0 0) (.slice .none 0 0)).toArray).wr0 r1
  have HB := Lib.hid hb
  clear r1 hl hb
  go_wp2_with fail
  refine hc.mono ?_
  clear hc
  rintro e w2 ⟨vn, vf, va, vp, rfl, r2, hl⟩
  obtain ⟨⟨A1, c1, rfl⟩, ⟨A2, c2, rfl⟩, ⟨A3, c3, rfl⟩, ⟨A4, c4, rfl⟩⟩ := hl.forms
  have hb2 := HB.out.wr0 r2
  have b0 := hb2.cell 0
  have f0 := hb2.frozen 0
  have b1 := hb2.cell 1
  have f1 := hb2.frozen 1
  have b2 := hb2.cell 2
  have f2 := hb2.frozen 2
  have b3 := hb2.cell 3
  have f3 := hb2.frozen 3
  have b4 := hb2.cell 4
  have f4 := hb2.frozen 4
  have b5 := hb2.cell 5
  have f5 := hb2.frozen 5
  have b6 := hb2.cell 6
  have f6 := hb2.frozen 6
  have b7 := hb2.cell 7
  have f7 := hb2.frozen 7
  have b8 := hb2.cell 8
  have f8 := hb2.frozen 8
  have b9 := hb2.cell 9
  have f9 := hb2.frozen 9
  have b10 := hb2.cell 10
  have f10 := hb2.frozen 10
  have b11 := hb2.cell 11
  have f11 := hb2.frozen 11
  simp only [Ty.none, Ty.cells, List.getElem?_toArray, List.getElem?_cons_zero, List.getElem?_cons_succ] at b0 b1 b2 b3 b4 b5 b6 b7 b8 b9 b10 b11
  have HL := Lib.hid hl
  have R2 := Lib.hid r2
  have hz2 := hb2.lt
  have hzz : w1.heap.size ≤ w2.heap.size := r2.size
  clear hl r2 hb2
  unfold Ty.val Ty.cells
  go_wp2_with fail
  refine bodyPost_ret (v := ty.val (.slice A1 ty.names.length c1) (.slice A2 ty.fields.length c2) (.slice A3 ty.arms.length c3) (.slice A4 ty.params.length c4)) ?_ rfl ⟨_, _, _, _, rfl, ?_, ?_⟩
  · simp [Ty.val, Ty.cells, results, Try.results18, go_sem, b0, b1, b2, b3, b4, b5, b6, b7, b8, b9, b10, b11]
  · iterate 12 refine Wr.setNew ?_ (Nat.le_refl _) _
    exact (((Wr.refl [] w).alloc _).trans R1.out).trans R2.out
  · refine Lists.into (P := fun b => w1.heap.size ≤ b) (Lists.keep (l := [w.heap.size]) HL.out ?_ (fun b hb => by simp; omega)) (fun b hb _ => by omega)
    iterate 12 refine Wr.setOn ?_ (by simp) _
    exact Wr.refl _ _

/-- A type's base. -/
def baseOf (tys : List Ty) (i : Int) : Int := if (tyOf tys i).kind = 9 then (tyOf tys i).base else i
/-- The kind of a type's base. -/
def kindOf (tys : List Ty) (i : Int) : Int := (tyOf tys (baseOf tys i)).kind

set_option maxHeartbeats 1000000 in
theorem base_any : Calls Try.prog 20 #[.pointer (some ⟨t, 0, none⟩), .int .i64 i] w fun e w' => e = .returned (.int .i64 (baseOf tys i)) ∧ Wr [] w w' := by
  have hof := of_any w t v L base tys h i
  unfold baseOf
  generalize tyOf tys i = ty at *
  clear h
  by_cases hk : ty.kind = 9
  · rw [if_pos hk]
    have HK := Lib.hid hk
    have hkb : (ty.kind == 9) = true := by simp [hk]
    clear hk
    go_enter Try.func20, Try.ntmps20
    go_wp2_with fail
    refine hof.mono ?_
    clear hof
    rintro e w1 ⟨vn, vf, va, vp, rfl, r1, hl⟩
    obtain ⟨⟨A1, c1, rfl⟩, ⟨A2, c2, rfl⟩, ⟨A3, c3, rfl⟩, ⟨A4, c4, rfl⟩⟩ := hl.forms
    have R1 := Lib.hid r1
    clear hl r1
    unfold Ty.val Ty.cells
    go_wp2_with fail
    go_ret
    exact ⟨rfl, R1.out.alloc _⟩
  · rw [if_neg hk]
    have hkb : (ty.kind == 9) = false := by simp [hk]
    clear hk
    go_enter Try.func20, Try.ntmps20
    go_wp2_with fail
    refine hof.mono ?_
    clear hof
    rintro e w1 ⟨vn, vf, va, vp, rfl, r1, hl⟩
    obtain ⟨⟨A1, c1, rfl⟩, ⟨A2, c2, rfl⟩, ⟨A3, c3, rfl⟩, ⟨A4, c4, rfl⟩⟩ := hl.forms
    have R1 := Lib.hid r1
    clear hl r1
    unfold Ty.val Ty.cells
    go_wp2_with fail
    go_ret
    exact ⟨rfl, R1.out.alloc _⟩

set_option maxHeartbeats 1000000 in
theorem kind_any : Calls Try.prog 35 #[.pointer (some ⟨t, 0, none⟩), .int .i64 i] w fun e w' => e = .returned (.int .u8 (kindOf tys i)) ∧ Wr [] w w' := by
  have hof := fun W (r : Wr [] w W) => of_any W t v L base tys (h.wr0 r) (baseOf tys i)
  have hbs := base_any w t v L base tys h i
  unfold kindOf
  generalize tyOf tys (baseOf tys i) = ty at *
  generalize baseOf tys i = j at *
  clear h
  go_enter Try.func35, Try.ntmps35
  go_wp2_with fail
  refine hbs.mono ?_
  clear hbs
  rintro e w1 ⟨rfl, r1⟩
  go_wp2_with fail
  refine (hof _ r1).mono ?_
  clear hof
  rintro e w2 ⟨vn, vf, va, vp, rfl, r2, hl⟩
  obtain ⟨⟨A1, c1, rfl⟩, ⟨A2, c2, rfl⟩, ⟨A3, c3, rfl⟩, ⟨A4, c4, rfl⟩⟩ := hl.forms
  unfold Ty.val Ty.cells
  clear hl
  have hfd : ∀ (w : World), (Instr.field 31 (.agg #[.int .u8 ty.kind, .string ty.module, .string ty.name, .int .i64 ty.base, .int .i64 ty.index, .int .i64 ty.low, .int .i64 ty.high, .slice A1 ty.names.length c1, .slice A2 ty.fields.length c2, .slice A3 ty.arms.length c3, .slice A4 ty.params.length c4, .int .i64 ty.result]) 0).run Try.prog w = .ok (.int .u8 ty.kind) w := fun w => by kernel_rfl
  go_wp2_with fail
  go_ret
  exact ⟨rfl, r1.trans r2⟩

end
end Go.Proofs.Ytcpgkeceefoljaa
