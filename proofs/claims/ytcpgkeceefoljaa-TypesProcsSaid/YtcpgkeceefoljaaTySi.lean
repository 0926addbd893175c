/- A table's Get, into memory that is not frozen: walked. Conditions: the table is there. -/
import Derived.Test.YtcpgkeceefoljaaTySg
import Derived.Deep.DrawnRows
import Derived.Deep.RegionWith
namespace Go.Proofs.Ytcpgkeceefoljaa
open Go.RowKit
set_option linter.unusedVariables false
set_option linter.unusedSimpArgs false
attribute [local go_sem ↓] Go.wp_at_zero Go.wp_at_succ

section
variable (w : World) (t : Nat) (v : Value) (L : List Nat) (base : Nat) (tys : List Ty) (h : Tab 71 w t v L base tys) (i : Int)
include h

set_option maxHeartbeats 1000000 in
theorem get_anyS : Calls Try.prog 18 #[.pointer (some ⟨t, 0, none⟩), .int .i64 i] w (CopyS w (tyOf tys i)) := by
  have hof := fun W (r : Wr [] w W) => of_any W t v L base tys (h.wr0 r) i
  have hr := tyOf_room h.room i
  have HR := Lib.hid hr
  clear h hr
  generalize tyOf tys i = ty at *
  go_enter Try.func18, Try.ntmps18
  go_wp2_with fail
  refine (hof _ ((Wr.refl [] w).alloc _)).mono ?_
  clear hof
  rintro e w1 ⟨vn, vf, va, vp, rfl, r1, hl⟩
  have hc := copied_anyS w1 _ ty vn vf va vp hl HR.out
  have R1 := Lib.hid r1
  have hz : w.heap.size < w1.heap.size := by have := r1.size; simp at this; omega
  have hb := (Blk.new w 31 (Ty.none.cells (.slice .none 0 0) (.slice .none 0 0) (.slice .none 0 0) (.slice .none 0 0)).toArray).wr0 r1
  have HB := Lib.hid hb
  clear r1 hl hb
  go_wp2_with fail
  refine hc.mono ?_
  clear hc
  rintro e w2 ⟨vn, vf, va, vp, rfl, r2, hl⟩
  obtain ⟨⟨A1, c1, rfl⟩, ⟨A2, c2, rfl⟩, ⟨A3, c3, rfl⟩, ⟨A4, c4, rfl⟩⟩ := hl.forms
  have hb2 := HB.out.wr0 r2
  have b0 := hb2.cell 0
  have f0 := hb2.frozen 0
  have b1 := hb2.cell 1
  have f1 := hb2.frozen 1
  have b2 := hb2.cell 2
  have f2 := hb2.frozen 2
  have b3 := hb2.cell 3
  have f3 := hb2.frozen 3
  have b4 := hb2.cell 4
  have f4 := hb2.frozen 4
  have b5 := hb2.cell 5
  have f5 := hb2.frozen 5
  have b6 := hb2.cell 6
  have f6 := hb2.frozen 6
  have b7 := hb2.cell 7
  have f7 := hb2.frozen 7
  have b8 := hb2.cell 8
  have f8 := hb2.frozen 8
  have b9 := hb2.cell 9
  have f9 := hb2.frozen 9
  have b10 := hb2.cell 10
  have f10 := hb2.frozen 10
  have b11 := hb2.cell 11
  have f11 := hb2.frozen 11
  simp only [Ty.none, Ty.cells, List.getElem?_toArray, List.getElem?_cons_zero, List.getElem?_cons_succ] at b0 b1 b2 b3 b4 b5 b6 b7 b8 b9 b10 b11
  have HL := Lib.hid hl
  have R2 := Lib.hid r2
  have hz2 := hb2.lt
  have hzz : w1.heap.size ≤ w2.heap.size := r2.size
  clear hl r2 hb2
  unfold Ty.val Ty.cells
  go_wp2_with fail
  refine bodyPost_ret (v := ty.val (.slice A1 ty.names.length c1) (.slice A2 ty.fields.length c2) (.slice A3 ty.arms.length c3) (.slice A4 ty.params.length c4)) ?_ rfl ⟨_, _, _, _, rfl, ?_, ?_⟩
  · simp [Ty.val, Ty.cells, results, Try.results18, go_sem, b0, b1, b2, b3, b4, b5, b6, b7, b8, b9, b10, b11]
  · iterate 12 refine Wr.setNew ?_ (Nat.le_refl _) _
    exact (((Wr.refl [] w).alloc _).trans R1.out).trans R2.out
  · refine Lists.soft (l := [w.heap.size]) HL.out ?_ (fun b hb => by simp; omega) (by omega)
    iterate 12 refine Wr.setOn ?_ (by simp) _
    exact Wr.refl _ _

end
end Go.Proofs.Ytcpgkeceefoljaa
