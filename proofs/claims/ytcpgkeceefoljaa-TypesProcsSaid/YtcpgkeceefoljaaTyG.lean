/- types.copied, walked. Conditions: the lists take no more room than there is. -/
import Derived.Test.YtcpgkeceefoljaaTyF
import Derived.Deep.DeepCutAuto
namespace Go.Proofs.Ytcpgkeceefoljaa
open Go.RowKit
set_option linter.unusedVariables false
set_option linter.unusedSimpArgs false
attribute [local go_sem ↓] Go.wp_at_zero Go.wp_at_succ

/-- A type, copied. -/
def CopyP (w : World) (t : Ty) (e : Ending) (w' : World) : Prop :=
  ∃ vn vf va vp, e = .returned (t.val vn vf va vp) ∧ Wr [] w w' ∧ Lists w' (fun b => w.heap.size ≤ b) vn vf va vp t

/-- Behind the three lists. -/
def CopyAt (w : World) (t : Ty) (va : Value) (wx : World) : Prop :=
  ∃ vn vf vp, Acc0 w wx ∧ Blk wx w.heap.size 31 (t.cells vn vf va vp).toArray ∧ Blk wx (w.heap.size + 1) 31 #[.int .u8 0, .string ⟨#[]⟩, .string ⟨#[]⟩, .int .i64 0, .int .i64 0, .int .i64 0, .int .i64 0, .slice none 0 0, .slice none 0 0, .slice none 0 0, .slice none 0 0, .int .i64 0] ∧
    SlStrs wx (fun b => w.heap.size + 1 < b) vn t.names ∧ SlFlds wx (fun b => w.heap.size + 1 < b) vf t.fields ∧ SlPars wx (fun b => w.heap.size + 1 < b) vp t.params

set_option maxHeartbeats 4000000 in
theorem copied_any (w : World) (P : Nat → Prop) (t : Ty) (vn vf va vp : Value) (h : Lists w P vn vf va vp t) (hr : t.room) :
    Calls Try.prog 28 #[t.val vn vf va vp] w (CopyP w t) := by
  have cn := fun W (r : Wr [] w W) => clone_str W P vn _ _ (Sl.wr0 h.names r) (one_strs _) (by have := hr.names; omega)
  have cf := fun W (r : Wr [] w W) => clone_fld W P vf _ _ (Sl.wr0 h.fields r) (one_flds _) (by have := hr.fields; omega)
  have cp := fun W (r : Wr [] w W) => clone_par W P vp _ _ (Sl.wr0 h.params r) (one_pars _) (by have := hr.params; omega)
  have ca := fun W (r : Wr [] w W) => lists_any W P va _ (SlArms.keep h.arms r (fun _ _ => by simp)) hr.arms hr.ints
  clear h hr
  unfold Ty.val Ty.cells
  go_enter Try.func28, Try.ntmps28
  go_upto_region 1 with (fail)
  go_cut [] (fun wx => CopyAt w t va wx)
  case first =>
    have hb := (Blk.new w 31 #[.int .u8 t.kind, .string t.module, .string t.name, .int .i64 t.base, .int .i64 t.index, .int .i64 t.low, .int .i64 t.high, vn, vf, va, vp, .int .i64 t.result]).alloc (.cells #[.int .u8 0, .string ⟨#[]⟩, .string ⟨#[]⟩, .int .i64 0, .int .i64 0, .int .i64 0, .int .i64 0, .slice none 0 0, .slice none 0 0, .slice none 0 0, .slice none 0 0, .int .i64 0] 31)
    have hr : Blk ((w.alloc (.cells #[.int .u8 t.kind, .string t.module, .string t.name, .int .i64 t.base, .int .i64 t.index, .int .i64 t.low, .int .i64 t.high, vn, vf, va, vp, .int .i64 t.result] 31)).alloc (.cells #[.int .u8 0, .string ⟨#[]⟩, .string ⟨#[]⟩, .int .i64 0, .int .i64 0, .int .i64 0, .int .i64 0, .slice none 0 0, .slice none 0 0, .slice none 0 0, .slice none 0 0, .int .i64 0] 31)) (w.heap.size + 1) 31 #[.int .u8 0, .string ⟨#[]⟩, .string ⟨#[]⟩, .int .i64 0, .int .i64 0, .int .i64 0, .int .i64 0, .slice none 0 0, .slice none 0 0, .slice none 0 0, .slice none 0 0, .int .i64 0] := by
      have := Blk.new (w.alloc (.cells #[.int .u8 t.kind, .string t.module, .string t.name, .int .i64 t.base, .int .i64 t.index, .int .i64 t.low, .int .i64 t.high, vn, vf, va, vp, .int .i64 t.result] 31)) 31 #[.int .u8 0, .string ⟨#[]⟩, .string ⟨#[]⟩, .int .i64 0, .int .i64 0, .int .i64 0, .int .i64 0, .slice none 0 0, .slice none 0 0, .slice none 0 0, .slice none 0 0, .int .i64 0]
      simpa using this
    have acc := Acc0.mk (((Wr.refl [] w).alloc (.cells #[.int .u8 t.kind, .string t.module, .string t.name, .int .i64 t.base, .int .i64 t.index, .int .i64 t.low, .int .i64 t.high, vn, vf, va, vp, .int .i64 t.result] 31)).alloc (.cells #[.int .u8 0, .string ⟨#[]⟩, .string ⟨#[]⟩, .int .i64 0, .int .i64 0, .int .i64 0, .int .i64 0, .slice none 0 0, .slice none 0 0, .slice none 0 0, .slice none 0 0, .int .i64 0] 31))
    generalize ((w.alloc (.cells #[.int .u8 t.kind, .string t.module, .string t.name, .int .i64 t.base, .int .i64 t.index, .int .i64 t.low, .int .i64 t.high, vn, vf, va, vp, .int .i64 t.result] 31)).alloc (.cells #[.int .u8 0, .string ⟨#[]⟩, .string ⟨#[]⟩, .int .i64 0, .int .i64 0, .int .i64 0, .int .i64 0, .slice none 0 0, .slice none 0 0, .slice none 0 0, .slice none 0 0, .int .i64 0] 31)) = w0 at *
    have a7 := hb.cell 7
    have a8 := hb.cell 8
    have a10 := hb.cell 10
    simp only [List.getElem?_toArray, List.getElem?_cons_zero, List.getElem?_cons_succ] at a7 a8 a10
    have HB := Lib.hid hb
    have HR := Lib.hid hr
    have z0 : w.heap.size + 1 < w0.heap.size := hr.lt
    clear hb hr ca
    go_region_with (first
      | (go_at_call 41; refine (cn _ (Wr.drew acc.h)).mono ?_; rintro e w1 ⟨v1, rfl, r1, s1⟩; obtain ⟨A1, k1, rfl, _, _⟩ := s1.form
         have acc1 := Acc0.mk ((Wr.drew acc.h).trans r1); have hb1 := HB.out.drew.wr0 r1; have HB1 := Lib.hid hb1; have HR1 := Lib.hid (HR.out.drew.wr0 r1); have S1 := Lib.hid s1
         have b8 := hb1.cell 8; have b10 := hb1.cell 10
         simp only [List.getElem?_toArray, List.getElem?_cons_zero, List.getElem?_cons_succ] at b8 b10; clear r1 s1 hb1)
      | (go_at_call 42; refine (cf _ acc1.h).mono ?_; rintro e w2 ⟨v2, rfl, r2, s2⟩; obtain ⟨A2, k2, rfl, _, _⟩ := s2.form
         have acc2 := Acc0.mk (acc1.h.trans r2); have hb2 := HB1.out.wr0 r2; have HB2 := Lib.hid hb2; have HR2 := Lib.hid (HR1.out.wr0 r2); have S2 := Lib.hid s2; have S1 := Lib.hid (Sl.wr0 S1.out r2)
         have c10 := hb2.cell 10
         simp only [List.getElem?_toArray, List.getElem?_cons_zero, List.getElem?_cons_succ] at c10; clear r2 s2 hb2)
      | (go_at_call 43; refine (cp _ acc2.h).mono ?_; rintro e w3 ⟨v3, rfl, r3, s3⟩; obtain ⟨A3, k3, rfl, _, _⟩ := s3.form
         have acc3 := Acc0.mk (acc2.h.trans r3); have hb3 := HB2.out.wr0 r3; have HB3 := Lib.hid hb3; have HR3 := Lib.hid (HR2.out.wr0 r3); have S3 := Lib.hid s3; have S1 := Lib.hid (Sl.wr0 S1.out r3); have S2 := Lib.hid (Sl.wr0 S2.out r3)
         have d7 := hb3.cell 7; have d8 := hb3.cell 8; have d10 := hb3.cell 10; have g7 := hb3.frozen 7; have g8 := hb3.frozen 8; have g10 := hb3.frozen 10
         simp only [List.getElem?_toArray, List.getElem?_cons_zero, List.getElem?_cons_succ] at d7 d8 d10; clear r3 s3 hb3))
    all_goals
      go_wp2_with fail
      go_meet
      have z0' : w0.drew.heap.size = w0.heap.size := rfl
      have z1 : w.heap.size + 1 < w1.heap.size := HR1.out.lt
      have z2 : w.heap.size + 1 < w2.heap.size := HR2.out.lt
      have hW : Wr [w.heap.size] w3 (((w3.setCell ⟨w.heap.size, 7, none⟩ (.slice A1 t.names.length k1)).setCell ⟨w.heap.size, 8, none⟩ (.slice A2 t.fields.length k2)).setCell ⟨w.heap.size, 10, none⟩ (.slice A3 t.params.length k3)) :=
        (((Wr.refl [w.heap.size] w3).setOn (by simp) _).setOn (by simp) _).setOn (by simp) _
      refine ⟨_, _, _, Acc0.mk (((acc3.h.setNew (Nat.le_refl _) _).setNew (Nat.le_refl _) _).setNew (Nat.le_refl _) _), ((HB3.out.set_ 7 (.slice A1 t.names.length k1)).set_ 8 (.slice A2 t.fields.length k2)).set_ 10 (.slice A3 t.params.length k3), HR3.out.wr hW (by simp), ?_, ?_, ?_⟩
      · exact Sl.mono (Sl.keep S1.out hW (fun b hb => by simp; omega)) (fun b hb => by omega)
      · exact Sl.mono (Sl.keep S2.out hW (fun b hb => by simp; omega)) (fun b hb => by omega)
      · exact Sl.mono (Sl.keep S3.out hW (fun b hb => by simp; omega)) (fun b hb => by omega)
  case rest =>
    obtain ⟨vn', vf', vp', acc, hb, hr, sn, sf, sp⟩ := hcut
    have a9 := hb.cell 9
    simp only [Ty.cells, List.getElem?_toArray, List.getElem?_cons_zero, List.getElem?_cons_succ] at a9
    have HB := Lib.hid hb
    have HR := Lib.hid hr
    have HS := Lib.hid (And.intro sn (And.intro sf sp))
    clear hb hr sn sf sp cn cf cp
    go_wp2_with fail
    refine (ca _ acc.h).mono ?_
    clear ca
    rintro e w4 ⟨v4, rfl, r4, s4⟩
    have q4 := s4
    obtain ⟨xs4, q4, one4, arm4⟩ := q4
    obtain ⟨A4, k4, rfl, _, _⟩ := q4.form
    clear q4 one4 arm4 xs4
    obtain ⟨An, kn, rfl, _, _⟩ := HS.out.1.form
    obtain ⟨Af, kf, rfl, _, _⟩ := HS.out.2.1.form
    obtain ⟨Ap, kp, rfl, _, _⟩ := HS.out.2.2.form
    have S4 := Lib.hid s4
    have R4 := Lib.hid r4
    have hb4 := HB.out.wr0 r4
    have hr4 := HR.out.wr0 r4
    clear s4 r4 a9
    have HB4 := Lib.hid hb4
    have HR4 := Lib.hid hr4
    have b0 := hb4.cell 0
    have c0 := hr4.cell 0
    have f0 := hr4.frozen 0
    have b1 := hb4.cell 1
    have c1 := hr4.cell 1
    have f1 := hr4.frozen 1
    have b2 := hb4.cell 2
    have c2 := hr4.cell 2
    have f2 := hr4.frozen 2
    have b3 := hb4.cell 3
    have c3 := hr4.cell 3
    have f3 := hr4.frozen 3
    have b4 := hb4.cell 4
    have c4 := hr4.cell 4
    have f4 := hr4.frozen 4
    have b5 := hb4.cell 5
    have c5 := hr4.cell 5
    have f5 := hr4.frozen 5
    have b6 := hb4.cell 6
    have c6 := hr4.cell 6
    have f6 := hr4.frozen 6
    have b7 := hb4.cell 7
    have c7 := hr4.cell 7
    have f7 := hr4.frozen 7
    have b8 := hb4.cell 8
    have c8 := hr4.cell 8
    have f8 := hr4.frozen 8
    have b9 := hb4.cell 9
    have c9 := hr4.cell 9
    have f9 := hr4.frozen 9
    have b10 := hb4.cell 10
    have c10 := hr4.cell 10
    have f10 := hr4.frozen 10
    have b11 := hb4.cell 11
    have c11 := hr4.cell 11
    have f11 := hr4.frozen 11
    have g9 := hb4.frozen 9
    simp only [Ty.cells, List.getElem?_toArray, List.getElem?_cons_zero, List.getElem?_cons_succ] at b0 c0 b1 c1 b2 c2 b3 c3 b4 c4 b5 c5 b6 c6 b7 c7 b8 c8 b9 c9 b10 c10 b11 c11
    have hz : w.heap.size + 1 < w4.heap.size := hr4.lt
    clear hb4 hr4
    go_wp2_with fail
    have z0 : w.heap.size + 1 < wc.heap.size := HR.out.lt
    refine bodyPost_ret (v := t.val (.slice An t.names.length kn) (.slice Af t.fields.length kf) (.slice A4 t.arms.length k4) (.slice Ap t.params.length kp)) ?_ rfl ⟨_, _, _, _, rfl, ?_, ?_⟩
    · simp [Ty.val, Ty.cells, results, Try.results28, go_sem, b0, c0, b1, c1, b2, c2, b3, c3, b4, c4, b5, c5, b6, c6, b7, c7, b8, c8, b9, c9, b10, c10, b11, c11]
    · refine Wr.setNew ?_ (by omega) _
      iterate 12 refine Wr.setNew ?_ (by omega) _
      exact acc.h.trans R4.out
    · refine Lists.into (P := fun b => w.heap.size + 1 < b) (Lists.keep (l := [w.heap.size, w.heap.size + 1]) ⟨Sl.wr0 HS.out.1 R4.out, Sl.wr0 HS.out.2.1 R4.out, SlArms.into S4.out (fun b hb _ => by omega), Sl.wr0 HS.out.2.2 R4.out⟩ ?_ (fun b hb => by simp; omega)) (fun b hb _ => by omega)
      refine Wr.setOn ?_ (by simp) _
      iterate 12 refine Wr.setOn ?_ (by simp) _
      exact Wr.refl _ _
end Go.Proofs.Ytcpgkeceefoljaa
