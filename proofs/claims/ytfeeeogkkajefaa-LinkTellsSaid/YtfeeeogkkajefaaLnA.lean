/- link's first closure (may each object be?), and what is looked up: walked. No conditions. -/
import Derived.Test.YtfeeeogkkajefaaLkW
namespace Go.Proofs.Ytfeeeogkkajefaa
open Go.RowKit
set_option linter.unusedVariables false
set_option linter.unusedSimpArgs false

/-- A value that is an object, whose lists lie where they lay. -/
def ObjV (w0 : World) (v : Value) (o : ObjD) : Prop := ∃ vu vp vi vn, v = o.val vu vp vi vn ∧ ObjL w0 (fun _ => True) vu vp vi vn o
theorem ObjV.zero (w0 : World) : ObjV w0 (.agg #[.string ⟨#[]⟩, .bool false, .int .u64 0, .slice none 0 0, .string ⟨#[]⟩, .slice none 0 0, .slice none 0 0, .int .i64 0, .slice none 0 0]) zeroObj :=
  ⟨.slice none 0 0, .slice none 0 0, .slice none 0 0, .slice none 0 0, rfl, Sl.nil _ _ 2, Sl.nil _ _ 6, Sl.nil _ _ 1, Sl.nil _ _ 1⟩
/-- The map of all objects, so far. -/
def AllM (w0 w : World) (g : Nat) (l : List ObjD) (k : Nat) : Prop := MapR w g (ObjV w0) (lastOf (named (l.take k)))
theorem named_next {l : List ObjD} {k : Nat} {o : ObjD} (h : l[k]? = some o) : lastOf (named (l.take (k + 1))) = fun j => if j = o.module then some o else lastOf (named (l.take k)) j := by
  funext j
  unfold named
  rw [List.take_add_one, h]
  show lastOf ((l.take k ++ [o]).map _) j = _
  rw [List.map_append]
  show lastOf (_ ++ [(o.module, o)]) j = _
  rw [lastOf_snoc]
  by_cases e : o.module = j
  · rw [if_pos e, if_pos e.symm]
  · rw [if_neg e, if_neg (fun h => e h.symm)]
theorem AllM.look {w0 w : World} {g : Nat} {l : List ObjD} (h : AllM w0 w g l l.length) (m : ByteArray) :
    ∃ vu vp vi vn, (Instr.lookup 64 (.map (some g)) (.string m) false).run Try.prog w = .ok ((objOf l m).val vu vp vi vn) w ∧ ObjL w0 (fun _ => True) vu vp vi vn (objOf l m) := by
  obtain ⟨v, h1, h2, h3⟩ := MapR.look1 Try.underlying64 Try.underlying9 h m Try.zeroValue52
  unfold objOf
  rw [List.take_length] at h2 h3
  cases hl : lastOf (named l) m with
  | some o =>
    obtain ⟨vu, vp, vi, vn, e, ho⟩ := h2 o hl
    rw [e] at h1
    exact ⟨vu, vp, vi, vn, h1, ho⟩
  | none =>
    rw [h3 hl] at h1
    obtain ⟨vu, vp, vi, vn, e, ho⟩ := ObjV.zero w0
    rw [e] at h1
    exact ⟨vu, vp, vi, vn, h1, ho⟩
/-- What the first closure answers. -/
def C1P (w0 w : World) (ga : Nat) (l : List ObjD) (r : Option ObjD) (e : Ending) (w' : World) : Prop :=
  Wr [ga] w w' ∧ match r with
    | some o => e = .returned (.tuple #[.string o.module, .int .i64 2])
    | none => e = .returned (.tuple #[.string ⟨#[]⟩, .int .i64 0]) ∧ AllM w0 w' ga l l.length
def C1At (w0 w : World) (ga : Nat) (l : List ObjD) (k : Nat) (wr : World) : Prop := Wr [ga] w wr ∧ Wr [] w0 wr ∧ AllM w0 wr ga l k ∧ ∀ (j : Nat) (o : ObjD), j < k → l[j]? = some o → objB o = true
theorem find_at {l : List ObjD} {k : Nat} {o : ObjD} (h : l[k]? = some o) (hb : objB o = false) (hy : ∀ (j : Nat) (o : ObjD), j < k → l[j]? = some o → objB o = true) : l.find? (fun o => !objB o) = some o := by
  obtain ⟨hk, e⟩ := List.getElem?_eq_some_iff.1 h
  rw [List.find?_eq_some_iff_getElem]
  refine ⟨by rw [hb]; rfl, k, hk, e, fun j hj => ?_⟩
  rw [hy j _ hj (List.getElem?_eq_getElem (by omega))]
  rfl
theorem find_none {l : List ObjD} (hy : ∀ (j : Nat) (o : ObjD), j < l.length → l[j]? = some o → objB o = true) : l.find? (fun o => !objB o) = none := by
  rw [List.find?_eq_none]
  intro o ho
  obtain ⟨j, hj⟩ := List.getElem?_of_mem ho
  rw [hy j o (List.getElem?_eq_some_iff.1 hj).1 hj]
  decide
set_option maxRecDepth 100000 in
set_option maxHeartbeats 8000000 in
theorem clos1_any (l : List ObjD) (v : Value) (w0 w : World) (h : SlObjs w0 (fun _ => True) v l) (pl pa ga : Nat) (hw : Wr [] w0 w) (bl : Blk w pl 22 #[v]) (ba : Blk w pa 64 #[.map (some ga)])
    (hm : MapR w ga (ObjV w0) (fun _ => none)) (hga : w0.heap.size ≤ ga) (hne : pl ≠ ga ∧ pa ≠ ga) :
    Calls Try.prog 18 #[.pointer (some ⟨pl, 0, none⟩), .pointer (some ⟨pa, 0, none⟩)] w (C1P w0 w ga l (l.find? (fun o => !objB o))) := by
  obtain ⟨A, c, rfl, l1, l2⟩ := SlObjs.form h
  unfold maxLen at l2
  have x0 := bl.cell 0
  simp only [List.getElem?_toArray, List.getElem?_cons_zero] at x0
  obtain ⟨r, hr⟩ : ∃ r, l.find? (fun o => !objB o) = r := ⟨_, rfl⟩
  rw [hr]
  have HR := Lib.hid hr
  have HH := Lib.hid h
  have HBA := Lib.hid ba
  have HW := Lib.hid hw
  have HM := Lib.hid hm
  clear hr h ba hw hm
  go_enter Try.func18, Try.ntmps18
  go_wp2_with fail
  go_loopw [8] (fun s8 wr => ∃ k : Nat, k ≤ l.length ∧ s8 = .int .i64 k ∧ C1At w0 w ga l k wr) (fun s8 _ => l.length - (intOf s8).toNat)
  case atStart => exact ⟨0, by omega, rfl, Wr.refl _ w, HW.out, HM.out, fun j o hj => absurd hj (by omega)⟩
  case round =>
    obtain ⟨k, hk, rfl, acc, acc0, hall, hyes⟩ := hrel
    have HYES := Lib.hid hyes
    clear hyes x0
    by_cases hlt : k < l.length
    · obtain ⟨o, ho⟩ : ∃ o, l[k]? = some o := ⟨_, List.getElem?_eq_getElem hlt⟩
      obtain ⟨b, off, c', vu, vp, vi, vn, e, hc, hol⟩ := obj_at HH.out ho
      injection e with e1 e2 e3
      subst e1
      subst e3
      obtain ⟨Bu, du, rfl, _, _⟩ := Sl.form hol.uses
      obtain ⟨Bp, dp, rfl, _, _⟩ := Sl.form hol.mod.procs
      obtain ⟨Bi, di, rfl, _, _⟩ := Sl.form hol.mod.imports
      obtain ⟨Bn, dn, rfl, _, _⟩ := Sl.form hol.mod.init
      have x0 := acc0.cellOf (hc 0 _ rfl) (by simp)
      have x1 := acc0.cellOf (hc 1 _ rfl) (by simp)
      have x2 := acc0.cellOf (hc 2 _ rfl) (by simp)
      have x3 := acc0.cellOf (hc 3 _ rfl) (by simp)
      have x4 := acc0.cellOf (hc 4 _ rfl) (by simp)
      have x5 := acc0.cellOf (hc 5 _ rfl) (by simp)
      have x6 := acc0.cellOf (hc 6 _ rfl) (by simp)
      have x7 := acc0.cellOf (hc 7 _ rfl) (by simp)
      have x8 := acc0.cellOf (hc 8 _ rfl) (by simp)
      simp only [Nat.add_zero] at x0
      have hlti : (k : Int) < (l.length : Int) := by omega
      have hk0 : (0 : Int) ≤ (k : Int) := by omega
      have HO := Lib.hid ho
      have HOL := Lib.hid hol
      have HALL := Lib.hid hall
      have ACC := Lib.hid acc
      have ACC0 := Lib.hid acc0
      obtain ⟨zz, hzz⟩ : ∃ zz, wr.heap.size = zz := ⟨_, rfl⟩
      obtain ⟨wa, hwa⟩ : ∃ wa, wr.alloc (.cells #[.string o.module, .bool o.main, .int .u64 o.key, .slice Bu o.uses.length du, .string o.mod.code, .slice Bp o.mod.procs.length dp, .slice Bi o.mod.imports.length di, .int .i64 o.mod.data, .slice Bn o.mod.init.length dn] 52) = wa := ⟨_, rfl⟩
      have ra : Wr [] wr wa := by rw [← hwa]; exact (Wr.refl [] wr).alloc _
      have bo : Blk wa zz 52 #[.string o.module, .bool o.main, .int .u64 o.key, .slice Bu o.uses.length du, .string o.mod.code, .slice Bp o.mod.procs.length dp, .slice Bi o.mod.imports.length di, .int .i64 o.mod.data, .slice Bn o.mod.init.length dn] := by rw [← hwa, ← hzz]; exact Blk.new _ _ _
      have RA := Lib.hid ra
      have BO := Lib.hid bo
      have HZZ := Lib.hid hzz
      have HWA := Lib.hid hwa
      clear e2 hc ho hol hall acc acc0 hzz hwa ra bo
      go_upto_region 4 with (fail)
      rw [HZZ.out, HWA.out]
      clear x0 x1 x2 x3 x4 x5 x6 x7 x8
      have y0 := BO.out.cell 0
      have y1 := BO.out.cell 1
      have y2 := BO.out.cell 2
      have y3 := BO.out.cell 3
      have y4 := BO.out.cell 4
      have y5 := BO.out.cell 5
      have y6 := BO.out.cell 6
      have y7 := BO.out.cell 7
      have y8 := BO.out.cell 8
      simp only [List.getElem?_toArray, List.getElem?_cons_zero, List.getElem?_cons_succ] at y0 y1 y2 y3 y4 y5 y6 y7 y8
      go_wp2_with fail
      refine (omay_any o _ _ _ _ _ _ ((HOL.out.wr0 ACC0.out).wr0 RA.out)).mono ?_
      rintro e w2 ⟨rfl, k2⟩
      have r2 := RA.out.trans k2
      have b2 := BO.out.wr0 k2
      have R2 := Lib.hid r2
      have B2 := Lib.hid b2
      clear y0 y1 y2 y3 y4 y5 y6 y7 y8
      have y0 := b2.cell 0
      have y1 := b2.cell 1
      have y2 := b2.cell 2
      have y3 := b2.cell 3
      have y4 := b2.cell 4
      have y5 := b2.cell 5
      have y6 := b2.cell 6
      have y7 := b2.cell 7
      have y8 := b2.cell 8
      simp only [List.getElem?_toArray, List.getElem?_cons_zero, List.getElem?_cons_succ] at y0 y1 y2 y3 y4 y5 y6 y7 y8
      clear k2 r2 b2
      cases hb : objB o with
      | false =>
        have hrr : r = some o := by rw [← HR.out]; exact find_at HO.out hb HYES.out
        have HRR := Lib.hid hrr
        clear hb hrr
        go_wp2_with fail
        go_ret2
        exact ⟨ACC.out.trans0 R2.out, by rw [HRR.out]; rfl⟩
      | true =>
        have HB := Lib.hid hb
        have p0 := ((HBA.out.wr ACC.out (by simpa using hne.2)).wr0 R2.out).cell 0
        simp only [List.getElem?_toArray, List.getElem?_cons_zero] at p0
        have hall2 : MapR w2 ga (ObjV w0) (lastOf (named (l.take k))) := MapR.keep HALL.out R2.out (by simp)
        obtain ⟨w3, hu, k3, hm3⟩ := MapR.upd Try.underlying64 Try.underlying9 hall2 o.module (.agg #[.string o.module, .bool o.main, .int .u64 o.key, .slice Bu o.uses.length du, .string o.mod.code, .slice Bp o.mod.procs.length dp, .slice Bi o.mod.imports.length di, .int .i64 o.mod.data, .slice Bn o.mod.init.length dn]) o ⟨_, _, _, _, rfl, HOL.out⟩
        rw [← named_next HO.out] at hm3
        have acc3 := (ACC.out.trans0 R2.out).trans k3
        have acc03 := (ACC0.out.trans R2.out).new k3 hga
        have HM3 := Lib.hid hm3
        have ACC3 := Lib.hid acc3
        have ACC03 := Lib.hid acc03
        clear hb hall2 k3 hm3 acc3 acc03
        go_wp2_with fail
        go_roundw
        case rel =>
          refine ⟨k + 1, by omega, by go_num, ACC3.out, ACC03.out, HM3.out, fun j o' hj ho' => ?_⟩
          by_cases hjk : j = k
          · subst hjk
            rw [HO.out] at ho'
            injection ho' with ho'
            rw [← ho']
            exact HB.out
          · exact HYES.out j o' (by omega) ho'
        case measure => simp [intOf]; omega
    · have hkn : k = l.length := by omega
      subst hkn
      have hrr : r = none := by rw [← HR.out]; exact find_none HYES.out
      have HRR := Lib.hid hrr
      have HALL := Lib.hid hall
      have ACC := Lib.hid acc
      clear hrr hall acc acc0
      go_wp2_with fail
      go_ret2
      exact ⟨ACC.out, by rw [HRR.out]; exact ⟨rfl, HALL.out⟩⟩
end Go.Proofs.Ytfeeeogkkajefaa
