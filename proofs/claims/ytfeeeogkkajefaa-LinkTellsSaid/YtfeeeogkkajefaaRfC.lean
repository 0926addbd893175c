/- ref 22's At, ref 23's of and place: walked. No conditions. -/
import Derived.Test.YtfeeeogkkajefaaLnG
import Derived.Test.YtfeeeogkkajefaaLaM
namespace Go.Proofs.Ytfeeeogkkajefaa
open Go.RowKit
set_option linter.unusedVariables false
set_option linter.unusedSimpArgs false

/-- The first one's place. -/
def idxP {α : Type} (f : α → ByteArray) (l : List α) (m : ByteArray) : Int := match l.findIdx? (fun x => decide (f x = m)) with | some i => (i : Int) | none => -1
theorem idxP_some {α : Type} {f : α → ByteArray} {l : List α} {m : ByteArray} {k : Nat} {x : α} (hx : l[k]? = some x) (hm : f x = m) (hno : ∀ (i : Nat) (y : α), i < k → l[i]? = some y → f y ≠ m) : idxP f l m = (k : Int) := by
  obtain ⟨hk, e⟩ := List.getElem?_eq_some_iff.1 hx
  have : l.findIdx? (fun x => decide (f x = m)) = some k := by
    rw [List.findIdx?_eq_some_iff_getElem]
    refine ⟨hk, by rw [e]; exact decide_eq_true hm, fun j hj => ?_⟩
    have := hno j _ hj (List.getElem?_eq_getElem (by omega))
    simpa using this
  unfold idxP
  rw [this]
theorem idxP_none {α : Type} {f : α → ByteArray} {l : List α} {m : ByteArray} (hno : ∀ (i : Nat) (y : α), l[i]? = some y → f y ≠ m) : idxP f l m = -1 := by
  have : l.findIdx? (fun x => decide (f x = m)) = none := by
    rw [List.findIdx?_eq_none_iff]
    intro x hx
    obtain ⟨i, hi⟩ := List.getElem?_of_mem hx
    exact decide_eq_false (hno i x hi)
  unfold idxP
  rw [this]
def NoYet {α : Type} (f : α → ByteArray) (l : List α) (m : ByteArray) (k : Nat) : Prop := ∀ (i : Nat) (y : α), i < k → l[i]? = some y → f y ≠ m
theorem NoYet.zero {α : Type} (f : α → ByteArray) (l : List α) (m : ByteArray) : NoYet f l m 0 := fun i y h => absurd h (by omega)
theorem NoYet.succ {α : Type} {f : α → ByteArray} {l : List α} {m : ByteArray} {k : Nat} {x : α} (h : NoYet f l m k) (hx : l[k]? = some x) (hm : f x ≠ m) : NoYet f l m (k + 1) := fun i y hi hy => by
  rcases Nat.lt_or_ge i k with hlt | hge
  · exact h i y hlt hy
  · obtain rfl : i = k := by omega
    rw [hx] at hy
    injection hy with hy
    rw [← hy]
    exact hm
def SameW {α : Type} (f : α → ByteArray) (l : List α) (m : ByteArray) (k : Nat) (w wr : World) : Prop := w = wr ∧ NoYet f l m k
set_option maxRecDepth 100000 in
set_option maxHeartbeats 4000000 in
theorem at_any (l : List NeedD) (v : Value) (m : ByteArray) (P : Nat → Prop) (w : World) (h : SlNeeds w P v l) :
    Calls Try.prog 38 #[v, .string m] w fun e w' => e = .returned (.int .i64 (idxP NeedD.module l m)) ∧ w = w' := by
  obtain ⟨A, c, rfl, l1, l2⟩ := SlNeeds.form h
  unfold maxLen at l2
  obtain ⟨r, hr⟩ : ∃ r, idxP NeedD.module l m = r := ⟨_, rfl⟩
  rw [hr]
  have HR := Lib.hid hr
  have HH := Lib.hid h
  clear h hr
  go_enter Try.func38, Try.ntmps38
  go_wp2_with fail
  go_loopw [5] (fun s5 wr => ∃ k : Nat, k ≤ l.length ∧ s5 = .int .i64 k ∧ SameW NeedD.module l m k w wr) (fun s5 _ => l.length - (intOf s5).toNat)
  case atStart => exact ⟨0, by omega, rfl, rfl, NoYet.zero _ _ _⟩
  case round =>
    obtain ⟨k, hk, rfl, rfl, hno⟩ := hrel
    have HNO := Lib.hid hno
    clear hno
    by_cases hlt : k < l.length
    · obtain ⟨x, hx⟩ : ∃ x, l[k]? = some x := ⟨_, List.getElem?_eq_getElem hlt⟩
      obtain ⟨b, off, c', vn, e, hc, _⟩ := need_at HH.out hx
      injection e with e1 e2 e3
      subst e1
      subst e3
      have x0 := hc 0 _ rfl
      simp only [Nat.add_zero] at x0
      have hlti : (k : Int) < (l.length : Int) := by omega
      have hk0 : (0 : Int) ≤ (k : Int) := by omega
      have HX := Lib.hid hx
      clear hc e2 hx
      by_cases hm : x.module = m
      · have hs : (x.module.toList == m.toList) = true := by rw [hm]; exact str_same _
        have hrk : r = (k : Int) := by rw [← HR.out]; exact idxP_some HX.out hm HNO.out
        subst hrk
        clear HR hm
        go_wp2_with fail
        go_ret
        exact ⟨rfl, rfl⟩
      · have hs := str_other hm
        have HM := Lib.hid hm
        clear hm
        go_wp2_with fail
        go_roundw
        case rel => exact ⟨k + 1, by omega, by go_num, rfl, HNO.out.succ HX.out HM.out⟩
        case measure => simp [intOf]; omega
    · have hrk : r = -1 := by
        rw [← HR.out]
        exact idxP_none (fun i y hy => HNO.out i y (by have := (List.getElem?_eq_some_iff.1 hy).1; omega) hy)
      subst hrk
      clear HR
      go_wp2_with fail
      go_ret
      exact ⟨rfl, rfl⟩
set_option maxRecDepth 100000 in
set_option maxHeartbeats 4000000 in
theorem rplace_any (l : List ByteArray) (v : Value) (m : ByteArray) (P : Nat → Prop) (w : World) (h : SlStr w P v l) :
    Calls Try.prog 28 #[v, .string m] w fun e w' => e = .returned (.int .i64 (idxP id l m)) ∧ w = w' := by
  obtain ⟨A, c, rfl, l1, l2⟩ := Sl.form h
  unfold maxLen at l2
  obtain ⟨r, hr⟩ : ∃ r, idxP id l m = r := ⟨_, rfl⟩
  rw [hr]
  have HR := Lib.hid hr
  have HH := Lib.hid h
  clear h hr
  go_enter Try.func28, Try.ntmps28
  go_wp2_with fail
  go_loopw [5] (fun s5 wr => ∃ k : Nat, k ≤ l.length ∧ s5 = .int .i64 k ∧ SameW id l m k w wr) (fun s5 _ => l.length - (intOf s5).toNat)
  case atStart => exact ⟨0, by omega, rfl, rfl, NoYet.zero _ _ _⟩
  case round =>
    obtain ⟨k, hk, rfl, rfl, hno⟩ := hrel
    have HNO := Lib.hid hno
    clear hno
    by_cases hlt : k < l.length
    · obtain ⟨x, hx⟩ : ∃ x, l[k]? = some x := ⟨_, List.getElem?_eq_getElem hlt⟩
      obtain ⟨b, off, c', e, _, _, _, x0⟩ := Sl.at_ HH.out (j := k) (u := .string x) (by rw [List.getElem?_map, hx]; rfl)
      injection e with e1 e2 e3
      subst e1
      subst e3
      have hlti : (k : Int) < (l.length : Int) := by omega
      have hk0 : (0 : Int) ≤ (k : Int) := by omega
      have HX := Lib.hid hx
      clear e2 hx
      by_cases hm : x = m
      · have hs : (x.toList == m.toList) = true := by rw [hm]; exact str_same _
        have hrk : r = (k : Int) := by rw [← HR.out]; exact idxP_some HX.out hm HNO.out
        subst hrk
        clear HR hm
        go_wp2_with fail
        go_ret
        exact ⟨rfl, rfl⟩
      · have hs := str_other hm
        have HM := Lib.hid hm
        clear hm
        go_wp2_with fail
        go_roundw
        case rel => exact ⟨k + 1, by omega, by go_num, rfl, HNO.out.succ HX.out HM.out⟩
        case measure => simp [intOf]; omega
    · have hrk : r = -1 := by
        rw [← HR.out]
        exact idxP_none (fun i y hy => HNO.out i y (by have := (List.getElem?_eq_some_iff.1 hy).1; omega) hy)
      subst hrk
      clear HR
      go_wp2_with fail
      go_ret
      exact ⟨rfl, rfl⟩
theorem wr9 (w : World) (g : Nat) (u0 u1 u2 u3 u4 u5 u6 u7 u8 : Value) : Wr [g] w (((((((((w.setCell ⟨g, 0, none⟩ u0).setCell ⟨g, 1, none⟩ u1).setCell ⟨g, 2, none⟩ u2).setCell ⟨g, 3, none⟩ u3).setCell ⟨g, 4, none⟩ u4).setCell ⟨g, 5, none⟩ u5).setCell ⟨g, 6, none⟩ u6).setCell ⟨g, 7, none⟩ u7).setCell ⟨g, 8, none⟩ u8) := by
  have keep : ∀ {q : World} {j : Nat} {u : Value}, Wr [g] w q → Wr [g] w (q.setCell ⟨g, j, none⟩ u) := fun hq => hq.setOn (by simp) _
  exact keep (keep (keep (keep (keep (keep (keep (keep (keep (Wr.refl [g] w)))))))))
theorem blk9 (w : World) (g : Nat) (T : TypeId) (x0 x1 x2 x3 x4 x5 x6 x7 x8 u0 u1 u2 u3 u4 u5 u6 u7 u8 : Value) (h : Blk w g T #[x0, x1, x2, x3, x4, x5, x6, x7, x8]) : Blk (((((((((w.setCell ⟨g, 0, none⟩ u0).setCell ⟨g, 1, none⟩ u1).setCell ⟨g, 2, none⟩ u2).setCell ⟨g, 3, none⟩ u3).setCell ⟨g, 4, none⟩ u4).setCell ⟨g, 5, none⟩ u5).setCell ⟨g, 6, none⟩ u6).setCell ⟨g, 7, none⟩ u7).setCell ⟨g, 8, none⟩ u8) g T #[u0, u1, u2, u3, u4, u5, u6, u7, u8] := by
  have := ((((((((h.set_ 0 u0).set_ 1 u1).set_ 2 u2).set_ 3 u3).set_ 4 u4).set_ 5 u5).set_ 6 u6).set_ 7 u7).set_ 8 u8
  simpa using this
/-- The object of a module. -/
def ofP (l : List ObjD) (m : ByteArray) : ObjD := (l.find? (fun o => decide (o.module = m))).getD zeroObj
def OfR (B : Nat) (w : World) (o : ObjD) (e : Ending) (w' : World) : Prop := ∃ vu vp vi vn, e = .returned (.agg #[.string o.module, .bool o.main, .int .u64 o.key, vu, .string o.mod.code, vp, vi, .int .i64 o.mod.data, vn]) ∧ Wr [] w w' ∧ ObjL w' (fun b => b < B) vu vp vi vn o
theorem ofP_some {l : List ObjD} {m : ByteArray} {k : Nat} {x : ObjD} (hx : l[k]? = some x) (hm : x.module = m) (hno : NoYet ObjD.module l m k) : ofP l m = x := by
  have : l.find? (fun o => decide (o.module = m)) = some x := by
    obtain ⟨hk, e⟩ := List.getElem?_eq_some_iff.1 hx
    rw [List.find?_eq_some_iff_getElem]
    refine ⟨decide_eq_true hm, k, hk, e, fun j hj => ?_⟩
    have := hno j _ hj (List.getElem?_eq_getElem (by omega))
    simpa using this
  unfold ofP
  rw [this]
  rfl
theorem ofP_none {l : List ObjD} {m : ByteArray} (hno : ∀ (i : Nat) (y : ObjD), l[i]? = some y → y.module ≠ m) : ofP l m = zeroObj := by
  have : l.find? (fun o => decide (o.module = m)) = none := by
    rw [List.find?_eq_none]
    intro x hx
    obtain ⟨i, hi⟩ := List.getElem?_of_mem hx
    simpa using hno i x hi
  unfold ofP
  rw [this]
  rfl
set_option maxRecDepth 100000 in
set_option maxHeartbeats 4000000 in
theorem rof_any (l : List ObjD) (v : Value) (m : ByteArray) (B : Nat) (w : World) (h : SlObjs w (fun b => b < B) v l) (hB : B ≤ w.heap.size) :
    Calls Try.prog 27 #[v, .string m] w (OfR B w (ofP l m)) := by
  obtain ⟨A, c, rfl, l1, l2⟩ := SlObjs.form h
  unfold maxLen at l2
  obtain ⟨r, hr⟩ : ∃ r, ofP l m = r := ⟨_, rfl⟩
  rw [hr]
  obtain ⟨g, hg⟩ : ∃ g, w.heap.size = g := ⟨_, rfl⟩
  obtain ⟨w0, hw0⟩ : ∃ w0, w.alloc (.cells #[.string ⟨#[]⟩, .bool false, .int .u64 0, .slice none 0 0, .string ⟨#[]⟩, .slice none 0 0, .slice none 0 0, .int .i64 0, .slice none 0 0] 52) = w0 := ⟨_, rfl⟩
  have acc : Wr [] w w0 := by rw [← hw0]; exact (Wr.refl [] w).alloc _
  have bA : Blk w0 g 52 #[.string ⟨#[]⟩, .bool false, .int .u64 0, .slice none 0 0, .string ⟨#[]⟩, .slice none 0 0, .slice none 0 0, .int .i64 0, .slice none 0 0] := by rw [← hw0, ← hg]; exact Blk.new _ _ _
  have HR := Lib.hid hr
  have HH := Lib.hid (h.wr0 acc)
  have HG := Lib.hid hg
  have HW0 := Lib.hid hw0
  have ACC := Lib.hid acc
  have BA := Lib.hid bA
  clear h hr hg hw0 acc bA
  go_enter Try.func27, Try.ntmps27
  go_upto_region 1 with (fail)
  rw [HW0.out, HG.out]
  go_wp2_with fail
  go_loopw [5] (fun s5 wr => ∃ k : Nat, k ≤ l.length ∧ s5 = .int .i64 k ∧ SameW ObjD.module l m k w0 wr) (fun s5 _ => l.length - (intOf s5).toNat)
  case atStart => exact ⟨0, by omega, rfl, rfl, NoYet.zero _ _ _⟩
  case round =>
    obtain ⟨k, hk, rfl, rfl, hno⟩ := hrel
    have HNO := Lib.hid hno
    clear hno
    by_cases hlt : k < l.length
    · obtain ⟨x, hx⟩ : ∃ x, l[k]? = some x := ⟨_, List.getElem?_eq_getElem hlt⟩
      obtain ⟨b, off, c', vu, vp, vi, vn, e, hc, hol⟩ := obj_at HH.out hx
      injection e with e1 e2 e3
      subst e1
      subst e3
      obtain ⟨Bu, du, rfl, _, _⟩ := Sl.form hol.uses
      obtain ⟨Bp, dp, rfl, _, _⟩ := Sl.form hol.mod.procs
      obtain ⟨Bi, di, rfl, _, _⟩ := Sl.form hol.mod.imports
      obtain ⟨Bn, dn, rfl, _, _⟩ := Sl.form hol.mod.init
      have x0 := hc 0 _ rfl
      have x1 := hc 1 _ rfl
      have x2 := hc 2 _ rfl
      have x3 := hc 3 _ rfl
      have x4 := hc 4 _ rfl
      have x5 := hc 5 _ rfl
      have x6 := hc 6 _ rfl
      have x7 := hc 7 _ rfl
      have x8 := hc 8 _ rfl
      simp only [Nat.add_zero] at x0
      have hlti : (k : Int) < (l.length : Int) := by omega
      have hk0 : (0 : Int) ≤ (k : Int) := by omega
      have HX := Lib.hid hx
      have HOL := Lib.hid hol
      clear hc e2 hx hol
      by_cases hm : x.module = m
      · have hs : (x.module.toList == m.toList) = true := by rw [hm]; exact str_same _
        have hrk : r = x := by rw [← HR.out]; exact ofP_some HX.out hm HNO.out
        subst hrk
        have f0 := BA.out.frozen 0
        have f1 := BA.out.frozen 1
        have f2 := BA.out.frozen 2
        have f3 := BA.out.frozen 3
        have f4 := BA.out.frozen 4
        have f5 := BA.out.frozen 5
        have f6 := BA.out.frozen 6
        have f7 := BA.out.frozen 7
        have f8 := BA.out.frozen 8
        have c0 := BA.out.cell 0
        have c1 := BA.out.cell 1
        have c2 := BA.out.cell 2
        have c3 := BA.out.cell 3
        have c4 := BA.out.cell 4
        have c5 := BA.out.cell 5
        have c6 := BA.out.cell 6
        have c7 := BA.out.cell 7
        have c8 := BA.out.cell 8
        simp only [List.getElem?_toArray, List.getElem?_cons_zero, List.getElem?_cons_succ] at c0 c1 c2 c3 c4 c5 c6 c7 c8
        have hb9 := blk9 w0 g 52 _ _ _ _ _ _ _ _ _ (.string r.module) (.bool r.main) (.int .u64 r.key) (.slice Bu r.uses.length du) (.string r.mod.code) (.slice Bp r.mod.procs.length dp) (.slice Bi r.mod.imports.length di) (.int .i64 r.mod.data) (.slice Bn r.mod.init.length dn) BA.out
        have hw9 := wr9 w0 g (.string r.module) (.bool r.main) (.int .u64 r.key) (.slice Bu r.uses.length du) (.string r.mod.code) (.slice Bp r.mod.procs.length dp) (.slice Bi r.mod.imports.length di) (.int .i64 r.mod.data) (.slice Bn r.mod.init.length dn)
        have HB9 := Lib.hid hb9
        have HW9 := Lib.hid hw9
        clear HR hm hb9 hw9
        go_wp2_with fail
        refine bodyPost_ret (v := .agg #[.string r.module, .bool r.main, .int .u64 r.key, .slice Bu r.uses.length du, .string r.mod.code, .slice Bp r.mod.procs.length dp, .slice Bi r.mod.imports.length di, .int .i64 r.mod.data, .slice Bn r.mod.init.length dn]) ?_ rfl ⟨_, _, _, _, rfl, ACC.out.new HW9.out (by rw [HG.out]; exact Nat.le_refl _), HOL.out.keep HW9.out (fun b hb => by have := HG.out; simp; omega)⟩
        have t0 := HB9.out.cell 0
        have t1 := HB9.out.cell 1
        have t2 := HB9.out.cell 2
        have t3 := HB9.out.cell 3
        have t4 := HB9.out.cell 4
        have t5 := HB9.out.cell 5
        have t6 := HB9.out.cell 6
        have t7 := HB9.out.cell 7
        have t8 := HB9.out.cell 8
        simp only [List.getElem?_toArray, List.getElem?_cons_zero, List.getElem?_cons_succ] at t0 t1 t2 t3 t4 t5 t6 t7 t8
        simp [results, Try.results27, go_sem, t0, t1, t2, t3, t4, t5, t6, t7, t8]
      · have hs := str_other hm
        have HM := Lib.hid hm
        clear hm
        go_wp2_with fail
        go_roundw
        case rel => exact ⟨k + 1, by omega, by go_num, rfl, HNO.out.succ HX.out HM.out⟩
        case measure => simp [intOf]; omega
    · have hrk : r = zeroObj := by
        rw [← HR.out]
        exact ofP_none (fun i y hy => HNO.out i y (by have := (List.getElem?_eq_some_iff.1 hy).1; omega) hy)
      subst hrk
      have f0 := BA.out.frozen 0
      have f1 := BA.out.frozen 1
      have f2 := BA.out.frozen 2
      have f3 := BA.out.frozen 3
      have f4 := BA.out.frozen 4
      have f5 := BA.out.frozen 5
      have f6 := BA.out.frozen 6
      have f7 := BA.out.frozen 7
      have f8 := BA.out.frozen 8
      have c0 := BA.out.cell 0
      have c1 := BA.out.cell 1
      have c2 := BA.out.cell 2
      have c3 := BA.out.cell 3
      have c4 := BA.out.cell 4
      have c5 := BA.out.cell 5
      have c6 := BA.out.cell 6
      have c7 := BA.out.cell 7
      have c8 := BA.out.cell 8
      simp only [List.getElem?_toArray, List.getElem?_cons_zero, List.getElem?_cons_succ] at c0 c1 c2 c3 c4 c5 c6 c7 c8
      have hb9 := blk9 w0 g 52 _ _ _ _ _ _ _ _ _ (.string ⟨#[]⟩) (.bool false) (.int .u64 0) (.slice none 0 0) (.string ⟨#[]⟩) (.slice none 0 0) (.slice none 0 0) (.int .i64 0) (.slice none 0 0) BA.out
      have hw9 := wr9 w0 g (.string ⟨#[]⟩) (.bool false) (.int .u64 0) (.slice none 0 0) (.string ⟨#[]⟩) (.slice none 0 0) (.slice none 0 0) (.int .i64 0) (.slice none 0 0)
      have HB9 := Lib.hid hb9
      have HW9 := Lib.hid hw9
      clear HR hb9 hw9
      go_wp2_with fail
      refine bodyPost_ret (v := .agg #[.string ⟨#[]⟩, .bool false, .int .u64 0, .slice none 0 0, .string ⟨#[]⟩, .slice none 0 0, .slice none 0 0, .int .i64 0, .slice none 0 0]) ?_ rfl ⟨_, _, _, _, rfl, ACC.out.new HW9.out (by rw [HG.out]; exact Nat.le_refl _), ⟨Sl.nil _ _ 2, ⟨Sl.nil _ _ 6, Sl.nil _ _ 1, Sl.nil _ _ 1⟩⟩⟩
      have t0 := HB9.out.cell 0
      have t1 := HB9.out.cell 1
      have t2 := HB9.out.cell 2
      have t3 := HB9.out.cell 3
      have t4 := HB9.out.cell 4
      have t5 := HB9.out.cell 5
      have t6 := HB9.out.cell 6
      have t7 := HB9.out.cell 7
      have t8 := HB9.out.cell 8
      simp only [List.getElem?_toArray, List.getElem?_cons_zero, List.getElem?_cons_succ] at t0 t1 t2 t3 t4 t5 t6 t7 t8
      simp [results, Try.results27, go_sem, t0, t1, t2, t3, t4, t5, t6, t7, t8]
end Go.Proofs.Ytfeeeogkkajefaa
