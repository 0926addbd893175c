/- law 21's Wide and Large, law 23's Many: walked. No conditions. -/
import Derived.Test.YtfeeeogkkajefaaLkW
namespace Go.Proofs.Ytfeeeogkkajefaa
open Go.RowKit
set_option linter.unusedVariables false
set_option linter.unusedSimpArgs false

def SomeB (w : World) (Q : Prop) (e : Ending) (w' : World) : Prop := ∃ b : Bool, e = .returned (.bool b) ∧ Wr [] w w' ∧ (b = false → Q)
set_option maxRecDepth 100000 in
set_option maxHeartbeats 8000000 in
theorem wide_any (m : ModD) (vp vi vn : Value) (P : Nat → Prop) (w : World) (h : ModL w P vp vi vn m) : Calls Try.prog 31 #[m.val vp vi vn] w (SomeB w True) := by
  obtain ⟨Ap, cp, rfl, lp1, lp2⟩ := Sl.form h.procs
  obtain ⟨Ai, ci, rfl, li1, li2⟩ := Sl.form h.imports
  obtain ⟨An, cn, rfl, ln1, ln2⟩ := Sl.form h.init
  clear h
  unfold ModD.val ModD.cells
  have acc := (Wr.refl [] w).alloc (.cells #[.string m.code, .slice Ap m.procs.length cp, .slice Ai m.imports.length ci, .int .i64 m.data, .slice An m.init.length cn] 50)
  have HACC := Lib.hid acc
  clear acc
  by_cases q1 : 131072 < (m.code.size : Int)
  · go_enter Try.func31, Try.ntmps31
    go_wp2_with fail
    go_ret
    exact ⟨_, rfl, HACC.out, fun _ => trivial⟩
  by_cases q2 : 2048 < (m.procs.length : Int)
  · go_enter Try.func31, Try.ntmps31
    go_wp2_with fail
    go_ret
    exact ⟨_, rfl, HACC.out, fun _ => trivial⟩
  by_cases q3 : 512 < (m.imports.length : Int)
  · go_enter Try.func31, Try.ntmps31
    go_wp2_with fail
    go_ret
    exact ⟨_, rfl, HACC.out, fun _ => trivial⟩
  go_enter Try.func31, Try.ntmps31
  go_wp2_with fail
  go_ret
  exact ⟨_, rfl, HACC.out, fun _ => trivial⟩
set_option maxRecDepth 100000 in
set_option maxHeartbeats 8000000 in
theorem large_any (o : ObjD) (vu vp vi vn : Value) (P : Nat → Prop) (w : World) (h : ObjL w P vu vp vi vn o) : Calls Try.prog 17 #[o.val vu vp vi vn] w (SomeB w True) := by
  have HH := Lib.hid h
  obtain ⟨Au, cu, rfl, lu1, lu2⟩ := Sl.form h.uses
  obtain ⟨Ap, cp, rfl, _, _⟩ := Sl.form h.mod.procs
  obtain ⟨Ai, ci, rfl, _, _⟩ := Sl.form h.mod.imports
  obtain ⟨An, cn, rfl, _, _⟩ := Sl.form h.mod.init
  unfold maxLen at lu2
  clear h
  obtain ⟨g, hg⟩ : ∃ g, w.heap.size = g := ⟨_, rfl⟩
  obtain ⟨w0, hw0⟩ : ∃ w0, w.alloc (.cells #[.string o.module, .bool o.main, .int .u64 o.key, .slice Au o.uses.length cu, .string o.mod.code, .slice Ap o.mod.procs.length cp, .slice Ai o.mod.imports.length ci, .int .i64 o.mod.data, .slice An o.mod.init.length cn] 52) = w0 := ⟨_, rfl⟩
  have acc : Wr [] w w0 := by rw [← hw0]; exact (Wr.refl [] w).alloc _
  have bA : Blk w0 g 52 #[.string o.module, .bool o.main, .int .u64 o.key, .slice Au o.uses.length cu, .string o.mod.code, .slice Ap o.mod.procs.length cp, .slice Ai o.mod.imports.length ci, .int .i64 o.mod.data, .slice An o.mod.init.length cn] := by rw [← hw0, ← hg]; exact Blk.new _ _ _
  have hwide := wide_any o.mod _ _ _ P w0 (HH.out.wr0 acc).mod
  have HWIDE := Lib.hid hwide
  have Hg := Lib.hid hg
  have Hw0 := Lib.hid hw0
  unfold ObjD.val ObjD.cells
  clear hg hw0 hwide
  go_enter Try.func17, Try.ntmps17
  go_upto_region 1 with (fail)
  rw [Hw0.out, Hg.out]
  have c0 := bA.cell 0
  have c3 := bA.cell 3
  have c4 := bA.cell 4
  have c5 := bA.cell 5
  have c6 := bA.cell 6
  have c7 := bA.cell 7
  have c8 := bA.cell 8
  simp only [List.getElem?_toArray, List.getElem?_cons_zero, List.getElem?_cons_succ] at c0 c3 c4 c5 c6 c7 c8
  have BA := Lib.hid bA
  have ACC := Lib.hid acc
  clear bA acc
  by_cases q1 : 300 < (o.module.size : Int)
  · go_wp2_with fail
    go_ret
    exact ⟨_, rfl, ACC.out, fun _ => trivial⟩
  by_cases q2 : 300 < (o.uses.length : Int)
  · go_wp2_with fail
    go_ret
    exact ⟨_, rfl, ACC.out, fun _ => trivial⟩
  go_wp2_with fail
  refine HWIDE.out.mono ?_
  rintro e w1 ⟨b, rfl, k1, _⟩
  have ACC1 := Lib.hid (ACC.out.trans k1)
  have b1 := BA.out.wr0 k1
  have d3 := b1.cell 3
  simp only [List.getElem?_toArray, List.getElem?_cons_zero, List.getElem?_cons_succ] at d3
  clear c0 c3 c4 c5 c6 c7 c8 k1 b1
  have q1' : decide (300 < (o.module.size : Int)) = false := decide_eq_false (by omega)
  have q2' : decide (300 < (o.uses.length : Int)) = false := decide_eq_false (by omega)
  cases b with
  | true =>
    go_wp2_with fail
    go_ret
    exact ⟨_, rfl, ACC1.out, fun _ => trivial⟩
  | false =>
    go_wp2_with fail
    go_loop [3] (fun s3 => ∃ k : Nat, k ≤ o.uses.length ∧ s3 = .int .i64 k) (fun s3 => o.uses.length - (intOf s3).toNat)
    case atStart => exact ⟨0, by omega, rfl⟩
    case round =>
      obtain ⟨k, hk, rfl⟩ := hrel
      by_cases hlt : k < o.uses.length
      · obtain ⟨u, hu⟩ : ∃ u, o.uses[k]? = some u := ⟨_, List.getElem?_eq_getElem hlt⟩
        obtain ⟨b, off, c, e, _, _, hc⟩ := use_at (HH.out.wr0 ACC1.out).uses hu
        injection e with e1 e2 e3
        subst e1
        subst e3
        have x0 := hc 0 _ rfl
        simp only [Nat.add_zero] at x0
        have hlti : (k : Int) < (o.uses.length : Int) := by omega
        have hk0 : (0 : Int) ≤ (k : Int) := by omega
        clear e2 hc hu
        by_cases q3 : 300 < (u.module.size : Int)
        · go_wp2_with fail
          go_ret
          exact ⟨_, rfl, ACC1.out, fun _ => trivial⟩
        · go_wp2_with fail
          go_round
          case rel => exact ⟨k + 1, by omega, by go_num⟩
          case measure => simp [intOf]; omega
      · have hkn : k = o.uses.length := by omega
        subst hkn
        go_wp2_with fail
        go_ret
        exact ⟨_, rfl, ACC1.out, fun _ => trivial⟩
/-- Few enough. -/
def FewO (l : List ObjD) : Prop := l.length ≤ 80 ∧ ∀ o ∈ l, o.uses.length ≤ 80
def ManyAt (w : World) (l : List ObjD) (k : Nat) (wr : World) : Prop := Wr [] w wr ∧ ∀ (j : Nat) (o : ObjD), j < k → l[j]? = some o → o.uses.length ≤ 80
set_option maxRecDepth 100000 in
set_option maxHeartbeats 8000000 in
theorem many_any (l : List ObjD) (v : Value) (P : Nat → Prop) (w : World) (h : SlObjs w P v l) : Calls Try.prog 7 #[v] w (SomeB w (FewO l)) := by
  obtain ⟨A, c, rfl, l1, l2⟩ := SlObjs.form h
  unfold maxLen at l2
  have HH := Lib.hid h
  clear h
  by_cases q0 : 80 < (l.length : Int)
  · go_enter Try.func7, Try.ntmps7
    go_wp2_with fail
    go_ret
    exact ⟨true, rfl, Wr.refl _ _, fun h => by cases h⟩
  have q0' : decide (80 < (l.length : Int)) = false := decide_eq_false q0
  go_enter Try.func7, Try.ntmps7
  go_wp2_with fail
  go_loopw [3] (fun s3 wr => ∃ k : Nat, k ≤ l.length ∧ s3 = .int .i64 k ∧ ManyAt w l k wr) (fun s3 _ => l.length - (intOf s3).toNat)
  case atStart => exact ⟨0, by omega, rfl, Wr.refl _ _, fun j o hj => absurd hj (by omega)⟩
  case round =>
    obtain ⟨k, hk, rfl, acc, hyes⟩ := hrel
    have ACC := Lib.hid acc
    have HYES := Lib.hid hyes
    clear acc hyes
    by_cases hlt : k < l.length
    · obtain ⟨o, ho⟩ : ∃ o, l[k]? = some o := ⟨_, List.getElem?_eq_getElem hlt⟩
      obtain ⟨b, off, c', vu, vp, vi, vn, e, hc, hol⟩ := obj_at (HH.out.wr0 ACC.out) ho
      injection e with e1 e2 e3
      subst e1
      subst e3
      obtain ⟨Bu, du, rfl, _, _⟩ := Sl.form hol.uses
      obtain ⟨Bp, dp, rfl, _, _⟩ := Sl.form hol.mod.procs
      obtain ⟨Bi, di, rfl, _, _⟩ := Sl.form hol.mod.imports
      obtain ⟨Bn, dn, rfl, _, _⟩ := Sl.form hol.mod.init
      have x0 := hc 0 _ rfl
      have x1 := hc 1 _ rfl
      have x2 := hc 2 _ rfl
      have x3 := hc 3 _ rfl
      have x4 := hc 4 _ rfl
      have x5 := hc 5 _ rfl
      have x6 := hc 6 _ rfl
      have x7 := hc 7 _ rfl
      have x8 := hc 8 _ rfl
      simp only [Nat.add_zero] at x0
      have HC := Lib.hid hc
      have HO := Lib.hid ho
      have hla := large_any o _ _ _ _ P wr hol
      have HLA := Lib.hid hla
      have hlti : (k : Int) < (l.length : Int) := by omega
      have hk0 : (0 : Int) ≤ (k : Int) := by omega
      clear e2 hc ho hol hla
      go_wp2_with fail
      refine HLA.out.mono ?_
      rintro e w1 ⟨b1, rfl, k1, _⟩
      have ACC1 := Lib.hid (ACC.out.trans k1)
      clear x0 x1 x2 x3 x4 x5 x6 x7 x8
      have x3 := k1.cellOf (HC.out 3 _ rfl) (by simp)
      have x4 := k1.cellOf (HC.out 4 _ rfl) (by simp)
      have x8 := k1.cellOf (HC.out 8 _ rfl) (by simp)
      clear k1
      cases b1 with
      | true =>
        go_wp2_with fail
        go_ret
        exact ⟨true, rfl, ACC1.out, fun h => by cases h⟩
      | false =>
        by_cases p1 : 1024 < (o.mod.code.size : Int)
        · go_wp2_with fail
          go_ret
          exact ⟨true, rfl, ACC1.out, fun h => by cases h⟩
        by_cases p2 : 1024 < (o.mod.init.length : Int)
        · go_wp2_with fail
          go_ret
          exact ⟨true, rfl, ACC1.out, fun h => by cases h⟩
        by_cases p3 : 80 < (o.uses.length : Int)
        · go_wp2_with fail
          go_ret
          exact ⟨true, rfl, ACC1.out, fun h => by cases h⟩
        go_wp2_with fail
        go_roundw
        case rel =>
          refine ⟨k + 1, by omega, by go_num, ACC1.out, fun j o' hj ho' => ?_⟩
          by_cases hjk : j = k
          · subst hjk
            rw [HO.out] at ho'
            injection ho' with ho'
            rw [← ho']
            omega
          · exact HYES.out j o' (by omega) ho'
        case measure => simp [intOf]; omega
    · have hkn : k = l.length := by omega
      subst hkn
      go_wp2_with fail
      go_ret
      exact ⟨false, rfl, ACC.out, fun _ => ⟨by omega, fun o ho => by
        obtain ⟨j, hj⟩ := List.getElem?_of_mem ho
        exact HYES.out j o (List.getElem?_eq_some_iff.1 hj).1 hj⟩⟩
end Go.Proofs.Ytfeeeogkkajefaa
