/- law 14's wide and Large: walked. No conditions. -/
import Derived.Test.YtjanbpchedgoiaaKI11
import Derived.Test.YtjanbpchedgoiaaKI12
namespace Go.Proofs.Ytjanbpchedgoiaa
open Go.RowKit
set_option linter.unusedVariables false
set_option linter.unusedSimpArgs false

/-- Some bool, and nothing is written. -/
def BoolR (w : World) (e : Ending) (w' : World) : Prop := ∃ r : Bool, e = .returned (.bool r) ∧ Wr [] w w'
def LargeR (f : FaceP) (w : World) (e : Ending) (w' : World) : Prop := ∃ r : Bool, e = .returned (.bool r) ∧ Wr [] w w' ∧ (r = false → f.items.length ≤ 60 ∧ f.types.length ≤ 60)
set_option maxRecDepth 100000 in
set_option maxHeartbeats 8000000 in
theorem wide_any (t : Ty) (vn vf va vp : Value) (P : Nat → Prop) (w : World) (h : Lists w P vn vf va vp t) :
    Calls Try.prog 17 #[.agg #[.int .u8 t.kind, .string t.module, .string t.name, .int .i64 t.base, .int .i64 t.index, .int .i64 t.low, .int .i64 t.high, vn, vf, va, vp, .int .i64 t.result]] w (BoolR w) := by
  obtain ⟨⟨N1, n1, rfl, ln1, mn1⟩, ⟨N2, n2, rfl, ln2, mn2⟩, ⟨N3, n3, rfl, ln3, mn3⟩, ⟨N4, n4, rfl, ln4, mn4⟩⟩ := h.forms
  unfold maxLen at mn1 mn2 mn3 mn4
  obtain ⟨w0, hw0⟩ : ∃ q, w.alloc (.cells #[.int .u8 t.kind, .string t.module, .string t.name, .int .i64 t.base, .int .i64 t.index, .int .i64 t.low, .int .i64 t.high, .slice N1 t.names.length n1, .slice N2 t.fields.length n2, .slice N3 t.arms.length n3, .slice N4 t.params.length n4, .int .i64 t.result] 55) = q := ⟨_, rfl⟩
  obtain ⟨g, hg⟩ : ∃ q, w.heap.size = q := ⟨_, rfl⟩
  have acc : Wr [] w w0 := by rw [← hw0]; exact (Wr.refl _ _).alloc _
  have bA : Blk w0 g 55 #[.int .u8 t.kind, .string t.module, .string t.name, .int .i64 t.base, .int .i64 t.index, .int .i64 t.low, .int .i64 t.high, .slice N1 t.names.length n1, .slice N2 t.fields.length n2, .slice N3 t.arms.length n3, .slice N4 t.params.length n4, .int .i64 t.result] := by rw [← hw0, ← hg]; exact Blk.new _ _ _
  have c1 := bA.cell 1
  have c2 := bA.cell 2
  have c7 := bA.cell 7
  have c8 := bA.cell 8
  have c9 := bA.cell 9
  have c10 := bA.cell 10
  simp only [List.getElem?_toArray, List.getElem?_cons_zero, List.getElem?_cons_succ] at c1 c2 c7 c8 c9 c10
  have HL := Lib.hid (h.wr0 acc)
  have ACC := Lib.hid acc
  have Hw0 := Lib.hid hw0
  have Hg := Lib.hid hg
  clear h acc bA hw0 hg
  go_enter Try.func17, Try.ntmps17
  go_upto_region 1 with (fail)
  rw [Hw0.out, Hg.out]
  obtain ⟨r0, hr0⟩ : ∃ r, decide ((t.module.size : Int) > 300) = r := ⟨_, rfl⟩
  cases r0 with
  | true =>
    go_wp2_with fail
    go_ret
    exact ⟨true, rfl, ACC.out⟩
  | false =>
  obtain ⟨r1, hr1⟩ : ∃ r, decide ((t.name.size : Int) > 300) = r := ⟨_, rfl⟩
  cases r1 with
  | true =>
    go_wp2_with fail
    go_ret
    exact ⟨true, rfl, ACC.out⟩
  | false =>
  obtain ⟨r2, hr2⟩ : ∃ r, decide ((t.names.length : Int) > 40) = r := ⟨_, rfl⟩
  cases r2 with
  | true =>
    go_wp2_with fail
    go_ret
    exact ⟨true, rfl, ACC.out⟩
  | false =>
  obtain ⟨r3, hr3⟩ : ∃ r, decide ((t.fields.length : Int) > 40) = r := ⟨_, rfl⟩
  cases r3 with
  | true =>
    go_wp2_with fail
    go_ret
    exact ⟨true, rfl, ACC.out⟩
  | false =>
  obtain ⟨r4, hr4⟩ : ∃ r, decide ((t.arms.length : Int) > 40) = r := ⟨_, rfl⟩
  cases r4 with
  | true =>
    go_wp2_with fail
    go_ret
    exact ⟨true, rfl, ACC.out⟩
  | false =>
  obtain ⟨r5, hr5⟩ : ∃ r, decide ((t.params.length : Int) > 40) = r := ⟨_, rfl⟩
  cases r5 with
  | true =>
    go_wp2_with fail
    go_ret
    exact ⟨true, rfl, ACC.out⟩
  | false =>
  go_wp2_with fail
  go_loop [3] (fun sl => ∃ k : Nat, k ≤ t.names.length ∧ sl = .int .i64 k) (fun sl => t.names.length - (intOf sl).toNat)
  case atStart => exact ⟨0, by omega, rfl⟩
  case round =>
    obtain ⟨k, hk, rfl⟩ := hrel
    by_cases hlt : k < t.names.length
    · obtain ⟨x, hx⟩ : ∃ x, t.names[k]? = some x := ⟨_, List.getElem?_eq_getElem hlt⟩
      obtain ⟨b, off, c', e, _, _, _, hcx⟩ := Sl.at_ HL.out.names (j := k) (u := .string x) (by rw [List.getElem?_map, hx]; rfl)
      injection e with e1 _ e3
      subst e1 e3
      have h0 : (0 : Int) ≤ (k : Int) := by omega
      have h1 : (k : Int) < (t.names.length : Int) := by omega
      clear hx
      obtain ⟨q, hq⟩ : ∃ r, decide ((x.size : Int) > 300) = r := ⟨_, rfl⟩
      cases q with
      | true =>
        go_wp2_with fail
        go_ret
        exact ⟨true, rfl, ACC.out⟩
      | false =>
        go_wp2_with fail
        go_round
        case rel => exact ⟨k + 1, by omega, by go_num⟩
        case measure => simp [intOf]; omega
    · obtain rfl : k = t.names.length := by omega
      go_wp2_with fail
      go_loop [4] (fun sl => ∃ k : Nat, k ≤ t.fields.length ∧ sl = .int .i64 k) (fun sl => t.fields.length - (intOf sl).toNat)
      case atStart => exact ⟨0, by omega, rfl⟩
      case round =>
        obtain ⟨k, hk, rfl⟩ := hrel
        by_cases hlt : k < t.fields.length
        · obtain ⟨x, hx⟩ : ∃ x, t.fields[k]? = some x := ⟨_, List.getElem?_eq_getElem hlt⟩
          obtain ⟨b, off, c', e, _, hcx⟩ := fld_at' HL.out.fields hx
          injection e with e1 _ e3
          subst e1 e3
          have x0 := hcx 0 _ rfl
          simp only [Nat.add_zero] at x0
          have h0 : (0 : Int) ≤ (k : Int) := by omega
          have h1 : (k : Int) < (t.fields.length : Int) := by omega
          clear hx hcx
          obtain ⟨q, hq⟩ : ∃ r, decide ((x.name.size : Int) > 300) = r := ⟨_, rfl⟩
          cases q with
          | true =>
            go_wp2_with fail
            go_ret
            exact ⟨true, rfl, ACC.out⟩
          | false =>
            go_wp2_with fail
            go_round
            case rel => exact ⟨k + 1, by omega, by go_num⟩
            case measure => simp [intOf]; omega
        · obtain rfl : k = t.fields.length := by omega
          go_wp2_with fail
          go_loop [5] (fun sl => ∃ k : Nat, k ≤ t.arms.length ∧ sl = .int .i64 k) (fun sl => t.arms.length - (intOf sl).toNat)
          case atStart => exact ⟨0, by omega, rfl⟩
          case round =>
            obtain ⟨k, hk, rfl⟩ := hrel
            by_cases hlt : k < t.arms.length
            · obtain ⟨x, hx⟩ : ∃ x, t.arms[k]? = some x := ⟨_, List.getElem?_eq_getElem hlt⟩
              obtain ⟨xs, hsl, _, harm⟩ := HL.out.arms
              obtain ⟨u0, u1, f0, f1, _, sa, sb⟩ := harm k x hx
              obtain ⟨b, off, c', e, _, _, _, hcx⟩ := Sl.thing hsl (by decide) hlt
              injection e with e1 _ e3
              subst e1 e3
              obtain ⟨Q1, m1, rfl, _, _⟩ := Sl.form sa
              obtain ⟨Q2, m2, rfl, _, _⟩ := Sl.form sb
              have x0 := hcx 0 _ (by decide) f0
              have x1 := hcx 1 _ (by decide) f1
              simp only [Nat.add_zero, ← Nat.add_assoc] at x0 x1
              have h0 : (0 : Int) ≤ (k : Int) := by omega
              have h1 : (k : Int) < (t.arms.length : Int) := by omega
              clear hx hcx harm hsl f0 f1 sa sb
              obtain ⟨q, hq⟩ : ∃ r, decide ((x.frm.length : Int) > 40) = r := ⟨_, rfl⟩
              cases q with
              | true =>
                go_wp2_with fail
                go_ret
                exact ⟨true, rfl, ACC.out⟩
              | false =>
                obtain ⟨q2, hq2⟩ : ∃ r, decide ((x.to.length : Int) > 40) = r := ⟨_, rfl⟩
                cases q2 with
                | true =>
                  go_wp2_with fail
                  go_ret
                  exact ⟨true, rfl, ACC.out⟩
                | false =>
                  go_wp2_with fail
                  go_round
                  case rel => exact ⟨k + 1, by omega, by go_num⟩
                  case measure => simp [intOf]; omega
            · obtain rfl : k = t.arms.length := by omega
              go_wp2_with fail
              go_ret
              exact ⟨false, rfl, ACC.out⟩
set_option maxRecDepth 100000 in
set_option maxHeartbeats 8000000 in
theorem large_any (f : FaceP) (vu vt vi : Value) (P : Nat → Prop) (w : World) (h : FacePL w P vu vt vi f) :
    Calls Try.prog 10 #[.agg #[.string f.module, vu, vt, vi]] w (LargeR f w) := by
  obtain ⟨⟨A1, k1, rfl, hn1, hn2⟩, ⟨A2, k2, rfl, hf1, hf2⟩, ⟨A3, k3, rfl, ha1, ha2⟩⟩ := h.forms
  unfold maxLen at hn2 hf2 ha2
  obtain ⟨w0, hw0⟩ : ∃ w0, w.alloc (.cells #[.string f.module, .slice A1 f.uses.length k1, .slice A2 f.types.length k2, .slice A3 f.items.length k3] 35) = w0 := ⟨_, rfl⟩
  obtain ⟨g, hg⟩ : ∃ g, w.heap.size = g := ⟨_, rfl⟩
  have acc : Wr [] w w0 := by rw [← hw0]; exact (Wr.refl _ _).alloc _
  have bA : Blk w0 g 35 #[.string f.module, .slice A1 f.uses.length k1, .slice A2 f.types.length k2, .slice A3 f.items.length k3] := by rw [← hw0, ← hg]; exact Blk.new _ _ _
  have c0 := bA.cell 0
  have c1 := bA.cell 1
  have c2 := bA.cell 2
  have c3 := bA.cell 3
  simp only [List.getElem?_toArray, List.getElem?_cons_zero, List.getElem?_cons_succ] at c0 c1 c2 c3
  have HL := Lib.hid (h.wr0 acc)
  have ACC := Lib.hid acc
  have BA := Lib.hid bA
  have Hw0 := Lib.hid hw0
  have Hg := Lib.hid hg
  clear h acc bA hw0 hg
  go_enter Try.func10, Try.ntmps10
  go_upto_region 1 with (fail)
  rw [Hw0.out, Hg.out]
  obtain ⟨r0, hr0⟩ : ∃ r, decide ((f.uses.length : Int) > 70) = r := ⟨_, rfl⟩
  cases r0 with
  | true =>
    go_wp2_with fail
    go_ret
    exact ⟨true, rfl, ACC.out, fun h => by cases h⟩
  | false =>
  obtain ⟨r1, hr1⟩ : ∃ r, decide ((f.types.length : Int) > 60) = r := ⟨_, rfl⟩
  cases r1 with
  | true =>
    go_wp2_with fail
    go_ret
    exact ⟨true, rfl, ACC.out, fun h => by cases h⟩
  | false =>
  obtain ⟨r2, hr2⟩ : ∃ r, decide ((f.items.length : Int) > 60) = r := ⟨_, rfl⟩
  cases r2 with
  | true =>
    go_wp2_with fail
    go_ret
    exact ⟨true, rfl, ACC.out, fun h => by cases h⟩
  | false =>
  obtain ⟨r3, hr3⟩ : ∃ r, decide ((f.module.size : Int) > 300) = r := ⟨_, rfl⟩
  cases r3 with
  | true =>
    go_wp2_with fail
    go_ret
    exact ⟨true, rfl, ACC.out, fun h => by cases h⟩
  | false =>
  have b60 : f.types.length ≤ 60 := by
    have := of_decide_eq_false hr1
    omega
  have i60 : f.items.length ≤ 60 := by
    have := of_decide_eq_false hr2
    omega
  go_wp2_with fail
  go_loop [3] (fun sl => ∃ k : Nat, k ≤ f.uses.length ∧ sl = .int .i64 k) (fun sl => f.uses.length - (intOf sl).toNat)
  case atStart => exact ⟨0, by omega, rfl⟩
  case round =>
    obtain ⟨k, hk, rfl⟩ := hrel
    by_cases hlt : k < f.uses.length
    · obtain ⟨x, hx⟩ : ∃ x, f.uses[k]? = some x := ⟨_, List.getElem?_eq_getElem hlt⟩
      obtain ⟨b, off, c', e, _, hcx⟩ := useF_at HL.out.uses hx
      injection e with e1 _ e3
      subst e1 e3
      have x0 := hcx 0 _ rfl
      simp only [Nat.add_zero] at x0
      have h0 : (0 : Int) ≤ (k : Int) := by omega
      have h1 : (k : Int) < (f.uses.length : Int) := by omega
      clear hx hcx
      obtain ⟨q, hq⟩ : ∃ r, decide ((x.module.size : Int) > 300) = r := ⟨_, rfl⟩
      cases q with
      | true =>
        go_wp2_with fail
        go_ret
        exact ⟨true, rfl, ACC.out, fun h => by cases h⟩
      | false =>
        go_wp2_with fail
        go_round
        case rel => exact ⟨k + 1, by omega, by go_num⟩
        case measure => simp [intOf]; omega
    · obtain rfl : k = f.uses.length := by omega
      go_wp2_with fail
      go_loopw [4] (fun sl wr => ∃ k : Nat, k ≤ f.types.length ∧ sl = .int .i64 k ∧ Wr [] w0 wr) (fun sl _ => f.types.length - (intOf sl).toNat)
      case atStart => exact ⟨0, by omega, rfl, Wr.refl _ _⟩
      case round =>
        obtain ⟨k, hk, rfl, rk⟩ := hrel
        clear c0 c1 c2 c3
        have c2 := (BA.out.wr0 rk).cell 2
        have c3 := (BA.out.wr0 rk).cell 3
        simp only [List.getElem?_toArray, List.getElem?_cons_zero, List.getElem?_cons_succ] at c2 c3
        have RK := Lib.hid rk
        clear rk
        by_cases hlt : k < f.types.length
        · obtain ⟨t, ht⟩ : ∃ t, f.types[k]? = some t := ⟨_, List.getElem?_eq_getElem hlt⟩
          obtain ⟨b, off, c', un, uf, ua, up, e, _, hcx, hl⟩ := ty_at (HL.out.types.wr0 RK.out) ht
          injection e with e1 _ e3
          subst e1 e3
          obtain ⟨⟨B1, m1, rfl, _, _⟩, ⟨B2, m2, rfl, _, _⟩, ⟨B3, m3, rfl, _, _⟩, ⟨B4, m4, rfl, _, _⟩⟩ := hl.forms
          have x0 := hcx 0 _ rfl
          have x1 := hcx 1 _ rfl
          have x2 := hcx 2 _ rfl
          have x3 := hcx 3 _ rfl
          have x4 := hcx 4 _ rfl
          have x5 := hcx 5 _ rfl
          have x6 := hcx 6 _ rfl
          have x7 := hcx 7 _ rfl
          have x8 := hcx 8 _ rfl
          have x9 := hcx 9 _ rfl
          have x10 := hcx 10 _ rfl
          have x11 := hcx 11 _ rfl
          simp only [Nat.add_zero] at x0
          have hw := wide_any t _ _ _ _ _ wr hl
          have HW := Lib.hid hw
          have h0 : (0 : Int) ≤ (k : Int) := by omega
          have h1 : (k : Int) < (f.types.length : Int) := by omega
          clear ht hcx hl hw
          go_wp2_with fail
          refine HW.out.mono ?_
          rintro e w2 ⟨r, rfl, r2⟩
          have R2 := Lib.hid (RK.out.trans r2)
          clear x0 x1 x2 x3 x4 x5 x6 x7 x8 x9 x10 x11 r2
          cases r with
          | true =>
            go_wp2_with fail
            go_ret
            exact ⟨true, rfl, ACC.out.trans R2.out, fun h => by cases h⟩
          | false =>
            go_wp2_with fail
            go_roundw
            case rel => exact ⟨k + 1, by omega, by go_num, R2.out⟩
            case measure => simp [intOf]; omega
        · obtain rfl : k = f.types.length := by omega
          have HI := Lib.hid (Sl.wr0 HL.out.items RK.out)
          go_wp2_with fail
          go_loop [5] (fun sl => ∃ k : Nat, k ≤ f.items.length ∧ sl = .int .i64 k) (fun sl => f.items.length - (intOf sl).toNat)
          case atStart => exact ⟨0, by omega, rfl⟩
          case round =>
            obtain ⟨k, hk, rfl⟩ := hrel
            by_cases hlt : k < f.items.length
            · obtain ⟨x, hx⟩ : ∃ x, f.items[k]? = some x := ⟨_, List.getElem?_eq_getElem hlt⟩
              obtain ⟨b, off, c', e, _, hcx⟩ := pitm_at HI.out hx
              injection e with e1 _ e3
              subst e1 e3
              have x0 := hcx 0 _ rfl
              have x7 := hcx 7 _ rfl
              simp only [Nat.add_zero] at x0
              have h0 : (0 : Int) ≤ (k : Int) := by omega
              have h1 : (k : Int) < (f.items.length : Int) := by omega
              clear hx hcx
              obtain ⟨q, hq⟩ : ∃ r, decide ((x.name.size : Int) > 300) = r := ⟨_, rfl⟩
              cases q with
              | true =>
                go_wp2_with fail
                go_ret
                exact ⟨true, rfl, ACC.out.trans RK.out, fun h => by cases h⟩
              | false =>
                obtain ⟨q2, hq2⟩ : ∃ r, decide ((x.v.text.size : Int) > 4096) = r := ⟨_, rfl⟩
                cases q2 with
                | true =>
                  go_wp2_with fail
                  go_ret
                  exact ⟨true, rfl, ACC.out.trans RK.out, fun h => by cases h⟩
                | false =>
                  go_wp2_with fail
                  go_round
                  case rel => exact ⟨k + 1, by omega, by go_num⟩
                  case measure => simp [intOf]; omega
            · obtain rfl : k = f.items.length := by omega
              go_wp2_with fail
              go_ret
              exact ⟨false, rfl, ACC.out.trans RK.out, fun _ => ⟨i60, b60⟩⟩
end Go.Proofs.Ytjanbpchedgoiaa

/- law 14's Value: walked. No conditions. -/
namespace Go.Proofs.Ytjanbpchedgoiaa
open Go.RowKit
set_option linter.unusedVariables false
set_option linter.unusedSimpArgs false

set_option maxRecDepth 100000 in
set_option maxHeartbeats 4000000 in
theorem value_nil (w : World) : Calls Try.prog 53 #[(.nil : AnyD).val] w fun e w' => e = .returned (.agg (valOf (.nil)).cells.toArray) ∧ Wr [] w w' := by
  have t0 := fun w => anyAs_whole (.nil) w
  have t1 := fun w => anyAs_letter (.nil) w
  have t2 := fun w => anyAs_truth (.nil) w
  have t3 := fun w => anyAs_bits (.nil) w
  have t4 := fun w => anyAs_string (.nil) w
  have t5 := fun w => anyAs_item (.nil) w
  have t6 := fun w => anyAs_null (.nil) w
  simp only [AnyD.val, AnyD.wholeV, AnyD.letterV, AnyD.truthV, AnyD.bitsV, AnyD.strV, AnyD.itemT, AnyD.itemN, AnyD.sort] at t0 t1 t2 t3 t4 t5 t6
  simp only [AnyD.val]
  go_enter Try.func53, Try.ntmps53
  go_wp2_with fail
  refine bodyPost_ret (v := .agg (valOf (.nil)).cells.toArray) (by simp [results, Try.results53, go_sem, valOf, PVal.cells]) rfl ⟨rfl, by first | exact (Wr.refl _ _).alloc _ | exact ((Wr.refl _ _).alloc _).alloc _⟩
set_option maxRecDepth 100000 in
set_option maxHeartbeats 4000000 in
theorem value_whole (n : Int) (w : World) : Calls Try.prog 53 #[(.whole n : AnyD).val] w fun e w' => e = .returned (.agg (valOf (.whole n)).cells.toArray) ∧ Wr [] w w' := by
  have t0 := fun w => anyAs_whole (.whole n) w
  have t1 := fun w => anyAs_letter (.whole n) w
  have t2 := fun w => anyAs_truth (.whole n) w
  have t3 := fun w => anyAs_bits (.whole n) w
  have t4 := fun w => anyAs_string (.whole n) w
  have t5 := fun w => anyAs_item (.whole n) w
  have t6 := fun w => anyAs_null (.whole n) w
  simp only [AnyD.val, AnyD.wholeV, AnyD.letterV, AnyD.truthV, AnyD.bitsV, AnyD.strV, AnyD.itemT, AnyD.itemN, AnyD.sort] at t0 t1 t2 t3 t4 t5 t6
  simp only [AnyD.val]
  go_enter Try.func53, Try.ntmps53
  go_wp2_with fail
  refine bodyPost_ret (v := .agg (valOf (.whole n)).cells.toArray) (by simp [results, Try.results53, go_sem, valOf, PVal.cells]) rfl ⟨rfl, by first | exact (Wr.refl _ _).alloc _ | exact ((Wr.refl _ _).alloc _).alloc _⟩
set_option maxRecDepth 100000 in
set_option maxHeartbeats 4000000 in
theorem value_letter (n : Int) (hn : 0 ≤ n ∧ n ≤ 255) (w : World) : Calls Try.prog 53 #[(.letter n : AnyD).val] w fun e w' => e = .returned (.agg (valOf (.letter n)).cells.toArray) ∧ Wr [] w w' := by
  have t0 := fun w => anyAs_whole (.letter n) w
  have t1 := fun w => anyAs_letter (.letter n) w
  have t2 := fun w => anyAs_truth (.letter n) w
  have t3 := fun w => anyAs_bits (.letter n) w
  have t4 := fun w => anyAs_string (.letter n) w
  have t5 := fun w => anyAs_item (.letter n) w
  have t6 := fun w => anyAs_null (.letter n) w
  simp only [AnyD.val, AnyD.wholeV, AnyD.letterV, AnyD.truthV, AnyD.bitsV, AnyD.strV, AnyD.itemT, AnyD.itemN, AnyD.sort] at t0 t1 t2 t3 t4 t5 t6
  have e1 : IntKind.i64.wrap n = n := by rw [IntKind.wrap_i64]; omega
  simp only [AnyD.val]
  go_enter Try.func53, Try.ntmps53
  go_wp2_with fail
  refine bodyPost_ret (v := .agg (valOf (.letter n)).cells.toArray) (by simp [results, Try.results53, go_sem, valOf, PVal.cells]) rfl ⟨rfl, by first | exact (Wr.refl _ _).alloc _ | exact ((Wr.refl _ _).alloc _).alloc _⟩
set_option maxRecDepth 100000 in
set_option maxHeartbeats 4000000 in
theorem value_truthT (w : World) : Calls Try.prog 53 #[(.truth true : AnyD).val] w fun e w' => e = .returned (.agg (valOf (.truth true)).cells.toArray) ∧ Wr [] w w' := by
  have t0 := fun w => anyAs_whole (.truth true) w
  have t1 := fun w => anyAs_letter (.truth true) w
  have t2 := fun w => anyAs_truth (.truth true) w
  have t3 := fun w => anyAs_bits (.truth true) w
  have t4 := fun w => anyAs_string (.truth true) w
  have t5 := fun w => anyAs_item (.truth true) w
  have t6 := fun w => anyAs_null (.truth true) w
  simp only [AnyD.val, AnyD.wholeV, AnyD.letterV, AnyD.truthV, AnyD.bitsV, AnyD.strV, AnyD.itemT, AnyD.itemN, AnyD.sort] at t0 t1 t2 t3 t4 t5 t6
  simp only [AnyD.val]
  go_enter Try.func53, Try.ntmps53
  go_wp2_with fail
  refine bodyPost_ret (v := .agg (valOf (.truth true)).cells.toArray) (by simp [results, Try.results53, go_sem, valOf, PVal.cells]) rfl ⟨rfl, by first | exact (Wr.refl _ _).alloc _ | exact ((Wr.refl _ _).alloc _).alloc _⟩
set_option maxRecDepth 100000 in
set_option maxHeartbeats 4000000 in
theorem value_truthF (w : World) : Calls Try.prog 53 #[(.truth false : AnyD).val] w fun e w' => e = .returned (.agg (valOf (.truth false)).cells.toArray) ∧ Wr [] w w' := by
  have t0 := fun w => anyAs_whole (.truth false) w
  have t1 := fun w => anyAs_letter (.truth false) w
  have t2 := fun w => anyAs_truth (.truth false) w
  have t3 := fun w => anyAs_bits (.truth false) w
  have t4 := fun w => anyAs_string (.truth false) w
  have t5 := fun w => anyAs_item (.truth false) w
  have t6 := fun w => anyAs_null (.truth false) w
  simp only [AnyD.val, AnyD.wholeV, AnyD.letterV, AnyD.truthV, AnyD.bitsV, AnyD.strV, AnyD.itemT, AnyD.itemN, AnyD.sort] at t0 t1 t2 t3 t4 t5 t6
  simp only [AnyD.val]
  go_enter Try.func53, Try.ntmps53
  go_wp2_with fail
  refine bodyPost_ret (v := .agg (valOf (.truth false)).cells.toArray) (by simp [results, Try.results53, go_sem, valOf, PVal.cells]) rfl ⟨rfl, by first | exact (Wr.refl _ _).alloc _ | exact ((Wr.refl _ _).alloc _).alloc _⟩
set_option maxRecDepth 100000 in
set_option maxHeartbeats 4000000 in
theorem value_bits (n : Int) (hn : 0 ≤ n ∧ n ≤ 65535) (w : World) : Calls Try.prog 53 #[(.bits n : AnyD).val] w fun e w' => e = .returned (.agg (valOf (.bits n)).cells.toArray) ∧ Wr [] w w' := by
  have t0 := fun w => anyAs_whole (.bits n) w
  have t1 := fun w => anyAs_letter (.bits n) w
  have t2 := fun w => anyAs_truth (.bits n) w
  have t3 := fun w => anyAs_bits (.bits n) w
  have t4 := fun w => anyAs_string (.bits n) w
  have t5 := fun w => anyAs_item (.bits n) w
  have t6 := fun w => anyAs_null (.bits n) w
  simp only [AnyD.val, AnyD.wholeV, AnyD.letterV, AnyD.truthV, AnyD.bitsV, AnyD.strV, AnyD.itemT, AnyD.itemN, AnyD.sort] at t0 t1 t2 t3 t4 t5 t6
  have e1 : IntKind.i64.wrap n = n := by rw [IntKind.wrap_i64]; omega
  simp only [AnyD.val]
  go_enter Try.func53, Try.ntmps53
  go_wp2_with fail
  refine bodyPost_ret (v := .agg (valOf (.bits n)).cells.toArray) (by simp [results, Try.results53, go_sem, valOf, PVal.cells]) rfl ⟨rfl, by first | exact (Wr.refl _ _).alloc _ | exact ((Wr.refl _ _).alloc _).alloc _⟩
set_option maxRecDepth 100000 in
set_option maxHeartbeats 4000000 in
theorem value_str (s : ByteArray) (w : World) : Calls Try.prog 53 #[(.str s : AnyD).val] w fun e w' => e = .returned (.agg (valOf (.str s)).cells.toArray) ∧ Wr [] w w' := by
  have t0 := fun w => anyAs_whole (.str s) w
  have t1 := fun w => anyAs_letter (.str s) w
  have t2 := fun w => anyAs_truth (.str s) w
  have t3 := fun w => anyAs_bits (.str s) w
  have t4 := fun w => anyAs_string (.str s) w
  have t5 := fun w => anyAs_item (.str s) w
  have t6 := fun w => anyAs_null (.str s) w
  simp only [AnyD.val, AnyD.wholeV, AnyD.letterV, AnyD.truthV, AnyD.bitsV, AnyD.strV, AnyD.itemT, AnyD.itemN, AnyD.sort] at t0 t1 t2 t3 t4 t5 t6
  simp only [AnyD.val]
  go_enter Try.func53, Try.ntmps53
  go_wp2_with fail
  refine bodyPost_ret (v := .agg (valOf (.str s)).cells.toArray) (by simp [results, Try.results53, go_sem, valOf, PVal.cells]) rfl ⟨rfl, by first | exact (Wr.refl _ _).alloc _ | exact ((Wr.refl _ _).alloc _).alloc _⟩
set_option maxRecDepth 100000 in
set_option maxHeartbeats 4000000 in
theorem value_item (t n : Int) (w : World) : Calls Try.prog 53 #[(.item t n : AnyD).val] w fun e w' => e = .returned (.agg (valOf (.item t n)).cells.toArray) ∧ Wr [] w w' := by
  have t0 := fun w => anyAs_whole (.item t n) w
  have t1 := fun w => anyAs_letter (.item t n) w
  have t2 := fun w => anyAs_truth (.item t n) w
  have t3 := fun w => anyAs_bits (.item t n) w
  have t4 := fun w => anyAs_string (.item t n) w
  have t5 := fun w => anyAs_item (.item t n) w
  have t6 := fun w => anyAs_null (.item t n) w
  simp only [AnyD.val, AnyD.wholeV, AnyD.letterV, AnyD.truthV, AnyD.bitsV, AnyD.strV, AnyD.itemT, AnyD.itemN, AnyD.sort] at t0 t1 t2 t3 t4 t5 t6
  simp only [AnyD.val]
  go_enter Try.func53, Try.ntmps53
  go_wp2_with fail
  refine bodyPost_ret (v := .agg (valOf (.item t n)).cells.toArray) (by simp [results, Try.results53, go_sem, valOf, PVal.cells]) rfl ⟨rfl, by first | exact (Wr.refl _ _).alloc _ | exact ((Wr.refl _ _).alloc _).alloc _⟩
set_option maxRecDepth 100000 in
set_option maxHeartbeats 4000000 in
theorem value_null (w : World) : Calls Try.prog 53 #[(.null : AnyD).val] w fun e w' => e = .returned (.agg (valOf (.null)).cells.toArray) ∧ Wr [] w w' := by
  have t0 := fun w => anyAs_whole (.null) w
  have t1 := fun w => anyAs_letter (.null) w
  have t2 := fun w => anyAs_truth (.null) w
  have t3 := fun w => anyAs_bits (.null) w
  have t4 := fun w => anyAs_string (.null) w
  have t5 := fun w => anyAs_item (.null) w
  have t6 := fun w => anyAs_null (.null) w
  simp only [AnyD.val, AnyD.wholeV, AnyD.letterV, AnyD.truthV, AnyD.bitsV, AnyD.strV, AnyD.itemT, AnyD.itemN, AnyD.sort] at t0 t1 t2 t3 t4 t5 t6
  simp only [AnyD.val]
  go_enter Try.func53, Try.ntmps53
  go_wp2_with fail
  refine bodyPost_ret (v := .agg (valOf (.null)).cells.toArray) (by simp [results, Try.results53, go_sem, valOf, PVal.cells]) rfl ⟨rfl, by first | exact (Wr.refl _ _).alloc _ | exact ((Wr.refl _ _).alloc _).alloc _⟩
set_option maxRecDepth 100000 in
set_option maxHeartbeats 4000000 in
theorem value_other (w : World) : Calls Try.prog 53 #[(.other : AnyD).val] w fun e w' => e = .returned (.agg (valOf (.other)).cells.toArray) ∧ Wr [] w w' := by
  have t0 := fun w => anyAs_whole (.other) w
  have t1 := fun w => anyAs_letter (.other) w
  have t2 := fun w => anyAs_truth (.other) w
  have t3 := fun w => anyAs_bits (.other) w
  have t4 := fun w => anyAs_string (.other) w
  have t5 := fun w => anyAs_item (.other) w
  have t6 := fun w => anyAs_null (.other) w
  simp only [AnyD.val, AnyD.wholeV, AnyD.letterV, AnyD.truthV, AnyD.bitsV, AnyD.strV, AnyD.itemT, AnyD.itemN, AnyD.sort] at t0 t1 t2 t3 t4 t5 t6
  simp only [AnyD.val]
  go_enter Try.func53, Try.ntmps53
  go_wp2_with fail
  refine bodyPost_ret (v := .agg (valOf (.other)).cells.toArray) (by simp [results, Try.results53, go_sem, valOf, PVal.cells]) rfl ⟨rfl, by first | exact (Wr.refl _ _).alloc _ | exact ((Wr.refl _ _).alloc _).alloc _⟩
theorem value_any (v : AnyD) (hw : anyW v) (w : World) : Calls Try.prog 53 #[v.val] w fun e w' => e = .returned (.agg (valOf v).cells.toArray) ∧ Wr [] w w' := by
  cases v with
  | nil => exact value_nil w
  | whole n => exact value_whole n w
  | letter n => exact value_letter n hw w
  | truth b => cases b; exact value_truthF w; exact value_truthT w
  | bits n => exact value_bits n hw w
  | str s => exact value_str s w
  | item t n => exact value_item t n w
  | null => exact value_null w
  | other => exact value_other w
end Go.Proofs.Ytjanbpchedgoiaa
