/- law 14's wide and Large: walked. No conditions. -/
import Derived.Test.YtmpbkfbjmmoapaaGreatIT01
import Derived.Test.YtmpbkfbjmmoapaaGreatIT20
import Derived.Test.YtmpbkfbjmmoapaaGreatIT21
namespace Go.Proofs.YtmpbkfbjmmoapaaGreat
open Go.RowKit
set_option linter.unusedVariables false
set_option linter.unusedSimpArgs false
def few40 (t : Ty) : Prop := t.fields.length ≤ 40 ∧ t.params.length ≤ 40
def WideR2 (t : Ty) (w : World) (e : Ending) (w' : World) : Prop := ∃ r : Bool, e = .returned (.bool r) ∧ Wr [] w w' ∧ (r = false → few40 t)
def LargeR2 (f : FaceP) (w : World) (e : Ending) (w' : World) : Prop := ∃ r : Bool, e = .returned (.bool r) ∧ Wr [] w w' ∧ (r = false → f.items.length ≤ 60 ∧ f.types.length ≤ 60 ∧ ∀ t ∈ f.types, few40 t)
set_option maxRecDepth 100000 in
set_option maxHeartbeats 8000000 in
theorem wide2_any (t : Ty) (vn vf va vp : Value) (P : Nat → Prop) (w : World) (h : Lists w P vn vf va vp t) :
  Calls Tryz.prog 10 #[.agg #[.int .u8 t.kind, .string t.module, .string t.name, .int .i64 t.base, .int .i64 t.index, .int .i64 t.low, .int .i64 t.high, vn, vf, va, vp, .int .i64 t.result]] w (WideR2 t w) := by
 obtain ⟨⟨N1, n1, rfl, ln1, mn1⟩, ⟨N2, n2, rfl, ln2, mn2⟩, ⟨N3, n3, rfl, ln3, mn3⟩, ⟨N4, n4, rfl, ln4, mn4⟩⟩ := h.forms
 unfold maxLen at mn1 mn2 mn3 mn4
 obtain ⟨w0, hw0⟩ : ∃ q, w.alloc (.cells #[.int .u8 t.kind, .string t.module, .string t.name, .int .i64 t.base, .int .i64 t.index, .int .i64 t.low, .int .i64 t.high, .slice N1 t.names.length n1, .slice N2 t.fields.length n2, .slice N3 t.arms.length n3, .slice N4 t.params.length n4, .int .i64 t.result] 50) = q := ⟨_, rfl⟩
 obtain ⟨g, hg⟩ : ∃ q, w.heap.size = q := ⟨_, rfl⟩
 have acc : Wr [] w w0 := by rw [← hw0]; exact (Wr.refl _ _).alloc _
 have bA : Blk w0 g 50 #[.int .u8 t.kind, .string t.module, .string t.name, .int .i64 t.base, .int .i64 t.index, .int .i64 t.low, .int .i64 t.high, .slice N1 t.names.length n1, .slice N2 t.fields.length n2, .slice N3 t.arms.length n3, .slice N4 t.params.length n4, .int .i64 t.result] := by rw [← hw0, ← hg]; exact Blk.new _ _ _
 have c1 := bA.cell 1
 have c2 := bA.cell 2
 have c7 := bA.cell 7
 have c8 := bA.cell 8
 have c9 := bA.cell 9
 have c10 := bA.cell 10
 simp only [qgaq, qgzq, qgsq] at c1 c2 c7 c8 c9 c10
 have HL := Lib.hid (h.wr0 acc)
 have ACC := Lib.hid acc
 have Hw0 := Lib.hid hw0
 have Hg := Lib.hid hg
 clear h acc bA hw0 hg
 go_enter Tryz.func10, Tryz.ntmps10
 go_upto_region 1 with (fail)
 rw [Hw0.out, Hg.out]
 obtain ⟨r0, hr0⟩ : ∃ r, decide ((t.module.size : Int) > 300) = r := ⟨_, rfl⟩
 cases r0 with
 | true =>
  go_wp2_with fail
  go_ret
  exact ⟨true, rfl, ACC.out, fun h => by cases h⟩
 | false =>
 obtain ⟨r1, hr1⟩ : ∃ r, decide ((t.name.size : Int) > 300) = r := ⟨_, rfl⟩
 cases r1 with
 | true =>
  go_wp2_with fail
  go_ret
  exact ⟨true, rfl, ACC.out, fun h => by cases h⟩
 | false =>
 obtain ⟨r2, hr2⟩ : ∃ r, decide ((t.names.length : Int) > 40) = r := ⟨_, rfl⟩
 cases r2 with
 | true =>
  go_wp2_with fail
  go_ret
  exact ⟨true, rfl, ACC.out, fun h => by cases h⟩
 | false =>
 obtain ⟨r3, hr3⟩ : ∃ r, decide ((t.fields.length : Int) > 40) = r := ⟨_, rfl⟩
 cases r3 with
 | true =>
  go_wp2_with fail
  go_ret
  exact ⟨true, rfl, ACC.out, fun h => by cases h⟩
 | false =>
 obtain ⟨r4, hr4⟩ : ∃ r, decide ((t.arms.length : Int) > 40) = r := ⟨_, rfl⟩
 cases r4 with
 | true =>
  go_wp2_with fail
  go_ret
  exact ⟨true, rfl, ACC.out, fun h => by cases h⟩
 | false =>
 obtain ⟨r5, hr5⟩ : ∃ r, decide ((t.params.length : Int) > 40) = r := ⟨_, rfl⟩
 cases r5 with
 | true =>
  go_wp2_with fail
  go_ret
  exact ⟨true, rfl, ACC.out, fun h => by cases h⟩
 | false =>
 have H40 : few40 t := ⟨by have := of_decide_eq_false hr3; omega, by have := of_decide_eq_false hr5; omega⟩
 go_wp2_with fail
 go_loop [3] (fun sl => ∃ k : Nat, k ≤ t.names.length ∧ sl = .int .i64 k) (fun sl => t.names.length - (intOf sl).toNat)
 case atStart => exact ⟨0, by omega, rfl⟩
 case round =>
  obtain ⟨k, hk, rfl⟩ := hrel
  by_cases hlt : k < t.names.length
  ·obtain ⟨x, hx⟩ : ∃ x, t.names[k]? = some x := ⟨_, List.getElem?_eq_getElem hlt⟩
   obtain ⟨b, off, c', e, _, _, _, hcx⟩ := Sl.at_ HL.out.names (j := k) (u := .string x) (by rw [List.getElem?_map, hx]; rfl)
   injection e with e1 _ e3
   subst e1 e3
   have h0 : (0 : Int) ≤ (k : Int) := by omega
   have h1 : (k : Int) < (t.names.length : Int) := by omega
   clear hx
   obtain ⟨q, hq⟩ : ∃ r, decide ((x.size : Int) > 300) = r := ⟨_, rfl⟩
   cases q with
   | true =>
    go_wp2_with fail
    go_ret
    exact ⟨true, rfl, ACC.out, fun h => by cases h⟩
   | false =>
    go_wp2_with fail
    go_round
    case rel => exact ⟨k + 1, by omega, by go_num⟩
    case measure => simp [intOf]; omega
  ·obtain rfl : k = t.names.length := by omega
   go_wp2_with fail
   go_loop [4] (fun sl => ∃ k : Nat, k ≤ t.fields.length ∧ sl = .int .i64 k) (fun sl => t.fields.length - (intOf sl).toNat)
   case atStart => exact ⟨0, by omega, rfl⟩
   case round =>
    obtain ⟨k, hk, rfl⟩ := hrel
    by_cases hlt : k < t.fields.length
    ·obtain ⟨x, hx⟩ : ∃ x, t.fields[k]? = some x := ⟨_, List.getElem?_eq_getElem hlt⟩
     obtain ⟨b, off, c', e, _, hcx⟩ := fld_at' HL.out.fields hx
     injection e with e1 _ e3
     subst e1 e3
     have x0 := hcx 0 _ rfl
     simp only [Nat.add_zero] at x0
     have h0 : (0 : Int) ≤ (k : Int) := by omega
     have h1 : (k : Int) < (t.fields.length : Int) := by omega
     clear hx hcx
     obtain ⟨q, hq⟩ : ∃ r, decide ((x.name.size : Int) > 300) = r := ⟨_, rfl⟩
     cases q with
     | true =>
      go_wp2_with fail
      go_ret
      exact ⟨true, rfl, ACC.out, fun h => by cases h⟩
     | false =>
      go_wp2_with fail
      go_round
      case rel => exact ⟨k + 1, by omega, by go_num⟩
      case measure => simp [intOf]; omega
    ·obtain rfl : k = t.fields.length := by omega
     go_wp2_with fail
     go_loop [5] (fun sl => ∃ k : Nat, k ≤ t.arms.length ∧ sl = .int .i64 k) (fun sl => t.arms.length - (intOf sl).toNat)
     case atStart => exact ⟨0, by omega, rfl⟩
     case round =>
      obtain ⟨k, hk, rfl⟩ := hrel
      by_cases hlt : k < t.arms.length
      ·obtain ⟨x, hx⟩ : ∃ x, t.arms[k]? = some x := ⟨_, List.getElem?_eq_getElem hlt⟩
       obtain ⟨xs, hsl, _, harm⟩ := HL.out.arms
       obtain ⟨u0, u1, f0, f1, _, sa, sb⟩ := harm k x hx
       obtain ⟨b, off, c', e, _, _, _, hcx⟩ := Sl.thing hsl (by decide) hlt
       injection e with e1 _ e3
       subst e1 e3
       obtain ⟨Q1, m1, rfl, _, _⟩ := Sl.form sa
       obtain ⟨Q2, m2, rfl, _, _⟩ := Sl.form sb
       have x0 := hcx 0 _ (by decide) f0
       have x1 := hcx 1 _ (by decide) f1
       simp only [Nat.add_zero, ← Nat.add_assoc] at x0 x1
       have h0 : (0 : Int) ≤ (k : Int) := by omega
       have h1 : (k : Int) < (t.arms.length : Int) := by omega
       clear hx hcx harm hsl f0 f1 sa sb
       obtain ⟨q, hq⟩ : ∃ r, decide ((x.frm.length : Int) > 40) = r := ⟨_, rfl⟩
       cases q with
       | true =>
        go_wp2_with fail
        go_ret
        exact ⟨true, rfl, ACC.out, fun h => by cases h⟩
       | false =>
        obtain ⟨q2, hq2⟩ : ∃ r, decide ((x.to.length : Int) > 40) = r := ⟨_, rfl⟩
        cases q2 with
        | true =>
         go_wp2_with fail
         go_ret
         exact ⟨true, rfl, ACC.out, fun h => by cases h⟩
        | false =>
         go_wp2_with fail
         go_round
         case rel => exact ⟨k + 1, by omega, by go_num⟩
         case measure => simp [intOf]; omega
      ·obtain rfl : k = t.arms.length := by omega
       go_wp2_with fail
       go_ret
       exact ⟨false, rfl, ACC.out, fun _ => H40⟩
set_option maxRecDepth 100000 in
set_option maxHeartbeats 8000000 in
theorem large2_any (f : FaceP) (vu vt vi : Value) (P : Nat → Prop) (w : World) (h : FacePL w P vu vt vi f) :
  Calls Tryz.prog 4 #[.agg #[.string f.module, vu, vt, vi]] w (LargeR2 f w) := by
 obtain ⟨⟨A1, k1, rfl, hn1, hn2⟩, ⟨A2, k2, rfl, hf1, hf2⟩, ⟨A3, k3, rfl, ha1, ha2⟩⟩ := h.forms
 unfold maxLen at hn2 hf2 ha2
 obtain ⟨w0, hw0⟩ : ∃ w0, w.alloc (.cells #[.string f.module, .slice A1 f.uses.length k1, .slice A2 f.types.length k2, .slice A3 f.items.length k3] 26) = w0 := ⟨_, rfl⟩
 obtain ⟨g, hg⟩ : ∃ g, w.heap.size = g := ⟨_, rfl⟩
 have acc : Wr [] w w0 := by rw [← hw0]; exact (Wr.refl _ _).alloc _
 have bA : Blk w0 g 26 #[.string f.module, .slice A1 f.uses.length k1, .slice A2 f.types.length k2, .slice A3 f.items.length k3] := by rw [← hw0, ← hg]; exact Blk.new _ _ _
 have c0 := bA.cell 0
 have c1 := bA.cell 1
 have c2 := bA.cell 2
 have c3 := bA.cell 3
 simp only [qgaq, qgzq, qgsq] at c0 c1 c2 c3
 have HL := Lib.hid (h.wr0 acc)
 have ACC := Lib.hid acc
 have BA := Lib.hid bA
 have Hw0 := Lib.hid hw0
 have Hg := Lib.hid hg
 clear h acc bA hw0 hg
 go_enter Tryz.func4, Tryz.ntmps4
 go_upto_region 1 with (fail)
 rw [Hw0.out, Hg.out]
 obtain ⟨r0, hr0⟩ : ∃ r, decide ((f.uses.length : Int) > 70) = r := ⟨_, rfl⟩
 cases r0 with
 | true =>
  go_wp2_with fail
  go_ret
  exact ⟨true, rfl, ACC.out, fun h => by cases h⟩
 | false =>
 obtain ⟨r1, hr1⟩ : ∃ r, decide ((f.types.length : Int) > 60) = r := ⟨_, rfl⟩
 cases r1 with
 | true =>
  go_wp2_with fail
  go_ret
  exact ⟨true, rfl, ACC.out, fun h => by cases h⟩
 | false =>
 obtain ⟨r2, hr2⟩ : ∃ r, decide ((f.items.length : Int) > 60) = r := ⟨_, rfl⟩
 cases r2 with
 | true =>
  go_wp2_with fail
  go_ret
  exact ⟨true, rfl, ACC.out, fun h => by cases h⟩
 | false =>
 obtain ⟨r3, hr3⟩ : ∃ r, decide ((f.module.size : Int) > 300) = r := ⟨_, rfl⟩
 cases r3 with
 | true =>
  go_wp2_with fail
  go_ret
  exact ⟨true, rfl, ACC.out, fun h => by cases h⟩
 | false =>
 have b60 : f.types.length ≤ 60 := by
  have := of_decide_eq_false hr1
  omega
 have i60 : f.items.length ≤ 60 := by
  have := of_decide_eq_false hr2
  omega
 go_wp2_with fail
 go_loop [3] (fun sl => ∃ k : Nat, k ≤ f.uses.length ∧ sl = .int .i64 k) (fun sl => f.uses.length - (intOf sl).toNat)
 case atStart => exact ⟨0, by omega, rfl⟩
 case round =>
  obtain ⟨k, hk, rfl⟩ := hrel
  by_cases hlt : k < f.uses.length
  ·obtain ⟨x, hx⟩ : ∃ x, f.uses[k]? = some x := ⟨_, List.getElem?_eq_getElem hlt⟩
   obtain ⟨b, off, c', e, _, hcx⟩ := useF_at HL.out.uses hx
   injection e with e1 _ e3
   subst e1 e3
   have x0 := hcx 0 _ rfl
   simp only [Nat.add_zero] at x0
   have h0 : (0 : Int) ≤ (k : Int) := by omega
   have h1 : (k : Int) < (f.uses.length : Int) := by omega
   clear hx hcx
   obtain ⟨q, hq⟩ : ∃ r, decide ((x.module.size : Int) > 300) = r := ⟨_, rfl⟩
   cases q with
   | true =>
    go_wp2_with fail
    go_ret
    exact ⟨true, rfl, ACC.out, fun h => by cases h⟩
   | false =>
    go_wp2_with fail
    go_round
    case rel => exact ⟨k + 1, by omega, by go_num⟩
    case measure => simp [intOf]; omega
  ·obtain rfl : k = f.uses.length := by omega
   go_wp2_with fail
   go_loopw [4] (fun sl wr => ∃ k : Nat, k ≤ f.types.length ∧ sl = .int .i64 k ∧ Wr [] w0 wr ∧ ∀ i t, i < k → f.types[i]? = some t → few40 t) (fun sl _ => f.types.length - (intOf sl).toNat)
   case atStart => exact ⟨0, by omega, rfl, Wr.refl _ _, fun i t h => absurd h (by omega)⟩
   case round =>
    obtain ⟨k, hk, rfl, rk, hf40⟩ := hrel
    have HF40 := Lib.hid hf40
    clear hf40
    clear c0 c1 c2 c3
    have c2 := (BA.out.wr0 rk).cell 2
    have c3 := (BA.out.wr0 rk).cell 3
    simp only [qgaq, qgzq, qgsq] at c2 c3
    have RK := Lib.hid rk
    clear rk
    by_cases hlt : k < f.types.length
    ·obtain ⟨t, ht⟩ : ∃ t, f.types[k]? = some t := ⟨_, List.getElem?_eq_getElem hlt⟩
     obtain ⟨b, off, c', un, uf, ua, up, e, _, hcx, hl⟩ := ty_at (HL.out.types.wr0 RK.out) ht
     injection e with e1 _ e3
     subst e1 e3
     obtain ⟨⟨B1, m1, rfl, _, _⟩, ⟨B2, m2, rfl, _, _⟩, ⟨B3, m3, rfl, _, _⟩, ⟨B4, m4, rfl, _, _⟩⟩ := hl.forms
     have x0 := hcx 0 _ rfl
     have x1 := hcx 1 _ rfl
     have x2 := hcx 2 _ rfl
     have x3 := hcx 3 _ rfl
     have x4 := hcx 4 _ rfl
     have x5 := hcx 5 _ rfl
     have x6 := hcx 6 _ rfl
     have x7 := hcx 7 _ rfl
     have x8 := hcx 8 _ rfl
     have x9 := hcx 9 _ rfl
     have x10 := hcx 10 _ rfl
     have x11 := hcx 11 _ rfl
     simp only [Nat.add_zero] at x0
     have hw := wide2_any t _ _ _ _ _ wr hl
     have HW := Lib.hid hw
     have h0 : (0 : Int) ≤ (k : Int) := by omega
     have h1 : (k : Int) < (f.types.length : Int) := by omega
     have HT := Lib.hid ht
     clear ht hcx hl hw
     go_wp2_with fail
     refine HW.out.mono ?_
     rintro e w2 ⟨r, rfl, r2, h40⟩
     have R2 := Lib.hid (RK.out.trans r2)
     clear x0 x1 x2 x3 x4 x5 x6 x7 x8 x9 x10 x11 r2
     cases r with
     | true =>
      go_wp2_with fail
      go_ret
      exact ⟨true, rfl, ACC.out.trans R2.out, fun h => by cases h⟩
     | false =>
      go_wp2_with fail
      go_roundw
      case rel => exact ⟨k + 1, by omega, by go_num, R2.out, fun i t' hi ht' => by
        by_cases hik : i = k
        ·subst hik
         have := HT.out
         rw [ht'] at this
         injection this with this
         subst this
         exact h40 (by simp)
        ·exact HF40.out i t' (by omega) ht'⟩
      case measure => simp [intOf]; omega
    ·obtain rfl : k = f.types.length := by omega
     have HI := Lib.hid (Sl.wr0 HL.out.items RK.out)
     go_wp2_with fail
     go_loop [5] (fun sl => ∃ k : Nat, k ≤ f.items.length ∧ sl = .int .i64 k) (fun sl => f.items.length - (intOf sl).toNat)
     case atStart => exact ⟨0, by omega, rfl⟩
     case round =>
      obtain ⟨k, hk, rfl⟩ := hrel
      by_cases hlt : k < f.items.length
      ·obtain ⟨x, hx⟩ : ∃ x, f.items[k]? = some x := ⟨_, List.getElem?_eq_getElem hlt⟩
       obtain ⟨b, off, c', e, _, hcx⟩ := pitm_at HI.out hx
       injection e with e1 _ e3
       subst e1 e3
       have x0 := hcx 0 _ rfl
       have x7 := hcx 7 _ rfl
       simp only [Nat.add_zero] at x0
       have h0 : (0 : Int) ≤ (k : Int) := by omega
       have h1 : (k : Int) < (f.items.length : Int) := by omega
       clear hx hcx
       obtain ⟨q, hq⟩ : ∃ r, decide ((x.name.size : Int) > 300) = r := ⟨_, rfl⟩
       cases q with
       | true =>
        go_wp2_with fail
        go_ret
        exact ⟨true, rfl, ACC.out.trans RK.out, fun h => by cases h⟩
       | false =>
        obtain ⟨q2, hq2⟩ : ∃ r, decide ((x.v.text.size : Int) > 4096) = r := ⟨_, rfl⟩
        cases q2 with
        | true =>
         go_wp2_with fail
         go_ret
         exact ⟨true, rfl, ACC.out.trans RK.out, fun h => by cases h⟩
        | false =>
         go_wp2_with fail
         go_round
         case rel => exact ⟨k + 1, by omega, by go_num⟩
         case measure => simp [intOf]; omega
      ·obtain rfl : k = f.items.length := by omega
       go_wp2_with fail
       go_ret
       exact ⟨false, rfl, ACC.out.trans RK.out, fun _ => ⟨i60, b60, fun t ht => by
        obtain ⟨i, hi⟩ := List.getElem?_of_mem ht
        exact HF40.out i t (List.getElem?_eq_some_iff.1 hi).1 hi⟩⟩
end Go.Proofs.YtmpbkfbjmmoapaaGreat
