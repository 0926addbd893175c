/- iface's formed: walked. Conditions: as many types as fit. -/
import Derived.Test.YtjanbpchedgoiaaGreatKT07
set_option linter.unusedVariables false
set_option linter.unusedSimpArgs false
set_option maxRecDepth 100000
set_option maxHeartbeats 32000000
namespace Go.Proofs.YtjanbpchedgoiaaGreat
open Go.RowKit
theorem small_list {l : List Int} : (!anyB l.length fun i => smallN ((l[i]?).getD 0)) = l.all smB := by
 unfold anyB
 rw [Bool.eq_iff_iff]
 simp only [Bool.not_eq_true', List.any_eq_false, List.all_eq_true, List.mem_range]
 constructor
 ·intro h1 s hs
  obtain ⟨i, hi⟩ := List.getElem?_of_mem hs
  have := h1 i (List.getElem?_eq_some_iff.1 hi).1
  rw [hi] at this
  rw [← sm_not]
  simpa using this
 ·intro h1 i hi
  have := h1 _ (List.getElem_mem hi)
  rw [← sm_not] at this
  rw [qgeq hi]
  simpa using this
theorem small_ints (w : World) (P : Nat → Prop) (A : Option Addr) (c : Nat) (l : List Int) (hc : l.length ≤ c ∧ c ≤ maxLen) (h : SlInts w P (.slice A l.length c) l) : Calls Tryz.prog 77 #[.slice A l.length c] w fun e w' => e = .returned (.bool (l.all smB)) ∧ Wr [] w w' := by
 have h1 := small_any w A l.length c (fun i => (l[i]?).getD 0) hc h.cellsAt
 rw [small_list] at h1
 exact h1
def SeenT {α : Type} (w : World) (g z : Nat) (cs ts : Array Value) (l : List α) (p : α → Bool) (k : Nat) (wr : World) : Prop := Wr [] w wr ∧ Blk wr g 35 cs ∧ Blk wr z 52 ts ∧ ∀ (j : Nat) (x : α), j < k → l[j]? = some x → p x = true
theorem anyForm_eq (nt : Nat) (v : AnyD) : anyForm nt v = ((!(v.sort == 8)) && ((!(v.sort == 1) || smB v.wholeV) && (!(v.sort == 6) || (tyB nt v.itemT && smB v.itemN)))) := by cases v <;> simp [anyForm, AnyD.sort, AnyD.wholeV, AnyD.itemT, AnyD.itemN]
theorem formed_any (f : FaceD) (vu vt vi : Value) (P : Nat → Prop) (w : World) (h : FaceL w P vu vt vi f) (hnt : f.types.length ≤ 1024) :
  Calls Tryz.prog 44 #[.agg #[.string f.module, vu, vt, vi]] w fun e w' => e = .returned (.bool (faceForm f)) ∧ Wr [] w w' := by
 have hmf : ∀ (fn : Fn) (first cap : Array Value) (w : World), (Instr.makeFunc fn first cap).run Tryz.prog w = .ok (.func fn first cap) w := fun _ _ _ _ => rfl
 obtain ⟨⟨A1, k1, rfl, hn1, hn2⟩, ⟨A2, k2, rfl, hf1, hf2⟩, ⟨A3, k3, rfl, ha1, ha2⟩⟩ := h.forms
 have hv : faceForm f = (f.types.all (tyForm f.types.length) && f.items.all (itmForm f.types.length)) := rfl
 have htt : f.types.length ≤ k2 ∧ k2 ≤ maxLen := ⟨hf1, hf2⟩
 obtain ⟨w0, hw0⟩ : ∃ q, w.alloc (.cells #[.string f.module, .slice A1 f.uses.length k1, .slice A2 f.types.length k2, .slice A3 f.items.length k3] 35) = q := ⟨_, rfl⟩
 obtain ⟨g, hg⟩ : ∃ g, w.heap.size = g := ⟨_, rfl⟩
 have acc : Wr [] w w0 := by rw [← hw0]; exact (Wr.refl [] _).alloc _
 have bA : Blk w0 g 35 #[.string f.module, .slice A1 f.uses.length k1, .slice A2 f.types.length k2, .slice A3 f.items.length k3] := by rw [← hw0, ← hg]; exact Blk.new _ _ _
 obtain ⟨rr, hrr⟩ : ∃ r, faceForm f = r := ⟨_, rfl⟩
 rw [hrr] at hv
 rw [hrr]
 unfold maxLen at hn2 hf2 ha2
 have HV := qh hv
 have HW0 := qh hw0
 have HG := qh hg
 have ACC := qh acc
 have BA := qh bA
 have HH := qh h
 have HTT := qh htt
 have HNT := qh hnt
 clear hv hrr hw0 hg acc bA h htt hnt
 go_enter Tryz.func44, Tryz.ntmps44
 go_upto_region 1 with (fail)
 rw [HW0.out, HG.out]
 -- L1
 have c2 := (BA.out).cell 2
 simp only [qgaq, qgzq, qgsq] at c2
 go_wp2_with fail
 go_loopw [24] (fun s24 wr => ∃ k : Nat, k ≤ f.types.length ∧ s24 = .int .i64 k ∧ SeenF w g #[.string f.module, .slice A1 f.uses.length k1, .slice A2 f.types.length k2, .slice A3 f.items.length k3] f.types (tyForm f.types.length) k wr) (fun s24 _ => f.types.length - (intOf s24).toNat)
 case atStart => exact ⟨0, by omega, rfl, ACC.out, BA.out, fun j x hj => absurd hj (by omega)⟩
 case round =>
  obtain ⟨k, hk, rfl, acck, bk, hno⟩ := hrel
  have ACCT := qh acck
  have BT := qh bk
  have HNOT := qh hno
  clear acck bk hno c2
  by_cases hlt : k < f.types.length
  ·obtain ⟨x, hx⟩ : ∃ x, f.types[k]? = some x := ⟨_, qgeq hlt⟩
   obtain ⟨b, off, c', un, uf, ua, up, e, _, hc, hl⟩ := ty_at (HH.out.types.wr0 ACCT.out) hx
   injection e with e1 e2 e3
   subst e1 e3
   obtain ⟨⟨B1, m1, rfl, _, _⟩, ⟨B2, m2, rfl, hB1, hB2⟩, ⟨B3, m3, rfl, hC1, hC2⟩, ⟨B4, m4, rfl, hD1, hD2⟩⟩ := hl.forms
   unfold maxLen at hB2 hC2 hD2
   have x0 := hc 0 _ rfl
   have x1 := hc 1 _ rfl
   have x2 := hc 2 _ rfl
   have x3 := hc 3 _ rfl
   have x4 := hc 4 _ rfl
   have x5 := hc 5 _ rfl
   have x6 := hc 6 _ rfl
   have x7 := hc 7 _ rfl
   have x8 := hc 8 _ rfl
   have x9 := hc 9 _ rfl
   have x10 := hc 10 _ rfl
   have x11 := hc 11 _ rfl
   simp only [Nat.add_zero] at x0
   obtain ⟨w1, hw1⟩ : ∃ q, wr.alloc (.cells #[.int .u8 x.kind, .string x.module, .string x.name, .int .i64 x.base, .int .i64 x.index, .int .i64 x.low, .int .i64 x.high, .slice B1 x.names.length m1, .slice B2 x.fields.length m2, .slice B3 x.arms.length m3, .slice B4 x.params.length m4, .int .i64 x.result] 52) = q := ⟨_, rfl⟩
   obtain ⟨z, hz⟩ : ∃ z, wr.heap.size = z := ⟨_, rfl⟩
   have q1 : Wr [] wr w1 := by rw [← hw1]; exact (Wr.refl [] _).alloc _
   have b1 : Blk w1 z 52 #[.int .u8 x.kind, .string x.module, .string x.name, .int .i64 x.base, .int .i64 x.index, .int .i64 x.low, .int .i64 x.high, .slice B1 x.names.length m1, .slice B2 x.fields.length m2, .slice B3 x.arms.length m3, .slice B4 x.params.length m4, .int .i64 x.result] := by rw [← hw1, ← hz]; exact Blk.new _ _ _
   have hct := (BT.out.wr0 q1).cell 2
   simp only [qgaq, qgzq, qgsq] at hct
   have ht3 := typ_3 x.base x.index x.result g _ f.types.length _ HTT.out (by have := HNT.out; omega) w1 hct
   obtain ⟨r1, hr1⟩ : ∃ r, (tyB f.types.length x.base && (tyB f.types.length x.index && tyB f.types.length x.result)) = r := ⟨_, rfl⟩
   obtain ⟨r2, hr2⟩ : ∃ r, (smB x.low && smB x.high) = r := ⟨_, rfl⟩
   obtain ⟨rt, hrt⟩ : ∃ r, tyForm f.types.length x = r := ⟨_, rfl⟩
   have hte : rt = (r1 && (r2 && (x.fields.all (fun f_ => tyB f.types.length f_.type && smB f_.arm) && (x.arms.all armForm && x.params.all (fun p => tyB f.types.length p.type))))) := by
    rw [← hrt, ← hr1, ← hr2]
    unfold tyForm
    simp only [Bool.and_assoc]
   rw [hr1] at ht3
   have HT3 := qh ht3
   have HX := qh hx
   have HRT := qh hrt
   have HR2 := qh hr2
   have HTE := qh hte
   have HW1 := qh hw1
   have HZ := qh hz
   have ACC1 := qh (ACCT.out.trans q1)
   have BT1 := qh (BT.out.wr0 q1)
   have BZ1 := qh b1
   have HL := qh (hl.wr0 q1)
   have h0 : (0 : Int) ≤ (k : Int) := by omega
   have h1 : (k : Int) < (f.types.length : Int) := by omega
   clear hc e2 ht3 hx hr1 hr2 hrt hte hl q1 b1 hct hw1 hz
   go_upto_region 5 with (fail)
   rw [HW1.out, HZ.out]
   clear x0 x1 x2 x3 x4 x5 x6 x7 x8 x9 x10 x11
   -- L2
   have c3 := (BZ1.out).cell 3
   have c4 := (BZ1.out).cell 4
   have c11 := (BZ1.out).cell 11
   simp only [qgaq, qgzq, qgsq] at c3 c4 c11
   go_wp2_with fail
   refine HT3.out.mono ?_
   rintro e w2 ⟨rfl, q2⟩
   have acc2 := ((Wr.refl [] w1).alloc (.cells #[.int .i64 x.base, .int .i64 x.index, .int .i64 x.result] 3)).trans q2
   have ACC2 := qh (ACC1.out.trans acc2)
   have BT2 := qh (BT1.out.wr0 acc2)
   have BZ2 := qh (BZ1.out.wr0 acc2)
   have HL2 := qh (HL.out.wr0 acc2)
   clear acc2 q2 c3 c4 c11
   -- L3
   cases r1 with
   | false =>
    have hrr : rr = false := by rw [HV.out, all_bad (p := tyForm f.types.length) HX.out (by rw [HRT.out, HTE.out]; rfl)]; rfl
    subst hrr
    clear HV
    go_wp2_with fail
    go_ret
    exact ⟨rfl, ACC2.out⟩
   | true =>
   have hs2 := small_2 x.low x.high w2
   rw [HR2.out] at hs2
   have HS2 := qh hs2
   have c5 := (BZ2.out).cell 5
   have c6 := (BZ2.out).cell 6
   simp only [qgaq, qgzq, qgsq] at c5 c6
   clear hs2
   go_wp2_with fail
   refine HS2.out.mono ?_
   rintro e w3 ⟨rfl, q3⟩
   have acc3 := ((Wr.refl [] w2).alloc (.cells #[.int .i64 x.low, .int .i64 x.high] 2)).trans q3
   have ACC3 := qh (ACC2.out.trans acc3)
   have BT3 := qh (BT2.out.wr0 acc3)
   have BZ3 := qh (BZ2.out.wr0 acc3)
   have HL3 := qh (HL2.out.wr0 acc3)
   clear acc3 q3 c5 c6
   -- L4
   cases r2 with
   | false =>
    have hrr : rr = false := by rw [HV.out, all_bad (p := tyForm f.types.length) HX.out (by rw [HRT.out, HTE.out]; rfl)]; rfl
    subst hrr
    clear HV
    go_wp2_with fail
    go_ret
    exact ⟨rfl, ACC3.out⟩
   | true =>
   have c8 := (BZ3.out).cell 8
   simp only [qgaq, qgzq, qgsq] at c8
   go_wp2_with fail
   go_loopw [50] (fun s50 wr => ∃ k : Nat, k ≤ x.fields.length ∧ s50 = .int .i64 k ∧ SeenT w3 g z #[.string f.module, .slice A1 f.uses.length k1, .slice (some ⟨b, off, none⟩) f.types.length k2, .slice A3 f.items.length k3] #[.int .u8 x.kind, .string x.module, .string x.name, .int .i64 x.base, .int .i64 x.index, .int .i64 x.low, .int .i64 x.high, .slice B1 x.names.length m1, .slice B2 x.fields.length m2, .slice B3 x.arms.length m3, .slice B4 x.params.length m4, .int .i64 x.result] x.fields (fun f_ => tyB f.types.length f_.type && smB f_.arm) k wr) (fun s50 _ => x.fields.length - (intOf s50).toNat)
   case atStart => exact ⟨0, by omega, rfl, Wr.refl _ _, BT3.out, BZ3.out, fun j x hj => absurd hj (by omega)⟩
   case round =>
    obtain ⟨kf, hkf, rfl, acck, bk, bz, hno⟩ := hrel
    have ACCF := qh acck
    have BTF := qh bk
    have BZF := qh bz
    have HNOF := qh hno
    clear acck bk bz hno c8
    by_cases hltf : kf < x.fields.length
    ·obtain ⟨y, hy⟩ : ∃ y, x.fields[kf]? = some y := ⟨_, qgeq hltf⟩
     obtain ⟨b', off', c', e, _, hc⟩ := fld_at (Sl.wr0 HL3.out.fields ACCF.out) hy
     injection e with e1 e2 e3
     subst e1 e3
     have y0 := hc 0 _ rfl
     have y1 := hc 1 _ rfl
     have y2 := hc 2 _ rfl
     simp only [Nat.add_zero] at y0
     obtain ⟨w4, hw4⟩ : ∃ q, wr.alloc (.cells #[.string y.name, .int .i64 y.type, .int .i64 y.arm] 73) = q := ⟨_, rfl⟩
     obtain ⟨z4, hz4⟩ : ∃ z, wr.heap.size = z := ⟨_, rfl⟩
     have q4 : Wr [] wr w4 := by rw [← hw4]; exact (Wr.refl [] _).alloc _
     have b4 : Blk w4 z4 73 #[.string y.name, .int .i64 y.type, .int .i64 y.arm] := by rw [← hw4, ← hz4]; exact Blk.new _ _ _
     have hct := (BTF.out.wr0 q4).cell 2
     simp only [qgaq, qgzq, qgsq] at hct
     have ht1 := typ_1 y.type g _ f.types.length _ HTT.out (by have := HNT.out; omega) w4 hct
     obtain ⟨ra, hra⟩ : ∃ r, tyB f.types.length y.type = r := ⟨_, rfl⟩
     obtain ⟨rb, hrb⟩ : ∃ r, smB y.arm = r := ⟨_, rfl⟩
     rw [hra] at ht1
     have HT1 := qh ht1
     have HY := qh hy
     have HRA := qh hra
     have HRB := qh hrb
     have HW4 := qh hw4
     have HZ4 := qh hz4
     have ACC4 := qh (ACCF.out.trans q4)
     have BT4 := qh (BTF.out.wr0 q4)
     have BZ4 := qh (BZF.out.wr0 q4)
     have BF4 := qh b4
     have h0f : (0 : Int) ≤ (kf : Int) := by omega
     have h1f : (kf : Int) < (x.fields.length : Int) := by omega
     clear hc e2 ht1 hy hra hrb q4 b4 hct hw4 hz4
     go_upto_region 10 with (fail)
     rw [HW4.out, HZ4.out]
     clear y0 y1 y2
     have c1 := (BF4.out).cell 1
     simp only [qgaq, qgzq, qgsq] at c1
     go_wp2_with fail
     refine HT1.out.mono ?_
     rintro e w5 ⟨rfl, q5⟩
     have acc5 := ((Wr.refl [] w4).alloc (.cells #[.int .i64 y.type] 3)).trans q5
     have ACC5 := qh (ACC4.out.trans acc5)
     have BT5 := qh (BT4.out.wr0 acc5)
     have BZ5 := qh (BZ4.out.wr0 acc5)
     have BF5 := qh (BF4.out.wr0 acc5)
     clear acc5 q5 c1
     -- L5
     cases ra with
     | false =>
      have hfb := all_bad (p := fun f_ : Fld => tyB f.types.length f_.type && smB f_.arm) HY.out (by show (_ && _) = false; rw [HRA.out]; rfl)
      have hrr : rr = false := by rw [HV.out, all_bad (p := tyForm f.types.length) HX.out (by rw [HRT.out, HTE.out, hfb]; rfl)]; rfl
      subst hrr
      clear HV hfb
      go_wp2_with fail
      go_ret
      exact ⟨rfl, ACC3.out.trans ACC5.out⟩
     | true =>
     have hs1 := small_1 y.arm w5
     rw [HRB.out] at hs1
     have HS1 := qh hs1
     have c2 := (BF5.out).cell 2
     simp only [qgaq, qgzq, qgsq] at c2
     clear hs1
     go_wp2_with fail
     refine HS1.out.mono ?_
     rintro e w6 ⟨rfl, q6⟩
     have acc6 := ((Wr.refl [] w5).alloc (.cells #[.int .i64 y.arm] 2)).trans q6
     have ACC6 := qh (ACC5.out.trans acc6)
     have BT6 := qh (BT5.out.wr0 acc6)
     have BZ6 := qh (BZ5.out.wr0 acc6)
     clear acc6 q6 c2
     cases rb with
     | false =>
      have hfb := all_bad (p := fun f_ : Fld => tyB f.types.length f_.type && smB f_.arm) HY.out (by show (_ && _) = false; rw [HRA.out, HRB.out]; rfl)
      have hrr : rr = false := by rw [HV.out, all_bad (p := tyForm f.types.length) HX.out (by rw [HRT.out, HTE.out, hfb]; rfl)]; rfl
      subst hrr
      clear HV hfb
      go_wp2_with fail
      go_ret
      exact ⟨rfl, ACC3.out.trans ACC6.out⟩
     | true =>
     go_wp2_with fail
     go_roundw
     case rel => exact ⟨kf + 1, by omega, by go_num, ACC6.out, BT6.out, BZ6.out, seen_next HNOF.out HY.out (by show (_ && _) = true; rw [HRA.out, HRB.out]; rfl)⟩
     case measure => simp [intOf]; omega
    ·obtain rfl : kf = x.fields.length := by omega
     have hte2 : rt = (x.arms.all armForm && x.params.all (fun p => tyB f.types.length p.type)) := by rw [HTE.out, all_seen HNOF.out]; rfl
     have HTE2 := qh hte2
     have HL4 := qh (HL3.out.wr0 ACCF.out)
     have ACCG := qh (ACC3.out.trans ACCF.out)
     have c9 := (BZF.out).cell 9
     simp only [qgaq, qgzq, qgsq] at c9
     clear hte2
     -- L6
     go_wp2_with fail
     go_loopw [71] (fun s71 wc => ∃ k : Nat, k ≤ x.arms.length ∧ s71 = .int .i64 k ∧ SeenT wr g z #[.string f.module, .slice A1 f.uses.length k1, .slice (some ⟨b, off, none⟩) f.types.length k2, .slice A3 f.items.length k3] #[.int .u8 x.kind, .string x.module, .string x.name, .int .i64 x.base, .int .i64 x.index, .int .i64 x.low, .int .i64 x.high, .slice B1 x.names.length m1, .slice B2 x.fields.length m2, .slice B3 x.arms.length m3, .slice B4 x.params.length m4, .int .i64 x.result] x.arms armForm k wc) (fun s71 _ => x.arms.length - (intOf s71).toNat)
     case atStart => exact ⟨0, by omega, rfl, Wr.refl _ _, BTF.out, BZF.out, fun j x hj => absurd hj (by omega)⟩
     case round =>
      obtain ⟨ka, hka, rfl, acck, bk, bz, hno⟩ := hrel
      have ACCA := qh acck
      have BTA := qh bk
      have BZA := qh bz
      have HNOA := qh hno
      clear acck bk bz hno c9
      by_cases hlta : ka < x.arms.length
      ·obtain ⟨y, hy⟩ : ∃ y, x.arms[ka]? = some y := ⟨_, qgeq hlta⟩
       obtain ⟨b', off', c', va, vb, e, _, y0, y1, y2, hfr, hto⟩ := arm_at (SlArms.keep HL4.out.arms ACCA.out (fun _ _ => by simp)) hy
       injection e with e1 e2 e3
       subst e1 e3
       obtain ⟨E1, p1, rfl, hE1, hE2⟩ := Sl.form hfr
       obtain ⟨E2, p2, rfl, hF1, hF2⟩ := Sl.form hto
       obtain ⟨w4, hw4⟩ : ∃ q, wr.alloc (.cells #[.slice E1 y.frm.length p1, .slice E2 y.to.length p2, .bool y.els] 76) = q := ⟨_, rfl⟩
       obtain ⟨z4, hz4⟩ : ∃ z, wr.heap.size = z := ⟨_, rfl⟩
       have q4 : Wr [] wr w4 := by rw [← hw4]; exact (Wr.refl [] _).alloc _
       have b4 : Blk w4 z4 76 #[.slice E1 y.frm.length p1, .slice E2 y.to.length p2, .bool y.els] := by rw [← hw4, ← hz4]; exact Blk.new _ _ _
       have hsf := small_ints w4 _ _ _ y.frm ⟨hE1, hE2⟩ (Sl.wr0 hfr q4)
       have hst := fun W (hW : Wr [] w4 W) => small_ints W _ _ _ y.to ⟨hF1, hF2⟩ (Sl.wr0 (Sl.wr0 hto q4) hW)
       unfold maxLen at hE2 hF2
       obtain ⟨ra, hra⟩ : ∃ r, decide (y.frm.length = y.to.length) = r := ⟨_, rfl⟩
       obtain ⟨rb, hrb⟩ : ∃ r, y.frm.all smB = r := ⟨_, rfl⟩
       obtain ⟨rc, hrc⟩ : ∃ r, y.to.all smB = r := ⟨_, rfl⟩
       have hae : armForm y = (ra && rb && rc) := by rw [← hra, ← hrb, ← hrc]; rfl
       rw [hrb] at hsf
       rw [hrc] at hst
       have HSF := qh hsf
       have HST := qh hst
       have HY := qh hy
       have HAE := qh hae
       have HRA := qh hra
       have HW4 := qh hw4
       have HZ4 := qh hz4
       have ACC4 := qh (ACCA.out.trans q4)
       have BT4 := qh (BTA.out.wr0 q4)
       have BZ4 := qh (BZA.out.wr0 q4)
       have BF4 := qh b4
       have h0f : (0 : Int) ≤ (ka : Int) := by omega
       have h1f : (ka : Int) < (x.arms.length : Int) := by omega
       clear e2 hsf hst hy hae hra hrb hrc q4 b4 hw4 hz4 hfr hto
       go_upto_region 16 with (fail)
       rw [HW4.out, HZ4.out]
       clear y0 y1 y2
       have c0 := (BF4.out).cell 0
       have c1 := (BF4.out).cell 1
       simp only [qgaq, qgzq, qgsq] at c0 c1
       cases ra with
       | false =>
        have hne : ¬ y.frm.length = y.to.length := of_decide_eq_false HRA.out
        have hnb : ((y.frm.length : Int) != (y.to.length : Int)) = true := by simp; omega
        have hnc : ((y.frm.length : Int) == (y.to.length : Int)) = false := by simp; omega
        have hfb := all_bad (p := armForm) HY.out (by rw [HAE.out]; rfl)
        have hrr : rr = false := by rw [HV.out, all_bad (p := tyForm f.types.length) HX.out (by rw [HRT.out, HTE2.out, hfb]; rfl)]; rfl
        subst hrr
        clear HV hfb hne
        go_wp2_with fail
        go_ret
        exact ⟨rfl, ACCG.out.trans ACC4.out⟩
       | true =>
       have heq : y.frm.length = y.to.length := of_decide_eq_true HRA.out
       have hnb : ((y.frm.length : Int) != (y.to.length : Int)) = false := by simp; omega
       have hnc : ((y.frm.length : Int) == (y.to.length : Int)) = true := by simp; omega
       clear heq
       -- L7
       go_wp2_with fail
       refine HSF.out.mono ?_
       rintro e w5 ⟨rfl, q5⟩
       have ACC5 := qh (ACC4.out.trans q5)
       have BT5 := qh (BT4.out.wr0 q5)
       have BZ5 := qh (BZ4.out.wr0 q5)
       have BF5 := qh (BF4.out.wr0 q5)
       have Q5 := qh q5
       clear q5 c0 c1
       cases rb with
       | false =>
        have hfb := all_bad (p := armForm) HY.out (by rw [HAE.out]; rfl)
        have hrr : rr = false := by rw [HV.out, all_bad (p := tyForm f.types.length) HX.out (by rw [HRT.out, HTE2.out, hfb]; rfl)]; rfl
        subst hrr
        clear HV hfb
        go_wp2_with fail
        go_ret
        exact ⟨rfl, ACCG.out.trans ACC5.out⟩
       | true =>
       have c1 := (BF5.out).cell 1
       simp only [qgaq, qgzq, qgsq] at c1
       go_wp2_with fail
       refine (HST.out _ Q5.out).mono ?_
       rintro e w6 ⟨rfl, q6⟩
       have ACC6 := qh (ACC5.out.trans q6)
       have BT6 := qh (BT5.out.wr0 q6)
       have BZ6 := qh (BZ5.out.wr0 q6)
       clear q6 c1
       cases rc with
       | false =>
        have hfb := all_bad (p := armForm) HY.out (by rw [HAE.out]; rfl)
        have hrr : rr = false := by rw [HV.out, all_bad (p := tyForm f.types.length) HX.out (by rw [HRT.out, HTE2.out, hfb]; rfl)]; rfl
        subst hrr
        clear HV hfb
        go_wp2_with fail
        go_ret
        exact ⟨rfl, ACCG.out.trans ACC6.out⟩
       | true =>
       go_wp2_with fail
       go_roundw
       case rel => exact ⟨ka + 1, by omega, by go_num, ACC6.out, BT6.out, BZ6.out, seen_next HNOA.out HY.out (by rw [HAE.out]; rfl)⟩
       case measure => simp [intOf]; omega
      ·obtain rfl : ka = x.arms.length := by omega
       have hte3 : rt = x.params.all (fun p => tyB f.types.length p.type) := by rw [HTE2.out, all_seen HNOA.out]; rfl
       have HTE3 := qh hte3
       have HL5 := qh (HL4.out.wr0 ACCA.out)
       have ACCH := qh (ACCG.out.trans ACCA.out)
       have c10 := (BZA.out).cell 10
       simp only [qgaq, qgzq, qgsq] at c10
       clear hte3
       -- L8
       go_wp2_with fail
       go_loopw [98] (fun s98 wc => ∃ k : Nat, k ≤ x.params.length ∧ s98 = .int .i64 k ∧ SeenT wr g z #[.string f.module, .slice A1 f.uses.length k1, .slice (some ⟨b, off, none⟩) f.types.length k2, .slice A3 f.items.length k3] #[.int .u8 x.kind, .string x.module, .string x.name, .int .i64 x.base, .int .i64 x.index, .int .i64 x.low, .int .i64 x.high, .slice B1 x.names.length m1, .slice B2 x.fields.length m2, .slice B3 x.arms.length m3, .slice B4 x.params.length m4, .int .i64 x.result] x.params (fun p => tyB f.types.length p.type) k wc) (fun s98 _ => x.params.length - (intOf s98).toNat)
       case atStart => exact ⟨0, by omega, rfl, Wr.refl _ _, BTA.out, BZA.out, fun j x hj => absurd hj (by omega)⟩
       case round =>
        obtain ⟨kp, hkp, rfl, acck, bk, bz, hno⟩ := hrel
        have ACCP := qh acck
        have BTP := qh bk
        have BZP := qh bz
        have HNOP := qh hno
        clear acck bk bz hno c10
        by_cases hltp : kp < x.params.length
        ·obtain ⟨y, hy⟩ : ∃ y, x.params[kp]? = some y := ⟨_, qgeq hltp⟩
         obtain ⟨b', off', c', e, _, hc⟩ := par_at (Sl.wr0 HL5.out.params ACCP.out) hy
         injection e with e1 e2 e3
         subst e1 e3
         have y0 := hc 0 _ rfl
         have y1 := hc 1 _ rfl
         simp only [Nat.add_zero] at y0
         obtain ⟨w4, hw4⟩ : ∃ q, wr.alloc (.cells #[.bool y.var, .int .i64 y.type] 84) = q := ⟨_, rfl⟩
         obtain ⟨z4, hz4⟩ : ∃ z, wr.heap.size = z := ⟨_, rfl⟩
         have q4 : Wr [] wr w4 := by rw [← hw4]; exact (Wr.refl [] _).alloc _
         have b4 : Blk w4 z4 84 #[.bool y.var, .int .i64 y.type] := by rw [← hw4, ← hz4]; exact Blk.new _ _ _
         have hct := (BTP.out.wr0 q4).cell 2
         simp only [qgaq, qgzq, qgsq] at hct
         have ht1 := typ_1 y.type g _ f.types.length _ HTT.out (by have := HNT.out; omega) w4 hct
         obtain ⟨ra, hra⟩ : ∃ r, tyB f.types.length y.type = r := ⟨_, rfl⟩
         rw [hra] at ht1
         have HT1 := qh ht1
         have HY := qh hy
         have HRA := qh hra
         have HW4 := qh hw4
         have HZ4 := qh hz4
         have ACC4 := qh (ACCP.out.trans q4)
         have BT4 := qh (BTP.out.wr0 q4)
         have BZ4 := qh (BZP.out.wr0 q4)
         have BF4 := qh b4
         have h0f : (0 : Int) ≤ (kp : Int) := by omega
         have h1f : (kp : Int) < (x.params.length : Int) := by omega
         clear hc e2 ht1 hy hra q4 b4 hct hw4 hz4
         go_upto_region 22 with (fail)
         rw [HW4.out, HZ4.out]
         clear y0 y1
         have c1 := (BF4.out).cell 1
         simp only [qgaq, qgzq, qgsq] at c1
         go_wp2_with fail
         refine HT1.out.mono ?_
         rintro e w5 ⟨rfl, q5⟩
         have acc5 := ((Wr.refl [] w4).alloc (.cells #[.int .i64 y.type] 3)).trans q5
         have ACC5 := qh (ACC4.out.trans acc5)
         have BT5 := qh (BT4.out.wr0 acc5)
         have BZ5 := qh (BZ4.out.wr0 acc5)
         clear acc5 q5 c1
         cases ra with
         | false =>
          have hfb := all_bad (p := fun p : Par => tyB f.types.length p.type) HY.out HRA.out
          have hrr : rr = false := by rw [HV.out, all_bad (p := tyForm f.types.length) HX.out (by rw [HRT.out, HTE3.out, hfb])]; rfl
          subst hrr
          clear HV hfb
          go_wp2_with fail
          go_ret
          exact ⟨rfl, ACCH.out.trans ACC5.out⟩
         | true =>
         go_wp2_with fail
         go_roundw
         case rel => exact ⟨kp + 1, by omega, by go_num, ACC5.out, BT5.out, BZ5.out, seen_next HNOP.out HY.out HRA.out⟩
         case measure => simp [intOf]; omega
        ·obtain rfl : kp = x.params.length := by omega
         have hrt : tyForm f.types.length x = true := by rw [HRT.out, HTE3.out, all_seen HNOP.out]
         go_wp2_with fail
         go_roundw
         case rel => exact ⟨k + 1, by omega, by go_num, ACCH.out.trans ACCP.out, BTP.out, seen_next HNOT.out HX.out hrt⟩
         case measure => simp [intOf]; omega
  ·obtain rfl : k = f.types.length := by omega
   have hv2 : rr = f.items.all (itmForm f.types.length) := by rw [HV.out, all_seen HNOT.out]; rfl
   have HV2 := qh hv2
   have c3 := (BT.out).cell 3
   simp only [qgaq, qgzq, qgsq] at c3
   clear hv2 HV
   -- L9
   go_wp2_with fail
   go_loopw [113] (fun s113 wr => ∃ k : Nat, k ≤ f.items.length ∧ s113 = .int .i64 k ∧ SeenF w g #[.string f.module, .slice A1 f.uses.length k1, .slice A2 f.types.length k2, .slice A3 f.items.length k3] f.items (itmForm f.types.length) k wr) (fun s113 _ => f.items.length - (intOf s113).toNat)
   case atStart => exact ⟨0, by omega, rfl, ACCT.out, BT.out, fun j x hj => absurd hj (by omega)⟩
   case round =>
    obtain ⟨k, hk, rfl, acck, bk, hno⟩ := hrel
    have ACCI := qh acck
    have BI := qh bk
    have HNOI := qh hno
    clear acck bk hno c3
    by_cases hlt : k < f.items.length
    ·obtain ⟨x, hx⟩ : ∃ x, f.items[k]? = some x := ⟨_, qgeq hlt⟩
     obtain ⟨b, off, c', e, _, hc⟩ := itm_at (Sl.wr0 HH.out.items ACCI.out) hx
     injection e with e1 e2 e3
     subst e1 e3
     have x0 := hc 0 _ rfl
     have x1 := hc 1 _ rfl
     have x2 := hc 2 _ rfl
     have x3 := hc 3 _ rfl
     have x4 := hc 4 _ rfl
     simp only [Nat.add_zero] at x0
     have hst := stored_any x.v.val x.v.val_one
     have hsr := fun W => sort_any x.v W
     have hta := fun w => anyAs_whole x.v w
     have htb := fun w => anyAs_item x.v w
     have hfx : itmForm f.types.length x = (tyB f.types.length x.type && (smB x.at_ && ((!(x.v.sort == 8)) && ((!(x.v.sort == 1) || smB x.v.wholeV) && (!(x.v.sort == 6) || (tyB f.types.length x.v.itemT && smB x.v.itemN)))))) := by
      unfold itmForm
      rw [anyForm_eq]
      simp only [Bool.and_assoc]
     obtain ⟨V, hV⟩ : ∃ V, x.v.val = V := ⟨_, rfl⟩
     obtain ⟨wv, hwv⟩ : ∃ s, x.v.wholeV = s := ⟨_, rfl⟩
     obtain ⟨it, hit⟩ : ∃ s, x.v.itemT = s := ⟨_, rfl⟩
     obtain ⟨inn, hin⟩ : ∃ s, x.v.itemN = s := ⟨_, rfl⟩
     obtain ⟨sn, hsn⟩ : ∃ s, (if x.v.sort = 8 then 0 else (x.v.sort : Int)) = s := ⟨_, rfl⟩
     have hex : (x.v.sort == 1) = true → (x.v.sort == 6) = false := fun e => by rw [show x.v.sort = 1 by simpa using e]; rfl
     obtain ⟨is8, h8⟩ : ∃ b, (x.v.sort == 8) = b := ⟨_, rfl⟩
     obtain ⟨is1, h1s⟩ : ∃ b, (x.v.sort == 1) = b := ⟨_, rfl⟩
     obtain ⟨is6, h6⟩ : ∃ b, (x.v.sort == 6) = b := ⟨_, rfl⟩
     obtain ⟨ra, hra⟩ : ∃ r, tyB f.types.length x.type = r := ⟨_, rfl⟩
     obtain ⟨rb, hrb⟩ : ∃ r, smB x.at_ = r := ⟨_, rfl⟩
     obtain ⟨rc, hrc⟩ : ∃ r, smB wv = r := ⟨_, rfl⟩
     obtain ⟨rd, hrd⟩ : ∃ r, tyB f.types.length it = r := ⟨_, rfl⟩
     obtain ⟨re, hre⟩ : ∃ r, smB inn = r := ⟨_, rfl⟩
     rw [h1s, h6] at hex
     rw [hwv, hit, hin, h8, h1s, h6, hra, hrb, hrc, hrd, hre] at hfx
     rw [hV, hsn, h8] at hsr
     rw [hV, hwv, h1s] at hta
     rw [hV, hit, hin, h6] at htb
     rw [hV] at x3 hst
     obtain ⟨w1, hw1⟩ : ∃ q, wr.alloc (.cells #[.string x.name, .int .u8 x.kind, .int .i64 x.type, V, .int .i64 x.at_] 59) = q := ⟨_, rfl⟩
     obtain ⟨z, hz⟩ : ∃ z, wr.heap.size = z := ⟨_, rfl⟩
     have q1 : Wr [] wr w1 := by rw [← hw1]; exact (Wr.refl [] _).alloc _
     have b1 : Blk w1 z 59 #[.string x.name, .int .u8 x.kind, .int .i64 x.type, V, .int .i64 x.at_] := by rw [← hw1, ← hz]; exact Blk.new _ _ _
     have HEX := qh hex
     have HSR := qh hsr
     have HTA := qh hta
     have HTB := qh htb
     have HX := qh hx
     have HFX := qh hfx
     have HRA := qh hra
     have HRB := qh hrb
     have HRC := qh hrc
     have HRD := qh hrd
     have HRE := qh hre
     have HW1 := qh hw1
     have HZ := qh hz
     have ACC1 := qh (ACCI.out.trans q1)
     have BI1 := qh (BI.out.wr0 q1)
     have BE1 := qh b1
     have h0 : (0 : Int) ≤ (k : Int) := by omega
     have h1 : (k : Int) < (f.items.length : Int) := by omega
     clear hc e2 hx hex hra hrb hrc hrd hre hwv hit hin hsn h8 h1s h6 hV hsr hta htb hfx q1 b1 hw1 hz
     go_upto_region 29 with (fail)
     rw [HW1.out, HZ.out]
     clear x0 x1 x2 x3 x4 hst
     have c3 := (BE1.out).cell 3
     simp only [qgaq, qgzq, qgsq] at c3
     -- L10
     go_wp2_with fail
     refine (HSR.out _).mono ?_
     rintro e w2 ⟨rfl, q2⟩
     have ACC2 := qh (ACC1.out.trans q2)
     have BI2 := qh (BI1.out.wr0 q2)
     have BE2 := qh (BE1.out.wr0 q2)
     clear q2 c3
     have c3 := (BE2.out).cell 3
     simp only [qgaq, qgzq, qgsq] at c3
     have hta := HTA.out
     have htb := HTB.out
     obtain ⟨w3, hw3⟩ : ∃ q, w2.alloc (.cells #[.int .i64 it, .int .i64 inn] 86) = q := ⟨_, rfl⟩
     obtain ⟨z3, hz3⟩ : ∃ z, w2.heap.size = z := ⟨_, rfl⟩
     have q3 : Wr [] w2 w3 := by rw [← hw3]; exact (Wr.refl [] _).alloc _
     have b3 : Blk w3 z3 86 #[.int .i64 it, .int .i64 inn] := by rw [← hw3, ← hz3]; exact Blk.new _ _ _
     have hct := (BI2.out.wr0 q3).cell 2
     simp only [qgaq, qgzq, qgsq] at hct
     have ht1 := typ_1 x.type g _ f.types.length _ HTT.out (by have := HNT.out; omega) w3 hct
     rw [HRA.out] at ht1
     have HT1 := qh ht1
     have HW3 := qh hw3
     have HZ3 := qh hz3
     have ACC3 := qh (ACC2.out.trans q3)
     have BI3 := qh (BI2.out.wr0 q3)
     have BE3 := qh (BE2.out.wr0 q3)
     have BN3 := qh b3
     clear q3 b3 hct ht1 hw3 hz3
     -- L11
     go_upto_region 32 with (fail)
     rw [HW3.out, HZ3.out]
     clear c3 hta htb
     have c2 := (BE3.out).cell 2
     simp only [qgaq, qgzq, qgsq] at c2
     go_wp2_with fail
     refine HT1.out.mono ?_
     rintro e w4 ⟨rfl, qq⟩
     have aa := ((Wr.refl [] w3).alloc (.cells #[.int .i64 x.type] 3)).trans qq
     have ACC4 := qh (ACC3.out.trans aa)
     have BI4 := qh (BI3.out.wr0 aa)
     have BE4 := qh (BE3.out.wr0 aa)
     have BN4 := qh (BN3.out.wr0 aa)
     clear qq aa
     clear c2
     cases ra with
     | false =>
      have hrr : rr = false := by rw [HV2.out, all_bad (p := itmForm f.types.length) HX.out (by rw [HFX.out]; simp)]
      subst hrr
      clear HV2
      go_wp2_with fail
      go_ret
      exact ⟨rfl, ACC4.out⟩
     | true =>
     have hs1 := small_1 x.at_ w4
     rw [HRB.out] at hs1
     have HS1 := qh hs1
     clear hs1
     have c4 := (BE4.out).cell 4
     simp only [qgaq, qgzq, qgsq] at c4
     -- L12
     go_wp2_with fail
     refine HS1.out.mono ?_
     rintro e w5 ⟨rfl, qq⟩
     have aa := ((Wr.refl [] w4).alloc (.cells #[.int .i64 x.at_] 2)).trans qq
     have ACC5 := qh (ACC4.out.trans aa)
     have BI5 := qh (BI4.out.wr0 aa)
     have BE5 := qh (BE4.out.wr0 aa)
     have BN5 := qh (BN4.out.wr0 aa)
     clear qq aa
     clear c4
     cases rb with
     | false =>
      have hrr : rr = false := by rw [HV2.out, all_bad (p := itmForm f.types.length) HX.out (by rw [HFX.out]; simp)]
      subst hrr
      clear HV2
      go_wp2_with fail
      go_ret
      exact ⟨rfl, ACC5.out⟩
     | true =>
     cases is8 with
     | true =>
      have hrr : rr = false := by rw [HV2.out, all_bad (p := itmForm f.types.length) HX.out (by rw [HFX.out]; simp)]
      subst hrr
      clear HV2
      go_wp2_with fail
      go_ret
      exact ⟨rfl, ACC5.out⟩
     | false =>
     cases is1 with
     | true =>
      obtain rfl : is6 = false := HEX.out rfl
      have hs2 := small_1 wv w5
      rw [HRC.out] at hs2
      have HS2 := qh hs2
      clear hs2
      -- L13
      go_wp2_with fail
      refine HS2.out.mono ?_
      rintro e w6 ⟨rfl, qq⟩
      have aa := ((Wr.refl [] w5).alloc (.cells #[.int .i64 wv] 2)).trans qq
      have ACC6 := qh (ACC5.out.trans aa)
      have BI6 := qh (BI5.out.wr0 aa)
      clear qq aa
      cases rc with
      | false =>
       have hrr : rr = false := by rw [HV2.out, all_bad (p := itmForm f.types.length) HX.out (by rw [HFX.out]; simp)]
       subst hrr
       clear HV2
       go_wp2_with fail
       go_ret
       exact ⟨rfl, ACC6.out⟩
      | true =>
      go_wp2_with fail
      go_roundw
      case rel => exact ⟨k + 1, by omega, by go_num, ACC6.out, BI6.out, seen_next HNOI.out HX.out (by rw [HFX.out]; simp)⟩
      case measure => simp [intOf]; omega
     | false =>
     cases is6 with
     | false =>
      go_wp2_with fail
      go_roundw
      case rel => exact ⟨k + 1, by omega, by go_num, ACC5.out, BI5.out, seen_next HNOI.out HX.out (by rw [HFX.out]; simp)⟩
      case measure => simp [intOf]; omega
     | true =>
     have hct := BI5.out.cell 2
     simp only [qgaq, qgzq, qgsq] at hct
     have ht2 := typ_1 it g _ f.types.length _ HTT.out (by have := HNT.out; omega) w5 hct
     rw [HRD.out] at ht2
     have HT2 := qh ht2
     clear ht2 hct
     have c0 := (BN5.out).cell 0
     simp only [qgaq, qgzq, qgsq] at c0
     -- L14
     go_wp2_with fail
     refine HT2.out.mono ?_
     rintro e w6 ⟨rfl, qq⟩
     have aa := ((Wr.refl [] w5).alloc (.cells #[.int .i64 it] 3)).trans qq
     have ACC6 := qh (ACC5.out.trans aa)
     have BI6 := qh (BI5.out.wr0 aa)
     have BN6 := qh (BN5.out.wr0 aa)
     clear qq aa
     clear c0
     cases rd with
     | false =>
      have hrr : rr = false := by rw [HV2.out, all_bad (p := itmForm f.types.length) HX.out (by rw [HFX.out]; simp)]
      subst hrr
      clear HV2
      go_wp2_with fail
      go_ret
      exact ⟨rfl, ACC6.out⟩
     | true =>
     have hs3 := small_1 inn w6
     rw [HRE.out] at hs3
     have HS3 := qh hs3
     clear hs3
     have c1 := (BN6.out).cell 1
     simp only [qgaq, qgzq, qgsq] at c1
     go_wp2_with fail
     refine HS3.out.mono ?_
     rintro e w7 ⟨rfl, qq⟩
     have aa := ((Wr.refl [] w6).alloc (.cells #[.int .i64 inn] 2)).trans qq
     have ACC7 := qh (ACC6.out.trans aa)
     have BI7 := qh (BI6.out.wr0 aa)
     clear qq aa
     clear c1
     cases re with
     | false =>
      have hrr : rr = false := by rw [HV2.out, all_bad (p := itmForm f.types.length) HX.out (by rw [HFX.out]; simp)]
      subst hrr
      clear HV2
      go_wp2_with fail
      go_ret
      exact ⟨rfl, ACC7.out⟩
     | true =>
     go_wp2_with fail
     go_roundw
     case rel => exact ⟨k + 1, by omega, by go_num, ACC7.out, BI7.out, seen_next HNOI.out HX.out (by rw [HFX.out]; simp)⟩
     case measure => simp [intOf]; omega
    ·obtain rfl : k = f.items.length := by omega
     have hrr : rr = true := by rw [HV2.out, all_seen HNOI.out]
     subst hrr
     clear HV2
     go_wp2_with fail
     go_ret
     exact ⟨rfl, ACCI.out⟩
theorem fit_types {f : FaceD} (h : faceFit f = true) : f.types.length ≤ 1024 := by
 unfold faceFit at h
 simp only [Bool.and_eq_true, decide_eq_true_eq] at h
 exact h.1.1.1.1.2
theorem may_any (f : FaceD) (vu vt vi : Value) (P : Nat → Prop) (w : World) (h : FaceL w P vu vt vi f) :
  Calls Tryz.prog 25 #[.agg #[.string f.module, vu, vt, vi]] w fun e w' => e = .returned (.int .i64 (mayP f)) ∧ Wr [] w w' := by
 obtain ⟨⟨A1, k1, rfl, hn1, hn2⟩, ⟨A2, k2, rfl, hf1, hf2⟩, ⟨A3, k3, rfl, ha1, ha2⟩⟩ := h.forms
 unfold maxLen at hn2 hf2 ha2
 have acc := (Wr.refl [] w).alloc (.cells #[.string f.module, .slice A1 f.uses.length k1, .slice A2 f.types.length k2, .slice A3 f.items.length k3] 35)
 have bA := Blk.new w 35 #[.string f.module, .slice A1 f.uses.length k1, .slice A2 f.types.length k2, .slice A3 f.items.length k3]
 have hfi := fitting_any f _ _ _ P _ (h.wr0 acc)
 have hfo := fun hnt W (hW : Wr [] w W) => formed_any f _ _ _ P W (h.wr0 hW) hnt
 have hou := fun W (hW : Wr [] w W) => onceU_any f.uses _ P W (Sl.wr0 h.uses hW)
 have hoe := fun W (hW : Wr [] w W) => onceE_any f.items _ P W (Sl.wr0 h.items hW)
 obtain ⟨v, hv⟩ : ∃ v, mayP f = v := ⟨_, rfl⟩
 obtain ⟨r1, h1⟩ : ∃ r, faceFit f = r := ⟨_, rfl⟩
 obtain ⟨r2, h2⟩ : ∃ r, onceB [] (f.uses.map fun x => x.module) = r := ⟨_, rfl⟩
 obtain ⟨r3, h3⟩ : ∃ r, onceB [] (f.items.map fun x => x.name) = r := ⟨_, rfl⟩
 obtain ⟨r4, h4⟩ : ∃ r, faceForm f = r := ⟨_, rfl⟩
 have hm : v = if r1 then if r2 && r3 then if r4 then 0 else 7 else 6 else 5 := by rw [← hv, ← h1, ← h2, ← h3, ← h4]; rfl
 rw [hv]
 rw [h1] at hfi
 rw [h2] at hou
 rw [h3] at hoe
 rw [h4] at hfo
 have HFI := qh hfi
 have HFO := qh hfo
 have HOU := qh hou
 have HOE := qh hoe
 have HM := qh hm
 have H1 := qh h1
 have ACC := qh acc
 have BA := qh bA
 clear hfi hfo hou hoe hm h1 h2 h3 h4 hv acc bA h
 go_enter Tryz.func25, Tryz.ntmps25
 go_wp2_with fail
 refine HFI.out.mono ?_
 rintro e w1 ⟨rfl, q1⟩
 have ACC1 := qh (ACC.out.trans q1)
 have BA1 := qh (BA.out.wr0 q1)
 clear q1
 cases r1 with
 | false =>
  obtain rfl : v = 5 := by rw [HM.out]; rfl
  clear HM
  go_wp2_with fail
  go_ret
  exact ⟨rfl, ACC1.out⟩
 | true =>
 have c1 := BA1.out.cell 1
 simp only [qgaq, qgzq, qgsq] at c1
 go_wp2_with fail
 refine (HOU.out _ ACC1.out).mono ?_
 rintro e w2 ⟨rfl, q2⟩
 have ACC2 := qh (ACC1.out.trans q2)
 have BA2 := qh (BA1.out.wr0 q2)
 clear q2 c1
 cases r2 with
 | false =>
  obtain rfl : v = 6 := by rw [HM.out]; rfl
  clear HM
  go_wp2_with fail
  go_ret
  exact ⟨rfl, ACC2.out⟩
 | true =>
 have c3 := BA2.out.cell 3
 simp only [qgaq, qgzq, qgsq] at c3
 go_wp2_with fail
 refine (HOE.out _ ACC2.out).mono ?_
 rintro e w3 ⟨rfl, q3⟩
 have ACC3 := qh (ACC2.out.trans q3)
 have BA3 := qh (BA2.out.wr0 q3)
 clear q3 c3
 cases r3 with
 | false =>
  obtain rfl : v = 6 := by rw [HM.out]; rfl
  clear HM
  go_wp2_with fail
  go_ret
  exact ⟨rfl, ACC3.out⟩
 | true =>
 have c0 := BA3.out.cell 0
 have c1 := BA3.out.cell 1
 have c2 := BA3.out.cell 2
 have c3 := BA3.out.cell 3
 simp only [qgaq, qgzq, qgsq] at c0 c1 c2 c3
 go_wp2_with fail
 refine (HFO.out (fit_types H1.out) _ ACC3.out).mono ?_
 rintro e w4 ⟨rfl, q4⟩
 clear c0 c1 c2 c3
 cases r4 with
 | false =>
  obtain rfl : v = 7 := by rw [HM.out]; rfl
  clear HM
  go_wp2_with fail
  go_ret
  exact ⟨rfl, ACC3.out.trans q4⟩
 | true =>
  obtain rfl : v = 0 := by rw [HM.out]; rfl
  clear HM
  go_wp2_with fail
  go_ret
  exact ⟨rfl, ACC3.out.trans q4⟩
end Go.Proofs.YtjanbpchedgoiaaGreat
