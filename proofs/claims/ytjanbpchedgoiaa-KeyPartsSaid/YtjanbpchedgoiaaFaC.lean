/- iface's fits: walked. No conditions. -/
import Derived.Test.YtjanbpchedgoiaaFaB
namespace Go.Proofs.Ytjanbpchedgoiaa
open Go.RowKit
set_option linter.unusedVariables false
set_option linter.unusedSimpArgs false

theorem Lists.forms {w : World} {P : Nat → Prop} {vn vf va vp : Value} {t : Ty} (h : Lists w P vn vf va vp t) : (∃ A c, vn = .slice A t.names.length c ∧ t.names.length ≤ c ∧ c ≤ maxLen) ∧ (∃ A c, vf = .slice A t.fields.length c ∧ t.fields.length ≤ c ∧ c ≤ maxLen) ∧ (∃ A c, va = .slice A t.arms.length c ∧ t.arms.length ≤ c ∧ c ≤ maxLen) ∧ ∃ A c, vp = .slice A t.params.length c ∧ t.params.length ≤ c ∧ c ≤ maxLen :=
  ⟨Sl.form h.names, Sl.form h.fields, h.arms.form, Sl.form h.params⟩
theorem short_strs (w : World) (P : Nat → Prop) (A : Option Addr) (c : Nat) (l : List ByteArray) (hc : l.length ≤ c ∧ c ≤ maxLen) (h : SlStrs w P (.slice A l.length c) l) : Calls Try.prog 54 #[.slice A l.length c] w fun e w' => e = .returned (.bool (l.all shB)) ∧ Wr [] w w' := by
  have h1 := short_any w A l.length c (fun i => (l[i]?).getD ⟨#[]⟩) hc h.cellsAt
  rw [short_list (fun i s hi => by rw [hi]; rfl)] at h1
  exact h1
def FitAt (w : World) (g : Nat) (cs : Array Value) (l : List Fld) (k : Nat) (wr : World) : Prop := Wr [] w wr ∧ Blk wr g 55 cs ∧ ∀ (j : Nat) (x : Fld), j < k → l[j]? = some x → shB x.name = true
set_option maxRecDepth 100000 in
set_option maxHeartbeats 8000000 in
theorem fits_any (t : Ty) (vn vf va vp : Value) (P : Nat → Prop) (w : World) (h : Lists w P vn vf va vp t) :
    Calls Try.prog 55 #[.agg #[.int .u8 t.kind, .string t.module, .string t.name, .int .i64 t.base, .int .i64 t.index, .int .i64 t.low, .int .i64 t.high, vn, vf, va, vp, .int .i64 t.result]] w fun e w' => e = .returned (.bool (tyFit t)) ∧ Wr [] w w' := by
  obtain ⟨⟨A1, k1, rfl, hn1, hn2⟩, ⟨A2, k2, rfl, hf1, hf2⟩, ⟨A3, k3, rfl, ha1, ha2⟩, ⟨A4, k4, rfl, hp1, hp2⟩⟩ := h.forms
  have hv : tyFit t = ((shB t.module && shB t.name) && ((fwB t.names.length && (fwB t.fields.length && (fwB t.arms.length && fwB t.params.length))) && (t.names.all shB && (t.fields.all (fun f => shB f.name) && t.arms.all armFit)))) := by
    unfold tyFit
    simp only [Bool.and_assoc]
  obtain ⟨w0, hw0⟩ : ∃ q, w.alloc (.cells #[.int .u8 t.kind, .string t.module, .string t.name, .int .i64 t.base, .int .i64 t.index, .int .i64 t.low, .int .i64 t.high, .slice A1 t.names.length k1, .slice A2 t.fields.length k2, .slice A3 t.arms.length k3, .slice A4 t.params.length k4, .int .i64 t.result] 55) = q := ⟨_, rfl⟩
  obtain ⟨g, hg⟩ : ∃ g, w.heap.size = g := ⟨_, rfl⟩
  have acc : Wr [] w w0 := by rw [← hw0]; exact (Wr.refl [] _).alloc _
  have bA : Blk w0 g 55 #[.int .u8 t.kind, .string t.module, .string t.name, .int .i64 t.base, .int .i64 t.index, .int .i64 t.low, .int .i64 t.high, .slice A1 t.names.length k1, .slice A2 t.fields.length k2, .slice A3 t.arms.length k3, .slice A4 t.params.length k4, .int .i64 t.result] := by rw [← hw0, ← hg]; exact Blk.new _ _ _
  have hs2 := short_2 t.module t.name w0
  have hss := fun W (hW : Wr [] w W) => short_strs W P A1 k1 t.names ⟨hn1, hn2⟩ (Sl.wr0 h.names hW)
  have hsa := fun W (hW : Wr [] w W) => has_arm W P (.slice A3 t.arms.length k3) t.arms (SlArms.keep h.arms hW (fun _ _ => by simp))
  obtain ⟨r1, hr1⟩ : ∃ r, (shB t.module && shB t.name) = r := ⟨_, rfl⟩
  obtain ⟨r2, hr2⟩ : ∃ r, (fwB t.names.length && (fwB t.fields.length && (fwB t.arms.length && fwB t.params.length))) = r := ⟨_, rfl⟩
  obtain ⟨r3, hr3⟩ : ∃ r, t.names.all shB = r := ⟨_, rfl⟩
  obtain ⟨r5, hr5⟩ : ∃ r, t.arms.all armFit = r := ⟨_, rfl⟩
  obtain ⟨rr, hrr⟩ : ∃ r, tyFit t = r := ⟨_, rfl⟩
  rw [hr1] at hs2
  rw [hr3] at hss
  rw [hr5] at hsa
  rw [hr1, hr2, hr3, hr5, hrr] at hv
  rw [hrr]
  unfold maxLen at hn2 hf2 ha2 hp2
  have HS2 := Lib.hid hs2
  have HSS := Lib.hid hss
  have HSA := Lib.hid hsa
  have HV := Lib.hid hv
  have HR2 := Lib.hid hr2
  have HW0 := Lib.hid hw0
  have HG := Lib.hid hg
  have ACC := Lib.hid acc
  have BA := Lib.hid bA
  have HH := Lib.hid h
  clear hs2 hss hsa hv hr1 hr2 hr3 hr5 hrr hw0 hg acc bA h
  go_enter Try.func55, Try.ntmps55
  go_upto_region 1 with (fail)
  rw [HW0.out, HG.out]
  have c1 := (BA.out).cell 1
  have c2 := (BA.out).cell 2
  simp only [List.getElem?_toArray, List.getElem?_cons_zero, List.getElem?_cons_succ] at c1 c2
  go_wp2_with fail
  refine HS2.out.mono ?_
  rintro e w1 ⟨rfl, k⟩
  have acc1 := (Wr.refl [] w0).alloc (.cells #[.string t.module, .string t.name] 9) |>.trans k
  have ACC1 := Lib.hid (ACC.out.trans acc1)
  have BA1 := Lib.hid (BA.out.wr0 acc1)
  clear k acc1 c1 c2
  cases r1 with
  | false =>
    have hrr : rr = false := by rw [HV.out]; rfl
    subst hrr
    clear HV
    go_wp2_with fail
    go_ret
    exact ⟨rfl, ACC1.out⟩
  | true =>
  have c7 := (BA1.out).cell 7
  have c8 := (BA1.out).cell 8
  have c9 := (BA1.out).cell 9
  have c10 := (BA1.out).cell 10
  simp only [List.getElem?_toArray, List.getElem?_cons_zero, List.getElem?_cons_succ] at c7 c8 c9 c10
  have hf4 := few_4 t.names.length t.fields.length t.arms.length t.params.length w1
  rw [HR2.out] at hf4
  have HF4 := Lib.hid hf4
  clear hf4
  go_wp2_with fail
  refine HF4.out.mono ?_
  rintro e w2 ⟨rfl, k⟩
  have acc2 := (Wr.refl [] w1).alloc (.cells #[.int .i64 (t.names.length : Int), .int .i64 (t.fields.length : Int), .int .i64 (t.arms.length : Int), .int .i64 (t.params.length : Int)] 3) |>.trans k
  have ACC2 := Lib.hid (ACC1.out.trans acc2)
  have BA2 := Lib.hid (BA1.out.wr0 acc2)
  clear k acc2 c7 c8 c9 c10
  cases r2 with
  | false =>
    have hrr : rr = false := by rw [HV.out]; rfl
    subst hrr
    clear HV
    go_wp2_with fail
    go_ret
    exact ⟨rfl, ACC2.out⟩
  | true =>
  have c7 := (BA2.out).cell 7
  simp only [List.getElem?_toArray, List.getElem?_cons_zero, List.getElem?_cons_succ] at c7
  go_wp2_with fail
  refine (HSS.out _ ACC2.out).mono ?_
  rintro e w3 ⟨rfl, k⟩
  have ACC3 := Lib.hid (ACC2.out.trans k)
  have BA3 := Lib.hid (BA2.out.wr0 k)
  clear k c7
  cases r3 with
  | false =>
    have hrr : rr = false := by rw [HV.out]; rfl
    subst hrr
    clear HV
    go_wp2_with fail
    go_ret
    exact ⟨rfl, ACC3.out⟩
  | true =>
  have hv2 : rr = (t.fields.all (fun f => shB f.name) && r5) := by rw [HV.out]; rfl
  have HV2 := Lib.hid hv2
  have c8 := (BA3.out).cell 8
  simp only [List.getElem?_toArray, List.getElem?_cons_zero, List.getElem?_cons_succ] at c8
  clear hv2
  go_wp2_with fail
  go_loopw [38] (fun s38 wr => ∃ k : Nat, k ≤ t.fields.length ∧ s38 = .int .i64 k ∧ FitAt w g #[.int .u8 t.kind, .string t.module, .string t.name, .int .i64 t.base, .int .i64 t.index, .int .i64 t.low, .int .i64 t.high, .slice A1 t.names.length k1, .slice A2 t.fields.length k2, .slice A3 t.arms.length k3, .slice A4 t.params.length k4, .int .i64 t.result] t.fields k wr) (fun s38 _ => t.fields.length - (intOf s38).toNat)
  case atStart => exact ⟨0, by omega, rfl, ACC3.out, BA3.out, fun j x hj => absurd hj (by omega)⟩
  case round =>
    obtain ⟨k, hk, rfl, acck, bk, hno⟩ := hrel
    have ACCK := Lib.hid acck
    have BK := Lib.hid bk
    have HNO := Lib.hid hno
    clear acck bk hno c8
    by_cases hlt : k < t.fields.length
    · obtain ⟨x, hx⟩ : ∃ x, t.fields[k]? = some x := ⟨_, List.getElem?_eq_getElem hlt⟩
      obtain ⟨b, off, c', e, _, hc⟩ := fld_at (Sl.wr0 HH.out.fields ACCK.out) hx
      injection e with e1 e2 e3
      subst e1 e3
      have x0 := hc 0 _ rfl
      have x1 := hc 1 _ rfl
      have x2 := hc 2 _ rfl
      simp only [Nat.add_zero] at x0
      have hs1 := short_1 x.name (wr.alloc (.cells #[.string x.name, .int .i64 x.type, .int .i64 x.arm] 75))
      rw [World.size_alloc] at hs1
      obtain ⟨r, hr⟩ : ∃ r, shB x.name = r := ⟨_, rfl⟩
      rw [hr] at hs1
      have HS1 := Lib.hid hs1
      have HX := Lib.hid hx
      have HR := Lib.hid hr
      have h0 : (0 : Int) ≤ (k : Int) := by omega
      have h1 : (k : Int) < (t.fields.length : Int) := by omega
      clear hc e2 hs1 hx hr
      go_wp2_with fail
      refine HS1.out.mono ?_
      rintro e w5 ⟨rfl, r5'⟩
      have acc5 := (((Wr.refl [] wr).alloc (.cells #[.string x.name, .int .i64 x.type, .int .i64 x.arm] 75)).alloc (.cells #[.string x.name] 9)).trans r5'
      have ACC5 := Lib.hid acc5
      clear acc5 r5' x0 x1 x2
      cases r with
      | false =>
        have hall : t.fields.all (fun f => shB f.name) = false := by
          rw [List.all_eq_false]
          exact ⟨x, List.mem_of_getElem? HX.out, by rw [HR.out]; decide⟩
        have hrr : rr = false := by rw [HV2.out, hall]; rfl
        subst hrr
        clear HV HV2 hall
        go_wp2_with fail
        go_ret
        exact ⟨rfl, ACCK.out.trans ACC5.out⟩
      | true =>
        go_wp2_with fail
        go_roundw
        case rel =>
          refine ⟨k + 1, by omega, by go_num, ACCK.out.trans ACC5.out, BK.out.wr0 ACC5.out, fun j y hj hy => ?_⟩
          rcases Nat.lt_or_ge j k with hjk | hjk
          · exact HNO.out j y hjk hy
          · obtain rfl : j = k := by omega
            rw [HX.out] at hy
            injection hy with hy
            rw [← hy]
            exact HR.out
        case measure => simp [intOf]; omega
    · obtain rfl : k = t.fields.length := by omega
      have hall : t.fields.all (fun f => shB f.name) = true := by
        rw [List.all_eq_true]
        intro x hx
        obtain ⟨j, hj⟩ := List.getElem?_of_mem hx
        exact HNO.out j x (List.getElem?_eq_some_iff.1 hj).1 hj
      have hrr : rr = r5 := by rw [HV2.out, hall]; rfl
      subst hrr
      have c9 := (BK.out).cell 9
      simp only [List.getElem?_toArray, List.getElem?_cons_zero, List.getElem?_cons_succ] at c9
      clear hall HV HV2
      go_wp2_with fail
      refine (HSA.out _ ACCK.out).mono ?_
      rintro e w6 ⟨rfl, r6⟩
      go_wp2_with fail
      go_ret
      exact ⟨by simp, ACCK.out.trans r6⟩
end Go.Proofs.Ytjanbpchedgoiaa
