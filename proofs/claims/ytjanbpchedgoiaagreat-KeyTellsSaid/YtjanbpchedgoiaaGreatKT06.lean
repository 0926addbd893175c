/- iface's fitting: walked. No conditions. -/
import Derived.Test.YtjanbpchedgoiaaGreatKT05
import Derived.MapKept
set_option linter.unusedVariables false
set_option linter.unusedSimpArgs false
set_option maxRecDepth 100000
set_option maxHeartbeats 32000000
namespace Go.Proofs.YtjanbpchedgoiaaGreat
open Go.RowKit
theorem FaceL.forms {w : World} {P : Nat → Prop} {vu vt vi : Value} {f : FaceD} (h : FaceL w P vu vt vi f) : (∃ A c, vu = .slice A f.uses.length c ∧ f.uses.length ≤ c ∧ c ≤ maxLen) ∧ (∃ A c, vt = .slice A f.types.length c ∧ f.types.length ≤ c ∧ c ≤ maxLen) ∧ ∃ A c, vi = .slice A f.items.length c ∧ f.items.length ≤ c ∧ c ≤ maxLen :=
 ⟨Sl.form h.uses, h.types.form, Sl.form h.items⟩
theorem stored_any (V : Value) (h : V.oneCell' = true) : ∀ (w : World) (a : Addr) (m : Mode), (store a V m).run Tryz.prog w = stored Tryz.prog w a V m := fun w a m => run_store _ w a V m h
theorem anyFit_eq (v : AnyD) : anyFit v = (!(v.sort == 5) || fwB v.strV.size) := by cases v <;> rfl
def SeenF {α : Type} (w : World) (g : Nat) (cs : Array Value) (l : List α) (p : α → Bool) (k : Nat) (wr : World) : Prop := Wr [] w wr ∧ Blk wr g 35 cs ∧ ∀ (j : Nat) (x : α), j < k → l[j]? = some x → p x = true
theorem all_seen {α : Type} {l : List α} {p : α → Bool} (h : ∀ (j : Nat) (x : α), j < l.length → l[j]? = some x → p x = true) : l.all p = true := by
 rw [List.all_eq_true]
 intro x hx
 obtain ⟨j, hj⟩ := List.getElem?_of_mem hx
 exact h j x (List.getElem?_eq_some_iff.1 hj).1 hj
theorem all_bad {α : Type} {l : List α} {p : α → Bool} {k : Nat} {x : α} (hk : l[k]? = some x) (h : p x = false) : l.all p = false := by
 rw [List.all_eq_false]
 exact ⟨x, List.mem_of_getElem? hk, by rw [h]; decide⟩
theorem seen_next {α : Type} {l : List α} {p : α → Bool} {k : Nat} {x : α} (hno : ∀ (j : Nat) (x : α), j < k → l[j]? = some x → p x = true) (hk : l[k]? = some x) (h : p x = true) : ∀ (j : Nat) (x : α), j < k + 1 → l[j]? = some x → p x = true := fun j y hj hy => by
 rcases Nat.lt_or_ge j k with hjk | hjk
 ·exact hno j y hjk hy
 ·obtain rfl : j = k := by omega
  rw [hk] at hy
  injection hy with hy
  rw [← hy]
  exact h
theorem fitting_any (f : FaceD) (vu vt vi : Value) (P : Nat → Prop) (w : World) (h : FaceL w P vu vt vi f) :
  Calls Tryz.prog 39 #[.agg #[.string f.module, vu, vt, vi]] w fun e w' => e = .returned (.bool (faceFit f)) ∧ Wr [] w w' := by
 obtain ⟨⟨A1, k1, rfl, hn1, hn2⟩, ⟨A2, k2, rfl, hf1, hf2⟩, ⟨A3, k3, rfl, ha1, ha2⟩⟩ := h.forms
 have hv : faceFit f = (decide (f.uses.length ≤ 64) && (decide (f.items.length ≤ 512) && (decide (f.types.length ≤ 1024) && (shB f.module && (f.uses.all (fun u => shB u.module) && (f.types.all tyFit && f.items.all itmFit)))))) := by
  unfold faceFit
  simp only [Bool.and_assoc]
 obtain ⟨w0, hw0⟩ : ∃ q, w.alloc (.cells #[.string f.module, .slice A1 f.uses.length k1, .slice A2 f.types.length k2, .slice A3 f.items.length k3] 35) = q := ⟨_, rfl⟩
 obtain ⟨g, hg⟩ : ∃ g, w.heap.size = g := ⟨_, rfl⟩
 have acc : Wr [] w w0 := by rw [← hw0]; exact (Wr.refl [] _).alloc _
 have bA : Blk w0 g 35 #[.string f.module, .slice A1 f.uses.length k1, .slice A2 f.types.length k2, .slice A3 f.items.length k3] := by rw [← hw0, ← hg]; exact Blk.new _ _ _
 have hs1 := short_1 f.module w0
 obtain ⟨r1, hr1⟩ : ∃ r, shB f.module = r := ⟨_, rfl⟩
 obtain ⟨rr, hrr⟩ : ∃ r, faceFit f = r := ⟨_, rfl⟩
 rw [hr1] at hs1
 rw [hr1, hrr] at hv
 rw [hrr]
 unfold maxLen at hn2 hf2 ha2
 have HS1 := qh hs1
 have HV := qh hv
 have HW0 := qh hw0
 have HG := qh hg
 have ACC := qh acc
 have BA := qh bA
 have HH := qh h
 clear hs1 hv hr1 hrr hw0 hg acc bA h
 go_enter Tryz.func39, Tryz.ntmps39
 go_upto_region 1 with (fail)
 rw [HW0.out, HG.out]
 have c0 := (BA.out).cell 0
 have c1 := (BA.out).cell 1
 have c2 := (BA.out).cell 2
 have c3 := (BA.out).cell 3
 simp only [qgaq, qgzq, qgsq] at c0 c1 c2 c3
 by_cases q1 : 64 < f.uses.length
 ·have q1i : decide ((64 : Int) < (f.uses.length : Int)) = true := qdtq (by omega)
  have q1n : decide (64 < f.uses.length) = true := qdtq q1
  have hrr : rr = false := by rw [HV.out, qdfq (show ¬ f.uses.length ≤ 64 by omega)]; rfl
  subst hrr
  clear HV
  go_wp2_with fail
  go_ret
  exact ⟨rfl, ACC.out⟩
 have q1i : decide ((64 : Int) < (f.uses.length : Int)) = false := qdfq (by omega)
 have q1n : decide (64 < f.uses.length) = false := qdfq q1
 by_cases q2 : 512 < f.items.length
 ·have q2i : decide ((512 : Int) < (f.items.length : Int)) = true := qdtq (by omega)
  have q2n : decide (512 < f.items.length) = true := qdtq q2
  have hrr : rr = false := by rw [HV.out, qdfq (show ¬ f.items.length ≤ 512 by omega), Bool.and_comm]; rfl
  subst hrr
  clear HV
  go_wp2_with fail
  go_ret
  exact ⟨rfl, ACC.out⟩
 have q2i : decide ((512 : Int) < (f.items.length : Int)) = false := qdfq (by omega)
 have q2n : decide (512 < f.items.length) = false := qdfq q2
 by_cases q3 : 1024 < f.types.length
 ·have q3i : decide ((1024 : Int) < (f.types.length : Int)) = true := qdtq (by omega)
  have q3n : decide (1024 < f.types.length) = true := qdtq q3
  have hrr : rr = false := by rw [HV.out, qdfq (show ¬ f.types.length ≤ 1024 by omega)]; simp
  subst hrr
  clear HV
  go_wp2_with fail
  go_ret
  exact ⟨rfl, ACC.out⟩
 have q3i : decide ((1024 : Int) < (f.types.length : Int)) = false := qdfq (by omega)
 have q3n : decide (1024 < f.types.length) = false := qdfq q3
 have hv1 : rr = (r1 && (f.uses.all (fun u => shB u.module) && (f.types.all tyFit && f.items.all itmFit))) := by
  rw [HV.out, qdtq (show f.uses.length ≤ 64 by omega), qdtq (show f.items.length ≤ 512 by omega), qdtq (show f.types.length ≤ 1024 by omega)]
  rfl
 have HV1 := qh hv1
 clear hv1 HV q1 q2 q3
 go_wp2_with fail
 refine HS1.out.mono ?_
 rintro e w1 ⟨rfl, k⟩
 have acc1 := (Wr.refl [] w0).alloc (.cells #[.string f.module] 9) |>.trans k
 have ACC1 := qh (ACC.out.trans acc1)
 have BA1 := qh (BA.out.wr0 acc1)
 clear k acc1 c0 c1 c2 c3
 cases r1 with
 | false =>
  have hrr : rr = false := by rw [HV1.out]; rfl
  subst hrr
  clear HV1
  go_wp2_with fail
  go_ret
  exact ⟨rfl, ACC1.out⟩
 | true =>
 have hv2 : rr = (f.uses.all (fun u => shB u.module) && (f.types.all tyFit && f.items.all itmFit)) := by rw [HV1.out]; rfl
 have HV2 := qh hv2
 have c1 := (BA1.out).cell 1
 simp only [qgaq, qgzq, qgsq] at c1
 clear hv2 HV1
 go_wp2_with fail
 go_loopw [37] (fun s37 wr => ∃ k : Nat, k ≤ f.uses.length ∧ s37 = .int .i64 k ∧ SeenF w g #[.string f.module, .slice A1 f.uses.length k1, .slice A2 f.types.length k2, .slice A3 f.items.length k3] f.uses (fun u => shB u.module) k wr) (fun s37 _ => f.uses.length - (intOf s37).toNat)
 case atStart => exact ⟨0, by omega, rfl, ACC1.out, BA1.out, fun j x hj => absurd hj (by omega)⟩
 case round =>
  obtain ⟨k, hk, rfl, acck, bk, hno⟩ := hrel
  have ACCK := qh acck
  have BK := qh bk
  have HNO := qh hno
  clear acck bk hno c1
  by_cases hlt : k < f.uses.length
  ·obtain ⟨x, hx⟩ : ∃ x, f.uses[k]? = some x := ⟨_, qgeq hlt⟩
   obtain ⟨b, off, c', e, _, hc⟩ := useF_at (Sl.wr0 HH.out.uses ACCK.out) hx
   injection e with e1 e2 e3
   subst e1 e3
   have x0 := hc 0 _ rfl
   have x1 := hc 1 _ rfl
   simp only [Nat.add_zero] at x0
   have hs1 := short_1 x.module (wr.alloc (.cells #[.string x.module, .int .u64 x.key] 45))
   rw [qsiq] at hs1
   obtain ⟨r, hr⟩ : ∃ r, shB x.module = r := ⟨_, rfl⟩
   rw [hr] at hs1
   have HS := qh hs1
   have HX := qh hx
   have HR := qh hr
   have h0 : (0 : Int) ≤ (k : Int) := by omega
   have h1 : (k : Int) < (f.uses.length : Int) := by omega
   clear hc e2 hs1 hx hr
   go_wp2_with fail
   refine HS.out.mono ?_
   rintro e w5 ⟨rfl, r5'⟩
   have acc5 := (((Wr.refl [] wr).alloc (.cells #[.string x.module, .int .u64 x.key] 45)).alloc (.cells #[.string x.module] 9)).trans r5'
   have ACC5 := qh acc5
   clear acc5 r5' x0 x1
   cases r with
   | false =>
    have hrr : rr = false := by rw [HV2.out, all_bad (p := fun u => shB u.module) HX.out HR.out]; rfl
    subst hrr
    clear HV2
    go_wp2_with fail
    go_ret
    exact ⟨rfl, ACCK.out.trans ACC5.out⟩
   | true =>
    go_wp2_with fail
    go_roundw
    case rel => exact ⟨k + 1, by omega, by go_num, ACCK.out.trans ACC5.out, BK.out.wr0 ACC5.out, seen_next HNO.out HX.out HR.out⟩
    case measure => simp [intOf]; omega
  ·obtain rfl : k = f.uses.length := by omega
   have hv3 : rr = (f.types.all tyFit && f.items.all itmFit) := by rw [HV2.out, all_seen HNO.out]; rfl
   have HV3 := qh hv3
   have c2 := (BK.out).cell 2
   simp only [qgaq, qgzq, qgsq] at c2
   clear hv3 HV2
   go_wp2_with fail
   go_loopw [50] (fun s50 wr => ∃ k : Nat, k ≤ f.types.length ∧ s50 = .int .i64 k ∧ SeenF w g #[.string f.module, .slice A1 f.uses.length k1, .slice A2 f.types.length k2, .slice A3 f.items.length k3] f.types tyFit k wr) (fun s50 _ => f.types.length - (intOf s50).toNat)
   case atStart => exact ⟨0, by omega, rfl, ACCK.out, BK.out, fun j x hj => absurd hj (by omega)⟩
   case round =>
    obtain ⟨k, hk, rfl, acck, bk, hno⟩ := hrel
    have ACCT := qh acck
    have BT := qh bk
    have HNOT := qh hno
    clear acck bk hno c2
    by_cases hlt : k < f.types.length
    ·obtain ⟨x, hx⟩ : ∃ x, f.types[k]? = some x := ⟨_, qgeq hlt⟩
     obtain ⟨b, off, c', un, uf, ua, up, e, _, hc, hl⟩ := ty_at (HH.out.types.wr0 ACCT.out) hx
     injection e with e1 e2 e3
     subst e1 e3
     obtain ⟨⟨B1, m1, rfl, _, _⟩, ⟨B2, m2, rfl, _, _⟩, ⟨B3, m3, rfl, _, _⟩, ⟨B4, m4, rfl, _, _⟩⟩ := hl.forms
     have x0 := hc 0 _ rfl
     have x1 := hc 1 _ rfl
     have x2 := hc 2 _ rfl
     have x3 := hc 3 _ rfl
     have x4 := hc 4 _ rfl
     have x5 := hc 5 _ rfl
     have x6 := hc 6 _ rfl
     have x7 := hc 7 _ rfl
     have x8 := hc 8 _ rfl
     have x9 := hc 9 _ rfl
     have x10 := hc 10 _ rfl
     have x11 := hc 11 _ rfl
     simp only [Nat.add_zero] at x0
     have hft := fits_any x _ _ _ _ _ (wr.alloc (.cells #[.int .u8 x.kind, .string x.module, .string x.name, .int .i64 x.base, .int .i64 x.index, .int .i64 x.low, .int .i64 x.high, .slice B1 x.names.length m1, .slice B2 x.fields.length m2, .slice B3 x.arms.length m3, .slice B4 x.params.length m4, .int .i64 x.result] 52)) (hl.wr0 ((Wr.refl [] wr).alloc _))
     obtain ⟨r, hr⟩ : ∃ r, tyFit x = r := ⟨_, rfl⟩
     rw [hr] at hft
     have HFT := qh hft
     have HX := qh hx
     have HR := qh hr
     have h0 : (0 : Int) ≤ (k : Int) := by omega
     have h1 : (k : Int) < (f.types.length : Int) := by omega
     clear hc e2 hft hx hr hl
     go_wp2_with fail
     refine HFT.out.mono ?_
     rintro e w5 ⟨rfl, r5'⟩
     have acc5 := ((Wr.refl [] wr).alloc (.cells #[.int .u8 x.kind, .string x.module, .string x.name, .int .i64 x.base, .int .i64 x.index, .int .i64 x.low, .int .i64 x.high, .slice B1 x.names.length m1, .slice B2 x.fields.length m2, .slice B3 x.arms.length m3, .slice B4 x.params.length m4, .int .i64 x.result] 52)).trans r5'
     have ACC5 := qh acc5
     clear acc5 r5' x0 x1 x2 x3 x4 x5 x6 x7 x8 x9 x10 x11
     cases r with
     | false =>
      have hrr : rr = false := by rw [HV3.out, all_bad (p := tyFit) HX.out HR.out]; rfl
      subst hrr
      clear HV3
      go_wp2_with fail
      go_ret
      exact ⟨rfl, ACCT.out.trans ACC5.out⟩
     | true =>
      go_wp2_with fail
      go_roundw
      case rel => exact ⟨k + 1, by omega, by go_num, ACCT.out.trans ACC5.out, BT.out.wr0 ACC5.out, seen_next HNOT.out HX.out HR.out⟩
      case measure => simp [intOf]; omega
    ·obtain rfl : k = f.types.length := by omega
     have hv4 : rr = f.items.all itmFit := by rw [HV3.out, all_seen HNOT.out]; rfl
     have HV4 := qh hv4
     have c3 := (BT.out).cell 3
     simp only [qgaq, qgzq, qgsq] at c3
     clear hv4 HV3
     go_wp2_with fail
     go_loopw [61] (fun s61 wr => ∃ k : Nat, k ≤ f.items.length ∧ s61 = .int .i64 k ∧ SeenF w g #[.string f.module, .slice A1 f.uses.length k1, .slice A2 f.types.length k2, .slice A3 f.items.length k3] f.items itmFit k wr) (fun s61 _ => f.items.length - (intOf s61).toNat)
     case atStart => exact ⟨0, by omega, rfl, ACCT.out, BT.out, fun j x hj => absurd hj (by omega)⟩
     case round =>
      obtain ⟨k, hk, rfl, acck, bk, hno⟩ := hrel
      have ACCI := qh acck
      have BI := qh bk
      have HNOI := qh hno
      clear acck bk hno c3
      by_cases hlt : k < f.items.length
      ·obtain ⟨x, hx⟩ : ∃ x, f.items[k]? = some x := ⟨_, qgeq hlt⟩
       obtain ⟨b, off, c', e, _, hc⟩ := itm_at (Sl.wr0 HH.out.items ACCI.out) hx
       injection e with e1 e2 e3
       subst e1 e3
       have x0 := hc 0 _ rfl
       have x1 := hc 1 _ rfl
       have x2 := hc 2 _ rfl
       have x3 := hc 3 _ rfl
       have x4 := hc 4 _ rfl
       simp only [Nat.add_zero] at x0
       have hst := stored_any x.v.val x.v.val_one
       have hta := fun w => anyAs_string x.v w
       obtain ⟨V, hV⟩ : ∃ V, x.v.val = V := ⟨_, rfl⟩
       obtain ⟨sv, hsv⟩ : ∃ s, x.v.strV = s := ⟨_, rfl⟩
       obtain ⟨is, his⟩ : ∃ b, (x.v.sort == 5) = b := ⟨_, rfl⟩
       have hfe := anyFit_eq x.v
       rw [hsv, his] at hta hfe
       rw [hV] at x3 hst hta
       have hs1 := short_1 x.name (wr.alloc (.cells #[.string x.name, .int .u8 x.kind, .int .i64 x.type, V, .int .i64 x.at_] 59))
       rw [qsiq] at hs1
       obtain ⟨r, hr⟩ : ∃ r, shB x.name = r := ⟨_, rfl⟩
       rw [hr] at hs1
       have hfx : itmFit x = (r && (!is || fwB sv.size)) := by unfold itmFit; rw [hr, hfe]
       have HS := qh hs1
       have HX := qh hx
       have HFX := qh hfx
       have h0 : (0 : Int) ≤ (k : Int) := by omega
       have h1 : (k : Int) < (f.items.length : Int) := by omega
       clear hc e2 hs1 hx hr hV hsv his hfe hfx
       go_wp2_with fail
       refine HS.out.mono ?_
       rintro e w5 ⟨rfl, r5'⟩
       have acc5 := (((Wr.refl [] wr).alloc (.cells #[.string x.name, .int .u8 x.kind, .int .i64 x.type, V, .int .i64 x.at_] 59)).alloc (.cells #[.string x.name] 9)).trans r5'
       have ACC5 := qh (ACCI.out.trans acc5)
       have BI5 := qh (BI.out.wr0 acc5)
       clear acc5 r5' x0 x1 x2 x3 x4 hst hta
       cases r with
       | false =>
        have hrr : rr = false := by rw [HV4.out, all_bad (p := itmFit) HX.out (by rw [HFX.out]; rfl)]
        subst hrr
        clear HV4
        go_wp2_with fail
        go_ret
        exact ⟨rfl, ACC5.out⟩
       | true =>
        cases is with
        | false =>
         go_wp2_with fail
         go_roundw
         case rel => exact ⟨k + 1, by omega, by go_num, ACC5.out, BI5.out, seen_next HNOI.out HX.out (by rw [HFX.out]; rfl)⟩
         case measure => simp [intOf]; omega
        | true =>
         have hf1 := few_1 sv.size w5
         obtain ⟨rf, hrf⟩ : ∃ r, fwB sv.size = r := ⟨_, rfl⟩
         rw [hrf] at hf1
         have HF1 := qh hf1
         have HRF := qh hrf
         clear hf1 hrf
         go_wp2_with fail
         refine HF1.out.mono ?_
         rintro e w6 ⟨rfl, r6⟩
         have acc6 := ((Wr.refl [] w5).alloc (.cells #[.int .i64 (sv.size : Int)] 3)).trans r6
         have ACC6 := qh (ACC5.out.trans acc6)
         have BI6 := qh (BI5.out.wr0 acc6)
         clear acc6 r6
         cases rf with
         | false =>
          have hrr : rr = false := by rw [HV4.out, all_bad (p := itmFit) HX.out (by rw [HFX.out, HRF.out]; rfl)]
          subst hrr
          clear HV4
          go_wp2_with fail
          go_ret
          exact ⟨rfl, ACC6.out⟩
         | true =>
          go_wp2_with fail
          go_roundw
          case rel => exact ⟨k + 1, by omega, by go_num, ACC6.out, BI6.out, seen_next HNOI.out HX.out (by rw [HFX.out, HRF.out]; rfl)⟩
          case measure => simp [intOf]; omega
      ·obtain rfl : k = f.items.length := by omega
       have hrr : rr = true := by rw [HV4.out, all_seen HNOI.out]
       subst hrr
       clear HV4
       go_wp2_with fail
       go_ret
       exact ⟨rfl, ACCI.out⟩
theorem ins_at {P : Program} {T K E : TypeId} {d : TypeDesc} (hu : P.underlying T = some (.map K E)) (hk : P.underlying K = some d) (w1 : World) (r : Nat) (es : Array MapEntry) (c : Nat) (k v : Value)
  (hw : w1.heap[r]? = some (.map es c)) (hc : ∀ w, (Instr.checkKey false 10000 K k).run P w = .ok () w) (hf : Instr.findNow d k es.toList 0 = some none) :
  (Instr.mapUpdate T (.map (some r)) k v).run P w1 = .ok () { w1 with heap := w1.heap.setIfInBounds r (.map (es.push { key := k, val := v, born := c }) (c + 1)) } := by
 simp [Instr.mapUpdate, run_underlying hu, Sem.run_bind, hc, Instr.findKey, run_underlying hk, hf, getObj, setObj, Sem.run, hw, Result.andThen]
theorem look_at {P : Program} {T K E : TypeId} {d : TypeDesc} (hu : P.underlying T = some (.map K E)) (hk : P.underlying K = some d) (w : World) (r : Nat) (es : Array MapEntry) (c : Nat) (k : Value) (o : Option (Nat × Value)) (z : Value)
  (hw : w.heap[r]? = some (.map es c)) (hc : ∀ b w, (Instr.checkKey b 10000 K k).run P w = .ok () w) (hf : Instr.findNow d k es.toList 0 = some o) (hz : ∀ w, (zeroValue E).run P w = .ok z w) (ok : Bool) :
  (Instr.lookup T (.map (some r)) k ok).run P w = .ok (bif ok then .tuple #[(o.map (·.2)).getD z, .bool o.isSome] else (o.map (·.2)).getD z) w := by
 cases o with
 | none => cases ok <;> simp [Instr.lookup, run_underlying hu, Sem.run_bind, hc, Instr.findKey, run_underlying hk, hf, getObj, Sem.run, hw, Result.andThen, hz]
 | some p => cases ok <;> simp [Instr.lookup, run_underlying hu, Sem.run_bind, hc, Instr.findKey, run_underlying hk, hf, getObj, Sem.run, hw, Result.andThen]
theorem beqB (a b : ByteArray) : (a == b) = decide (a = b) := by
 rw [Bool.eq_iff_iff, decide_eq_true_iff]
 obtain ⟨x⟩ := a
 obtain ⟨y⟩ := b
 show (x == y) = true ↔ _
 rw [beq_iff_eq]
 simp
def fndS : List MapEntry → ByteArray → Option Value
 | [], _ => none
 | e :: l, k => match e.key with | .string a => if a = k then some e.val else fndS l k | _ => none
def StrKeys (l : List MapEntry) : Prop := ∀ e ∈ l, ∃ a, e.key = .string a
theorem findNow_str : ∀ (l : List MapEntry) (k : ByteArray) (i : Nat), StrKeys l → ∃ o, Instr.findNow .string (.string k) l i = some o ∧ o.map (·.2) = fndS l k ∧
  ∀ p, o = some p → ∃ j e, p.1 = i + j ∧ l[j]? = some e ∧ e.key = .string k ∧ ∀ v k', fndS (l.modify j fun e => { e with key := .string k, val := v }) k' = if k' = k then some v else fndS l k'
 | [], k, i, _ => ⟨none, rfl, rfl, fun p h => by cases h⟩
 | e :: l, k, i, h => by
  obtain ⟨a, ha⟩ := h e (.head _)
  by_cases hak : a = k
  ·subst hak
   refine ⟨some (i, e.val), ?_, ?_, ?_⟩
   ·simp [Instr.findNow, Instr.sameNow, ha, beqB]
   ·simp [fndS, ha]
   ·intro p hp
    injection hp with hp
    subst hp
    refine ⟨0, e, by simp, rfl, ha, fun v k' => ?_⟩
    simp only [List.modify_zero_cons, fndS, ha]
    by_cases h1 : k' = a
    ·subst h1; simp
    ·have h2 : ¬ a = k' := fun e => h1 e.symm
     simp [h1, h2]
  ·obtain ⟨o, h1, h2, h3⟩ := findNow_str l k (i + 1) (fun e he => h e (.tail _ he))
   refine ⟨o, ?_, ?_, ?_⟩
   ·have : (k == a) = false := by rw [beqB]; exact qdfq (fun e => hak e.symm)
    simp [Instr.findNow, Instr.sameNow, ha, this, h1]
   ·simp [fndS, ha, hak, h2]
   ·intro p hp
    obtain ⟨j, e', g1, g2, g3, g4⟩ := h3 p hp
    refine ⟨j + 1, e', by omega, g2, g3, fun v k' => ?_⟩
    simp only [List.modify_succ_cons, fndS, ha]
    by_cases h5 : a = k'
    ·subst h5
     simp [hak]
    ·simp only [h5, if_false]
     exact g4 v k'
theorem fndS_push (l : List MapEntry) (k : ByteArray) (v : Value) (b : Nat) (h : fndS l k = none) (hk : StrKeys l) (k' : ByteArray) : fndS (l ++ [{ key := .string k, val := v, born := b }]) k' = if k' = k then some v else fndS l k' := by
 induction l with
 | nil =>
  simp only [List.nil_append, fndS]
  by_cases h1 : k' = k
  ·subst h1; simp
  ·have : ¬ k = k' := fun e => h1 e.symm
   simp [h1, this]
 | cons e l ih =>
  obtain ⟨a, ha⟩ := hk e (.head _)
  simp only [List.cons_append, fndS, ha] at h ⊢
  by_cases h2 : a = k
  ·simp [h2] at h
  ·rw [if_neg h2] at h
   by_cases h3 : a = k'
   ·subst h3
    simp [h2]
   ·simp only [h3, if_false]
    exact ih h (fun e he => hk e (.tail _ he))
theorem strKeys_modify (l : List MapEntry) (h : StrKeys l) (j : Nat) (k : ByteArray) (v : Value) : StrKeys (l.modify j fun e => { e with key := .string k, val := v }) := by
 intro e he
 obtain ⟨i, hi⟩ := List.mem_iff_getElem?.1 he
 rw [List.getElem?_modify] at hi
 cases hx : l[i]? with
 | none => rw [hx] at hi; cases hi
 | some x =>
  rw [hx] at hi
  by_cases hj : j = i
  ·subst hj
   simp at hi
   subst hi
   exact ⟨k, rfl⟩
  ·simp [hj] at hi
   subst hi
   exact h x (List.mem_of_getElem? hx)
def MapS (w : World) (r : Nat) (kn : ByteArray → Option Value) : Prop := ∃ es c, w.heap[r]? = some (.map es c) ∧ StrKeys es.toList ∧ ∀ k, fndS es.toList k = kn k
theorem MapS.wr {w w' : World} {r : Nat} {kn : ByteArray → Option Value} {l : List Nat} (h : MapS w r kn) (hw : Wr l w w') (hr : r ∉ l) : MapS w' r kn := by
 obtain ⟨es, c, h1, h2, h3⟩ := h
 have hlt : r < w.heap.size := by
  rcases Nat.lt_or_ge r w.heap.size with h | h
  ·exact h
  ·rw [Array.getElem?_eq_none h] at h1; cases h1
 exact ⟨es, c, (hw.block r hlt hr).trans h1, h2, h3⟩
theorem MapS.lt {w : World} {r : Nat} {kn : ByteArray → Option Value} (h : MapS w r kn) : r < w.heap.size := by
 obtain ⟨es, c, h1, h2, h3⟩ := h
 rcases Nat.lt_or_ge r w.heap.size with h | h
 ·exact h
 ·rw [Array.getElem?_eq_none h] at h1; cases h1
theorem MapS.new (w : World) : MapS (w.alloc (.map #[] 0)) w.heap.size (fun _ => none) := ⟨#[], 0, heap_alloc_new w _, by simp [StrKeys], fun k => rfl⟩
section
variable {P : Program} {T K E : TypeId} (hu : P.underlying T = some (.map K E)) (hk : P.underlying K = some .string)
include hu hk
theorem mapS_upd {w : World} {r : Nat} {kn : ByteArray → Option Value} (h : MapS w r kn) (k : ByteArray) (v : Value) :
  ∃ W, (Instr.mapUpdate T (.map (some r)) (.string k) v).run P w = .ok () W ∧ Wr [r] w W ∧ MapS W r (fun j => if j = k then some v else kn j) := by
 have hr := h.lt
 obtain ⟨es, c, h1, h2, h3⟩ := h
 have hc : ∀ w, (Instr.checkKey false 10000 K (.string k)).run P w = .ok () w := fun w => MapKept.run_checkKey hk (by simp [MapKept.IsKey]) false 9999
 have hW : ∀ o, Wr [r] w { w with heap := w.heap.setIfInBounds r o } := fun o => ⟨rfl, rfl, rfl, by simp, fun j _ hj => by
  have : r ≠ j := fun e => hj (by simp [e])
  simp [this]⟩
 have hH : ∀ o, (w.heap.setIfInBounds r o)[r]? = some o := fun o => by simp [hr]
 obtain ⟨o, g1, g2, g3⟩ := findNow_str es.toList k 0 h2
 cases o with
 | none =>
  refine ⟨_, ins_at hu hk w r es c (.string k) v h1 hc g1, hW _, _, _, hH _, ?_, ?_⟩
  ·intro e he
   simp only [Array.toList_push, List.mem_append, qmsq] at he
   rcases he with he | rfl
   ·exact h2 e he
   ·exact ⟨k, rfl⟩
  ·intro k'
   rw [Array.toList_push, fndS_push es.toList k v c g2.symm h2 k', h3]
 | some p =>
  obtain ⟨j, e, q1, q2, q3, q4⟩ := g3 p rfl
  have hj : es[p.1]? = some e := by
   rw [q1, Nat.zero_add, ← Array.getElem?_toList]
   exact q2
  have hrun : (Instr.mapUpdate T (.map (some r)) (.string k) v).run P w = .ok () { w with heap := w.heap.setIfInBounds r (.map (es.modify p.1 fun e => { e with key := .string k, val := v }) c) } := by
   obtain ⟨a, b⟩ := p
   simp only at hj
   simp [Instr.mapUpdate, run_underlying hu, Sem.run_bind, hc, Instr.findKey, run_underlying hk, g1, getObj, setObj, Sem.run, h1, Result.andThen, hj, q3]
   have := MapKept.run_keyThatStays (P := P) (w := w) (d := .string) (k := .string k) (by simp [MapKept.IsKey])
   rw [this]
   simp [h1]
  refine ⟨_, hrun, hW _, _, _, hH _, ?_, ?_⟩
  ·rw [Array.toList_modify]
   exact strKeys_modify _ h2 _ _ _
  ·intro k'
   rw [Array.toList_modify, q1, Nat.zero_add, q4 v k', h3]
theorem mapS_look1 {w : World} {r : Nat} {kn : ByteArray → Option Value} (h : MapS w r kn) (k : ByteArray) {z : Value} (hz : ∀ w, (zeroValue E).run P w = .ok z w) :
  (Instr.lookup T (.map (some r)) (.string k) false).run P w = .ok ((kn k).getD z) w := by
 obtain ⟨es, c, h1, h2, h3⟩ := h
 obtain ⟨o, g1, g2, _⟩ := findNow_str es.toList k 0 h2
 have hc : ∀ b w, (Instr.checkKey b 10000 K (.string k)).run P w = .ok () w := fun b w => MapKept.run_checkKey hk (by simp [MapKept.IsKey]) b 9999
 have := look_at hu hk w r es c (.string k) o z h1 hc g1 hz false
 rw [g2, h3] at this
 exact this
end
def SeenN (l : List ByteArray) (j : ByteArray) : Option Value := if inL j l = true then some (.int .i64 1) else none
theorem onceB_drop {l : List ByteArray} {k : Nat} {s : ByteArray} (seen : List ByteArray) (h : l[k]? = some s) : onceB seen (l.drop k) = (!(inL s seen) && onceB (seen ++ [s]) (l.drop (k + 1))) := by
 have hk := (List.getElem?_eq_some_iff.1 h).1
 have e : l[k] = s := (List.getElem?_eq_some_iff.1 h).2
 conv => lhs; rw [List.drop_eq_getElem_cons hk, onceB]
 rw [e]
theorem take_next {l : List ByteArray} {k : Nat} {s : ByteArray} (h : l[k]? = some s) : l.take (k + 1) = l.take k ++ [s] := by rw [List.take_add_one, h]; rfl
theorem inL_snocF (j m : ByteArray) (l : List ByteArray) : inL j (l ++ [m]) = (inL j l || decide (m = j)) := by
 unfold inL
 rw [List.any_append]
 simp
theorem seenN_next (l : List ByteArray) (s : ByteArray) : (fun j => if j = s then some (Value.int .i64 1) else SeenN l j) = SeenN (l ++ [s]) := by
 funext j
 unfold SeenN
 rw [inL_snocF]
 by_cases hj : j = s
 ·subst hj; simp
 ·have : ¬ s = j := fun e => hj e.symm
  simp [hj, this]
def OnceAt (w : World) (r : Nat) (l : List ByteArray) (k : Nat) (wr : World) : Prop := Wr [] w wr ∧ w.heap.size ≤ r ∧ MapS wr r (SeenN (l.take k)) ∧ onceB [] l = onceB (l.take k) (l.drop k)
theorem onceUQ (x : UseD) (w : World) : Calls Tryz.prog 41 #[.agg #[.string x.module, .int .u64 x.key]] w fun e w' => e = .returned (.string x.module) ∧ Wr [] w w' := by
 go_enter Tryz.func41, Tryz.ntmps41
 go_wp2_with fail
 go_ret
 exact ⟨rfl, (Wr.refl [] w).alloc _⟩
theorem onceU_any (l : List UseD) (v : Value) (P : Nat → Prop) (w : World) (h : SlUsesF w P v l) :
  Calls Tryz.prog 40 #[v, .func (.func 41) #[] #[]] w fun e w' => e = .returned (.bool (onceB [] (l.map fun x => x.module))) ∧ Wr [] w w' := by
 have hmm := @run_makeMap Tryz.prog
 have hen : ∀ args w, (callFunc 41 args).run Tryz.prog w = .ok (.enter 41 args) w := fun args w => rfl
 obtain ⟨A, c, rfl, l1, l2⟩ := Sl.form h
 unfold maxLen at l2
 obtain ⟨ns, hns⟩ : ∃ ns, (l.map fun x => x.module) = ns := ⟨_, rfl⟩
 obtain ⟨rr, hrr⟩ : ∃ r, onceB [] ns = r := ⟨_, rfl⟩
 rw [hns, hrr]
 have hnl : ns.length = l.length := by rw [← hns, qlmq]
 obtain ⟨w0, hw0⟩ : ∃ q, w.alloc (.map #[] 0) = q := ⟨_, rfl⟩
 obtain ⟨g, hg⟩ : ∃ g, w.heap.size = g := ⟨_, rfl⟩
 have acc : Wr [] w w0 := by rw [← hw0]; exact (Wr.refl [] _).alloc _
 have hm0 : MapS w0 g (SeenN (ns.take 0)) := by
  rw [← hw0, ← hg]
  exact MapS.new w
 have HH := qh h
 have HNS := qh hns
 have HRR := qh hrr
 have HNL := qh hnl
 have HW0 := qh hw0
 have HG := qh hg
 have ACC := qh acc
 have HM0 := qh hm0
 clear h hns hrr hnl hw0 hg acc hm0
 go_enter Tryz.func40, Tryz.ntmps40
 go_upto_region 2 with (fail)
 rw [HW0.out, HG.out]
 go_wp2_with fail
 go_loopw [11] (fun s11 wr => ∃ k : Nat, k ≤ l.length ∧ s11 = .int .i64 k ∧ OnceAt w g ns k wr) (fun s11 _ => l.length - (intOf s11).toNat)
 case atStart => exact ⟨0, by omega, rfl, ACC.out, by rw [HG.out]; exact Nat.le_refl _, HM0.out, rfl⟩
 case round =>
  obtain ⟨k, hk, rfl, acck, hgk, hmap, hord⟩ := hrel
  have HORD := qh hord
  have ACCK := qh acck
  have HMAP := qh hmap
  clear hord acck hmap
  by_cases hlt : k < l.length
  ·obtain ⟨x, hx⟩ : ∃ x, l[k]? = some x := ⟨_, qgeq hlt⟩
   have hnx : ns[k]? = some x.module := by rw [← HNS.out, qgmq, hx]; rfl
   obtain ⟨b, off, c', e, _, hc⟩ := useF_at (Sl.wr0 HH.out ACCK.out) hx
   injection e with e1 e2 e3
   subst e1 e3
   have x0 := hc 0 _ rfl
   have x1 := hc 1 _ rfl
   simp only [Nat.add_zero] at x0
   have hd := onceB_drop (ns.take k) hnx
   have htn := take_next hnx
   obtain ⟨w1, hw1⟩ : ∃ q, wr.alloc (.cells #[.string x.module, .int .u64 x.key] 45) = q := ⟨_, rfl⟩
   obtain ⟨z, hz⟩ : ∃ z, wr.heap.size = z := ⟨_, rfl⟩
   have r1 : Wr [] wr w1 := by rw [← hw1]; exact (Wr.refl [] _).alloc _
   have b1 : Blk w1 z 45 #[.string x.module, .int .u64 x.key] := by rw [← hw1, ← hz]; exact Blk.new _ _ _
   have hq := fun W => onceUQ x W
   have HQ := qh hq
   have HD := qh hd
   have HTN := qh htn
   have HW1 := qh hw1
   have HZ := qh hz
   have R1 := qh r1
   have B1 := qh b1
   have h0 : (0 : Int) ≤ (k : Int) := by omega
   have h1 : (k : Int) < (l.length : Int) := by omega
   clear hc e2 hx hnx hd htn hw1 hz r1 b1 hq
   go_upto_region 5 with (fail)
   rw [HZ.out, HW1.out]
   clear x0 x1
   have y0 := B1.out.cell 0
   have y1 := B1.out.cell 1
   simp only [qgaq, qgzq, qgsq] at y0 y1
   go_wp2_with fail
   refine (HQ.out _).mono ?_
   rintro e w2 ⟨rfl, r2⟩
   have R2 := qh (R1.out.trans r2)
   have hmap2 := HMAP.out.wr R2.out (by simp)
   have hl := mapS_look1 Tryz.underlying153 Tryz.underlying9 hmap2 x.module Tryz.zeroValue3
   have HM2 := qh hmap2
   have B2 := qh (B1.out.wr0 r2)
   clear r2 hmap2 y0 y1
   cases hct : inL x.module (ns.take k) with
   | true =>
    have hrf : rr = false := by rw [← HRR.out, HORD.out, HD.out, hct]; rfl
    rw [show SeenN (ns.take k) x.module = some (.int .i64 1) from if_pos hct, Option.getD_some] at hl
    subst hrf
    clear hct HRR
    go_wp2_with fail
    go_ret
    exact ⟨rfl, ACCK.out.trans R2.out⟩
   | false =>
    have hord2 : onceB [] ns = onceB (ns.take (k + 1)) (ns.drop (k + 1)) := by rw [HORD.out, HD.out, hct, HTN.out]; rfl
    rw [show SeenN (ns.take k) x.module = none from if_neg (by rw [hct]; decide), Option.getD_none] at hl
    have HCT := qh hct
    have HORD2 := qh hord2
    have y0 := B2.out.cell 0
    have y1 := B2.out.cell 1
    simp only [qgaq, qgzq, qgsq] at y0 y1
    clear hct hord2
    go_wp2_with fail
    refine (HQ.out _).mono ?_
    rintro e w3 ⟨rfl, r3⟩
    have hmap3 := HM2.out.wr r3 (by simp)
    clear hl
    have hl := mapS_look1 Tryz.underlying153 Tryz.underlying9 hmap3 x.module Tryz.zeroValue3
    rw [show SeenN (ns.take k) x.module = none from if_neg (by rw [HCT.out]; decide), Option.getD_none] at hl
    obtain ⟨w4, hu, r4, hmap4⟩ := mapS_upd Tryz.underlying153 Tryz.underlying9 hmap3 x.module (.int .i64 1)
    rw [seenN_next, ← HTN.out] at hmap4
    have HM4 := qh hmap4
    have R4 := qh ((ACCK.out.trans (R2.out.trans r3)).new r4 hgk)
    clear r3 r4 hmap3 hmap4 y0 y1
    go_wp2_with fail
    go_roundw
    case rel => exact ⟨k + 1, by omega, by go_num, R4.out, hgk, HM4.out, HORD2.out⟩
    case measure => simp [intOf]; omega
  ·obtain rfl : k = l.length := by omega
   have hrt : rr = true := by
    rw [← HRR.out, HORD.out, ← HNL.out, List.drop_length]
    rfl
   subst hrt
   clear HRR
   go_wp2_with fail
   go_ret
   exact ⟨rfl, ACCK.out⟩
theorem onceEQ (V : Value) (hV : V.oneCell' = true) (x : ItmD) (w : World) : Calls Tryz.prog 43 #[.agg #[.string x.name, .int .u8 x.kind, .int .i64 x.type, V, .int .i64 x.at_]] w fun e w' => e = .returned (.string x.name) ∧ Wr [] w w' := by
 have hst := stored_any V hV
 go_enter Tryz.func43, Tryz.ntmps43
 go_wp2_with fail
 go_ret
 exact ⟨rfl, (Wr.refl [] w).alloc _⟩
theorem onceE_any (l : List ItmD) (v : Value) (P : Nat → Prop) (w : World) (h : SlItms w P v l) :
  Calls Tryz.prog 42 #[v, .func (.func 43) #[] #[]] w fun e w' => e = .returned (.bool (onceB [] (l.map fun x => x.name))) ∧ Wr [] w w' := by
 have hmm := @run_makeMap Tryz.prog
 have hen : ∀ args w, (callFunc 43 args).run Tryz.prog w = .ok (.enter 43 args) w := fun args w => rfl
 obtain ⟨A, c, rfl, l1, l2⟩ := Sl.form h
 unfold maxLen at l2
 obtain ⟨ns, hns⟩ : ∃ ns, (l.map fun x => x.name) = ns := ⟨_, rfl⟩
 obtain ⟨rr, hrr⟩ : ∃ r, onceB [] ns = r := ⟨_, rfl⟩
 rw [hns, hrr]
 have hnl : ns.length = l.length := by rw [← hns, qlmq]
 obtain ⟨w0, hw0⟩ : ∃ q, w.alloc (.map #[] 0) = q := ⟨_, rfl⟩
 obtain ⟨g, hg⟩ : ∃ g, w.heap.size = g := ⟨_, rfl⟩
 have acc : Wr [] w w0 := by rw [← hw0]; exact (Wr.refl [] _).alloc _
 have hm0 : MapS w0 g (SeenN (ns.take 0)) := by
  rw [← hw0, ← hg]
  exact MapS.new w
 have HH := qh h
 have HNS := qh hns
 have HRR := qh hrr
 have HNL := qh hnl
 have HW0 := qh hw0
 have HG := qh hg
 have ACC := qh acc
 have HM0 := qh hm0
 clear h hns hrr hnl hw0 hg acc hm0
 go_enter Tryz.func42, Tryz.ntmps42
 go_upto_region 2 with (fail)
 rw [HW0.out, HG.out]
 go_wp2_with fail
 go_loopw [11] (fun s11 wr => ∃ k : Nat, k ≤ l.length ∧ s11 = .int .i64 k ∧ OnceAt w g ns k wr) (fun s11 _ => l.length - (intOf s11).toNat)
 case atStart => exact ⟨0, by omega, rfl, ACC.out, by rw [HG.out]; exact Nat.le_refl _, HM0.out, rfl⟩
 case round =>
  obtain ⟨k, hk, rfl, acck, hgk, hmap, hord⟩ := hrel
  have HORD := qh hord
  have ACCK := qh acck
  have HMAP := qh hmap
  clear hord acck hmap
  by_cases hlt : k < l.length
  ·obtain ⟨x, hx⟩ : ∃ x, l[k]? = some x := ⟨_, qgeq hlt⟩
   have hnx : ns[k]? = some x.name := by rw [← HNS.out, qgmq, hx]; rfl
   obtain ⟨b, off, c', e, _, hc⟩ := itm_at (Sl.wr0 HH.out ACCK.out) hx
   injection e with e1 e2 e3
   subst e1 e3
   have x0 := hc 0 _ rfl
   have x1 := hc 1 _ rfl
   have x2 := hc 2 _ rfl
   have x3 := hc 3 _ rfl
   have x4 := hc 4 _ rfl
   simp only [Nat.add_zero] at x0
   have hst := stored_any x.v.val x.v.val_one
   obtain ⟨V, hV⟩ : ∃ V, x.v.val = V := ⟨_, rfl⟩
   rw [hV] at x3 hst
   have hd := onceB_drop (ns.take k) hnx
   have htn := take_next hnx
   obtain ⟨w1, hw1⟩ : ∃ q, wr.alloc (.cells #[.string x.name, .int .u8 x.kind, .int .i64 x.type, V, .int .i64 x.at_] 59) = q := ⟨_, rfl⟩
   obtain ⟨z, hz⟩ : ∃ z, wr.heap.size = z := ⟨_, rfl⟩
   have r1 : Wr [] wr w1 := by rw [← hw1]; exact (Wr.refl [] _).alloc _
   have b1 : Blk w1 z 59 #[.string x.name, .int .u8 x.kind, .int .i64 x.type, V, .int .i64 x.at_] := by rw [← hw1, ← hz]; exact Blk.new _ _ _
   have hq := fun W => onceEQ V (by rw [← hV]; exact x.v.val_one) x W
   have HQ := qh hq
   have HD := qh hd
   have HTN := qh htn
   have HW1 := qh hw1
   have HZ := qh hz
   have R1 := qh r1
   have B1 := qh b1
   have h0 : (0 : Int) ≤ (k : Int) := by omega
   have h1 : (k : Int) < (l.length : Int) := by omega
   clear hc e2 hx hnx hd htn hw1 hz r1 b1 hq hV
   go_upto_region 5 with (fail)
   rw [HZ.out, HW1.out]
   clear x0 x1 x2 x3 x4
   have y0 := B1.out.cell 0
   have y1 := B1.out.cell 1
   have y2 := B1.out.cell 2
   have y3 := B1.out.cell 3
   have y4 := B1.out.cell 4
   simp only [qgaq, qgzq, qgsq] at y0 y1 y2 y3 y4
   go_wp2_with fail
   refine (HQ.out _).mono ?_
   rintro e w2 ⟨rfl, r2⟩
   have R2 := qh (R1.out.trans r2)
   have hmap2 := HMAP.out.wr R2.out (by simp)
   have hl := mapS_look1 Tryz.underlying153 Tryz.underlying9 hmap2 x.name Tryz.zeroValue3
   have HM2 := qh hmap2
   have B2 := qh (B1.out.wr0 r2)
   clear r2 hmap2 y0 y1 y2 y3 y4
   cases hct : inL x.name (ns.take k) with
   | true =>
    have hrf : rr = false := by rw [← HRR.out, HORD.out, HD.out, hct]; rfl
    rw [show SeenN (ns.take k) x.name = some (.int .i64 1) from if_pos hct, Option.getD_some] at hl
    subst hrf
    clear hct HRR
    go_wp2_with fail
    go_ret
    exact ⟨rfl, ACCK.out.trans R2.out⟩
   | false =>
    have hord2 : onceB [] ns = onceB (ns.take (k + 1)) (ns.drop (k + 1)) := by rw [HORD.out, HD.out, hct, HTN.out]; rfl
    rw [show SeenN (ns.take k) x.name = none from if_neg (by rw [hct]; decide), Option.getD_none] at hl
    have HCT := qh hct
    have HORD2 := qh hord2
    have y0 := B2.out.cell 0
    have y1 := B2.out.cell 1
    have y2 := B2.out.cell 2
    have y3 := B2.out.cell 3
    have y4 := B2.out.cell 4
    simp only [qgaq, qgzq, qgsq] at y0 y1 y2 y3 y4
    clear hct hord2
    go_wp2_with fail
    refine (HQ.out _).mono ?_
    rintro e w3 ⟨rfl, r3⟩
    have hmap3 := HM2.out.wr r3 (by simp)
    clear hl
    have hl := mapS_look1 Tryz.underlying153 Tryz.underlying9 hmap3 x.name Tryz.zeroValue3
    rw [show SeenN (ns.take k) x.name = none from if_neg (by rw [HCT.out]; decide), Option.getD_none] at hl
    obtain ⟨w4, hu, r4, hmap4⟩ := mapS_upd Tryz.underlying153 Tryz.underlying9 hmap3 x.name (.int .i64 1)
    rw [seenN_next, ← HTN.out] at hmap4
    have HM4 := qh hmap4
    have R4 := qh ((ACCK.out.trans (R2.out.trans r3)).new r4 hgk)
    clear r3 r4 hmap3 hmap4 y0 y1 y2 y3 y4
    go_wp2_with fail
    go_roundw
    case rel => exact ⟨k + 1, by omega, by go_num, R4.out, hgk, HM4.out, HORD2.out⟩
    case measure => simp [intOf]; omega
  ·obtain rfl : k = l.length := by omega
   have hrt : rr = true := by
    rw [← HRR.out, HORD.out, ← HNL.out, List.drop_length]
    rfl
   subst hrt
   clear HRR
   go_wp2_with fail
   go_ret
   exact ⟨rfl, ACCK.out⟩
end Go.Proofs.YtjanbpchedgoiaaGreat
