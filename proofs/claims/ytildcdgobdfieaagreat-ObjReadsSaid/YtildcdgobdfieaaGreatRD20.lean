/- mach's Check: walked. No conditions. -/
import Derived.Test.YtildcdgobdfieaaGreatRD19
set_option linter.unusedVariables false
set_option linter.unusedSimpArgs false
set_option maxRecDepth 100000
set_option maxHeartbeats 32000000
namespace Go.Proofs.YtildcdgobdfieaaGreat
open Go.RowKit
def SlMods (w : World) (P : Nat → Prop) (v : Value) (l : List ModD) : Prop :=
 ∃ xs, Sl w P 5 v l.length xs ∧ (∀ u ∈ xs, u.oneCell' = true) ∧ ∀ i m, l[i]? = some m → ∃ vp vi vn, (∀ j u, (m.cells vp vi vn)[j]? = some u → xs[i * 5 + j]? = some u) ∧ ModL w P vp vi vn m
section
variable {w w' : World} {P Q : Nat → Prop} {v : Value}
theorem SlMods.keep {ls : List Nat} {l : List ModD} (h : SlMods w P v l) (hw : Wr ls w w') (hP : ∀ b, P b → b ∉ ls) : SlMods w' P v l := by
 obtain ⟨xs, h1, h2, h3⟩ := h
 refine ⟨xs, h1.keep hw hP, h2, fun i o hi => ?_⟩
 obtain ⟨vp, vi, vn, e1, e2⟩ := h3 i o hi
 exact ⟨vp, vi, vn, e1, e2.keep hw hP⟩
theorem SlMods.wr0 {l : List ModD} (h : SlMods w P v l) (hw : Wr [] w w') : SlMods w' P v l := h.keep hw (fun _ _ => by simp)
theorem SlMods.form {l : List ModD} (h : SlMods w P v l) : ∃ A c, v = .slice A l.length c ∧ l.length ≤ c ∧ c ≤ maxLen := by
 obtain ⟨xs, h1, h2, h3⟩ := h
 exact h1.form
theorem mod_at {l : List ModD} (h : SlMods w P v l) {i : Nat} {m : ModD} (hi : l[i]? = some m) : ∃ b off c vp vi vn, v = .slice (some ⟨b, off, none⟩) l.length c ∧ (∀ j u, (m.cells vp vi vn)[j]? = some u → w.cell? ⟨b, off + i * 5 + j, none⟩ = some u) ∧ ModL w P vp vi vn m := by
 obtain ⟨xs, h1, h2, h3⟩ := h
 obtain ⟨vp, vi, vn, e1, e2⟩ := h3 i m hi
 obtain ⟨b, off, c, e, _, _, _, h4⟩ := Sl.thing h1 (by decide) (List.getElem?_eq_some_iff.1 hi).1
 refine ⟨b, off, c, vp, vi, vn, e, fun j u hj => ?_, e2⟩
 have hj5 : j < 5 := (List.getElem?_eq_some_iff.1 hj).1
 rw [Nat.add_assoc]
 exact h4 j u hj5 (e1 j u hj)
end
section
variable {P : Program} {T K E : TypeId} (hu : P.underlying T = some (.map K E)) (hk : P.underlying K = some (.int .i64))
include hu hk
theorem mapI_look1 {w : World} {r : Nat} {kn : Int → Option Value} (h : MapI w r kn) (k : Int) {z : Value} (hz : ∀ w, (zeroValue E).run P w = .ok z w) :
  (Instr.lookup T (.map (some r)) (.int .i64 k) false).run P w = .ok ((kn k).getD z) w := by
 obtain ⟨es, c, h1, h2, h3⟩ := h
 obtain ⟨o, g1, g2, _⟩ := findNow_int es.toList k 0 h2
 have hc : ∀ b w, (Instr.checkKey b 10000 K (.int .i64 k)).run P w = .ok () w := fun b w => MapKept.run_checkKey hk (by simp [MapKept.IsKey]) b 9999
 have := look_at hu hk w r es c (.int .i64 k) o z h1 hc g1 hz false
 rw [g2, h3] at this
 exact this
end
theorem inBi {n a b : Int} : inB n a b = true ↔ a ≤ n ∧ n ≤ b := by simp [inB]
theorem modsAt_drop {n : Int} {l : List ModD} {k : Nat} {m : ModD} (h : l[k]? = some m) (i : Nat) : modsAt n i (l.drop k) = if modB m n then modsAt n (i + 1) (l.drop (k + 1)) else some i := by
 have hk := (List.getElem?_eq_some_iff.1 h).1
 rw [List.drop_eq_getElem_cons hk, modsAt]
 have e : l[k] = m := (List.getElem?_eq_some_iff.1 h).2
 rw [e]
theorem ordB_drop {n : Int} {l : List Int} {k : Nat} {x : Int} (h : l[k]? = some x) : ordB n (l.take k) (l.drop k) = (inB x 0 (n - 1) && !((l.take k).contains x) && ordB n (l.take (k + 1)) (l.drop (k + 1))) := by
 have hk := (List.getElem?_eq_some_iff.1 h).1
 have e : l[k] = x := (List.getElem?_eq_some_iff.1 h).2
 conv => lhs; rw [List.drop_eq_getElem_cons hk, ordB]
 rw [e, List.take_add_one, h]
 rfl
def ChkAt (w : World) (g : Nat) (cs : Array Value) (ms : List ModD) (k : Nat) (wr : World) : Prop := Wr [] w wr ∧ Blk wr g 146 cs ∧ modsAt ms.length 0 ms = modsAt ms.length k (ms.drop k)
def SeenK (l : List Int) (k : Nat) (j : Int) : Option Value := if (l.take k).contains j = true then some (.int .i64 1) else none
def ChkOrd (w : World) (g r : Nat) (cs : Array Value) (n : Nat) (l : List Int) (k : Nat) (wr : World) : Prop := Wr [] w wr ∧ Blk wr g 146 cs ∧ w.heap.size ≤ r ∧ MapI wr r (SeenK l k) ∧ ordB n [] l = ordB n (l.take k) (l.drop k)
theorem check_any (ms : List ModD) (ord : List Int) (vm vo : Value) (P : Nat → Prop) (w : World) (hm : SlMods w P vm ms) (ho : SlI64 w P vo ord) :
  Calls Tryz.prog 76 #[.agg #[vm, vo]] w fun e w' => e = .returned (.tuple #[.int .i64 (checkP ms ord).1, .int .i64 (checkP ms ord).2]) ∧ Wr [] w w' := by
 have hmm := @run_makeMap Tryz.prog
 obtain ⟨Am, cm, rfl, lm1, lm2⟩ := SlMods.form hm
 obtain ⟨Ao, co, rfl, lo1, lo2⟩ := Sl.form ho
 unfold maxLen at lm2 lo2
 have hw1 := fun w => within_any (ms.length : Int) 1 64 w
 have hw2 := fun x w => within_any x 0 ((ms.length : Int) - 1) w
 have acc := (Wr.refl [] w).alloc (.cells #[.slice Am ms.length cm, .slice Ao ord.length co] 146)
 have bA := Blk.new w 146 #[.slice Am ms.length cm, .slice Ao ord.length co]
 obtain ⟨w0, hw0⟩ : ∃ w0, w.alloc (.cells #[.slice Am ms.length cm, .slice Ao ord.length co] 146) = w0 := ⟨_, rfl⟩
 obtain ⟨g, hg⟩ : ∃ g, w.heap.size = g := ⟨_, rfl⟩
 rw [hw0] at acc bA
 rw [hg] at bA
 obtain ⟨ch, hch⟩ : ∃ c, checkP ms ord = c := ⟨_, rfl⟩
 rw [hch]
 unfold checkP at hch
 have Hw0 := qh hw0
 have Hg := qh hg
 have HM := qh hm
 have HO := qh ho
 have HC := qh hch
 clear hw0 hg hm ho hch
 go_in
 go_upto_region 1 with (fail)
 rw [Hw0.out, Hg.out]
 obtain ⟨c0, c1⟩ := c2q bA
 go_wp2_with fail
 refine (hw1 _).mono ?_
 rintro e w1 ⟨rfl, rfl⟩
 cases q1 : inB (ms.length : Int) 1 64 with
 | false =>
  have hr : ch = ((ms.length : Int), 200) := by rw [← HC.out, if_neg (by rw [q1]; decide)]
  have HR := qh hr
  clear q1 hr
  go_wp2_with fail
  go_ret2
  exact ⟨by rw [HR.out]; rfl, acc⟩
 | true =>
 have hq := inBi.1 q1
 have hc2 : (match modsAt ms.length 0 ms with | some i => ((i : Int), (200 : Int)) | none => if ordB ms.length [] ord then (0, 0) else ((ms.length : Int), 200)) = ch := (if_pos q1).symm.trans HC.out
 have HC2 := qh hc2
 clear q1 hc2 hw1
 have hn1 : ms.length ≤ 64 := by omega
 have hn0 : 1 ≤ ms.length := by omega
 go_wp2_with fail
 go_loopw [20] (fun s20 wr => ∃ k : Nat, k ≤ ms.length ∧ s20 = .int .i64 k ∧ ChkAt w g #[.slice Am ms.length cm, .slice Ao ord.length co] ms k wr) (fun s20 _ => ms.length - (intOf s20).toNat)
 case atStart => exact ⟨0, by omega, rfl, acc, bA, rfl⟩
 case round =>
  obtain ⟨k, hk, rfl, acck, bk, hms⟩ := hrel
  have HMS := qh hms
  clear hms c0 c1 acc bA
  obtain ⟨c0, c1⟩ := c2q bk
  by_cases hlt : k < ms.length
  ·obtain ⟨m, hmk⟩ : ∃ m, ms[k]? = some m := ⟨_, qgeq hlt⟩
   obtain ⟨b, off, c, vp, vi, vn, e, hc, hml⟩ := mod_at (HM.out.wr0 acck) hmk
   injection e with e1 e2 e3
   subst e1
   subst e3
   obtain ⟨Bp, dp, rfl, _, _⟩ := Sl.form hml.procs
   obtain ⟨Bi, di, rfl, _, _⟩ := Sl.form hml.imports
   obtain ⟨Bn, dn, rfl, _, _⟩ := Sl.form hml.init
   have x0 := hc 0 _ rfl
   have x1 := hc 1 _ rfl
   have x2 := hc 2 _ rfl
   have x3 := hc 3 _ rfl
   have x4 := hc 4 _ rfl
   simp only [Nat.add_zero] at x0
   have hd := modsAt_drop (n := (ms.length : Int)) hmk k
   have HD := qh hd
   have HML := qh hml
   clear hc e2 hmk hd hml
   have hlti : (k : Int) < (ms.length : Int) := by omega
   have hk0 : (0 : Int) ≤ (k : Int) := by omega
   have hz : g < wr.heap.size := bk.lt
   go_wp2_with fail
   refine (module_any m (ms.length : Int) (by omega) (by omega) _ _ _ P _ (HML.out.wr0 ((Wr.refl [] wr).alloc _))).mono ?_
   rintro e w2 ⟨rfl, k2⟩
   have acc2 := (acck.alloc _).trans k2
   have b2 := (bk.alloc _).wr0 k2
   have ACC2 := qh acc2
   have B2 := qh b2
   clear x0 x1 x2 x3 x4 c0 c1 hz k2 acc2 b2 acck bk
   cases hmb : modB m (ms.length : Int) with
   | false =>
    have hr : ch = ((k : Int), 200) := by rw [← HC2.out, HMS.out, HD.out, hmb]; rfl
    have HR := qh hr
    clear hmb hr
    go_wp2_with fail
    go_ret2
    exact ⟨by rw [HR.out]; rfl, ACC2.out⟩
   | true =>
    have hms2 : modsAt ms.length 0 ms = modsAt ms.length (k + 1) (ms.drop (k + 1)) := by rw [HMS.out, HD.out, hmb, if_pos rfl]
    have HMS2 := qh hms2
    clear hmb hms2
    go_wp2_with fail
    go_roundw
    case rel => exact ⟨k + 1, by omega, by go_num, ACC2.out, B2.out, HMS2.out⟩
    case measure => simp [intOf]; omega
  ·have hkn : k = ms.length := by omega
   subst hkn
   have hms0 : modsAt ms.length 0 ms = none := by rw [HMS.out, List.drop_length]; rfl
   have hc3 : (if ordB ms.length [] ord then ((0 : Int), (0 : Int)) else ((ms.length : Int), 200)) = ch := by rw [← HC2.out, hms0]
   have HC3 := qh hc3
   have hz : g < wr.heap.size := bk.lt
   have hmp := MapI.new wr
   have ACCK := qh acck
   have BK := qh bk
   have HMP := qh hmp
   have hsz := acck.size
   clear hms0 hc3 acck bk HMS hmp
   obtain ⟨wo, rfl⟩ : ∃ wo : World, wo = wr := ⟨_, rfl⟩
   clear c0 c1
   have c1 := BK.out.cell 1
   simp only [qgaq, qgzq, qgsq] at c1
   go_wp2_with fail
   go_loopw [35] (fun s35 w2 => ∃ k : Nat, k ≤ ord.length ∧ s35 = .int .i64 k ∧ ChkOrd w g wo.heap.size #[.slice Am ms.length cm, .slice Ao ord.length co] ms.length ord k w2) (fun s35 _ => ord.length - (intOf s35).toNat)
   case atStart => exact ⟨0, by omega, rfl, ACCK.out.alloc _, BK.out.alloc _, hsz, HMP.out, by simp⟩
   case round =>
    obtain ⟨k, hk, rfl, acc2, b2, _, hmap, hord⟩ := hrel
    have HORD := qh hord
    have ACC2 := qh acc2
    have B2 := qh b2
    clear hord acc2 b2 c1 hz
    by_cases hlt2 : k < ord.length
    ·obtain ⟨x, hx⟩ : ∃ x, ord[k]? = some x := ⟨_, qgeq hlt2⟩
     obtain ⟨b, off, c, e, _, _, hc⟩ := i64_at (Sl.wr0 HO.out ACC2.out) hx
     injection e with e1 e2 e3
     subst e1
     subst e3
     have hd := ordB_drop (n := (ms.length : Int)) hx
     have HD := qh hd
     have hl := mapI_look1 Tryz.underlying189 Tryz.underlying3 hmap x Tryz.zeroValue3
     obtain ⟨w3, hu, k3, hmap3⟩ := mapI_upd Tryz.underlying189 Tryz.underlying3 hmap x (.int .i64 1)
     have HX := qh hx
     clear hx hd e2
     have hlti : (k : Int) < (ord.length : Int) := by omega
     have hk0 : (0 : Int) ≤ (k : Int) := by omega
     cases hin : inB x 0 ((ms.length : Int) - 1) with
     | false =>
      have hr : ch = ((ms.length : Int), 200) := by rw [← HC3.out, HORD.out, HD.out, hin, Bool.false_and, Bool.false_and]; rfl
      have HR := qh hr
      have HIN := qh hin
      clear hin hr hu hl k3 hmap3 hmap
      go_wp2_with fail
      refine (hw2 _ _).mono ?_
      rintro e w4 ⟨rfl, rfl⟩
      rw [HIN.out]
      go_wp2_with fail
      go_ret2
      exact ⟨by rw [HR.out]; rfl, ACC2.out⟩
     | true =>
     have HIN := qh hin
     cases hct : (ord.take k).contains x with
     | true =>
      have hr : ch = ((ms.length : Int), 200) := by rw [← HC3.out, HORD.out, HD.out, hin, hct]; rfl
      rw [show SeenK ord k x = some (.int .i64 1) from if_pos hct, Option.getD_some] at hl
      have HR := qh hr
      clear hin hr hu k3 hmap3 hmap hct
      go_wp2_with fail
      refine (hw2 _ _).mono ?_
      rintro e w4 ⟨rfl, rfl⟩
      rw [HIN.out]
      go_wp2_with fail
      go_ret2
      exact ⟨by rw [HR.out]; rfl, ACC2.out⟩
     | false =>
      have hord2 : ordB (ms.length : Int) [] ord = ordB (ms.length : Int) (ord.take (k + 1)) (ord.drop (k + 1)) := by rw [HORD.out, HD.out, hin, hct]; rfl
      rw [show SeenK ord k x = none from if_neg (by rw [hct]; decide), Option.getD_none] at hl
      have hfn : (fun j => if j = x then some (Value.int .i64 1) else SeenK ord k j) = SeenK ord (k + 1) := by
       funext j
       unfold SeenK
       rw [List.take_add_one, HX.out]
       by_cases hj : j = x
       ·subst hj; simp
       ·simp [hj]
      rw [hfn] at hmap3
      have HMAP := qh hmap3
      have HORD2 := qh hord2
      have acc3 := ACC2.out.new k3 hsz
      have hgr : g ∉ [wo.heap.size] := by have := BK.out.lt; simp; omega
      have b3 := B2.out.wr k3 hgr
      have ACC3 := qh acc3
      have B3 := qh b3
      clear hin k3 hmap3 hmap hct hord2 hfn acc3 b3 hgr
      go_wp2_with fail
      refine (hw2 _ _).mono ?_
      rintro e w4 ⟨rfl, rfl⟩
      rw [HIN.out]
      go_wp2_with fail
      go_roundw
      case rel => exact ⟨k + 1, by omega, by go_num, ACC3.out, B3.out, hsz, HMAP.out, HORD2.out⟩
      case measure => simp [intOf]; omega
    ·have hkn : k = ord.length := by omega
     subst hkn
     have hr : ch = (0, 0) := by rw [← HC3.out, HORD.out, List.drop_length]; rfl
     have HR := qh hr
     clear hr hmap
     go_wp2_with fail
     go_ret2
     exact ⟨by rw [HR.out]; rfl, ACC2.out⟩
def MapR {α : Type} (w : World) (r : Nat) (R : Value → α → Prop) (f : ByteArray → Option α) : Prop :=
 ∃ kn, MapS w r kn ∧ ∀ k, (f k = none → kn k = none) ∧ ∀ a, f k = some a → ∃ v, kn k = some v ∧ R v a
section
variable {α : Type} {w w' : World} {r : Nat} {R R' : Value → α → Prop} {f : ByteArray → Option α}
theorem MapR.wr {l : List Nat} (h : MapR w r R f) (hw : Wr l w w') (hr : r ∉ l) (hR : ∀ v a, R v a → R' v a) : MapR w' r R' f := by
 obtain ⟨kn, h1, h2⟩ := h
 refine ⟨kn, h1.wr hw hr, fun k => ⟨(h2 k).1, fun a ha => ?_⟩⟩
 obtain ⟨v, e, hv⟩ := (h2 k).2 a ha
 exact ⟨v, e, hR v a hv⟩
theorem MapR.keep {l : List Nat} (h : MapR w r R f) (hw : Wr l w w') (hr : r ∉ l) : MapR w' r R f := h.wr hw hr (fun _ _ h => h)
theorem MapR.lt (h : MapR w r R f) : r < w.heap.size := by
 obtain ⟨kn, h1, h2⟩ := h
 exact h1.lt
theorem MapR.new (w : World) (R : Value → α → Prop) : MapR (w.alloc (.map #[] 0)) w.heap.size R (fun _ => none) :=
 ⟨fun _ => none, MapS.new w, fun k => ⟨fun _ => rfl, fun a ha => by cases ha⟩⟩
variable {P : Program} {T K E : TypeId} (hu : P.underlying T = some (.map K E)) (hk : P.underlying K = some .string)
include hu hk
theorem MapR.upd (h : MapR w r R f) (k : ByteArray) (v : Value) (a : α) (hv : R v a) :
  ∃ W, (Instr.mapUpdate T (.map (some r)) (.string k) v).run P w = .ok () W ∧ Wr [r] w W ∧ MapR W r R (fun j => if j = k then some a else f j) := by
 obtain ⟨kn, h1, h2⟩ := h
 obtain ⟨W, e, hw, h3⟩ := mapS_upd hu hk h1 k v
 refine ⟨W, e, hw, _, h3, fun j => ?_⟩
 by_cases hj : j = k
 ·simp only [if_pos hj]
  refine ⟨(fun x => by cases x), (fun b hb => ?_)⟩
  injection hb with hb
  subst hb
  exact ⟨v, rfl, hv⟩
 ·simp only [if_neg hj]
  exact h2 j
end
theorem slMods_one {w : World} {nb : Nat} {t : TypeId} {m : ModD} {vp vi vn : Value} (hb : Blk w nb t (m.cells vp vi vn).toArray) (h : ModL w (fun _ => True) vp vi vn m) : SlMods w (fun _ => True) (.slice (some ⟨nb, 0, none⟩) 1 1) [m] := by
 refine ⟨m.cells vp vi vn, ⟨_, _, rfl, Nat.le_refl _, by unfold maxLen; simp, rfl, fun j u hj => ⟨nb, 0, rfl, trivial, ?_⟩⟩, ?_, fun i x hi => ?_⟩
 ·rw [hb.cell, Nat.zero_add]
  simpa using hj
 ·obtain ⟨Ap, cp, rfl, _, _⟩ := Sl.form h.procs
  obtain ⟨Ai, ci, rfl, _, _⟩ := Sl.form h.imports
  obtain ⟨An, cn, rfl, _, _⟩ := Sl.form h.init
  intro u hu
  simp only [ModD.cells, qmcq, qnnq, or_false] at hu
  rcases hu with rfl | rfl | rfl | rfl | rfl <;> rfl
 ·cases i with
  | zero =>
   simp only [qgzq, Option.some.injEq] at hi
   subst hi
   exact ⟨vp, vi, vn, fun j u hj => by simpa using hj, h⟩
  | succ i => simp at hi
theorem checkP_one (m : ModD) : checkP [m] [] = if modB m 1 then (0, 0) else (0, 200) := by
 have h1 : inB (([m].length : Nat) : Int) 1 64 = true := inBi.2 ⟨by simp, by simp⟩
 unfold checkP
 rw [if_pos h1]
 cases h : modB m 1 with
 | true =>
  have : modsAt (([m].length : Nat) : Int) 0 [m] = none := by
   show (if modB m 1 then _ else _) = _
   rw [h]; rfl
  simp only [this]
  rfl
 | false =>
  have : modsAt (([m].length : Nat) : Int) 0 [m] = some 0 := by
   show (if modB m 1 then _ else _) = _
   rw [h]; rfl
  simp only [this]
  rfl
theorem oname_any (s : ByteArray) (w : World) : Calls Tryz.prog 48 #[.string s] w fun e w' => e = .returned (.bool (nameB s)) ∧ w = w' := by
 unfold nameB
 by_cases h : (1 : Int) ≤ (s.size : Int)
 ·rw [qdtq (show 1 ≤ s.size by omega), Bool.true_and]
  go_in
  go_wp2_with fail
  go_ret
  refine ⟨?_, rfl⟩
  have e : decide (s.size ≤ 255) = decide ((s.size : Int) ≤ 255) := by
   by_cases c : s.size ≤ 255
   ·rw [qdtq c]; exact (qdtq (by omega)).symm
   ·rw [qdfq c]; exact (qdfq (by omega)).symm
  rw [e]
  rfl
 ·rw [qdfq (show ¬ 1 ≤ s.size by omega), Bool.false_and]
  go_in
  go_wp2_with fail
  go_ret
  exact ⟨rfl, rfl⟩
def OmAt (w : World) (g : Nat) (cs : Array Value) (m : ModD) (k : Nat) (wr : World) : Prop := wr = w ∧ ∀ (j : Nat) (x : Int), j < k → m.imports[j]? = some x → inB x 0 63 = true
theorem omod_any (m : ModD) (vp vi vn : Value) (P : Nat → Prop) (w : World) (h : ModL w P vp vi vn m) :
  Calls Tryz.prog 43 #[m.val vp vi vn] w fun e w' => e = .returned (.bool (omodB m)) ∧ Wr [] w w' := by
 have hv : omodB m = (decide (m.imports.length ≤ 255) && (m.imports.all (fun i => inB i 0 63) && modB { m with imports := [] } 1)) := by unfold omodB; rw [Bool.and_assoc]
 obtain ⟨Ap, cp, rfl, lp1, lp2⟩ := Sl.form h.procs
 obtain ⟨Ai, ci, rfl, li1, li2⟩ := Sl.form h.imports
 obtain ⟨An, cn, rfl, ln1, ln2⟩ := Sl.form h.init
 unfold maxLen at lp2 li2 ln2
 have acc := (Wr.refl [] w).alloc (.cells #[.string m.code, .slice Ap m.procs.length cp, .slice Ai m.imports.length ci, .int .i64 m.data, .slice An m.init.length cn] 28)
 have bA := Blk.new w 28 #[.string m.code, .slice Ap m.procs.length cp, .slice Ai m.imports.length ci, .int .i64 m.data, .slice An m.init.length cn]
 obtain ⟨w0, hw0⟩ : ∃ w0, w.alloc (.cells #[.string m.code, .slice Ap m.procs.length cp, .slice Ai m.imports.length ci, .int .i64 m.data, .slice An m.init.length cn] 28) = w0 := ⟨_, rfl⟩
 obtain ⟨g, hg⟩ : ∃ g, w.heap.size = g := ⟨_, rfl⟩
 rw [hw0] at acc bA
 rw [hg] at bA
 unfold ModD.val ModD.cells
 have Hw0 := qh hw0
 have Hg := qh hg
 have HH := qh (h.wr0 acc)
 have HH0 := qh h
 have HV := qh hv
 clear hw0 hg h hv
 go_in
 go_upto_region 1 with (fail)
 rw [Hw0.out, Hg.out]
 obtain ⟨c0, c1, c2, c3, c4⟩ := c5q bA
 have f2 := bA.frozen 2
 by_cases q1 : 255 < (m.imports.length : Int)
 ·go_wp2_with fail
  go_ret
  refine ⟨?_, acc⟩
  rw [HV.out, qdfq (show ¬ m.imports.length ≤ 255 by omega)]
  rfl
 have hv2 : omodB m = (m.imports.all (fun i => inB i 0 63) && modB { m with imports := [] } 1) := by rw [HV.out, qdtq (show m.imports.length ≤ 255 by omega), Bool.true_and]
 have HV2 := qh hv2
 clear hv2
 go_wp2_with fail
 go_loopw [14] (fun s14 wr => ∃ k : Nat, k ≤ m.imports.length ∧ s14 = .int .i64 k ∧ OmAt w0 g #[] m k wr) (fun s14 _ => m.imports.length - (intOf s14).toNat)
 case atStart => exact ⟨0, by omega, rfl, rfl, fun j x hj => absurd hj (by omega)⟩
 case round =>
  obtain ⟨k, hk, rfl, rfl, hyes⟩ := hrel
  have HYES := qh hyes
  clear hyes
  by_cases hlt : k < m.imports.length
  ·obtain ⟨x, hx⟩ : ∃ x, m.imports[k]? = some x := ⟨_, qgeq hlt⟩
   obtain ⟨b, off, c, e, _, _, hc⟩ := i64_at HH.out.imports hx
   injection e with e1 e2 e3
   subst e1
   subst e3
   have HX := qh hx
   clear hx e2
   have hlti : (k : Int) < (m.imports.length : Int) := by omega
   have hk0 : (0 : Int) ≤ (k : Int) := by omega
   by_cases q2 : x < 0
   ·have hf : m.imports.all (fun i => inB i 0 63) = false := all_no (p := fun i => inB i 0 63) HX.out (by
     unfold inB
     rw [qdfq (show ¬ (0 : Int) ≤ x by omega), Bool.false_and])
    have HF := qh hf
    clear hf
    go_wp2_with fail
    go_ret
    exact ⟨by rw [HV2.out, HF.out, Bool.false_and]; rfl, acc⟩
   by_cases q3 : 64 ≤ x
   ·have hf : m.imports.all (fun i => inB i 0 63) = false := all_no (p := fun i => inB i 0 63) HX.out (by
     unfold inB
     rw [qdfq (show ¬ x ≤ 63 by omega), Bool.and_false])
    have HF := qh hf
    clear hf
    go_wp2_with fail
    go_ret
    exact ⟨by rw [HV2.out, HF.out, Bool.false_and]; rfl, acc⟩
   go_wp2_with fail
   go_roundw
   case rel =>
    refine ⟨k + 1, by omega, by go_num, rfl, fun j y hj hy => ?_⟩
    by_cases hjk : j = k
    ·subst hjk
     rw [HX.out] at hy
     injection hy with hy
     rw [← hy]
     exact inBi.2 ⟨by omega, by omega⟩
    ·exact HYES.out j y (by omega) hy
   case measure => simp [intOf]; omega
  ·have hkn : k = m.imports.length := by omega
   subst hkn
   have hall : m.imports.all (fun i => inB i 0 63) = true := all_yes (p := fun i => inB i 0 63) (fun j x hj => HYES.out j x (List.getElem?_eq_some_iff.1 hj).1 hj)
   have hv3 : omodB m = modB { m with imports := [] } 1 := by rw [HV2.out, hall, Bool.true_and]
   have HV3 := qh hv3
   have hz : g < wr.heap.size := bA.lt
   have acc1 := (acc.setNew (b := g) (o := 2) (by rw [Hg.out]; exact Nat.le_refl _) (.slice none 0 0)).alloc (.cells #[.string m.code, .slice Ap m.procs.length cp, .slice none 0 0, .int .i64 m.data, .slice An m.init.length cn] 28)
   have hin : ModL ((wr.setCell ⟨g, 2, none⟩ (.slice none 0 0)).alloc (.cells #[.string m.code, .slice Ap m.procs.length cp, .slice none 0 0, .int .i64 m.data, .slice An m.init.length cn] 28)) (fun _ => True) (.slice Ap m.procs.length cp) (.slice none 0 0) (.slice An m.init.length cn) { m with imports := [] } := by
    have h2 := (HH0.out.wr0 acc1).into (Q := fun _ => True) (fun _ _ _ => trivial)
    exact ⟨h2.procs, Sl.nil _ _ 1, h2.init⟩
   have hmo := slMods_one (m := { m with imports := [] }) (vp := .slice Ap m.procs.length cp) (vi := .slice none 0 0) (vn := .slice An m.init.length cn) (Blk.new (wr.setCell ⟨g, 2, none⟩ (.slice none 0 0)) 28 #[.string m.code, .slice Ap m.procs.length cp, .slice none 0 0, .int .i64 m.data, .slice An m.init.length cn]) hin
   have hck := check_any [{ m with imports := [] }] [] _ (.slice none 0 0) (fun _ => True) _ hmo (Sl.nil _ _ 1)
   rw [checkP_one] at hck
   rw [show (wr.setCell ⟨g, 2, none⟩ (.slice none 0 0)).heap.size = wr.heap.size by simp] at hck
   have HCK := qh hck
   have HBA := qh bA
   have ACC1 := qh acc1
   clear hall hv3 bA hin hmo hck acc acc1
   go_wp2_with fail
   refine HCK.out.mono ?_
   rintro e w3 ⟨rfl, k3⟩
   cases hb : modB { m with imports := [] } 1 with
   | true =>
    have HB := qh hb
    clear hb
    go_wp2_with fail
    go_ret
    exact ⟨by rw [HV3.out, HB.out]; rfl, ACC1.out.trans k3⟩
   | false =>
    have HB := qh hb
    clear hb
    go_wp2_with fail
    go_ret
    exact ⟨by rw [HV3.out, HB.out]; rfl, ACC1.out.trans k3⟩
def ObjD.val (o : ObjD) (vu vp vi vn : Value) : Value := .agg (o.cells vu vp vi vn).toArray
def SeenS (l : List ByteArray) (j : ByteArray) : Option Value := if inL j l = true then some (.int .i64 1) else none
def seenL (o : ObjD) (k : Nat) : List ByteArray := [o.module] ++ (o.uses.take k).map UseD.module
theorem usesB_drop {l : List UseD} {k : Nat} {u : UseD} (seen : List ByteArray) (h : l[k]? = some u) : usesB seen (l.drop k) = (nameB u.module && !(inL u.module seen) && usesB (seen ++ [u.module]) (l.drop (k + 1))) := by
 have hk := (List.getElem?_eq_some_iff.1 h).1
 have e : l[k] = u := (List.getElem?_eq_some_iff.1 h).2
 conv => lhs; rw [List.drop_eq_getElem_cons hk, usesB]
 rw [e]
theorem seenL_succ {o : ObjD} {k : Nat} {u : UseD} (h : o.uses[k]? = some u) : seenL o (k + 1) = seenL o k ++ [u.module] := by
 unfold seenL
 rw [List.take_add_one, h]
 simp
theorem inL_snoc (j m : ByteArray) (l : List ByteArray) : inL j (l ++ [m]) = (inL j l || decide (m = j)) := by
 unfold inL
 rw [List.any_append]
 simp
def MayAt (w : World) (g r : Nat) (cs : Array Value) (o : ObjD) (k : Nat) (wr : World) : Prop :=
 Wr [] w wr ∧ Blk wr g 30 cs ∧ w.heap.size ≤ r ∧ MapS wr r (SeenS (seenL o k)) ∧ usesB [o.module] o.uses = usesB (seenL o k) (o.uses.drop k)
theorem omay_any (o : ObjD) (vu vp vi vn : Value) (P : Nat → Prop) (w : World) (h : ObjL w P vu vp vi vn o) :
  Calls Tryz.prog 14 #[o.val vu vp vi vn] w fun e w' => e = .returned (.bool (objB o)) ∧ Wr [] w w' := by
 have hmm := @run_makeMap Tryz.prog
 have hv : objB o = (nameB o.module && decide (o.uses.length ≤ 255) && decide (o.mod.imports.length = 0) && (usesB [o.module] o.uses && omodB o.mod)) := by unfold objB; simp only [Bool.and_assoc]
 obtain ⟨Au, cu, rfl, lu1, lu2⟩ := Sl.form h.uses
 obtain ⟨Ap, cp, rfl, lp1, lp2⟩ := Sl.form h.mod.procs
 obtain ⟨Ai, ci, rfl, li1, li2⟩ := Sl.form h.mod.imports
 obtain ⟨An, cn, rfl, ln1, ln2⟩ := Sl.form h.mod.init
 unfold maxLen at lu2 lp2 li2 ln2
 have hn := fun s w => oname_any s w
 have acc := (Wr.refl [] w).alloc (.cells #[.string o.module, .bool o.main, .int .u64 o.key, .slice Au o.uses.length cu, .string o.mod.code, .slice Ap o.mod.procs.length cp, .slice Ai o.mod.imports.length ci, .int .i64 o.mod.data, .slice An o.mod.init.length cn] 30)
 have bA := Blk.new w 30 #[.string o.module, .bool o.main, .int .u64 o.key, .slice Au o.uses.length cu, .string o.mod.code, .slice Ap o.mod.procs.length cp, .slice Ai o.mod.imports.length ci, .int .i64 o.mod.data, .slice An o.mod.init.length cn]
 obtain ⟨w0, hw0⟩ : ∃ w0, w.alloc (.cells #[.string o.module, .bool o.main, .int .u64 o.key, .slice Au o.uses.length cu, .string o.mod.code, .slice Ap o.mod.procs.length cp, .slice Ai o.mod.imports.length ci, .int .i64 o.mod.data, .slice An o.mod.init.length cn] 30) = w0 := ⟨_, rfl⟩
 obtain ⟨g, hg⟩ : ∃ g, w.heap.size = g := ⟨_, rfl⟩
 rw [hw0] at acc bA
 rw [hg] at bA
 unfold ObjD.val ObjD.cells
 have Hw0 := qh hw0
 have Hg := qh hg
 have HH := qh h
 have HV := qh hv
 clear hw0 hg h hv
 go_in
 go_upto_region 1 with (fail)
 rw [Hw0.out, Hg.out]
 have c0 := bA.cell 0
 have c3 := bA.cell 3
 have c6 := bA.cell 6
 simp only [qgaq, qgzq, qgsq] at c0 c3 c6
 go_wp2_with fail
 refine (hn _ _).mono ?_
 rintro e w1 ⟨rfl, rfl⟩
 cases q1 : nameB o.module with
 | false =>
  have HQ := qh q1
  clear q1
  go_wp2_with fail
  go_ret
  exact ⟨by rw [HV.out, HQ.out, Bool.false_and, Bool.false_and, Bool.false_and]; rfl, acc⟩
 | true =>
 have HQ := qh q1
 clear q1
 by_cases q2 : 255 < (o.uses.length : Int)
 ·go_wp2_with fail
  go_ret
  exact ⟨by rw [HV.out, qdfq (show ¬ o.uses.length ≤ 255 by omega), Bool.and_false, Bool.false_and, Bool.false_and]; rfl, acc⟩
 by_cases q3 : 0 < (o.mod.imports.length : Int)
 ·go_wp2_with fail
  go_ret
  exact ⟨by rw [HV.out, qdfq (show ¬ o.mod.imports.length = 0 by omega), Bool.and_false, Bool.false_and]; rfl, acc⟩
 have q3' : decide (0 < o.mod.imports.length) = false := qdfq (by omega)
 have q2' : decide (255 < (o.uses.length : Int)) = false := qdfq (by omega)
 have hv2 : objB o = (usesB [o.module] o.uses && omodB o.mod) := by rw [HV.out, HQ.out, qdtq (show o.uses.length ≤ 255 by omega), qdtq (show o.mod.imports.length = 0 by omega)]; rfl
 have HV2 := qh hv2
 have hz : g < w0.heap.size := bA.lt
 obtain ⟨w1, hu1, k1, hm1⟩ := mapS_upd Tryz.underlying102 Tryz.underlying9 (MapS.new w0) o.module (.int .i64 1)
 have hsz := acc.size
 have acc1 := (acc.alloc (.map #[] 0)).new k1 hsz
 have b1 := (bA.alloc (.map #[] 0)).wr k1 (by simp; omega)
 have hm1' : MapS w1 w0.heap.size (SeenS (seenL o 0)) := by
  have e : (fun j => if j = o.module then some (Value.int .i64 1) else none) = SeenS (seenL o 0) := by
   funext j
   unfold SeenS seenL inL
   by_cases hj : j = o.module
   ·subst hj; simp
   ·have : ¬ o.module = j := fun e => hj e.symm
    simp [hj, this]
  rw [← e]
  exact hm1
 have ACC1 := qh acc1
 have B1 := qh b1
 have HM1 := qh hm1'
 have d3 := b1.cell 3
 simp only [qgaq, qgzq, qgsq] at d3
 clear hv2 k1 hm1 hm1' acc1 b1
 go_wp2_with fail
 go_loopw [30] (fun s30 wr => ∃ k : Nat, k ≤ o.uses.length ∧ s30 = .int .i64 k ∧ MayAt w g w0.heap.size #[.string o.module, .bool o.main, .int .u64 o.key, .slice Au o.uses.length cu, .string o.mod.code, .slice Ap o.mod.procs.length cp, .slice Ai o.mod.imports.length ci, .int .i64 o.mod.data, .slice An o.mod.init.length cn] o k wr) (fun s30 _ => o.uses.length - (intOf s30).toNat)
 case atStart => exact ⟨0, by omega, rfl, ACC1.out, B1.out, hsz, HM1.out, rfl⟩
 case round =>
  obtain ⟨k, hk, rfl, acc2, b2, _, hmap, hord⟩ := hrel
  have HORD := qh hord
  have ACC2 := qh acc2
  have B2 := qh b2
  clear hord acc2 b2 d3 c0 c3 c6
  by_cases hlt2 : k < o.uses.length
  ·obtain ⟨u, hx⟩ : ∃ u, o.uses[k]? = some u := ⟨_, qgeq hlt2⟩
   obtain ⟨b, off, c, e, _, _, hc⟩ := use_at (HH.out.wr0 ACC2.out).uses hx
   injection e with e1 e2 e3
   subst e1
   subst e3
   have x0 := hc 0 _ rfl
   have x1 := hc 1 _ rfl
   simp only [Nat.add_zero] at x0
   have hd := usesB_drop (seenL o k) hx
   have HD := qh hd
   have hmapA := hmap.wr ((Wr.refl [] wr).alloc (.cells #[.string u.module, .int .u64 u.key] 72)) (by simp)
   have hl := mapS_look1 Tryz.underlying102 Tryz.underlying9 hmapA u.module Tryz.zeroValue3
   obtain ⟨w3, hu, k3, hmap3⟩ := mapS_upd Tryz.underlying102 Tryz.underlying9 hmapA u.module (.int .i64 1)
   have HX := qh hx
   clear hx hd e2 hc hmap hmapA
   have hlti : (k : Int) < (o.uses.length : Int) := by omega
   have hk0 : (0 : Int) ≤ (k : Int) := by omega
   cases hin : nameB u.module with
   | false =>
    have hr : usesB [o.module] o.uses = false := by rw [HORD.out, HD.out, hin, Bool.false_and, Bool.false_and]
    have HR := qh hr
    have HIN := qh hin
    clear hin hr hu hl k3 hmap3
    go_wp2_with fail
    refine (hn _ _).mono ?_
    rintro e w4 ⟨rfl, rfl⟩
    rw [HIN.out]
    go_wp2_with fail
    go_ret
    exact ⟨by rw [HV2.out, HR.out, Bool.false_and]; rfl, ACC2.out.alloc _⟩
   | true =>
   have HIN := qh hin
   cases hct : inL u.module (seenL o k) with
   | true =>
    have hr : usesB [o.module] o.uses = false := by rw [HORD.out, HD.out, hin, hct]; rfl
    rw [show SeenS (seenL o k) u.module = some (.int .i64 1) from if_pos hct, Option.getD_some] at hl
    have HR := qh hr
    clear hin hr hu k3 hmap3 hct
    go_wp2_with fail
    refine (hn _ _).mono ?_
    rintro e w4 ⟨rfl, rfl⟩
    rw [HIN.out]
    go_wp2_with fail
    go_ret
    exact ⟨by rw [HV2.out, HR.out, Bool.false_and]; rfl, ACC2.out.alloc _⟩
   | false =>
    have hord2 : usesB [o.module] o.uses = usesB (seenL o (k + 1)) (o.uses.drop (k + 1)) := by rw [HORD.out, HD.out, hin, hct, seenL_succ HX.out]; rfl
    rw [show SeenS (seenL o k) u.module = none from if_neg (by rw [hct]; decide), Option.getD_none] at hl
    have hfn : (fun j => if j = u.module then some (Value.int .i64 1) else SeenS (seenL o k) j) = SeenS (seenL o (k + 1)) := by
     funext j
     unfold SeenS
     rw [seenL_succ HX.out, inL_snoc]
     by_cases hj : j = u.module
     ·subst hj; simp
     ·have : ¬ u.module = j := fun e => hj e.symm
      simp [hj, this]
    rw [hfn] at hmap3
    have HMAP := qh hmap3
    have HORD2 := qh hord2
    have acc3 := (ACC2.out.alloc (.cells #[.string u.module, .int .u64 u.key] 72)).new k3 hsz
    have hgr : g ∉ [w0.heap.size] := by simp; omega
    have b3 := (B2.out.alloc (.cells #[.string u.module, .int .u64 u.key] 72)).wr k3 hgr
    have ACC3 := qh acc3
    have B3 := qh b3
    clear hin k3 hmap3 hct hord2 hfn acc3 b3 hgr
    go_wp2_with fail
    refine (hn _ _).mono ?_
    rintro e w4 ⟨rfl, rfl⟩
    rw [HIN.out]
    go_wp2_with fail
    go_roundw
    case rel => exact ⟨k + 1, by omega, by go_num, ACC3.out, B3.out, hsz, HMAP.out, HORD2.out⟩
    case measure => simp [intOf]; omega
  ·have hkn : k = o.uses.length := by omega
   subst hkn
   have hr : usesB [o.module] o.uses = true := by rw [HORD.out, List.drop_length]; rfl
   have HR := qh hr
   have d4 := B2.out.cell 4
   have d5 := B2.out.cell 5
   have d6 := B2.out.cell 6
   have d7 := B2.out.cell 7
   have d8 := B2.out.cell 8
   simp only [qgaq, qgzq, qgsq] at d4 d5 d6 d7 d8
   clear hr hmap
   go_wp2_with fail
   refine (omod_any o.mod _ _ _ P _ (HH.out.wr0 ACC2.out).mod).mono ?_
   rintro e w4 ⟨rfl, k4⟩
   go_wp2_with fail
   go_ret
   exact ⟨by rw [HV2.out, HR.out, Bool.true_and]; rfl, ACC2.out.trans k4⟩
end Go.Proofs.YtildcdgobdfieaaGreat
