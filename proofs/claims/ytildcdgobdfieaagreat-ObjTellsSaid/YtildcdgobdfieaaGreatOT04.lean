/- mach's Check: walked. No conditions. -/
import Derived.Test.YtildcdgobdfieaaGreatOT01
import Derived.Test.YtildcdgobdfieaaGreatOT03
set_option linter.unusedVariables false
set_option linter.unusedSimpArgs false
set_option maxRecDepth 100000
set_option maxHeartbeats 32000000
namespace Go.Proofs.YtildcdgobdfieaaGreat
open Go.RowKit
def SlMods (w : World) (P : Nat → Prop) (v : Value) (l : List ModD) : Prop :=
 ∃ xs, Sl w P 5 v l.length xs ∧ (∀ u ∈ xs, u.oneCell' = true) ∧ ∀ i m, l[i]? = some m → ∃ vp vi vn, (∀ j u, (m.cells vp vi vn)[j]? = some u → xs[i * 5 + j]? = some u) ∧ ModL w P vp vi vn m
section
variable {w w' : World} {P Q : Nat → Prop} {v : Value}
theorem SlMods.keep {ls : List Nat} {l : List ModD} (h : SlMods w P v l) (hw : Wr ls w w') (hP : ∀ b, P b → b ∉ ls) : SlMods w' P v l := by
 obtain ⟨xs, h1, h2, h3⟩ := h
 refine ⟨xs, h1.keep hw hP, h2, fun i o hi => ?_⟩
 obtain ⟨vp, vi, vn, e1, e2⟩ := h3 i o hi
 exact ⟨vp, vi, vn, e1, e2.keep hw hP⟩
theorem SlMods.wr0 {l : List ModD} (h : SlMods w P v l) (hw : Wr [] w w') : SlMods w' P v l := h.keep hw (fun _ _ => by simp)
theorem SlMods.form {l : List ModD} (h : SlMods w P v l) : ∃ A c, v = .slice A l.length c ∧ l.length ≤ c ∧ c ≤ maxLen := by
 obtain ⟨xs, h1, h2, h3⟩ := h
 exact h1.form
theorem mod_at {l : List ModD} (h : SlMods w P v l) {i : Nat} {m : ModD} (hi : l[i]? = some m) : ∃ b off c vp vi vn, v = .slice (some ⟨b, off, none⟩) l.length c ∧ (∀ j u, (m.cells vp vi vn)[j]? = some u → w.cell? ⟨b, off + i * 5 + j, none⟩ = some u) ∧ ModL w P vp vi vn m := by
 obtain ⟨xs, h1, h2, h3⟩ := h
 obtain ⟨vp, vi, vn, e1, e2⟩ := h3 i m hi
 obtain ⟨b, off, c, e, _, _, _, h4⟩ := Sl.thing h1 (by decide) (List.getElem?_eq_some_iff.1 hi).1
 refine ⟨b, off, c, vp, vi, vn, e, fun j u hj => ?_, e2⟩
 have hj5 : j < 5 := (List.getElem?_eq_some_iff.1 hj).1
 rw [Nat.add_assoc]
 exact h4 j u hj5 (e1 j u hj)
end
section
variable {P : Program} {T K E : TypeId} (hu : P.underlying T = some (.map K E)) (hk : P.underlying K = some (.int .i64))
include hu hk
theorem mapI_look1 {w : World} {r : Nat} {kn : Int → Option Value} (h : MapI w r kn) (k : Int) {z : Value} (hz : ∀ w, (zeroValue E).run P w = .ok z w) :
  (Instr.lookup T (.map (some r)) (.int .i64 k) false).run P w = .ok ((kn k).getD z) w := by
 obtain ⟨es, c, h1, h2, h3⟩ := h
 obtain ⟨o, g1, g2, _⟩ := findNow_int es.toList k 0 h2
 have hc : ∀ b w, (Instr.checkKey b 10000 K (.int .i64 k)).run P w = .ok () w := fun b w => MapKept.run_checkKey hk (by simp [MapKept.IsKey]) b 9999
 have := look_at hu hk w r es c (.int .i64 k) o z h1 hc g1 hz false
 rw [g2, h3] at this
 exact this
end
theorem inBi {n a b : Int} : inB n a b = true ↔ a ≤ n ∧ n ≤ b := by simp [inB]
theorem modsAt_drop {n : Int} {l : List ModD} {k : Nat} {m : ModD} (h : l[k]? = some m) (i : Nat) : modsAt n i (l.drop k) = if modB m n then modsAt n (i + 1) (l.drop (k + 1)) else some i := by
 have hk := (List.getElem?_eq_some_iff.1 h).1
 rw [List.drop_eq_getElem_cons hk, modsAt]
 have e : l[k] = m := (List.getElem?_eq_some_iff.1 h).2
 rw [e]
theorem ordB_drop {n : Int} {l : List Int} {k : Nat} {x : Int} (h : l[k]? = some x) : ordB n (l.take k) (l.drop k) = (inB x 0 (n - 1) && !((l.take k).contains x) && ordB n (l.take (k + 1)) (l.drop (k + 1))) := by
 have hk := (List.getElem?_eq_some_iff.1 h).1
 have e : l[k] = x := (List.getElem?_eq_some_iff.1 h).2
 conv => lhs; rw [List.drop_eq_getElem_cons hk, ordB]
 rw [e, List.take_add_one, h]
 rfl
def ChkAt (w : World) (g : Nat) (cs : Array Value) (ms : List ModD) (k : Nat) (wr : World) : Prop := Wr [] w wr ∧ Blk wr g 146 cs ∧ modsAt ms.length 0 ms = modsAt ms.length k (ms.drop k)
def SeenK (l : List Int) (k : Nat) (j : Int) : Option Value := if (l.take k).contains j = true then some (.int .i64 1) else none
def ChkOrd (w : World) (g r : Nat) (cs : Array Value) (n : Nat) (l : List Int) (k : Nat) (wr : World) : Prop := Wr [] w wr ∧ Blk wr g 146 cs ∧ w.heap.size ≤ r ∧ MapI wr r (SeenK l k) ∧ ordB n [] l = ordB n (l.take k) (l.drop k)
theorem check_any (ms : List ModD) (ord : List Int) (vm vo : Value) (P : Nat → Prop) (w : World) (hm : SlMods w P vm ms) (ho : SlI64 w P vo ord) :
  Calls Tryz.prog 76 #[.agg #[vm, vo]] w fun e w' => e = .returned (.tuple #[.int .i64 (checkP ms ord).1, .int .i64 (checkP ms ord).2]) ∧ Wr [] w w' := by
 have hmm := @run_makeMap Tryz.prog
 obtain ⟨Am, cm, rfl, lm1, lm2⟩ := SlMods.form hm
 obtain ⟨Ao, co, rfl, lo1, lo2⟩ := Sl.form ho
 unfold maxLen at lm2 lo2
 have hw1 := fun w => within_any (ms.length : Int) 1 64 w
 have hw2 := fun x w => within_any x 0 ((ms.length : Int) - 1) w
 have acc := (Wr.refl [] w).alloc (.cells #[.slice Am ms.length cm, .slice Ao ord.length co] 146)
 have bA := Blk.new w 146 #[.slice Am ms.length cm, .slice Ao ord.length co]
 obtain ⟨w0, hw0⟩ : ∃ w0, w.alloc (.cells #[.slice Am ms.length cm, .slice Ao ord.length co] 146) = w0 := ⟨_, rfl⟩
 obtain ⟨g, hg⟩ : ∃ g, w.heap.size = g := ⟨_, rfl⟩
 rw [hw0] at acc bA
 rw [hg] at bA
 obtain ⟨ch, hch⟩ : ∃ c, checkP ms ord = c := ⟨_, rfl⟩
 rw [hch]
 unfold checkP at hch
 have Hw0 := qh hw0
 have Hg := qh hg
 have HM := qh hm
 have HO := qh ho
 have HC := qh hch
 clear hw0 hg hm ho hch
 go_enter Tryz.func76, Tryz.ntmps76
 go_upto_region 1 with (fail)
 rw [Hw0.out, Hg.out]
 have c0 := bA.cell 0
 have c1 := bA.cell 1
 simp only [qgaq, qgzq, qgsq] at c0 c1
 go_wp2_with fail
 refine (hw1 _).mono ?_
 rintro e w1 ⟨rfl, rfl⟩
 cases q1 : inB (ms.length : Int) 1 64 with
 | false =>
  have hr : ch = ((ms.length : Int), 200) := by rw [← HC.out, if_neg (by rw [q1]; decide)]
  have HR := qh hr
  clear q1 hr
  go_wp2_with fail
  go_ret2
  exact ⟨by rw [HR.out]; rfl, acc⟩
 | true =>
 have hq := inBi.1 q1
 have hc2 : (match modsAt ms.length 0 ms with | some i => ((i : Int), (200 : Int)) | none => if ordB ms.length [] ord then (0, 0) else ((ms.length : Int), 200)) = ch := (if_pos q1).symm.trans HC.out
 have HC2 := qh hc2
 clear q1 hc2 hw1
 have hn1 : ms.length ≤ 64 := by omega
 have hn0 : 1 ≤ ms.length := by omega
 go_wp2_with fail
 go_loopw [20] (fun s20 wr => ∃ k : Nat, k ≤ ms.length ∧ s20 = .int .i64 k ∧ ChkAt w g #[.slice Am ms.length cm, .slice Ao ord.length co] ms k wr) (fun s20 _ => ms.length - (intOf s20).toNat)
 case atStart => exact ⟨0, by omega, rfl, acc, bA, rfl⟩
 case round =>
  obtain ⟨k, hk, rfl, acck, bk, hms⟩ := hrel
  have HMS := qh hms
  clear hms c0 c1 acc bA
  have c0 := bk.cell 0
  have c1 := bk.cell 1
  simp only [qgaq, qgzq, qgsq] at c0 c1
  by_cases hlt : k < ms.length
  ·obtain ⟨m, hmk⟩ : ∃ m, ms[k]? = some m := ⟨_, List.getElem?_eq_getElem hlt⟩
   obtain ⟨b, off, c, vp, vi, vn, e, hc, hml⟩ := mod_at (HM.out.wr0 acck) hmk
   injection e with e1 e2 e3
   subst e1
   subst e3
   obtain ⟨Bp, dp, rfl, _, _⟩ := Sl.form hml.procs
   obtain ⟨Bi, di, rfl, _, _⟩ := Sl.form hml.imports
   obtain ⟨Bn, dn, rfl, _, _⟩ := Sl.form hml.init
   have x0 := hc 0 _ rfl
   have x1 := hc 1 _ rfl
   have x2 := hc 2 _ rfl
   have x3 := hc 3 _ rfl
   have x4 := hc 4 _ rfl
   simp only [Nat.add_zero] at x0
   have hd := modsAt_drop (n := (ms.length : Int)) hmk k
   have HD := qh hd
   have HML := qh hml
   clear hc e2 hmk hd hml
   have hlti : (k : Int) < (ms.length : Int) := by omega
   have hk0 : (0 : Int) ≤ (k : Int) := by omega
   have hz : g < wr.heap.size := bk.lt
   go_wp2_with fail
   refine (module_any m (ms.length : Int) (by omega) (by omega) _ _ _ P _ (HML.out.wr0 ((Wr.refl [] wr).alloc _))).mono ?_
   rintro e w2 ⟨rfl, k2⟩
   have acc2 := (acck.alloc _).trans k2
   have b2 := (bk.alloc _).wr0 k2
   have ACC2 := qh acc2
   have B2 := qh b2
   clear x0 x1 x2 x3 x4 c0 c1 hz k2 acc2 b2 acck bk
   cases hmb : modB m (ms.length : Int) with
   | false =>
    have hr : ch = ((k : Int), 200) := by rw [← HC2.out, HMS.out, HD.out, hmb]; rfl
    have HR := qh hr
    clear hmb hr
    go_wp2_with fail
    go_ret2
    exact ⟨by rw [HR.out]; rfl, ACC2.out⟩
   | true =>
    have hms2 : modsAt ms.length 0 ms = modsAt ms.length (k + 1) (ms.drop (k + 1)) := by rw [HMS.out, HD.out, hmb, if_pos rfl]
    have HMS2 := qh hms2
    clear hmb hms2
    go_wp2_with fail
    go_roundw
    case rel => exact ⟨k + 1, by omega, by go_num, ACC2.out, B2.out, HMS2.out⟩
    case measure => simp [intOf]; omega
  ·have hkn : k = ms.length := by omega
   subst hkn
   have hms0 : modsAt ms.length 0 ms = none := by rw [HMS.out, List.drop_length]; rfl
   have hc3 : (if ordB ms.length [] ord then ((0 : Int), (0 : Int)) else ((ms.length : Int), 200)) = ch := by rw [← HC2.out, hms0]
   have HC3 := qh hc3
   have hz : g < wr.heap.size := bk.lt
   have hmp := MapI.new wr
   have ACCK := qh acck
   have BK := qh bk
   have HMP := qh hmp
   have hsz := acck.size
   clear hms0 hc3 acck bk HMS hmp
   obtain ⟨wo, rfl⟩ : ∃ wo : World, wo = wr := ⟨_, rfl⟩
   clear c0 c1
   have c1 := BK.out.cell 1
   simp only [qgaq, qgzq, qgsq] at c1
   go_wp2_with fail
   go_loopw [35] (fun s35 w2 => ∃ k : Nat, k ≤ ord.length ∧ s35 = .int .i64 k ∧ ChkOrd w g wo.heap.size #[.slice Am ms.length cm, .slice Ao ord.length co] ms.length ord k w2) (fun s35 _ => ord.length - (intOf s35).toNat)
   case atStart => exact ⟨0, by omega, rfl, ACCK.out.alloc _, BK.out.alloc _, hsz, HMP.out, by simp⟩
   case round =>
    obtain ⟨k, hk, rfl, acc2, b2, _, hmap, hord⟩ := hrel
    have HORD := qh hord
    have ACC2 := qh acc2
    have B2 := qh b2
    clear hord acc2 b2 c1 hz
    by_cases hlt2 : k < ord.length
    ·obtain ⟨x, hx⟩ : ∃ x, ord[k]? = some x := ⟨_, List.getElem?_eq_getElem hlt2⟩
     obtain ⟨b, off, c, e, _, _, hc⟩ := i64_at (Sl.wr0 HO.out ACC2.out) hx
     injection e with e1 e2 e3
     subst e1
     subst e3
     have hd := ordB_drop (n := (ms.length : Int)) hx
     have HD := qh hd
     have hl := mapI_look1 Tryz.underlying189 Tryz.underlying3 hmap x Tryz.zeroValue3
     obtain ⟨w3, hu, k3, hmap3⟩ := mapI_upd Tryz.underlying189 Tryz.underlying3 hmap x (.int .i64 1)
     have HX := qh hx
     clear hx hd e2
     have hlti : (k : Int) < (ord.length : Int) := by omega
     have hk0 : (0 : Int) ≤ (k : Int) := by omega
     cases hin : inB x 0 ((ms.length : Int) - 1) with
     | false =>
      have hr : ch = ((ms.length : Int), 200) := by rw [← HC3.out, HORD.out, HD.out, hin, Bool.false_and, Bool.false_and]; rfl
      have HR := qh hr
      have HIN := qh hin
      clear hin hr hu hl k3 hmap3 hmap
      go_wp2_with fail
      refine (hw2 _ _).mono ?_
      rintro e w4 ⟨rfl, rfl⟩
      rw [HIN.out]
      go_wp2_with fail
      go_ret2
      exact ⟨by rw [HR.out]; rfl, ACC2.out⟩
     | true =>
     have HIN := qh hin
     cases hct : (ord.take k).contains x with
     | true =>
      have hr : ch = ((ms.length : Int), 200) := by rw [← HC3.out, HORD.out, HD.out, hin, hct]; rfl
      rw [show SeenK ord k x = some (.int .i64 1) from if_pos hct, Option.getD_some] at hl
      have HR := qh hr
      clear hin hr hu k3 hmap3 hmap hct
      go_wp2_with fail
      refine (hw2 _ _).mono ?_
      rintro e w4 ⟨rfl, rfl⟩
      rw [HIN.out]
      go_wp2_with fail
      go_ret2
      exact ⟨by rw [HR.out]; rfl, ACC2.out⟩
     | false =>
      have hord2 : ordB (ms.length : Int) [] ord = ordB (ms.length : Int) (ord.take (k + 1)) (ord.drop (k + 1)) := by rw [HORD.out, HD.out, hin, hct]; rfl
      rw [show SeenK ord k x = none from if_neg (by rw [hct]; decide), Option.getD_none] at hl
      have hfn : (fun j => if j = x then some (Value.int .i64 1) else SeenK ord k j) = SeenK ord (k + 1) := by
       funext j
       unfold SeenK
       rw [List.take_add_one, HX.out]
       by_cases hj : j = x
       ·subst hj; simp
       ·simp [hj]
      rw [hfn] at hmap3
      have HMAP := qh hmap3
      have HORD2 := qh hord2
      have acc3 := ACC2.out.new k3 hsz
      have hgr : g ∉ [wo.heap.size] := by have := BK.out.lt; simp; omega
      have b3 := B2.out.wr k3 hgr
      have ACC3 := qh acc3
      have B3 := qh b3
      clear hin k3 hmap3 hmap hct hord2 hfn acc3 b3 hgr
      go_wp2_with fail
      refine (hw2 _ _).mono ?_
      rintro e w4 ⟨rfl, rfl⟩
      rw [HIN.out]
      go_wp2_with fail
      go_roundw
      case rel => exact ⟨k + 1, by omega, by go_num, ACC3.out, B3.out, hsz, HMAP.out, HORD2.out⟩
      case measure => simp [intOf]; omega
    ·have hkn : k = ord.length := by omega
     subst hkn
     have hr : ch = (0, 0) := by rw [← HC3.out, HORD.out, List.drop_length]; rfl
     have HR := qh hr
     clear hr hmap
     go_wp2_with fail
     go_ret2
     exact ⟨by rw [HR.out]; rfl, ACC2.out⟩
end Go.Proofs.YtildcdgobdfieaaGreat

namespace Go.Proofs.YtildcdgobdfieaaGreat
open Go.RowKit
theorem beqB (a b : ByteArray) : (a == b) = decide (a = b) := by
 rw [Bool.eq_iff_iff, decide_eq_true_iff]
 obtain ⟨x⟩ := a
 obtain ⟨y⟩ := b
 show (x == y) = true ↔ _
 rw [beq_iff_eq]
 simp
def fndS : List MapEntry → ByteArray → Option Value
 | [], _ => none
 | e :: l, k => match e.key with | .string a => if a = k then some e.val else fndS l k | _ => none
def StrKeys (l : List MapEntry) : Prop := ∀ e ∈ l, ∃ a, e.key = .string a
theorem findNow_str : ∀ (l : List MapEntry) (k : ByteArray) (i : Nat), StrKeys l → ∃ o, Instr.findNow .string (.string k) l i = some o ∧ o.map (·.2) = fndS l k ∧
  ∀ p, o = some p → ∃ j e, p.1 = i + j ∧ l[j]? = some e ∧ e.key = .string k ∧ ∀ v k', fndS (l.modify j fun e => { e with key := .string k, val := v }) k' = if k' = k then some v else fndS l k'
 | [], k, i, _ => ⟨none, rfl, rfl, fun p h => by cases h⟩
 | e :: l, k, i, h => by
  obtain ⟨a, ha⟩ := h e (.head _)
  by_cases hak : a = k
  ·subst hak
   refine ⟨some (i, e.val), ?_, ?_, ?_⟩
   ·simp [Instr.findNow, Instr.sameNow, ha, beqB]
   ·simp [fndS, ha]
   ·intro p hp
    injection hp with hp
    subst hp
    refine ⟨0, e, by simp, rfl, ha, fun v k' => ?_⟩
    simp only [List.modify_zero_cons, fndS, ha]
    by_cases h1 : k' = a
    ·subst h1; simp
    ·have h2 : ¬ a = k' := fun e => h1 e.symm
     simp [h1, h2]
  ·obtain ⟨o, h1, h2, h3⟩ := findNow_str l k (i + 1) (fun e he => h e (.tail _ he))
   refine ⟨o, ?_, ?_, ?_⟩
   ·have : (k == a) = false := by rw [beqB]; exact decide_eq_false (fun e => hak e.symm)
    simp [Instr.findNow, Instr.sameNow, ha, this, h1]
   ·simp [fndS, ha, hak, h2]
   ·intro p hp
    obtain ⟨j, e', g1, g2, g3, g4⟩ := h3 p hp
    refine ⟨j + 1, e', by omega, g2, g3, fun v k' => ?_⟩
    simp only [List.modify_succ_cons, fndS, ha]
    by_cases h5 : a = k'
    ·subst h5
     simp [hak]
    ·simp only [h5, if_false]
     exact g4 v k'
theorem fndS_push (l : List MapEntry) (k : ByteArray) (v : Value) (b : Nat) (h : fndS l k = none) (hk : StrKeys l) (k' : ByteArray) : fndS (l ++ [{ key := .string k, val := v, born := b }]) k' = if k' = k then some v else fndS l k' := by
 induction l with
 | nil =>
  simp only [List.nil_append, fndS]
  by_cases h1 : k' = k
  ·subst h1; simp
  ·have : ¬ k = k' := fun e => h1 e.symm
   simp [h1, this]
 | cons e l ih =>
  obtain ⟨a, ha⟩ := hk e (.head _)
  simp only [List.cons_append, fndS, ha] at h ⊢
  by_cases h2 : a = k
  ·simp [h2] at h
  ·rw [if_neg h2] at h
   by_cases h3 : a = k'
   ·subst h3
    simp [h2]
   ·simp only [h3, if_false]
    exact ih h (fun e he => hk e (.tail _ he))
theorem strKeys_modify (l : List MapEntry) (h : StrKeys l) (j : Nat) (k : ByteArray) (v : Value) : StrKeys (l.modify j fun e => { e with key := .string k, val := v }) := by
 intro e he
 obtain ⟨i, hi⟩ := List.mem_iff_getElem?.1 he
 rw [List.getElem?_modify] at hi
 cases hx : l[i]? with
 | none => rw [hx] at hi; cases hi
 | some x =>
  rw [hx] at hi
  by_cases hj : j = i
  ·subst hj
   simp at hi
   subst hi
   exact ⟨k, rfl⟩
  ·simp [hj] at hi
   subst hi
   exact h x (List.mem_of_getElem? hx)
def MapS (w : World) (r : Nat) (kn : ByteArray → Option Value) : Prop := ∃ es c, w.heap[r]? = some (.map es c) ∧ StrKeys es.toList ∧ ∀ k, fndS es.toList k = kn k
theorem MapS.wr {w w' : World} {r : Nat} {kn : ByteArray → Option Value} {l : List Nat} (h : MapS w r kn) (hw : Wr l w w') (hr : r ∉ l) : MapS w' r kn := by
 obtain ⟨es, c, h1, h2, h3⟩ := h
 have hlt : r < w.heap.size := by
  rcases Nat.lt_or_ge r w.heap.size with h | h
  ·exact h
  ·rw [Array.getElem?_eq_none h] at h1; cases h1
 exact ⟨es, c, (hw.block r hlt hr).trans h1, h2, h3⟩
theorem MapS.lt {w : World} {r : Nat} {kn : ByteArray → Option Value} (h : MapS w r kn) : r < w.heap.size := by
 obtain ⟨es, c, h1, h2, h3⟩ := h
 rcases Nat.lt_or_ge r w.heap.size with h | h
 ·exact h
 ·rw [Array.getElem?_eq_none h] at h1; cases h1
theorem MapS.new (w : World) : MapS (w.alloc (.map #[] 0)) w.heap.size (fun _ => none) := ⟨#[], 0, heap_alloc_new w _, by simp [StrKeys], fun k => rfl⟩
section
variable {P : Program} {T K E : TypeId} (hu : P.underlying T = some (.map K E)) (hk : P.underlying K = some .string)
include hu hk
theorem mapS_upd {w : World} {r : Nat} {kn : ByteArray → Option Value} (h : MapS w r kn) (k : ByteArray) (v : Value) :
  ∃ W, (Instr.mapUpdate T (.map (some r)) (.string k) v).run P w = .ok () W ∧ Wr [r] w W ∧ MapS W r (fun j => if j = k then some v else kn j) := by
 have hr := h.lt
 obtain ⟨es, c, h1, h2, h3⟩ := h
 have hc : ∀ w, (Instr.checkKey false 10000 K (.string k)).run P w = .ok () w := fun w => MapKept.run_checkKey hk (by simp [MapKept.IsKey]) false 9999
 have hW : ∀ o, Wr [r] w { w with heap := w.heap.setIfInBounds r o } := fun o => ⟨rfl, rfl, rfl, by simp, fun j _ hj => by
  have : r ≠ j := fun e => hj (by simp [e])
  simp [this]⟩
 have hH : ∀ o, (w.heap.setIfInBounds r o)[r]? = some o := fun o => by simp [hr]
 obtain ⟨o, g1, g2, g3⟩ := findNow_str es.toList k 0 h2
 cases o with
 | none =>
  refine ⟨_, ins_at hu hk w r es c (.string k) v h1 hc g1, hW _, _, _, hH _, ?_, ?_⟩
  ·intro e he
   simp only [Array.toList_push, List.mem_append, List.mem_singleton] at he
   rcases he with he | rfl
   ·exact h2 e he
   ·exact ⟨k, rfl⟩
  ·intro k'
   rw [Array.toList_push, fndS_push es.toList k v c g2.symm h2 k', h3]
 | some p =>
  obtain ⟨j, e, q1, q2, q3, q4⟩ := g3 p rfl
  have hj : es[p.1]? = some e := by
   rw [q1, Nat.zero_add, ← Array.getElem?_toList]
   exact q2
  have hrun : (Instr.mapUpdate T (.map (some r)) (.string k) v).run P w = .ok () { w with heap := w.heap.setIfInBounds r (.map (es.modify p.1 fun e => { e with key := .string k, val := v }) c) } := by
   obtain ⟨a, b⟩ := p
   simp only at hj
   simp [Instr.mapUpdate, run_underlying hu, Sem.run_bind, hc, Instr.findKey, run_underlying hk, g1, getObj, setObj, Sem.run, h1, Result.andThen, hj, q3]
   have := MapKept.run_keyThatStays (P := P) (w := w) (d := .string) (k := .string k) (by simp [MapKept.IsKey])
   rw [this]
   simp [h1]
  refine ⟨_, hrun, hW _, _, _, hH _, ?_, ?_⟩
  ·rw [Array.toList_modify]
   exact strKeys_modify _ h2 _ _ _
  ·intro k'
   rw [Array.toList_modify, q1, Nat.zero_add, q4 v k', h3]
theorem mapS_look1 {w : World} {r : Nat} {kn : ByteArray → Option Value} (h : MapS w r kn) (k : ByteArray) {z : Value} (hz : ∀ w, (zeroValue E).run P w = .ok z w) :
  (Instr.lookup T (.map (some r)) (.string k) false).run P w = .ok ((kn k).getD z) w := by
 obtain ⟨es, c, h1, h2, h3⟩ := h
 obtain ⟨o, g1, g2, _⟩ := findNow_str es.toList k 0 h2
 have hc : ∀ b w, (Instr.checkKey b 10000 K (.string k)).run P w = .ok () w := fun b w => MapKept.run_checkKey hk (by simp [MapKept.IsKey]) b 9999
 have := look_at hu hk w r es c (.string k) o z h1 hc g1 hz false
 rw [g2, h3] at this
 exact this
end
end Go.Proofs.YtildcdgobdfieaaGreat

namespace Go.Proofs.YtildcdgobdfieaaGreat
open Go.RowKit
def MapR {α : Type} (w : World) (r : Nat) (R : Value → α → Prop) (f : ByteArray → Option α) : Prop :=
 ∃ kn, MapS w r kn ∧ ∀ k, (f k = none → kn k = none) ∧ ∀ a, f k = some a → ∃ v, kn k = some v ∧ R v a
section
variable {α : Type} {w w' : World} {r : Nat} {R R' : Value → α → Prop} {f : ByteArray → Option α}
theorem MapR.wr {l : List Nat} (h : MapR w r R f) (hw : Wr l w w') (hr : r ∉ l) (hR : ∀ v a, R v a → R' v a) : MapR w' r R' f := by
 obtain ⟨kn, h1, h2⟩ := h
 refine ⟨kn, h1.wr hw hr, fun k => ⟨(h2 k).1, fun a ha => ?_⟩⟩
 obtain ⟨v, e, hv⟩ := (h2 k).2 a ha
 exact ⟨v, e, hR v a hv⟩
theorem MapR.keep {l : List Nat} (h : MapR w r R f) (hw : Wr l w w') (hr : r ∉ l) : MapR w' r R f := h.wr hw hr (fun _ _ h => h)
theorem MapR.lt (h : MapR w r R f) : r < w.heap.size := by
 obtain ⟨kn, h1, h2⟩ := h
 exact h1.lt
theorem MapR.new (w : World) (R : Value → α → Prop) : MapR (w.alloc (.map #[] 0)) w.heap.size R (fun _ => none) :=
 ⟨fun _ => none, MapS.new w, fun k => ⟨fun _ => rfl, fun a ha => by cases ha⟩⟩
variable {P : Program} {T K E : TypeId} (hu : P.underlying T = some (.map K E)) (hk : P.underlying K = some .string)
include hu hk
theorem MapR.upd (h : MapR w r R f) (k : ByteArray) (v : Value) (a : α) (hv : R v a) :
  ∃ W, (Instr.mapUpdate T (.map (some r)) (.string k) v).run P w = .ok () W ∧ Wr [r] w W ∧ MapR W r R (fun j => if j = k then some a else f j) := by
 obtain ⟨kn, h1, h2⟩ := h
 obtain ⟨W, e, hw, h3⟩ := mapS_upd hu hk h1 k v
 refine ⟨W, e, hw, _, h3, fun j => ?_⟩
 by_cases hj : j = k
 ·simp only [if_pos hj]
  refine ⟨(fun x => by cases x), (fun b hb => ?_)⟩
  injection hb with hb
  subst hb
  exact ⟨v, rfl, hv⟩
 ·simp only [if_neg hj]
  exact h2 j
end
end Go.Proofs.YtildcdgobdfieaaGreat

namespace Go.Proofs.YtildcdgobdfieaaGreat
open Go.RowKit
theorem slMods_one {w : World} {nb : Nat} {t : TypeId} {m : ModD} {vp vi vn : Value} (hb : Blk w nb t (m.cells vp vi vn).toArray) (h : ModL w (fun _ => True) vp vi vn m) : SlMods w (fun _ => True) (.slice (some ⟨nb, 0, none⟩) 1 1) [m] := by
 refine ⟨m.cells vp vi vn, ⟨_, _, rfl, Nat.le_refl _, by unfold maxLen; simp, rfl, fun j u hj => ⟨nb, 0, rfl, trivial, ?_⟩⟩, ?_, fun i x hi => ?_⟩
 ·rw [hb.cell, Nat.zero_add]
  simpa using hj
 ·obtain ⟨Ap, cp, rfl, _, _⟩ := Sl.form h.procs
  obtain ⟨Ai, ci, rfl, _, _⟩ := Sl.form h.imports
  obtain ⟨An, cn, rfl, _, _⟩ := Sl.form h.init
  intro u hu
  simp only [ModD.cells, List.mem_cons, List.not_mem_nil, or_false] at hu
  rcases hu with rfl | rfl | rfl | rfl | rfl <;> rfl
 ·cases i with
  | zero =>
   simp only [qgzq, Option.some.injEq] at hi
   subst hi
   exact ⟨vp, vi, vn, fun j u hj => by simpa using hj, h⟩
  | succ i => simp at hi
theorem checkP_one (m : ModD) : checkP [m] [] = if modB m 1 then (0, 0) else (0, 200) := by
 have h1 : inB (([m].length : Nat) : Int) 1 64 = true := inBi.2 ⟨by simp, by simp⟩
 unfold checkP
 rw [if_pos h1]
 cases h : modB m 1 with
 | true =>
  have : modsAt (([m].length : Nat) : Int) 0 [m] = none := by
   show (if modB m 1 then _ else _) = _
   rw [h]; rfl
  simp only [this]
  rfl
 | false =>
  have : modsAt (([m].length : Nat) : Int) 0 [m] = some 0 := by
   show (if modB m 1 then _ else _) = _
   rw [h]; rfl
  simp only [this]
  rfl
theorem oname_any (s : ByteArray) (w : World) : Calls Tryz.prog 48 #[.string s] w fun e w' => e = .returned (.bool (nameB s)) ∧ w = w' := by
 unfold nameB
 by_cases h : (1 : Int) ≤ (s.size : Int)
 ·rw [decide_eq_true (show 1 ≤ s.size by omega), Bool.true_and]
  go_enter Tryz.func48, Tryz.ntmps48
  go_wp2_with fail
  go_ret
  refine ⟨?_, rfl⟩
  have e : decide (s.size ≤ 255) = decide ((s.size : Int) ≤ 255) := by
   by_cases c : s.size ≤ 255
   ·rw [decide_eq_true c]; exact (decide_eq_true (by omega)).symm
   ·rw [decide_eq_false c]; exact (decide_eq_false (by omega)).symm
  rw [e]
  rfl
 ·rw [decide_eq_false (show ¬ 1 ≤ s.size by omega), Bool.false_and]
  go_enter Tryz.func48, Tryz.ntmps48
  go_wp2_with fail
  go_ret
  exact ⟨rfl, rfl⟩
def OmAt (w : World) (g : Nat) (cs : Array Value) (m : ModD) (k : Nat) (wr : World) : Prop := wr = w ∧ ∀ (j : Nat) (x : Int), j < k → m.imports[j]? = some x → inB x 0 63 = true
theorem omod_any (m : ModD) (vp vi vn : Value) (P : Nat → Prop) (w : World) (h : ModL w P vp vi vn m) :
  Calls Tryz.prog 43 #[m.val vp vi vn] w fun e w' => e = .returned (.bool (omodB m)) ∧ Wr [] w w' := by
 have hv : omodB m = (decide (m.imports.length ≤ 255) && (m.imports.all (fun i => inB i 0 63) && modB { m with imports := [] } 1)) := by unfold omodB; rw [Bool.and_assoc]
 obtain ⟨Ap, cp, rfl, lp1, lp2⟩ := Sl.form h.procs
 obtain ⟨Ai, ci, rfl, li1, li2⟩ := Sl.form h.imports
 obtain ⟨An, cn, rfl, ln1, ln2⟩ := Sl.form h.init
 unfold maxLen at lp2 li2 ln2
 have acc := (Wr.refl [] w).alloc (.cells #[.string m.code, .slice Ap m.procs.length cp, .slice Ai m.imports.length ci, .int .i64 m.data, .slice An m.init.length cn] 28)
 have bA := Blk.new w 28 #[.string m.code, .slice Ap m.procs.length cp, .slice Ai m.imports.length ci, .int .i64 m.data, .slice An m.init.length cn]
 obtain ⟨w0, hw0⟩ : ∃ w0, w.alloc (.cells #[.string m.code, .slice Ap m.procs.length cp, .slice Ai m.imports.length ci, .int .i64 m.data, .slice An m.init.length cn] 28) = w0 := ⟨_, rfl⟩
 obtain ⟨g, hg⟩ : ∃ g, w.heap.size = g := ⟨_, rfl⟩
 rw [hw0] at acc bA
 rw [hg] at bA
 unfold ModD.val ModD.cells
 have Hw0 := qh hw0
 have Hg := qh hg
 have HH := qh (h.wr0 acc)
 have HH0 := qh h
 have HV := qh hv
 clear hw0 hg h hv
 go_enter Tryz.func43, Tryz.ntmps43
 go_upto_region 1 with (fail)
 rw [Hw0.out, Hg.out]
 have c0 := bA.cell 0
 have c1 := bA.cell 1
 have c2 := bA.cell 2
 have c3 := bA.cell 3
 have c4 := bA.cell 4
 have f2 := bA.frozen 2
 simp only [qgaq, qgzq, qgsq] at c0 c1 c2 c3 c4
 by_cases q1 : 255 < (m.imports.length : Int)
 ·go_wp2_with fail
  go_ret
  refine ⟨?_, acc⟩
  rw [HV.out, decide_eq_false (show ¬ m.imports.length ≤ 255 by omega)]
  rfl
 have hv2 : omodB m = (m.imports.all (fun i => inB i 0 63) && modB { m with imports := [] } 1) := by rw [HV.out, decide_eq_true (show m.imports.length ≤ 255 by omega), Bool.true_and]
 have HV2 := qh hv2
 clear hv2
 go_wp2_with fail
 go_loopw [14] (fun s14 wr => ∃ k : Nat, k ≤ m.imports.length ∧ s14 = .int .i64 k ∧ OmAt w0 g #[] m k wr) (fun s14 _ => m.imports.length - (intOf s14).toNat)
 case atStart => exact ⟨0, by omega, rfl, rfl, fun j x hj => absurd hj (by omega)⟩
 case round =>
  obtain ⟨k, hk, rfl, rfl, hyes⟩ := hrel
  have HYES := qh hyes
  clear hyes
  by_cases hlt : k < m.imports.length
  ·obtain ⟨x, hx⟩ : ∃ x, m.imports[k]? = some x := ⟨_, List.getElem?_eq_getElem hlt⟩
   obtain ⟨b, off, c, e, _, _, hc⟩ := i64_at HH.out.imports hx
   injection e with e1 e2 e3
   subst e1
   subst e3
   have HX := qh hx
   clear hx e2
   have hlti : (k : Int) < (m.imports.length : Int) := by omega
   have hk0 : (0 : Int) ≤ (k : Int) := by omega
   by_cases q2 : x < 0
   ·have hf : m.imports.all (fun i => inB i 0 63) = false := all_no (p := fun i => inB i 0 63) HX.out (by
     unfold inB
     rw [decide_eq_false (show ¬ (0 : Int) ≤ x by omega), Bool.false_and])
    have HF := qh hf
    clear hf
    go_wp2_with fail
    go_ret
    exact ⟨by rw [HV2.out, HF.out, Bool.false_and]; rfl, acc⟩
   by_cases q3 : 64 ≤ x
   ·have hf : m.imports.all (fun i => inB i 0 63) = false := all_no (p := fun i => inB i 0 63) HX.out (by
     unfold inB
     rw [decide_eq_false (show ¬ x ≤ 63 by omega), Bool.and_false])
    have HF := qh hf
    clear hf
    go_wp2_with fail
    go_ret
    exact ⟨by rw [HV2.out, HF.out, Bool.false_and]; rfl, acc⟩
   go_wp2_with fail
   go_roundw
   case rel =>
    refine ⟨k + 1, by omega, by go_num, rfl, fun j y hj hy => ?_⟩
    by_cases hjk : j = k
    ·subst hjk
     rw [HX.out] at hy
     injection hy with hy
     rw [← hy]
     exact inBi.2 ⟨by omega, by omega⟩
    ·exact HYES.out j y (by omega) hy
   case measure => simp [intOf]; omega
  ·have hkn : k = m.imports.length := by omega
   subst hkn
   have hall : m.imports.all (fun i => inB i 0 63) = true := all_yes (p := fun i => inB i 0 63) (fun j x hj => HYES.out j x (List.getElem?_eq_some_iff.1 hj).1 hj)
   have hv3 : omodB m = modB { m with imports := [] } 1 := by rw [HV2.out, hall, Bool.true_and]
   have HV3 := qh hv3
   have hz : g < wr.heap.size := bA.lt
   have acc1 := (acc.setNew (b := g) (o := 2) (by rw [Hg.out]; exact Nat.le_refl _) (.slice none 0 0)).alloc (.cells #[.string m.code, .slice Ap m.procs.length cp, .slice none 0 0, .int .i64 m.data, .slice An m.init.length cn] 28)
   have hin : ModL ((wr.setCell ⟨g, 2, none⟩ (.slice none 0 0)).alloc (.cells #[.string m.code, .slice Ap m.procs.length cp, .slice none 0 0, .int .i64 m.data, .slice An m.init.length cn] 28)) (fun _ => True) (.slice Ap m.procs.length cp) (.slice none 0 0) (.slice An m.init.length cn) { m with imports := [] } := by
    have h2 := (HH0.out.wr0 acc1).into (Q := fun _ => True) (fun _ _ _ => trivial)
    exact ⟨h2.procs, Sl.nil _ _ 1, h2.init⟩
   have hmo := slMods_one (m := { m with imports := [] }) (vp := .slice Ap m.procs.length cp) (vi := .slice none 0 0) (vn := .slice An m.init.length cn) (Blk.new (wr.setCell ⟨g, 2, none⟩ (.slice none 0 0)) 28 #[.string m.code, .slice Ap m.procs.length cp, .slice none 0 0, .int .i64 m.data, .slice An m.init.length cn]) hin
   have hck := check_any [{ m with imports := [] }] [] _ (.slice none 0 0) (fun _ => True) _ hmo (Sl.nil _ _ 1)
   rw [checkP_one] at hck
   rw [show (wr.setCell ⟨g, 2, none⟩ (.slice none 0 0)).heap.size = wr.heap.size by simp] at hck
   have HCK := qh hck
   have HBA := qh bA
   have ACC1 := qh acc1
   clear hall hv3 bA hin hmo hck acc acc1
   go_wp2_with fail
   refine HCK.out.mono ?_
   rintro e w3 ⟨rfl, k3⟩
   cases hb : modB { m with imports := [] } 1 with
   | true =>
    have HB := qh hb
    clear hb
    go_wp2_with fail
    go_ret
    exact ⟨by rw [HV3.out, HB.out]; rfl, ACC1.out.trans k3⟩
   | false =>
    have HB := qh hb
    clear hb
    go_wp2_with fail
    go_ret
    exact ⟨by rw [HV3.out, HB.out]; rfl, ACC1.out.trans k3⟩
end Go.Proofs.YtildcdgobdfieaaGreat
