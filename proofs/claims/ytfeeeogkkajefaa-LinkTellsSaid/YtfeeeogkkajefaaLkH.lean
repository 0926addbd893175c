/- mach's Check: walked. No conditions. -/
import Derived.Test.YtfeeeogkkajefaaLkG
import Derived.Test.YtfeeeogkkajefaaMapB
namespace Go.Proofs.Ytfeeeogkkajefaa
open Go.RowKit
set_option linter.unusedVariables false
set_option linter.unusedSimpArgs false

def SlMods (w : World) (P : Nat → Prop) (v : Value) (l : List ModD) : Prop :=
  ∃ xs, Sl w P 5 v l.length xs ∧ (∀ u ∈ xs, u.oneCell' = true) ∧ ∀ i m, l[i]? = some m → ∃ vp vi vn, (∀ j u, (m.cells vp vi vn)[j]? = some u → xs[i * 5 + j]? = some u) ∧ ModL w P vp vi vn m
section
variable {w w' : World} {P Q : Nat → Prop} {v : Value}
theorem SlMods.keep {ls : List Nat} {l : List ModD} (h : SlMods w P v l) (hw : Wr ls w w') (hP : ∀ b, P b → b ∉ ls) : SlMods w' P v l := by
  obtain ⟨xs, h1, h2, h3⟩ := h
  refine ⟨xs, h1.keep hw hP, h2, fun i o hi => ?_⟩
  obtain ⟨vp, vi, vn, e1, e2⟩ := h3 i o hi
  exact ⟨vp, vi, vn, e1, e2.keep hw hP⟩
theorem SlMods.wr0 {l : List ModD} (h : SlMods w P v l) (hw : Wr [] w w') : SlMods w' P v l := h.keep hw (fun _ _ => by simp)
theorem SlMods.form {l : List ModD} (h : SlMods w P v l) : ∃ A c, v = .slice A l.length c ∧ l.length ≤ c ∧ c ≤ maxLen := by
  obtain ⟨xs, h1, h2, h3⟩ := h
  exact h1.form
theorem mod_at {l : List ModD} (h : SlMods w P v l) {i : Nat} {m : ModD} (hi : l[i]? = some m) : ∃ b off c vp vi vn, v = .slice (some ⟨b, off, none⟩) l.length c ∧ (∀ j u, (m.cells vp vi vn)[j]? = some u → w.cell? ⟨b, off + i * 5 + j, none⟩ = some u) ∧ ModL w P vp vi vn m := by
  obtain ⟨xs, h1, h2, h3⟩ := h
  obtain ⟨vp, vi, vn, e1, e2⟩ := h3 i m hi
  obtain ⟨b, off, c, e, _, _, _, h4⟩ := Sl.thing h1 (by decide) (List.getElem?_eq_some_iff.1 hi).1
  refine ⟨b, off, c, vp, vi, vn, e, fun j u hj => ?_, e2⟩
  have hj5 : j < 5 := (List.getElem?_eq_some_iff.1 hj).1
  rw [Nat.add_assoc]
  exact h4 j u hj5 (e1 j u hj)
end
section
variable {P : Program} {T K E : TypeId} (hu : P.underlying T = some (.map K E)) (hk : P.underlying K = some (.int .i64))
include hu hk
theorem mapI_look1 {w : World} {r : Nat} {kn : Int → Option Value} (h : MapI w r kn) (k : Int) {z : Value} (hz : ∀ w, (zeroValue E).run P w = .ok z w) :
    (Instr.lookup T (.map (some r)) (.int .i64 k) false).run P w = .ok ((kn k).getD z) w := by
  obtain ⟨es, c, h1, h2, h3⟩ := h
  obtain ⟨o, g1, g2, _⟩ := findNow_int es.toList k 0 h2
  have hc : ∀ b w, (Instr.checkKey b 10000 K (.int .i64 k)).run P w = .ok () w := fun b w => MapKept.run_checkKey hk (by simp [MapKept.IsKey]) b 9999
  have := look_at hu hk w r es c (.int .i64 k) o z h1 hc g1 hz false
  rw [g2, h3] at this
  exact this
end
theorem inBi {n a b : Int} : inB n a b = true ↔ a ≤ n ∧ n ≤ b := by simp [inB]
theorem modsAt_drop {n : Int} {l : List ModD} {k : Nat} {m : ModD} (h : l[k]? = some m) (i : Nat) : modsAt n i (l.drop k) = if modB m n then modsAt n (i + 1) (l.drop (k + 1)) else some i := by
  have hk := (List.getElem?_eq_some_iff.1 h).1
  rw [List.drop_eq_getElem_cons hk, modsAt]
  have e : l[k] = m := (List.getElem?_eq_some_iff.1 h).2
  rw [e]
theorem ordB_drop {n : Int} {l : List Int} {k : Nat} {x : Int} (h : l[k]? = some x) : ordB n (l.take k) (l.drop k) = (inB x 0 (n - 1) && !((l.take k).contains x) && ordB n (l.take (k + 1)) (l.drop (k + 1))) := by
  have hk := (List.getElem?_eq_some_iff.1 h).1
  have e : l[k] = x := (List.getElem?_eq_some_iff.1 h).2
  conv => lhs; rw [List.drop_eq_getElem_cons hk, ordB]
  rw [e, List.take_add_one, h]
  rfl
def ChkAt (w : World) (g : Nat) (cs : Array Value) (ms : List ModD) (k : Nat) (wr : World) : Prop := Wr [] w wr ∧ Blk wr g 29 cs ∧ modsAt ms.length 0 ms = modsAt ms.length k (ms.drop k)
def SeenK (l : List Int) (k : Nat) (j : Int) : Option Value := if (l.take k).contains j = true then some (.int .i64 1) else none
def ChkOrd (w : World) (g r : Nat) (cs : Array Value) (n : Nat) (l : List Int) (k : Nat) (wr : World) : Prop := Wr [] w wr ∧ Blk wr g 29 cs ∧ w.heap.size ≤ r ∧ MapI wr r (SeenK l k) ∧ ordB n [] l = ordB n (l.take k) (l.drop k)
set_option maxRecDepth 100000 in
set_option maxHeartbeats 4000000 in
theorem check_any (ms : List ModD) (ord : List Int) (vm vo : Value) (P : Nat → Prop) (w : World) (hm : SlMods w P vm ms) (ho : SlI64 w P vo ord) :
    Calls Try.prog 14 #[.agg #[vm, vo]] w fun e w' => e = .returned (.tuple #[.int .i64 (checkP ms ord).1, .int .i64 (checkP ms ord).2]) ∧ Wr [] w w' := by
  have hmm := @run_makeMap Try.prog
  obtain ⟨Am, cm, rfl, lm1, lm2⟩ := SlMods.form hm
  obtain ⟨Ao, co, rfl, lo1, lo2⟩ := Sl.form ho
  unfold maxLen at lm2 lo2
  have hw1 := fun w => within_any (ms.length : Int) 1 64 w
  have hw2 := fun x w => within_any x 0 ((ms.length : Int) - 1) w
  have acc := (Wr.refl [] w).alloc (.cells #[.slice Am ms.length cm, .slice Ao ord.length co] 29)
  have bA := Blk.new w 29 #[.slice Am ms.length cm, .slice Ao ord.length co]
  obtain ⟨w0, hw0⟩ : ∃ w0, w.alloc (.cells #[.slice Am ms.length cm, .slice Ao ord.length co] 29) = w0 := ⟨_, rfl⟩
  obtain ⟨g, hg⟩ : ∃ g, w.heap.size = g := ⟨_, rfl⟩
  rw [hw0] at acc bA
  rw [hg] at bA
  obtain ⟨ch, hch⟩ : ∃ c, checkP ms ord = c := ⟨_, rfl⟩
  rw [hch]
  unfold checkP at hch
  have Hw0 := Lib.hid hw0
  have Hg := Lib.hid hg
  have HM := Lib.hid hm
  have HO := Lib.hid ho
  have HC := Lib.hid hch
  clear hw0 hg hm ho hch
  go_enter Try.func14, Try.ntmps14
  go_upto_region 1 with (fail)
  rw [Hw0.out, Hg.out]
  have c0 := bA.cell 0
  have c1 := bA.cell 1
  simp only [List.getElem?_toArray, List.getElem?_cons_zero, List.getElem?_cons_succ] at c0 c1
  go_wp2_with fail
  refine (hw1 _).mono ?_
  rintro e w1 ⟨rfl, rfl⟩
  cases q1 : inB (ms.length : Int) 1 64 with
  | false =>
    have hr : ch = ((ms.length : Int), 200) := by rw [← HC.out, if_neg (by rw [q1]; decide)]
    have HR := Lib.hid hr
    clear q1 hr
    go_wp2_with fail
    go_ret2
    exact ⟨by rw [HR.out]; rfl, acc⟩
  | true =>
  have hq := inBi.1 q1
  have hc2 : (match modsAt ms.length 0 ms with | some i => ((i : Int), (200 : Int)) | none => if ordB ms.length [] ord then (0, 0) else ((ms.length : Int), 200)) = ch := (if_pos q1).symm.trans HC.out
  have HC2 := Lib.hid hc2
  clear q1 hc2 hw1
  have hn1 : ms.length ≤ 64 := by omega
  have hn0 : 1 ≤ ms.length := by omega
  go_wp2_with fail
  go_loopw [20] (fun s20 wr => ∃ k : Nat, k ≤ ms.length ∧ s20 = .int .i64 k ∧ ChkAt w g #[.slice Am ms.length cm, .slice Ao ord.length co] ms k wr) (fun s20 _ => ms.length - (intOf s20).toNat)
  case atStart => exact ⟨0, by omega, rfl, acc, bA, rfl⟩
  case round =>
    obtain ⟨k, hk, rfl, acck, bk, hms⟩ := hrel
    have HMS := Lib.hid hms
    clear hms c0 c1 acc bA
    have c0 := bk.cell 0
    have c1 := bk.cell 1
    simp only [List.getElem?_toArray, List.getElem?_cons_zero, List.getElem?_cons_succ] at c0 c1
    by_cases hlt : k < ms.length
    · obtain ⟨m, hmk⟩ : ∃ m, ms[k]? = some m := ⟨_, List.getElem?_eq_getElem hlt⟩
      obtain ⟨b, off, c, vp, vi, vn, e, hc, hml⟩ := mod_at (HM.out.wr0 acck) hmk
      injection e with e1 e2 e3
      subst e1
      subst e3
      obtain ⟨Bp, dp, rfl, _, _⟩ := Sl.form hml.procs
      obtain ⟨Bi, di, rfl, _, _⟩ := Sl.form hml.imports
      obtain ⟨Bn, dn, rfl, _, _⟩ := Sl.form hml.init
      have x0 := hc 0 _ rfl
      have x1 := hc 1 _ rfl
      have x2 := hc 2 _ rfl
      have x3 := hc 3 _ rfl
      have x4 := hc 4 _ rfl
      simp only [Nat.add_zero] at x0
      have hd := modsAt_drop (n := (ms.length : Int)) hmk k
      have HD := Lib.hid hd
      have HML := Lib.hid hml
      clear hc e2 hmk hd hml
      have hlti : (k : Int) < (ms.length : Int) := by omega
      have hk0 : (0 : Int) ≤ (k : Int) := by omega
      have hz : g < wr.heap.size := bk.lt
      go_wp2_with fail
      refine (module_any m (ms.length : Int) (by omega) (by omega) _ _ _ P _ (HML.out.wr0 ((Wr.refl [] wr).alloc _))).mono ?_
      rintro e w2 ⟨rfl, k2⟩
      have acc2 := (acck.alloc _).trans k2
      have b2 := (bk.alloc _).wr0 k2
      have ACC2 := Lib.hid acc2
      have B2 := Lib.hid b2
      clear x0 x1 x2 x3 x4 c0 c1 hz k2 acc2 b2 acck bk
      cases hmb : modB m (ms.length : Int) with
      | false =>
        have hr : ch = ((k : Int), 200) := by rw [← HC2.out, HMS.out, HD.out, hmb]; rfl
        have HR := Lib.hid hr
        clear hmb hr
        go_wp2_with fail
        go_ret2
        exact ⟨by rw [HR.out]; rfl, ACC2.out⟩
      | true =>
        have hms2 : modsAt ms.length 0 ms = modsAt ms.length (k + 1) (ms.drop (k + 1)) := by rw [HMS.out, HD.out, hmb, if_pos rfl]
        have HMS2 := Lib.hid hms2
        clear hmb hms2
        go_wp2_with fail
        go_roundw
        case rel => exact ⟨k + 1, by omega, by go_num, ACC2.out, B2.out, HMS2.out⟩
        case measure => simp [intOf]; omega
    · have hkn : k = ms.length := by omega
      subst hkn
      have hms0 : modsAt ms.length 0 ms = none := by rw [HMS.out, List.drop_length]; rfl
      have hc3 : (if ordB ms.length [] ord then ((0 : Int), (0 : Int)) else ((ms.length : Int), 200)) = ch := by rw [← HC2.out, hms0]
      have HC3 := Lib.hid hc3
      have hz : g < wr.heap.size := bk.lt
      have hmp := MapI.new wr
      have ACCK := Lib.hid acck
      have BK := Lib.hid bk
      have HMP := Lib.hid hmp
      have hsz := acck.size
      clear hms0 hc3 acck bk HMS hmp
      obtain ⟨wo, rfl⟩ : ∃ wo : World, wo = wr := ⟨_, rfl⟩
      clear c0 c1
      have c1 := BK.out.cell 1
      simp only [List.getElem?_toArray, List.getElem?_cons_zero, List.getElem?_cons_succ] at c1
      go_wp2_with fail
      go_loopw [35] (fun s35 w2 => ∃ k : Nat, k ≤ ord.length ∧ s35 = .int .i64 k ∧ ChkOrd w g wo.heap.size #[.slice Am ms.length cm, .slice Ao ord.length co] ms.length ord k w2) (fun s35 _ => ord.length - (intOf s35).toNat)
      case atStart => exact ⟨0, by omega, rfl, ACCK.out.alloc _, BK.out.alloc _, hsz, HMP.out, by simp⟩
      case round =>
        obtain ⟨k, hk, rfl, acc2, b2, _, hmap, hord⟩ := hrel
        have HORD := Lib.hid hord
        have ACC2 := Lib.hid acc2
        have B2 := Lib.hid b2
        clear hord acc2 b2 c1 hz
        by_cases hlt2 : k < ord.length
        · obtain ⟨x, hx⟩ : ∃ x, ord[k]? = some x := ⟨_, List.getElem?_eq_getElem hlt2⟩
          obtain ⟨b, off, c, e, _, _, hc⟩ := i64_at (Sl.wr0 HO.out ACC2.out) hx
          injection e with e1 e2 e3
          subst e1
          subst e3
          have hd := ordB_drop (n := (ms.length : Int)) hx
          have HD := Lib.hid hd
          have hl := mapI_look1 Try.underlying77 Try.underlying3 hmap x Try.zeroValue3
          obtain ⟨w3, hu, k3, hmap3⟩ := mapI_upd Try.underlying77 Try.underlying3 hmap x (.int .i64 1)
          have HX := Lib.hid hx
          clear hx hd e2
          have hlti : (k : Int) < (ord.length : Int) := by omega
          have hk0 : (0 : Int) ≤ (k : Int) := by omega
          cases hin : inB x 0 ((ms.length : Int) - 1) with
          | false =>
            have hr : ch = ((ms.length : Int), 200) := by rw [← HC3.out, HORD.out, HD.out, hin, Bool.false_and, Bool.false_and]; rfl
            have HR := Lib.hid hr
            have HIN := Lib.hid hin
            clear hin hr hu hl k3 hmap3 hmap
            go_wp2_with fail
            refine (hw2 _ _).mono ?_
            rintro e w4 ⟨rfl, rfl⟩
            rw [HIN.out]
            go_wp2_with fail
            go_ret2
            exact ⟨by rw [HR.out]; rfl, ACC2.out⟩
          | true =>
          have HIN := Lib.hid hin
          cases hct : (ord.take k).contains x with
          | true =>
            have hr : ch = ((ms.length : Int), 200) := by rw [← HC3.out, HORD.out, HD.out, hin, hct]; rfl
            rw [show SeenK ord k x = some (.int .i64 1) from if_pos hct, Option.getD_some] at hl
            have HR := Lib.hid hr
            clear hin hr hu k3 hmap3 hmap hct
            go_wp2_with fail
            refine (hw2 _ _).mono ?_
            rintro e w4 ⟨rfl, rfl⟩
            rw [HIN.out]
            go_wp2_with fail
            go_ret2
            exact ⟨by rw [HR.out]; rfl, ACC2.out⟩
          | false =>
            have hord2 : ordB (ms.length : Int) [] ord = ordB (ms.length : Int) (ord.take (k + 1)) (ord.drop (k + 1)) := by rw [HORD.out, HD.out, hin, hct]; rfl
            rw [show SeenK ord k x = none from if_neg (by rw [hct]; decide), Option.getD_none] at hl
            have hfn : (fun j => if j = x then some (Value.int .i64 1) else SeenK ord k j) = SeenK ord (k + 1) := by
              funext j
              unfold SeenK
              rw [List.take_add_one, HX.out]
              by_cases hj : j = x
              · subst hj; simp
              · simp [hj]
            rw [hfn] at hmap3
            have HMAP := Lib.hid hmap3
            have HORD2 := Lib.hid hord2
            have acc3 := ACC2.out.new k3 hsz
            have hgr : g ∉ [wo.heap.size] := by have := BK.out.lt; simp; omega
            have b3 := B2.out.wr k3 hgr
            have ACC3 := Lib.hid acc3
            have B3 := Lib.hid b3
            clear hin k3 hmap3 hmap hct hord2 hfn acc3 b3 hgr
            go_wp2_with fail
            refine (hw2 _ _).mono ?_
            rintro e w4 ⟨rfl, rfl⟩
            rw [HIN.out]
            go_wp2_with fail
            go_roundw
            case rel => exact ⟨k + 1, by omega, by go_num, ACC3.out, B3.out, hsz, HMAP.out, HORD2.out⟩
            case measure => simp [intOf]; omega
        · have hkn : k = ord.length := by omega
          subst hkn
          have hr : ch = (0, 0) := by rw [← HC3.out, HORD.out, List.drop_length]; rfl
          have HR := Lib.hid hr
          clear hr hmap
          go_wp2_with fail
          go_ret2
          exact ⟨by rw [HR.out]; rfl, ACC2.out⟩
end Go.Proofs.Ytfeeeogkkajefaa
