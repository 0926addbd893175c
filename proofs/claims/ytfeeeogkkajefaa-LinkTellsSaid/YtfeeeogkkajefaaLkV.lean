/- order's Order: walked. Conditions: the modules that are told are not too many. -/
import Derived.Test.YtfeeeogkkajefaaLkT
import Derived.Laws.EntriesVeiled
namespace Go.Proofs.Ytfeeeogkkajefaa
open Go.RowKit
set_option linter.unusedVariables false
set_option linter.unusedSimpArgs false

def OrdP (w : World) (ans : List ByteArray × ByteArray × Int) (e : Ending) (w' : World) : Prop :=
  ∃ vo, e = .returned (.tuple #[vo, .string ans.2.1, .int .i64 ans.2.2]) ∧ Wr [] w w' ∧ SlStr w' (fun b => w.heap.size ≤ b) vo ans.1
theorem told_of (l : List NeedD) : Told (allOf l) (l.map NeedD.module) := fun m => by rw [allOf_told, inL_iff]
set_option maxRecDepth 100000 in
set_option maxHeartbeats 8000000 in
theorem order_any (l : List NeedD) (v : Value) (first : ByteArray) (P : Nat → Prop) (w : World) (h : SlNeeds w P v l) (hlen : l.length ≤ 1000000000) : Calls Try.prog 21 #[v, .string first] w (OrdP w (orderP l first)) := by
  have hmm := @run_makeMap Try.prog
  have hmf : ∀ (fn : Fn) (first cap : Array Value) (w : World), (Instr.makeFunc fn first cap).run Try.prog w = .ok (.func fn first cap) w := fun _ _ _ _ => rfl
  obtain ⟨w1, hw1⟩ : ∃ w1, w.alloc (.cells #[.slice none 0 0] 25) = w1 := ⟨_, rfl⟩
  obtain ⟨g, hg⟩ : ∃ g, w.heap.size = g := ⟨_, rfl⟩
  have acc : Wr [] w w1 := by rw [← hw1]; exact (Wr.refl [] w).alloc _
  have bo : Blk w1 g 25 #[.slice none 0 0] := by rw [← hw1, ← hg]; exact Blk.new _ _ _
  have hB : g < w1.heap.size := bo.lt
  have h1 := (h.into (Q := fun b => b < g) (fun b _ hb => by rw [← hg]; exact hb)).wr0 acc
  have hn := needs_any l v _ w1 h1
  obtain ⟨ans, hans⟩ : ∃ a, orderP l first = a := ⟨_, rfl⟩
  rw [hans]
  obtain ⟨tw, htw⟩ : ∃ o, twiceOf [] l = o := ⟨_, rfl⟩
  unfold NdP at hn
  rw [htw] at hn
  have HW1 := Lib.hid hw1
  have HG := Lib.hid hg
  have HANS := Lib.hid hans
  have HTW := Lib.hid htw
  have HN := Lib.hid hn
  clear hw1 hg hans htw hn h h1
  go_enter Try.func21, Try.ntmps21
  go_upto_region 1 with (fail)
  rw [HW1.out, HG.out]
  go_wp2_with fail
  refine HN.out.mono ?_
  rintro e w2 ⟨ga, rfl, k2, hga, hma⟩
  have acc2 := acc.trans k2
  have bo2 := bo.wr0 k2
  have HMA := Lib.hid hma
  cases tw with
  | some d =>
    have zc := bo2.cell 0
    have zf := bo2.frozen 0
    have hlt := bo2.lt
    have hr : ans = ([], d, 6) := by rw [← HANS.out]; unfold orderP; rw [HTW.out]
    have HR := Lib.hid hr
    simp only [List.getElem?_toArray, List.getElem?_cons_zero] at zc
    clear hr hma
    unfold twS
    simp only [Option.isSome_some, Option.getD_some]
    go_wp2_with fail
    refine bodyPost_ret (v := .tuple #[.slice none 0 0, .string d, .int .i64 6]) (by simp [results, Try.results21, go_sem, zc, hlt]) rfl ⟨.slice none 0 0, by rw [HR.out], ?_, ?_⟩
    · exact (acc2.setNew (by have := HG.out; omega) _).alloc _
    · rw [HR.out]
      exact Sl.nil _ _ 1
  | none =>
    unfold twS
    simp only [Option.isSome_none, Option.getD_none]
    have hlt := bo2.lt
    have zf := bo2.frozen 0
    obtain ⟨s, hs⟩ : ∃ s, w2.heap.size = s := ⟨_, rfl⟩
    obtain ⟨wa, hwa⟩ : ∃ wa, w2.alloc (.cells #[.map (some ga)] 81) = wa := ⟨_, rfl⟩
    obtain ⟨wb, hwb⟩ : ∃ wb, wa.alloc (.map #[] 0) = wb := ⟨_, rfl⟩
    obtain ⟨wc, hwc⟩ : ∃ wc, wb.alloc (.cells #[.map (some (s + 1))] 84) = wc := ⟨_, rfl⟩
    obtain ⟨w3, hw3⟩ : ∃ w3, wc.alloc (.cells #[.func (.func 35) #[] #[.pointer (some ⟨s, 0, none⟩), .pointer (some ⟨s + 1 + 1, 0, none⟩), .pointer (some ⟨s + 1 + 1 + 1, 0, none⟩), .pointer (some ⟨g, 0, none⟩)]] 85) = w3 := ⟨_, rfl⟩
    have sa : wa.heap.size = s + 1 := by rw [← hwa, World.size_alloc, hs]
    have sb : wb.heap.size = s + 1 + 1 := by rw [← hwb, World.size_alloc, sa]
    have sc : wc.heap.size = s + 1 + 1 + 1 := by rw [← hwc, World.size_alloc, sb]
    have ra : Wr [] w2 wa := by rw [← hwa]; exact (Wr.refl [] w2).alloc _
    have rb : Wr [] wa wb := by rw [← hwb]; exact (Wr.refl [] wa).alloc _
    have rc : Wr [] wb wc := by rw [← hwc]; exact (Wr.refl [] wb).alloc _
    have rd : Wr [] wc w3 := by rw [← hw3]; exact (Wr.refl [] wc).alloc _
    have ba : Blk wa s 81 #[.map (some ga)] := by rw [← hwa, ← hs]; exact Blk.new _ _ _
    have bs : Blk wc (s + 1 + 1) 84 #[.map (some (s + 1))] := by rw [← hwc, ← sb]; exact Blk.new _ _ _
    have bt : Blk w3 (s + 1 + 1 + 1) 85 #[.func (.func 35) #[] #[.pointer (some ⟨s, 0, none⟩), .pointer (some ⟨s + 1 + 1, 0, none⟩), .pointer (some ⟨s + 1 + 1 + 1, 0, none⟩), .pointer (some ⟨g, 0, none⟩)]] := by rw [← hw3, ← sc]; exact Blk.new _ _ _
    have ms : MapR wb (s + 1) StV (fun _ => none) := by rw [← hwb, ← sa]; exact MapR.new _ _
    have hgs : g < s := by rw [← hs]; exact hlt
    have hga2 : ga < s := by rw [← hs]; exact hma.lt
    have hne : g < ga := Nat.lt_of_lt_of_le hB hga
    have hc : OC.wf ⟨g, s, s + 1 + 1, s + 1 + 1 + 1, g, ga, s + 1⟩ := by
      refine ⟨?_, ?_⟩
      · simp only [OC.blocks, List.nodup_cons, List.mem_cons, List.not_mem_nil, or_false, not_or, List.nodup_nil, not_false_eq_true, and_true]
        omega
      · intro b hb
        simp only [OC.blocks, List.mem_cons, List.not_mem_nil, or_false] at hb
        show g ≤ b
        omega
    have r23 := ((ra.trans rb).trans rc).trans rd
    have henv : OEnv ⟨g, s, s + 1 + 1, s + 1 + 1 + 1, g, ga, s + 1⟩ w1 (allOf l) ⟨fun _ => 0, []⟩ w3 :=
      ⟨(k2.trans r23).below (Nat.le_of_lt hB) (fun _ hx => by cases hx), ((ba.wr0 rb).wr0 rc).wr0 rd, bs.wr0 rd, bt, HMA.out.keep r23 (by simp), (ms.keep rc (by simp)).keep rd (by simp),
        _, bo2.wr0 r23, World.ownsRow_nil _ _ _ _, fun b hb => by cases hb⟩
    have hcnt : cnt (l.map NeedD.module) ⟨fun _ => 0, []⟩ ≤ l.length := by
      unfold cnt
      exact Nat.le_trans (List.length_filter_le _ _) (by simp)
    have hth := thr_any _ hc w1 (Nat.le_of_lt hB) (allOf l) (l.map NeedD.module) (told_of l) (l.length + 1) first ⟨fun _ => 0, []⟩ w3 henv rfl (by omega) (by show 0 + _ ≤ _; omega)
    have hans2 : (match thr (allOf l) (l.length + 1) first ⟨fun _ => 0, []⟩ with | .ok t => (t.ord, ⟨#[]⟩, (0 : Int)) | .err who e => ([], who, e)) = ans := by
      rw [← HANS.out]
      conv => rhs; unfold orderP
      rw [HTW.out]
      try rfl
    have zt := bt.cell 0
    simp only [List.getElem?_toArray, List.getElem?_cons_zero] at zt
    have HTH := Lib.hid hth
    have HANS2 := Lib.hid hans2
    have HS := Lib.hid hs
    have HWA := Lib.hid hwa
    have HWB := Lib.hid hwb
    have HWC := Lib.hid hwc
    have HW3 := Lib.hid hw3
    have ACC3 := Lib.hid acc
    have HC := Lib.hid hc
    clear hma hs hwa hwb hwc hw3 sa sb sc ra rb rc rd ba bs bt ms hgs hga2 hne hc r23 henv hcnt hth hans2
    go_upto_region 7 with (fail)
    rw [HS.out, HWA.out, HWB.out, HWC.out, HW3.out]
    clear zf hlt
    go_wp2_with fail
    refine HTH.out.mono ?_
    intro e w4 hp
    cases hq : thr (allOf l) (l.length + 1) first ⟨fun _ => 0, []⟩ with
    | ok t =>
      rw [hq] at hp
      obtain ⟨rfl, henv⟩ := hp
      have hr : ans = (t.ord, ⟨#[]⟩, 0) := by rw [← HANS2.out, hq]
      obtain ⟨vo, r1, r2, r3⟩ := henv.row
      have hw4 := acc.toBelow.trans (henv.bel.mono (by have := HG.out; show w.heap.size ≤ g; omega))
      have hsl : SlStr w4 (fun b => w.heap.size ≤ b ∧ b ≠ g) vo t.ord := by
        have := Sl.ofOwn (P := fun b => w.heap.size ≤ b ∧ b ≠ g) r2 (fun b hb => by
          have hb1 : g ≤ b := (r2.lt b hb).1
          have := HG.out
          exact ⟨by omega, fun e => r3 b hb (by rw [e]; simp [OC.blocks])⟩)
        exact this
      obtain ⟨Av, cv, hv', _, _⟩ := Sl.form hsl
      subst hv'
      have HR := Lib.hid hr
      have zc := r1.cell 0
      have zf := r1.frozen 0
      have hlt := r1.lt
      simp only [List.getElem?_toArray, List.getElem?_cons_zero] at zc
      have HSL := Lib.hid hsl
      have HW4 := Lib.hid hw4
      clear hq henv hr r1 r2 r3 hsl hw4
      go_wp2_with fail
      refine bodyPost_ret (v := .tuple #[.slice Av t.ord.length cv, .string ⟨#[]⟩, .int .i64 0]) (by simp [results, Try.results21, go_sem, zc, hlt]) rfl ⟨_, by rw [HR.out], ?_, ?_⟩
      · exact (Wr.ofBelow HW4.out).setNew (by have := HG.out; omega) _
      · rw [HR.out]
        exact Sl.mono (Sl.keep HSL.out ((Wr.refl [g] w4).setOn (by simp) _) (fun b hb hx => hb.2 (by simpa using hx))) (fun b hb => hb.1)
    | err who en =>
      rw [hq] at hp
      obtain ⟨rfl, t2, henv⟩ := hp
      have hen : en ≠ 0 := fun e0 => by rw [e0] at hq; exact thr_err_ne _ _ _ _ _ hq
      have hd : decide (en = 0) = false := decide_eq_false hen
      have hd2 : (en != 0) = true := by simpa using hen
      have hr : ans = ([], who, en) := by rw [← HANS2.out, hq]
      obtain ⟨vo, r1, r2, r3⟩ := henv.row
      have hw4 := acc.toBelow.trans (henv.bel.mono (by have := HG.out; show w.heap.size ≤ g; omega))
      have HR := Lib.hid hr
      have zc := r1.cell 0
      have zf := r1.frozen 0
      have hlt := r1.lt
      simp only [List.getElem?_toArray, List.getElem?_cons_zero] at zc
      have HW4 := Lib.hid hw4
      clear hq henv hr r1 r2 r3 hw4 hen
      go_wp2_with fail
      refine bodyPost_ret (v := .tuple #[.slice none 0 0, .string who, .int .i64 en]) (by simp [results, Try.results21, go_sem, zc, hlt]) rfl ⟨_, by rw [HR.out], ?_, ?_⟩
      · exact (Wr.ofBelow HW4.out).setNew (by have := HG.out; omega) _
      · rw [HR.out]
        exact Sl.nil _ _ 1
end Go.Proofs.Ytfeeeogkkajefaa
