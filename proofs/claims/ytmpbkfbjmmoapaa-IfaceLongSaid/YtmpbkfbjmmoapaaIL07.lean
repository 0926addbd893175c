/- iface's once, of uses and of items: walked. No conditions. -/
import Derived.Test.YtmpbkfbjmmoapaaIL06
import Derived.Laws.EntriesVeiled
namespace Go.Proofs.Ytmpbkfbjmmoapaa
open Go.RowKit
set_option linter.unusedVariables false
set_option linter.unusedSimpArgs false
def SeenN (l : List ByteArray) (j : ByteArray) : Option Value := if inL j l = true then some (.int .i64 1) else none
theorem onceB_drop {l : List ByteArray} {k : Nat} {s : ByteArray} (seen : List ByteArray) (h : l[k]? = some s) : onceB seen (l.drop k) = (!(inL s seen) && onceB (seen ++ [s]) (l.drop (k + 1))) := by
  have hk := (List.getElem?_eq_some_iff.1 h).1
  have e : l[k] = s := (List.getElem?_eq_some_iff.1 h).2
  conv => lhs; rw [List.drop_eq_getElem_cons hk, onceB]
  rw [e]
theorem take_next {l : List ByteArray} {k : Nat} {s : ByteArray} (h : l[k]? = some s) : l.take (k + 1) = l.take k ++ [s] := by rw [List.take_add_one, h]; rfl
theorem inL_snocF (j m : ByteArray) (l : List ByteArray) : inL j (l ++ [m]) = (inL j l || decide (m = j)) := by
  unfold inL
  rw [List.any_append]
  simp
theorem seenN_next (l : List ByteArray) (s : ByteArray) : (fun j => if j = s then some (Value.int .i64 1) else SeenN l j) = SeenN (l ++ [s]) := by
  funext j
  unfold SeenN
  rw [inL_snocF]
  by_cases hj : j = s
  · subst hj; simp
  · have : ¬ s = j := fun e => hj e.symm
    simp [hj, this]
def OnceAt (w : World) (r : Nat) (l : List ByteArray) (k : Nat) (wr : World) : Prop := Wr [] w wr ∧ w.heap.size ≤ r ∧ MapS wr r (SeenN (l.take k)) ∧ onceB [] l = onceB (l.take k) (l.drop k)
theorem onceUQ (x : UseD) (w : World) : Calls Try.prog 24 #[.agg #[.string x.module, .int .u64 x.key]] w fun e w' => e = .returned (.string x.module) ∧ Wr [] w w' := by
  go_enter Try.func24, Try.ntmps24
  go_wp2_with fail
  go_ret
  exact ⟨rfl, (Wr.refl [] w).alloc _⟩
set_option maxRecDepth 100000 in
set_option maxHeartbeats 4000000 in
theorem onceU_any (l : List UseD) (v : Value) (P : Nat → Prop) (w : World) (h : SlUsesF w P v l) :
    Calls Try.prog 23 #[v, .func (.func 24) #[] #[]] w fun e w' => e = .returned (.bool (onceB [] (l.map fun x => x.module))) ∧ Wr [] w w' := by
  have hmm := @run_makeMap Try.prog
  have hen : ∀ args w, (callFunc 24 args).run Try.prog w = .ok (.enter 24 args) w := fun args w => rfl
  obtain ⟨A, c, rfl, l1, l2⟩ := Sl.form h
  unfold maxLen at l2
  obtain ⟨ns, hns⟩ : ∃ ns, (l.map fun x => x.module) = ns := ⟨_, rfl⟩
  obtain ⟨rr, hrr⟩ : ∃ r, onceB [] ns = r := ⟨_, rfl⟩
  rw [hns, hrr]
  have hnl : ns.length = l.length := by rw [← hns, List.length_map]
  obtain ⟨w0, hw0⟩ : ∃ q, w.alloc (.map #[] 0) = q := ⟨_, rfl⟩
  obtain ⟨g, hg⟩ : ∃ g, w.heap.size = g := ⟨_, rfl⟩
  have acc : Wr [] w w0 := by rw [← hw0]; exact (Wr.refl [] _).alloc _
  have hm0 : MapS w0 g (SeenN (ns.take 0)) := by
    rw [← hw0, ← hg]
    exact MapS.new w
  have HH := Lib.hid h
  have HNS := Lib.hid hns
  have HRR := Lib.hid hrr
  have HNL := Lib.hid hnl
  have HW0 := Lib.hid hw0
  have HG := Lib.hid hg
  have ACC := Lib.hid acc
  have HM0 := Lib.hid hm0
  clear h hns hrr hnl hw0 hg acc hm0
  go_enter Try.func23, Try.ntmps23
  go_upto_region 2 with (fail)
  rw [HW0.out, HG.out]
  go_wp2_with fail
  go_loopw [11] (fun s11 wr => ∃ k : Nat, k ≤ l.length ∧ s11 = .int .i64 k ∧ OnceAt w g ns k wr) (fun s11 _ => l.length - (intOf s11).toNat)
  case atStart => exact ⟨0, by omega, rfl, ACC.out, by rw [HG.out]; exact Nat.le_refl _, HM0.out, rfl⟩
  case round =>
    obtain ⟨k, hk, rfl, acck, hgk, hmap, hord⟩ := hrel
    have HORD := Lib.hid hord
    have ACCK := Lib.hid acck
    have HMAP := Lib.hid hmap
    clear hord acck hmap
    by_cases hlt : k < l.length
    · obtain ⟨x, hx⟩ : ∃ x, l[k]? = some x := ⟨_, List.getElem?_eq_getElem hlt⟩
      have hnx : ns[k]? = some x.module := by rw [← HNS.out, List.getElem?_map, hx]; rfl
      obtain ⟨b, off, c', e, _, hc⟩ := useF_at (Sl.wr0 HH.out ACCK.out) hx
      injection e with e1 e2 e3
      subst e1 e3
      have x0 := hc 0 _ rfl
      have x1 := hc 1 _ rfl
      simp only [Nat.add_zero] at x0
      have hd := onceB_drop (ns.take k) hnx
      have htn := take_next hnx
      obtain ⟨w1, hw1⟩ : ∃ q, wr.alloc (.cells #[.string x.module, .int .u64 x.key] 47) = q := ⟨_, rfl⟩
      obtain ⟨z, hz⟩ : ∃ z, wr.heap.size = z := ⟨_, rfl⟩
      have r1 : Wr [] wr w1 := by rw [← hw1]; exact (Wr.refl [] _).alloc _
      have b1 : Blk w1 z 47 #[.string x.module, .int .u64 x.key] := by rw [← hw1, ← hz]; exact Blk.new _ _ _
      have hq := fun W => onceUQ x W
      have HQ := Lib.hid hq
      have HD := Lib.hid hd
      have HTN := Lib.hid htn
      have HW1 := Lib.hid hw1
      have HZ := Lib.hid hz
      have R1 := Lib.hid r1
      have B1 := Lib.hid b1
      have h0 : (0 : Int) ≤ (k : Int) := by omega
      have h1 : (k : Int) < (l.length : Int) := by omega
      clear hc e2 hx hnx hd htn hw1 hz r1 b1 hq
      go_upto_region 5 with (fail)
      rw [HZ.out, HW1.out]
      clear x0 x1
      have y0 := B1.out.cell 0
      have y1 := B1.out.cell 1
      simp only [List.getElem?_toArray, List.getElem?_cons_zero, List.getElem?_cons_succ] at y0 y1
      go_wp2_with fail
      refine (HQ.out _).mono ?_
      rintro e w2 ⟨rfl, r2⟩
      have R2 := Lib.hid (R1.out.trans r2)
      have hmap2 := HMAP.out.wr R2.out (by simp)
      have hl := mapS_look1 Try.underlying140 Try.underlying9 hmap2 x.module Try.zeroValue3
      have HM2 := Lib.hid hmap2
      have B2 := Lib.hid (B1.out.wr0 r2)
      clear r2 hmap2 y0 y1
      cases hct : inL x.module (ns.take k) with
      | true =>
        have hrf : rr = false := by rw [← HRR.out, HORD.out, HD.out, hct]; rfl
        rw [show SeenN (ns.take k) x.module = some (.int .i64 1) from if_pos hct, Option.getD_some] at hl
        subst hrf
        clear hct HRR
        go_wp2_with fail
        go_ret
        exact ⟨rfl, ACCK.out.trans R2.out⟩
      | false =>
        have hord2 : onceB [] ns = onceB (ns.take (k + 1)) (ns.drop (k + 1)) := by rw [HORD.out, HD.out, hct, HTN.out]; rfl
        rw [show SeenN (ns.take k) x.module = none from if_neg (by rw [hct]; decide), Option.getD_none] at hl
        have HCT := Lib.hid hct
        have HORD2 := Lib.hid hord2
        have y0 := B2.out.cell 0
        have y1 := B2.out.cell 1
        simp only [List.getElem?_toArray, List.getElem?_cons_zero, List.getElem?_cons_succ] at y0 y1
        clear hct hord2
        go_wp2_with fail
        refine (HQ.out _).mono ?_
        rintro e w3 ⟨rfl, r3⟩
        have hmap3 := HM2.out.wr r3 (by simp)
        clear hl
        have hl := mapS_look1 Try.underlying140 Try.underlying9 hmap3 x.module Try.zeroValue3
        rw [show SeenN (ns.take k) x.module = none from if_neg (by rw [HCT.out]; decide), Option.getD_none] at hl
        obtain ⟨w4, hu, r4, hmap4⟩ := mapS_upd Try.underlying140 Try.underlying9 hmap3 x.module (.int .i64 1)
        rw [seenN_next, ← HTN.out] at hmap4
        have HM4 := Lib.hid hmap4
        have R4 := Lib.hid ((ACCK.out.trans (R2.out.trans r3)).new r4 hgk)
        clear r3 r4 hmap3 hmap4 y0 y1
        go_wp2_with fail
        go_roundw
        case rel => exact ⟨k + 1, by omega, by go_num, R4.out, hgk, HM4.out, HORD2.out⟩
        case measure => simp [intOf]; omega
    · obtain rfl : k = l.length := by omega
      have hrt : rr = true := by
        rw [← HRR.out, HORD.out, ← HNL.out, List.drop_length]
        rfl
      subst hrt
      clear HRR
      go_wp2_with fail
      go_ret
      exact ⟨rfl, ACCK.out⟩
theorem onceEQ (V : Value) (hV : V.oneCell' = true) (x : ItmD) (w : World) : Calls Try.prog 26 #[.agg #[.string x.name, .int .u8 x.kind, .int .i64 x.type, V, .int .i64 x.at_]] w fun e w' => e = .returned (.string x.name) ∧ Wr [] w w' := by
  have hst := stored_any V hV
  go_enter Try.func26, Try.ntmps26
  go_wp2_with fail
  go_ret
  exact ⟨rfl, (Wr.refl [] w).alloc _⟩
set_option maxRecDepth 100000 in
set_option maxHeartbeats 4000000 in
theorem onceE_any (l : List ItmD) (v : Value) (P : Nat → Prop) (w : World) (h : SlItms w P v l) :
    Calls Try.prog 25 #[v, .func (.func 26) #[] #[]] w fun e w' => e = .returned (.bool (onceB [] (l.map fun x => x.name))) ∧ Wr [] w w' := by
  have hmm := @run_makeMap Try.prog
  have hen : ∀ args w, (callFunc 26 args).run Try.prog w = .ok (.enter 26 args) w := fun args w => rfl
  obtain ⟨A, c, rfl, l1, l2⟩ := Sl.form h
  unfold maxLen at l2
  obtain ⟨ns, hns⟩ : ∃ ns, (l.map fun x => x.name) = ns := ⟨_, rfl⟩
  obtain ⟨rr, hrr⟩ : ∃ r, onceB [] ns = r := ⟨_, rfl⟩
  rw [hns, hrr]
  have hnl : ns.length = l.length := by rw [← hns, List.length_map]
  obtain ⟨w0, hw0⟩ : ∃ q, w.alloc (.map #[] 0) = q := ⟨_, rfl⟩
  obtain ⟨g, hg⟩ : ∃ g, w.heap.size = g := ⟨_, rfl⟩
  have acc : Wr [] w w0 := by rw [← hw0]; exact (Wr.refl [] _).alloc _
  have hm0 : MapS w0 g (SeenN (ns.take 0)) := by
    rw [← hw0, ← hg]
    exact MapS.new w
  have HH := Lib.hid h
  have HNS := Lib.hid hns
  have HRR := Lib.hid hrr
  have HNL := Lib.hid hnl
  have HW0 := Lib.hid hw0
  have HG := Lib.hid hg
  have ACC := Lib.hid acc
  have HM0 := Lib.hid hm0
  clear h hns hrr hnl hw0 hg acc hm0
  go_enter Try.func25, Try.ntmps25
  go_upto_region 2 with (fail)
  rw [HW0.out, HG.out]
  go_wp2_with fail
  go_loopw [11] (fun s11 wr => ∃ k : Nat, k ≤ l.length ∧ s11 = .int .i64 k ∧ OnceAt w g ns k wr) (fun s11 _ => l.length - (intOf s11).toNat)
  case atStart => exact ⟨0, by omega, rfl, ACC.out, by rw [HG.out]; exact Nat.le_refl _, HM0.out, rfl⟩
  case round =>
    obtain ⟨k, hk, rfl, acck, hgk, hmap, hord⟩ := hrel
    have HORD := Lib.hid hord
    have ACCK := Lib.hid acck
    have HMAP := Lib.hid hmap
    clear hord acck hmap
    by_cases hlt : k < l.length
    · obtain ⟨x, hx⟩ : ∃ x, l[k]? = some x := ⟨_, List.getElem?_eq_getElem hlt⟩
      have hnx : ns[k]? = some x.name := by rw [← HNS.out, List.getElem?_map, hx]; rfl
      obtain ⟨b, off, c', e, _, hc⟩ := itm_at (Sl.wr0 HH.out ACCK.out) hx
      injection e with e1 e2 e3
      subst e1 e3
      have x0 := hc 0 _ rfl
      have x1 := hc 1 _ rfl
      have x2 := hc 2 _ rfl
      have x3 := hc 3 _ rfl
      have x4 := hc 4 _ rfl
      simp only [Nat.add_zero] at x0
      have hst := stored_any x.v.val x.v.val_one
      obtain ⟨V, hV⟩ : ∃ V, x.v.val = V := ⟨_, rfl⟩
      rw [hV] at x3 hst
      have hd := onceB_drop (ns.take k) hnx
      have htn := take_next hnx
      obtain ⟨w1, hw1⟩ : ∃ q, wr.alloc (.cells #[.string x.name, .int .u8 x.kind, .int .i64 x.type, V, .int .i64 x.at_] 44) = q := ⟨_, rfl⟩
      obtain ⟨z, hz⟩ : ∃ z, wr.heap.size = z := ⟨_, rfl⟩
      have r1 : Wr [] wr w1 := by rw [← hw1]; exact (Wr.refl [] _).alloc _
      have b1 : Blk w1 z 44 #[.string x.name, .int .u8 x.kind, .int .i64 x.type, V, .int .i64 x.at_] := by rw [← hw1, ← hz]; exact Blk.new _ _ _
      have hq := fun W => onceEQ V (by rw [← hV]; exact x.v.val_one) x W
      have HQ := Lib.hid hq
      have HD := Lib.hid hd
      have HTN := Lib.hid htn
      have HW1 := Lib.hid hw1
      have HZ := Lib.hid hz
      have R1 := Lib.hid r1
      have B1 := Lib.hid b1
      have h0 : (0 : Int) ≤ (k : Int) := by omega
      have h1 : (k : Int) < (l.length : Int) := by omega
      clear hc e2 hx hnx hd htn hw1 hz r1 b1 hq hV
      go_upto_region 5 with (fail)
      rw [HZ.out, HW1.out]
      clear x0 x1 x2 x3 x4
      have y0 := B1.out.cell 0
      have y1 := B1.out.cell 1
      have y2 := B1.out.cell 2
      have y3 := B1.out.cell 3
      have y4 := B1.out.cell 4
      simp only [List.getElem?_toArray, List.getElem?_cons_zero, List.getElem?_cons_succ] at y0 y1 y2 y3 y4
      go_wp2_with fail
      refine (HQ.out _).mono ?_
      rintro e w2 ⟨rfl, r2⟩
      have R2 := Lib.hid (R1.out.trans r2)
      have hmap2 := HMAP.out.wr R2.out (by simp)
      have hl := mapS_look1 Try.underlying140 Try.underlying9 hmap2 x.name Try.zeroValue3
      have HM2 := Lib.hid hmap2
      have B2 := Lib.hid (B1.out.wr0 r2)
      clear r2 hmap2 y0 y1 y2 y3 y4
      cases hct : inL x.name (ns.take k) with
      | true =>
        have hrf : rr = false := by rw [← HRR.out, HORD.out, HD.out, hct]; rfl
        rw [show SeenN (ns.take k) x.name = some (.int .i64 1) from if_pos hct, Option.getD_some] at hl
        subst hrf
        clear hct HRR
        go_wp2_with fail
        go_ret
        exact ⟨rfl, ACCK.out.trans R2.out⟩
      | false =>
        have hord2 : onceB [] ns = onceB (ns.take (k + 1)) (ns.drop (k + 1)) := by rw [HORD.out, HD.out, hct, HTN.out]; rfl
        rw [show SeenN (ns.take k) x.name = none from if_neg (by rw [hct]; decide), Option.getD_none] at hl
        have HCT := Lib.hid hct
        have HORD2 := Lib.hid hord2
        have y0 := B2.out.cell 0
        have y1 := B2.out.cell 1
        have y2 := B2.out.cell 2
        have y3 := B2.out.cell 3
        have y4 := B2.out.cell 4
        simp only [List.getElem?_toArray, List.getElem?_cons_zero, List.getElem?_cons_succ] at y0 y1 y2 y3 y4
        clear hct hord2
        go_wp2_with fail
        refine (HQ.out _).mono ?_
        rintro e w3 ⟨rfl, r3⟩
        have hmap3 := HM2.out.wr r3 (by simp)
        clear hl
        have hl := mapS_look1 Try.underlying140 Try.underlying9 hmap3 x.name Try.zeroValue3
        rw [show SeenN (ns.take k) x.name = none from if_neg (by rw [HCT.out]; decide), Option.getD_none] at hl
        obtain ⟨w4, hu, r4, hmap4⟩ := mapS_upd Try.underlying140 Try.underlying9 hmap3 x.name (.int .i64 1)
        rw [seenN_next, ← HTN.out] at hmap4
        have HM4 := Lib.hid hmap4
        have R4 := Lib.hid ((ACCK.out.trans (R2.out.trans r3)).new r4 hgk)
        clear r3 r4 hmap3 hmap4 y0 y1 y2 y3 y4
        go_wp2_with fail
        go_roundw
        case rel => exact ⟨k + 1, by omega, by go_num, R4.out, hgk, HM4.out, HORD2.out⟩
        case measure => simp [intOf]; omega
    · obtain rfl : k = l.length := by omega
      have hrt : rr = true := by
        rw [← HRR.out, HORD.out, ← HNL.out, List.drop_length]
        rfl
      subst hrt
      clear HRR
      go_wp2_with fail
      go_ret
      exact ⟨rfl, ACCK.out⟩
end Go.Proofs.Ytmpbkfbjmmoapaa

/- iface's sort: walked. No conditions. -/
namespace Go.Proofs.Ytmpbkfbjmmoapaa
open Go.RowKit
set_option linter.unusedVariables false
set_option linter.unusedSimpArgs false
theorem sortQ1 (v : AnyD) (h : Nat) (w : World) (hc : w.cell? ⟨h, 0, none⟩ = some v.val) : Calls Try.prog 92 #[.pointer (some ⟨h, 0, none⟩)] w fun e w' => e = .returned (.bool (v.sort == 0)) ∧ w = w' := by
  cases v <;> simp only [AnyD.val] at hc <;> simp only [AnyD.sort]
  all_goals
    go_enter Try.func92, Try.ntmps92
    go_wp2_with fail
    go_ret
    exact ⟨rfl, rfl⟩
theorem sortQ2 (v : AnyD) (h : Nat) (w : World) (hc : w.cell? ⟨h, 0, none⟩ = some v.val) : Calls Try.prog 93 #[.pointer (some ⟨h, 0, none⟩)] w fun e w' => e = .returned (.bool (v.sort == 1)) ∧ Wr [] w w' := by
  have hta := fun w => anyAs_whole v w
  generalize v.val = V at *
  obtain ⟨b, hb⟩ : ∃ b, (v.sort == 1) = b := ⟨_, rfl⟩
  rw [hb] at hta ⊢
  clear hb
  go_enter Try.func93, Try.ntmps93
  go_wp2_with fail
  go_ret
  exact ⟨rfl, by first | exact Wr.refl [] w | exact (Wr.refl [] w).alloc _⟩
theorem sortQ3 (v : AnyD) (h : Nat) (w : World) (hc : w.cell? ⟨h, 0, none⟩ = some v.val) : Calls Try.prog 94 #[.pointer (some ⟨h, 0, none⟩)] w fun e w' => e = .returned (.bool (v.sort == 2)) ∧ Wr [] w w' := by
  have hta := fun w => anyAs_letter v w
  generalize v.val = V at *
  obtain ⟨b, hb⟩ : ∃ b, (v.sort == 2) = b := ⟨_, rfl⟩
  rw [hb] at hta ⊢
  clear hb
  go_enter Try.func94, Try.ntmps94
  go_wp2_with fail
  go_ret
  exact ⟨rfl, by first | exact Wr.refl [] w | exact (Wr.refl [] w).alloc _⟩
theorem sortQ4 (v : AnyD) (h : Nat) (w : World) (hc : w.cell? ⟨h, 0, none⟩ = some v.val) : Calls Try.prog 95 #[.pointer (some ⟨h, 0, none⟩)] w fun e w' => e = .returned (.bool (v.sort == 3)) ∧ Wr [] w w' := by
  have hta := fun w => anyAs_truth v w
  generalize v.val = V at *
  obtain ⟨b, hb⟩ : ∃ b, (v.sort == 3) = b := ⟨_, rfl⟩
  rw [hb] at hta ⊢
  clear hb
  go_enter Try.func95, Try.ntmps95
  go_wp2_with fail
  go_ret
  exact ⟨rfl, by first | exact Wr.refl [] w | exact (Wr.refl [] w).alloc _⟩
theorem sortQ5 (v : AnyD) (h : Nat) (w : World) (hc : w.cell? ⟨h, 0, none⟩ = some v.val) : Calls Try.prog 96 #[.pointer (some ⟨h, 0, none⟩)] w fun e w' => e = .returned (.bool (v.sort == 4)) ∧ Wr [] w w' := by
  have hta := fun w => anyAs_bits v w
  generalize v.val = V at *
  obtain ⟨b, hb⟩ : ∃ b, (v.sort == 4) = b := ⟨_, rfl⟩
  rw [hb] at hta ⊢
  clear hb
  go_enter Try.func96, Try.ntmps96
  go_wp2_with fail
  go_ret
  exact ⟨rfl, by first | exact Wr.refl [] w | exact (Wr.refl [] w).alloc _⟩
theorem sortQ6 (v : AnyD) (h : Nat) (w : World) (hc : w.cell? ⟨h, 0, none⟩ = some v.val) : Calls Try.prog 97 #[.pointer (some ⟨h, 0, none⟩)] w fun e w' => e = .returned (.bool (v.sort == 5)) ∧ Wr [] w w' := by
  have hta := fun w => anyAs_string v w
  generalize v.val = V at *
  obtain ⟨b, hb⟩ : ∃ b, (v.sort == 5) = b := ⟨_, rfl⟩
  rw [hb] at hta ⊢
  clear hb
  go_enter Try.func97, Try.ntmps97
  go_wp2_with fail
  go_ret
  exact ⟨rfl, by first | exact Wr.refl [] w | exact (Wr.refl [] w).alloc _⟩
theorem sortQ7 (v : AnyD) (h : Nat) (w : World) (hc : w.cell? ⟨h, 0, none⟩ = some v.val) : Calls Try.prog 98 #[.pointer (some ⟨h, 0, none⟩)] w fun e w' => e = .returned (.bool (v.sort == 6)) ∧ Wr [] w w' := by
  have hta := fun w => anyAs_item v w
  generalize v.val = V at *
  obtain ⟨b, hb⟩ : ∃ b, (v.sort == 6) = b := ⟨_, rfl⟩
  rw [hb] at hta ⊢
  clear hb
  go_enter Try.func98, Try.ntmps98
  go_wp2_with fail
  go_ret
  exact ⟨rfl, by first | exact Wr.refl [] w | exact (Wr.refl [] w).alloc _⟩
theorem sortQ8 (v : AnyD) (h : Nat) (w : World) (hc : w.cell? ⟨h, 0, none⟩ = some v.val) : Calls Try.prog 99 #[.pointer (some ⟨h, 0, none⟩)] w fun e w' => e = .returned (.bool (v.sort == 7)) ∧ Wr [] w w' := by
  have hta := fun w => anyAs_null v w
  generalize v.val = V at *
  obtain ⟨b, hb⟩ : ∃ b, (v.sort == 7) = b := ⟨_, rfl⟩
  rw [hb] at hta ⊢
  clear hb
  go_enter Try.func99, Try.ntmps99
  go_wp2_with fail
  go_ret
  exact ⟨rfl, by first | exact Wr.refl [] w | exact (Wr.refl [] w).alloc _⟩
set_option maxRecDepth 100000 in
set_option maxHeartbeats 8000000 in
theorem sort_any (v : AnyD) (w : World) : Calls Try.prog 65 #[v.val] w fun e w' => e = .returned (.tuple #[.int .u8 (if v.sort = 8 then 0 else (v.sort : Int)), .bool (!(v.sort == 8))]) ∧ Wr [] w w' := by
  have hmf : ∀ (fn : Fn) (first cap : Array Value) (w : World), (Instr.makeFunc fn first cap).run Try.prog w = .ok (.func fn first cap) w := fun _ _ _ _ => rfl
  have hle : v.sort ≤ 8 := by cases v <;> simp [AnyD.sort]
  have hone : v.val.cells = #[v.val] := by cases v <;> rfl
  have hst := stored_any v.val v.val_one
  have hq1 := fun h w hc => sortQ1 v h w hc
  have hq2 := fun h w hc => sortQ2 v h w hc
  have hq3 := fun h w hc => sortQ3 v h w hc
  have hq4 := fun h w hc => sortQ4 v h w hc
  have hq5 := fun h w hc => sortQ5 v h w hc
  have hq6 := fun h w hc => sortQ6 v h w hc
  have hq7 := fun h w hc => sortQ7 v h w hc
  have hq8 := fun h w hc => sortQ8 v h w hc
  obtain ⟨ns, hns⟩ : ∃ n, v.sort = n := ⟨_, rfl⟩
  rw [hns] at hle hq1 hq2 hq3 hq4 hq5 hq6 hq7 hq8 ⊢
  generalize v.val = V at *
  obtain ⟨h, hh⟩ : ∃ h, w.heap.size = h := ⟨_, rfl⟩
  obtain ⟨w0, hw0⟩ : ∃ q, w.alloc (.cells #[V] 20) = q := ⟨_, rfl⟩
  have r0 : Wr [] w w0 := by rw [← hw0]; exact (Wr.refl [] _).alloc _
  have b0 : Blk w0 h 20 #[V] := by rw [← hw0, ← hh]; exact Blk.new _ _ _
  obtain ⟨z, hz⟩ : ∃ z, w0.heap.size = z := ⟨_, rfl⟩
  obtain ⟨w1, hw1⟩ : ∃ q, w0.alloc (.cells #[.func (.func 92) #[] #[.pointer (some ⟨h, 0, none⟩)], .func (.func 93) #[] #[.pointer (some ⟨h, 0, none⟩)], .func (.func 94) #[] #[.pointer (some ⟨h, 0, none⟩)], .func (.func 95) #[] #[.pointer (some ⟨h, 0, none⟩)], .func (.func 96) #[] #[.pointer (some ⟨h, 0, none⟩)], .func (.func 97) #[] #[.pointer (some ⟨h, 0, none⟩)], .func (.func 98) #[] #[.pointer (some ⟨h, 0, none⟩)], .func (.func 99) #[] #[.pointer (some ⟨h, 0, none⟩)]] 28) = q := ⟨_, rfl⟩
  have r1 : Wr [] w0 w1 := by rw [← hw1]; exact (Wr.refl [] _).alloc _
  have b1 : Blk w1 z 28 #[.func (.func 92) #[] #[.pointer (some ⟨h, 0, none⟩)], .func (.func 93) #[] #[.pointer (some ⟨h, 0, none⟩)], .func (.func 94) #[] #[.pointer (some ⟨h, 0, none⟩)], .func (.func 95) #[] #[.pointer (some ⟨h, 0, none⟩)], .func (.func 96) #[] #[.pointer (some ⟨h, 0, none⟩)], .func (.func 97) #[] #[.pointer (some ⟨h, 0, none⟩)], .func (.func 98) #[] #[.pointer (some ⟨h, 0, none⟩)], .func (.func 99) #[] #[.pointer (some ⟨h, 0, none⟩)]] := by rw [← hw1, ← hz]; exact Blk.new _ _ _
  have ACC := Lib.hid (r0.trans r1)
  have BV := Lib.hid (b0.wr0 r1)
  have BF := Lib.hid b1
  have HH := Lib.hid hh
  have HW0 := Lib.hid hw0
  have HW1 := Lib.hid hw1
  have HZ := Lib.hid hz
  have HQ1 := Lib.hid hq1
  have HQ2 := Lib.hid hq2
  have HQ3 := Lib.hid hq3
  have HQ4 := Lib.hid hq4
  have HQ5 := Lib.hid hq5
  have HQ6 := Lib.hid hq6
  have HQ7 := Lib.hid hq7
  have HQ8 := Lib.hid hq8
  clear hq1 hq2 hq3 hq4 hq5 hq6 hq7 hq8 hh hw0 hw1 hz r0 r1 b0 b1 hns
  go_enter Try.func65, Try.ntmps65
  go_upto_region 1 with (fail)
  simp only [Value.cells] at hone
  rw [hone, HH.out, HW0.out]
  go_wp2_with fail
  rw [HZ.out, HW1.out]
  refine wp_loop_rounds 9 ?_
  have BV1 := Lib.hid BV.out
  have BF1 := Lib.hid BF.out
  have ACC1 := Lib.hid ACC.out
  rw [rounds_succ]
  have f1 := BF1.out.cell 0
  simp only [List.getElem?_toArray, List.getElem?_cons_zero, List.getElem?_cons_succ] at f1
  go_wp2_with fail
  refine (HQ1.out h _ (BV1.out.cell 0)).mono ?_
  rintro e w2 ⟨rfl, rfl⟩
  have r1' := Wr.refl [] w1
  have ACC2 := Lib.hid (ACC1.out.trans r1')
  have BV2 := Lib.hid (BV1.out.wr0 r1')
  have BF2 := Lib.hid (BF1.out.wr0 r1')
  clear f1 r1'
  by_cases hn : ns = 0
  · subst hn
    clear HQ1 HQ2 HQ3 HQ4 HQ5 HQ6 HQ7 HQ8
    have hbt : ((0 : Nat) == 0) = true := rfl
    go_wp2_with fail
    go_ret2
    exact ⟨rfl, ACC2.out⟩
  have hbf : (ns == 0) = false := by simpa using hn
  go_wp2_with fail
  clear hbf
  rw [rounds_succ]
  have f2 := BF2.out.cell 1
  simp only [List.getElem?_toArray, List.getElem?_cons_zero, List.getElem?_cons_succ] at f2
  go_wp2_with fail
  refine (HQ2.out h _ (BV2.out.cell 0)).mono ?_
  rintro e w3 ⟨rfl, r1'⟩
  have ACC3 := Lib.hid (ACC2.out.trans r1')
  have BV3 := Lib.hid (BV2.out.wr0 r1')
  have BF3 := Lib.hid (BF2.out.wr0 r1')
  clear f2 r1'
  by_cases hn : ns = 1
  · subst hn
    clear HQ1 HQ2 HQ3 HQ4 HQ5 HQ6 HQ7 HQ8
    have hbt : ((1 : Nat) == 1) = true := rfl
    go_wp2_with fail
    go_ret2
    exact ⟨rfl, ACC3.out⟩
  have hbf : (ns == 1) = false := by simpa using hn
  go_wp2_with fail
  clear hbf
  rw [rounds_succ]
  have f3 := BF3.out.cell 2
  simp only [List.getElem?_toArray, List.getElem?_cons_zero, List.getElem?_cons_succ] at f3
  go_wp2_with fail
  refine (HQ3.out h _ (BV3.out.cell 0)).mono ?_
  rintro e w4 ⟨rfl, r1'⟩
  have ACC4 := Lib.hid (ACC3.out.trans r1')
  have BV4 := Lib.hid (BV3.out.wr0 r1')
  have BF4 := Lib.hid (BF3.out.wr0 r1')
  clear f3 r1'
  by_cases hn : ns = 2
  · subst hn
    clear HQ1 HQ2 HQ3 HQ4 HQ5 HQ6 HQ7 HQ8
    have hbt : ((2 : Nat) == 2) = true := rfl
    go_wp2_with fail
    go_ret2
    exact ⟨rfl, ACC4.out⟩
  have hbf : (ns == 2) = false := by simpa using hn
  go_wp2_with fail
  clear hbf
  rw [rounds_succ]
  have f4 := BF4.out.cell 3
  simp only [List.getElem?_toArray, List.getElem?_cons_zero, List.getElem?_cons_succ] at f4
  go_wp2_with fail
  refine (HQ4.out h _ (BV4.out.cell 0)).mono ?_
  rintro e w5 ⟨rfl, r1'⟩
  have ACC5 := Lib.hid (ACC4.out.trans r1')
  have BV5 := Lib.hid (BV4.out.wr0 r1')
  have BF5 := Lib.hid (BF4.out.wr0 r1')
  clear f4 r1'
  by_cases hn : ns = 3
  · subst hn
    clear HQ1 HQ2 HQ3 HQ4 HQ5 HQ6 HQ7 HQ8
    have hbt : ((3 : Nat) == 3) = true := rfl
    go_wp2_with fail
    go_ret2
    exact ⟨rfl, ACC5.out⟩
  have hbf : (ns == 3) = false := by simpa using hn
  go_wp2_with fail
  clear hbf
  rw [rounds_succ]
  have f5 := BF5.out.cell 4
  simp only [List.getElem?_toArray, List.getElem?_cons_zero, List.getElem?_cons_succ] at f5
  go_wp2_with fail
  refine (HQ5.out h _ (BV5.out.cell 0)).mono ?_
  rintro e w6 ⟨rfl, r1'⟩
  have ACC6 := Lib.hid (ACC5.out.trans r1')
  have BV6 := Lib.hid (BV5.out.wr0 r1')
  have BF6 := Lib.hid (BF5.out.wr0 r1')
  clear f5 r1'
  by_cases hn : ns = 4
  · subst hn
    clear HQ1 HQ2 HQ3 HQ4 HQ5 HQ6 HQ7 HQ8
    have hbt : ((4 : Nat) == 4) = true := rfl
    go_wp2_with fail
    go_ret2
    exact ⟨rfl, ACC6.out⟩
  have hbf : (ns == 4) = false := by simpa using hn
  go_wp2_with fail
  clear hbf
  rw [rounds_succ]
  have f6 := BF6.out.cell 5
  simp only [List.getElem?_toArray, List.getElem?_cons_zero, List.getElem?_cons_succ] at f6
  go_wp2_with fail
  refine (HQ6.out h _ (BV6.out.cell 0)).mono ?_
  rintro e w7 ⟨rfl, r1'⟩
  have ACC7 := Lib.hid (ACC6.out.trans r1')
  have BV7 := Lib.hid (BV6.out.wr0 r1')
  have BF7 := Lib.hid (BF6.out.wr0 r1')
  clear f6 r1'
  by_cases hn : ns = 5
  · subst hn
    clear HQ1 HQ2 HQ3 HQ4 HQ5 HQ6 HQ7 HQ8
    have hbt : ((5 : Nat) == 5) = true := rfl
    go_wp2_with fail
    go_ret2
    exact ⟨rfl, ACC7.out⟩
  have hbf : (ns == 5) = false := by simpa using hn
  go_wp2_with fail
  clear hbf
  rw [rounds_succ]
  have f7 := BF7.out.cell 6
  simp only [List.getElem?_toArray, List.getElem?_cons_zero, List.getElem?_cons_succ] at f7
  go_wp2_with fail
  refine (HQ7.out h _ (BV7.out.cell 0)).mono ?_
  rintro e w8 ⟨rfl, r1'⟩
  have ACC8 := Lib.hid (ACC7.out.trans r1')
  have BV8 := Lib.hid (BV7.out.wr0 r1')
  have BF8 := Lib.hid (BF7.out.wr0 r1')
  clear f7 r1'
  by_cases hn : ns = 6
  · subst hn
    clear HQ1 HQ2 HQ3 HQ4 HQ5 HQ6 HQ7 HQ8
    have hbt : ((6 : Nat) == 6) = true := rfl
    go_wp2_with fail
    go_ret2
    exact ⟨rfl, ACC8.out⟩
  have hbf : (ns == 6) = false := by simpa using hn
  go_wp2_with fail
  clear hbf
  rw [rounds_succ]
  have f8 := BF8.out.cell 7
  simp only [List.getElem?_toArray, List.getElem?_cons_zero, List.getElem?_cons_succ] at f8
  go_wp2_with fail
  refine (HQ8.out h _ (BV8.out.cell 0)).mono ?_
  rintro e w9 ⟨rfl, r1'⟩
  have ACC9 := Lib.hid (ACC8.out.trans r1')
  have BV9 := Lib.hid (BV8.out.wr0 r1')
  have BF9 := Lib.hid (BF8.out.wr0 r1')
  clear f8 r1'
  by_cases hn : ns = 7
  · subst hn
    clear HQ1 HQ2 HQ3 HQ4 HQ5 HQ6 HQ7 HQ8
    have hbt : ((7 : Nat) == 7) = true := rfl
    go_wp2_with fail
    go_ret2
    exact ⟨rfl, ACC9.out⟩
  have hbf : (ns == 7) = false := by simpa using hn
  go_wp2_with fail
  clear hbf
  obtain rfl : ns = 8 := by omega
  rw [rounds_succ]
  go_wp2_with fail
  go_ret2
  exact ⟨rfl, ACC9.out⟩
end Go.Proofs.Ytmpbkfbjmmoapaa
