/- iface's once, of uses and of items: walked. No conditions. -/
import Derived.Test.YtjanbpchedgoiaaFaD
import Derived.Test.YtjanbpchedgoiaaMapS
namespace Go.Proofs.Ytjanbpchedgoiaa
open Go.RowKit
set_option linter.unusedVariables false
set_option linter.unusedSimpArgs false

def SeenN (l : List ByteArray) (j : ByteArray) : Option Value := if inL j l = true then some (.int .i64 1) else none
theorem onceB_drop {l : List ByteArray} {k : Nat} {s : ByteArray} (seen : List ByteArray) (h : l[k]? = some s) : onceB seen (l.drop k) = (!(inL s seen) && onceB (seen ++ [s]) (l.drop (k + 1))) := by
  have hk := (List.getElem?_eq_some_iff.1 h).1
  have e : l[k] = s := (List.getElem?_eq_some_iff.1 h).2
  conv => lhs; rw [List.drop_eq_getElem_cons hk, onceB]
  rw [e]
theorem take_next {l : List ByteArray} {k : Nat} {s : ByteArray} (h : l[k]? = some s) : l.take (k + 1) = l.take k ++ [s] := by rw [List.take_add_one, h]; rfl
theorem inL_snocF (j m : ByteArray) (l : List ByteArray) : inL j (l ++ [m]) = (inL j l || decide (m = j)) := by
  unfold inL
  rw [List.any_append]
  simp
theorem seenN_next (l : List ByteArray) (s : ByteArray) : (fun j => if j = s then some (Value.int .i64 1) else SeenN l j) = SeenN (l ++ [s]) := by
  funext j
  unfold SeenN
  rw [inL_snocF]
  by_cases hj : j = s
  · subst hj; simp
  · have : ¬ s = j := fun e => hj e.symm
    simp [hj, this]
def OnceAt (w : World) (r : Nat) (l : List ByteArray) (k : Nat) (wr : World) : Prop := Wr [] w wr ∧ w.heap.size ≤ r ∧ MapS wr r (SeenN (l.take k)) ∧ onceB [] l = onceB (l.take k) (l.drop k)
theorem onceUQ (x : UseD) (w : World) : Calls Try.prog 28 #[.agg #[.string x.module, .int .u64 x.key]] w fun e w' => e = .returned (.string x.module) ∧ Wr [] w w' := by
  go_enter Try.func28, Try.ntmps28
  go_wp2_with fail
  go_ret
  exact ⟨rfl, (Wr.refl [] w).alloc _⟩
set_option maxRecDepth 100000 in
set_option maxHeartbeats 4000000 in
theorem onceU_any (l : List UseD) (v : Value) (P : Nat → Prop) (w : World) (h : SlUsesF w P v l) :
    Calls Try.prog 27 #[v, .func (.func 28) #[] #[]] w fun e w' => e = .returned (.bool (onceB [] (l.map fun x => x.module))) ∧ Wr [] w w' := by
  have hmm := @run_makeMap Try.prog
  have hen : ∀ args w, (callFunc 28 args).run Try.prog w = .ok (.enter 28 args) w := fun args w => rfl
  obtain ⟨A, c, rfl, l1, l2⟩ := Sl.form h
  unfold maxLen at l2
  obtain ⟨ns, hns⟩ : ∃ ns, (l.map fun x => x.module) = ns := ⟨_, rfl⟩
  obtain ⟨rr, hrr⟩ : ∃ r, onceB [] ns = r := ⟨_, rfl⟩
  rw [hns, hrr]
  have hnl : ns.length = l.length := by rw [← hns, List.length_map]
  obtain ⟨w0, hw0⟩ : ∃ q, w.alloc (.map #[] 0) = q := ⟨_, rfl⟩
  obtain ⟨g, hg⟩ : ∃ g, w.heap.size = g := ⟨_, rfl⟩
  have acc : Wr [] w w0 := by rw [← hw0]; exact (Wr.refl [] _).alloc _
  have hm0 : MapS w0 g (SeenN (ns.take 0)) := by
    rw [← hw0, ← hg]
    exact MapS.new w
  have HH := Lib.hid h
  have HNS := Lib.hid hns
  have HRR := Lib.hid hrr
  have HNL := Lib.hid hnl
  have HW0 := Lib.hid hw0
  have HG := Lib.hid hg
  have ACC := Lib.hid acc
  have HM0 := Lib.hid hm0
  clear h hns hrr hnl hw0 hg acc hm0
  go_enter Try.func27, Try.ntmps27
  go_upto_region 2 with (fail)
  rw [HW0.out, HG.out]
  go_wp2_with fail
  go_loopw [11] (fun s11 wr => ∃ k : Nat, k ≤ l.length ∧ s11 = .int .i64 k ∧ OnceAt w g ns k wr) (fun s11 _ => l.length - (intOf s11).toNat)
  case atStart => exact ⟨0, by omega, rfl, ACC.out, by rw [HG.out]; exact Nat.le_refl _, HM0.out, rfl⟩
  case round =>
    obtain ⟨k, hk, rfl, acck, hgk, hmap, hord⟩ := hrel
    have HORD := Lib.hid hord
    have ACCK := Lib.hid acck
    have HMAP := Lib.hid hmap
    clear hord acck hmap
    by_cases hlt : k < l.length
    · obtain ⟨x, hx⟩ : ∃ x, l[k]? = some x := ⟨_, List.getElem?_eq_getElem hlt⟩
      have hnx : ns[k]? = some x.module := by rw [← HNS.out, List.getElem?_map, hx]; rfl
      obtain ⟨b, off, c', e, _, hc⟩ := useF_at (Sl.wr0 HH.out ACCK.out) hx
      injection e with e1 e2 e3
      subst e1 e3
      have x0 := hc 0 _ rfl
      have x1 := hc 1 _ rfl
      simp only [Nat.add_zero] at x0
      have hd := onceB_drop (ns.take k) hnx
      have htn := take_next hnx
      obtain ⟨w1, hw1⟩ : ∃ q, wr.alloc (.cells #[.string x.module, .int .u64 x.key] 61) = q := ⟨_, rfl⟩
      obtain ⟨z, hz⟩ : ∃ z, wr.heap.size = z := ⟨_, rfl⟩
      have r1 : Wr [] wr w1 := by rw [← hw1]; exact (Wr.refl [] _).alloc _
      have b1 : Blk w1 z 61 #[.string x.module, .int .u64 x.key] := by rw [← hw1, ← hz]; exact Blk.new _ _ _
      have hq := fun W => onceUQ x W
      have HQ := Lib.hid hq
      have HD := Lib.hid hd
      have HTN := Lib.hid htn
      have HW1 := Lib.hid hw1
      have HZ := Lib.hid hz
      have R1 := Lib.hid r1
      have B1 := Lib.hid b1
      have h0 : (0 : Int) ≤ (k : Int) := by omega
      have h1 : (k : Int) < (l.length : Int) := by omega
      clear hc e2 hx hnx hd htn hw1 hz r1 b1 hq
      go_upto_region 5 with (fail)
      rw [HZ.out, HW1.out]
      clear x0 x1
      have y0 := B1.out.cell 0
      have y1 := B1.out.cell 1
      simp only [List.getElem?_toArray, List.getElem?_cons_zero, List.getElem?_cons_succ] at y0 y1
      go_wp2_with fail
      refine (HQ.out _).mono ?_
      rintro e w2 ⟨rfl, r2⟩
      have R2 := Lib.hid (R1.out.trans r2)
      have hmap2 := HMAP.out.wr R2.out (by simp)
      have hl := mapS_look1 Try.underlying138 Try.underlying9 hmap2 x.module Try.zeroValue3
      have HM2 := Lib.hid hmap2
      have B2 := Lib.hid (B1.out.wr0 r2)
      clear r2 hmap2 y0 y1
      cases hct : inL x.module (ns.take k) with
      | true =>
        have hrf : rr = false := by rw [← HRR.out, HORD.out, HD.out, hct]; rfl
        rw [show SeenN (ns.take k) x.module = some (.int .i64 1) from if_pos hct, Option.getD_some] at hl
        subst hrf
        clear hct HRR
        go_wp2_with fail
        go_ret
        exact ⟨rfl, ACCK.out.trans R2.out⟩
      | false =>
        have hord2 : onceB [] ns = onceB (ns.take (k + 1)) (ns.drop (k + 1)) := by rw [HORD.out, HD.out, hct, HTN.out]; rfl
        rw [show SeenN (ns.take k) x.module = none from if_neg (by rw [hct]; decide), Option.getD_none] at hl
        have HCT := Lib.hid hct
        have HORD2 := Lib.hid hord2
        have y0 := B2.out.cell 0
        have y1 := B2.out.cell 1
        simp only [List.getElem?_toArray, List.getElem?_cons_zero, List.getElem?_cons_succ] at y0 y1
        clear hct hord2
        go_wp2_with fail
        refine (HQ.out _).mono ?_
        rintro e w3 ⟨rfl, r3⟩
        have hmap3 := HM2.out.wr r3 (by simp)
        clear hl
        have hl := mapS_look1 Try.underlying138 Try.underlying9 hmap3 x.module Try.zeroValue3
        rw [show SeenN (ns.take k) x.module = none from if_neg (by rw [HCT.out]; decide), Option.getD_none] at hl
        obtain ⟨w4, hu, r4, hmap4⟩ := mapS_upd Try.underlying138 Try.underlying9 hmap3 x.module (.int .i64 1)
        rw [seenN_next, ← HTN.out] at hmap4
        have HM4 := Lib.hid hmap4
        have R4 := Lib.hid ((ACCK.out.trans (R2.out.trans r3)).new r4 hgk)
        clear r3 r4 hmap3 hmap4 y0 y1
        go_wp2_with fail
        go_roundw
        case rel => exact ⟨k + 1, by omega, by go_num, R4.out, hgk, HM4.out, HORD2.out⟩
        case measure => simp [intOf]; omega
    · obtain rfl : k = l.length := by omega
      have hrt : rr = true := by
        rw [← HRR.out, HORD.out, ← HNL.out, List.drop_length]
        rfl
      subst hrt
      clear HRR
      go_wp2_with fail
      go_ret
      exact ⟨rfl, ACCK.out⟩
theorem onceEQ (V : Value) (hV : V.oneCell' = true) (x : ItmD) (w : World) : Calls Try.prog 30 #[.agg #[.string x.name, .int .u8 x.kind, .int .i64 x.type, V, .int .i64 x.at_]] w fun e w' => e = .returned (.string x.name) ∧ Wr [] w w' := by
  have hst := stored_any V hV
  go_enter Try.func30, Try.ntmps30
  go_wp2_with fail
  go_ret
  exact ⟨rfl, (Wr.refl [] w).alloc _⟩
set_option maxRecDepth 100000 in
set_option maxHeartbeats 4000000 in
theorem onceE_any (l : List ItmD) (v : Value) (P : Nat → Prop) (w : World) (h : SlItms w P v l) :
    Calls Try.prog 29 #[v, .func (.func 30) #[] #[]] w fun e w' => e = .returned (.bool (onceB [] (l.map fun x => x.name))) ∧ Wr [] w w' := by
  have hmm := @run_makeMap Try.prog
  have hen : ∀ args w, (callFunc 30 args).run Try.prog w = .ok (.enter 30 args) w := fun args w => rfl
  obtain ⟨A, c, rfl, l1, l2⟩ := Sl.form h
  unfold maxLen at l2
  obtain ⟨ns, hns⟩ : ∃ ns, (l.map fun x => x.name) = ns := ⟨_, rfl⟩
  obtain ⟨rr, hrr⟩ : ∃ r, onceB [] ns = r := ⟨_, rfl⟩
  rw [hns, hrr]
  have hnl : ns.length = l.length := by rw [← hns, List.length_map]
  obtain ⟨w0, hw0⟩ : ∃ q, w.alloc (.map #[] 0) = q := ⟨_, rfl⟩
  obtain ⟨g, hg⟩ : ∃ g, w.heap.size = g := ⟨_, rfl⟩
  have acc : Wr [] w w0 := by rw [← hw0]; exact (Wr.refl [] _).alloc _
  have hm0 : MapS w0 g (SeenN (ns.take 0)) := by
    rw [← hw0, ← hg]
    exact MapS.new w
  have HH := Lib.hid h
  have HNS := Lib.hid hns
  have HRR := Lib.hid hrr
  have HNL := Lib.hid hnl
  have HW0 := Lib.hid hw0
  have HG := Lib.hid hg
  have ACC := Lib.hid acc
  have HM0 := Lib.hid hm0
  clear h hns hrr hnl hw0 hg acc hm0
  go_enter Try.func29, Try.ntmps29
  go_upto_region 2 with (fail)
  rw [HW0.out, HG.out]
  go_wp2_with fail
  go_loopw [11] (fun s11 wr => ∃ k : Nat, k ≤ l.length ∧ s11 = .int .i64 k ∧ OnceAt w g ns k wr) (fun s11 _ => l.length - (intOf s11).toNat)
  case atStart => exact ⟨0, by omega, rfl, ACC.out, by rw [HG.out]; exact Nat.le_refl _, HM0.out, rfl⟩
  case round =>
    obtain ⟨k, hk, rfl, acck, hgk, hmap, hord⟩ := hrel
    have HORD := Lib.hid hord
    have ACCK := Lib.hid acck
    have HMAP := Lib.hid hmap
    clear hord acck hmap
    by_cases hlt : k < l.length
    · obtain ⟨x, hx⟩ : ∃ x, l[k]? = some x := ⟨_, List.getElem?_eq_getElem hlt⟩
      have hnx : ns[k]? = some x.name := by rw [← HNS.out, List.getElem?_map, hx]; rfl
      obtain ⟨b, off, c', e, _, hc⟩ := itm_at (Sl.wr0 HH.out ACCK.out) hx
      injection e with e1 e2 e3
      subst e1 e3
      have x0 := hc 0 _ rfl
      have x1 := hc 1 _ rfl
      have x2 := hc 2 _ rfl
      have x3 := hc 3 _ rfl
      have x4 := hc 4 _ rfl
      simp only [Nat.add_zero] at x0
      have hst := stored_any x.v.val x.v.val_one
      obtain ⟨V, hV⟩ : ∃ V, x.v.val = V := ⟨_, rfl⟩
      rw [hV] at x3 hst
      have hd := onceB_drop (ns.take k) hnx
      have htn := take_next hnx
      obtain ⟨w1, hw1⟩ : ∃ q, wr.alloc (.cells #[.string x.name, .int .u8 x.kind, .int .i64 x.type, V, .int .i64 x.at_] 57) = q := ⟨_, rfl⟩
      obtain ⟨z, hz⟩ : ∃ z, wr.heap.size = z := ⟨_, rfl⟩
      have r1 : Wr [] wr w1 := by rw [← hw1]; exact (Wr.refl [] _).alloc _
      have b1 : Blk w1 z 57 #[.string x.name, .int .u8 x.kind, .int .i64 x.type, V, .int .i64 x.at_] := by rw [← hw1, ← hz]; exact Blk.new _ _ _
      have hq := fun W => onceEQ V (by rw [← hV]; exact x.v.val_one) x W
      have HQ := Lib.hid hq
      have HD := Lib.hid hd
      have HTN := Lib.hid htn
      have HW1 := Lib.hid hw1
      have HZ := Lib.hid hz
      have R1 := Lib.hid r1
      have B1 := Lib.hid b1
      have h0 : (0 : Int) ≤ (k : Int) := by omega
      have h1 : (k : Int) < (l.length : Int) := by omega
      clear hc e2 hx hnx hd htn hw1 hz r1 b1 hq hV
      go_upto_region 5 with (fail)
      rw [HZ.out, HW1.out]
      clear x0 x1 x2 x3 x4
      have y0 := B1.out.cell 0
      have y1 := B1.out.cell 1
      have y2 := B1.out.cell 2
      have y3 := B1.out.cell 3
      have y4 := B1.out.cell 4
      simp only [List.getElem?_toArray, List.getElem?_cons_zero, List.getElem?_cons_succ] at y0 y1 y2 y3 y4
      go_wp2_with fail
      refine (HQ.out _).mono ?_
      rintro e w2 ⟨rfl, r2⟩
      have R2 := Lib.hid (R1.out.trans r2)
      have hmap2 := HMAP.out.wr R2.out (by simp)
      have hl := mapS_look1 Try.underlying138 Try.underlying9 hmap2 x.name Try.zeroValue3
      have HM2 := Lib.hid hmap2
      have B2 := Lib.hid (B1.out.wr0 r2)
      clear r2 hmap2 y0 y1 y2 y3 y4
      cases hct : inL x.name (ns.take k) with
      | true =>
        have hrf : rr = false := by rw [← HRR.out, HORD.out, HD.out, hct]; rfl
        rw [show SeenN (ns.take k) x.name = some (.int .i64 1) from if_pos hct, Option.getD_some] at hl
        subst hrf
        clear hct HRR
        go_wp2_with fail
        go_ret
        exact ⟨rfl, ACCK.out.trans R2.out⟩
      | false =>
        have hord2 : onceB [] ns = onceB (ns.take (k + 1)) (ns.drop (k + 1)) := by rw [HORD.out, HD.out, hct, HTN.out]; rfl
        rw [show SeenN (ns.take k) x.name = none from if_neg (by rw [hct]; decide), Option.getD_none] at hl
        have HCT := Lib.hid hct
        have HORD2 := Lib.hid hord2
        have y0 := B2.out.cell 0
        have y1 := B2.out.cell 1
        have y2 := B2.out.cell 2
        have y3 := B2.out.cell 3
        have y4 := B2.out.cell 4
        simp only [List.getElem?_toArray, List.getElem?_cons_zero, List.getElem?_cons_succ] at y0 y1 y2 y3 y4
        clear hct hord2
        go_wp2_with fail
        refine (HQ.out _).mono ?_
        rintro e w3 ⟨rfl, r3⟩
        have hmap3 := HM2.out.wr r3 (by simp)
        clear hl
        have hl := mapS_look1 Try.underlying138 Try.underlying9 hmap3 x.name Try.zeroValue3
        rw [show SeenN (ns.take k) x.name = none from if_neg (by rw [HCT.out]; decide), Option.getD_none] at hl
        obtain ⟨w4, hu, r4, hmap4⟩ := mapS_upd Try.underlying138 Try.underlying9 hmap3 x.name (.int .i64 1)
        rw [seenN_next, ← HTN.out] at hmap4
        have HM4 := Lib.hid hmap4
        have R4 := Lib.hid ((ACCK.out.trans (R2.out.trans r3)).new r4 hgk)
        clear r3 r4 hmap3 hmap4 y0 y1 y2 y3 y4
        go_wp2_with fail
        go_roundw
        case rel => exact ⟨k + 1, by omega, by go_num, R4.out, hgk, HM4.out, HORD2.out⟩
        case measure => simp [intOf]; omega
    · obtain rfl : k = l.length := by omega
      have hrt : rr = true := by
        rw [← HRR.out, HORD.out, ← HNL.out, List.drop_length]
        rfl
      subst hrt
      clear HRR
      go_wp2_with fail
      go_ret
      exact ⟨rfl, ACCK.out⟩
end Go.Proofs.Ytjanbpchedgoiaa
