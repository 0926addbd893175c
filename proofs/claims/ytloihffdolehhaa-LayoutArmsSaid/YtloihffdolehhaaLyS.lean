/- LayoutPlaces, walked. No conditions. -/
import Derived.Test.YtloihffdolehhaaLyP
import Derived.Test.YtloihffdolehhaaTyP
import Derived.Test.YtloihffdolehhaaArgs
namespace Go.Proofs.Ytloihffdolehhaa
open Go.RowKit
set_option linter.unusedVariables false
set_option linter.unusedSimpArgs false
attribute [local go_sem ↓] Go.wp_at_zero Go.wp_at_succ

def varsK (zs : List Int) (n : Int) : List Int := zs.map (· % n)
/-- At the head of a round of the first loop: the variables' types, so far. -/
def VarsAt (w0 w3 : World) (zs : List Int) (n : Nat) (s7 s8 : Value) (wr : World) : Prop :=
  ∃ k : Nat, k ≤ zs.length ∧ s8 = .int .i64 k ∧ Wr [] w3 wr ∧ wr.ownsRow w3.heap.size 3 1 s7 k (((varsK zs n).take k).map (Value.int .i64))
/-- Of the second loop. -/
def SumAt (w4 : World) (tys : List Ty) (v : List Int) (s12 s13 : Value) (wr : World) : Prop :=
  ∃ k : Nat, k ≤ v.length ∧ s12 = .int .i64 (sumK tys v k) ∧ s13 = .int .i64 k ∧ (∀ j, j < k → (sz tys (v.getD j 0)).2 = 0) ∧ Wr [] w4 wr

set_option maxRecDepth 100000 in
set_option maxHeartbeats 8000000 in
theorem places_walk (w : World) (v0 : Value) (l : List MadeD) (h0 : IsMades w v0 l) (v1 : Value) (h1 : IsInts .u8 w v1) :
    Calls Try.prog 6 #[v0, v1] w fun e w' => e = .returned (.bool true) ∧ Wr [] w w' := by
  have htb := fun W (r : Wr [] w W) => tables_any W v0 l (h0.wr0 r)
  obtain ⟨A0, c0, rfl, hl0, hm0, hok0, hin0⟩ := h0
  obtain ⟨A1, len, c1, zs, rfl, hl1, hm1, rfl, hwf, hcell⟩ := h1
  unfold maxLen at hm0 hm1
  have hw := fun w => works_any w
  have HTB := Lib.hid htb
  have HOK := Lib.hid hok0
  have HWF := Lib.hid hwf
  have HCELL := Lib.hid hcell
  clear htb hok0 hin0 hwf hcell
  by_cases hbig : 20 < l.length
  · go_enter Try.func6, Try.ntmps6
    go_wp2_with fail
    refine (hw _).mono ?_
    rintro e w2 ⟨rfl, k⟩
    go_wp2_with fail
    go_ret
    exact ⟨rfl, k⟩
  by_cases hbig1 : 40 < zs.length
  · go_enter Try.func6, Try.ntmps6
    go_wp2_with fail
    refine (hw _).mono ?_
    rintro e w2 ⟨rfl, k⟩
    go_wp2_with fail
    go_ret
    exact ⟨rfl, k⟩
  go_enter Try.func6, Try.ntmps6
  go_wp2_with fail
  refine (HTB.out w (Wr.refl _ _)).mono ?_
  rintro e w3 ⟨t, r, vt, vr, L, rfl, two⟩
  have hlow := low_tabL (l.take 40) (fun m hm => HOK.out m (List.mem_of_mem_take hm))
  have hln := tabL_len (l.take 40) 40 (by omega)
  rw [List.take_take, Nat.min_self] at hln
  generalize tabL (l.take 40) = tys at *
  have TWO := Lib.hid two
  have HLOW := Lib.hid hlow
  have at0 : VarsAt w w3 zs tys.length (.slice none 0 0) (.int .i64 0) w3 := ⟨0, Nat.zero_le _, rfl, Wr.refl _ _, World.ownsRow_nil _ _ _ _⟩
  have AT0 := Lib.hid at0
  clear two hlow at0 HTB
  go_wp2_with fail
  go_loopw [7, 8] (fun s7 s8 wr => VarsAt w w3 zs tys.length s7 s8 wr) (fun _ s8 _ => zs.length - (intOf s8).toNat)
  case atStart => exact AT0.out
  case round =>
    clear AT0
    obtain ⟨k, hk, rfl, hr, ho⟩ := hrel
    have hvl : (varsK zs tys.length).length = zs.length := by simp [varsK]
    by_cases hlt : k < zs.length
    · obtain ⟨b, off, rfl, hc⟩ := HCELL.out k hlt
      have two := TWO.out.wr0 hr
      replace hc := two.wr.cellOf hc (by simp)
      obtain ⟨z0, z1⟩ := Go.bounds_u8 (HWF.out k hlt)
      have hvk : (varsK zs tys.length)[k]? = some (zs.getD k 0 % (tys.length : Int)) := by
        simp [varsK, List.getD, hlt]
      have HVK := Lib.hid hvk
      generalize zs.getD k 0 = z at *
      obtain ⟨xs, hor, hx1, hx2⟩ := two.doc.row
      obtain ⟨Ar, cr, hvr, hcr1, hcr2⟩ := Sl.form (P := fun _ => True) (Sl.ofOwn hor (fun _ _ => trivial))
      subst hvr
      unfold maxLen at hcr2
      have a0 := two.doc.blk.cell 0
      simp only [List.getElem?_toArray, List.getElem?_cons_zero] at a0
      have hzr := two.doc.blk.lt
      have hr3 := hr.size
      have hwz := World.block_lt_of_cell? wr _ hc
      have hne : ¬ tys = [] := fun h => by rw [h] at hln; simp at hln
      have hwr : IntKind.i64.wrap z = z := by rw [IntKind.wrap_i64]; omega
      have hmod : z.tmod (tys.length : Int) = z % (tys.length : Int) := Int.tmod_eq_emod_of_nonneg z0
      have hlk : ((varsK zs tys.length).take k).length = k := by rw [List.length_take]; omega
      obtain ⟨Ao, co, hvo, _, _⟩ := Sl.form (P := fun _ => True) (Sl.ofOwn ho (fun _ _ => trivial))
      subst hvo
      have ho' : wr.drew.ownsRow w3.heap.size 3 1 (.slice Ao k co) ((varsK zs tys.length).take k).length (((varsK zs tys.length).take k).map (Value.int .i64)) := by rw [hlk]; exact ho.drew
      obtain ⟨v3, w4, hrun, ho3, r3⟩ := append_int w3.heap.size _ ((varsK zs tys.length).take k) wr.drew ho' (z % (tys.length : Int)) (by omega) (by show w3.heap.size ≤ wr.heap.size; omega)
      have HRUN := Lib.hid hrun
      have HO3 := Lib.hid ho3
      have HO := Lib.hid ho
      have R3 := Lib.hid r3
      have HR := Lib.hid hr
      have hi0 : (0 : Int) ≤ (k : Int) := by omega
      have hi1 : (k : Int) < (zs.length : Int) := by omega
      clear two hor hx1 hx2 hr ho ho' hrun ho3 r3 hvk
      go_wp2_with fail
      go_region_law (first
        | (refine step_append_run (by rfl) _ _ _ (by rfl) _ _ (by rfl) (by rfl) _ _ HRUN.out ?_))
      all_goals
        go_wp2_with fail
        go_roundw
        case rel =>
          refine ⟨k + 1, by omega, by go_num, ?_, ?_⟩
          · exact (HR.out.drew).trans' R3.out (fun x hx => .inr ((HO.out.lt x (mem_ownL.1 hx)).1))
          · have e : (varsK zs tys.length).take (k + 1) = (varsK zs tys.length).take k ++ [z % (tys.length : Int)] := by
              rw [List.take_add_one, HVK.out]
              rfl
            have e1 : ((varsK zs tys.length).take k ++ [z % (tys.length : Int)]).length = k + 1 := by rw [List.length_append, hlk]; rfl
            rw [e, ← e1]
            exact HO3.out
        case measure => simp [intOf]; omega
    · obtain rfl : k = zs.length := by omega
      obtain ⟨v, hv⟩ : ∃ v, v = varsK zs tys.length := ⟨_, rfl⟩
      rw [← hv] at ho hvl
      rw [← hvl, List.take_length] at ho
      rw [← hvl] at hbig1
      have two := TWO.out.wr0 hr
      have hwr := two.wr
      obtain ⟨Ao, co, hvo, hco1, hco2⟩ := Sl.form (P := fun _ => True) (Sl.ofOwn ho (fun _ _ => trivial))
      subst hvo
      unfold maxLen at hco2
      have hpl := Places_any wr t vt L _ tys two.prog HLOW.out v (fun _ => True) _ (Sl.ofOwn ho (fun _ _ => trivial)) (by omega)
      have hso : SlInts wr (fun _ => True) (.slice Ao v.length co) v := Sl.ofOwn ho (fun _ _ => trivial)
      obtain ⟨res, hres⟩ : ∃ res, res = plK tys v 0 [] := ⟨_, rfl⟩
      rw [← hres] at hpl
      obtain ⟨x, all, ee⟩ := res
      have HRES := Lib.hid hres
      have HVL := Lib.hid hvl
      have T2 := Lib.hid two
      have HWR := Lib.hid hwr
      have HSO := Lib.hid hso
      clear hr ho two hwr hso hres HCELL HWF hv TWO hvl
      go_wp2_with fail
      refine hpl.mono ?_
      clear hpl
      rintro e w4 ⟨vx, rfl, r4, hsx⟩
      obtain ⟨Ax, cx, rfl, hcx1, hcx2⟩ := Sl.form hsx
      unfold maxLen at hcx2
      have HSX := Lib.hid hsx
      have R4 := Lib.hid r4
      have at0 : SumAt w4 tys v (.int .i64 0) (.int .i64 0) w4 := ⟨0, Nat.zero_le _, rfl, rfl, fun j hj => absurd hj (by omega), Wr.refl _ _⟩
      have AT0 := Lib.hid at0
      clear r4 hsx at0
      go_wp2_with fail
      go_loopw [12, 13] (fun s12 s13 wq => SumAt w4 tys v s12 s13 wq) (fun _ s13 _ => v.length - (intOf s13).toNat)
      case atStart => exact AT0.out
      case round =>
        clear AT0
        obtain ⟨k, hk, rfl, rfl, hz, hq⟩ := hrel
        obtain ⟨sb0, sb1⟩ := sumK_bd tys v k
        have HZ := Lib.hid hz
        by_cases hlt2 : k < v.length
        · have hvk : v[k]? = some (v.getD k 0) := by rw [List.getD_eq_getElem?_getD, List.getElem?_eq_getElem hlt2]; rfl
          obtain ⟨b, off, c', hvv, _, _, _, hcell⟩ := Sl.at_ HSO.out (j := k) (u := .int .i64 (v.getD k 0)) (by rw [List.getElem?_map, hvk]; rfl)
          injection hvv with hvv _ hv3
          subst hvv
          clear hv3
          replace hcell := hq.cellOf (R4.out.cellOf hcell (by simp)) (by simp)
          have hsz := Size_any _ t vt L _ tys (T2.out.prog.wr0 (R4.out.trans hq)) HLOW.out (v.getD k 0)
          have hsk : sumK tys v (k + 1) = sumK tys v k + (sz tys (v.getD k 0)).1 := rfl
          obtain ⟨s1, s2, s3⟩ := sz_bd tys (v.getD k 0)
          have hbad : (sz tys (v.getD k 0)).2 ≠ 0 → (x, all, ee) = ([], 0, (sz tys (v.getD k 0)).2) := fun he => HRES.out.trans (plK_bad tys v k hlt2 HZ.out he)
          have hlist : ee = 0 → x = (List.range v.length).map (sumK tys v) := fun he => by
            have e1 : (plK tys v 0 []).2.2 = 0 := by rw [← HRES.out]; exact he
            have e2 := plK_list tys v e1
            rw [← HRES.out] at e2
            exact e2
          obtain ⟨q, hqe⟩ : ∃ q, q = sz tys (v.getD k 0) := ⟨_, rfl⟩
          rw [← hqe] at hsz hsk s1 s2 s3 hbad
          have HQE := Lib.hid hqe
          have HSK := Lib.hid hsk
          have HQ := Lib.hid hq
          have HLI := Lib.hid hlist
          obtain ⟨n, err⟩ := q
          have hi0 : (0 : Int) ≤ (k : Int) := by omega
          have hi1 : (k : Int) < (v.length : Int) := by omega
          clear hqe hsk hz hq hlist s3
          obtain ⟨vk, hvk0⟩ : ∃ vk, vk = v.getD k 0 := ⟨_, rfl⟩
          rw [← hvk0] at hvk hcell hsz HQE
          have HVK := Lib.hid hvk0
          clear hvk0
          by_cases he : err = 0
          · subst he
            clear hbad
            simp only at s1 s2
            by_cases hee : ee = 0
            · subst hee
              have hxl : x.length = v.length := by rw [HLI.out rfl]; simp
              obtain ⟨b2, off2, c2, hv2, _, _, _, hcell2⟩ := Sl.at_ HSX.out (j := k) (u := .int .i64 (sumK tys v k)) (by rw [HLI.out rfl, List.getElem?_map, List.getElem?_map, List.getElem?_range hlt2]; rfl)
              injection hv2 with hv2 _ hv3
              subst hv2
              clear hv3
              replace hcell2 := HQ.out.cellOf hcell2 (by simp)
              have hi2 : (k : Int) < (x.length : Int) := by omega
              clear hxl
              generalize sumK tys v k = sk at *
              go_wp2_with fail
              refine hsz.mono ?_
              clear hsz
              rintro e w5 ⟨rfl, r5⟩
              replace hcell2 := r5.cellOf hcell2 (by simp)
              have R5 := Lib.hid r5
              clear r5 hcell
              go_wp2_with fail
              go_roundw
              case rel =>
                refine ⟨k + 1, by omega, by rw [HSK.out], by go_num, fun j hj => ?_, HQ.out.trans R5.out⟩
                by_cases hjk : j < k
                · exact HZ.out j hjk
                · obtain rfl : j = k := by omega
                  rw [← HVK.out, ← HQE.out]
              case measure => simp [intOf]; omega
            · have hne : (ee == 0) = false := by simp [hee]
              generalize sumK tys v k = sk at *
              go_wp2_with fail
              refine hsz.mono ?_
              clear hsz
              rintro e w5 ⟨rfl, r5⟩
              have R5 := Lib.hid r5
              clear r5 hcell
              go_wp2_with fail
              go_roundw
              case rel =>
                refine ⟨k + 1, by omega, by rw [HSK.out], by go_num, fun j hj => ?_, HQ.out.trans R5.out⟩
                by_cases hjk : j < k
                · exact HZ.out j hjk
                · obtain rfl : j = k := by omega
                  rw [← HVK.out, ← HQE.out]
              case measure => simp [intOf]; omega
          · have hb := hbad he
            injection hb with hb1 hb2
            injection hb2 with hb2 hb3
            subst hb1 hb2 hb3
            have hne : (ee == 0) = false := by simp [he]
            have hne2 : (ee != 0) = true := by simp [he]
            clear hbad he
            go_wp2_with fail
            refine hsz.mono ?_
            clear hsz
            rintro e w5 ⟨rfl, r5⟩
            have R5 := Lib.hid r5
            clear r5 hcell
            go_wp2_with fail
            refine (hw _).mono ?_
            rintro e w6 ⟨rfl, r6⟩
            go_wp2_with fail
            go_ret
            exact ⟨rfl, ((HWR.out.trans R4.out).trans HQ.out).trans (R5.out.trans r6)⟩
        · obtain rfl : k = v.length := by omega
          have hfin := HRES.out.trans (plK_end tys v HZ.out)
          have HQ := Lib.hid hq
          generalize sumK tys v v.length = sk at *
          clear hz hq HZ
          by_cases c : 32767 < sk
          · rw [if_pos c] at hfin
            injection hfin with hb1 hb2
            injection hb2 with hb2 hb3
            subst hb1 hb2 hb3
            go_wp2_with fail
            refine (hw _).mono ?_
            rintro e w6 ⟨rfl, r6⟩
            go_wp2_with fail
            go_ret
            exact ⟨by first | rfl | (simp; omega), ((HWR.out.trans R4.out).trans HQ.out).trans r6⟩
          · rw [if_neg c] at hfin
            injection hfin with hb1 hb2
            injection hb2 with hb2 hb3
            have hxl : x.length = v.length := by rw [hb1]; simp
            clear hb1
            subst hb2 hb3
            go_wp2_with fail
            refine (hw _).mono ?_
            rintro e w6 ⟨rfl, r6⟩
            go_wp2_with fail
            go_ret
            exact ⟨by first | rfl | (simp; omega), ((HWR.out.trans R4.out).trans HQ.out).trans r6⟩
theorem places_walk' (w : World) (v0 : Value) (h0 : ∃ l, IsMades w v0 l) (v1 : Value) (h1 : IsInts .u8 w v1) :
    Calls Try.prog 6 #[v0, v1] w fun e w' => e = .returned (.bool true) ∧ Wr [] w w' := by
  obtain ⟨l, h0⟩ := h0
  exact places_walk w v0 l h0 v1 h1
set_option maxRecDepth 100000 in
theorem open_u8s {H : Type} {enc : TypeId × Value → H} {W : World} {r : Reach} {b0 : Nat} {v : Value} {d : DataW H} {p : List MemPlace}
    (hv : Value.okWide Try.prog W r b0 51 v) (h : DataW.Trod enc Try.prog W 0 (fun _ => true) true 51 v d p) : IsInts .u8 W v :=
  open_ints_arg Try.underlying51 Try.underlying5 (by kernel_rfl) hv h
end Go.Proofs.Ytloihffdolehhaa
