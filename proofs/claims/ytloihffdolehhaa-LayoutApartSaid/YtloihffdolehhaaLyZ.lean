/- LayoutApart, walked. No conditions but that no list of labels is longer than memory. -/
import Derived.Test.YtloihffdolehhaaLyY
namespace Go.Proofs.Ytloihffdolehhaa
open Go.RowKit
set_option linter.unusedVariables false
set_option linter.unusedSimpArgs false
attribute [local go_sem ↓] Go.wp_at_zero Go.wp_at_succ

theorem low_tabR : ∀ (l : List RecD) (tys : List Ty), Low tys → 0 < tys.length → Low (tabR tys l)
  | [], _, h, _ => h
  | m :: l, tys, h, h0 => by
    refine low_tabR l (addR tys m) (low_app h ⟨fun e => ?_, fun _ f hf => ?_, ?_⟩) (by simp [addR])
    · exact absurd e (by show (12 : Int) ≠ 10; decide)
    · obtain ⟨i, _, rfl⟩ := List.mem_map.1 hf
      show m.ts.getD i 0 % (tys.length : Int) < tys.length
      exact Int.emod_lt_of_pos _ (by omega)
    · simp [RecD.ty]
theorem tabR_kind : ∀ (l : List RecD) (tys : List Ty) (j : Nat) (ty : Ty), (tabR tys l)[j]? = some ty → tys.length ≤ j → ty.kind = 12
  | [], tys, j, ty, h, hj => by
    have := (List.getElem?_eq_some_iff.1 h).1
    exact absurd this (by show ¬ j < tys.length; omega)
  | m :: l, tys, j, ty, h, hj => by
    by_cases h1 : (addR tys m).length ≤ j
    · exact tabR_kind l (addR tys m) j ty h h1
    · have hle : ∀ (l : List RecD) (ts : List Ty) (j : Nat), j < ts.length → (tabR ts l)[j]? = ts[j]? := by
        intro l
        induction l with
        | nil => intro ts j _; rfl
        | cons a l ih =>
          intro ts j hj
          show (tabR (addR ts a) l)[j]? = _
          rw [ih (addR ts a) j (by simp [addR]; omega), addR, List.getElem?_append_left hj]
      have e : (tabR tys (m :: l))[j]? = (addR tys m)[j]? := hle l (addR tys m) j (by omega)
      rw [e, addR, List.getElem?_append_right hj] at h
      have h0 : j - tys.length = 0 := by
        have := (List.getElem?_eq_some_iff.1 h).1
        simp at this
        omega
      rw [h0] at h
      simp only [List.getElem?_cons_zero, Option.some.injEq] at h
      rw [← h]
      rfl

def ApAt (w3 : World) (n : Nat) (s13 : Value) (wr : World) : Prop := ∃ a : Nat, a ≤ n ∧ s13 = .int .i64 a ∧ Wr [] w3 wr

set_option maxRecDepth 100000 in
set_option maxHeartbeats 8000000 in
theorem apart_walk (w : World) (v0 : Value) (l : List MadeD) (h0 : IsMades w v0 l) (v1 : Value) (recs : List RecD) (h1 : IsRecs w v1 recs) (u : Int) (wu : (Lit.int .u8 u).wf = true) :
    Calls Try.prog 3 #[v0, v1, .int .u8 u] w fun e w' => e = .returned (.bool true) ∧ Wr [] w w' := by
  obtain ⟨u0, u1⟩ := Go.bounds_u8 wu
  have hhv := heavy_any w v0 v1 l recs h0 h1
  have hw := fun w => works_any w
  have htb := fun a b c => table2_any w v0 v1 l recs h0 h1 a b c
  have hok := h0
  obtain ⟨A0, c0, rfl, hl0, hm0, hok0, _⟩ := hok
  obtain ⟨A1, c1, rfl, hl1, hm1, _, _⟩ := h1
  unfold maxLen at hm0 hm1
  have HTB := Lib.hid htb
  have HOK := Lib.hid hok0
  clear h0 htb hok0 wu
  go_enter Try.func3, Try.ntmps3
  go_wp2_with fail
  refine hhv.mono ?_
  clear hhv
  rintro e w1 ⟨b, rfl, rfl, hb⟩
  cases b with
  | true =>
    clear hb
    go_wp2_with fail
    refine (hw _).mono ?_
    rintro e w2 ⟨rfl, k⟩
    go_wp2_with fail
    go_ret
    exact ⟨rfl, k⟩
  | false =>
    obtain ⟨b1, b2, b3⟩ := hb rfl
    by_cases hm : recs.length = 0
    · have hm' : ((recs.length : Int) == 0) = true := by simp [hm]
      have HM := Lib.hid hm
      clear hm hb b3
      go_wp2_with fail
      refine (hw _).mono ?_
      rintro e w2 ⟨rfl, k⟩
      go_wp2_with fail
      go_ret
      exact ⟨rfl, k⟩
    · have hm' : ((recs.length : Int) == 0) = false := by rw [beq_eq_false_iff_ne]; omega
      have htb := HTB.out b1 b2 b3
      clear hb b3 HTB
      go_wp2_with fail
      refine htb.mono ?_
      clear htb
      rintro e w2 ⟨t, r, vt, vr, L, rfl, two⟩
      have hln0 := tabL_len (l.take 40) 40 (by omega)
      rw [List.take_take, Nat.min_self] at hln0
      have hlow := low_tabR recs (tabL (l.take 40)) (low_tabL (l.take 40) (fun m hm => HOK.out m (List.mem_of_mem_take hm))) (Nat.lt_of_lt_of_le (by decide) hln0.1)
      have hlen := tabR_len (tabL (l.take 40)) recs
      have hkd := tabR_kind recs (tabL (l.take 40))
      generalize tabR (tabL (l.take 40)) recs = tys at *
      generalize tabL (l.take 40) = tysA at *
      have z0 := Int.emod_nonneg u (b := (recs.length : Int)) (by omega)
      have z1 := Int.emod_lt_of_pos u (b := (recs.length : Int)) (by omega)
      obtain ⟨q, hq⟩ := Int.eq_ofNat_of_zero_le z0
      rw [hq] at z1
      have hq1 : q < recs.length := by omega
      have hmod : u.tmod (recs.length : Int) = q := by rw [Int.tmod_eq_emod_of_nonneg u0, hq]
      have hwr : IntKind.i64.wrap u = u := by rw [IntKind.wrap_i64]; omega
      have hne : ¬(recs.length : Int) = 0 := by omega
      have hne2 : ¬recs = [] := fun h => by rw [h] at hm; simp at hm
      obtain ⟨i, hi⟩ : ∃ i : Nat, i = tys.length - 1 - q := ⟨_, rfl⟩
      have hk12 : (tyOf tys i).kind = 12 := by
        have hlt : i < tys.length := by omega
        refine hkd i _ ?_ (by omega)
        unfold tyOf
        rw [if_pos (by omega), Int.toNat_natCast, List.getD_eq_getElem?_getD, List.getElem?_eq_getElem hlt]
        rfl
      have hii : (tys.length : Int) - 1 - (q : Int) = (i : Int) := by omega
      obtain ⟨xs, hor, hx1, hx2⟩ := two.doc.row
      obtain ⟨Ar, cr, hvr, hcr1, hcr2⟩ := Sl.form (P := fun _ => True) (Sl.ofOwn hor (fun _ _ => trivial))
      subst hvr
      unfold maxLen at hcr2
      have a0 := two.doc.blk.cell 0
      simp only [List.getElem?_toArray, List.getElem?_cons_zero] at a0
      have hb50 : tys.length ≤ 60 := by omega
      have hb10 : 10 ≤ tys.length := by omega
      have TWO := Lib.hid two
      have HLOW := Lib.hid hlow
      have HK := Lib.hid hk12
      have HI := Lib.hid hi
      clear z0 z1 hor hx1 hx2 two hlow hlen hkd hk12 hi hq hm HOK
      go_wp2_with fail
      go_quiet (fail)
      go_wp2_with fail
      refine (rget_any _ r _ L _ tys (TWO.out.doc.wr0 ((Wr.refl [] w2).drewN _)) i).mono ?_
      rintro e w3 ⟨vn, vf, va, vp, rfl, r3, hl3⟩
      replace r3 := ((Wr.refl [] w2).drewN _).trans r3
      have two3 := TWO.out.wr0 r3
      obtain ⟨ty, hty⟩ : ∃ ty, ty = tyOf tys i := ⟨_, rfl⟩
      rw [← hty] at hl3
      simp only [← hty]
      obtain ⟨⟨B1, d1, rfl⟩, ⟨B2, d2, rfl⟩, ⟨B3, d3, rfl⟩, ⟨B4, d4, rfl⟩⟩ := hl3.forms
      have hk12 : ty.kind = 12 := by rw [hty]; exact HK.out
      unfold Ty.val Ty.cells
      rw [hk12]
      have hb3 := Blk.new w3 38 #[.int .u8 12, .string ty.module, .string ty.name, .int .i64 ty.base, .int .i64 ty.index, .int .i64 ty.low, .int .i64 ty.high, .slice B1 ty.names.length d1, .slice B2 ty.fields.length d2, .slice B3 ty.arms.length d3, .slice B4 ty.params.length d4, .int .i64 ty.result]
      have r34 := (Wr.refl [] w3).alloc (.cells #[.int .u8 12, .string ty.module, .string ty.name, .int .i64 ty.base, .int .i64 ty.index, .int .i64 ty.low, .int .i64 ty.high, .slice B1 ty.names.length d1, .slice B2 ty.fields.length d2, .slice B3 ty.arms.length d3, .slice B4 ty.params.length d4, .int .i64 ty.result] 38)
      have hfl := Sl.wr0 hl3.fields r34
      have two4 := two3.wr0 r34
      have HTY := Lib.hid hty
      clear hl3 two3 r3 r34 a0 hii hmod hwr hty hk12
      go_wp2_with fail
      generalize w3.alloc (.cells #[.int .u8 12, .string ty.module, .string ty.name, .int .i64 ty.base, .int .i64 ty.index, .int .i64 ty.low, .int .i64 ty.high, .slice B1 ty.names.length d1, .slice B2 ty.fields.length d2, .slice B3 ty.arms.length d3, .slice B4 ty.params.length d4, .int .i64 ty.result] 38) = w4 at *
      generalize w3.heap.size = g at *
      have hsz := Size_any w4 t vt L _ tys two4.prog HLOW.out i
      obtain ⟨s1, s2, s3⟩ := sz_bd tys i
      obtain ⟨x, hx⟩ : ∃ x, x = sz tys i := ⟨_, rfl⟩
      rw [← hx] at hsz s1 s2 s3
      obtain ⟨size, err⟩ := x
      have HX := Lib.hid hx
      have T4 := Lib.hid two4
      have HB4 := Lib.hid hb3
      have HFL := Lib.hid hfl
      clear hx two4 hb3 hfl TWO s3
      refine hsz.mono ?_
      clear hsz
      rintro e w5 ⟨rfl, r5⟩
      have hb5 := HB4.out.wr0 r5
      have x0 := hb5.cell 0
      simp only [List.getElem?_toArray, List.getElem?_cons_zero] at x0
      have HB5 := Lib.hid hb5
      have T5 := Lib.hid (T4.out.wr0 r5)
      have HFL5 := Lib.hid (Sl.wr0 HFL.out r5)
      clear hb5 r5 HFL HB4 T4
      by_cases he : err = 0
      · subst he
        simp only at s1 s2
        have hlaw := rec_fields HLOW.out i HK.out (by rw [← HX.out])
        rw [← HX.out, ← HTY.out] at hlaw
        obtain ⟨hat, herr, hsize⟩ := hlaw
        simp only at hsize
        obtain ⟨A2, cc2, hA2, hAl, hAm⟩ := Sl.form HFL5.out
        injection hA2 with e1 _ e3
        subst e1 e3
        unfold maxLen at hAm
        have HAT := Lib.hid hat
        have HERR := Lib.hid herr
        have HSIZE := Lib.hid hsize
        have at0 : ApAt w5 ty.fields.length (.int .i64 0) w5 := ⟨0, Nat.zero_le _, rfl, Wr.refl _ _⟩
        have AT0 := Lib.hid at0
        clear hat herr hsize at0 x0
        have x0 := HB5.out.cell 0
        simp only [List.getElem?_toArray, List.getElem?_cons_zero] at x0
        have hbnd : ∀ k, k ≤ ty.fields.length → 0 ≤ fsum (sz tys) ty.fields k ∧ fsum (sz tys) ty.fields k ≤ size := fun k hk => by
          have h1 := fsum_mono (s := sz tys) (fun j => (sz_bd tys j).1) ty.fields 0 k (by omega)
          have h2 := fsum_mono (s := sz tys) (fun j => (sz_bd tys j).1) ty.fields k (ty.fields.length - k) (by omega)
          rw [show k + (ty.fields.length - k) = ty.fields.length by omega, ← HSIZE.out] at h2
          rw [Nat.zero_add, fsum_zero] at h1
          exact ⟨h1, h2⟩
        have HBN := Lib.hid hbnd
        clear hbnd
        go_wp2_with fail
        go_loopw [13] (fun s13 wr => ApAt w5 ty.fields.length s13 wr) (fun s13 _ => ty.fields.length - (intOf s13).toNat)
        case atStart => exact AT0.out
        case round =>
          clear AT0 x0
          rename World => wr
          obtain ⟨a, ha, rfl, hr⟩ := hrel
          have hbr := HB5.out.wr0 hr
          have x8 := hbr.cell 8
          simp only [List.getElem?_toArray, List.getElem?_cons_zero, List.getElem?_cons_succ] at x8
          have HR := Lib.hid hr
          clear hbr hr
          by_cases hlt : a < ty.fields.length
          · have hatA := At_any wr t vt L _ tys (T5.out.prog.wr0 HR.out) HLOW.out i a
            rw [HAT.out a hlt] at hatA
            obtain ⟨f, hf⟩ : ∃ f, f = ty.fields[a]'hlt := ⟨_, rfl⟩
            have hfm : f ∈ ty.fields := by rw [hf]; exact List.getElem_mem hlt
            obtain ⟨bF, oF, cF, hvF, _, _, _, hcF⟩ := Sl.at_ (Sl.wr0 HFL5.out HR.out) (j := a * 3 + 1) (u := .int .i64 f.type) (by
              rw [flatMap_at Fld.cells 3 (fun _ => rfl) ty.fields a 1 f (by rw [hf]; exact List.getElem?_eq_getElem hlt) (by omega)]
              rfl)
            injection hvF with hvF _ hvF3
            subst hvF hvF3
            rw [← Nat.add_assoc] at hcF
            have hsucc := fsum_succ (sz tys) ty.fields a hlt
            rw [← hf] at hsucc
            have hse := HERR.out f hfm
            have hb0 := HBN.out a ha
            have hb1 := HBN.out (a + 1) hlt
            have hss : ∀ W, Wr [] wr W → Calls Try.prog 12 #[.pointer (some ⟨t, 0, none⟩), .int .i64 f.type] W (PairP W (sz tys f.type)) := fun W hW => Size_any W t vt L _ tys (T5.out.prog.wr0 (HR.out.trans hW)) HLOW.out f.type
            obtain ⟨z, hz⟩ : ∃ z, z = sz tys f.type := ⟨_, rfl⟩
            rw [← hz] at hsucc hse hss
            obtain ⟨sn, se⟩ := z
            simp only at hse hsucc
            subst hse
            rw [hsucc] at hb1
            obtain ⟨hb00, hb01⟩ := hb0
            obtain ⟨hb10, hb11⟩ := hb1
            have HSUCC := Lib.hid hsucc
            have HSS := Lib.hid hss
            have hi0 : (0 : Int) ≤ (a : Int) := by omega
            have hi1 : (a : Int) < (ty.fields.length : Int) := by omega
            have hsn := sz_bd tys f.type
            rw [← hz] at hsn
            have hsn0 := hsn.1
            simp only at hsn0
            clear hsucc hss hf hfm hz hsn
            obtain ⟨p, hp⟩ : ∃ p, p = fsum (sz tys) ty.fields a := ⟨_, rfl⟩
            rw [← hp] at hatA hb00 hb01 hb10 hb11
            have HPE := Lib.hid hp
            clear hp
            have hge1 : ¬p < 0 := by omega
            have hge2 : ¬size < p + sn := by omega
            go_wp2_with fail
            refine hatA.mono ?_
            clear hatA
            rintro e w6 ⟨rfl, r6⟩
            have hss := HSS.out w6 r6
            replace x8 := r6.cellOf x8 (by simp)
            replace hcF := r6.cellOf hcF (by simp)
            have R6 := Lib.hid (HR.out.trans r6)
            clear r6
            go_wp2_with fail
            refine hss.mono ?_
            clear hss
            rintro e w7 ⟨rfl, r7⟩
            have R7 := Lib.hid (R6.out.trans r7)
            clear r7 x8 hcF
            have at1 : ApAt w7 a (.int .i64 0) w7 := ⟨0, Nat.zero_le _, rfl, Wr.refl _ _⟩
            have AT1 := Lib.hid at1
            clear at1
            go_wp2_with fail
            go_loopw [18] (fun s18 wq => ApAt w7 a s18 wq) (fun s18 _ => a - (intOf s18).toNat)
            case atStart => exact AT1.out
            case round =>
              clear AT1
              rename World => wq
              obtain ⟨b, hb, rfl, hq⟩ := hrel
              have r5q := R7.out.trans hq
              have hbr := HB5.out.wr0 r5q
              have x8 := hbr.cell 8
              simp only [List.getElem?_toArray, List.getElem?_cons_zero, List.getElem?_cons_succ] at x8
              have HQ := Lib.hid hq
              by_cases hltb : b < a
              · have hlb : b < ty.fields.length := by omega
                have hatB := At_any wq t vt L _ tys (T5.out.prog.wr0 r5q) HLOW.out i b
                rw [HAT.out b hlb] at hatB
                obtain ⟨f2, hf2⟩ : ∃ f, f = ty.fields[b]'hlb := ⟨_, rfl⟩
                have hfm2 : f2 ∈ ty.fields := by rw [hf2]; exact List.getElem_mem hlb
                obtain ⟨bG, oG, cG, hvG, _, _, _, hcG⟩ := Sl.at_ (Sl.wr0 HFL5.out r5q) (j := b * 3 + 1) (u := .int .i64 f2.type) (by
                  rw [flatMap_at Fld.cells 3 (fun _ => rfl) ty.fields b 1 f2 (by rw [hf2]; exact List.getElem?_eq_getElem hlb) (by omega)]
                  rfl)
                injection hvG with hvG _ hvG3
                subst hvG3
                injection hvG with hvG
                injection hvG with hvG1 hvG2
                subst hvG1 hvG2
                rw [← Nat.add_assoc] at hcG
                have hsucc := fsum_succ (sz tys) ty.fields b hlb
                rw [← hf2] at hsucc
                have hse := HERR.out f2 hfm2
                have hb0 := HBN.out b (by omega)
                have hmono := fsum_mono (s := sz tys) (fun j => (sz_bd tys j).1) ty.fields (b + 1) (a - (b + 1)) (by omega)
                rw [show b + 1 + (a - (b + 1)) = a by omega, ← HPE.out] at hmono
                have hss : ∀ W, Wr [] wq W → Calls Try.prog 12 #[.pointer (some ⟨t, 0, none⟩), .int .i64 f2.type] W (PairP W (sz tys f2.type)) := fun W hW => Size_any W t vt L _ tys (T5.out.prog.wr0 (r5q.trans hW)) HLOW.out f2.type
                obtain ⟨z, hz⟩ : ∃ z, z = sz tys f2.type := ⟨_, rfl⟩
                rw [← hz] at hsucc hse hss
                obtain ⟨sk, se⟩ := z
                simp only at hse hsucc
                subst hse
                rw [hsucc] at hmono
                obtain ⟨hb02, hb03⟩ := hb0
                have HSS2 := Lib.hid hss
                have hj0 : (0 : Int) ≤ (b : Int) := by omega
                have hj1 : (b : Int) < (ty.fields.length : Int) := by omega
                have hj2 : (b : Int) < (a : Int) := by omega
                have hsn2 := sz_bd tys f2.type
                rw [← hz] at hsn2
                have hsk0 := hsn2.1
                have hsk1 := hsn2.2.1
                simp only at hsk0 hsk1
                clear hsucc hss hf2 hfm2 hz hsn2
                obtain ⟨p2, hp2⟩ : ∃ p, p = fsum (sz tys) ty.fields b := ⟨_, rfl⟩
                rw [← hp2] at hatB hb02 hb03 hmono
                have hlt3 : ¬p < p2 + sk := by omega
                clear hp2 hq hbr
                have R5Q := Lib.hid r5q
                clear r5q
                go_wp2_with fail
                refine hatB.mono ?_
                clear hatB
                rintro e w8 ⟨rfl, r8⟩
                have hss := HSS2.out w8 r8
                replace x8 := r8.cellOf x8 (by simp)
                replace hcG := r8.cellOf hcG (by simp)
                have R8 := Lib.hid (HQ.out.trans r8)
                clear r8
                go_wp2_with fail
                refine hss.mono ?_
                clear hss
                rintro e w9 ⟨rfl, r9⟩
                have R9 := Lib.hid (R8.out.trans r9)
                clear r9 x8 hcG
                go_wp2_with fail
                go_roundw
                case rel => exact ⟨b + 1, by omega, by go_num, R9.out⟩
                case measure => simp [intOf]; omega
              · obtain rfl : b = a := by omega
                clear hbr hq x8
                have R5Q := Lib.hid r5q
                clear r5q
                go_wp2_with fail
                go_roundw
                case rel => exact ⟨b + 1, by omega, by go_num, R5Q.out⟩
                case measure => simp [intOf]; omega
          · obtain rfl : a = ty.fields.length := by omega
            go_wp2_with fail
            refine (hw _).mono ?_
            rintro e w6 ⟨rfl, k⟩
            go_wp2_with fail
            go_ret
            exact ⟨rfl, (T5.out.wr.trans HR.out).trans k⟩
      · have hne : (err != 0) = true := by simp [he]
        go_wp2_with fail
        refine (hw _).mono ?_
        rintro e w6 ⟨rfl, k⟩
        go_wp2_with fail
        go_ret
        exact ⟨rfl, T5.out.wr.trans k⟩
theorem apart_walk' (w : World) (v0 : Value) (h0 : ∃ l, IsMades w v0 l) (v1 : Value) (h1 : ∃ l, IsRecs w v1 l) (u : Int) (wu : (Lit.int .u8 u).wf = true) :
    Calls Try.prog 3 #[v0, v1, .int .u8 u] w fun e w' => e = .returned (.bool true) ∧ Wr [] w w' := by
  obtain ⟨l, h0⟩ := h0
  obtain ⟨recs, h1⟩ := h1
  exact apart_walk w v0 l h0 v1 recs h1 u wu
end Go.Proofs.Ytloihffdolehhaa
