/- TypesTell, walked. No conditions. -/
import Derived.Test.YtcpgkeceefoljaaTyX
import Derived.Test.YtcpgkeceefoljaaTyP
namespace Go.Proofs.Ytcpgkeceefoljaa
open Go.RowKit
set_option linter.unusedVariables false
set_option linter.unusedSimpArgs false
attribute [local go_sem ↓] Go.wp_at_zero Go.wp_at_succ

theorem plain_tys (l : List MadeD) : ∀ ty ∈ tabL l, ty.names = [] ∧ ty.fields = [] := by
  have h : ∀ (l : List MadeD) (tys : List Ty), (∀ ty ∈ tys, ty.names = [] ∧ ty.fields = []) → ∀ ty ∈ l.foldl addT tys, ty.names = [] ∧ ty.fields = [] := by
    intro l
    induction l with
    | nil => intro tys h; exact h
    | cons m l ih =>
      intro tys h
      refine ih _ (fun ty hty => ?_)
      unfold addT at hty
      split at hty
      · rcases List.mem_append.1 hty with e | e
        · exact h ty e
        · rw [List.mem_singleton] at e
          rw [e]
          exact ⟨rfl, rfl⟩
      · exact h ty hty
  exact h l tys0 (tys0_all _ (fun k nm b h => ⟨rfl, rfl⟩))
theorem plain_of (tys : List Ty) (h : ∀ ty ∈ tys, ty.names = [] ∧ ty.fields = []) (i : Int) : (tyOf tys i).names = [] ∧ (tyOf tys i).fields = [] := by
  unfold tyOf
  by_cases h0 : 0 ≤ i
  · rw [if_pos h0, List.getD_eq_getElem?_getD]
    by_cases hi : i.toNat < tys.length
    · rw [List.getElem?_eq_getElem hi]
      exact h _ (List.getElem_mem _)
    · rw [List.getElem?_eq_none (by omega)]
      exact ⟨rfl, rfl⟩
  · rw [if_neg h0]
    exact ⟨rfl, rfl⟩
theorem len_same (w : World) (t : Nat) (v : Value) (L : List Nat) (base : Nat) (tys : List Ty) (h : Tab 71 w t v L base tys) : Calls Try.prog 13 #[.pointer (some ⟨t, 0, none⟩)] w fun e w' => e = .returned (.int .i64 tys.length) ∧ w = w' := by
  obtain ⟨A, c, rfl, h1, h2⟩ := h.len
  have c0 := h.blk.cell 0
  simp only [List.getElem?_toArray, List.getElem?_cons_zero] at c0
  unfold maxLen at h2
  clear h
  go_enter Try.func13, Try.ntmps13
  go_wp2_with fail
  go_ret
  exact ⟨rfl, rfl⟩
def TellAt (w3 : World) (n : Nat) (s7 : Value) (wr : World) : Prop := ∃ (k : Nat) (z : Int), k ≤ n + 2 ∧ z = (k : Int) - 1 ∧ s7 = .int .i64 z ∧ Wr [] w3 wr

set_option maxRecDepth 100000 in
set_option maxHeartbeats 8000000 in
theorem tell_walk (w : World) (v0 : Value) (h0 : ∃ l, IsMades w v0 l) (i : Int) (wi : (Lit.int .i64 i).wf = true) :
    Calls Try.prog 4 #[v0, .int .i64 i] w fun e w' => e = .returned (.bool true) ∧ Wr [] w w' := by
  obtain ⟨l, h0⟩ := h0
  obtain ⟨i0, i1⟩ := Go.bounds_i64 wi
  have htb := tables_any w v0 l h0
  obtain ⟨A0, c0, rfl, hl0, hm0, _, _⟩ := h0
  unfold maxLen at hm0
  have hw := fun w => works_any w
  clear wi
  by_cases hbig : 40 < l.length
  · clear htb
    go_enter Try.func4, Try.ntmps4
    go_wp2_with fail
    refine (hw _).mono ?_
    rintro e w2 ⟨rfl, k⟩
    go_wp2_with fail
    go_ret
    exact ⟨rfl, k⟩
  go_enter Try.func4, Try.ntmps4
  go_wp2_with fail
  refine htb.mono ?_
  clear htb
  rintro e w3 ⟨t, r, vt, vr, L, rfl, two⟩
  have hln := tabL_len (l.take 40) 40 (by omega)
  rw [List.take_take, Nat.min_self] at hln
  have hpl := plain_tys (l.take 40)
  generalize tabL (l.take 40) = tys at *
  obtain ⟨xs, hor, hx1, hx2⟩ := two.doc.row
  obtain ⟨Ar, cr, hvr, hcr1, hcr2⟩ := Sl.form (P := fun _ => True) (Sl.ofOwn hor (fun _ _ => trivial))
  subst hvr
  unfold maxLen at hcr2
  have a0 := two.doc.blk.cell 0
  simp only [List.getElem?_toArray, List.getElem?_cons_zero] at a0
  have hlen := fun W (r : Wr [] w3 W) => len_same W t vt L _ tys (two.prog.wr0 r)
  have HLEN := Lib.hid hlen
  have HPL := Lib.hid hpl
  have TWO := Lib.hid two
  clear hor hx1 hx2 hpl two hlen
  have at0 : TellAt w3.drew tys.length (.int .i64 (-1)) w3.drew := ⟨0, -1, by omega, rfl, rfl, Wr.refl _ _⟩
  have AT0 := Lib.hid at0
  clear at0
  go_upto_region 4 with (fail)
  go_cut [36] (fun s36 wx => s36 = .bool false ∧ w3.drew = wx)
  case first =>
    go_region_with (first
      | (go_at_call 13; (with_reducible refine (HLEN.out _ (Wr.refl [] w3).drew).mono ?_); rintro e w4 ⟨rfl, rfl⟩))
    all_goals
      go_wp2_with fail
      go_meet
      exact ⟨rfl, rfl⟩
  case rest =>
    obtain ⟨rfl, rfl⟩ := hcut
    have t4 := TWO.out.wr0 (Wr.refl [] w3).drew
    have T4 := Lib.hid t4
    clear t4 TWO HLEN a0
    generalize w3.drew = w4 at *
    go_wp2_with fail
    go_loopw [7] (fun s7 wr => TellAt w4 tys.length s7 wr) (fun s7 _ => (tys.length + 2 : Int).toNat - (intOf s7 + 1).toNat)
    case atStart => exact AT0.out
    case round =>
      clear AT0
      obtain ⟨k, z, hk, hz, rfl, hr⟩ := hrel
      have two := T4.out.wr0 hr
      have a0 := two.doc.blk.cell 0
      simp only [List.getElem?_toArray, List.getElem?_cons_zero] at a0
      by_cases hlt : k < tys.length + 2
      · have hz1 : z ≤ (tys.length : Int) := by omega
        have hz2 : -1 ≤ z := by omega
        by_cases hk0 : z < 0
        · skip
          have crng := fun W (q : Wr [] wr W) => range_any W t vt L _ tys (two.prog.wr0 q) i
          have crod := fun W (q : Wr [] wr W) => rordinal_any W r _ L _ tys (two.doc.wr0 q) i
          have crrg := fun W (q : Wr [] wr W) => rrange_any W r _ L _ tys (two.doc.wr0 q) i
          have cget := fun W (q : Wr [] wr W) => get_any W t vt L _ tys (two.prog.wr0 q) i
          have crgt := fun W (q : Wr [] wr W) => rget_any W r _ L _ tys (two.doc.wr0 q) i
          have cbas := fun W (q : Wr [] wr W) => base_any W t vt L _ tys (two.prog.wr0 q) i
          have crbs := fun W (q : Wr [] wr W) => rbase_any W r _ L _ tys (two.doc.wr0 q) i
          have cord := fun W (q : Wr [] wr W) => ordinal_any W t vt L _ tys (two.prog.wr0 q) i
          have cnum := fun W (q : Wr [] wr W) => number_any W t vt L _ tys (two.prog.wr0 q) i
          have crnm := fun W (q : Wr [] wr W) => rnumber_any W r _ L _ tys (two.doc.wr0 q) i
          obtain ⟨hpn, hpf⟩ := plain_of tys HPL.out i
          have hlo : loB tys i = if ordB tys i = true then loR (tyOf tys i) else 0 := rfl
          have hhi : hiB tys i = if ordB tys i = true then hiR (tyOf tys i) else 0 := rfl
          generalize ordB tys i = od at *
          generalize loB tys i = lo at *
          generalize hiB tys i = hi at *
          generalize tyOf tys i = ty at *
          generalize baseOf tys i = bs at *
          generalize numB tys i = nb at *
          have HR := Lib.hid hr
          have HZ := Lib.hid hz
          clear hr two hk hz
          cases od with
          | true =>
            rw [if_pos rfl] at hlo hhi
            subst hlo hhi
            unfold RRangeP at crrg
            have q0 := Wr.refl [] wr
            go_wp2_with fail
            refine (crng _ q0).mono ?_
            rintro e u1 ⟨rfl, r1⟩
            have q1 := q0.trans r1
            go_wp2_with fail
            refine (crod _ q1).mono ?_
            rintro e u2 ⟨rfl, r2⟩
            have q2 := q1.trans r2
            go_wp2_with fail
            refine (crrg _ q2).mono ?_
            rintro e u3 ⟨rfl, r3⟩
            have q3 := q2.trans r3
            go_wp2_with fail
            refine (cget _ q3).mono ?_
            rintro e u4 ⟨vn, vf, va, vp, rfl, r4, hl1⟩
            have q4 := q3.trans r4
            go_wp2_with fail
            refine (crgt _ q4).mono ?_
            rintro e u5 ⟨vn', vf', va', vp', rfl, r5, hl2⟩
            have q5 := q4.trans r5
            have hsm := same_any u5 ty _ _ vn vf va vp vn' vf' va' vp' (hl1.wr0 r5) hl2 hpn hpf
            clear hl1 hl2
            go_wp2_with fail
            refine hsm.mono ?_
            clear hsm
            rintro e u6 ⟨rfl, r6⟩
            have q6 := q5.trans r6
            go_wp2_with fail
            refine (cbas _ q6).mono ?_
            rintro e u7 ⟨rfl, r7⟩
            have q7 := q6.trans r7
            go_wp2_with fail
            refine (crbs _ q7).mono ?_
            rintro e u8 ⟨rfl, r8⟩
            have q8 := q7.trans r8
            go_wp2_with fail
            refine (cord _ q8).mono ?_
            rintro e u9 ⟨rfl, r9⟩
            have q9 := q8.trans r9
            go_wp2_with fail
            refine (crod _ q9).mono ?_
            rintro e u10 ⟨rfl, r10⟩
            have q10 := q9.trans r10
            go_wp2_with fail
            refine (cnum _ q10).mono ?_
            rintro e u11 ⟨rfl, r11⟩
            have q11 := q10.trans r11
            go_wp2_with fail
            refine (crnm _ q11).mono ?_
            rintro e u12 ⟨rfl, r12⟩
            have q12 := q11.trans r12
            go_wp2_with fail
            refine (crod _ q12).mono ?_
            rintro e u13 ⟨rfl, r13⟩
            have q13 := q12.trans r13
            have QF := Lib.hid q13
            clear q0 q1 q2 q3 q4 q5 q6 q7 q8 q9 q10 q11 q12 q13 r1 r2 r3 r4 r5 r6 r7 r8 r9 r10 r11 r12 r13 crng crod crrg cget crgt cbas crbs cord cnum crnm
            go_wp2_with fail
            go_roundw
            case rel => exact ⟨k + 1, z + 1, by omega, by have := HZ.out; omega, rfl, HR.out.trans QF.out⟩
            case measure => simp [intOf]; omega
          | false =>
            rw [if_neg (by simp)] at hlo hhi
            subst hlo hhi
            have q0 := Wr.refl [] wr
            go_wp2_with fail
            refine (crng _ q0).mono ?_
            rintro e u1 ⟨rfl, r1⟩
            have q1 := q0.trans r1
            go_wp2_with fail
            refine (crod _ q1).mono ?_
            rintro e u2 ⟨rfl, r2⟩
            have q2 := q1.trans r2
            go_wp2_with fail
            refine (cget _ q2).mono ?_
            rintro e u3 ⟨vn, vf, va, vp, rfl, r3, hl1⟩
            have q3 := q2.trans r3
            go_wp2_with fail
            refine (crgt _ q3).mono ?_
            rintro e u4 ⟨vn', vf', va', vp', rfl, r4, hl2⟩
            have q4 := q3.trans r4
            have hsm := same_any u4 ty _ _ vn vf va vp vn' vf' va' vp' (hl1.wr0 r4) hl2 hpn hpf
            clear hl1 hl2
            go_wp2_with fail
            refine hsm.mono ?_
            clear hsm
            rintro e u5 ⟨rfl, r5⟩
            have q5 := q4.trans r5
            go_wp2_with fail
            refine (cbas _ q5).mono ?_
            rintro e u6 ⟨rfl, r6⟩
            have q6 := q5.trans r6
            go_wp2_with fail
            refine (crbs _ q6).mono ?_
            rintro e u7 ⟨rfl, r7⟩
            have q7 := q6.trans r7
            go_wp2_with fail
            refine (cord _ q7).mono ?_
            rintro e u8 ⟨rfl, r8⟩
            have q8 := q7.trans r8
            go_wp2_with fail
            refine (crod _ q8).mono ?_
            rintro e u9 ⟨rfl, r9⟩
            have q9 := q8.trans r9
            go_wp2_with fail
            refine (cnum _ q9).mono ?_
            rintro e u10 ⟨rfl, r10⟩
            have q10 := q9.trans r10
            go_wp2_with fail
            refine (crnm _ q10).mono ?_
            rintro e u11 ⟨rfl, r11⟩
            have q11 := q10.trans r11
            go_wp2_with fail
            refine (crod _ q11).mono ?_
            rintro e u12 ⟨rfl, r12⟩
            have q12 := q11.trans r12
            have QF := Lib.hid q12
            clear q0 q1 q2 q3 q4 q5 q6 q7 q8 q9 q10 q11 q12 r1 r2 r3 r4 r5 r6 r7 r8 r9 r10 r11 r12 crng crod crrg cget crgt cbas crbs cord cnum crnm
            go_wp2_with fail
            go_roundw
            case rel => exact ⟨k + 1, z + 1, by omega, by have := HZ.out; omega, rfl, HR.out.trans QF.out⟩
            case measure => simp [intOf]; omega
        · skip
          have crng := fun W (q : Wr [] wr W) => range_any W t vt L _ tys (two.prog.wr0 q) z
          have crod := fun W (q : Wr [] wr W) => rordinal_any W r _ L _ tys (two.doc.wr0 q) z
          have crrg := fun W (q : Wr [] wr W) => rrange_any W r _ L _ tys (two.doc.wr0 q) z
          have cget := fun W (q : Wr [] wr W) => get_any W t vt L _ tys (two.prog.wr0 q) z
          have crgt := fun W (q : Wr [] wr W) => rget_any W r _ L _ tys (two.doc.wr0 q) z
          have cbas := fun W (q : Wr [] wr W) => base_any W t vt L _ tys (two.prog.wr0 q) z
          have crbs := fun W (q : Wr [] wr W) => rbase_any W r _ L _ tys (two.doc.wr0 q) z
          have cord := fun W (q : Wr [] wr W) => ordinal_any W t vt L _ tys (two.prog.wr0 q) z
          have cnum := fun W (q : Wr [] wr W) => number_any W t vt L _ tys (two.prog.wr0 q) z
          have crnm := fun W (q : Wr [] wr W) => rnumber_any W r _ L _ tys (two.doc.wr0 q) z
          obtain ⟨hpn, hpf⟩ := plain_of tys HPL.out z
          have hlo : loB tys z = if ordB tys z = true then loR (tyOf tys z) else 0 := rfl
          have hhi : hiB tys z = if ordB tys z = true then hiR (tyOf tys z) else 0 := rfl
          generalize ordB tys z = od at *
          generalize loB tys z = lo at *
          generalize hiB tys z = hi at *
          generalize tyOf tys z = ty at *
          generalize baseOf tys z = bs at *
          generalize numB tys z = nb at *
          have HR := Lib.hid hr
          have HZ := Lib.hid hz
          clear hr two hk hz
          cases od with
          | true =>
            rw [if_pos rfl] at hlo hhi
            subst hlo hhi
            unfold RRangeP at crrg
            have q0 := Wr.refl [] wr
            go_wp2_with fail
            refine (crng _ q0).mono ?_
            rintro e u1 ⟨rfl, r1⟩
            have q1 := q0.trans r1
            go_wp2_with fail
            refine (crod _ q1).mono ?_
            rintro e u2 ⟨rfl, r2⟩
            have q2 := q1.trans r2
            go_wp2_with fail
            refine (crrg _ q2).mono ?_
            rintro e u3 ⟨rfl, r3⟩
            have q3 := q2.trans r3
            go_wp2_with fail
            refine (cget _ q3).mono ?_
            rintro e u4 ⟨vn, vf, va, vp, rfl, r4, hl1⟩
            have q4 := q3.trans r4
            go_wp2_with fail
            refine (crgt _ q4).mono ?_
            rintro e u5 ⟨vn', vf', va', vp', rfl, r5, hl2⟩
            have q5 := q4.trans r5
            have hsm := same_any u5 ty _ _ vn vf va vp vn' vf' va' vp' (hl1.wr0 r5) hl2 hpn hpf
            clear hl1 hl2
            go_wp2_with fail
            refine hsm.mono ?_
            clear hsm
            rintro e u6 ⟨rfl, r6⟩
            have q6 := q5.trans r6
            go_wp2_with fail
            refine (cbas _ q6).mono ?_
            rintro e u7 ⟨rfl, r7⟩
            have q7 := q6.trans r7
            go_wp2_with fail
            refine (crbs _ q7).mono ?_
            rintro e u8 ⟨rfl, r8⟩
            have q8 := q7.trans r8
            go_wp2_with fail
            refine (cord _ q8).mono ?_
            rintro e u9 ⟨rfl, r9⟩
            have q9 := q8.trans r9
            go_wp2_with fail
            refine (crod _ q9).mono ?_
            rintro e u10 ⟨rfl, r10⟩
            have q10 := q9.trans r10
            go_wp2_with fail
            refine (cnum _ q10).mono ?_
            rintro e u11 ⟨rfl, r11⟩
            have q11 := q10.trans r11
            go_wp2_with fail
            refine (crnm _ q11).mono ?_
            rintro e u12 ⟨rfl, r12⟩
            have q12 := q11.trans r12
            go_wp2_with fail
            refine (crod _ q12).mono ?_
            rintro e u13 ⟨rfl, r13⟩
            have q13 := q12.trans r13
            have QF := Lib.hid q13
            clear q0 q1 q2 q3 q4 q5 q6 q7 q8 q9 q10 q11 q12 q13 r1 r2 r3 r4 r5 r6 r7 r8 r9 r10 r11 r12 r13 crng crod crrg cget crgt cbas crbs cord cnum crnm
            go_wp2_with fail
            go_roundw
            case rel => exact ⟨k + 1, z + 1, by omega, by have := HZ.out; omega, rfl, HR.out.trans QF.out⟩
            case measure => simp [intOf]; omega
          | false =>
            rw [if_neg (by simp)] at hlo hhi
            subst hlo hhi
            have q0 := Wr.refl [] wr
            go_wp2_with fail
            refine (crng _ q0).mono ?_
            rintro e u1 ⟨rfl, r1⟩
            have q1 := q0.trans r1
            go_wp2_with fail
            refine (crod _ q1).mono ?_
            rintro e u2 ⟨rfl, r2⟩
            have q2 := q1.trans r2
            go_wp2_with fail
            refine (cget _ q2).mono ?_
            rintro e u3 ⟨vn, vf, va, vp, rfl, r3, hl1⟩
            have q3 := q2.trans r3
            go_wp2_with fail
            refine (crgt _ q3).mono ?_
            rintro e u4 ⟨vn', vf', va', vp', rfl, r4, hl2⟩
            have q4 := q3.trans r4
            have hsm := same_any u4 ty _ _ vn vf va vp vn' vf' va' vp' (hl1.wr0 r4) hl2 hpn hpf
            clear hl1 hl2
            go_wp2_with fail
            refine hsm.mono ?_
            clear hsm
            rintro e u5 ⟨rfl, r5⟩
            have q5 := q4.trans r5
            go_wp2_with fail
            refine (cbas _ q5).mono ?_
            rintro e u6 ⟨rfl, r6⟩
            have q6 := q5.trans r6
            go_wp2_with fail
            refine (crbs _ q6).mono ?_
            rintro e u7 ⟨rfl, r7⟩
            have q7 := q6.trans r7
            go_wp2_with fail
            refine (cord _ q7).mono ?_
            rintro e u8 ⟨rfl, r8⟩
            have q8 := q7.trans r8
            go_wp2_with fail
            refine (crod _ q8).mono ?_
            rintro e u9 ⟨rfl, r9⟩
            have q9 := q8.trans r9
            go_wp2_with fail
            refine (cnum _ q9).mono ?_
            rintro e u10 ⟨rfl, r10⟩
            have q10 := q9.trans r10
            go_wp2_with fail
            refine (crnm _ q10).mono ?_
            rintro e u11 ⟨rfl, r11⟩
            have q11 := q10.trans r11
            go_wp2_with fail
            refine (crod _ q11).mono ?_
            rintro e u12 ⟨rfl, r12⟩
            have q12 := q11.trans r12
            have QF := Lib.hid q12
            clear q0 q1 q2 q3 q4 q5 q6 q7 q8 q9 q10 q11 q12 r1 r2 r3 r4 r5 r6 r7 r8 r9 r10 r11 r12 crng crod crrg cget crgt cbas crbs cord cnum crnm
            go_wp2_with fail
            go_roundw
            case rel => exact ⟨k + 1, z + 1, by omega, by have := HZ.out; omega, rfl, HR.out.trans QF.out⟩
            case measure => simp [intOf]; omega
      · have hz1 : ¬z ≤ (tys.length : Int) := by omega
        have hz2 : z = (tys.length : Int) + 1 := by omega
        have HR := Lib.hid hr
        have T5 := Lib.hid two
        clear hr two hz hz2 hk hlt
        go_wp2_with fail
        refine (hw _).mono ?_
        rintro e w6 ⟨rfl, k6⟩
        go_wp2_with fail
        go_ret
        exact ⟨rfl, T5.out.wr.trans k6⟩
end Go.Proofs.Ytcpgkeceefoljaa

