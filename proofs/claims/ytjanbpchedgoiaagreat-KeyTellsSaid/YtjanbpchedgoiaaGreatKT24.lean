/- ref 14's typed: walked. Conditions: the type may be. -/
import Derived.Test.YtjanbpchedgoiaaGreatKT23
set_option linter.unusedVariables false
set_option linter.unusedSimpArgs false
set_option maxRecDepth 100000
set_option maxHeartbeats 32000000
namespace Go.Proofs.YtjanbpchedgoiaaGreat
open Go.RowKit
structure TyB (t : Ty) : Prop where
 kind : 0 ≤ t.kind ∧ t.kind ≤ 255
 module : t.module.size ≤ 255
 name : t.name.size ≤ 255
 base : smB t.base = true
 index : smB t.index = true
 low : smB t.low = true
 high : smB t.high = true
 result : smB t.result = true
 nn : t.names.length ≤ 65535
 nf : t.fields.length ≤ 65535
 na : t.arms.length ≤ 65535
 np : t.params.length ≤ 65535
 names : ∀ s ∈ t.names, s.size ≤ 255
 fields : ∀ f ∈ t.fields, f.name.size ≤ 255 ∧ smB f.type = true ∧ smB f.arm = true
 arms : ∀ a ∈ t.arms, a.frm.length ≤ 65535 ∧ a.frm.length = a.to.length ∧ (∀ n ∈ a.frm, smB n = true) ∧ ∀ n ∈ a.to, smB n = true
 params : ∀ p ∈ t.params, smB p.type = true
theorem tyB_of {t : Ty} {nt : Nat} (hn : nt ≤ 1024) (hk : 0 ≤ t.kind ∧ t.kind ≤ 255) (hf : tyFit t = true) (h : tyForm nt t = true) : TyB t := by
 unfold tyForm at h
 unfold tyFit fwB shB at hf
 simp only [Bool.and_eq_true, decide_eq_true_eq, List.all_eq_true] at h hf
 obtain ⟨⟨⟨⟨⟨⟨⟨a1, a2⟩, a3⟩, a4⟩, a5⟩, a6⟩, a7⟩, a8⟩ := h
 obtain ⟨⟨⟨⟨⟨⟨⟨⟨b1, b2⟩, b3⟩, b4⟩, b5⟩, b6⟩, b7⟩, b8⟩, b9⟩ := hf
 refine ⟨hk, b1, b2, tyB_sm hn a1, tyB_sm hn a2, a4, a5, tyB_sm hn a3, b3, b4, b5, b6, b7, fun f hf => ⟨b8 f hf, tyB_sm hn (a6 f hf).1, (a6 f hf).2⟩, fun a ha => ?_, fun p hp => tyB_sm hn (a8 p hp)⟩
 have h1 := a7 a ha
 have h2 := b9 a ha
 unfold armForm at h1
 unfold armFit fwB at h2
 simp only [Bool.and_eq_true, decide_eq_true_eq, List.all_eq_true] at h1 h2
 exact ⟨h2.1, h1.1.1, h1.1.2, h1.2⟩
def tA (t : Ty) : List UInt8 := numL t.kind.toNat 1 ++ textL t.module ++ textL t.name ++ fourL t.base ++ fourL t.index ++ fourL t.low ++ fourL t.high ++ numL t.names.length 2
def tB (t : Ty) : List UInt8 := tA t ++ t.names.flatMap textL ++ numL t.fields.length 2
def tC (t : Ty) : List UInt8 := tB t ++ t.fields.flatMap fldL ++ numL t.arms.length 2
def tD (t : Ty) : List UInt8 := tC t ++ t.arms.flatMap armL ++ numL t.params.length 2
theorem tyL_eq (t : Ty) : tyL t = tD t ++ t.params.flatMap parL ++ fourL t.result := rfl
theorem take_room {α : Type} (enc : α → List UInt8) (B N : Nat) (l : List α) (k : Nat) (hl : l.length ≤ N) (h : ∀ x ∈ l, (enc x).length ≤ B) : ((l.take k).flatMap enc).length ≤ N * B :=
 flat_le enc B _ N (by rw [List.length_take]; omega) (fun x hx => h x (List.mem_of_mem_take hx))
theorem fld_room {f : Fld} (h : f.name.size ≤ 255) : (fldL f).length ≤ 264 := by
 unfold fldL
 simp only [qlaq, text_len, four_len]
 omega
theorem pair_len (p : Int × Int) : (pairL p).length = 8 := by
 unfold pairL
 simp only [qlaq, four_len]
theorem arm_room {a : ArmD} (h : a.frm.length ≤ 65535) : (armL a).length ≤ 524283 := by
 have hz := flat_le pairL 8 (a.frm.zip a.to) 65535 (by rw [List.length_zip]; omega) (fun p _ => Nat.le_of_eq (pair_len p))
 unfold armL
 simp only [qlaq, numL_len, tru_len]
 omega
theorem tA_room {t : Ty} (h : TyB t) : (tA t).length ≤ 600 := by
 have h1 := h.module
 have h2 := h.name
 unfold tA
 simp only [qlaq, numL_len, text_len, four_len]
 omega
theorem tB_room {t : Ty} (h : TyB t) : (tB t).length ≤ 20000000 := by
 have h1 := tA_room h
 have h2 := flat_le textL 256 t.names 65535 h.nn (fun x hx => by rw [text_len]; have := h.names x hx; omega)
 unfold tB
 simp only [qlaq, numL_len]
 omega
theorem tC_room {t : Ty} (h : TyB t) : (tC t).length ≤ 40000000 := by
 have h1 := tB_room h
 have h2 := flat_le fldL 264 t.fields 65535 h.nf (fun x hx => fld_room (h.fields x hx).1)
 unfold tC
 simp only [qlaq, numL_len]
 omega
theorem tD_room {t : Ty} (h : TyB t) : (tD t).length ≤ 40000000000 := by
 have h1 := tC_room h
 have h2 := flat_le armL 524283 t.arms 65535 h.na (fun x hx => arm_room (h.arms x hx).1)
 unfold tD
 simp only [qlaq, numL_len]
 omega
theorem flat_snoc {α : Type} (f : α → List UInt8) {l : List α} {k : Nat} {x : α} (h : l[k]? = some x) : (l.take (k + 1)).flatMap f = (l.take k).flatMap f ++ f x := by
 rw [List.take_add_one, h, qfaq]
 simp
theorem zip_snoc {l m : List Int} {k : Nat} {p q : Int} (h1 : l[k]? = some p) (h2 : m[k]? = some q) : ((l.zip m).take (k + 1)).flatMap pairL = ((l.zip m).take k).flatMap pairL ++ fourL p ++ fourL q := by
 rw [flat_snoc pairL (x := (p, q)) (by rw [List.getElem?_zip_eq_some]; exact ⟨h1, h2⟩), qapq]
 rfl
theorem typed_b (t : Ty) (vn vf va vp : Value) (P : Nat → Prop) (w : World) (h : Lists w P vn vf va vp t) (ok : TyB t) :
  Calls Tryz.prog 36 #[.agg #[.int .u8 t.kind, .string t.module, .string t.name, .int .i64 t.base, .int .i64 t.index, .int .i64 t.low, .int .i64 t.high, vn, vf, va, vp, .int .i64 t.result]] w (BytR (tyL t) w) := by
 obtain ⟨⟨A1, k1, rfl, hn1, hn2⟩, ⟨A2, k2, rfl, hf1, hf2⟩, ⟨A3, k3, rfl, ha1, ha2⟩, ⟨A4, k4, rfl, hp1, hp2⟩⟩ := h.forms
 obtain ⟨w0, hw0⟩ : ∃ q, w.alloc (.cells #[.int .u8 t.kind, .string t.module, .string t.name, .int .i64 t.base, .int .i64 t.index, .int .i64 t.low, .int .i64 t.high, .slice A1 t.names.length k1, .slice A2 t.fields.length k2, .slice A3 t.arms.length k3, .slice A4 t.params.length k4, .int .i64 t.result] 52) = q := ⟨_, rfl⟩
 obtain ⟨g, hg⟩ : ∃ g, w.heap.size = g := ⟨_, rfl⟩
 have acc : Wr [] w w0 := by rw [← hw0]; exact (Wr.refl [] _).alloc _
 have bA : Blk w0 g 52 #[.int .u8 t.kind, .string t.module, .string t.name, .int .i64 t.base, .int .i64 t.index, .int .i64 t.low, .int .i64 t.high, .slice A1 t.names.length k1, .slice A2 t.fields.length k2, .slice A3 t.arms.length k3, .slice A4 t.params.length k4, .int .i64 t.result] := by rw [← hw0, ← hg]; exact Blk.new _ _ _
 have s0 := PSt.byte w0 t.kind ok.kind.1 ok.kind.2
 have S0 := qh s0
 have HW0 := qh hw0
 have HG := qh hg
 have ACC := qh acc
 have HH := qh (h.wr0 acc)
 have OK := qh ok
 have RB := qh (tB_room ok)
 have RA := qh (tA_room ok)
 have RC := qh (tC_room ok)
 have RD := qh (tD_room ok)
 have NN := qh ok.nn
 have NF := qh ok.nf
 have NA := qh ok.na
 have NP := qh ok.np
 have L1 := qh ok.module
 have L2 := qh ok.name
 have c0 := bA.cell 0
 have c1 := bA.cell 1
 have c2 := bA.cell 2
 have c3 := bA.cell 3
 have c4 := bA.cell 4
 have c5 := bA.cell 5
 have c6 := bA.cell 6
 have c7 := bA.cell 7
 have c8 := bA.cell 8
 have c9 := bA.cell 9
 have c10 := bA.cell 10
 have c11 := bA.cell 11
 simp only [qgaq, qgzq, qgsq] at c0 c1 c2 c3 c4 c5 c6 c7 c8 c9 c10 c11
 have C1 := qh c1
 have C2 := qh c2
 have C3 := qh c3
 have C4 := qh c4
 have C5 := qh c5
 have C6 := qh c6
 have C7 := qh c7
 have C8 := qh c8
 have C9 := qh c9
 have C10 := qh c10
 have C11 := qh c11
 clear c1 c2 c3 c4 c5 c6 c7 c8 c9 c10 c11 hw0 hg acc bA s0 h ok hn1 hn2 hf1 hf2 ha1 ha2 hp1 hp2
 go_enter Tryz.func36, Tryz.ntmps36
 go_upto_region 1 with (fail)
 rw [HG.out, HW0.out]
 go_upto_region 2 with (fail)
 have d1 := S0.out.cell C1.out
 generalize w0.alloc (.cells #[.int .u8 t.kind] 5) = wa at *
 generalize w0.heap.size = z at *
 clear c0
 go_wp2_with fail
 refine (text_b t.module L1.out _).mono ?_
 rintro e n1 ⟨u1, rfl, b1, r1⟩
 obtain ⟨v1, x1, hrun, s1⟩ := PSt.add S0.out r1 b1 (by simp only [qlaq, numL_len, text_len, four_len, tru_len]; have := L1.out; have := L2.out; omega)
 have S1 := qh s1
 have HRUN := qh hrun
 clear s1 hrun b1 r1 d1
 have d2 := S1.out.cell C2.out
 go_wp2_with (at_builtin; refine wpList_append_run rfl _ _ _ rfl _ _ rfl rfl _ _ HRUN.out ?_)
 clear HRUN
 refine (text_b t.name L2.out _).mono ?_
 rintro e n2 ⟨u2, rfl, b2, r2⟩
 obtain ⟨v2, x2, hrun, s2⟩ := PSt.add S1.out r2 b2 (by simp only [qlaq, numL_len, text_len, four_len, tru_len]; have := L1.out; have := L2.out; omega)
 have S2 := qh s2
 have HRUN := qh hrun
 clear s2 hrun b2 r2 d2
 have d3 := S2.out.cell C3.out
 go_wp2_with (at_builtin; refine wpList_append_run rfl _ _ _ rfl _ _ rfl rfl _ _ HRUN.out ?_)
 clear HRUN
 refine (four_b t.base OK.out.base _).mono ?_
 rintro e n3 ⟨u3, rfl, b3, r3⟩
 obtain ⟨v3, x3, hrun, s3⟩ := PSt.add S2.out r3 b3 (by simp only [qlaq, numL_len, text_len, four_len, tru_len]; have := L1.out; have := L2.out; omega)
 have S3 := qh s3
 have HRUN := qh hrun
 clear s3 hrun b3 r3 d3
 have d4 := S3.out.cell C4.out
 go_wp2_with (at_builtin; refine wpList_append_run rfl _ _ _ rfl _ _ rfl rfl _ _ HRUN.out ?_)
 clear HRUN
 refine (four_b t.index OK.out.index _).mono ?_
 rintro e n4 ⟨u4, rfl, b4, r4⟩
 obtain ⟨v4, x4, hrun, s4⟩ := PSt.add S3.out r4 b4 (by simp only [qlaq, numL_len, text_len, four_len, tru_len]; have := L1.out; have := L2.out; omega)
 have S4 := qh s4
 have HRUN := qh hrun
 clear s4 hrun b4 r4 d4
 have d5 := S4.out.cell C5.out
 go_wp2_with (at_builtin; refine wpList_append_run rfl _ _ _ rfl _ _ rfl rfl _ _ HRUN.out ?_)
 clear HRUN
 refine (four_b t.low OK.out.low _).mono ?_
 rintro e n5 ⟨u5, rfl, b5, r5⟩
 obtain ⟨v5, x5, hrun, s5⟩ := PSt.add S4.out r5 b5 (by simp only [qlaq, numL_len, text_len, four_len, tru_len]; have := L1.out; have := L2.out; omega)
 have S5 := qh s5
 have HRUN := qh hrun
 clear s5 hrun b5 r5 d5
 have d6 := S5.out.cell C6.out
 go_wp2_with (at_builtin; refine wpList_append_run rfl _ _ _ rfl _ _ rfl rfl _ _ HRUN.out ?_)
 clear HRUN
 refine (four_b t.high OK.out.high _).mono ?_
 rintro e n6 ⟨u6, rfl, b6, r6⟩
 obtain ⟨v6, x6, hrun, s6⟩ := PSt.add S5.out r6 b6 (by simp only [qlaq, numL_len, text_len, four_len, tru_len]; have := L1.out; have := L2.out; omega)
 have S6 := qh s6
 have HRUN := qh hrun
 clear s6 hrun b6 r6 d6
 have d7 := S6.out.cell C7.out
 go_wp2_with (at_builtin; refine wpList_append_run rfl _ _ _ rfl _ _ rfl rfl _ _ HRUN.out ?_)
 clear HRUN
 refine (count_b t.names.length NN.out _).mono ?_
 rintro e n7 ⟨u7, rfl, b7, r7⟩
 obtain ⟨v7, x7, hrun, s7⟩ := PSt.add S6.out r7 b7 (by simp only [qlaq, numL_len, text_len, four_len, tru_len]; have := L1.out; have := L2.out; omega)
 have S7 := qh s7
 have HRUN := qh hrun
 clear s7 hrun b7 r7 d7
 go_wp2_with (at_builtin; refine wpList_append_run rfl _ _ _ rfl _ _ rfl rfl _ _ HRUN.out ?_)
 clear HRUN
 have s10 : PSt w0 v7 (tA t) x7 := S7.out
 have S10 := qh s10
 clear s10
 go_loopw [3, 4] (fun sb si wr => ∃ k : Nat, k ≤ t.names.length ∧ si = .int .i64 k ∧ PSt w0 sb (tA t ++ (t.names.take k).flatMap textL) wr) (fun _ si _ => t.names.length - (intOf si).toNat)
 case atStart => exact ⟨0, by omega, rfl, by simpa using S10.out⟩
 case round =>
  obtain ⟨k, hk, rfl, s9⟩ := hrel
  have S9 := qh s9
  have d7 := s9.cell C7.out
  clear s9
  by_cases hlt : k < t.names.length
  ·obtain ⟨x, hx⟩ : ∃ x, t.names[k]? = some x := ⟨_, qgeq hlt⟩
   have hxs := OK.out.names x (List.mem_of_getElem? hx)
   have HXS := qh hxs
   have HX := qh hx
   have hkn : k < 65535 := by have := OK.out.nn; omega
   have hlti : (k : Int) < (t.names.length : Int) := by omega
   have hk0 : (0 : Int) ≤ (k : Int) := by omega
   obtain ⟨b, off, c', e, _, _, _, hc⟩ := Sl.at_ (Sl.wr0 HH.out.names S9.out.2) (j := k) (u := .string x) (by rw [qgmq, hx]; rfl)
   injection e with e1 e2 e3
   subst e1 e3
   have x0 := hc
   clear hc hx e2 hxs
   have LB := qh (take_room textL 256 65535 t.names k NN.out (fun x hx => by rw [text_len]; have := OK.out.names x hx; omega))
   go_wp2_with fail
   refine (text_b x HXS.out _).mono ?_
   rintro e n8 ⟨u8, rfl, b8, r8⟩
   obtain ⟨v8, x8, hrun, s8⟩ := PSt.add S9.out r8 b8 (by simp only [qlaq, numL_len, text_len, four_len, tru_len]; have := RA.out; have := LB.out; have := HXS.out; omega)
   have S8 := qh s8
   have HRUN := qh hrun
   clear s8 hrun b8 r8 d7 x0
   go_wp2_with (at_builtin; refine wpList_append_run rfl _ _ _ rfl _ _ rfl rfl _ _ HRUN.out ?_)
   clear HRUN
   have hs : PSt w0 v8 (tA t ++ (t.names.take (k + 1)).flatMap textL) x8 := by
    rw [flat_snoc textL HX.out, ← qapq]
    exact S8.out
   have HS := qh hs
   clear hs
   go_roundw
   case rel => exact ⟨k + 1, by omega, by go_num, HS.out⟩
   case measure => simp [intOf]; omega
  ·obtain rfl : k = t.names.length := by omega
   have s9 := S9.out
   rw [List.take_length] at s9
   replace S9 := qh s9
   clear s9 hlt hk
   have d8 := S9.out.cell C8.out
   have LB := qh (flat_le textL 256 t.names 65535 NN.out (fun x hx => by rw [text_len]; have := OK.out.names x hx; omega))
   go_wp2_with fail
   refine (count_b t.fields.length NF.out _).mono ?_
   rintro e n9 ⟨u9, rfl, b9, r9⟩
   obtain ⟨v9, x9, hrun, s9⟩ := PSt.add S9.out r9 b9 (by simp only [qlaq, numL_len, text_len, four_len, tru_len]; have := RA.out; have := LB.out; omega)
   have S9 := qh s9
   have HRUN := qh hrun
   clear s9 hrun b9 r9 d7 d8
   go_wp2_with (at_builtin; refine wpList_append_run rfl _ _ _ rfl _ _ rfl rfl _ _ HRUN.out ?_)
   clear HRUN
   have s10 : PSt w0 v9 (tB t) x9 := S9.out
   have S10 := qh s10
   clear s10
   go_loopw [3, 5] (fun sb si wr => ∃ k : Nat, k ≤ t.fields.length ∧ si = .int .i64 k ∧ PSt w0 sb (tB t ++ (t.fields.take k).flatMap fldL) wr) (fun _ si _ => t.fields.length - (intOf si).toNat)
   case atStart => exact ⟨0, by omega, rfl, by simpa using S10.out⟩
   case round =>
    obtain ⟨k, hk, rfl, s9⟩ := hrel
    have S9 := qh s9
    have d8 := s9.cell C8.out
    clear s9
    by_cases hlt : k < t.fields.length
    ·obtain ⟨x, hx⟩ : ∃ x, t.fields[k]? = some x := ⟨_, qgeq hlt⟩
     have hxs := OK.out.fields x (List.mem_of_getElem? hx)
     have HXS := qh hxs
     have HX := qh hx
     have hkn : k < 65535 := by have := OK.out.nf; omega
     have hlti : (k : Int) < (t.fields.length : Int) := by omega
     have hk0 : (0 : Int) ≤ (k : Int) := by omega
     obtain ⟨b, off, c', e, _, hc⟩ := fld_at HH.out.fields hx
     injection e with e1 e2 e3
     subst e1 e3
     have X0 := qh (hc 0 _ rfl)
     have X1 := qh (hc 1 _ rfl)
     have X2 := qh (hc 2 _ rfl)
     have x0 := S9.out.cell X0.out
     simp only [Nat.add_zero] at x0
     clear hc hx e2 hxs
     have LB := qh (take_room fldL 264 65535 t.fields k NF.out (fun x hx => fld_room (OK.out.fields x hx).1))
     go_wp2_with fail
     refine (text_b x.name HXS.out.1 _).mono ?_
     rintro e n10 ⟨u10, rfl, b10, r10⟩
     obtain ⟨v10, x10, hrun, s10⟩ := PSt.add S9.out r10 b10 (by simp only [qlaq, numL_len, text_len, four_len, tru_len]; have := RB.out; have := LB.out; have := HXS.out.1; omega)
     have S10 := qh s10
     have HRUN := qh hrun
     clear s10 hrun b10 r10 d8 x0
     have d8 := S10.out.cell C8.out
     have x1 := S10.out.cell X1.out
     go_wp2_with (at_builtin; refine wpList_append_run rfl _ _ _ rfl _ _ rfl rfl _ _ HRUN.out ?_)
     clear HRUN
     refine (four_b x.type HXS.out.2.1 _).mono ?_
     rintro e n11 ⟨u11, rfl, b11, r11⟩
     obtain ⟨v11, x11, hrun, s11⟩ := PSt.add S10.out r11 b11 (by simp only [qlaq, numL_len, text_len, four_len, tru_len]; have := RB.out; have := LB.out; have := HXS.out.1; omega)
     have S11 := qh s11
     have HRUN := qh hrun
     clear s11 hrun b11 r11 d8 x1
     have d8 := S11.out.cell C8.out
     have x2 := S11.out.cell X2.out
     go_wp2_with (at_builtin; refine wpList_append_run rfl _ _ _ rfl _ _ rfl rfl _ _ HRUN.out ?_)
     clear HRUN
     refine (four_b x.arm HXS.out.2.2 _).mono ?_
     rintro e n12 ⟨u12, rfl, b12, r12⟩
     obtain ⟨v12, x12, hrun, s12⟩ := PSt.add S11.out r12 b12 (by simp only [qlaq, numL_len, text_len, four_len, tru_len]; have := RB.out; have := LB.out; have := HXS.out.1; omega)
     have S12 := qh s12
     have HRUN := qh hrun
     clear s12 hrun b12 r12 d8 x2
     go_wp2_with (at_builtin; refine wpList_append_run rfl _ _ _ rfl _ _ rfl rfl _ _ HRUN.out ?_)
     clear HRUN
     have hs : PSt w0 v12 (tB t ++ (t.fields.take (k + 1)).flatMap fldL) x12 := by
      rw [flat_snoc fldL HX.out, ← qapq]
      have := S12.out
      rw [show fldL x = textL x.name ++ fourL x.type ++ fourL x.arm from rfl]
      simp only [qapq] at this ⊢
      exact this
     have HS := qh hs
     clear hs
     go_roundw
     case rel => exact ⟨k + 1, by omega, by go_num, HS.out⟩
     case measure => simp [intOf]; omega
    ·obtain rfl : k = t.fields.length := by omega
     have s9 := S9.out
     rw [List.take_length] at s9
     replace S9 := qh s9
     clear s9 hlt hk
     have d9 := S9.out.cell C9.out
     have LB := qh (flat_le fldL 264 t.fields 65535 NF.out (fun x hx => fld_room (OK.out.fields x hx).1))
     go_wp2_with fail
     refine (count_b t.arms.length NA.out _).mono ?_
     rintro e n13 ⟨u13, rfl, b13, r13⟩
     obtain ⟨v13, x13, hrun, s13⟩ := PSt.add S9.out r13 b13 (by simp only [qlaq, numL_len, text_len, four_len, tru_len]; have := RB.out; have := LB.out; omega)
     have S13 := qh s13
     have HRUN := qh hrun
     clear s13 hrun b13 r13 d8 d9
     go_wp2_with (at_builtin; refine wpList_append_run rfl _ _ _ rfl _ _ rfl rfl _ _ HRUN.out ?_)
     clear HRUN
     have s10 : PSt w0 v13 (tC t) x13 := S13.out
     have S10 := qh s10
     clear s10
     go_loopw [3, 6] (fun sb si wr => ∃ k : Nat, k ≤ t.arms.length ∧ si = .int .i64 k ∧ PSt w0 sb (tC t ++ (t.arms.take k).flatMap armL) wr) (fun _ si _ => t.arms.length - (intOf si).toNat)
     case atStart => exact ⟨0, by omega, rfl, by simpa using S10.out⟩
     case round =>
      obtain ⟨k, hk, rfl, s9⟩ := hrel
      have S9 := qh s9
      have d9 := s9.cell C9.out
      clear s9
      by_cases hlt : k < t.arms.length
      ·obtain ⟨x, hx⟩ : ∃ x, t.arms[k]? = some x := ⟨_, qgeq hlt⟩
       have hxs := OK.out.arms x (List.mem_of_getElem? hx)
       have HXS := qh hxs
       have HX := qh hx
       have hkn : k < 65535 := by have := OK.out.na; omega
       have hlti : (k : Int) < (t.arms.length : Int) := by omega
       have hk0 : (0 : Int) ≤ (k : Int) := by omega
       obtain ⟨b, off, c', va, vb, e, _, y0, y1, y2, ka, kb⟩ := arm_at HH.out.arms hx
       injection e with e1 e2 e3
       subst e1 e3
       obtain ⟨Aa, ca, rfl, _, _⟩ := Sl.form ka
       obtain ⟨Ab, cb, rfl, _, _⟩ := Sl.form kb
       have KA := qh ka
       have KB := qh kb
       have LB := qh (take_room armL 524283 65535 t.arms k NA.out (fun x hx => arm_room (OK.out.arms x hx).1))
       replace y0 := S9.out.cell y0
       replace y1 := S9.out.cell y1
       replace y2 := S9.out.cell y2
       clear hx e2 hxs ka kb
       go_upto_region 25 with (fail)
       have z0 := PZ.new S9.out 76 #[.slice Aa x.frm.length ca, .slice Ab x.to.length cb, .bool x.els]
       have kz := (Wr.refl [] wr).alloc (.cells #[.slice Aa x.frm.length ca, .slice Ab x.to.length cb, .bool x.els] 76)
       generalize wr.alloc (.cells #[.slice Aa x.frm.length ca, .slice Ab x.to.length cb, .bool x.els] 76) = wz at *
       generalize wr.heap.size = z at *
       have Z0 := qh z0
       have KZ := qh kz
       have p0 := z0.2.2.cell 0
       simp only [qgaq, qgzq, qgsq] at p0
       clear z0 kz d9 y0 y1 y2
       go_wp2_with fail
       refine (count_b x.frm.length HXS.out.1 _).mono ?_
       rintro e n14 ⟨u14, rfl, b14, r14⟩
       obtain ⟨v14, x14, hrun, s14⟩ := PZ.num Z0.out r14 b14 (by simp only [qlaq, numL_len, text_len, four_len, tru_len]; have := RC.out; have := LB.out; omega)
       have S14 := qh s14
       have HRUN := qh hrun
       clear s14 hrun b14 r14 p0
       go_wp2_with (at_builtin; refine wpList_append_run rfl _ _ _ rfl _ _ rfl rfl _ _ HRUN.out ?_)
       clear HRUN
       go_loopw [3, 8] (fun sb si wi => ∃ j : Nat, j ≤ x.frm.length ∧ si = .int .i64 j ∧ PZ w0 z 76 #[.slice Aa x.frm.length ca, .slice Ab x.to.length cb, .bool x.els] sb (tC t ++ (t.arms.take k).flatMap armL ++ numL x.frm.length 2 ++ ((x.frm.zip x.to).take j).flatMap pairL) wi) (fun _ si _ => x.frm.length - (intOf si).toNat)
       case atStart => exact ⟨0, by omega, rfl, by simpa using S14.out⟩
       case round =>
        obtain ⟨j, hj, rfl, s11⟩ := hrel
        have S11 := qh s11
        have p0 := s11.2.2.cell 0
        simp only [qgaq, qgzq, qgsq] at p0
        clear s11
        by_cases hlt3 : j < x.frm.length
        ·obtain ⟨p, hp⟩ : ∃ p, x.frm[j]? = some p := ⟨_, qgeq hlt3⟩
         obtain ⟨q, hq⟩ : ∃ q, x.to[j]? = some q := ⟨_, qgeq (by have := HXS.out.2.1; omega)⟩
         obtain ⟨ba, oa, c1, e, _, _, _, y0⟩ := Sl.at_ KA.out (j := j) (u := .int .i64 p) (by rw [qgmq, hp]; rfl)
         injection e with e1 e2 e3
         subst e1 e3
         obtain ⟨bb, ob, c2, e, _, _, _, y1⟩ := Sl.at_ KB.out (j := j) (u := .int .i64 q) (by rw [qgmq, hq]; rfl)
         injection e with e1 e2 e3
         subst e1 e3
         have hjn : j < 65535 := by have := HXS.out.1; omega
         have hji : (j : Int) < (x.frm.length : Int) := by omega
         have hji2 : (j : Int) < (x.to.length : Int) := by have := HXS.out.2.1; omega
         have hj0 : (0 : Int) ≤ (j : Int) := by omega
         have gp := HXS.out.2.2.1 p (List.mem_of_getElem? hp)
         have gq := HXS.out.2.2.2 q (List.mem_of_getElem? hq)
         have GP := qh gp
         have GQ := qh gq
         have HP := qh hp
         have HQ := qh hq
         have Y1 := qh y1
         replace y0 := S11.out.1.cell y0
         clear y1
         have LP := qh (take_room pairL 8 65535 (x.frm.zip x.to) j (by rw [List.length_zip]; have := HXS.out.1; omega) (fun p _ => Nat.le_of_eq (pair_len p)))
         clear hp hq gp gq
         go_wp2_with fail
         refine (four_b p GP.out _).mono ?_
         rintro e n15 ⟨u15, rfl, b15, r15⟩
         obtain ⟨v15, x15, hrun, s15⟩ := PZ.num S11.out r15 b15 (by simp only [qlaq, numL_len, text_len, four_len, tru_len]; have := RC.out; have := LB.out; have := LP.out; omega)
         have S15 := qh s15
         have HRUN := qh hrun
         clear s15 hrun b15 r15 p0 y0
         have p1 := S15.out.2.2.cell 1
         simp only [qgaq, qgzq, qgsq] at p1
         have y1 := S15.out.1.cell Y1.out
         go_wp2_with (at_builtin; refine wpList_append_run rfl _ _ _ rfl _ _ rfl rfl _ _ HRUN.out ?_)
         clear HRUN
         refine (four_b q GQ.out _).mono ?_
         rintro e n16 ⟨u16, rfl, b16, r16⟩
         obtain ⟨v16, x16, hrun, s16⟩ := PZ.num S15.out r16 b16 (by simp only [qlaq, numL_len, text_len, four_len, tru_len]; have := RC.out; have := LB.out; have := LP.out; omega)
         have S16 := qh s16
         have HRUN := qh hrun
         clear s16 hrun b16 r16 p1 y1
         go_wp2_with (at_builtin; refine wpList_append_run rfl _ _ _ rfl _ _ rfl rfl _ _ HRUN.out ?_)
         clear HRUN
         have hs : PZ w0 z 76 #[.slice (some ⟨ba, oa, none⟩) x.frm.length ca, .slice (some ⟨bb, ob, none⟩) x.to.length cb, .bool x.els] v16 (tC t ++ (t.arms.take k).flatMap armL ++ numL x.frm.length 2 ++ ((x.frm.zip x.to).take (j + 1)).flatMap pairL) x16 := by
          rw [zip_snoc HP.out HQ.out]
          have := S16.out
          simp only [qapq] at this ⊢
          exact this
         have HS := qh hs
         clear hs
         go_roundw
         case rel => exact ⟨j + 1, by omega, by go_num, HS.out⟩
         case measure => simp [intOf]; omega
        ·obtain rfl : j = x.frm.length := by omega
         have s12 := S11.out
         rw [List.take_of_length_le (show (x.frm.zip x.to).length ≤ x.frm.length by rw [List.length_zip]; omega)] at s12
         have S12 := qh s12
         have p2 := s12.2.2.cell 2
         simp only [qgaq, qgzq, qgsq] at p2
         have LP := qh (flat_le pairL 8 (x.frm.zip x.to) 65535 (by rw [List.length_zip]; have := HXS.out.1; omega) (fun p _ => Nat.le_of_eq (pair_len p)))
         clear s12 hlt3 hj
         go_wp2_with fail
         refine (truth_b x.els _).mono ?_
         rintro e n17 ⟨u17, rfl, b17, r17⟩
         obtain ⟨v17, x17, hrun, s17⟩ := PZ.num S12.out r17 b17 (by simp only [qlaq, numL_len, text_len, four_len, tru_len]; have := RC.out; have := LB.out; have := LP.out; omega)
         have S17 := qh s17
         have HRUN := qh hrun
         clear s17 hrun b17 r17 p0 p2
         go_wp2_with (at_builtin; refine wpList_append_run rfl _ _ _ rfl _ _ rfl rfl _ _ HRUN.out ?_)
         clear HRUN
         have hs : PSt w0 v17 (tC t ++ (t.arms.take (k + 1)).flatMap armL) x17 := by
          rw [flat_snoc armL HX.out, ← qapq]
          have := S17.out.1
          rw [show armL x = numL x.frm.length 2 ++ (x.frm.zip x.to).flatMap pairL ++ truL x.els from rfl]
          simp only [qapq] at this ⊢
          exact this
         have HS := qh hs
         clear hs
         go_roundw
         case rel => exact ⟨k + 1, by omega, by go_num, HS.out⟩
         case measure => simp [intOf]; omega
      ·obtain rfl : k = t.arms.length := by omega
       have s9 := S9.out
       rw [List.take_length] at s9
       replace S9 := qh s9
       clear s9 hlt hk
       have d10 := S9.out.cell C10.out
       have LB := qh (flat_le armL 524283 t.arms 65535 NA.out (fun x hx => arm_room (OK.out.arms x hx).1))
       go_wp2_with fail
       refine (count_b t.params.length NP.out _).mono ?_
       rintro e n18 ⟨u18, rfl, b18, r18⟩
       obtain ⟨v18, x18, hrun, s18⟩ := PSt.add S9.out r18 b18 (by simp only [qlaq, numL_len, text_len, four_len, tru_len]; have := RC.out; have := LB.out; omega)
       have S18 := qh s18
       have HRUN := qh hrun
       clear s18 hrun b18 r18 d9 d10
       go_wp2_with (at_builtin; refine wpList_append_run rfl _ _ _ rfl _ _ rfl rfl _ _ HRUN.out ?_)
       clear HRUN
       have s10 : PSt w0 v18 (tD t) x18 := S18.out
       have S10 := qh s10
       clear s10
       go_loopw [3, 9] (fun sb si wr => ∃ k : Nat, k ≤ t.params.length ∧ si = .int .i64 k ∧ PSt w0 sb (tD t ++ (t.params.take k).flatMap parL) wr) (fun _ si _ => t.params.length - (intOf si).toNat)
       case atStart => exact ⟨0, by omega, rfl, by simpa using S10.out⟩
       case round =>
        obtain ⟨k, hk, rfl, s9⟩ := hrel
        have S9 := qh s9
        have d10 := s9.cell C10.out
        clear s9
        by_cases hlt : k < t.params.length
        ·obtain ⟨x, hx⟩ : ∃ x, t.params[k]? = some x := ⟨_, qgeq hlt⟩
         have hxs := OK.out.params x (List.mem_of_getElem? hx)
         have HXS := qh hxs
         have HX := qh hx
         have hkn : k < 65535 := by have := OK.out.np; omega
         have hlti : (k : Int) < (t.params.length : Int) := by omega
         have hk0 : (0 : Int) ≤ (k : Int) := by omega
         obtain ⟨b, off, c', e, _, hc⟩ := par_at HH.out.params hx
         injection e with e1 e2 e3
         subst e1 e3
         have X0 := qh (hc 0 _ rfl)
         have X1 := qh (hc 1 _ rfl)
         have x0 := S9.out.cell X0.out
         simp only [Nat.add_zero] at x0
         clear hc hx e2 hxs
         have LB := qh (take_room parL 5 65535 t.params k NP.out (fun x hx => by unfold parL; simp only [qlaq, tru_len, four_len]; omega))
         go_wp2_with fail
         refine (truth_b x.var _).mono ?_
         rintro e n19 ⟨u19, rfl, b19, r19⟩
         obtain ⟨v19, x19, hrun, s19⟩ := PSt.add S9.out r19 b19 (by simp only [qlaq, numL_len, text_len, four_len, tru_len]; have := RD.out; have := LB.out; omega)
         have S19 := qh s19
         have HRUN := qh hrun
         clear s19 hrun b19 r19 d10 x0
         have d10 := S19.out.cell C10.out
         have x1 := S19.out.cell X1.out
         go_wp2_with (at_builtin; refine wpList_append_run rfl _ _ _ rfl _ _ rfl rfl _ _ HRUN.out ?_)
         clear HRUN
         refine (four_b x.type HXS.out _).mono ?_
         rintro e n20 ⟨u20, rfl, b20, r20⟩
         obtain ⟨v20, x20, hrun, s20⟩ := PSt.add S19.out r20 b20 (by simp only [qlaq, numL_len, text_len, four_len, tru_len]; have := RD.out; have := LB.out; omega)
         have S20 := qh s20
         have HRUN := qh hrun
         clear s20 hrun b20 r20 d10 x1
         go_wp2_with (at_builtin; refine wpList_append_run rfl _ _ _ rfl _ _ rfl rfl _ _ HRUN.out ?_)
         clear HRUN
         have hs : PSt w0 v20 (tD t ++ (t.params.take (k + 1)).flatMap parL) x20 := by
          rw [flat_snoc parL HX.out, ← qapq]
          have := S20.out
          rw [show parL x = truL x.var ++ fourL x.type from rfl]
          simp only [qapq] at this ⊢
          exact this
         have HS := qh hs
         clear hs
         go_roundw
         case rel => exact ⟨k + 1, by omega, by go_num, HS.out⟩
         case measure => simp [intOf]; omega
        ·obtain rfl : k = t.params.length := by omega
         have s9 := S9.out
         rw [List.take_length] at s9
         replace S9 := qh s9
         clear s9 hlt hk
         have d11 := S9.out.cell C11.out
         have LB := qh (flat_le parL 5 t.params 65535 NP.out (fun x hx => by unfold parL; simp only [qlaq, tru_len, four_len]; omega))
         go_wp2_with fail
         refine (four_b t.result OK.out.result _).mono ?_
         rintro e n21 ⟨u21, rfl, b21, r21⟩
         obtain ⟨v21, x21, hrun, s21⟩ := PSt.add S9.out r21 b21 (by simp only [qlaq, numL_len, text_len, four_len, tru_len]; have := RD.out; have := LB.out; omega)
         have S21 := qh s21
         have HRUN := qh hrun
         clear s21 hrun b21 r21 d10 d11
         go_wp2_with (at_builtin; refine wpList_append_run rfl _ _ _ rfl _ _ rfl rfl _ _ HRUN.out ?_)
         clear HRUN
         go_ret
         obtain ⟨h1, h2⟩ := S21.out.done ACC.out
         exact ⟨_, rfl, by rw [tyL_eq]; exact h1, h2⟩
end Go.Proofs.YtjanbpchedgoiaaGreat
