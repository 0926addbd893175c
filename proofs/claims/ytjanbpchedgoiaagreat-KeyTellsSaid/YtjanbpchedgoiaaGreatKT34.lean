/- What is numbered anew has numbers within their kinds, as before. No conditions. -/
import Derived.Test.YtjanbpchedgoiaaGreatKT24
set_option linter.unusedVariables false
set_option linter.unusedSimpArgs false
set_option maxRecDepth 100000
set_option maxHeartbeats 32000000
namespace Go.Proofs.YtjanbpchedgoiaaGreat
theorem faceW_canon {f : FaceD} (h : faceW f) (hm : mayP f = 0) : faceW (canonF f) := by
 refine ⟨h.keys, fun t ht => ?_, fun x hx => ?_, fun x hx => ?_⟩
 ·obtain ⟨k, hk⟩ := List.getElem?_of_mem ht
  unfold canonF at hk
  rw [qgmq] at hk
  cases hn : (ordOf f)[k]? with
  | none => rw [hn] at hk; cases hk
  | some n =>
   obtain ⟨t0, h0, h1⟩ := canon_type hm hn
   rw [hn] at hk
   simp only [Option.map_some, Option.some.injEq] at hk
   rw [h0] at hk
   simp only [Option.getD_some] at hk
   subst hk
   exact h.kinds t0 (List.mem_of_getElem? h0)
 ·unfold canonF at hx
  obtain ⟨y, hy, rfl⟩ := List.mem_map.1 hx
  exact h.sorts y hy
 ·unfold canonF at hx
  obtain ⟨y, hy, rfl⟩ := List.mem_map.1 hx
  have := h.vals y hy
  unfold anewI
  revert this
  cases y.v <;> exact id
end Go.Proofs.YtjanbpchedgoiaaGreat
namespace Go.Proofs.YtjanbpchedgoiaaGreat
open Go.RowKit
theorem face_at {f : FaceD} (hm : mayP f = 0) (hW : faceW f) : f.module.size ≤ 255 ∧ (∀ u ∈ f.uses, u.module.size ≤ 255 ∧ 0 ≤ u.key ∧ u.key < 18446744073709551616) ∧ (∀ t ∈ f.types, TyB t) ∧
  ∀ x ∈ f.items, x.name.size ≤ 255 ∧ (0 ≤ x.kind ∧ x.kind ≤ 255) ∧ smB x.type = true ∧ smB x.at_ = true ∧ anyW x.v ∧ anyFit x.v = true ∧ anyForm f.types.length x.v = true := by
 obtain ⟨h1, _, _, h2⟩ := face_parts hm
 have hn := (may_types hm).1
 unfold faceFit shB at h1
 unfold faceForm at h2
 simp only [Bool.and_eq_true, decide_eq_true_eq, List.all_eq_true] at h1 h2
 obtain ⟨⟨⟨⟨⟨⟨a1, a2⟩, a3⟩, a4⟩, a5⟩, a6⟩, a7⟩ := h1
 refine ⟨a4, fun u hu => ⟨a5 u hu, hW.keys u hu⟩, fun t ht => tyB_of hn (hW.kinds t ht) (a6 t ht) (h2.1 t ht), fun x hx => ?_⟩
 have k1 := a7 x hx
 have k2 := h2.2 x hx
 unfold itmFit shB at k1
 unfold itmForm at k2
 simp only [Bool.and_eq_true, decide_eq_true_eq] at k1 k2
 exact ⟨k1.1, hW.sorts x hx, tyB_sm hn k2.1.1, k2.1.2, hW.vals x hx, k1.2, k2.2⟩
def fA (f : FaceD) : List UInt8 := textL f.module ++ numL f.uses.length 2
def fB (f : FaceD) : List UInt8 := fA f ++ f.uses.flatMap useL ++ numL f.types.length 2
def fC (f : FaceD) : List UInt8 := fB f ++ f.types.flatMap tyL ++ numL f.items.length 2
theorem faceL_eq (f : FaceD) : faceL f = fC f ++ f.items.flatMap itmL := rfl
theorem use_room {u : UseD} (h : u.module.size ≤ 255) : (useL u).length ≤ 264 := by
 unfold useL
 simp only [qlaq, text_len, numL_len]
 omega
theorem itm_room {x : ItmD} (h : x.name.size ≤ 255) (hv : anyFit x.v = true) : (itmL x).length ≤ 71000 := by
 have hv := any_room hv
 unfold itmL
 simp only [qlaq, text_len, numL_len, four_len]
 omega
theorem fA_room {f : FaceD} (hm : mayP f = 0) (hW : faceW f) : (fA f).length ≤ 300 := by
 have h1 := (face_at hm hW).1
 unfold fA
 simp only [qlaq, numL_len, text_len]
 omega
theorem fB_room {f : FaceD} (hm : mayP f = 0) (hW : faceW f) : (fB f).length ≤ 20000 := by
 have h1 := fA_room hm hW
 have h2 := flat_le useL 264 f.uses 64 (may_types hm).2.2 (fun u hu => use_room ((face_at hm hW).2.1 u hu).1)
 unfold fB
 simp only [qlaq, numL_len]
 omega
theorem fC_room {f : FaceD} (hm : mayP f = 0) (hW : faceW f) : (fC f).length ≤ 41000000000000 := by
 have h1 := fB_room hm hW
 have h2 := flat_le tyL 40000000000 f.types 1024 (may_types hm).1 (fun t ht => ty_room (may_tyFit hm ht))
 unfold fC
 simp only [qlaq, numL_len]
 omega
theorem bytes_b (f : FaceD) (vu vt vi : Value) (P : Nat → Prop) (w : World) (h : FacePL w P vu vt vi (facePl f)) (hW : faceW f) (hm : mayP f = 0) :
  Calls Tryz.prog 22 #[.agg #[.string f.module, vu, vt, vi]] w fun e w' => e = .returned (.string ⟨(faceL f).toArray⟩) ∧ Wr [] w w' := by
 obtain ⟨⟨A1, k1, rfl, hn1, hn2⟩, ⟨A2, k2, rfl, hf1, hf2⟩, ⟨A3, k3, rfl, ha1, ha2⟩⟩ := h.forms
 have eu : (facePl f).uses = f.uses := rfl
 have et : (facePl f).types = f.types := rfl
 have ei : (facePl f).items.length = f.items.length := by unfold facePl; simp
 obtain ⟨fi, hfi⟩ : ∃ q, (facePl f).items = q := ⟨_, rfl⟩
 have hfx : ∀ (k : Nat) x, f.items[k]? = some x → fi[k]? = some (pitmOf x) := fun k x hx => by rw [← hfi]; unfold facePl; simp [hx]
 have hiL : SlPItms w P (.slice A3 fi.length k3) fi := by have := h.items; rw [hfi] at this; exact this
 rw [hfi] at ei
 have huL : SlUsesF w P (.slice A1 f.uses.length k1) f.uses := h.uses
 have htL : SlTys w P (.slice A2 f.types.length k2) f.types := h.types
 rw [eu, et, hfi, ei]
 obtain ⟨bs, hbs⟩ : ∃ q : ByteArray, (⟨(faceL f).toArray⟩ : ByteArray) = q := ⟨_, rfl⟩
 rw [hbs]
 have HBS := qh hbs
 clear hbs
 clear h eu et hfi hn1 hn2 hf1 hf2 ha1 ha2
 obtain ⟨w0, hw0⟩ : ∃ q, w.alloc (.cells #[.string f.module, .slice A1 f.uses.length k1, .slice A2 f.types.length k2, .slice A3 f.items.length k3] 27) = q := ⟨_, rfl⟩
 obtain ⟨g, hg⟩ : ∃ g, w.heap.size = g := ⟨_, rfl⟩
 have acc : Wr [] w w0 := by rw [← hw0]; exact (Wr.refl [] _).alloc _
 have bA : Blk w0 g 27 #[.string f.module, .slice A1 f.uses.length k1, .slice A2 f.types.length k2, .slice A3 f.items.length k3] := by rw [← hw0, ← hg]; exact Blk.new _ _ _
 have HW0 := qh hw0
 have HG := qh hg
 have ACC := qh acc
 have HU := qh (huL.wr0 acc)
 have HT := qh (htL.wr0 acc)
 have HI := qh (Sl.wr0 hiL acc)
 have HFX := qh hfx
 have AT := qh (face_at hm hW)
 have RA := qh (fA_room hm hW)
 have RB := qh (fB_room hm hW)
 have RC := qh (fC_room hm hW)
 have NL := qh (may_types hm)
 have FT := qh (fun t ht => ty_room (may_tyFit (f := f) hm (t := t) ht))
 have c0 := bA.cell 0
 have c1 := bA.cell 1
 have c2 := bA.cell 2
 have c3 := bA.cell 3
 simp only [qgaq, qgzq, qgsq] at c0 c1 c2 c3
 have C0 := qh c0
 have C1 := qh c1
 have C2 := qh c2
 have C3 := qh c3
 clear c1 c2 c3 hw0 hg acc bA huL htL hiL hfx ei hm hW
 go_enter Tryz.func22, Tryz.ntmps22
 go_upto_region 1 with (fail)
 rw [HG.out, HW0.out]
 go_wp2_with fail
 refine (text_b f.module AT.out.1 _).mono ?_
 rintro e n0 ⟨u0, rfl, b0, r0⟩
 have s0 : PSt w0 u0 (textL f.module) n0 := ⟨b0, r0⟩
 have S0 := qh s0
 have d1 := s0.cell C1.out
 clear s0 b0 r0 c0
 go_wp2_with fail
 refine (count_b f.uses.length (by have := NL.out.2.2; omega) _).mono ?_
 rintro e n1 ⟨u1, rfl, b1, r1⟩
 obtain ⟨v1, x1, hrun, s1⟩ := PSt.add S0.out r1 b1 (by simp only [qlaq, numL_len, text_len, four_len, tru_len]; have := AT.out.1; omega)
 have S1 := qh s1
 have HRUN := qh hrun
 clear s1 hrun b1 r1 d1
 go_wp2_with (at_builtin; refine wpList_append_run rfl _ _ _ rfl _ _ rfl rfl _ _ HRUN.out ?_)
 clear HRUN
 have s10 : PSt w0 v1 (fA f) x1 := S1.out
 have S10 := qh s10
 clear s10
 go_loopw [3, 4] (fun sb si wr => ∃ k : Nat, k ≤ f.uses.length ∧ si = .int .i64 k ∧ PSt w0 sb (fA f ++ (f.uses.take k).flatMap useL) wr) (fun _ si _ => f.uses.length - (intOf si).toNat)
 case atStart => exact ⟨0, by omega, rfl, by simpa using S10.out⟩
 case round =>
  obtain ⟨k, hk, rfl, s9⟩ := hrel
  have S9 := qh s9
  have d1 := s9.cell C1.out
  clear s9
  by_cases hlt : k < f.uses.length
  ·obtain ⟨x, hx⟩ : ∃ x, f.uses[k]? = some x := ⟨_, qgeq hlt⟩
   have hxs := AT.out.2.1 x (List.mem_of_getElem? hx)
   have HXS := qh hxs
   have HX := qh hx
   have hkn : k < 65535 := by have := NL.out; omega
   have hlti : (k : Int) < (f.uses.length : Int) := by omega
   have hk0 : (0 : Int) ≤ (k : Int) := by omega
   obtain ⟨b, off, c', e, _, hc⟩ := useF_at HU.out hx
   injection e with e1 e2 e3
   subst e1 e3
   have X0 := qh (hc 0 _ rfl)
   have X1 := qh (hc 1 _ rfl)
   have y0 := S9.out.cell X0.out
   simp only [Nat.add_zero] at y0
   clear hc hx e2 hxs
   obtain ⟨kn, hkn⟩ : ∃ q : Nat, x.key = (q : Int) := ⟨x.key.toNat, by have := HXS.out.2.1; omega⟩
   have hk64 : kn < 18446744073709551616 := by have := HXS.out.2.2; omega
   have HKN := qh hkn
   have HK6 := qh hk64
   clear hkn hk64
   have LB := qh (take_room useL 264 64 f.uses k NL.out.2.2 (fun u hu => use_room (AT.out.2.1 u hu).1))
   go_wp2_with fail
   refine (text_b x.module HXS.out.1 _).mono ?_
   rintro e n2 ⟨u2, rfl, b2, r2⟩
   obtain ⟨v2, x2, hrun, s2⟩ := PSt.add S9.out r2 b2 (by simp only [qlaq, numL_len, text_len, four_len, tru_len]; have := RA.out; have := LB.out; have := HXS.out.1; omega)
   have S2 := qh s2
   have HRUN := qh hrun
   clear s2 hrun b2 r2 d1 y0
   have d1 := S2.out.cell C1.out
   have y1 := S2.out.cell X1.out
   rw [HKN.out] at y1
   go_wp2_with (at_builtin; refine wpList_append_run rfl _ _ _ rfl _ _ rfl rfl _ _ HRUN.out ?_)
   clear HRUN
   refine (rnumber_any kn 8 HK6.out (by decide) (by decide) _).mono ?_
   rintro e n3 ⟨u3, rfl, b3, r3⟩
   obtain ⟨v3, x3, hrun, s3⟩ := PSt.add S2.out r3 b3 (by simp only [qlaq, numL_len, text_len, four_len, tru_len]; have := RA.out; have := LB.out; have := HXS.out.1; omega)
   have S3 := qh s3
   have HRUN := qh hrun
   clear s3 hrun b3 r3 d1 y1
   go_wp2_with (at_builtin; refine wpList_append_run rfl _ _ _ rfl _ _ rfl rfl _ _ HRUN.out ?_)
   clear HRUN
   have hs : PSt w0 v3 (fA f ++ (f.uses.take (k + 1)).flatMap useL) x3 := by
    rw [flat_snoc useL HX.out, ← qapq]
    have := S3.out
    rw [show useL x = textL x.module ++ numL x.key.toNat 8 from rfl]
    rw [HKN.out]
    simp only [qapq, Int.toNat_natCast] at this ⊢
    exact this
   have HS := qh hs
   clear hs
   go_roundw
   case rel => exact ⟨k + 1, by omega, by go_num, HS.out⟩
   case measure => simp [intOf]; omega
  ·obtain rfl : k = f.uses.length := by omega
   have s9 := S9.out
   rw [List.take_length] at s9
   replace S9 := qh s9
   clear s9 hlt hk
   have d2 := S9.out.cell C2.out
   have LB := qh (flat_le useL 264 f.uses 64 NL.out.2.2 (fun u hu => use_room (AT.out.2.1 u hu).1))
   go_wp2_with fail
   refine (count_b f.types.length (by have := NL.out.1; omega) _).mono ?_
   rintro e n4 ⟨u4, rfl, b4, r4⟩
   obtain ⟨v4, x4, hrun, s4⟩ := PSt.add S9.out r4 b4 (by simp only [qlaq, numL_len, text_len, four_len, tru_len]; have := RA.out; have := LB.out; omega)
   have S4 := qh s4
   have HRUN := qh hrun
   clear s4 hrun b4 r4 d1 d2
   go_wp2_with (at_builtin; refine wpList_append_run rfl _ _ _ rfl _ _ rfl rfl _ _ HRUN.out ?_)
   clear HRUN
   have s10 : PSt w0 v4 (fB f) x4 := S4.out
   have S10 := qh s10
   clear s10
   go_loopw [3, 5] (fun sb si wr => ∃ k : Nat, k ≤ f.types.length ∧ si = .int .i64 k ∧ PSt w0 sb (fB f ++ (f.types.take k).flatMap tyL) wr) (fun _ si _ => f.types.length - (intOf si).toNat)
   case atStart => exact ⟨0, by omega, rfl, by simpa using S10.out⟩
   case round =>
    obtain ⟨k, hk, rfl, s9⟩ := hrel
    have S9 := qh s9
    have d2 := s9.cell C2.out
    clear s9
    by_cases hlt : k < f.types.length
    ·obtain ⟨x, hx⟩ : ∃ x, f.types[k]? = some x := ⟨_, qgeq hlt⟩
     have hxs := AT.out.2.2.1 x (List.mem_of_getElem? hx)
     have HXS := qh hxs
     have HX := qh hx
     have hkn : k < 65535 := by have := NL.out; omega
     have hlti : (k : Int) < (f.types.length : Int) := by omega
     have hk0 : (0 : Int) ≤ (k : Int) := by omega
     obtain ⟨b, off, c', un, uf, ua, up, e, _, hc, hl⟩ := ty_at (HT.out.wr0 S9.out.2) hx
     injection e with e1 e2 e3
     subst e1 e3
     have gt := fun W (hW : Wr [] wr W) => typed_b x un uf ua up _ W (hl.wr0 hW) HXS.out
     obtain ⟨⟨B1, m1, rfl, _, _⟩, ⟨B2, m2, rfl, _, _⟩, ⟨B3, m3, rfl, _, _⟩, ⟨B4, m4, rfl, _, _⟩⟩ := hl.forms
     have GT := qh gt
     have y0 := hc 0 _ rfl
     have y1 := hc 1 _ rfl
     have y2 := hc 2 _ rfl
     have y3 := hc 3 _ rfl
     have y4 := hc 4 _ rfl
     have y5 := hc 5 _ rfl
     have y6 := hc 6 _ rfl
     have y7 := hc 7 _ rfl
     have y8 := hc 8 _ rfl
     have y9 := hc 9 _ rfl
     have y10 := hc 10 _ rfl
     have y11 := hc 11 _ rfl
     simp only [Nat.add_zero] at y0
     clear hc hx e2 hxs hl gt
     have LB := qh (take_room tyL 40000000000 1024 f.types k NL.out.1 FT.out)
     have LX := qh (FT.out x (List.mem_of_getElem? HX.out))
     go_wp2_with fail
     refine (GT.out _ (by first | exact Wr.refl _ _ | exact (Wr.refl _ _).alloc _)).mono ?_
     rintro e n5 ⟨u5, rfl, b5, r5⟩
     obtain ⟨v5, x5, hrun, s5⟩ := PSt.add S9.out r5 b5 (by simp only [qlaq, numL_len, text_len, four_len, tru_len]; have := RB.out; have := LB.out; have := LX.out; omega)
     have S5 := qh s5
     have HRUN := qh hrun
     clear s5 hrun b5 r5 d2 y0 y1 y2 y3 y4 y5 y6 y7 y8 y9 y10 y11
     go_wp2_with (at_builtin; refine wpList_append_run rfl _ _ _ rfl _ _ rfl rfl _ _ HRUN.out ?_)
     clear HRUN
     have hs : PSt w0 v5 (fB f ++ (f.types.take (k + 1)).flatMap tyL) x5 := by
      rw [flat_snoc tyL HX.out, ← qapq]
      exact S5.out
     have HS := qh hs
     clear hs
     go_roundw
     case rel => exact ⟨k + 1, by omega, by go_num, HS.out⟩
     case measure => simp [intOf]; omega
    ·obtain rfl : k = f.types.length := by omega
     have s9 := S9.out
     rw [List.take_length] at s9
     replace S9 := qh s9
     clear s9 hlt hk
     have d3 := S9.out.cell C3.out
     have LB := qh (flat_le tyL 40000000000 f.types 1024 NL.out.1 FT.out)
     go_wp2_with fail
     refine (count_b f.items.length (by have := NL.out.2.1; omega) _).mono ?_
     rintro e n6 ⟨u6, rfl, b6, r6⟩
     obtain ⟨v6, x6, hrun, s6⟩ := PSt.add S9.out r6 b6 (by simp only [qlaq, numL_len, text_len, four_len, tru_len]; have := RB.out; have := LB.out; omega)
     have S6 := qh s6
     have HRUN := qh hrun
     clear s6 hrun b6 r6 d2 d3
     go_wp2_with (at_builtin; refine wpList_append_run rfl _ _ _ rfl _ _ rfl rfl _ _ HRUN.out ?_)
     clear HRUN
     have s10 : PSt w0 v6 (fC f) x6 := S6.out
     have S10 := qh s10
     clear s10
     go_loopw [3, 6] (fun sb si wr => ∃ k : Nat, k ≤ f.items.length ∧ si = .int .i64 k ∧ PSt w0 sb (fC f ++ (f.items.take k).flatMap itmL) wr) (fun _ si _ => f.items.length - (intOf si).toNat)
     case atStart => exact ⟨0, by omega, rfl, by simpa using S10.out⟩
     case round =>
      obtain ⟨k, hk, rfl, s9⟩ := hrel
      have S9 := qh s9
      have d3 := s9.cell C3.out
      clear s9
      by_cases hlt : k < f.items.length
      ·obtain ⟨x, hx⟩ : ∃ x, f.items[k]? = some x := ⟨_, qgeq hlt⟩
       have hxs := AT.out.2.2.2 x (List.mem_of_getElem? hx)
       have HXS := qh hxs
       have HX := qh hx
       have hkn : k < 65535 := by have := NL.out; omega
       have hlti : (k : Int) < (f.items.length : Int) := by omega
       have hk0 : (0 : Int) ≤ (k : Int) := by omega
       obtain ⟨b, off, c', e, _, hc⟩ := pitm_at HI.out (HFX.out k x hx)
       injection e with e1 e2 e3
       subst e1 e3
       have y0 := S9.out.cell (hc 0 _ rfl)
       have y1 := S9.out.cell (hc 1 _ rfl)
       have y2 := S9.out.cell (hc 2 _ rfl)
       have y3 := S9.out.cell (hc 3 _ rfl)
       have y4 := S9.out.cell (hc 4 _ rfl)
       have y5 := S9.out.cell (hc 5 _ rfl)
       have y6 := S9.out.cell (hc 6 _ rfl)
       have y7 := S9.out.cell (hc 7 _ rfl)
       simp only [Nat.add_zero, pitmOf] at y0 y1 y2 y3 y4 y5 y6 y7
       clear hc hx e2 hxs
       have LB := qh (take_room itmL 71000 512 f.items k NL.out.2.1 (fun x hx => itm_room (AT.out.2.2.2 x hx).1 (AT.out.2.2.2 x hx).2.2.2.2.2.1))
       obtain ⟨pv, hpv⟩ : ∃ q, valOf x.v = q := ⟨_, rfl⟩
       have gv := fun W => value_b x.v f.types.length NL.out.1 HXS.out.2.2.2.2.1 HXS.out.2.2.2.2.2.1 HXS.out.2.2.2.2.2.2 W
       have LV := qh (any_room HXS.out.2.2.2.2.2.1)
       rw [hpv] at y4 y5 y6 y7
       simp only [hpv] at gv
       have GV := qh gv
       clear hpv gv
       go_upto_region 18 with (fail)
       have z0 := PZ.new S9.out 56 #[.string x.name, .int .u8 x.kind, .int .i64 x.type, .int .i64 x.at_, .int .u8 pv.sort, .int .i64 pv.n, .int .i64 pv.type, .string pv.text]
       generalize wr.alloc (.cells #[.string x.name, .int .u8 x.kind, .int .i64 x.type, .int .i64 x.at_, .int .u8 pv.sort, .int .i64 pv.n, .int .i64 pv.type, .string pv.text] 56) = wz at *
       generalize wr.heap.size = z at *
       have Z0 := qh z0
       have p0 := z0.2.2.cell 0
       simp only [qgaq, qgzq, qgsq] at p0
       clear z0 d3 y0 y1 y2 y3 y4 y5 y6 y7
       go_wp2_with fail
       refine (text_b x.name HXS.out.1 _).mono ?_
       rintro e n7 ⟨u7, rfl, b7, r7⟩
       obtain ⟨v7, x7, hrun, s7⟩ := PZ.num Z0.out r7 b7 (by simp only [qlaq, numL_len, text_len, four_len, tru_len]; have := RC.out; have := LB.out; have := HXS.out.1; omega)
       have S7 := qh s7
       have HRUN := qh hrun
       clear s7 hrun b7 r7 p0
       have p1 := S7.out.2.2.cell 1
       simp only [qgaq, qgzq, qgsq] at p1
       obtain ⟨v9, x9, hrun2, s9⟩ := S7.out.one x.kind HXS.out.2.1.1 HXS.out.2.1.2 (by simp only [qlaq, numL_len, text_len]; have := RC.out; have := LB.out; have := HXS.out.1; omega)
       have S91 := qh s9
       have HRUN2 := qh hrun2
       have p2 := s9.2.2.cell 2
       simp only [qgaq, qgzq, qgsq] at p2
       clear s9 hrun2
       go_wp2_with (at_builtin; first | refine wpList_append_run rfl _ _ _ rfl _ _ rfl rfl _ _ HRUN.out ?_ | refine wpList_append_run rfl _ _ _ rfl _ _ rfl rfl _ _ HRUN2.out ?_)
       clear HRUN HRUN2 p1
       refine (four_b x.type HXS.out.2.2.1 _).mono ?_
       rintro e n8 ⟨u8, rfl, b8, r8⟩
       obtain ⟨v8, x8, hrun, s8⟩ := PZ.num S91.out r8 b8 (by simp only [qlaq, numL_len, text_len, four_len, tru_len]; have := RC.out; have := LB.out; have := HXS.out.1; omega)
       have S8 := qh s8
       have HRUN := qh hrun
       clear s8 hrun b8 r8 p2
       have p3 := S8.out.2.2.cell 3
       simp only [qgaq, qgzq, qgsq] at p3
       go_wp2_with (at_builtin; refine wpList_append_run rfl _ _ _ rfl _ _ rfl rfl _ _ HRUN.out ?_)
       clear HRUN
       refine (four_b x.at_ HXS.out.2.2.2.1 _).mono ?_
       rintro e n9 ⟨u9, rfl, b9, r9⟩
       obtain ⟨v9, x9, hrun, s9⟩ := PZ.num S8.out r9 b9 (by simp only [qlaq, numL_len, text_len, four_len, tru_len]; have := RC.out; have := LB.out; have := HXS.out.1; omega)
       have S9 := qh s9
       have HRUN := qh hrun
       clear s9 hrun b9 r9 p3
       have p4 := S9.out.2.2.cell 4
       have p5 := S9.out.2.2.cell 5
       have p6 := S9.out.2.2.cell 6
       have p7 := S9.out.2.2.cell 7
       simp only [qgaq, qgzq, qgsq] at p4 p5 p6 p7
       go_wp2_with (at_builtin; refine wpList_append_run rfl _ _ _ rfl _ _ rfl rfl _ _ HRUN.out ?_)
       clear HRUN
       refine (GV.out _).mono ?_
       rintro e n10 ⟨u10, rfl, b10, r10⟩
       obtain ⟨v10, x10, hrun, s10⟩ := PZ.num S9.out r10 b10 (by simp only [qlaq, numL_len, text_len, four_len, tru_len]; have := RC.out; have := LB.out; have := HXS.out.1; have := LV.out; omega)
       have S10 := qh s10
       have HRUN := qh hrun
       clear s10 hrun b10 r10 p4 p5 p6 p7
       go_wp2_with (at_builtin; refine wpList_append_run rfl _ _ _ rfl _ _ rfl rfl _ _ HRUN.out ?_)
       clear HRUN
       have hs : PSt w0 v10 (fC f ++ (f.items.take (k + 1)).flatMap itmL) x10 := by
        rw [flat_snoc itmL HX.out, ← qapq]
        have := S10.out.1
        rw [show itmL x = textL x.name ++ numL x.kind.toNat 1 ++ fourL x.type ++ fourL x.at_ ++ anyL x.v from rfl]
        simp only [qapq] at this ⊢
        exact this
       have HS := qh hs
       clear hs
       go_roundw
       case rel => exact ⟨k + 1, by omega, by go_num, HS.out⟩
       case measure => simp [intOf]; omega
      ·obtain rfl : k = f.items.length := by omega
       have s9 := S9.out
       rw [List.take_length] at s9
       replace S9 := qh s9
       clear s9 hlt hk
       have hcv := conv_own S9.out.1 (by unfold fC fB fA textL; simp only [qlaq, numL_len]; omega)
       rw [← faceL_eq] at hcv
       rw [HBS.out] at hcv
       go_wp2_with fail
       go_ret
       exact ⟨rfl, ACC.out.trans S9.out.2⟩
theorem rmore_any (h : Nat) (hh : h < 18446744073709551616) (s : ByteArray) (hs : s.size ≤ maxLen) (w : World) :
  Calls Tryz.prog 11 #[.int .u64 (h : Int), .string s] w fun e w' => e = .returned (.int .u64 ((moreN h (natsOf s) : Nat) : Int)) ∧ w = w' := by
 unfold maxLen at hs
 go_enter Tryz.func11, Tryz.ntmps11
 go_wp2_with fail
 go_loop [0, 5] (fun t i => ∃ k : Nat, k ≤ s.size ∧ i = .int .i64 k ∧ t = .int .u64 ((moreN h ((natsOf s).take k) : Nat) : Int)) (fun _ i => s.size - (intOf i).toNat)
 case atStart => exact ⟨0, by omega, rfl, rfl⟩
 case round =>
  obtain ⟨k, hk, rfl, rfl⟩ := hrel
  by_cases hlt : k < s.size
  ·have hlti : (k : Int) < (s.size : Int) := by omega
   have ha := moreN_lt hh ((natsOf s).take k)
   have hm : moreN h ((natsOf s).take (k + 1)) = stepN (moreN h ((natsOf s).take k)) (s[k]'hlt).toNat := by
    rw [natsOf_take s k hlt, moreN_snoc]
   have hst := step_eq (moreN h ((natsOf s).take k)) (s[k]'hlt).toNat ha (s[k]'hlt).toNat_lt
   rw [← hm] at hst
   generalize hma : moreN h ((natsOf s).take k) = a at *
   generalize hmb : moreN h ((natsOf s).take (k + 1)) = b at *
   have hc0 : (0 : Int) ≤ ((s[k]'hlt).toNat : Int) := by omega
   have hc1 : ((s[k]'hlt).toNat : Int) ≤ 255 := by have := (s[k]'hlt).toNat_lt; omega
   have hmb' := hmb
   clear hma hmb hm ha
   go_wp2_with fail
   exact ⟨⟨k + 1, by omega, rfl, by rw [hmb']⟩, by show s.size - ((k + 1 : Nat) : Int).toNat < s.size - (k : Int).toNat; omega⟩
  ·have hks : k = s.size := by omega
   subst hks
   have hl : (natsOf s).take s.size = natsOf s := List.take_of_length_le (by rw [natsOf_len]; omega)
   rw [hl]
   go_wp2_with fail
   go_ret
   exact ⟨rfl, rfl⟩
theorem rof_any (s : ByteArray) (hs : s.size ≤ maxLen) (w : World) :
  Calls Tryz.prog 13 #[.string s] w fun e w' => e = .returned (.int .u64 ((ofN (moreN 14695981039346656037 (natsOf s)) : Nat) : Int)) ∧ w = w' := by
 have hm := fun w => rmore_any 14695981039346656037 (by decide) s hs w
 have hlt := moreN_lt (h := 14695981039346656037) (by decide) (natsOf s)
 generalize moreN 14695981039346656037 (natsOf s) = x at *
 go_enter Tryz.func13, Tryz.ntmps13
 go_wp2_with fail
 refine (hm _).mono ?_
 rintro e w1 ⟨rfl, rfl⟩
 have hx : bits .xor .u64 (x : Int) ((x : Int) / (4294967296 : Int)) = ((ofN x : Nat) : Int) := by
  have e : (x : Int) / (4294967296 : Int) = ((x >>> 32 : Nat) : Int) := by
   rw [Nat.shiftRight_eq_div_pow]
   omega
  rw [e, Go.bits_xor_u64_nat x (x >>> 32) hlt (by rw [Nat.shiftRight_eq_div_pow]; omega)]
  rfl
 go_wp2_with fail
 go_ret
 exact ⟨rfl, rfl⟩
theorem begin_any (w : World) : Calls Tryz.prog 17 #[] w fun e w' => e = .returned (.int .u64 14695981039346656037) ∧ w = w' := by
 go_enter Tryz.func17, Tryz.ntmps17
 go_wp2_with fail
 go_ret
 exact ⟨rfl, rfl⟩
theorem more_any (h : Nat) (hh : h < 18446744073709551616) (s : ByteArray) (hs : s.size ≤ maxLen) (w : World) :
  Calls Tryz.prog 10 #[.int .u64 (h : Int), .string s] w fun e w' => e = .returned (.int .u64 ((moreN h (natsOf s) : Nat) : Int)) ∧ w = w' := by
 unfold maxLen at hs
 go_enter Tryz.func10, Tryz.ntmps10
 go_wp2_with fail
 go_loop [0, 8] (fun t i => ∃ k : Nat, k ≤ s.size ∧ i = .int .i64 k ∧ t = .int .u64 ((moreN h ((natsOf s).take k) : Nat) : Int)) (fun _ i => s.size - (intOf i).toNat)
 case atStart => exact ⟨0, by omega, rfl, rfl⟩
 case round =>
  obtain ⟨k, hk, rfl, rfl⟩ := hrel
  by_cases hlt : k < s.size
  ·have hlti : (k : Int) < (s.size : Int) := by omega
   have ha := moreN_lt hh ((natsOf s).take k)
   have hm : moreN h ((natsOf s).take (k + 1)) = stepN (moreN h ((natsOf s).take k)) (s[k]'hlt).toNat := by
    rw [natsOf_take s k hlt, moreN_snoc]
   have hst := step_eq (moreN h ((natsOf s).take k)) (s[k]'hlt).toNat ha (s[k]'hlt).toNat_lt
   rw [← hm] at hst
   generalize hma : moreN h ((natsOf s).take k) = a at *
   generalize hmb : moreN h ((natsOf s).take (k + 1)) = b at *
   have hc0 : (0 : Int) ≤ ((s[k]'hlt).toNat : Int) := by omega
   have hc1 : ((s[k]'hlt).toNat : Int) ≤ 255 := by have := (s[k]'hlt).toNat_lt; omega
   have hmb' := hmb
   clear hma hmb hm ha
   go_wp2_with fail
   exact ⟨⟨k + 1, by omega, rfl, by rw [hmb']⟩, by show s.size - ((k + 1 : Nat) : Int).toNat < s.size - (k : Int).toNat; omega⟩
  ·have hks : k = s.size := by omega
   subst hks
   have hl : (natsOf s).take s.size = natsOf s := List.take_of_length_le (by rw [natsOf_len]; omega)
   rw [hl]
   go_wp2_with fail
   go_ret
   exact ⟨rfl, rfl⟩
theorem of_any (s : ByteArray) (hs : s.size ≤ maxLen) (w : World) :
  Calls Tryz.prog 12 #[.string s] w fun e w' => e = .returned (.int .u64 ((ofN (moreN 14695981039346656037 (natsOf s)) : Nat) : Int)) ∧ w = w' := by
 have hb := fun w => begin_any w
 have hm := fun w => more_any 14695981039346656037 (by decide) s hs w
 have hlt := moreN_lt (h := 14695981039346656037) (by decide) (natsOf s)
 generalize moreN 14695981039346656037 (natsOf s) = x at *
 go_enter Tryz.func12, Tryz.ntmps12
 go_wp2_with fail
 refine (hb _).mono ?_
 rintro e w1 ⟨rfl, rfl⟩
 go_wp2_with fail
 refine (hm _).mono ?_
 rintro e w1 ⟨rfl, rfl⟩
 have hx : bits .xor .u64 (x : Int) ((x : Int) / (4294967296 : Int)) = ((ofN x : Nat) : Int) := by
  have e : (x : Int) / (4294967296 : Int) = ((x >>> 32 : Nat) : Int) := by
   rw [Nat.shiftRight_eq_div_pow]
   omega
  rw [e, Go.bits_xor_u64_nat x (x >>> 32) hlt (by rw [Nat.shiftRight_eq_div_pow]; omega)]
  rfl
 go_wp2_with fail
 go_ret
 exact ⟨rfl, rfl⟩
def textS (k : Nat) : ByteArray := ⟨(textN k 16).toArray⟩
theorem digit_any (k : Nat) (hk : k < 18446744073709551616) (i : Nat) (hi : i < 16) (p : Nat) (w : World) (hc : w.cell? ⟨p, 0, none⟩ = some (.int .u64 (k : Int))) :
  Calls Tryz.prog 24 #[.int .i64 (i : Int), .pointer (some ⟨p, 0, none⟩)] w fun e w' => e = .returned (.string ⟨#[hexN (k / 16 ^ i % 16)]⟩) ∧ w = w' := by
 have hd : bits .and .u64 ((k : Int) / 2 ^ (4 * i)) 15 = ((k / 16 ^ i % 16 : Nat) : Int) := by
  have e1 : (2 : Nat) ^ (4 * i) = 16 ^ i := by rw [Nat.pow_mul]
  have e2 : (k : Int) / 2 ^ (4 * i) = ((k / 16 ^ i : Nat) : Int) := by
   rw [← e1, Int.natCast_ediv, Int.natCast_pow]
   try rfl
  have hq : k / 16 ^ i < 18446744073709551616 := Nat.lt_of_le_of_lt (Nat.div_le_self _ _) hk
  have e3 := Go.bits_and_u64_nat (k / 16 ^ i) 15 hq (by decide)
  rw [e2]
  refine Eq.trans e3 ?_
  have e4 := Nat.and_two_pow_sub_one_eq_mod (k / 16 ^ i) 4
  rw [show (15 : Nat) = 2 ^ 4 - 1 by decide, e4]
 have hd16 : k / 16 ^ i % 16 < 16 := Nat.mod_lt _ (by decide)
 have hs : ∀ d : Fin 16, ((⟨#[48, 49, 50, 51, 52, 53, 54, 55, 56, 57, 97, 98, 99, 100, 101, 102]⟩ : ByteArray).extract d 16).extract 0 1 = ⟨#[hexN d]⟩ := by decide +kernel
 generalize k / 16 ^ i % 16 = d at *
 have hs' := hs ⟨d, hd16⟩
 have d0 : (0 : Int) ≤ (d : Int) := by omega
 have d1 : (d : Int) ≤ 16 := by omega
 have d2 : (1 : Int) ≤ ((16 - d : Nat) : Int) := by omega
 clear hs
 go_enter Tryz.func24, Tryz.ntmps24
 go_wp2_with fail
 go_ret
 exact ⟨rfl, rfl⟩
theorem text_any (k : Nat) (hk : k < 18446744073709551616) (w : World) :
  Calls Tryz.prog 14 #[.int .u64 (k : Int)] w fun e w' => e = .returned (.string (textS k)) ∧ Wr [] w w' := by
 have hen : ∀ args w, (callFunc 24 args).run Tryz.prog w = .ok (.enter 24 args) w := fun args w => rfl
 have hmf : ∀ (fn : Fn) (first cap : Array Value) (w : World), (Instr.makeFunc fn first cap).run Tryz.prog w = .ok (.func fn first cap) w := fun _ _ _ _ => rfl
 have hc : (w.alloc (.cells #[.int .u64 (k : Int)] 22)).cell? ⟨w.heap.size, 0, none⟩ = some (.int .u64 (k : Int)) := (Blk.new w _ _).cell 0
 have hd := fun i hi => digit_any k hk i hi w.heap.size _ hc
 have acc := (Wr.refl [] w).alloc (.cells #[.int .u64 (k : Int)] 22)
 go_enter Tryz.func14, Tryz.ntmps14
 go_wp2_with fail
 generalize w.alloc (.cells #[.int .u64 (k : Int)] 22) = w0 at *
 go_loop [2, 6] (fun t i => ∃ n : Nat, n ≤ 16 ∧ i = .int .i64 n ∧ t = .string ⟨(textN k n).toArray⟩) (fun _ i => 16 - (intOf i).toNat)
 case atStart => exact ⟨0, by omega, rfl, rfl⟩
 case round =>
  obtain ⟨n, hn, rfl, rfl⟩ := hrel
  by_cases hlt : n < 16
  ·have hdn := hd n hlt
   have hlti : (n : Int) < 16 := by omega
   have hl : (⟨(textN k n).toArray⟩ : ByteArray).size = n := by
    show (textN k n).toArray.size = n
    rw [List.size_toArray, textN_len]
   clear hd hc
   go_wp2_with fail
   refine (hdn).mono ?_
   rintro e w1 ⟨rfl, rfl⟩
   go_wp2_with fail
   exact ⟨⟨n + 1, by omega, rfl, by rw [cons_str]; rfl⟩, by show 16 - ((n + 1 : Nat) : Int).toNat < 16 - (n : Int).toNat; omega⟩
  ·have hns : n = 16 := by omega
   subst hns
   go_wp2_with fail
   go_ret
   exact ⟨rfl, acc⟩
def keyN (s : ByteArray) : Nat := ofN (moreN 14695981039346656037 (natsOf s))
theorem keyIface_plain (m : ByteArray) (hm : m.size ≤ 255) (x : Array Value) (w : World)
  (hc : ∀ w', Wr [] w w' → Calls Tryz.prog 18 #[.agg x] w' fun e w2 => e = .returned (.tuple #[bareI m (.slice none 0 0), .int .i64 0]) ∧ Wr [] w' w2) (hx : ∃ a b c d, x = #[a, b, c, d]) :
  Calls Tryz.prog 6 #[.agg x] w fun e w' => e = .returned (.tuple #[.int .u64 ((keyN (encB m) : Nat) : Int), .int .i64 0]) ∧ Wr [] w w' := by
 obtain ⟨xa, xb, xc, xd, rfl⟩ := hx
 have h2 := fun w => encode_bare m hm w
 have h3 := fun w => of_any (encB m) (by rw [encB_size]; unfold maxLen; omega) w
 unfold bareI at hc
 unfold keyN
 generalize ofN (moreN 14695981039346656037 (natsOf (encB m))) = K at *
 generalize encB m = s at *
 obtain ⟨w0, hw0⟩ : ∃ w0, w.alloc (.cells #[xa, xb, xc, xd] 35) = w0 := ⟨_, rfl⟩
 obtain ⟨g, hg⟩ : ∃ g, w.heap.size = g := ⟨_, rfl⟩
 have acc : Wr [] w w0 := by rw [← hw0]; exact (Wr.refl _ _).alloc _
 have bA : Blk w0 g 35 #[xa, xb, xc, xd] := by rw [← hw0, ← hg]; exact Blk.new _ _ _
 have Hw0 := qh hw0
 have Hg := qh hg
 clear hw0 hg
 go_enter Tryz.func6, Tryz.ntmps6
 go_upto_region 1 with (fail)
 rw [Hw0.out, Hg.out]
 have c0 := bA.cell 0
 have c1 := bA.cell 1
 have c2 := bA.cell 2
 have c3 := bA.cell 3
 simp only [qgaq, qgzq, qgsq] at c0 c1 c2 c3
 have cz0 := bA.frozen 0
 have cz1 := bA.frozen 1
 have cz2 := bA.frozen 2
 have cz3 := bA.frozen 3
 go_wp2_with fail
 refine (hc _ acc).mono ?_
 rintro e w1 ⟨rfl, k1⟩
 replace acc := acc.trans k1
 clear hc
 go_wp2_with fail
 refine (h2 _).mono ?_
 rintro e w2 ⟨rfl, k2⟩
 replace acc := (acc.alloc _).trans k2
 go_wp2_with fail
 refine (h3 _).mono ?_
 rintro e w3 ⟨rfl, rfl⟩
 go_wp2_with fail
 go_ret2
 exact ⟨rfl, acc⟩
theorem keyIface_bad (x : Array Value) (en : Int) (he : en ≠ 0) (w : World)
  (hc : ∀ w', Wr [] w w' → Calls Tryz.prog 18 #[.agg x] w' fun e w2 => e = .returned (.tuple #[bareI ⟨#[]⟩ (.slice none 0 0), .int .i64 en]) ∧ Wr [] w' w2) (hx : ∃ a b c d, x = #[a, b, c, d]) :
  Calls Tryz.prog 6 #[.agg x] w fun e w' => e = .returned (.tuple #[.int .u64 0, .int .i64 en]) ∧ Wr [] w w' := by
 obtain ⟨xa, xb, xc, xd, rfl⟩ := hx
 unfold bareI at hc
 have hd : decide (en = 0) = false := by simpa using he
 obtain ⟨w0, hw0⟩ : ∃ w0, w.alloc (.cells #[xa, xb, xc, xd] 35) = w0 := ⟨_, rfl⟩
 obtain ⟨g, hg⟩ : ∃ g, w.heap.size = g := ⟨_, rfl⟩
 have acc : Wr [] w w0 := by rw [← hw0]; exact (Wr.refl _ _).alloc _
 have bA : Blk w0 g 35 #[xa, xb, xc, xd] := by rw [← hw0, ← hg]; exact Blk.new _ _ _
 have Hw0 := qh hw0
 have Hg := qh hg
 clear hw0 hg
 go_enter Tryz.func6, Tryz.ntmps6
 go_upto_region 1 with (fail)
 rw [Hw0.out, Hg.out]
 have c0 := bA.cell 0
 have c1 := bA.cell 1
 have c2 := bA.cell 2
 have c3 := bA.cell 3
 simp only [qgaq, qgzq, qgsq] at c0 c1 c2 c3
 have cz0 := bA.frozen 0
 have cz1 := bA.frozen 1
 have cz2 := bA.frozen 2
 have cz3 := bA.frozen 3
 go_wp2_with fail
 refine (hc _ acc).mono ?_
 rintro e w1 ⟨rfl, k1⟩
 replace acc := acc.trans k1
 clear hc
 go_wp2_with fail
 go_ret2
 exact ⟨rfl, acc.alloc _⟩
theorem keyIface_bare (m : ByteArray) (hm : m.size ≤ 255) (w : World) :
  Calls Tryz.prog 6 #[.agg #[.string m, .slice none 0 0, .slice none 0 0, .slice none 0 0]] w fun e w' => e = .returned (.tuple #[.int .u64 ((keyN (encB m) : Nat) : Int), .int .i64 0]) ∧ Wr [] w w' :=
 keyIface_plain m hm _ w (fun w' _ => canon_plain m none 0 0 (fun _ => True) (fun _ _ _ _ => trivial) (fun w _ => may_bare m hm w)
  (fun w _ => (clone_bare m w).mono fun e w' h => ⟨⟨none, 0, 0, h.1⟩, h.2⟩) w' trivial) ⟨_, _, _, _, rfl⟩
end Go.Proofs.YtjanbpchedgoiaaGreat
