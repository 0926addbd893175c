/- The document's Same, and law 14's: walked. No conditions. -/
import Derived.Test.YtildcdgobdfieaaGreatRD44
set_option linter.unusedVariables false
set_option linter.unusedSimpArgs false
set_option maxRecDepth 100000
set_option maxHeartbeats 32000000
namespace Go.Proofs.YtildcdgobdfieaaGreat
open Go.RowKit
theorem pitm_ext (x y : PItm) (h1 : x.name = y.name) (h2 : x.kind = y.kind) (h3 : x.type = y.type) (h4 : x.at_ = y.at_) (h5 : x.v.sort = y.v.sort) (h6 : x.v.n = y.v.n) (h7 : x.v.type = y.v.type) (h8 : x.v.text = y.v.text) : x = y := by
 obtain ⟨a1, a2, a3, a4, ⟨a5, a6, a7, a8⟩⟩ := x
 obtain ⟨d1, d2, d3, d4, ⟨d5, d6, d7, d8⟩⟩ := y
 simp only at h1 h2 h3 h4 h5 h6 h7 h8
 subst h1 h2 h3 h4 h5 h6 h7 h8
 rfl
theorem face_ext (x y : FaceP) (h1 : x.module = y.module) (h2 : x.uses = y.uses) (h3 : x.types = y.types) (h4 : x.items = y.items) : x = y := by
 cases x
 cases y
 simp only at h1 h2 h3 h4
 subst h1 h2 h3 h4
 rfl
theorem sameExport_any (x y : PItm) (w : World) : Calls Tryz.prog 69 #[.agg x.cells.toArray, .agg y.cells.toArray] w (BoolE (eqB x y) w) := by
 unfold PItm.cells
 have acc : Wr [] w ((w.alloc (.cells #[.string x.name, .int .u8 x.kind, .int .i64 x.type, .int .i64 x.at_, .int .u8 x.v.sort, .int .i64 x.v.n, .int .i64 x.v.type, .string x.v.text] 134)).alloc (.cells #[.string y.name, .int .u8 y.kind, .int .i64 y.type, .int .i64 y.at_, .int .u8 y.v.sort, .int .i64 y.v.n, .int .i64 y.v.type, .string y.v.text] 134)) := ((Wr.refl _ _).alloc _).alloc _
 have ACC := qh acc
 clear acc
 by_cases h_name : x.name = y.name
 ·have i_name : (x.name.toList == y.name.toList) = true := by rw [h_name]; exact str_eq _
  have i2_name : x.name.toList = y.name.toList := by rw [h_name]
  by_cases h_kind : x.kind = y.kind
  ·have i_kind : (x.kind == y.kind) = true := by simp [h_kind]
   by_cases h_type : x.type = y.type
   ·have i_type : (x.type == y.type) = true := by simp [h_type]
    by_cases h_at_ : x.at_ = y.at_
    ·have i_at_ : (x.at_ == y.at_) = true := by simp [h_at_]
     by_cases h_v_sort : x.v.sort = y.v.sort
     ·have i_v_sort : (x.v.sort == y.v.sort) = true := by simp [h_v_sort]
      by_cases h_v_n : x.v.n = y.v.n
      ·have i_v_n : (x.v.n == y.v.n) = true := by simp [h_v_n]
       by_cases h_v_type : x.v.type = y.v.type
       ·have i_v_type : (x.v.type == y.v.type) = true := by simp [h_v_type]
        by_cases h_v_text : x.v.text = y.v.text
        ·have i_v_text : (x.v.text.toList == y.v.text.toList) = true := by rw [h_v_text]; exact str_eq _
         have i2_v_text : x.v.text.toList = y.v.text.toList := by rw [h_v_text]
         have hres := qh (eqB_true (pitm_ext x y h_name h_kind h_type h_at_ h_v_sort h_v_n h_v_type h_v_text))
         go_in
         go_wp2_with fail
         go_ret
         exact ⟨hres.out ▸ rfl, ((Wr.refl _ _).alloc _).alloc _⟩
        ·have hres := qh (eqB_false (fun e : x = y => h_v_text (by rw [e])))
         have i_v_text : (x.v.text.toList == y.v.text.toList) = false := str_ne h_v_text
         have i2_v_text : ¬ x.v.text.toList = y.v.text.toList := by simpa using i_v_text
         go_in
         go_wp2_with fail
         go_ret
         exact ⟨hres.out ▸ rfl, ((Wr.refl _ _).alloc _).alloc _⟩
       ·have hres := qh (eqB_false (fun e : x = y => h_v_type (by rw [e])))
        have i_v_type : (x.v.type == y.v.type) = false := by simpa using h_v_type
        go_in
        go_wp2_with fail
        go_ret
        exact ⟨hres.out ▸ rfl, ((Wr.refl _ _).alloc _).alloc _⟩
      ·have hres := qh (eqB_false (fun e : x = y => h_v_n (by rw [e])))
       have i_v_n : (x.v.n == y.v.n) = false := by simpa using h_v_n
       go_in
       go_wp2_with fail
       go_ret
       exact ⟨hres.out ▸ rfl, ((Wr.refl _ _).alloc _).alloc _⟩
     ·have hres := qh (eqB_false (fun e : x = y => h_v_sort (by rw [e])))
      have i_v_sort : (x.v.sort == y.v.sort) = false := by simpa using h_v_sort
      go_in
      go_wp2_with fail
      go_ret
      exact ⟨hres.out ▸ rfl, ((Wr.refl _ _).alloc _).alloc _⟩
    ·have hres := qh (eqB_false (fun e : x = y => h_at_ (by rw [e])))
     have i_at_ : (x.at_ == y.at_) = false := by simpa using h_at_
     go_in
     go_wp2_with fail
     go_ret
     exact ⟨hres.out ▸ rfl, ((Wr.refl _ _).alloc _).alloc _⟩
   ·have hres := qh (eqB_false (fun e : x = y => h_type (by rw [e])))
    have i_type : (x.type == y.type) = false := by simpa using h_type
    go_in
    go_wp2_with fail
    go_ret
    exact ⟨hres.out ▸ rfl, ((Wr.refl _ _).alloc _).alloc _⟩
  ·have hres := qh (eqB_false (fun e : x = y => h_kind (by rw [e])))
   have i_kind : (x.kind == y.kind) = false := by simpa using h_kind
   go_in
   go_wp2_with fail
   go_ret
   exact ⟨hres.out ▸ rfl, ((Wr.refl _ _).alloc _).alloc _⟩
 ·have hres := qh (eqB_false (fun e : x = y => h_name (by rw [e])))
  have i_name : (x.name.toList == y.name.toList) = false := str_ne h_name
  have i2_name : ¬ x.name.toList = y.name.toList := by simpa using i_name
  go_in
  go_wp2_with fail
  go_ret
  exact ⟨hres.out ▸ rfl, ((Wr.refl _ _).alloc _).alloc _⟩
theorem refSame_any (x y : FaceP) (vu vt vi uu ut ui : Value) (P Q : Nat → Prop) (w : World) (hx : FacePL w P vu vt vi x) (hy : FacePL w Q uu ut ui y) :
  Calls Tryz.prog 26 #[.agg #[.string x.module, vu, vt, vi], .agg #[.string y.module, uu, ut, ui]] w (BoolE (eqB x y) w) := by
 obtain ⟨⟨A1, a1, rfl, la1, ma1⟩, ⟨A2, a2, rfl, la2, ma2⟩, ⟨A3, a3, rfl, la3, ma3⟩⟩ := hx.forms
 obtain ⟨⟨B1, b1, rfl, lb1, mb1⟩, ⟨B2, b2, rfl, lb2, mb2⟩, ⟨B3, b3, rfl, lb3, mb3⟩⟩ := hy.forms
 unfold maxLen at ma1 ma2 ma3 mb1 mb2 mb3
 obtain ⟨wa, hwa⟩ : ∃ q, w.alloc (.cells #[.string x.module, .slice A1 x.uses.length a1, .slice A2 x.types.length a2, .slice A3 x.items.length a3] 60) = q := ⟨_, rfl⟩
 obtain ⟨g, hg⟩ : ∃ q, w.heap.size = q := ⟨_, rfl⟩
 have sa : wa.heap.size = g + 1 := by rw [← hwa, qsiq, hg]
 obtain ⟨w0, hw0⟩ : ∃ q, wa.alloc (.cells #[.string y.module, .slice B1 y.uses.length b1, .slice B2 y.types.length b2, .slice B3 y.items.length b3] 60) = q := ⟨_, rfl⟩
 have ra : Wr [] w wa := by rw [← hwa]; exact (Wr.refl _ _).alloc _
 have rb : Wr [] wa w0 := by rw [← hw0]; exact (Wr.refl _ _).alloc _
 have bX : Blk w0 g 60 #[.string x.module, .slice A1 x.uses.length a1, .slice A2 x.types.length a2, .slice A3 x.items.length a3] := by
  have := (show Blk wa g 60 #[.string x.module, .slice A1 x.uses.length a1, .slice A2 x.types.length a2, .slice A3 x.items.length a3] by rw [← hwa, ← hg]; exact Blk.new _ _ _)
  exact this.wr0 rb
 have bY : Blk w0 (g + 1) 60 #[.string y.module, .slice B1 y.uses.length b1, .slice B2 y.types.length b2, .slice B3 y.items.length b3] := by rw [← hw0, ← sa]; exact Blk.new _ _ _
 have hw0' : (w.alloc (.cells #[.string x.module, .slice A1 x.uses.length a1, .slice A2 x.types.length a2, .slice A3 x.items.length a3] 60)).alloc (.cells #[.string y.module, .slice B1 y.uses.length b1, .slice B2 y.types.length b2, .slice B3 y.items.length b3] 60) = w0 := by rw [hwa, hw0]
 have acc := ra.trans rb
 have HX := qh (hx.wr0 acc)
 have HY := qh (hy.wr0 acc)
 obtain ⟨x0, x1, x2, x3⟩ := c4q bX
 obtain ⟨y0, y1, y2, y3⟩ := c4q bY
 have ACC := qh acc
 have BX := qh bX
 have BY := qh bY
 have Hw0 := qh hw0'
 have Hg := qh hg
 clear hx hy hwa hw0 hw0' hg sa ra rb acc bX bY
 go_in
 go_upto_region 1 with (fail)
 rw [Hw0.out, Hg.out]
 by_cases h_module : x.module = y.module
 ·have i_module : (x.module.toList == y.module.toList) = true := by rw [h_module]; exact str_eq _
  have H_module := qh h_module
  clear h_module
  by_cases h_uses : x.uses.length = y.uses.length
  ·have i_uses : ((x.uses.length : Int) == (y.uses.length : Int)) = true := by simp [h_uses]
   have j_uses : ((x.uses.length : Int) != (y.uses.length : Int)) = false := by simp [h_uses]
   have l_uses : y.uses.length ≤ x.uses.length := by omega
   have m_uses : x.uses.length ≤ y.uses.length := by omega
   have H_uses := qh h_uses
   clear h_uses
   by_cases h_types : x.types.length = y.types.length
   ·have i_types : ((x.types.length : Int) == (y.types.length : Int)) = true := by simp [h_types]
    have j_types : ((x.types.length : Int) != (y.types.length : Int)) = false := by simp [h_types]
    have l_types : y.types.length ≤ x.types.length := by omega
    have m_types : x.types.length ≤ y.types.length := by omega
    have H_types := qh h_types
    clear h_types
    by_cases h_items : x.items.length = y.items.length
    ·have i_items : ((x.items.length : Int) == (y.items.length : Int)) = true := by simp [h_items]
     have j_items : ((x.items.length : Int) != (y.items.length : Int)) = false := by simp [h_items]
     have l_items : y.items.length ≤ x.items.length := by omega
     have m_items : x.items.length ≤ y.items.length := by omega
     have H_items := qh h_items
     clear h_items
     go_wp2_with fail
     go_loopw [5] (fun sl wr => ∃ k : Nat, k ≤ x.uses.length ∧ sl = .int .i64 k ∧ x.uses.take k = y.uses.take k ∧ Wr [] w0 wr) (fun sl _ => x.uses.length - (intOf sl).toNat)
     case atStart => exact ⟨0, by omega, rfl, by simp, Wr.refl _ _⟩
     case round =>
      obtain ⟨k, hk, rfl, htk, rk⟩ := hrel
      have RK := qh rk
      have HTK := qh htk
      clear rk htk x0 x1 x2 x3 y0 y1 y2 y3
      have x1 := (BX.out.wr0 RK.out).cell 1
      have y1 := (BY.out.wr0 RK.out).cell 1
      have x2 := (BX.out.wr0 RK.out).cell 2
      have y2 := (BY.out.wr0 RK.out).cell 2
      have x3 := (BX.out.wr0 RK.out).cell 3
      have y3 := (BY.out.wr0 RK.out).cell 3
      simp only [qgaq, qgzq, qgsq] at x1 y1 x2 y2 x3 y3
      by_cases hlt : k < x.uses.length
      ·obtain ⟨u, hu⟩ : ∃ u, x.uses[k]? = some u := ⟨_, qgeq hlt⟩
       obtain ⟨v, hv⟩ : ∃ v, y.uses[k]? = some v := ⟨_, qgeq (by omega)⟩
       have h0 : (0 : Int) ≤ (k : Int) := by omega
       have h1k : (k : Int) < (x.uses.length : Int) := by omega
       have h2k : (k : Int) < (y.uses.length : Int) := by omega
       obtain ⟨p1, o1, c1', e1, _, hc1⟩ := useF_at (Sl.wr0 HX.out.uses RK.out) hu
       obtain ⟨p2, o2, c2', e2, _, hc2⟩ := useF_at (Sl.wr0 HY.out.uses RK.out) hv
       injection e1 with e11 _ e12
       injection e2 with e21 _ e22
       subst e11 e12 e21 e22
       have u0 := hc1 0 _ rfl
       have u1 := hc1 1 _ rfl
       have v0 := hc2 0 _ rfl
       have v1 := hc2 1 _ rfl
       simp only [Nat.add_zero] at u0 v0
       clear hc1 hc2
       by_cases h_module : u.module = v.module
       ·have i_module : (u.module.toList == v.module.toList) = true := by rw [h_module]; exact str_eq _
        have i2_module : u.module.toList = v.module.toList := by rw [h_module]
        by_cases h_key : u.key = v.key
        ·have i_key : (u.key == v.key) = true := by simp [h_key]
         have huv : u = v := by obtain ⟨q1, q2⟩ := u; obtain ⟨d1, d2⟩ := v; simp only at h_module h_key; subst h_module h_key; rfl
         have hnx := qh (same_next (x := u) HTK.out hu (by rw [huv]; exact hv))
         clear hu hv huv
         go_wp2_with fail
         go_quiet (fail)
         go_wp2_with fail
         go_roundw
         case rel => exact ⟨k + 1, by omega, by go_num, hnx.out, RK.out.trans ((Wr.refl _ _).drewN _)⟩
         case measure => simp [intOf]; omega
        ·have hne : u ≠ v := fun e => h_key (by rw [e])
         have i_key : (u.key == v.key) = false := by simpa using h_key
         have hres := qh (eqB_false (fun e : x = y => ne_at hu hv hne (congrArg FaceP.uses e)))
         clear hu hv hne
         go_wp2_with fail
         go_quiet (fail)
         go_wp2_with fail
         go_ret
         exact ⟨hres.out ▸ rfl, ACC.out.trans (RK.out.trans ((Wr.refl _ _).drewN _))⟩
       ·have hne : u ≠ v := fun e => h_module (by rw [e])
        have i_module : (u.module.toList == v.module.toList) = false := str_ne h_module
        have i2_module : ¬ u.module.toList = v.module.toList := by simpa using i_module
        have hres := qh (eqB_false (fun e : x = y => ne_at hu hv hne (congrArg FaceP.uses e)))
        clear hu hv hne
        go_wp2_with fail
        go_quiet (fail)
        go_wp2_with fail
        go_ret
        exact ⟨hres.out ▸ rfl, ACC.out.trans (RK.out.trans ((Wr.refl _ _).drewN _))⟩
      ·obtain rfl : k = x.uses.length := by omega
       have H_us := qh (take_full H_uses.out HTK.out)
       have R1 := qh RK.out
       go_wp2_with fail
       go_loopw [6] (fun sl wr => ∃ k : Nat, k ≤ x.types.length ∧ sl = .int .i64 k ∧ x.types.take k = y.types.take k ∧ Wr [] w0 wr) (fun sl _ => x.types.length - (intOf sl).toNat)
       case atStart => exact ⟨0, by omega, rfl, by simp, R1.out⟩
       case round =>
        obtain ⟨k, hk, rfl, htk, rk⟩ := hrel
        have RK := qh rk
        have HTK := qh htk
        clear rk htk x1 x2 x3 y1 y2 y3
        have x1 := (BX.out.wr0 RK.out).cell 1
        have y1 := (BY.out.wr0 RK.out).cell 1
        have x2 := (BX.out.wr0 RK.out).cell 2
        have y2 := (BY.out.wr0 RK.out).cell 2
        have x3 := (BX.out.wr0 RK.out).cell 3
        have y3 := (BY.out.wr0 RK.out).cell 3
        simp only [qgaq, qgzq, qgsq] at x1 y1 x2 y2 x3 y3
        by_cases hlt : k < x.types.length
        ·obtain ⟨u, hu⟩ : ∃ u, x.types[k]? = some u := ⟨_, qgeq hlt⟩
         obtain ⟨v, hv⟩ : ∃ v, y.types[k]? = some v := ⟨_, qgeq (by omega)⟩
         have h0 : (0 : Int) ≤ (k : Int) := by omega
         have h1k : (k : Int) < (x.types.length : Int) := by omega
         have h2k : (k : Int) < (y.types.length : Int) := by omega
         obtain ⟨p1, o1, c1', un, uf, ua, up, e1, _, hc1, hl1⟩ := ty_at (HX.out.types.wr0 RK.out) hu
         injection e1 with e11 _ e12
         subst e11 e12
         obtain ⟨⟨U1, uq1, rfl, _, _⟩, ⟨U2, uq2, rfl, _, _⟩, ⟨U3, uq3, rfl, _, _⟩, ⟨U4, uq4, rfl, _, _⟩⟩ := hl1.forms
         have u0 := hc1 0 _ rfl
         have u1 := hc1 1 _ rfl
         have u2 := hc1 2 _ rfl
         have u3 := hc1 3 _ rfl
         have u4 := hc1 4 _ rfl
         have u5 := hc1 5 _ rfl
         have u6 := hc1 6 _ rfl
         have u7 := hc1 7 _ rfl
         have u8 := hc1 8 _ rfl
         have u9 := hc1 9 _ rfl
         have u10 := hc1 10 _ rfl
         have u11 := hc1 11 _ rfl
         simp only [Nat.add_zero] at u0
         obtain ⟨p2, o2, c2', vn, vf, va, vp, e2, _, hc2, hl2⟩ := ty_at (HY.out.types.wr0 RK.out) hv
         injection e2 with e21 _ e22
         subst e21 e22
         obtain ⟨⟨V1, vq1, rfl, _, _⟩, ⟨V2, vq2, rfl, _, _⟩, ⟨V3, vq3, rfl, _, _⟩, ⟨V4, vq4, rfl, _, _⟩⟩ := hl2.forms
         have v0 := hc2 0 _ rfl
         have v1 := hc2 1 _ rfl
         have v2 := hc2 2 _ rfl
         have v3 := hc2 3 _ rfl
         have v4 := hc2 4 _ rfl
         have v5 := hc2 5 _ rfl
         have v6 := hc2 6 _ rfl
         have v7 := hc2 7 _ rfl
         have v8 := hc2 8 _ rfl
         have v9 := hc2 9 _ rfl
         have v10 := hc2 10 _ rfl
         have v11 := hc2 11 _ rfl
         simp only [Nat.add_zero] at v0
         clear hc1 hc2
         obtain ⟨r, hr⟩ : ∃ r, eqB u v = r := ⟨_, rfl⟩
         have hsame := sameType_any u v _ _ _ _ _ _ _ _ _ _ wr.drew (hl1.keep (Wr.refl [] wr).drew (fun _ _ => by simp)) (hl2.keep (Wr.refl [] wr).drew (fun _ _ => by simp))
         simp only [Ty.cells] at hsame
         clear hl1 hl2
         rw [hr] at hsame
         have HSAME := qh hsame
         have HR := qh hr
         have HU := qh hu
         have HV := qh hv
         clear hsame hr hu hv
         go_wp2_with fail
         go_still_tail 10, (by kernel_rfl)
         change wpList _ _ _ _ _ wr.drew
         have hsd := HSAME.out
         have rkd := qh (RK.out.drew)
         generalize wr.drew = wd at *
         have HSD := qh hsd
         clear hsd
         go_wp2_with fail
         refine HSD.out.mono ?_
         rintro e w2 ⟨rfl, r2⟩
         cases r with
         | true =>
          have huv := eqB_iff.1 HR.out
          have hnx := qh (same_next (x := u) HTK.out HU.out (by rw [huv]; exact HV.out))
          have RN := qh (rkd.out.trans r2)
          clear huv r2
          go_wp2_with fail
          go_roundw
          case rel => exact ⟨k + 1, by omega, by go_num, hnx.out, RN.out⟩
          case measure => simp [intOf]; omega
         | false =>
          have hne : u ≠ v := fun e => by have := HR.out; rw [eqB_true e] at this; cases this
          have hres := qh (eqB_false (fun e : x = y => ne_at HU.out HV.out hne (congrArg FaceP.types e)))
          have RN := qh (rkd.out.trans r2)
          clear hne r2
          go_wp2_with fail
          go_ret
          exact ⟨hres.out ▸ rfl, ACC.out.trans RN.out⟩
        ·obtain rfl : k = x.types.length := by omega
         have H_ty := qh (take_full H_types.out HTK.out)
         have R2 := qh RK.out
         go_wp2_with fail
         go_loopw [7] (fun sl wr => ∃ k : Nat, k ≤ x.items.length ∧ sl = .int .i64 k ∧ x.items.take k = y.items.take k ∧ Wr [] w0 wr) (fun sl _ => x.items.length - (intOf sl).toNat)
         case atStart => exact ⟨0, by omega, rfl, by simp, R2.out⟩
         case round =>
          obtain ⟨k, hk, rfl, htk, rk⟩ := hrel
          have RK := qh rk
          have HTK := qh htk
          clear rk htk x1 x2 x3 y1 y2 y3
          have x1 := (BX.out.wr0 RK.out).cell 1
          have y1 := (BY.out.wr0 RK.out).cell 1
          have x2 := (BX.out.wr0 RK.out).cell 2
          have y2 := (BY.out.wr0 RK.out).cell 2
          have x3 := (BX.out.wr0 RK.out).cell 3
          have y3 := (BY.out.wr0 RK.out).cell 3
          simp only [qgaq, qgzq, qgsq] at x1 y1 x2 y2 x3 y3
          by_cases hlt : k < x.items.length
          ·obtain ⟨u, hu⟩ : ∃ u, x.items[k]? = some u := ⟨_, qgeq hlt⟩
           obtain ⟨v, hv⟩ : ∃ v, y.items[k]? = some v := ⟨_, qgeq (by omega)⟩
           have h0 : (0 : Int) ≤ (k : Int) := by omega
           have h1k : (k : Int) < (x.items.length : Int) := by omega
           have h2k : (k : Int) < (y.items.length : Int) := by omega
           obtain ⟨p1, o1, c1', e1, _, hc1⟩ := pitm_at (Sl.wr0 HX.out.items RK.out) hu
           injection e1 with e11 _ e12
           subst e11 e12
           have u0 := hc1 0 _ rfl
           have u1 := hc1 1 _ rfl
           have u2 := hc1 2 _ rfl
           have u3 := hc1 3 _ rfl
           have u4 := hc1 4 _ rfl
           have u5 := hc1 5 _ rfl
           have u6 := hc1 6 _ rfl
           have u7 := hc1 7 _ rfl
           simp only [Nat.add_zero] at u0
           obtain ⟨p2, o2, c2', e2, _, hc2⟩ := pitm_at (Sl.wr0 HY.out.items RK.out) hv
           injection e2 with e21 _ e22
           subst e21 e22
           have v0 := hc2 0 _ rfl
           have v1 := hc2 1 _ rfl
           have v2 := hc2 2 _ rfl
           have v3 := hc2 3 _ rfl
           have v4 := hc2 4 _ rfl
           have v5 := hc2 5 _ rfl
           have v6 := hc2 6 _ rfl
           have v7 := hc2 7 _ rfl
           simp only [Nat.add_zero] at v0
           clear hc1 hc2
           obtain ⟨r, hr⟩ : ∃ r, eqB u v = r := ⟨_, rfl⟩
           have hsame := sameExport_any u v wr.drew
           simp only [PItm.cells] at hsame
           rw [hr] at hsame
           have HSAME := qh hsame
           have HR := qh hr
           have HU := qh hu
           have HV := qh hv
           clear hsame hr hu hv
           go_wp2_with fail
           go_still_tail 10, (by kernel_rfl)
           change wpList _ _ _ _ _ wr.drew
           have hsd := HSAME.out
           have rkd := qh (RK.out.drew)
           generalize wr.drew = wd at *
           have HSD := qh hsd
           clear hsd
           go_wp2_with fail
           refine HSD.out.mono ?_
           rintro e w2 ⟨rfl, r2⟩
           cases r with
           | true =>
            have huv := eqB_iff.1 HR.out
            have hnx := qh (same_next (x := u) HTK.out HU.out (by rw [huv]; exact HV.out))
            have RN := qh (rkd.out.trans r2)
            clear huv r2
            go_wp2_with fail
            go_roundw
            case rel => exact ⟨k + 1, by omega, by go_num, hnx.out, RN.out⟩
            case measure => simp [intOf]; omega
           | false =>
            have hne : u ≠ v := fun e => by have := HR.out; rw [eqB_true e] at this; cases this
            have hres := qh (eqB_false (fun e : x = y => ne_at HU.out HV.out hne (congrArg FaceP.items e)))
            have RN := qh (rkd.out.trans r2)
            clear hne r2
            go_wp2_with fail
            go_ret
            exact ⟨hres.out ▸ rfl, ACC.out.trans RN.out⟩
          ·obtain rfl : k = x.items.length := by omega
           have H_it := qh (take_full H_items.out HTK.out)
           have R3 := qh RK.out
           have hres := qh (eqB_true (face_ext x y H_module.out H_us.out H_ty.out H_it.out))
           go_wp2_with fail
           go_ret
           exact ⟨hres.out ▸ rfl, ACC.out.trans R3.out⟩
    ·have i_items : ((x.items.length : Int) == (y.items.length : Int)) = false := by simpa using (by omega : ¬ (x.items.length : Int) = (y.items.length : Int))
     have j_items : ((x.items.length : Int) != (y.items.length : Int)) = true := by simpa using (by omega : ¬ (x.items.length : Int) = (y.items.length : Int))
     have k_items : ¬ x.items.length = y.items.length := h_items
     have hres := qh (eqB_false (fun e : x = y => h_items (by rw [e])))
     clear h_items
     go_wp2_with fail
     go_ret
     exact ⟨hres.out ▸ rfl, ACC.out⟩
   ·have i_types : ((x.types.length : Int) == (y.types.length : Int)) = false := by simpa using (by omega : ¬ (x.types.length : Int) = (y.types.length : Int))
    have j_types : ((x.types.length : Int) != (y.types.length : Int)) = true := by simpa using (by omega : ¬ (x.types.length : Int) = (y.types.length : Int))
    have k_types : ¬ x.types.length = y.types.length := h_types
    have hres := qh (eqB_false (fun e : x = y => h_types (by rw [e])))
    clear h_types
    go_wp2_with fail
    go_ret
    exact ⟨hres.out ▸ rfl, ACC.out⟩
  ·have i_uses : ((x.uses.length : Int) == (y.uses.length : Int)) = false := by simpa using (by omega : ¬ (x.uses.length : Int) = (y.uses.length : Int))
   have j_uses : ((x.uses.length : Int) != (y.uses.length : Int)) = true := by simpa using (by omega : ¬ (x.uses.length : Int) = (y.uses.length : Int))
   have k_uses : ¬ x.uses.length = y.uses.length := h_uses
   have hres := qh (eqB_false (fun e : x = y => h_uses (by rw [e])))
   clear h_uses
   go_wp2_with fail
   go_ret
   exact ⟨hres.out ▸ rfl, ACC.out⟩
 ·have i_module : (x.module.toList == y.module.toList) = false := str_ne h_module
  have hres := qh (eqB_false (fun e : x = y => h_module (by rw [e])))
  clear h_module
  go_wp2_with fail
  go_ret
  exact ⟨hres.out ▸ rfl, ACC.out⟩
end Go.Proofs.YtildcdgobdfieaaGreat
