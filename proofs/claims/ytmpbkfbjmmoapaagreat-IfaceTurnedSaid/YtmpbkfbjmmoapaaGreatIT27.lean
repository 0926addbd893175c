/- The document's SameType: walked. No conditions. -/
import Derived.Test.YtmpbkfbjmmoapaaGreatIT01
import Derived.Test.YtmpbkfbjmmoapaaGreatIT26
namespace Go.Proofs.YtmpbkfbjmmoapaaGreat
open Go.RowKit
set_option linter.unusedVariables false
set_option linter.unusedSimpArgs false
theorem ty_ext (x y : Ty) (h1 : x.kind = y.kind) (h2 : x.module = y.module) (h3 : x.name = y.name) (h4 : x.base = y.base) (h5 : x.index = y.index) (h6 : x.low = y.low) (h7 : x.high = y.high) (h8 : x.names = y.names) (h9 : x.fields = y.fields) (h10 : x.arms = y.arms) (h11 : x.params = y.params) (h12 : x.result = y.result) : x = y := by
 cases x
 cases y
 simp only at h1 h2 h3 h4 h5 h6 h7 h8 h9 h10 h11 h12
 subst h1 h2 h3 h4 h5 h6 h7 h8 h9 h10 h11 h12
 rfl
def BoolE (r : Bool) (w : World) (e : Ending) (w' : World) : Prop := e = .returned (.bool r) ∧ Wr [] w w'
set_option maxRecDepth 100000 in
set_option maxHeartbeats 16000000 in
theorem sameType_any (x y : Ty) (vn vf va vp un uf ua up : Value) (P Q : Nat → Prop) (w : World) (hx : Lists w P vn vf va vp x) (hy : Lists w Q un uf ua up y) :
  Calls Tryz.prog 45 #[.agg (x.cells vn vf va vp).toArray, .agg (y.cells un uf ua up).toArray] w (BoolE (eqB x y) w) := by
 unfold Ty.cells
 obtain ⟨⟨A1, a1, rfl, la1, ma1⟩, ⟨A2, a2, rfl, la2, ma2⟩, ⟨A3, a3, rfl, la3, ma3⟩, ⟨A4, a4, rfl, la4, ma4⟩⟩ := hx.forms
 obtain ⟨⟨B1, b1, rfl, lb1, mb1⟩, ⟨B2, b2, rfl, lb2, mb2⟩, ⟨B3, b3, rfl, lb3, mb3⟩, ⟨B4, b4, rfl, lb4, mb4⟩⟩ := hy.forms
 unfold maxLen at ma1 ma2 ma3 ma4 mb1 mb2 mb3 mb4
 obtain ⟨wa, hwa⟩ : ∃ q, w.alloc (.cells #[.int .u8 x.kind, .string x.module, .string x.name, .int .i64 x.base, .int .i64 x.index, .int .i64 x.low, .int .i64 x.high, .slice A1 x.names.length a1, .slice A2 x.fields.length a2, .slice A3 x.arms.length a3, .slice A4 x.params.length a4, .int .i64 x.result] 50) = q := ⟨_, rfl⟩
 obtain ⟨g, hg⟩ : ∃ q, w.heap.size = q := ⟨_, rfl⟩
 have sa : wa.heap.size = g + 1 := by rw [← hwa, World.size_alloc, hg]
 obtain ⟨w0, hw0⟩ : ∃ q, wa.alloc (.cells #[.int .u8 y.kind, .string y.module, .string y.name, .int .i64 y.base, .int .i64 y.index, .int .i64 y.low, .int .i64 y.high, .slice B1 y.names.length b1, .slice B2 y.fields.length b2, .slice B3 y.arms.length b3, .slice B4 y.params.length b4, .int .i64 y.result] 50) = q := ⟨_, rfl⟩
 have ra : Wr [] w wa := by rw [← hwa]; exact (Wr.refl _ _).alloc _
 have rb : Wr [] wa w0 := by rw [← hw0]; exact (Wr.refl _ _).alloc _
 have bX : Blk w0 g 50 #[.int .u8 x.kind, .string x.module, .string x.name, .int .i64 x.base, .int .i64 x.index, .int .i64 x.low, .int .i64 x.high, .slice A1 x.names.length a1, .slice A2 x.fields.length a2, .slice A3 x.arms.length a3, .slice A4 x.params.length a4, .int .i64 x.result] := by
  have := (show Blk wa g 50 #[.int .u8 x.kind, .string x.module, .string x.name, .int .i64 x.base, .int .i64 x.index, .int .i64 x.low, .int .i64 x.high, .slice A1 x.names.length a1, .slice A2 x.fields.length a2, .slice A3 x.arms.length a3, .slice A4 x.params.length a4, .int .i64 x.result] by rw [← hwa, ← hg]; exact Blk.new _ _ _)
  exact this.wr0 rb
 have bY : Blk w0 (g + 1) 50 #[.int .u8 y.kind, .string y.module, .string y.name, .int .i64 y.base, .int .i64 y.index, .int .i64 y.low, .int .i64 y.high, .slice B1 y.names.length b1, .slice B2 y.fields.length b2, .slice B3 y.arms.length b3, .slice B4 y.params.length b4, .int .i64 y.result] := by rw [← hw0, ← sa]; exact Blk.new _ _ _
 have hw0' : (w.alloc (.cells #[.int .u8 x.kind, .string x.module, .string x.name, .int .i64 x.base, .int .i64 x.index, .int .i64 x.low, .int .i64 x.high, .slice A1 x.names.length a1, .slice A2 x.fields.length a2, .slice A3 x.arms.length a3, .slice A4 x.params.length a4, .int .i64 x.result] 50)).alloc (.cells #[.int .u8 y.kind, .string y.module, .string y.name, .int .i64 y.base, .int .i64 y.index, .int .i64 y.low, .int .i64 y.high, .slice B1 y.names.length b1, .slice B2 y.fields.length b2, .slice B3 y.arms.length b3, .slice B4 y.params.length b4, .int .i64 y.result] 50) = w0 := by rw [hwa, hw0]
 have acc := ra.trans rb
 have HX := Lib.hid (hx.wr0 acc)
 have HY := Lib.hid (hy.wr0 acc)
 have x0 := bX.cell 0
 have y0 := bY.cell 0
 have x1 := bX.cell 1
 have y1 := bY.cell 1
 have x2 := bX.cell 2
 have y2 := bY.cell 2
 have x3 := bX.cell 3
 have y3 := bY.cell 3
 have x4 := bX.cell 4
 have y4 := bY.cell 4
 have x5 := bX.cell 5
 have y5 := bY.cell 5
 have x6 := bX.cell 6
 have y6 := bY.cell 6
 have x7 := bX.cell 7
 have y7 := bY.cell 7
 have x8 := bX.cell 8
 have y8 := bY.cell 8
 have x9 := bX.cell 9
 have y9 := bY.cell 9
 have x10 := bX.cell 10
 have y10 := bY.cell 10
 have x11 := bX.cell 11
 have y11 := bY.cell 11
 simp only [qgaq, qgzq, qgsq] at x0 y0 x1 y1 x2 y2 x3 y3 x4 y4 x5 y5 x6 y6 x7 y7 x8 y8 x9 y9 x10 y10 x11 y11
 have ACC := Lib.hid acc
 have BX := Lib.hid bX
 have BY := Lib.hid bY
 have Hw0 := Lib.hid hw0'
 have Hg := Lib.hid hg
 clear hx hy hwa hw0 hw0' hg sa ra rb acc bX bY
 go_enter Tryz.func45, Tryz.ntmps45
 go_upto_region 1 with (fail)
 rw [Hw0.out, Hg.out]
 by_cases h_kind : x.kind = y.kind
 ·have i_kind : (x.kind == y.kind) = true := by simp [h_kind]
  have j_kind : (x.kind != y.kind) = false := by simp [h_kind]
  have H_kind := Lib.hid h_kind
  clear h_kind
  by_cases h_module : x.module = y.module
  ·have i_module : (x.module.toList == y.module.toList) = true := by rw [h_module]; exact str_eq _
   have H_module := Lib.hid h_module
   clear h_module
   by_cases h_name : x.name = y.name
   ·have i_name : (x.name.toList == y.name.toList) = true := by rw [h_name]; exact str_eq _
    have H_name := Lib.hid h_name
    clear h_name
    by_cases h_base : x.base = y.base
    ·have i_base : (x.base == y.base) = true := by simp [h_base]
     have j_base : (x.base != y.base) = false := by simp [h_base]
     have H_base := Lib.hid h_base
     clear h_base
     by_cases h_index : x.index = y.index
     ·have i_index : (x.index == y.index) = true := by simp [h_index]
      have j_index : (x.index != y.index) = false := by simp [h_index]
      have H_index := Lib.hid h_index
      clear h_index
      by_cases h_low : x.low = y.low
      ·have i_low : (x.low == y.low) = true := by simp [h_low]
       have j_low : (x.low != y.low) = false := by simp [h_low]
       have H_low := Lib.hid h_low
       clear h_low
       by_cases h_high : x.high = y.high
       ·have i_high : (x.high == y.high) = true := by simp [h_high]
        have j_high : (x.high != y.high) = false := by simp [h_high]
        have H_high := Lib.hid h_high
        clear h_high
        by_cases h_result : x.result = y.result
        ·have i_result : (x.result == y.result) = true := by simp [h_result]
         have j_result : (x.result != y.result) = false := by simp [h_result]
         have H_result := Lib.hid h_result
         clear h_result
         by_cases h_names : x.names.length = y.names.length
         ·have i_names : ((x.names.length : Int) == (y.names.length : Int)) = true := by simp [h_names]
          have j_names : ((x.names.length : Int) != (y.names.length : Int)) = false := by simp [h_names]
          have l_names : y.names.length ≤ x.names.length := by omega
          have m_names : x.names.length ≤ y.names.length := by omega
          have H_names := Lib.hid h_names
          clear h_names
          by_cases h_fields : x.fields.length = y.fields.length
          ·have i_fields : ((x.fields.length : Int) == (y.fields.length : Int)) = true := by simp [h_fields]
           have j_fields : ((x.fields.length : Int) != (y.fields.length : Int)) = false := by simp [h_fields]
           have l_fields : y.fields.length ≤ x.fields.length := by omega
           have m_fields : x.fields.length ≤ y.fields.length := by omega
           have H_fields := Lib.hid h_fields
           clear h_fields
           by_cases h_params : x.params.length = y.params.length
           ·have i_params : ((x.params.length : Int) == (y.params.length : Int)) = true := by simp [h_params]
            have j_params : ((x.params.length : Int) != (y.params.length : Int)) = false := by simp [h_params]
            have l_params : y.params.length ≤ x.params.length := by omega
            have m_params : x.params.length ≤ y.params.length := by omega
            have H_params := Lib.hid h_params
            clear h_params
            obtain ⟨ra, hra⟩ : ∃ r, eqB x.arms y.arms = r := ⟨_, rfl⟩
            have harm := fun W (hW : Wr [] w0 W) => arms_any x.arms y.arms _ _ _ _ W (SlArms.keep HX.out.arms hW (fun _ _ => by simp)) (SlArms.keep HY.out.arms hW (fun _ _ => by simp))
            rw [hra] at harm
            have HARM := Lib.hid (harm w0 (Wr.refl _ _))
            clear harm
            go_upto_region 3 with (fail)
            go_wp2_with fail
            refine HARM.out.mono ?_
            rintro e w1 ⟨rfl, n1, rfl⟩
            have R1 := Lib.hid ((Wr.refl [] w0).drewN n1)
            cases ra with
            | false =>
             have h_arms : ¬ x.arms = y.arms := fun e => by rw [eqB_true e] at hra; cases hra
             have hres := Lib.hid (eqB_false (fun e : x = y => h_arms (by rw [e])))
             clear h_arms hra
             go_wp2_with fail
             go_ret
             exact ⟨hres.out ▸ rfl, ACC.out.trans R1.out⟩
            | true =>
            have H_arms := Lib.hid (eqB_iff.1 hra)
            clear hra
            go_wp2_with fail
            go_loopw [5] (fun sl wr => ∃ k : Nat, k ≤ x.names.length ∧ sl = .int .i64 k ∧ x.names.take k = y.names.take k ∧ Wr [] w0 wr) (fun sl _ => x.names.length - (intOf sl).toNat)
            case atStart => exact ⟨0, by omega, rfl, by simp, R1.out⟩
            case round =>
             obtain ⟨k, hk, rfl, htk, rk⟩ := hrel
             have RK := Lib.hid rk
             have HTK := Lib.hid htk
             clear rk htk
             clear x7 y7 x8 y8 x10 y10
             have x7 := (BX.out.wr0 RK.out).cell 7
             have y7 := (BY.out.wr0 RK.out).cell 7
             have x8 := (BX.out.wr0 RK.out).cell 8
             have y8 := (BY.out.wr0 RK.out).cell 8
             have x10 := (BX.out.wr0 RK.out).cell 10
             have y10 := (BY.out.wr0 RK.out).cell 10
             simp only [qgaq, qgzq, qgsq] at x7 y7 x8 y8 x10 y10
             by_cases hlt : k < x.names.length
             ·obtain ⟨u, hu⟩ : ∃ u, x.names[k]? = some u := ⟨_, List.getElem?_eq_getElem hlt⟩
              obtain ⟨v, hv⟩ : ∃ v, y.names[k]? = some v := ⟨_, List.getElem?_eq_getElem (by omega)⟩
              obtain ⟨p1, o1, c1', e1, _, _, _, hc1⟩ := Sl.at_ (Sl.wr0 HX.out.names RK.out) (j := k) (u := .string u) (by rw [List.getElem?_map, hu]; rfl)
              obtain ⟨p2, o2, c2', e2, _, _, _, hc2⟩ := Sl.at_ (Sl.wr0 HY.out.names RK.out) (j := k) (u := .string v) (by rw [List.getElem?_map, hv]; rfl)
              injection e1 with e11 _ e12
              injection e2 with e21 _ e22
              subst e11 e12 e21 e22
              have h0 : (0 : Int) ≤ (k : Int) := by omega
              have h1k : (k : Int) < (x.names.length : Int) := by omega
              have h2k : (k : Int) < (y.names.length : Int) := by omega
              by_cases hne : u = v
              ·subst hne
               have hs := str_eq u
               have hnx := Lib.hid (same_next HTK.out hu hv)
               clear hu hv
               go_wp2_with fail
               go_quiet (fail)
               go_wp2_with fail
               go_roundw
               case rel => exact ⟨k + 1, by omega, by go_num, hnx.out, RK.out.trans ((Wr.refl _ _).drewN _)⟩
               case measure => simp [intOf]; omega
              ·have hres := Lib.hid (eqB_false (fun e : x = y => ne_at hu hv hne (congrArg Ty.names e)))
               clear hu hv
               have hs := str_ne hne
               go_wp2_with fail
               go_quiet (fail)
               go_wp2_with fail
               go_ret
               exact ⟨hres.out ▸ rfl, ACC.out.trans (RK.out.trans ((Wr.refl _ _).drewN _))⟩
             ·obtain rfl : k = x.names.length := by omega
              have H_nm := Lib.hid (take_full H_names.out HTK.out)
              have R2 := Lib.hid RK.out
              go_wp2_with fail
              go_loopw [6] (fun sl wr => ∃ k : Nat, k ≤ x.fields.length ∧ sl = .int .i64 k ∧ x.fields.take k = y.fields.take k ∧ Wr [] w0 wr) (fun sl _ => x.fields.length - (intOf sl).toNat)
              case atStart => exact ⟨0, by omega, rfl, by simp, R2.out⟩
              case round =>
               obtain ⟨k, hk, rfl, htk, rk⟩ := hrel
               have RK := Lib.hid rk
               have HTK := Lib.hid htk
               clear rk htk
               clear x7 y7 x8 y8 x10 y10
               have x7 := (BX.out.wr0 RK.out).cell 7
               have y7 := (BY.out.wr0 RK.out).cell 7
               have x8 := (BX.out.wr0 RK.out).cell 8
               have y8 := (BY.out.wr0 RK.out).cell 8
               have x10 := (BX.out.wr0 RK.out).cell 10
               have y10 := (BY.out.wr0 RK.out).cell 10
               simp only [qgaq, qgzq, qgsq] at x7 y7 x8 y8 x10 y10
               by_cases hlt : k < x.fields.length
               ·obtain ⟨u, hu⟩ : ∃ u, x.fields[k]? = some u := ⟨_, List.getElem?_eq_getElem hlt⟩
                obtain ⟨v, hv⟩ : ∃ v, y.fields[k]? = some v := ⟨_, List.getElem?_eq_getElem (by omega)⟩
                obtain ⟨p1, o1, c1', e1, _, hc1⟩ := fld_at' (Sl.wr0 HX.out.fields RK.out) hu
                obtain ⟨p2, o2, c2', e2, _, hc2⟩ := fld_at' (Sl.wr0 HY.out.fields RK.out) hv
                injection e1 with e11 _ e12
                injection e2 with e21 _ e22
                subst e11 e12 e21 e22
                have u0 := hc1 0 _ rfl
                have v0 := hc2 0 _ rfl
                have u1 := hc1 1 _ rfl
                have v1 := hc2 1 _ rfl
                have u2 := hc1 2 _ rfl
                have v2 := hc2 2 _ rfl
                simp only [Nat.add_zero] at u0 v0
                clear hc1 hc2
                have h0 : (0 : Int) ≤ (k : Int) := by omega
                have h1k : (k : Int) < (x.fields.length : Int) := by omega
                have h2k : (k : Int) < (y.fields.length : Int) := by omega
                by_cases h_name : u.name = v.name
                ·have i_name : (u.name.toList == v.name.toList) = true := by rw [h_name]; exact str_eq _
                 have i2_name : u.name.toList = v.name.toList := by rw [h_name]
                 by_cases h_type : u.type = v.type
                 ·have i_type : (u.type == v.type) = true := by simp [h_type]
                  by_cases h_arm : u.arm = v.arm
                  ·have i_arm : (u.arm == v.arm) = true := by simp [h_arm]
                   have huv : u = v := by obtain ⟨a0, a1, a2⟩ := u; obtain ⟨d0, d1, d2⟩ := v; simp only at h_name h_type h_arm; subst h_name h_type h_arm; rfl
                   have hnx := Lib.hid (same_next (x := u) HTK.out hu (by rw [huv]; exact hv))
                   clear hu hv huv
                   go_wp2_with fail
                   go_quiet (fail)
                   go_wp2_with fail
                   go_roundw
                   case rel => exact ⟨k + 1, by omega, by go_num, hnx.out, RK.out.trans ((Wr.refl _ _).drewN _)⟩
                   case measure => simp [intOf]; omega
                  ·have hne : u ≠ v := fun e => h_arm (by rw [e])
                   have i_arm : (u.arm == v.arm) = false := by simpa using h_arm
                   have hres := Lib.hid (eqB_false (fun e : x = y => ne_at hu hv hne (congrArg Ty.fields e)))
                   clear hu hv
                   clear hne
                   go_wp2_with fail
                   go_quiet (fail)
                   go_wp2_with fail
                   go_ret
                   exact ⟨hres.out ▸ rfl, ACC.out.trans (RK.out.trans ((Wr.refl _ _).drewN _))⟩
                 ·have hne : u ≠ v := fun e => h_type (by rw [e])
                  have i_type : (u.type == v.type) = false := by simpa using h_type
                  have hres := Lib.hid (eqB_false (fun e : x = y => ne_at hu hv hne (congrArg Ty.fields e)))
                  clear hu hv
                  clear hne
                  go_wp2_with fail
                  go_quiet (fail)
                  go_wp2_with fail
                  go_ret
                  exact ⟨hres.out ▸ rfl, ACC.out.trans (RK.out.trans ((Wr.refl _ _).drewN _))⟩
                ·have hne : u ≠ v := fun e => h_name (by rw [e])
                 have i_name : (u.name.toList == v.name.toList) = false := str_ne h_name
                 have i2_name : ¬ u.name.toList = v.name.toList := by simpa using i_name
                 have hres := Lib.hid (eqB_false (fun e : x = y => ne_at hu hv hne (congrArg Ty.fields e)))
                 clear hu hv
                 clear hne
                 go_wp2_with fail
                 go_quiet (fail)
                 go_wp2_with fail
                 go_ret
                 exact ⟨hres.out ▸ rfl, ACC.out.trans (RK.out.trans ((Wr.refl _ _).drewN _))⟩
               ·obtain rfl : k = x.fields.length := by omega
                have H_fl := Lib.hid (take_full H_fields.out HTK.out)
                have R3 := Lib.hid RK.out
                go_wp2_with fail
                go_loopw [7] (fun sl wr => ∃ k : Nat, k ≤ x.params.length ∧ sl = .int .i64 k ∧ x.params.take k = y.params.take k ∧ Wr [] w0 wr) (fun sl _ => x.params.length - (intOf sl).toNat)
                case atStart => exact ⟨0, by omega, rfl, by simp, R3.out⟩
                case round =>
                 obtain ⟨k, hk, rfl, htk, rk⟩ := hrel
                 have RK := Lib.hid rk
                 have HTK := Lib.hid htk
                 clear rk htk
                 clear x7 y7 x8 y8 x10 y10
                 have x7 := (BX.out.wr0 RK.out).cell 7
                 have y7 := (BY.out.wr0 RK.out).cell 7
                 have x8 := (BX.out.wr0 RK.out).cell 8
                 have y8 := (BY.out.wr0 RK.out).cell 8
                 have x10 := (BX.out.wr0 RK.out).cell 10
                 have y10 := (BY.out.wr0 RK.out).cell 10
                 simp only [qgaq, qgzq, qgsq] at x7 y7 x8 y8 x10 y10
                 by_cases hlt : k < x.params.length
                 ·obtain ⟨u, hu⟩ : ∃ u, x.params[k]? = some u := ⟨_, List.getElem?_eq_getElem hlt⟩
                  obtain ⟨v, hv⟩ : ∃ v, y.params[k]? = some v := ⟨_, List.getElem?_eq_getElem (by omega)⟩
                  obtain ⟨p1, o1, c1', e1, _, hc1⟩ := par_at' (Sl.wr0 HX.out.params RK.out) hu
                  obtain ⟨p2, o2, c2', e2, _, hc2⟩ := par_at' (Sl.wr0 HY.out.params RK.out) hv
                  injection e1 with e11 _ e12
                  injection e2 with e21 _ e22
                  subst e11 e12 e21 e22
                  have u0 := hc1 0 _ rfl
                  have v0 := hc2 0 _ rfl
                  have u1 := hc1 1 _ rfl
                  have v1 := hc2 1 _ rfl
                  simp only [Nat.add_zero] at u0 v0
                  clear hc1 hc2
                  have h0 : (0 : Int) ≤ (k : Int) := by omega
                  have h1k : (k : Int) < (x.params.length : Int) := by omega
                  have h2k : (k : Int) < (y.params.length : Int) := by omega
                  by_cases h_var : u.var = v.var
                  ·have i_var : (u.var == v.var) = true := by simp [h_var]
                   by_cases h_type : u.type = v.type
                   ·have i_type : (u.type == v.type) = true := by simp [h_type]
                    have huv : u = v := by obtain ⟨a0, a1⟩ := u; obtain ⟨d0, d1⟩ := v; simp only at h_var h_type; subst h_var h_type; rfl
                    have hnx := Lib.hid (same_next (x := u) HTK.out hu (by rw [huv]; exact hv))
                    clear hu hv huv
                    go_wp2_with fail
                    go_quiet (fail)
                    go_wp2_with fail
                    go_roundw
                    case rel => exact ⟨k + 1, by omega, by go_num, hnx.out, RK.out.trans ((Wr.refl _ _).drewN _)⟩
                    case measure => simp [intOf]; omega
                   ·have hne : u ≠ v := fun e => h_type (by rw [e])
                    have i_type : (u.type == v.type) = false := by simpa using h_type
                    have hres := Lib.hid (eqB_false (fun e : x = y => ne_at hu hv hne (congrArg Ty.params e)))
                    clear hu hv
                    clear hne
                    go_wp2_with fail
                    go_quiet (fail)
                    go_wp2_with fail
                    go_ret
                    exact ⟨hres.out ▸ rfl, ACC.out.trans (RK.out.trans ((Wr.refl _ _).drewN _))⟩
                  ·have hne : u ≠ v := fun e => h_var (by rw [e])
                   have i_var : (u.var == v.var) = false := by simpa using h_var
                   have hres := Lib.hid (eqB_false (fun e : x = y => ne_at hu hv hne (congrArg Ty.params e)))
                   clear hu hv
                   clear hne
                   go_wp2_with fail
                   go_quiet (fail)
                   go_wp2_with fail
                   go_ret
                   exact ⟨hres.out ▸ rfl, ACC.out.trans (RK.out.trans ((Wr.refl _ _).drewN _))⟩
                 ·obtain rfl : k = x.params.length := by omega
                  have H_pr := Lib.hid (take_full H_params.out HTK.out)
                  have R4 := Lib.hid RK.out
                  have hres := Lib.hid (eqB_true (ty_ext x y H_kind.out H_module.out H_name.out H_base.out H_index.out H_low.out H_high.out H_nm.out H_fl.out H_arms.out H_pr.out H_result.out))
                  go_wp2_with fail
                  go_ret
                  exact ⟨hres.out ▸ rfl, ACC.out.trans R4.out⟩
           ·have i_params : ((x.params.length : Int) == (y.params.length : Int)) = false := by simpa using (by omega : ¬ (x.params.length : Int) = (y.params.length : Int))
            have j_params : ((x.params.length : Int) != (y.params.length : Int)) = true := by simpa using (by omega : ¬ (x.params.length : Int) = (y.params.length : Int))
            have k_params : ¬ x.params.length = y.params.length := h_params
            have hres := Lib.hid (eqB_false (fun e : x = y => h_params (by rw [e])))
            clear h_params
            go_wp2_with fail
            go_ret
            exact ⟨hres.out ▸ rfl, ACC.out⟩
          ·have i_fields : ((x.fields.length : Int) == (y.fields.length : Int)) = false := by simpa using (by omega : ¬ (x.fields.length : Int) = (y.fields.length : Int))
           have j_fields : ((x.fields.length : Int) != (y.fields.length : Int)) = true := by simpa using (by omega : ¬ (x.fields.length : Int) = (y.fields.length : Int))
           have k_fields : ¬ x.fields.length = y.fields.length := h_fields
           have hres := Lib.hid (eqB_false (fun e : x = y => h_fields (by rw [e])))
           clear h_fields
           go_wp2_with fail
           go_ret
           exact ⟨hres.out ▸ rfl, ACC.out⟩
         ·have i_names : ((x.names.length : Int) == (y.names.length : Int)) = false := by simpa using (by omega : ¬ (x.names.length : Int) = (y.names.length : Int))
          have j_names : ((x.names.length : Int) != (y.names.length : Int)) = true := by simpa using (by omega : ¬ (x.names.length : Int) = (y.names.length : Int))
          have k_names : ¬ x.names.length = y.names.length := h_names
          have hres := Lib.hid (eqB_false (fun e : x = y => h_names (by rw [e])))
          clear h_names
          go_wp2_with fail
          go_ret
          exact ⟨hres.out ▸ rfl, ACC.out⟩
        ·have i_result : (x.result == y.result) = false := by simpa using h_result
         have j_result : (x.result != y.result) = true := by simpa using h_result
         have hres := Lib.hid (eqB_false (fun e : x = y => h_result (by rw [e])))
         clear h_result
         go_wp2_with fail
         go_ret
         exact ⟨hres.out ▸ rfl, ACC.out⟩
       ·have i_high : (x.high == y.high) = false := by simpa using h_high
        have j_high : (x.high != y.high) = true := by simpa using h_high
        have hres := Lib.hid (eqB_false (fun e : x = y => h_high (by rw [e])))
        clear h_high
        go_wp2_with fail
        go_ret
        exact ⟨hres.out ▸ rfl, ACC.out⟩
      ·have i_low : (x.low == y.low) = false := by simpa using h_low
       have j_low : (x.low != y.low) = true := by simpa using h_low
       have hres := Lib.hid (eqB_false (fun e : x = y => h_low (by rw [e])))
       clear h_low
       go_wp2_with fail
       go_ret
       exact ⟨hres.out ▸ rfl, ACC.out⟩
     ·have i_index : (x.index == y.index) = false := by simpa using h_index
      have j_index : (x.index != y.index) = true := by simpa using h_index
      have hres := Lib.hid (eqB_false (fun e : x = y => h_index (by rw [e])))
      clear h_index
      go_wp2_with fail
      go_ret
      exact ⟨hres.out ▸ rfl, ACC.out⟩
    ·have i_base : (x.base == y.base) = false := by simpa using h_base
     have j_base : (x.base != y.base) = true := by simpa using h_base
     have hres := Lib.hid (eqB_false (fun e : x = y => h_base (by rw [e])))
     clear h_base
     go_wp2_with fail
     go_ret
     exact ⟨hres.out ▸ rfl, ACC.out⟩
   ·have i_name : (x.name.toList == y.name.toList) = false := str_ne h_name
    have hres := Lib.hid (eqB_false (fun e : x = y => h_name (by rw [e])))
    clear h_name
    go_wp2_with fail
    go_ret
    exact ⟨hres.out ▸ rfl, ACC.out⟩
  ·have i_module : (x.module.toList == y.module.toList) = false := str_ne h_module
   have hres := Lib.hid (eqB_false (fun e : x = y => h_module (by rw [e])))
   clear h_module
   go_wp2_with fail
   go_ret
   exact ⟨hres.out ▸ rfl, ACC.out⟩
 ·have i_kind : (x.kind == y.kind) = false := by simpa using h_kind
  have j_kind : (x.kind != y.kind) = true := by simpa using h_kind
  have hres := Lib.hid (eqB_false (fun e : x = y => h_kind (by rw [e])))
  clear h_kind
  go_wp2_with fail
  go_ret
  exact ⟨hres.out ▸ rfl, ACC.out⟩
end Go.Proofs.YtmpbkfbjmmoapaaGreat
