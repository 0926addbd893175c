/- The document's SameModule, Same of objects: walked. No conditions. -/
import Derived.Test.YtildcdgobdfieaaGreatRD42
import Derived.Laws.MakeOwn
import Derived.Lib.AppendStr
set_option linter.unusedVariables false
set_option linter.unusedSimpArgs false
set_option maxRecDepth 100000
set_option maxHeartbeats 32000000
namespace Go.Proofs.YtildcdgobdfieaaGreat
open Go.RowKit
theorem rsamemod_any (a b : ModD) (vp vi vn up ui un : Value) (P Q : Nat → Prop) (w : World) (hx : ModL w P vp vi vn a) (hy : ModL w Q up ui un b) :
  Calls Tryz.prog 25 #[a.val vp vi vn, b.val up ui un] w (SameE (eqB a b) w) := by
 unfold ModD.val ModD.cells
 obtain ⟨Ap, cp, rfl, lcp, mcp⟩ := Sl.form hx.procs
 obtain ⟨Ai, ci, rfl, lci, mci⟩ := Sl.form hx.imports
 obtain ⟨An, cn, rfl, lcn, mcn⟩ := Sl.form hx.init
 obtain ⟨Bp, dp, rfl, ldp, mdp⟩ := Sl.form hy.procs
 obtain ⟨Bi, di, rfl, ldi, mdi⟩ := Sl.form hy.imports
 obtain ⟨Bn, dn, rfl, ldn, mdn⟩ := Sl.form hy.init
 unfold maxLen at mcp mci mcn mdp mdi mdn
 obtain ⟨wa, hwa⟩ : ∃ q, w.alloc (.cells #[.string a.code, .slice Ap a.procs.length cp, .slice Ai a.imports.length ci, .int .i64 a.data, .slice An a.init.length cn] 28) = q := ⟨_, rfl⟩
 obtain ⟨g, hg⟩ : ∃ q, w.heap.size = q := ⟨_, rfl⟩
 have sa : wa.heap.size = g + 1 := by rw [← hwa, qsiq, hg]
 obtain ⟨w0, hw0⟩ : ∃ q, wa.alloc (.cells #[.string b.code, .slice Bp b.procs.length dp, .slice Bi b.imports.length di, .int .i64 b.data, .slice Bn b.init.length dn] 28) = q := ⟨_, rfl⟩
 have ra : Wr [] w wa := by rw [← hwa]; exact (Wr.refl _ _).alloc _
 have rb : Wr [] wa w0 := by rw [← hw0]; exact (Wr.refl _ _).alloc _
 have bX : Blk w0 g 28 #[.string a.code, .slice Ap a.procs.length cp, .slice Ai a.imports.length ci, .int .i64 a.data, .slice An a.init.length cn] := by
  have := (show Blk wa g 28 #[.string a.code, .slice Ap a.procs.length cp, .slice Ai a.imports.length ci, .int .i64 a.data, .slice An a.init.length cn] by rw [← hwa, ← hg]; exact Blk.new _ _ _)
  exact this.wr0 rb
 have bY : Blk w0 (g + 1) 28 #[.string b.code, .slice Bp b.procs.length dp, .slice Bi b.imports.length di, .int .i64 b.data, .slice Bn b.init.length dn] := by rw [← hw0, ← sa]; exact Blk.new _ _ _
 have hw0' : (w.alloc (.cells #[.string a.code, .slice Ap a.procs.length cp, .slice Ai a.imports.length ci, .int .i64 a.data, .slice An a.init.length cn] 28)).alloc (.cells #[.string b.code, .slice Bp b.procs.length dp, .slice Bi b.imports.length di, .int .i64 b.data, .slice Bn b.init.length dn] 28) = w0 := by rw [hwa, hw0]
 have acc := ra.trans rb
 have HX := qh (hx.wr0 acc)
 have HY := qh (hy.wr0 acc)
 obtain ⟨x0, x1, x2, x3, x4⟩ := c5q (bX)
 have y0 := (bY).cell 0
 have y1 := (bY).cell 1
 have y2 := (bY).cell 2
 have y3 := (bY).cell 3
 have y4 := (bY).cell 4
 simp only [qgaq, qgzq, qgsq] at y0 y1 y2 y3 y4
 have ACC := qh acc
 have BX := qh bX
 have BY := qh bY
 have Hw0 := qh hw0'
 have Hg := qh hg
 obtain ⟨r, hr⟩ : ∃ r, eqB a b = r := ⟨_, rfl⟩
 rw [hr]
 have HR := qh hr
 clear hx hy hwa hw0 hw0' hg sa ra rb acc bX bY hr
 go_in
 go_upto_region 1 with (fail)
 rw [Hw0.out, Hg.out]
 by_cases h_code : a.code = b.code
 ·have i_code : (a.code.toList == b.code.toList) = true := by rw [h_code]; exact str_eq _
  have k_code : a.code.toList = b.code.toList := by rw [h_code]
  have H_code := qh h_code
  clear h_code
  by_cases h_data : a.data = b.data
  ·have i_data : (a.data == b.data) = true := by simp [h_data]
   have k_data : (a.data != b.data) = false := by simp [h_data]
   have H_data := qh h_data
   clear h_data
   by_cases h_procs : a.procs.length = b.procs.length
   ·have i_procs : ((a.procs.length : Int) == (b.procs.length : Int)) = true := by simp [h_procs]
    have j_procs : ((a.procs.length : Int) != (b.procs.length : Int)) = false := by simp [h_procs]
    have l_procs : b.procs.length ≤ a.procs.length := by omega
    have m_procs : a.procs.length ≤ b.procs.length := by omega
    have H_procs := qh h_procs
    clear h_procs
    by_cases h_imports : a.imports.length = b.imports.length
    ·have i_imports : ((a.imports.length : Int) == (b.imports.length : Int)) = true := by simp [h_imports]
     have j_imports : ((a.imports.length : Int) != (b.imports.length : Int)) = false := by simp [h_imports]
     have l_imports : b.imports.length ≤ a.imports.length := by omega
     have m_imports : a.imports.length ≤ b.imports.length := by omega
     have H_imports := qh h_imports
     clear h_imports
     by_cases h_init : a.init.length = b.init.length
     ·have i_init : ((a.init.length : Int) == (b.init.length : Int)) = true := by simp [h_init]
      have j_init : ((a.init.length : Int) != (b.init.length : Int)) = false := by simp [h_init]
      have l_init : b.init.length ≤ a.init.length := by omega
      have m_init : a.init.length ≤ b.init.length := by omega
      have H_init := qh h_init
      clear h_init
      go_wp2_with fail
      go_loopw [5] (fun sl wr => ∃ k : Nat, k ≤ a.procs.length ∧ sl = .int .i64 k ∧ a.procs.take k = b.procs.take k ∧ Wr [] w0 wr) (fun sl _ => a.procs.length - (intOf sl).toNat)
      case atStart => exact ⟨0, by omega, rfl, by simp, Wr.refl _ _⟩
      case round =>
       obtain ⟨k, hk, rfl, htk, rk⟩ := hrel
       have RK := qh rk
       have HTK := qh htk
       clear rk htk x1 y1 x2 y2 x4 y4
       have x1 := (BX.out.wr0 RK.out).cell 1
       have y1 := (BY.out.wr0 RK.out).cell 1
       have x2 := (BX.out.wr0 RK.out).cell 2
       have y2 := (BY.out.wr0 RK.out).cell 2
       have x4 := (BX.out.wr0 RK.out).cell 4
       have y4 := (BY.out.wr0 RK.out).cell 4
       simp only [qgaq, qgzq, qgsq] at x1 y1 x2 y2 x4 y4
       by_cases hlt : k < a.procs.length
       ·obtain ⟨u, hu⟩ : ∃ u, a.procs[k]? = some u := ⟨_, qgeq hlt⟩
        obtain ⟨v, hv⟩ : ∃ v, b.procs[k]? = some v := ⟨_, qgeq (by omega)⟩
        obtain ⟨p1, o1, c1', q1, _, _, hc1⟩ := prc_at (Sl.wr0 HX.out.procs RK.out) hu
        obtain ⟨p2, o2, c2', q2, _, _, hc2⟩ := prc_at (Sl.wr0 HY.out.procs RK.out) hv
        injection q1 with q11 _ q12
        injection q2 with q21 _ q22
        subst q11 q12 q21 q22
        have u0 := hc1 0 _ rfl
        have v0 := hc2 0 _ rfl
        have u1 := hc1 1 _ rfl
        have v1 := hc2 1 _ rfl
        have u2 := hc1 2 _ rfl
        have v2 := hc2 2 _ rfl
        have u3 := hc1 3 _ rfl
        have v3 := hc2 3 _ rfl
        have u4 := hc1 4 _ rfl
        have v4 := hc2 4 _ rfl
        have u5 := hc1 5 _ rfl
        have v5 := hc2 5 _ rfl
        simp only [Nat.add_zero] at u0 v0
        clear hc1 hc2
        have h0 : (0 : Int) ≤ (k : Int) := by omega
        have h1k : (k : Int) < (a.procs.length : Int) := by omega
        have h2k : (k : Int) < (b.procs.length : Int) := by omega
        by_cases h_at_ : u.at_ = v.at_
        ·have i_at_ : (u.at_ == v.at_) = true := by simp [h_at_]
         have k_at_ : (u.at_ != v.at_) = false := by simp [h_at_]
         by_cases h_params : u.params = v.params
         ·have i_params : (u.params == v.params) = true := by simp [h_params]
          have k_params : (u.params != v.params) = false := by simp [h_params]
          by_cases h_locals : u.locals = v.locals
          ·have i_locals : (u.locals == v.locals) = true := by simp [h_locals]
           have k_locals : (u.locals != v.locals) = false := by simp [h_locals]
           by_cases h_depth : u.depth = v.depth
           ·have i_depth : (u.depth == v.depth) = true := by simp [h_depth]
            have k_depth : (u.depth != v.depth) = false := by simp [h_depth]
            by_cases h_level : u.level = v.level
            ·have i_level : (u.level == v.level) = true := by simp [h_level]
             have k_level : (u.level != v.level) = false := by simp [h_level]
             by_cases h_func : u.func = v.func
             ·have i_func : (u.func == v.func) = true := by simp [h_func]
              have k_func : (u.func != v.func) = false := by simp [h_func]
              have huv : u = v := by obtain ⟨a0, a1, a2, a3, a4, a5⟩ := u; obtain ⟨d0, d1, d2, d3, d4, d5⟩ := v; simp only at h_at_ h_params h_locals h_depth h_level h_func; subst h_at_ h_params h_locals h_depth h_level h_func; rfl
              have hnx := qh (same_next (x := u) HTK.out hu (by rw [huv]; exact hv))
              clear hu hv huv
              go_wp2_with fail
              go_quiet (fail)
              go_wp2_with fail
              go_roundw
              case rel => exact ⟨k + 1, by omega, by go_num, hnx.out, RK.out.trans ((Wr.refl _ _).drewN _)⟩
              case measure => simp [intOf]; omega
             ·have hne : u ≠ v := fun e => h_func (by rw [e])
              have i_func : (u.func == v.func) = false := by simpa using h_func
              have k_func : (u.func != v.func) = true := by simpa using h_func
              have hres := qh (eqB_false (fun e : a = b => ne_at hu hv hne (by rw [e])))
              clear hu hv hne
              go_wp2_with fail
              go_quiet (fail)
              go_wp2_with fail
              go_ret
              exact ⟨by rw [← HR.out, hres.out]; rfl, ACC.out.trans (RK.out.trans ((Wr.refl _ _).drewN _))⟩
            ·have hne : u ≠ v := fun e => h_level (by rw [e])
             have i_level : (u.level == v.level) = false := by simpa using h_level
             have k_level : (u.level != v.level) = true := by simpa using h_level
             have hres := qh (eqB_false (fun e : a = b => ne_at hu hv hne (by rw [e])))
             clear hu hv hne
             go_wp2_with fail
             go_quiet (fail)
             go_wp2_with fail
             go_ret
             exact ⟨by rw [← HR.out, hres.out]; rfl, ACC.out.trans (RK.out.trans ((Wr.refl _ _).drewN _))⟩
           ·have hne : u ≠ v := fun e => h_depth (by rw [e])
            have i_depth : (u.depth == v.depth) = false := by simpa using h_depth
            have k_depth : (u.depth != v.depth) = true := by simpa using h_depth
            have hres := qh (eqB_false (fun e : a = b => ne_at hu hv hne (by rw [e])))
            clear hu hv hne
            go_wp2_with fail
            go_quiet (fail)
            go_wp2_with fail
            go_ret
            exact ⟨by rw [← HR.out, hres.out]; rfl, ACC.out.trans (RK.out.trans ((Wr.refl _ _).drewN _))⟩
          ·have hne : u ≠ v := fun e => h_locals (by rw [e])
           have i_locals : (u.locals == v.locals) = false := by simpa using h_locals
           have k_locals : (u.locals != v.locals) = true := by simpa using h_locals
           have hres := qh (eqB_false (fun e : a = b => ne_at hu hv hne (by rw [e])))
           clear hu hv hne
           go_wp2_with fail
           go_quiet (fail)
           go_wp2_with fail
           go_ret
           exact ⟨by rw [← HR.out, hres.out]; rfl, ACC.out.trans (RK.out.trans ((Wr.refl _ _).drewN _))⟩
         ·have hne : u ≠ v := fun e => h_params (by rw [e])
          have i_params : (u.params == v.params) = false := by simpa using h_params
          have k_params : (u.params != v.params) = true := by simpa using h_params
          have hres := qh (eqB_false (fun e : a = b => ne_at hu hv hne (by rw [e])))
          clear hu hv hne
          go_wp2_with fail
          go_quiet (fail)
          go_wp2_with fail
          go_ret
          exact ⟨by rw [← HR.out, hres.out]; rfl, ACC.out.trans (RK.out.trans ((Wr.refl _ _).drewN _))⟩
        ·have hne : u ≠ v := fun e => h_at_ (by rw [e])
         have i_at_ : (u.at_ == v.at_) = false := by simpa using h_at_
         have k_at_ : (u.at_ != v.at_) = true := by simpa using h_at_
         have hres := qh (eqB_false (fun e : a = b => ne_at hu hv hne (by rw [e])))
         clear hu hv hne
         go_wp2_with fail
         go_quiet (fail)
         go_wp2_with fail
         go_ret
         exact ⟨by rw [← HR.out, hres.out]; rfl, ACC.out.trans (RK.out.trans ((Wr.refl _ _).drewN _))⟩
       ·obtain rfl : k = a.procs.length := by omega
        have H_procsl := qh (take_full H_procs.out HTK.out)
        have R1 := qh RK.out
        go_wp2_with fail
        go_loopw [6] (fun sl wr => ∃ k : Nat, k ≤ a.imports.length ∧ sl = .int .i64 k ∧ a.imports.take k = b.imports.take k ∧ Wr [] w0 wr) (fun sl _ => a.imports.length - (intOf sl).toNat)
        case atStart => exact ⟨0, by omega, rfl, by simp, R1.out⟩
        case round =>
         obtain ⟨k, hk, rfl, htk, rk⟩ := hrel
         have RK := qh rk
         have HTK := qh htk
         clear rk htk x1 y1 x2 y2 x4 y4
         have x1 := (BX.out.wr0 RK.out).cell 1
         have y1 := (BY.out.wr0 RK.out).cell 1
         have x2 := (BX.out.wr0 RK.out).cell 2
         have y2 := (BY.out.wr0 RK.out).cell 2
         have x4 := (BX.out.wr0 RK.out).cell 4
         have y4 := (BY.out.wr0 RK.out).cell 4
         simp only [qgaq, qgzq, qgsq] at x1 y1 x2 y2 x4 y4
         by_cases hlt : k < a.imports.length
         ·obtain ⟨u, hu⟩ : ∃ u, a.imports[k]? = some u := ⟨_, qgeq hlt⟩
          obtain ⟨v, hv⟩ : ∃ v, b.imports[k]? = some v := ⟨_, qgeq (by omega)⟩
          obtain ⟨p1, o1, c1', q1, _, _, hc1⟩ := i64_at (Sl.wr0 HX.out.imports RK.out) hu
          obtain ⟨p2, o2, c2', q2, _, _, hc2⟩ := i64_at (Sl.wr0 HY.out.imports RK.out) hv
          injection q1 with q11 _ q12
          injection q2 with q21 _ q22
          subst q11 q12 q21 q22
          have u0 := hc1
          have v0 := hc2
          have h0 : (0 : Int) ≤ (k : Int) := by omega
          have h1k : (k : Int) < (a.imports.length : Int) := by omega
          have h2k : (k : Int) < (b.imports.length : Int) := by omega
          by_cases h_x : u = v
          ·have i_x : (u == v) = true := by simp [h_x]
           have k_x : (u != v) = false := by simp [h_x]
           have huv : u = v := h_x
           have hnx := qh (same_next (x := u) HTK.out hu (by rw [huv]; exact hv))
           clear hu hv huv
           go_wp2_with fail
           go_quiet (fail)
           go_wp2_with fail
           go_roundw
           case rel => exact ⟨k + 1, by omega, by go_num, hnx.out, RK.out.trans ((Wr.refl _ _).drewN _)⟩
           case measure => simp [intOf]; omega
          ·have hne : u ≠ v := fun e => h_x (by rw [e])
           have i_x : (u == v) = false := by simpa using h_x
           have k_x : (u != v) = true := by simpa using h_x
           have hres := qh (eqB_false (fun e : a = b => ne_at hu hv hne (by rw [e])))
           clear hu hv hne
           go_wp2_with fail
           go_quiet (fail)
           go_wp2_with fail
           go_ret
           exact ⟨by rw [← HR.out, hres.out]; rfl, ACC.out.trans (RK.out.trans ((Wr.refl _ _).drewN _))⟩
         ·obtain rfl : k = a.imports.length := by omega
          have H_importsl := qh (take_full H_imports.out HTK.out)
          have R2 := qh RK.out
          go_wp2_with fail
          go_loopw [7] (fun sl wr => ∃ k : Nat, k ≤ a.init.length ∧ sl = .int .i64 k ∧ a.init.take k = b.init.take k ∧ Wr [] w0 wr) (fun sl _ => a.init.length - (intOf sl).toNat)
          case atStart => exact ⟨0, by omega, rfl, by simp, R2.out⟩
          case round =>
           obtain ⟨k, hk, rfl, htk, rk⟩ := hrel
           have RK := qh rk
           have HTK := qh htk
           clear rk htk x1 y1 x2 y2 x4 y4
           have x1 := (BX.out.wr0 RK.out).cell 1
           have y1 := (BY.out.wr0 RK.out).cell 1
           have x2 := (BX.out.wr0 RK.out).cell 2
           have y2 := (BY.out.wr0 RK.out).cell 2
           have x4 := (BX.out.wr0 RK.out).cell 4
           have y4 := (BY.out.wr0 RK.out).cell 4
           simp only [qgaq, qgzq, qgsq] at x1 y1 x2 y2 x4 y4
           by_cases hlt : k < a.init.length
           ·obtain ⟨u, hu⟩ : ∃ u, a.init[k]? = some u := ⟨_, qgeq hlt⟩
            obtain ⟨v, hv⟩ : ∃ v, b.init[k]? = some v := ⟨_, qgeq (by omega)⟩
            obtain ⟨p1, o1, c1', q1, _, _, hc1⟩ := u16_atS (Sl.wr0 HX.out.init RK.out) hu
            obtain ⟨p2, o2, c2', q2, _, _, hc2⟩ := u16_atS (Sl.wr0 HY.out.init RK.out) hv
            injection q1 with q11 _ q12
            injection q2 with q21 _ q22
            subst q11 q12 q21 q22
            have u0 := hc1
            have v0 := hc2
            have h0 : (0 : Int) ≤ (k : Int) := by omega
            have h1k : (k : Int) < (a.init.length : Int) := by omega
            have h2k : (k : Int) < (b.init.length : Int) := by omega
            by_cases h_x : u = v
            ·have i_x : (u == v) = true := by simp [h_x]
             have k_x : (u != v) = false := by simp [h_x]
             have huv : u = v := h_x
             have hnx := qh (same_next (x := u) HTK.out hu (by rw [huv]; exact hv))
             clear hu hv huv
             go_wp2_with fail
             go_quiet (fail)
             go_wp2_with fail
             go_roundw
             case rel => exact ⟨k + 1, by omega, by go_num, hnx.out, RK.out.trans ((Wr.refl _ _).drewN _)⟩
             case measure => simp [intOf]; omega
            ·have hne : u ≠ v := fun e => h_x (by rw [e])
             have i_x : (u == v) = false := by simpa using h_x
             have k_x : (u != v) = true := by simpa using h_x
             have hres := qh (eqB_false (fun e : a = b => ne_at hu hv hne (by rw [e])))
             clear hu hv hne
             go_wp2_with fail
             go_quiet (fail)
             go_wp2_with fail
             go_ret
             exact ⟨by rw [← HR.out, hres.out]; rfl, ACC.out.trans (RK.out.trans ((Wr.refl _ _).drewN _))⟩
           ·obtain rfl : k = a.init.length := by omega
            have H_initl := qh (take_full H_init.out HTK.out)
            have R3 := qh RK.out
            have hres := qh (eqB_true (mod_ext a b H_code.out H_procsl.out H_importsl.out H_data.out H_initl.out))
            go_wp2_with fail
            go_ret
            exact ⟨by rw [← HR.out, hres.out]; rfl, ACC.out.trans R3.out⟩
     ·have i_init : ((a.init.length : Int) == (b.init.length : Int)) = false := by simp only [beq_eq_false_iff_ne, ne_eq]; omega
      have j_init : ((a.init.length : Int) != (b.init.length : Int)) = true := by simp only [bne_iff_ne, ne_eq]; omega
      have hres := qh (eqB_false (fun e : a = b => h_init (by rw [e])))
      clear h_init
      go_wp2_with fail
      go_ret
      exact ⟨by rw [← HR.out, hres.out]; rfl, ACC.out⟩
    ·have i_imports : ((a.imports.length : Int) == (b.imports.length : Int)) = false := by simp only [beq_eq_false_iff_ne, ne_eq]; omega
     have j_imports : ((a.imports.length : Int) != (b.imports.length : Int)) = true := by simp only [bne_iff_ne, ne_eq]; omega
     have hres := qh (eqB_false (fun e : a = b => h_imports (by rw [e])))
     clear h_imports
     go_wp2_with fail
     go_ret
     exact ⟨by rw [← HR.out, hres.out]; rfl, ACC.out⟩
   ·have i_procs : ((a.procs.length : Int) == (b.procs.length : Int)) = false := by simp only [beq_eq_false_iff_ne, ne_eq]; omega
    have j_procs : ((a.procs.length : Int) != (b.procs.length : Int)) = true := by simp only [bne_iff_ne, ne_eq]; omega
    have hres := qh (eqB_false (fun e : a = b => h_procs (by rw [e])))
    clear h_procs
    go_wp2_with fail
    go_ret
    exact ⟨by rw [← HR.out, hres.out]; rfl, ACC.out⟩
  ·have i_data : (a.data == b.data) = false := by simpa using h_data
   have k_data : (a.data != b.data) = true := by simpa using h_data
   have hres := qh (eqB_false (fun e : a = b => h_data (by rw [e])))
   clear h_data
   go_wp2_with fail
   go_ret
   exact ⟨by rw [← HR.out, hres.out]; rfl, ACC.out⟩
 ·have i_code : (a.code.toList == b.code.toList) = false := str_ne h_code
  have k_code : ¬ a.code.toList = b.code.toList := by have := str_ne h_code; rw [beq_eq_false_iff_ne] at this; exact this
  have hres := qh (eqB_false (fun e : a = b => h_code (by rw [e])))
  clear h_code
  go_wp2_with fail
  go_ret
  exact ⟨by rw [← HR.out, hres.out]; rfl, ACC.out⟩
theorem rsame_any (a b : ObjD) (vu vp vi vn uu up ui un : Value) (P Q : Nat → Prop) (w : World) (hx : ObjL w P vu vp vi vn a) (hy : ObjL w Q uu up ui un b) :
  Calls Tryz.prog 17 #[a.val vu vp vi vn, b.val uu up ui un] w (SameE (eqB a b) w) := by
 unfold ObjD.val ObjD.cells
 obtain ⟨Au, cu, rfl, lcu, mcu⟩ := Sl.form hx.uses
 obtain ⟨Ap, cp, rfl, lcp, mcp⟩ := Sl.form hx.mod.procs
 obtain ⟨Ai, ci, rfl, lci, mci⟩ := Sl.form hx.mod.imports
 obtain ⟨An, cn, rfl, lcn, mcn⟩ := Sl.form hx.mod.init
 obtain ⟨Bu, du, rfl, ldu, mdu⟩ := Sl.form hy.uses
 obtain ⟨Bp, dp, rfl, ldp, mdp⟩ := Sl.form hy.mod.procs
 obtain ⟨Bi, di, rfl, ldi, mdi⟩ := Sl.form hy.mod.imports
 obtain ⟨Bn, dn, rfl, ldn, mdn⟩ := Sl.form hy.mod.init
 unfold maxLen at mcu mcp mci mcn mdu mdp mdi mdn
 obtain ⟨wa, hwa⟩ : ∃ q, w.alloc (.cells #[.string a.module, .bool a.main, .int .u64 a.key, .slice Au a.uses.length cu, .string a.mod.code, .slice Ap a.mod.procs.length cp, .slice Ai a.mod.imports.length ci, .int .i64 a.mod.data, .slice An a.mod.init.length cn] 30) = q := ⟨_, rfl⟩
 obtain ⟨g, hg⟩ : ∃ q, w.heap.size = q := ⟨_, rfl⟩
 have sa : wa.heap.size = g + 1 := by rw [← hwa, qsiq, hg]
 obtain ⟨w0, hw0⟩ : ∃ q, wa.alloc (.cells #[.string b.module, .bool b.main, .int .u64 b.key, .slice Bu b.uses.length du, .string b.mod.code, .slice Bp b.mod.procs.length dp, .slice Bi b.mod.imports.length di, .int .i64 b.mod.data, .slice Bn b.mod.init.length dn] 30) = q := ⟨_, rfl⟩
 have ra : Wr [] w wa := by rw [← hwa]; exact (Wr.refl _ _).alloc _
 have rb : Wr [] wa w0 := by rw [← hw0]; exact (Wr.refl _ _).alloc _
 have bX : Blk w0 g 30 #[.string a.module, .bool a.main, .int .u64 a.key, .slice Au a.uses.length cu, .string a.mod.code, .slice Ap a.mod.procs.length cp, .slice Ai a.mod.imports.length ci, .int .i64 a.mod.data, .slice An a.mod.init.length cn] := by
  have := (show Blk wa g 30 #[.string a.module, .bool a.main, .int .u64 a.key, .slice Au a.uses.length cu, .string a.mod.code, .slice Ap a.mod.procs.length cp, .slice Ai a.mod.imports.length ci, .int .i64 a.mod.data, .slice An a.mod.init.length cn] by rw [← hwa, ← hg]; exact Blk.new _ _ _)
  exact this.wr0 rb
 have bY : Blk w0 (g + 1) 30 #[.string b.module, .bool b.main, .int .u64 b.key, .slice Bu b.uses.length du, .string b.mod.code, .slice Bp b.mod.procs.length dp, .slice Bi b.mod.imports.length di, .int .i64 b.mod.data, .slice Bn b.mod.init.length dn] := by rw [← hw0, ← sa]; exact Blk.new _ _ _
 have hw0' : (w.alloc (.cells #[.string a.module, .bool a.main, .int .u64 a.key, .slice Au a.uses.length cu, .string a.mod.code, .slice Ap a.mod.procs.length cp, .slice Ai a.mod.imports.length ci, .int .i64 a.mod.data, .slice An a.mod.init.length cn] 30)).alloc (.cells #[.string b.module, .bool b.main, .int .u64 b.key, .slice Bu b.uses.length du, .string b.mod.code, .slice Bp b.mod.procs.length dp, .slice Bi b.mod.imports.length di, .int .i64 b.mod.data, .slice Bn b.mod.init.length dn] 30) = w0 := by rw [hwa, hw0]
 have acc := ra.trans rb
 have HX := qh (hx.wr0 acc)
 have HY := qh (hy.wr0 acc)
 obtain ⟨x0, x1, x2, x3, x4, x5, x6, x7, x8⟩ := c9q (bX)
 have y0 := (bY).cell 0
 have y1 := (bY).cell 1
 have y2 := (bY).cell 2
 have y3 := (bY).cell 3
 have y4 := (bY).cell 4
 have y5 := (bY).cell 5
 have y6 := (bY).cell 6
 have y7 := (bY).cell 7
 have y8 := (bY).cell 8
 simp only [qgaq, qgzq, qgsq] at y0 y1 y2 y3 y4 y5 y6 y7 y8
 have ACC := qh acc
 have BX := qh bX
 have BY := qh bY
 have Hw0 := qh hw0'
 have Hg := qh hg
 obtain ⟨r, hr⟩ : ∃ r, eqB a b = r := ⟨_, rfl⟩
 rw [hr]
 have HR := qh hr
 clear hx hy hwa hw0 hw0' hg sa ra rb acc bX bY hr
 go_in
 go_upto_region 1 with (fail)
 rw [Hw0.out, Hg.out]
 have hc2 := fun W (hW : Wr [] w0 W) => rsamemod_any a.mod b.mod _ _ _ _ _ _ _ _ W (HX.out.mod.wr0 hW) (HY.out.mod.wr0 hW)
 unfold ModD.val ModD.cells at hc2
 have HC2 := qh hc2
 clear hc2
 by_cases h_module : a.module = b.module
 ·have i_module : (a.module.toList == b.module.toList) = true := by rw [h_module]; exact str_eq _
  have k_module : a.module.toList = b.module.toList := by rw [h_module]
  have H_module := qh h_module
  clear h_module
  by_cases h_main : a.main = b.main
  ·have i_main : (a.main == b.main) = true := by simp [h_main]
   have k_main : (a.main != b.main) = false := by simp [h_main]
   have H_main := qh h_main
   clear h_main
   by_cases h_key : a.key = b.key
   ·have i_key : (a.key == b.key) = true := by simp [h_key]
    have k_key : (a.key != b.key) = false := by simp [h_key]
    have H_key := qh h_key
    clear h_key
    by_cases h_uses : a.uses.length = b.uses.length
    ·have i_uses : ((a.uses.length : Int) == (b.uses.length : Int)) = true := by simp [h_uses]
     have j_uses : ((a.uses.length : Int) != (b.uses.length : Int)) = false := by simp [h_uses]
     have l_uses : b.uses.length ≤ a.uses.length := by omega
     have m_uses : a.uses.length ≤ b.uses.length := by omega
     have H_uses := qh h_uses
     clear h_uses
     go_wp2_with fail
     go_loopw [5] (fun sl wr => ∃ k : Nat, k ≤ a.uses.length ∧ sl = .int .i64 k ∧ a.uses.take k = b.uses.take k ∧ Wr [] w0 wr) (fun sl _ => a.uses.length - (intOf sl).toNat)
     case atStart => exact ⟨0, by omega, rfl, by simp, Wr.refl _ _⟩
     case round =>
      obtain ⟨k, hk, rfl, htk, rk⟩ := hrel
      have RK := qh rk
      have HTK := qh htk
      clear rk htk x3 y3 x4 y4 x5 y5 x6 y6 x7 y7 x8 y8
      have x3 := (BX.out.wr0 RK.out).cell 3
      have y3 := (BY.out.wr0 RK.out).cell 3
      have x4 := (BX.out.wr0 RK.out).cell 4
      have y4 := (BY.out.wr0 RK.out).cell 4
      have x5 := (BX.out.wr0 RK.out).cell 5
      have y5 := (BY.out.wr0 RK.out).cell 5
      have x6 := (BX.out.wr0 RK.out).cell 6
      have y6 := (BY.out.wr0 RK.out).cell 6
      have x7 := (BX.out.wr0 RK.out).cell 7
      have y7 := (BY.out.wr0 RK.out).cell 7
      have x8 := (BX.out.wr0 RK.out).cell 8
      have y8 := (BY.out.wr0 RK.out).cell 8
      simp only [qgaq, qgzq, qgsq] at x3 y3 x4 y4 x5 y5 x6 y6 x7 y7 x8 y8
      by_cases hlt : k < a.uses.length
      ·obtain ⟨u, hu⟩ : ∃ u, a.uses[k]? = some u := ⟨_, qgeq hlt⟩
       obtain ⟨v, hv⟩ : ∃ v, b.uses[k]? = some v := ⟨_, qgeq (by omega)⟩
       obtain ⟨p1, o1, c1', q1, _, _, hc1⟩ := use_at (Sl.wr0 HX.out.uses RK.out) hu
       obtain ⟨p2, o2, c2', q2, _, _, hc2⟩ := use_at (Sl.wr0 HY.out.uses RK.out) hv
       injection q1 with q11 _ q12
       injection q2 with q21 _ q22
       subst q11 q12 q21 q22
       have u0 := hc1 0 _ rfl
       have v0 := hc2 0 _ rfl
       have u1 := hc1 1 _ rfl
       have v1 := hc2 1 _ rfl
       simp only [Nat.add_zero] at u0 v0
       clear hc1 hc2
       have h0 : (0 : Int) ≤ (k : Int) := by omega
       have h1k : (k : Int) < (a.uses.length : Int) := by omega
       have h2k : (k : Int) < (b.uses.length : Int) := by omega
       by_cases h_module : u.module = v.module
       ·have i_module : (u.module.toList == v.module.toList) = true := by rw [h_module]; exact str_eq _
        have k_module : u.module.toList = v.module.toList := by rw [h_module]
        by_cases h_key : u.key = v.key
        ·have i_key : (u.key == v.key) = true := by simp [h_key]
         have k_key : (u.key != v.key) = false := by simp [h_key]
         have huv : u = v := by obtain ⟨a0, a1⟩ := u; obtain ⟨d0, d1⟩ := v; simp only at h_module h_key; subst h_module h_key; rfl
         have hnx := qh (same_next (x := u) HTK.out hu (by rw [huv]; exact hv))
         clear hu hv huv
         go_wp2_with fail
         go_quiet (fail)
         go_wp2_with fail
         go_roundw
         case rel => exact ⟨k + 1, by omega, by go_num, hnx.out, RK.out.trans ((Wr.refl _ _).drewN _)⟩
         case measure => simp [intOf]; omega
        ·have hne : u ≠ v := fun e => h_key (by rw [e])
         have i_key : (u.key == v.key) = false := by simpa using h_key
         have k_key : (u.key != v.key) = true := by simpa using h_key
         have hres := qh (eqB_false (fun e : a = b => ne_at hu hv hne (by rw [e])))
         clear hu hv hne
         go_wp2_with fail
         go_quiet (fail)
         go_wp2_with fail
         go_ret
         exact ⟨by rw [← HR.out, hres.out]; rfl, ACC.out.trans (RK.out.trans ((Wr.refl _ _).drewN _))⟩
       ·have hne : u ≠ v := fun e => h_module (by rw [e])
        have i_module : (u.module.toList == v.module.toList) = false := str_ne h_module
        have k_module : ¬ u.module.toList = v.module.toList := by have := str_ne h_module; rw [beq_eq_false_iff_ne] at this; exact this
        have hres := qh (eqB_false (fun e : a = b => ne_at hu hv hne (by rw [e])))
        clear hu hv hne
        go_wp2_with fail
        go_quiet (fail)
        go_wp2_with fail
        go_ret
        exact ⟨by rw [← HR.out, hres.out]; rfl, ACC.out.trans (RK.out.trans ((Wr.refl _ _).drewN _))⟩
      ·obtain rfl : k = a.uses.length := by omega
       have H_usesl := qh (take_full H_uses.out HTK.out)
       have R1 := qh RK.out
       go_wp2_with fail
       refine (HC2.out _ R1.out).mono ?_
       rintro e w2 ⟨rfl, k2⟩
       have R2 := qh ((R1.out).trans k2)
       obtain ⟨r2, hr2⟩ : ∃ q, eqB a.mod b.mod = q := ⟨_, rfl⟩
       rw [hr2]
       clear k2
       cases r2 with
       | false =>
        have h_2 : ¬ a.mod = b.mod := fun e => by rw [eqB_true e] at hr2; cases hr2
        have hres := qh (eqB_false (fun e : a = b => h_2 (by rw [e])))
        clear h_2 hr2
        go_wp2_with fail
        go_ret
        exact ⟨by rw [← HR.out, hres.out]; rfl, ACC.out.trans R2.out⟩
       | true =>
        have H_2 := qh (eqB_iff.1 hr2)
        clear hr2
        have hres := qh (eqB_true (obj_ext a b H_module.out H_main.out H_key.out H_usesl.out H_2.out))
        go_wp2_with fail
        go_ret
        exact ⟨by rw [← HR.out, hres.out]; rfl, ACC.out.trans R2.out⟩
    ·have i_uses : ((a.uses.length : Int) == (b.uses.length : Int)) = false := by simp only [beq_eq_false_iff_ne, ne_eq]; omega
     have j_uses : ((a.uses.length : Int) != (b.uses.length : Int)) = true := by simp only [bne_iff_ne, ne_eq]; omega
     have hres := qh (eqB_false (fun e : a = b => h_uses (by rw [e])))
     clear h_uses
     go_wp2_with fail
     go_ret
     exact ⟨by rw [← HR.out, hres.out]; rfl, ACC.out⟩
   ·have i_key : (a.key == b.key) = false := by simpa using h_key
    have k_key : (a.key != b.key) = true := by simpa using h_key
    have hres := qh (eqB_false (fun e : a = b => h_key (by rw [e])))
    clear h_key
    go_wp2_with fail
    go_ret
    exact ⟨by rw [← HR.out, hres.out]; rfl, ACC.out⟩
  ·have i_main : (a.main == b.main) = false := by simpa using h_main
   have k_main : (a.main != b.main) = true := by simpa using h_main
   have hres := qh (eqB_false (fun e : a = b => h_main (by rw [e])))
   clear h_main
   go_wp2_with fail
   go_ret
   exact ⟨by rw [← HR.out, hres.out]; rfl, ACC.out⟩
 ·have i_module : (a.module.toList == b.module.toList) = false := str_ne h_module
  have k_module : ¬ a.module.toList = b.module.toList := by have := str_ne h_module; rw [beq_eq_false_iff_ne] at this; exact this
  have hres := qh (eqB_false (fun e : a = b => h_module (by rw [e])))
  clear h_module
  go_wp2_with fail
  go_ret
  exact ⟨by rw [← HR.out, hres.out]; rfl, ACC.out⟩
def BOwn (B : Nat) (v : Value) (l : List UInt8) (w : World) : Prop := w.ownsRow B 5 1 v l.length (l.map byV)
section
variable {B : Nat} {v : Value} {l : List UInt8} {w w' : World}
theorem BOwn.keep0 (h : BOwn B v l w) (r : Wr [] w w') : BOwn B v l w' := own_wr0 h r
theorem BOwn.sl (h : BOwn B v l w) : Sl w (fun b => B ≤ b) 1 v l.length (l.map byV) := Sl.ofOwn h (fun b hb => own_ge h b (mem_ownL.2 hb))
theorem byV_one (l : List UInt8) : ∀ u ∈ l.map byV, u.oneCell' = true := by
 intro u hu
 obtain ⟨b, _, rfl⟩ := List.mem_map.1 hu
 rfl
theorem BOwn.app2 (h : BOwn B v l w) {P : Nat → Prop} {u : Value} {k : List UInt8} (hu : Sl w P 1 u k.length (k.map byV)) (hl : l.length + k.length ≤ 100000000) (hB : B ≤ w.heap.size) :
  ∃ v' w', (Builtin.append_ #[42, 42] 42 #[v, u]).run Tryz.prog w = .ok v' w' ∧ BOwn B v' (l ++ k) w' ∧ Wr (ownL v) w w' ∧ ∀ z, z < w.heap.size → z ∉ ownL v → z ∉ ownL v' := by
 obtain ⟨i0, hi, hz0, hz1, hz2⟩ := info_parts info_u8
 obtain ⟨v', w', hrun, hown, hgrow, hbk⟩ := run_append_sl (P := Tryz.prog) w B 42 42 5 i0 _ 1 1 Tryz.underlying42 hi hz0 hz1 hz2 rfl (by decide) v l.length _ h P u k.length _ hu (byV_one k) (by unfold maxLen; omega) (by omega) hB
 refine ⟨v', w', hrun, ?_, Wr.ofGrownOwn hgrow, fun z hz hn hm => ?_⟩
 ·unfold BOwn
  rw [qlaq, List.map_append]
  exact hown
 ·have hm' := mem_ownL.1 hm
  rcases hbk with h1 | h1
  ·exact hn (mem_ownL.2 (h1 ▸ hm'))
  ·rw [h1] at hm'
   injection hm' with hm'
   omega
theorem strCells_by (s : ByteArray) : Lib.strCells s = s.data.toList.map byV := by
 rw [Lib.strCells_eq]
 rfl
theorem BOwn.str (h : BOwn B v l w) (s : ByteArray) (hl : l.length + s.size ≤ 100000000) (hB : B ≤ w.heap.size) :
  ∃ v' w', (Builtin.append_ #[42, 9] 42 #[v, .string s]).run Tryz.prog w = .ok v' w' ∧ BOwn B v' (l ++ s.data.toList) w' ∧ Wr (ownL v) w w' := by
 obtain ⟨i0, hi, hz0, hz1, hz2⟩ := info_parts info_u8
 obtain ⟨v', w', hrun, hown, hgrow, _⟩ := Lib.run_append_own_string (P := Tryz.prog) w B 42 9 42 5 i0 Tryz.underlying42 Tryz.underlying9 hi hz0 hz1 hz2 v l.length _ h s (by unfold maxLen; omega) (by omega) hB
 refine ⟨v', w', hrun, ?_, Wr.ofGrownOwn hgrow⟩
 unfold BOwn
 rw [qlaq, List.map_append, ← strCells_by]
 exact hown
theorem BOwn.blk {g : Nat} (hb : Blk w g 5 (l.map byV).toArray) (hB : B ≤ g) (hl : l.length ≤ maxLen) : BOwn B (.slice (some ⟨g, 0, none⟩) l.length l.length) l w :=
 ⟨by simp, .inr ⟨g, l.length, (l.map byV).toArray, rfl, hB, hb, Nat.le_refl _, hl, by simp, by rw [List.take_of_length_le (by simp)]⟩⟩
theorem BOwn.wr (h : BOwn B v l w) {w0 : World} (r : Wr [] w0 w) (hw : w0.heap.size ≤ B) (k : Wr (ownL v) w w') : Wr [] w0 w' :=
 r.trans' k (fun x hx => .inr (Nat.le_trans hw (own_ge h x hx)))
end
def truN (b : Bool) : Nat := if b then 1 else 0
end Go.Proofs.YtildcdgobdfieaaGreat
