/- slices.Equal of procedures, numbers, words, uses: walked. No conditions. -/
import Derived.Test.YtildcdgobdfieaaGreatRD21
import Derived.Laws.StructEq
set_option linter.unusedVariables false
set_option linter.unusedSimpArgs false
set_option maxRecDepth 100000
set_option maxHeartbeats 32000000
namespace Go.Proofs.YtildcdgobdfieaaGreat
open Go.RowKit
def SameE (r : Bool) (w : World) (e : Ending) (w' : World) : Prop := e = .returned (.bool r) ∧ Wr [] w w'
theorem u16_atS {w : World} {P : Nat → Prop} {v : Value} {l : List Int} (h : SlU16 w P v l) {i : Nat} {x : Int} (hi : l[i]? = some x) : ∃ b off c, v = .slice (some ⟨b, off, none⟩) l.length c ∧ l.length ≤ c ∧ c ≤ maxLen ∧ w.cell? ⟨b, off + i, none⟩ = some (.int .u16 x) := by
 obtain ⟨b, off, c, e, h1, h2, _, h4⟩ := Sl.at_ h (j := i) (u := .int .u16 x) (by rw [qgmq, hi]; rfl)
 exact ⟨b, off, c, e, h1, h2, h4⟩
theorem equal_use (l m : List UseD) (v1 v2 : Value) (P Q : Nat → Prop) (w : World) (h1 : SlUses w P v1 l) (h2 : SlUses w Q v2 m) :
  Calls Tryz.prog 50 #[v1, v2] w (SameE (eqB l m) w) := by
 obtain ⟨A1, a1, rfl, l1, l2⟩ := Sl.form h1
 obtain ⟨A2, a2, rfl, m1, m2⟩ := Sl.form h2
 unfold maxLen at l2 m2
 have H1 := qh h1
 have H2 := qh h2
 obtain ⟨r, hr⟩ : ∃ r, eqB l m = r := ⟨_, rfl⟩
 rw [hr]
 have HR := qh hr
 clear h1 h2 hr
 by_cases hlen : l.length = m.length
 ·have e1 : ((l.length : Int) == (m.length : Int)) = true := by simp [hlen]
  have e2 : ((l.length : Int) != (m.length : Int)) = false := by simp [hlen]
  have e3 : m.length ≤ l.length := by omega
  have e4 : l.length ≤ m.length := by omega
  have HL := qh hlen
  clear hlen
  go_in
  go_wp2_with fail
  go_loopw [13] (fun sl wr => ∃ k : Nat, k ≤ l.length ∧ sl = .int .i64 k ∧ l.take k = m.take k ∧ Wr [] w wr) (fun sl _ => l.length - (intOf sl).toNat)
  case atStart => exact ⟨0, by omega, rfl, by simp, Wr.refl _ _⟩
  case round =>
   obtain ⟨k, hk, rfl, htk, rk⟩ := hrel
   have RK := qh rk
   have HTK := qh htk
   clear rk htk
   by_cases hlt : k < l.length
   ·obtain ⟨u, hu⟩ : ∃ u, l[k]? = some u := ⟨_, qgeq hlt⟩
    obtain ⟨v, hv⟩ : ∃ v, m[k]? = some v := ⟨_, qgeq (by omega)⟩
    obtain ⟨p1, o1, c1', q1, _, _, hc1⟩ := use_at (Sl.wr0 H1.out RK.out) hu
    obtain ⟨p2, o2, c2', q2, _, _, hc2⟩ := use_at (Sl.wr0 H2.out RK.out) hv
    injection q1 with q11 _ q12
    injection q2 with q21 _ q22
    subst q11 q12 q21 q22
    have x0 := hc1 0 _ rfl
    have y0 := hc2 0 _ rfl
    have x1 := hc1 1 _ rfl
    have y1 := hc2 1 _ rfl
    simp only [Nat.add_zero] at x0 y0
    clear hc1 hc2
    have h0 : (0 : Int) ≤ (k : Int) := by omega
    have h1k : (k : Int) < (l.length : Int) := by omega
    have h2k : (k : Int) < (m.length : Int) := by omega
    by_cases h_module : u.module = v.module
    ·have i_module : (u.module.toList == v.module.toList) = true := by rw [h_module]; exact str_eq _
     have k_module : u.module.toList = v.module.toList := by rw [h_module]
     by_cases h_key : u.key = v.key
     ·have i_key : (u.key == v.key) = true := by simp [h_key]
      have k_key : (u.key != v.key) = false := by simp [h_key]
      have huv : u = v := by obtain ⟨a0, a1⟩ := u; obtain ⟨d0, d1⟩ := v; simp only at h_module h_key; subst h_module h_key; rfl
      have hnx := qh (same_next (x := u) HTK.out hu (by rw [huv]; exact hv))
      clear hu hv huv
      go_wp2_with fail
      go_quiet (fail)
      go_wp2_with fail
      go_roundw
      case rel => exact ⟨k + 1, by omega, by go_num, hnx.out, RK.out.trans ((Wr.refl _ _).drewN _)⟩
      case measure => simp [intOf]; omega
     ·have hne : u ≠ v := fun e => h_key (by rw [e])
      have i_key : (u.key == v.key) = false := by simpa using h_key
      have k_key : (u.key != v.key) = true := by simpa using h_key
      have hres := qh (eqB_false (ne_at hu hv hne))
      clear hu hv hne
      go_wp2_with fail
      go_quiet (fail)
      go_wp2_with fail
      go_ret
      exact ⟨by rw [← HR.out, hres.out]; rfl, RK.out.trans ((Wr.refl _ _).drewN _)⟩
    ·have hne : u ≠ v := fun e => h_module (by rw [e])
     have i_module : (u.module.toList == v.module.toList) = false := str_ne h_module
     have k_module : ¬ u.module.toList = v.module.toList := by have := str_ne h_module; rw [beq_eq_false_iff_ne] at this; exact this
     have hres := qh (eqB_false (ne_at hu hv hne))
     clear hu hv hne
     go_wp2_with fail
     go_quiet (fail)
     go_wp2_with fail
     go_ret
     exact ⟨by rw [← HR.out, hres.out]; rfl, RK.out.trans ((Wr.refl _ _).drewN _)⟩
   ·obtain rfl : k = l.length := by omega
    have hres := qh (eqB_true (take_full HL.out HTK.out))
    go_wp2_with fail
    go_ret
    exact ⟨by rw [← HR.out, hres.out]; rfl, RK.out⟩
 ·have e1 : ((l.length : Int) == (m.length : Int)) = false := by simp only [beq_eq_false_iff_ne, ne_eq]; omega
  have e2 : ((l.length : Int) != (m.length : Int)) = true := by simp only [bne_iff_ne, ne_eq]; omega
  have hres := qh (eqB_false (fun e : l = m => hlen (by rw [e])))
  go_in
  go_wp2_with fail
  go_ret
  exact ⟨by rw [← HR.out, hres.out]; rfl, Wr.refl _ _⟩
theorem equal_prc (l m : List PrcD) (v1 v2 : Value) (P Q : Nat → Prop) (w : World) (h1 : SlPrcs w P v1 l) (h2 : SlPrcs w Q v2 m) :
  Calls Tryz.prog 79 #[v1, v2] w (SameE (eqB l m) w) := by
 obtain ⟨A1, a1, rfl, l1, l2⟩ := Sl.form h1
 obtain ⟨A2, a2, rfl, m1, m2⟩ := Sl.form h2
 unfold maxLen at l2 m2
 have H1 := qh h1
 have H2 := qh h2
 obtain ⟨r, hr⟩ : ∃ r, eqB l m = r := ⟨_, rfl⟩
 rw [hr]
 have HR := qh hr
 clear h1 h2 hr
 by_cases hlen : l.length = m.length
 ·have e1 : ((l.length : Int) == (m.length : Int)) = true := by simp [hlen]
  have e2 : ((l.length : Int) != (m.length : Int)) = false := by simp [hlen]
  have e3 : m.length ≤ l.length := by omega
  have e4 : l.length ≤ m.length := by omega
  have HL := qh hlen
  clear hlen
  go_in
  go_wp2_with fail
  go_loopw [13] (fun sl wr => ∃ k : Nat, k ≤ l.length ∧ sl = .int .i64 k ∧ l.take k = m.take k ∧ Wr [] w wr) (fun sl _ => l.length - (intOf sl).toNat)
  case atStart => exact ⟨0, by omega, rfl, by simp, Wr.refl _ _⟩
  case round =>
   obtain ⟨k, hk, rfl, htk, rk⟩ := hrel
   have RK := qh rk
   have HTK := qh htk
   clear rk htk
   by_cases hlt : k < l.length
   ·obtain ⟨u, hu⟩ : ∃ u, l[k]? = some u := ⟨_, qgeq hlt⟩
    obtain ⟨v, hv⟩ : ∃ v, m[k]? = some v := ⟨_, qgeq (by omega)⟩
    obtain ⟨p1, o1, c1', q1, _, _, hc1⟩ := prc_at (Sl.wr0 H1.out RK.out) hu
    obtain ⟨p2, o2, c2', q2, _, _, hc2⟩ := prc_at (Sl.wr0 H2.out RK.out) hv
    injection q1 with q11 _ q12
    injection q2 with q21 _ q22
    subst q11 q12 q21 q22
    have x0 := hc1 0 _ rfl
    have y0 := hc2 0 _ rfl
    have x1 := hc1 1 _ rfl
    have y1 := hc2 1 _ rfl
    have x2 := hc1 2 _ rfl
    have y2 := hc2 2 _ rfl
    have x3 := hc1 3 _ rfl
    have y3 := hc2 3 _ rfl
    have x4 := hc1 4 _ rfl
    have y4 := hc2 4 _ rfl
    have x5 := hc1 5 _ rfl
    have y5 := hc2 5 _ rfl
    simp only [Nat.add_zero] at x0 y0
    clear hc1 hc2
    have h0 : (0 : Int) ≤ (k : Int) := by omega
    have h1k : (k : Int) < (l.length : Int) := by omega
    have h2k : (k : Int) < (m.length : Int) := by omega
    by_cases h_at_ : u.at_ = v.at_
    ·have i_at_ : (u.at_ == v.at_) = true := by simp [h_at_]
     have k_at_ : (u.at_ != v.at_) = false := by simp [h_at_]
     by_cases h_params : u.params = v.params
     ·have i_params : (u.params == v.params) = true := by simp [h_params]
      have k_params : (u.params != v.params) = false := by simp [h_params]
      by_cases h_locals : u.locals = v.locals
      ·have i_locals : (u.locals == v.locals) = true := by simp [h_locals]
       have k_locals : (u.locals != v.locals) = false := by simp [h_locals]
       by_cases h_depth : u.depth = v.depth
       ·have i_depth : (u.depth == v.depth) = true := by simp [h_depth]
        have k_depth : (u.depth != v.depth) = false := by simp [h_depth]
        by_cases h_level : u.level = v.level
        ·have i_level : (u.level == v.level) = true := by simp [h_level]
         have k_level : (u.level != v.level) = false := by simp [h_level]
         by_cases h_func : u.func = v.func
         ·have i_func : (u.func == v.func) = true := by simp [h_func]
          have k_func : (u.func != v.func) = false := by simp [h_func]
          have huv : u = v := by obtain ⟨a0, a1, a2, a3, a4, a5⟩ := u; obtain ⟨d0, d1, d2, d3, d4, d5⟩ := v; simp only at h_at_ h_params h_locals h_depth h_level h_func; subst h_at_ h_params h_locals h_depth h_level h_func; rfl
          have hnx := qh (same_next (x := u) HTK.out hu (by rw [huv]; exact hv))
          clear hu hv huv
          go_wp2_with fail
          go_quiet (fail)
          go_wp2_with fail
          go_roundw
          case rel => exact ⟨k + 1, by omega, by go_num, hnx.out, RK.out.trans ((Wr.refl _ _).drewN _)⟩
          case measure => simp [intOf]; omega
         ·have hne : u ≠ v := fun e => h_func (by rw [e])
          have i_func : (u.func == v.func) = false := by simpa using h_func
          have k_func : (u.func != v.func) = true := by simpa using h_func
          have hres := qh (eqB_false (ne_at hu hv hne))
          clear hu hv hne
          go_wp2_with fail
          go_quiet (fail)
          go_wp2_with fail
          go_ret
          exact ⟨by rw [← HR.out, hres.out]; rfl, RK.out.trans ((Wr.refl _ _).drewN _)⟩
        ·have hne : u ≠ v := fun e => h_level (by rw [e])
         have i_level : (u.level == v.level) = false := by simpa using h_level
         have k_level : (u.level != v.level) = true := by simpa using h_level
         have hres := qh (eqB_false (ne_at hu hv hne))
         clear hu hv hne
         go_wp2_with fail
         go_quiet (fail)
         go_wp2_with fail
         go_ret
         exact ⟨by rw [← HR.out, hres.out]; rfl, RK.out.trans ((Wr.refl _ _).drewN _)⟩
       ·have hne : u ≠ v := fun e => h_depth (by rw [e])
        have i_depth : (u.depth == v.depth) = false := by simpa using h_depth
        have k_depth : (u.depth != v.depth) = true := by simpa using h_depth
        have hres := qh (eqB_false (ne_at hu hv hne))
        clear hu hv hne
        go_wp2_with fail
        go_quiet (fail)
        go_wp2_with fail
        go_ret
        exact ⟨by rw [← HR.out, hres.out]; rfl, RK.out.trans ((Wr.refl _ _).drewN _)⟩
      ·have hne : u ≠ v := fun e => h_locals (by rw [e])
       have i_locals : (u.locals == v.locals) = false := by simpa using h_locals
       have k_locals : (u.locals != v.locals) = true := by simpa using h_locals
       have hres := qh (eqB_false (ne_at hu hv hne))
       clear hu hv hne
       go_wp2_with fail
       go_quiet (fail)
       go_wp2_with fail
       go_ret
       exact ⟨by rw [← HR.out, hres.out]; rfl, RK.out.trans ((Wr.refl _ _).drewN _)⟩
     ·have hne : u ≠ v := fun e => h_params (by rw [e])
      have i_params : (u.params == v.params) = false := by simpa using h_params
      have k_params : (u.params != v.params) = true := by simpa using h_params
      have hres := qh (eqB_false (ne_at hu hv hne))
      clear hu hv hne
      go_wp2_with fail
      go_quiet (fail)
      go_wp2_with fail
      go_ret
      exact ⟨by rw [← HR.out, hres.out]; rfl, RK.out.trans ((Wr.refl _ _).drewN _)⟩
    ·have hne : u ≠ v := fun e => h_at_ (by rw [e])
     have i_at_ : (u.at_ == v.at_) = false := by simpa using h_at_
     have k_at_ : (u.at_ != v.at_) = true := by simpa using h_at_
     have hres := qh (eqB_false (ne_at hu hv hne))
     clear hu hv hne
     go_wp2_with fail
     go_quiet (fail)
     go_wp2_with fail
     go_ret
     exact ⟨by rw [← HR.out, hres.out]; rfl, RK.out.trans ((Wr.refl _ _).drewN _)⟩
   ·obtain rfl : k = l.length := by omega
    have hres := qh (eqB_true (take_full HL.out HTK.out))
    go_wp2_with fail
    go_ret
    exact ⟨by rw [← HR.out, hres.out]; rfl, RK.out⟩
 ·have e1 : ((l.length : Int) == (m.length : Int)) = false := by simp only [beq_eq_false_iff_ne, ne_eq]; omega
  have e2 : ((l.length : Int) != (m.length : Int)) = true := by simp only [bne_iff_ne, ne_eq]; omega
  have hres := qh (eqB_false (fun e : l = m => hlen (by rw [e])))
  go_in
  go_wp2_with fail
  go_ret
  exact ⟨by rw [← HR.out, hres.out]; rfl, Wr.refl _ _⟩
theorem equal_i64 (l m : List Int) (v1 v2 : Value) (P Q : Nat → Prop) (w : World) (h1 : SlI64 w P v1 l) (h2 : SlI64 w Q v2 m) :
  Calls Tryz.prog 80 #[v1, v2] w (SameE (eqB l m) w) := by
 obtain ⟨A1, a1, rfl, l1, l2⟩ := Sl.form h1
 obtain ⟨A2, a2, rfl, m1, m2⟩ := Sl.form h2
 unfold maxLen at l2 m2
 have H1 := qh h1
 have H2 := qh h2
 obtain ⟨r, hr⟩ : ∃ r, eqB l m = r := ⟨_, rfl⟩
 rw [hr]
 have HR := qh hr
 clear h1 h2 hr
 by_cases hlen : l.length = m.length
 ·have e1 : ((l.length : Int) == (m.length : Int)) = true := by simp [hlen]
  have e2 : ((l.length : Int) != (m.length : Int)) = false := by simp [hlen]
  have e3 : m.length ≤ l.length := by omega
  have e4 : l.length ≤ m.length := by omega
  have HL := qh hlen
  clear hlen
  go_in
  go_wp2_with fail
  go_loopw [13] (fun sl wr => ∃ k : Nat, k ≤ l.length ∧ sl = .int .i64 k ∧ l.take k = m.take k ∧ Wr [] w wr) (fun sl _ => l.length - (intOf sl).toNat)
  case atStart => exact ⟨0, by omega, rfl, by simp, Wr.refl _ _⟩
  case round =>
   obtain ⟨k, hk, rfl, htk, rk⟩ := hrel
   have RK := qh rk
   have HTK := qh htk
   clear rk htk
   by_cases hlt : k < l.length
   ·obtain ⟨u, hu⟩ : ∃ u, l[k]? = some u := ⟨_, qgeq hlt⟩
    obtain ⟨v, hv⟩ : ∃ v, m[k]? = some v := ⟨_, qgeq (by omega)⟩
    obtain ⟨p1, o1, c1', q1, _, _, hc1⟩ := i64_at (Sl.wr0 H1.out RK.out) hu
    obtain ⟨p2, o2, c2', q2, _, _, hc2⟩ := i64_at (Sl.wr0 H2.out RK.out) hv
    injection q1 with q11 _ q12
    injection q2 with q21 _ q22
    subst q11 q12 q21 q22
    have x0 := hc1
    have y0 := hc2
    have h0 : (0 : Int) ≤ (k : Int) := by omega
    have h1k : (k : Int) < (l.length : Int) := by omega
    have h2k : (k : Int) < (m.length : Int) := by omega
    by_cases h_x : u = v
    ·have i_x : (u == v) = true := by simp [h_x]
     have k_x : (u != v) = false := by simp [h_x]
     have huv : u = v := h_x
     have hnx := qh (same_next (x := u) HTK.out hu (by rw [huv]; exact hv))
     clear hu hv huv
     go_wp2_with fail
     go_quiet (fail)
     go_wp2_with fail
     go_roundw
     case rel => exact ⟨k + 1, by omega, by go_num, hnx.out, RK.out.trans ((Wr.refl _ _).drewN _)⟩
     case measure => simp [intOf]; omega
    ·have hne : u ≠ v := fun e => h_x (by rw [e])
     have i_x : (u == v) = false := by simpa using h_x
     have k_x : (u != v) = true := by simpa using h_x
     have hres := qh (eqB_false (ne_at hu hv hne))
     clear hu hv hne
     go_wp2_with fail
     go_quiet (fail)
     go_wp2_with fail
     go_ret
     exact ⟨by rw [← HR.out, hres.out]; rfl, RK.out.trans ((Wr.refl _ _).drewN _)⟩
   ·obtain rfl : k = l.length := by omega
    have hres := qh (eqB_true (take_full HL.out HTK.out))
    go_wp2_with fail
    go_ret
    exact ⟨by rw [← HR.out, hres.out]; rfl, RK.out⟩
 ·have e1 : ((l.length : Int) == (m.length : Int)) = false := by simp only [beq_eq_false_iff_ne, ne_eq]; omega
  have e2 : ((l.length : Int) != (m.length : Int)) = true := by simp only [bne_iff_ne, ne_eq]; omega
  have hres := qh (eqB_false (fun e : l = m => hlen (by rw [e])))
  go_in
  go_wp2_with fail
  go_ret
  exact ⟨by rw [← HR.out, hres.out]; rfl, Wr.refl _ _⟩
theorem equal_u16 (l m : List Int) (v1 v2 : Value) (P Q : Nat → Prop) (w : World) (h1 : SlU16 w P v1 l) (h2 : SlU16 w Q v2 m) :
  Calls Tryz.prog 81 #[v1, v2] w (SameE (eqB l m) w) := by
 obtain ⟨A1, a1, rfl, l1, l2⟩ := Sl.form h1
 obtain ⟨A2, a2, rfl, m1, m2⟩ := Sl.form h2
 unfold maxLen at l2 m2
 have H1 := qh h1
 have H2 := qh h2
 obtain ⟨r, hr⟩ : ∃ r, eqB l m = r := ⟨_, rfl⟩
 rw [hr]
 have HR := qh hr
 clear h1 h2 hr
 by_cases hlen : l.length = m.length
 ·have e1 : ((l.length : Int) == (m.length : Int)) = true := by simp [hlen]
  have e2 : ((l.length : Int) != (m.length : Int)) = false := by simp [hlen]
  have e3 : m.length ≤ l.length := by omega
  have e4 : l.length ≤ m.length := by omega
  have HL := qh hlen
  clear hlen
  go_in
  go_wp2_with fail
  go_loopw [13] (fun sl wr => ∃ k : Nat, k ≤ l.length ∧ sl = .int .i64 k ∧ l.take k = m.take k ∧ Wr [] w wr) (fun sl _ => l.length - (intOf sl).toNat)
  case atStart => exact ⟨0, by omega, rfl, by simp, Wr.refl _ _⟩
  case round =>
   obtain ⟨k, hk, rfl, htk, rk⟩ := hrel
   have RK := qh rk
   have HTK := qh htk
   clear rk htk
   by_cases hlt : k < l.length
   ·obtain ⟨u, hu⟩ : ∃ u, l[k]? = some u := ⟨_, qgeq hlt⟩
    obtain ⟨v, hv⟩ : ∃ v, m[k]? = some v := ⟨_, qgeq (by omega)⟩
    obtain ⟨p1, o1, c1', q1, _, _, hc1⟩ := u16_atS (Sl.wr0 H1.out RK.out) hu
    obtain ⟨p2, o2, c2', q2, _, _, hc2⟩ := u16_atS (Sl.wr0 H2.out RK.out) hv
    injection q1 with q11 _ q12
    injection q2 with q21 _ q22
    subst q11 q12 q21 q22
    have x0 := hc1
    have y0 := hc2
    have h0 : (0 : Int) ≤ (k : Int) := by omega
    have h1k : (k : Int) < (l.length : Int) := by omega
    have h2k : (k : Int) < (m.length : Int) := by omega
    by_cases h_x : u = v
    ·have i_x : (u == v) = true := by simp [h_x]
     have k_x : (u != v) = false := by simp [h_x]
     have huv : u = v := h_x
     have hnx := qh (same_next (x := u) HTK.out hu (by rw [huv]; exact hv))
     clear hu hv huv
     go_wp2_with fail
     go_quiet (fail)
     go_wp2_with fail
     go_roundw
     case rel => exact ⟨k + 1, by omega, by go_num, hnx.out, RK.out.trans ((Wr.refl _ _).drewN _)⟩
     case measure => simp [intOf]; omega
    ·have hne : u ≠ v := fun e => h_x (by rw [e])
     have i_x : (u == v) = false := by simpa using h_x
     have k_x : (u != v) = true := by simpa using h_x
     have hres := qh (eqB_false (ne_at hu hv hne))
     clear hu hv hne
     go_wp2_with fail
     go_quiet (fail)
     go_wp2_with fail
     go_ret
     exact ⟨by rw [← HR.out, hres.out]; rfl, RK.out.trans ((Wr.refl _ _).drewN _)⟩
   ·obtain rfl : k = l.length := by omega
    have hres := qh (eqB_true (take_full HL.out HTK.out))
    go_wp2_with fail
    go_ret
    exact ⟨by rw [← HR.out, hres.out]; rfl, RK.out⟩
 ·have e1 : ((l.length : Int) == (m.length : Int)) = false := by simp only [beq_eq_false_iff_ne, ne_eq]; omega
  have e2 : ((l.length : Int) != (m.length : Int)) = true := by simp only [bne_iff_ne, ne_eq]; omega
  have hres := qh (eqB_false (fun e : l = m => hlen (by rw [e])))
  go_in
  go_wp2_with fail
  go_ret
  exact ⟨by rw [← HR.out, hres.out]; rfl, Wr.refl _ _⟩
theorem mod_ext (a b : ModD) (h1 : a.code = b.code) (h2 : a.procs = b.procs) (h3 : a.imports = b.imports) (h4 : a.data = b.data) (h5 : a.init = b.init) : a = b := by
 obtain ⟨a1, a2, a3, a4, a5⟩ := a
 obtain ⟨b1, b2, b3, b4, b5⟩ := b
 simp only at h1 h2 h3 h4 h5
 subst h1 h2 h3 h4 h5
 rfl
theorem obj_ext (a b : ObjD) (h1 : a.module = b.module) (h2 : a.main = b.main) (h3 : a.key = b.key) (h4 : a.uses = b.uses) (h5 : a.mod = b.mod) : a = b := by
 obtain ⟨a1, a2, a3, a4, a5⟩ := a
 obtain ⟨b1, b2, b3, b4, b5⟩ := b
 simp only at h1 h2 h3 h4 h5
 subst h1 h2 h3 h4 h5
 rfl
theorem osamemod_any (a b : ModD) (vp vi vn up ui un : Value) (P Q : Nat → Prop) (w : World) (hx : ModL w P vp vi vn a) (hy : ModL w Q up ui un b) :
  Calls Tryz.prog 51 #[a.val vp vi vn, b.val up ui un] w (SameE (eqB a b) w) := by
 unfold ModD.val ModD.cells
 obtain ⟨Ap, cp, rfl, lcp, mcp⟩ := Sl.form hx.procs
 obtain ⟨Ai, ci, rfl, lci, mci⟩ := Sl.form hx.imports
 obtain ⟨An, cn, rfl, lcn, mcn⟩ := Sl.form hx.init
 obtain ⟨Bp, dp, rfl, ldp, mdp⟩ := Sl.form hy.procs
 obtain ⟨Bi, di, rfl, ldi, mdi⟩ := Sl.form hy.imports
 obtain ⟨Bn, dn, rfl, ldn, mdn⟩ := Sl.form hy.init
 unfold maxLen at mcp mci mcn mdp mdi mdn
 obtain ⟨wa, hwa⟩ : ∃ q, w.alloc (.cells #[.string a.code, .slice Ap a.procs.length cp, .slice Ai a.imports.length ci, .int .i64 a.data, .slice An a.init.length cn] 28) = q := ⟨_, rfl⟩
 obtain ⟨g, hg⟩ : ∃ q, w.heap.size = q := ⟨_, rfl⟩
 have sa : wa.heap.size = g + 1 := by rw [← hwa, qsiq, hg]
 obtain ⟨w0, hw0⟩ : ∃ q, wa.alloc (.cells #[.string b.code, .slice Bp b.procs.length dp, .slice Bi b.imports.length di, .int .i64 b.data, .slice Bn b.init.length dn] 28) = q := ⟨_, rfl⟩
 have ra : Wr [] w wa := by rw [← hwa]; exact (Wr.refl _ _).alloc _
 have rb : Wr [] wa w0 := by rw [← hw0]; exact (Wr.refl _ _).alloc _
 have bX : Blk w0 g 28 #[.string a.code, .slice Ap a.procs.length cp, .slice Ai a.imports.length ci, .int .i64 a.data, .slice An a.init.length cn] := by
  have := (show Blk wa g 28 #[.string a.code, .slice Ap a.procs.length cp, .slice Ai a.imports.length ci, .int .i64 a.data, .slice An a.init.length cn] by rw [← hwa, ← hg]; exact Blk.new _ _ _)
  exact this.wr0 rb
 have bY : Blk w0 (g + 1) 28 #[.string b.code, .slice Bp b.procs.length dp, .slice Bi b.imports.length di, .int .i64 b.data, .slice Bn b.init.length dn] := by rw [← hw0, ← sa]; exact Blk.new _ _ _
 have hw0' : (w.alloc (.cells #[.string a.code, .slice Ap a.procs.length cp, .slice Ai a.imports.length ci, .int .i64 a.data, .slice An a.init.length cn] 28)).alloc (.cells #[.string b.code, .slice Bp b.procs.length dp, .slice Bi b.imports.length di, .int .i64 b.data, .slice Bn b.init.length dn] 28) = w0 := by rw [hwa, hw0]
 have acc := ra.trans rb
 have HX := qh (hx.wr0 acc)
 have HY := qh (hy.wr0 acc)
 obtain ⟨x0, x1, x2, x3, x4⟩ := c5q (bX)
 have y0 := (bY).cell 0
 have y1 := (bY).cell 1
 have y2 := (bY).cell 2
 have y3 := (bY).cell 3
 have y4 := (bY).cell 4
 simp only [qgaq, qgzq, qgsq] at y0 y1 y2 y3 y4
 have ACC := qh acc
 have BX := qh bX
 have BY := qh bY
 have Hw0 := qh hw0'
 have Hg := qh hg
 obtain ⟨r, hr⟩ : ∃ r, eqB a b = r := ⟨_, rfl⟩
 rw [hr]
 have HR := qh hr
 clear hx hy hwa hw0 hw0' hg sa ra rb acc bX bY hr
 go_in
 go_upto_region 1 with (fail)
 rw [Hw0.out, Hg.out]
 have HC1 := qh (fun W (hW : Wr [] w0 W) => equal_prc a.procs b.procs _ _ _ _ W (Sl.wr0 HX.out.procs hW) (Sl.wr0 HY.out.procs hW))
 have HC2 := qh (fun W (hW : Wr [] w0 W) => equal_i64 a.imports b.imports _ _ _ _ W (Sl.wr0 HX.out.imports hW) (Sl.wr0 HY.out.imports hW))
 have HC3 := qh (fun W (hW : Wr [] w0 W) => equal_u16 a.init b.init _ _ _ _ W (Sl.wr0 HX.out.init hW) (Sl.wr0 HY.out.init hW))
 by_cases h_code : a.code = b.code
 ·have i_code : (a.code.toList == b.code.toList) = true := by rw [h_code]; exact str_eq _
  have k_code : a.code.toList = b.code.toList := by rw [h_code]
  have H_code := qh h_code
  clear h_code
  go_wp2_with fail
  refine (HC1.out _ (Wr.refl [] w0)).mono ?_
  rintro e w1 ⟨rfl, k1⟩
  have R1 := qh (((Wr.refl [] w0)).trans k1)
  replace x2 := k1.cellOf x2 (by simp)
  replace y2 := k1.cellOf y2 (by simp)
  replace x3 := k1.cellOf x3 (by simp)
  replace y3 := k1.cellOf y3 (by simp)
  replace x4 := k1.cellOf x4 (by simp)
  replace y4 := k1.cellOf y4 (by simp)
  obtain ⟨r1, hr1⟩ : ∃ q, eqB a.procs b.procs = q := ⟨_, rfl⟩
  rw [hr1]
  clear k1
  cases r1 with
  | false =>
   have h_1 : ¬ a.procs = b.procs := fun e => by rw [eqB_true e] at hr1; cases hr1
   have hres := qh (eqB_false (fun e : a = b => h_1 (by rw [e])))
   clear h_1 hr1
   go_wp2_with fail
   go_ret
   exact ⟨by rw [← HR.out, hres.out]; rfl, ACC.out.trans R1.out⟩
  | true =>
   have H_1 := qh (eqB_iff.1 hr1)
   clear hr1
   go_wp2_with fail
   refine (HC2.out _ R1.out).mono ?_
   rintro e w2 ⟨rfl, k2⟩
   have R2 := qh ((R1.out).trans k2)
   replace x3 := k2.cellOf x3 (by simp)
   replace y3 := k2.cellOf y3 (by simp)
   replace x4 := k2.cellOf x4 (by simp)
   replace y4 := k2.cellOf y4 (by simp)
   obtain ⟨r2, hr2⟩ : ∃ q, eqB a.imports b.imports = q := ⟨_, rfl⟩
   rw [hr2]
   clear k2
   cases r2 with
   | false =>
    have h_2 : ¬ a.imports = b.imports := fun e => by rw [eqB_true e] at hr2; cases hr2
    have hres := qh (eqB_false (fun e : a = b => h_2 (by rw [e])))
    clear h_2 hr2
    go_wp2_with fail
    go_ret
    exact ⟨by rw [← HR.out, hres.out]; rfl, ACC.out.trans R2.out⟩
   | true =>
    have H_2 := qh (eqB_iff.1 hr2)
    clear hr2
    by_cases h_data : a.data = b.data
    ·have i_data : (a.data == b.data) = true := by simp [h_data]
     have k_data : (a.data != b.data) = false := by simp [h_data]
     have H_data := qh h_data
     clear h_data
     go_wp2_with fail
     refine (HC3.out _ R2.out).mono ?_
     rintro e w3 ⟨rfl, k3⟩
     have R3 := qh ((R2.out).trans k3)
     obtain ⟨r3, hr3⟩ : ∃ q, eqB a.init b.init = q := ⟨_, rfl⟩
     rw [hr3]
     clear k3
     cases r3 with
     | false =>
      have h_3 : ¬ a.init = b.init := fun e => by rw [eqB_true e] at hr3; cases hr3
      have hres := qh (eqB_false (fun e : a = b => h_3 (by rw [e])))
      clear h_3 hr3
      go_wp2_with fail
      go_ret
      exact ⟨by rw [← HR.out, hres.out]; rfl, ACC.out.trans R3.out⟩
     | true =>
      have H_3 := qh (eqB_iff.1 hr3)
      clear hr3
      have hres := qh (eqB_true (mod_ext a b H_code.out H_1.out H_2.out H_data.out H_3.out))
      go_wp2_with fail
      go_ret
      exact ⟨by rw [← HR.out, hres.out]; rfl, ACC.out.trans R3.out⟩
    ·have i_data : (a.data == b.data) = false := by simpa using h_data
     have k_data : (a.data != b.data) = true := by simpa using h_data
     have hres := qh (eqB_false (fun e : a = b => h_data (by rw [e])))
     clear h_data
     go_wp2_with fail
     go_ret
     exact ⟨by rw [← HR.out, hres.out]; rfl, ACC.out.trans R2.out⟩
 ·have i_code : (a.code.toList == b.code.toList) = false := str_ne h_code
  have k_code : ¬ a.code.toList = b.code.toList := by have := str_ne h_code; rw [beq_eq_false_iff_ne] at this; exact this
  have hres := qh (eqB_false (fun e : a = b => h_code (by rw [e])))
  clear h_code
  go_wp2_with fail
  go_ret
  exact ⟨by rw [← HR.out, hres.out]; rfl, ACC.out⟩
theorem osame_any (a b : ObjD) (vu vp vi vn uu up ui un : Value) (P Q : Nat → Prop) (w : World) (hx : ObjL w P vu vp vi vn a) (hy : ObjL w Q uu up ui un b) :
  Calls Tryz.prog 16 #[a.val vu vp vi vn, b.val uu up ui un] w (SameE (eqB a b) w) := by
 unfold ObjD.val ObjD.cells
 obtain ⟨Au, cu, rfl, lcu, mcu⟩ := Sl.form hx.uses
 obtain ⟨Ap, cp, rfl, lcp, mcp⟩ := Sl.form hx.mod.procs
 obtain ⟨Ai, ci, rfl, lci, mci⟩ := Sl.form hx.mod.imports
 obtain ⟨An, cn, rfl, lcn, mcn⟩ := Sl.form hx.mod.init
 obtain ⟨Bu, du, rfl, ldu, mdu⟩ := Sl.form hy.uses
 obtain ⟨Bp, dp, rfl, ldp, mdp⟩ := Sl.form hy.mod.procs
 obtain ⟨Bi, di, rfl, ldi, mdi⟩ := Sl.form hy.mod.imports
 obtain ⟨Bn, dn, rfl, ldn, mdn⟩ := Sl.form hy.mod.init
 unfold maxLen at mcu mcp mci mcn mdu mdp mdi mdn
 obtain ⟨wa, hwa⟩ : ∃ q, w.alloc (.cells #[.string a.module, .bool a.main, .int .u64 a.key, .slice Au a.uses.length cu, .string a.mod.code, .slice Ap a.mod.procs.length cp, .slice Ai a.mod.imports.length ci, .int .i64 a.mod.data, .slice An a.mod.init.length cn] 30) = q := ⟨_, rfl⟩
 obtain ⟨g, hg⟩ : ∃ q, w.heap.size = q := ⟨_, rfl⟩
 have sa : wa.heap.size = g + 1 := by rw [← hwa, qsiq, hg]
 obtain ⟨w0, hw0⟩ : ∃ q, wa.alloc (.cells #[.string b.module, .bool b.main, .int .u64 b.key, .slice Bu b.uses.length du, .string b.mod.code, .slice Bp b.mod.procs.length dp, .slice Bi b.mod.imports.length di, .int .i64 b.mod.data, .slice Bn b.mod.init.length dn] 30) = q := ⟨_, rfl⟩
 have ra : Wr [] w wa := by rw [← hwa]; exact (Wr.refl _ _).alloc _
 have rb : Wr [] wa w0 := by rw [← hw0]; exact (Wr.refl _ _).alloc _
 have bX : Blk w0 g 30 #[.string a.module, .bool a.main, .int .u64 a.key, .slice Au a.uses.length cu, .string a.mod.code, .slice Ap a.mod.procs.length cp, .slice Ai a.mod.imports.length ci, .int .i64 a.mod.data, .slice An a.mod.init.length cn] := by
  have := (show Blk wa g 30 #[.string a.module, .bool a.main, .int .u64 a.key, .slice Au a.uses.length cu, .string a.mod.code, .slice Ap a.mod.procs.length cp, .slice Ai a.mod.imports.length ci, .int .i64 a.mod.data, .slice An a.mod.init.length cn] by rw [← hwa, ← hg]; exact Blk.new _ _ _)
  exact this.wr0 rb
 have bY : Blk w0 (g + 1) 30 #[.string b.module, .bool b.main, .int .u64 b.key, .slice Bu b.uses.length du, .string b.mod.code, .slice Bp b.mod.procs.length dp, .slice Bi b.mod.imports.length di, .int .i64 b.mod.data, .slice Bn b.mod.init.length dn] := by rw [← hw0, ← sa]; exact Blk.new _ _ _
 have hw0' : (w.alloc (.cells #[.string a.module, .bool a.main, .int .u64 a.key, .slice Au a.uses.length cu, .string a.mod.code, .slice Ap a.mod.procs.length cp, .slice Ai a.mod.imports.length ci, .int .i64 a.mod.data, .slice An a.mod.init.length cn] 30)).alloc (.cells #[.string b.module, .bool b.main, .int .u64 b.key, .slice Bu b.uses.length du, .string b.mod.code, .slice Bp b.mod.procs.length dp, .slice Bi b.mod.imports.length di, .int .i64 b.mod.data, .slice Bn b.mod.init.length dn] 30) = w0 := by rw [hwa, hw0]
 have acc := ra.trans rb
 have HX := qh (hx.wr0 acc)
 have HY := qh (hy.wr0 acc)
 obtain ⟨x0, x1, x2, x3, x4, x5, x6, x7, x8⟩ := c9q (bX)
 have y0 := (bY).cell 0
 have y1 := (bY).cell 1
 have y2 := (bY).cell 2
 have y3 := (bY).cell 3
 have y4 := (bY).cell 4
 have y5 := (bY).cell 5
 have y6 := (bY).cell 6
 have y7 := (bY).cell 7
 have y8 := (bY).cell 8
 simp only [qgaq, qgzq, qgsq] at y0 y1 y2 y3 y4 y5 y6 y7 y8
 have ACC := qh acc
 have BX := qh bX
 have BY := qh bY
 have Hw0 := qh hw0'
 have Hg := qh hg
 obtain ⟨r, hr⟩ : ∃ r, eqB a b = r := ⟨_, rfl⟩
 rw [hr]
 have HR := qh hr
 clear hx hy hwa hw0 hw0' hg sa ra rb acc bX bY hr
 go_in
 go_upto_region 1 with (fail)
 rw [Hw0.out, Hg.out]
 have HC1 := qh (fun W (hW : Wr [] w0 W) => equal_use a.uses b.uses _ _ _ _ W (Sl.wr0 HX.out.uses hW) (Sl.wr0 HY.out.uses hW))
 have hc2 := fun W (hW : Wr [] w0 W) => osamemod_any a.mod b.mod _ _ _ _ _ _ _ _ W (HX.out.mod.wr0 hW) (HY.out.mod.wr0 hW)
 unfold ModD.val ModD.cells at hc2
 have HC2 := qh hc2
 clear hc2
 by_cases h_module : a.module = b.module
 ·have i_module : (a.module.toList == b.module.toList) = true := by rw [h_module]; exact str_eq _
  have k_module : a.module.toList = b.module.toList := by rw [h_module]
  have H_module := qh h_module
  clear h_module
  by_cases h_main : a.main = b.main
  ·have i_main : (a.main == b.main) = true := by simp [h_main]
   have k_main : (a.main != b.main) = false := by simp [h_main]
   have H_main := qh h_main
   clear h_main
   by_cases h_key : a.key = b.key
   ·have i_key : (a.key == b.key) = true := by simp [h_key]
    have k_key : (a.key != b.key) = false := by simp [h_key]
    have H_key := qh h_key
    clear h_key
    go_wp2_with fail
    refine (HC1.out _ (Wr.refl [] w0)).mono ?_
    rintro e w1 ⟨rfl, k1⟩
    have R1 := qh (((Wr.refl [] w0)).trans k1)
    replace x4 := k1.cellOf x4 (by simp)
    replace y4 := k1.cellOf y4 (by simp)
    replace x5 := k1.cellOf x5 (by simp)
    replace y5 := k1.cellOf y5 (by simp)
    replace x6 := k1.cellOf x6 (by simp)
    replace y6 := k1.cellOf y6 (by simp)
    replace x7 := k1.cellOf x7 (by simp)
    replace y7 := k1.cellOf y7 (by simp)
    replace x8 := k1.cellOf x8 (by simp)
    replace y8 := k1.cellOf y8 (by simp)
    obtain ⟨r1, hr1⟩ : ∃ q, eqB a.uses b.uses = q := ⟨_, rfl⟩
    rw [hr1]
    clear k1
    cases r1 with
    | false =>
     have h_1 : ¬ a.uses = b.uses := fun e => by rw [eqB_true e] at hr1; cases hr1
     have hres := qh (eqB_false (fun e : a = b => h_1 (by rw [e])))
     clear h_1 hr1
     go_wp2_with fail
     go_ret
     exact ⟨by rw [← HR.out, hres.out]; rfl, ACC.out.trans R1.out⟩
    | true =>
     have H_1 := qh (eqB_iff.1 hr1)
     clear hr1
     go_wp2_with fail
     refine (HC2.out _ R1.out).mono ?_
     rintro e w2 ⟨rfl, k2⟩
     have R2 := qh ((R1.out).trans k2)
     obtain ⟨r2, hr2⟩ : ∃ q, eqB a.mod b.mod = q := ⟨_, rfl⟩
     rw [hr2]
     clear k2
     cases r2 with
     | false =>
      have h_2 : ¬ a.mod = b.mod := fun e => by rw [eqB_true e] at hr2; cases hr2
      have hres := qh (eqB_false (fun e : a = b => h_2 (by rw [e])))
      clear h_2 hr2
      go_wp2_with fail
      go_ret
      exact ⟨by rw [← HR.out, hres.out]; rfl, ACC.out.trans R2.out⟩
     | true =>
      have H_2 := qh (eqB_iff.1 hr2)
      clear hr2
      have hres := qh (eqB_true (obj_ext a b H_module.out H_main.out H_key.out H_1.out H_2.out))
      go_wp2_with fail
      go_ret
      exact ⟨by rw [← HR.out, hres.out]; rfl, ACC.out.trans R2.out⟩
   ·have i_key : (a.key == b.key) = false := by simpa using h_key
    have k_key : (a.key != b.key) = true := by simpa using h_key
    have hres := qh (eqB_false (fun e : a = b => h_key (by rw [e])))
    clear h_key
    go_wp2_with fail
    go_ret
    exact ⟨by rw [← HR.out, hres.out]; rfl, ACC.out⟩
  ·have i_main : (a.main == b.main) = false := by simpa using h_main
   have k_main : (a.main != b.main) = true := by simpa using h_main
   have hres := qh (eqB_false (fun e : a = b => h_main (by rw [e])))
   clear h_main
   go_wp2_with fail
   go_ret
   exact ⟨by rw [← HR.out, hres.out]; rfl, ACC.out⟩
 ·have i_module : (a.module.toList == b.module.toList) = false := str_ne h_module
  have k_module : ¬ a.module.toList = b.module.toList := by have := str_ne h_module; rw [beq_eq_false_iff_ne] at this; exact this
  have hres := qh (eqB_false (fun e : a = b => h_module (by rw [e])))
  clear h_module
  go_wp2_with fail
  go_ret
  exact ⟨by rw [← HR.out, hres.out]; rfl, ACC.out⟩
end Go.Proofs.YtildcdgobdfieaaGreat
