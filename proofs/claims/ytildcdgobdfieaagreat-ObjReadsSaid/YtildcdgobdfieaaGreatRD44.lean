/- The document's Same: lists of numbers, items: walked. No conditions. -/
import Derived.Test.YtildcdgobdfieaaGreatRD43
set_option linter.unusedVariables false
set_option linter.unusedSimpArgs false
set_option maxRecDepth 100000
set_option maxHeartbeats 32000000
namespace Go.Proofs.YtildcdgobdfieaaGreat
open Go.RowKit
def DrewB (r : Bool) (w : World) (e : Ending) (w' : World) : Prop := e = .returned (.bool r) ∧ ∃ n, w' = w.drewN n
theorem numbers_any (l m : List Int) (va vb : Value) (P Q : Nat → Prop) (w : World) (ha : SlInts w P va l) (hb : SlInts w Q vb m) :
  Calls Tryz.prog 130 #[va, vb] w (DrewB (eqB l m) w) := by
 obtain ⟨A, c, rfl, la, ma⟩ := Sl.form ha
 obtain ⟨B, d, rfl, lb, mb⟩ := Sl.form hb
 unfold maxLen at ma mb
 have HA := qh ha
 have HB := qh hb
 clear ha hb
 by_cases hlen : l.length = m.length
 ·have HLEN := qh hlen
  have hne : ((l.length : Int) != (m.length : Int)) = false := by simp [hlen]
  have hle : m.length ≤ l.length := by omega
  have hge : l.length ≤ m.length := by omega
  clear hlen
  go_in
  go_wp2_with fail
  go_loopw [5] (fun s5 wr => ∃ k : Nat, k ≤ l.length ∧ s5 = .int .i64 k ∧ l.take k = m.take k ∧ ∃ n, wr = w.drewN n) (fun s5 _ => l.length - (intOf s5).toNat)
  case atStart => exact ⟨0, by omega, rfl, by simp, 0, rfl⟩
  case round =>
   obtain ⟨k, hk, rfl, htk, n0, hn0⟩ := hrel
   have hw0 : Wr [] w wr := by rw [hn0]; exact (Wr.refl _ _).drewN _
   have HN0 := qh hn0
   have HTK := qh htk
   clear hn0 htk
   by_cases hlt : k < l.length
   ·obtain ⟨x, hx⟩ : ∃ x, l[k]? = some x := ⟨_, qgeq hlt⟩
    obtain ⟨y, hy⟩ : ∃ y, m[k]? = some y := ⟨_, qgeq (by omega)⟩
    obtain ⟨b1, o1, c1, e1, _, _, _, hc1⟩ := Sl.at_ (Sl.wr0 HA.out hw0) (j := k) (u := .int .i64 x) (by rw [qgmq, hx]; rfl)
    obtain ⟨b2, o2, c2, e2, _, _, _, hc2⟩ := Sl.at_ (Sl.wr0 HB.out hw0) (j := k) (u := .int .i64 y) (by rw [qgmq, hy]; rfl)
    injection e1 with e11 _ e12
    injection e2 with e21 _ e22
    subst e11 e12 e21 e22
    have h0 : (0 : Int) ≤ (k : Int) := by omega
    have h1 : (k : Int) < (l.length : Int) := by omega
    have h2 : (k : Int) < (m.length : Int) := by omega
    by_cases hxy : x = y
    ·subst hxy
     have hnx := qh (same_next HTK.out hx hy)
     clear hx hy
     go_wp2_with fail
     go_quiet (fail)
     go_wp2_with fail
     go_roundw
     case rel => exact ⟨k + 1, by omega, by go_num, hnx.out, _, by rw [HN0.out, World.drewN_drewN]⟩
     case measure => simp [intOf]; omega
    ·have hres := qh (eqB_false (ne_at hx hy hxy))
     clear hx hy
     go_wp2_with fail
     go_quiet (fail)
     go_wp2_with fail
     go_ret
     exact ⟨by rw [hres.out]; rfl, _, by rw [HN0.out, World.drewN_drewN]⟩
   ·obtain rfl : k = l.length := by omega
    have hres := qh (eqB_true (take_full HLEN.out HTK.out))
    go_wp2_with fail
    go_ret
    exact ⟨by rw [hres.out]; rfl, n0, HN0.out⟩
 ·have hres := qh (eqB_false (fun e : l = m => hlen (by rw [e])))
  have hne : ((l.length : Int) != (m.length : Int)) = true := by simpa using (by omega : ¬ (l.length : Int) = (m.length : Int))
  have hne2 : ((l.length : Int) == (m.length : Int)) = false := by simpa using (by omega : ¬ (l.length : Int) = (m.length : Int))
  have hne3 : ¬ l.length = m.length := hlen
  clear hlen
  go_in
  go_wp2_with fail
  go_ret
  exact ⟨by rw [hres.out]; rfl, 0, rfl⟩
theorem arms_any (l m : List ArmD) (va vb : Value) (P Q : Nat → Prop) (w : World) (ha : SlArms w P va l) (hb : SlArms w Q vb m) :
  Calls Tryz.prog 97 #[va, vb] w (DrewB (eqB l m) w) := by
 obtain ⟨xs, ha1, _, ha3⟩ := ha
 obtain ⟨ys, hb1, _, hb3⟩ := hb
 obtain ⟨A, c, rfl, la, ma⟩ := Sl.form ha1
 obtain ⟨B, d, rfl, lb, mb⟩ := Sl.form hb1
 unfold maxLen at ma mb
 have HA := qh ha1
 have HB := qh hb1
 have HA3 := qh ha3
 have HB3 := qh hb3
 clear ha1 hb1 ha3 hb3
 by_cases hlen : l.length = m.length
 ·have HLEN := qh hlen
  have hne : ((l.length : Int) != (m.length : Int)) = false := by simp [hlen]
  have hle : m.length ≤ l.length := by omega
  have hge : l.length ≤ m.length := by omega
  clear hlen
  go_in
  go_wp2_with fail
  go_loopw [5] (fun s5 wr => ∃ k : Nat, k ≤ l.length ∧ s5 = .int .i64 k ∧ l.take k = m.take k ∧ ∃ n, wr = w.drewN n) (fun s5 _ => l.length - (intOf s5).toNat)
  case atStart => exact ⟨0, by omega, rfl, by simp, 0, rfl⟩
  case round =>
   obtain ⟨k, hk, rfl, htk, n0, hn0⟩ := hrel
   have hw0 : Wr [] w wr := by rw [hn0]; exact (Wr.refl _ _).drewN _
   have HN0 := qh hn0
   have HTK := qh htk
   clear hn0 htk
   by_cases hlt : k < l.length
   ·obtain ⟨x, hx⟩ : ∃ x, l[k]? = some x := ⟨_, qgeq hlt⟩
    obtain ⟨y, hy⟩ : ∃ y, m[k]? = some y := ⟨_, qgeq (by omega)⟩
    obtain ⟨u0, u1, f0, f1, f2, sa, sb⟩ := HA3.out k x hx
    obtain ⟨v0, v1, g0, g1, g2, ta, tb⟩ := HB3.out k y hy
    obtain ⟨Q1, m1, rfl, _, _⟩ := Sl.form sa
    obtain ⟨Q2, m2, rfl, _, _⟩ := Sl.form sb
    obtain ⟨R1, p1, rfl, _, _⟩ := Sl.form ta
    obtain ⟨R2, p2, rfl, _, _⟩ := Sl.form tb
    obtain ⟨b1, o1, c1', e1, _, _, _, hc1⟩ := Sl.thing (Sl.wr0 HA.out hw0) (by decide) hlt
    obtain ⟨b2, o2, c2', e2, _, _, _, hc2⟩ := Sl.thing (Sl.wr0 HB.out hw0) (by decide) (by omega : k < m.length)
    injection e1 with e11 _ e12
    injection e2 with e21 _ e22
    subst e11 e12 e21 e22
    have x0 := hc1 0 _ (by decide) f0
    have x1 := hc1 1 _ (by decide) f1
    have x2 := hc1 2 _ (by decide) f2
    have y0 := hc2 0 _ (by decide) g0
    have y1 := hc2 1 _ (by decide) g1
    have y2 := hc2 2 _ (by decide) g2
    simp only [Nat.add_zero, ← Nat.add_assoc] at x0 x1 x2 y0 y1 y2
    have HSA := qh (Sl.wr0 sa hw0)
    have HSB := qh (Sl.wr0 sb hw0)
    have HTA := qh (Sl.wr0 ta hw0)
    have HTB := qh (Sl.wr0 tb hw0)
    have h0 : (0 : Int) ≤ (k : Int) := by omega
    have h1k : (k : Int) < (l.length : Int) := by omega
    have h2k : (k : Int) < (m.length : Int) := by omega
    clear f0 f1 f2 g0 g1 g2 sa sb ta tb hc1 hc2 hw0
    by_cases c1 : x.frm = y.frm
    ·by_cases c2 : x.to = y.to
     ·by_cases c3 : x.els = y.els
      ·have d3 : (x.els != y.els) = false := by simp [c3]
       have d4 : (x.els == y.els) = true := by simp [c3]
       have h1 : ∀ n, Calls Tryz.prog 130 #[.slice Q1 x.frm.length m1, .slice R1 y.frm.length p1] (wr.drewN n) fun e w' => e = .returned (.bool true) ∧ ∃ m, w' = (wr.drewN n).drewN m := fun n => by
        have := numbers_any x.frm y.frm _ _ _ _ (wr.drewN n) (Sl.wr0 HSA.out ((Wr.refl _ _).drewN n)) (Sl.wr0 HTA.out ((Wr.refl _ _).drewN n))
        rw [eqB_true c1] at this
        exact this
       have h2 : ∀ n, Calls Tryz.prog 130 #[.slice Q2 x.to.length m2, .slice R2 y.to.length p2] (wr.drewN n) fun e w' => e = .returned (.bool true) ∧ ∃ m, w' = (wr.drewN n).drewN m := fun n => by
        have := numbers_any x.to y.to _ _ _ _ (wr.drewN n) (Sl.wr0 HSB.out ((Wr.refl _ _).drewN n)) (Sl.wr0 HTB.out ((Wr.refl _ _).drewN n))
        rw [eqB_true c2] at this
        exact this
       have H2 := qh h2
       clear h2
       have H1 := qh h1
       clear h1
       have hxy : x = y := by obtain ⟨a1, a2, a3⟩ := x; obtain ⟨d1, d2, d3⟩ := y; simp only at c1 c2 c3; subst c1 c2 c3; rfl
       have hnx := qh (same_next (x := x) HTK.out hx (by rw [hxy]; exact hy))
       clear hx hy c1 c2 c3 hxy
       go_wp2_with fail
       go_quiet ((go_at_call 130; first | (with_reducible exact Calls.quiet_of (H1.out _)) | (with_reducible exact Calls.quiet_of (H2.out _))))
       go_wp2_with fail
       go_roundw
       case rel => exact ⟨k + 1, by omega, by go_num, hnx.out, _, by rw [HN0.out, World.drewN_drewN]⟩
       case measure => simp [intOf]; omega
      ·have d3 : (x.els != y.els) = true := by simpa using c3
       have d4 : (x.els == y.els) = false := by simpa using c3
       have h1 : ∀ n, Calls Tryz.prog 130 #[.slice Q1 x.frm.length m1, .slice R1 y.frm.length p1] (wr.drewN n) fun e w' => e = .returned (.bool true) ∧ ∃ m, w' = (wr.drewN n).drewN m := fun n => by
        have := numbers_any x.frm y.frm _ _ _ _ (wr.drewN n) (Sl.wr0 HSA.out ((Wr.refl _ _).drewN n)) (Sl.wr0 HTA.out ((Wr.refl _ _).drewN n))
        rw [eqB_true c1] at this
        exact this
       have h2 : ∀ n, Calls Tryz.prog 130 #[.slice Q2 x.to.length m2, .slice R2 y.to.length p2] (wr.drewN n) fun e w' => e = .returned (.bool true) ∧ ∃ m, w' = (wr.drewN n).drewN m := fun n => by
        have := numbers_any x.to y.to _ _ _ _ (wr.drewN n) (Sl.wr0 HSB.out ((Wr.refl _ _).drewN n)) (Sl.wr0 HTB.out ((Wr.refl _ _).drewN n))
        rw [eqB_true c2] at this
        exact this
       have H2 := qh h2
       clear h2
       have H1 := qh h1
       clear h1
       have hres := qh (eqB_false (ne_at hx hy (fun e : x = y => c3 (by rw [e]))))
       clear hx hy c1 c2 c3
       go_wp2_with fail
       go_quiet ((go_at_call 130; first | (with_reducible exact Calls.quiet_of (H1.out _)) | (with_reducible exact Calls.quiet_of (H2.out _))))
       go_wp2_with fail
       go_ret
       exact ⟨by rw [hres.out]; rfl, _, by rw [HN0.out, World.drewN_drewN]⟩
     ·skip
      have h1 : ∀ n, Calls Tryz.prog 130 #[.slice Q1 x.frm.length m1, .slice R1 y.frm.length p1] (wr.drewN n) fun e w' => e = .returned (.bool true) ∧ ∃ m, w' = (wr.drewN n).drewN m := fun n => by
       have := numbers_any x.frm y.frm _ _ _ _ (wr.drewN n) (Sl.wr0 HSA.out ((Wr.refl _ _).drewN n)) (Sl.wr0 HTA.out ((Wr.refl _ _).drewN n))
       rw [eqB_true c1] at this
       exact this
      have h2 : ∀ n, Calls Tryz.prog 130 #[.slice Q2 x.to.length m2, .slice R2 y.to.length p2] (wr.drewN n) fun e w' => e = .returned (.bool false) ∧ ∃ m, w' = (wr.drewN n).drewN m := fun n => by
       have := numbers_any x.to y.to _ _ _ _ (wr.drewN n) (Sl.wr0 HSB.out ((Wr.refl _ _).drewN n)) (Sl.wr0 HTB.out ((Wr.refl _ _).drewN n))
       rw [eqB_false c2] at this
       exact this
      have H2 := qh h2
      clear h2
      have H1 := qh h1
      clear h1
      have hres := qh (eqB_false (ne_at hx hy (fun e : x = y => c2 (by rw [e]))))
      clear hx hy c1 c2
      go_wp2_with fail
      go_quiet ((go_at_call 130; first | (with_reducible exact Calls.quiet_of (H1.out _)) | (with_reducible exact Calls.quiet_of (H2.out _))))
      go_wp2_with fail
      go_ret
      exact ⟨by rw [hres.out]; rfl, _, by rw [HN0.out, World.drewN_drewN]⟩
    ·skip
     have h1 : ∀ n, Calls Tryz.prog 130 #[.slice Q1 x.frm.length m1, .slice R1 y.frm.length p1] (wr.drewN n) fun e w' => e = .returned (.bool false) ∧ ∃ m, w' = (wr.drewN n).drewN m := fun n => by
      have := numbers_any x.frm y.frm _ _ _ _ (wr.drewN n) (Sl.wr0 HSA.out ((Wr.refl _ _).drewN n)) (Sl.wr0 HTA.out ((Wr.refl _ _).drewN n))
      rw [eqB_false c1] at this
      exact this
     have H1 := qh h1
     clear h1
     have hres := qh (eqB_false (ne_at hx hy (fun e : x = y => c1 (by rw [e]))))
     clear hx hy c1
     go_wp2_with fail
     go_quiet ((go_at_call 130; with_reducible exact Calls.quiet_of (H1.out _)))
     go_wp2_with fail
     go_ret
     exact ⟨by rw [hres.out]; rfl, _, by rw [HN0.out, World.drewN_drewN]⟩
   ·obtain rfl : k = l.length := by omega
    have hres := qh (eqB_true (take_full HLEN.out HTK.out))
    go_wp2_with fail
    go_ret
    exact ⟨by rw [hres.out]; rfl, n0, HN0.out⟩
 ·have hres := qh (eqB_false (fun e : l = m => hlen (by rw [e])))
  have hne : ((l.length : Int) != (m.length : Int)) = true := by simpa using (by omega : ¬ (l.length : Int) = (m.length : Int))
  have hne2 : ((l.length : Int) == (m.length : Int)) = false := by simpa using (by omega : ¬ (l.length : Int) = (m.length : Int))
  have hne3 : ¬ l.length = m.length := hlen
  clear hlen
  go_in
  go_wp2_with fail
  go_ret
  exact ⟨by rw [hres.out]; rfl, 0, rfl⟩
theorem ty_ext (x y : Ty) (h1 : x.kind = y.kind) (h2 : x.module = y.module) (h3 : x.name = y.name) (h4 : x.base = y.base) (h5 : x.index = y.index) (h6 : x.low = y.low) (h7 : x.high = y.high) (h8 : x.names = y.names) (h9 : x.fields = y.fields) (h10 : x.arms = y.arms) (h11 : x.params = y.params) (h12 : x.result = y.result) : x = y := by
 cases x
 cases y
 simp only at h1 h2 h3 h4 h5 h6 h7 h8 h9 h10 h11 h12
 subst h1 h2 h3 h4 h5 h6 h7 h8 h9 h10 h11 h12
 rfl
def BoolE (r : Bool) (w : World) (e : Ending) (w' : World) : Prop := e = .returned (.bool r) ∧ Wr [] w w'
theorem sameType_any (x y : Ty) (vn vf va vp un uf ua up : Value) (P Q : Nat → Prop) (w : World) (hx : Lists w P vn vf va vp x) (hy : Lists w Q un uf ua up y) :
  Calls Tryz.prog 68 #[.agg (x.cells vn vf va vp).toArray, .agg (y.cells un uf ua up).toArray] w (BoolE (eqB x y) w) := by
 unfold Ty.cells
 obtain ⟨⟨A1, a1, rfl, la1, ma1⟩, ⟨A2, a2, rfl, la2, ma2⟩, ⟨A3, a3, rfl, la3, ma3⟩, ⟨A4, a4, rfl, la4, ma4⟩⟩ := hx.forms
 obtain ⟨⟨B1, b1, rfl, lb1, mb1⟩, ⟨B2, b2, rfl, lb2, mb2⟩, ⟨B3, b3, rfl, lb3, mb3⟩, ⟨B4, b4, rfl, lb4, mb4⟩⟩ := hy.forms
 unfold maxLen at ma1 ma2 ma3 ma4 mb1 mb2 mb3 mb4
 obtain ⟨wa, hwa⟩ : ∃ q, w.alloc (.cells #[.int .u8 x.kind, .string x.module, .string x.name, .int .i64 x.base, .int .i64 x.index, .int .i64 x.low, .int .i64 x.high, .slice A1 x.names.length a1, .slice A2 x.fields.length a2, .slice A3 x.arms.length a3, .slice A4 x.params.length a4, .int .i64 x.result] 129) = q := ⟨_, rfl⟩
 obtain ⟨g, hg⟩ : ∃ q, w.heap.size = q := ⟨_, rfl⟩
 have sa : wa.heap.size = g + 1 := by rw [← hwa, qsiq, hg]
 obtain ⟨w0, hw0⟩ : ∃ q, wa.alloc (.cells #[.int .u8 y.kind, .string y.module, .string y.name, .int .i64 y.base, .int .i64 y.index, .int .i64 y.low, .int .i64 y.high, .slice B1 y.names.length b1, .slice B2 y.fields.length b2, .slice B3 y.arms.length b3, .slice B4 y.params.length b4, .int .i64 y.result] 129) = q := ⟨_, rfl⟩
 have ra : Wr [] w wa := by rw [← hwa]; exact (Wr.refl _ _).alloc _
 have rb : Wr [] wa w0 := by rw [← hw0]; exact (Wr.refl _ _).alloc _
 have bX : Blk w0 g 129 #[.int .u8 x.kind, .string x.module, .string x.name, .int .i64 x.base, .int .i64 x.index, .int .i64 x.low, .int .i64 x.high, .slice A1 x.names.length a1, .slice A2 x.fields.length a2, .slice A3 x.arms.length a3, .slice A4 x.params.length a4, .int .i64 x.result] := by
  have := (show Blk wa g 129 #[.int .u8 x.kind, .string x.module, .string x.name, .int .i64 x.base, .int .i64 x.index, .int .i64 x.low, .int .i64 x.high, .slice A1 x.names.length a1, .slice A2 x.fields.length a2, .slice A3 x.arms.length a3, .slice A4 x.params.length a4, .int .i64 x.result] by rw [← hwa, ← hg]; exact Blk.new _ _ _)
  exact this.wr0 rb
 have bY : Blk w0 (g + 1) 129 #[.int .u8 y.kind, .string y.module, .string y.name, .int .i64 y.base, .int .i64 y.index, .int .i64 y.low, .int .i64 y.high, .slice B1 y.names.length b1, .slice B2 y.fields.length b2, .slice B3 y.arms.length b3, .slice B4 y.params.length b4, .int .i64 y.result] := by rw [← hw0, ← sa]; exact Blk.new _ _ _
 have hw0' : (w.alloc (.cells #[.int .u8 x.kind, .string x.module, .string x.name, .int .i64 x.base, .int .i64 x.index, .int .i64 x.low, .int .i64 x.high, .slice A1 x.names.length a1, .slice A2 x.fields.length a2, .slice A3 x.arms.length a3, .slice A4 x.params.length a4, .int .i64 x.result] 129)).alloc (.cells #[.int .u8 y.kind, .string y.module, .string y.name, .int .i64 y.base, .int .i64 y.index, .int .i64 y.low, .int .i64 y.high, .slice B1 y.names.length b1, .slice B2 y.fields.length b2, .slice B3 y.arms.length b3, .slice B4 y.params.length b4, .int .i64 y.result] 129) = w0 := by rw [hwa, hw0]
 have acc := ra.trans rb
 have HX := qh (hx.wr0 acc)
 have HY := qh (hy.wr0 acc)
 obtain ⟨x0, x1, x2, x3, x4, x5, x6, x7, x8, x9, x10, x11⟩ := c12q bX
 obtain ⟨y0, y1, y2, y3, y4, y5, y6, y7, y8, y9, y10, y11⟩ := c12q bY
 have ACC := qh acc
 have BX := qh bX
 have BY := qh bY
 have Hw0 := qh hw0'
 have Hg := qh hg
 clear hx hy hwa hw0 hw0' hg sa ra rb acc bX bY
 go_in
 go_upto_region 1 with (fail)
 rw [Hw0.out, Hg.out]
 by_cases h_kind : x.kind = y.kind
 ·have i_kind : (x.kind == y.kind) = true := by simp [h_kind]
  have j_kind : (x.kind != y.kind) = false := by simp [h_kind]
  have H_kind := qh h_kind
  clear h_kind
  by_cases h_module : x.module = y.module
  ·have i_module : (x.module.toList == y.module.toList) = true := by rw [h_module]; exact str_eq _
   have H_module := qh h_module
   clear h_module
   by_cases h_name : x.name = y.name
   ·have i_name : (x.name.toList == y.name.toList) = true := by rw [h_name]; exact str_eq _
    have H_name := qh h_name
    clear h_name
    by_cases h_base : x.base = y.base
    ·have i_base : (x.base == y.base) = true := by simp [h_base]
     have j_base : (x.base != y.base) = false := by simp [h_base]
     have H_base := qh h_base
     clear h_base
     by_cases h_index : x.index = y.index
     ·have i_index : (x.index == y.index) = true := by simp [h_index]
      have j_index : (x.index != y.index) = false := by simp [h_index]
      have H_index := qh h_index
      clear h_index
      by_cases h_low : x.low = y.low
      ·have i_low : (x.low == y.low) = true := by simp [h_low]
       have j_low : (x.low != y.low) = false := by simp [h_low]
       have H_low := qh h_low
       clear h_low
       by_cases h_high : x.high = y.high
       ·have i_high : (x.high == y.high) = true := by simp [h_high]
        have j_high : (x.high != y.high) = false := by simp [h_high]
        have H_high := qh h_high
        clear h_high
        by_cases h_result : x.result = y.result
        ·have i_result : (x.result == y.result) = true := by simp [h_result]
         have j_result : (x.result != y.result) = false := by simp [h_result]
         have H_result := qh h_result
         clear h_result
         by_cases h_names : x.names.length = y.names.length
         ·have i_names : ((x.names.length : Int) == (y.names.length : Int)) = true := by simp [h_names]
          have j_names : ((x.names.length : Int) != (y.names.length : Int)) = false := by simp [h_names]
          have l_names : y.names.length ≤ x.names.length := by omega
          have m_names : x.names.length ≤ y.names.length := by omega
          have H_names := qh h_names
          clear h_names
          by_cases h_fields : x.fields.length = y.fields.length
          ·have i_fields : ((x.fields.length : Int) == (y.fields.length : Int)) = true := by simp [h_fields]
           have j_fields : ((x.fields.length : Int) != (y.fields.length : Int)) = false := by simp [h_fields]
           have l_fields : y.fields.length ≤ x.fields.length := by omega
           have m_fields : x.fields.length ≤ y.fields.length := by omega
           have H_fields := qh h_fields
           clear h_fields
           by_cases h_params : x.params.length = y.params.length
           ·have i_params : ((x.params.length : Int) == (y.params.length : Int)) = true := by simp [h_params]
            have j_params : ((x.params.length : Int) != (y.params.length : Int)) = false := by simp [h_params]
            have l_params : y.params.length ≤ x.params.length := by omega
            have m_params : x.params.length ≤ y.params.length := by omega
            have H_params := qh h_params
            clear h_params
            obtain ⟨ra, hra⟩ : ∃ r, eqB x.arms y.arms = r := ⟨_, rfl⟩
            have harm := fun W (hW : Wr [] w0 W) => arms_any x.arms y.arms _ _ _ _ W (SlArms.keep HX.out.arms hW (fun _ _ => by simp)) (SlArms.keep HY.out.arms hW (fun _ _ => by simp))
            rw [hra] at harm
            have HARM := qh (harm w0 (Wr.refl _ _))
            clear harm
            go_upto_region 3 with (fail)
            go_wp2_with fail
            refine HARM.out.mono ?_
            rintro e w1 ⟨rfl, n1, rfl⟩
            have R1 := qh ((Wr.refl [] w0).drewN n1)
            cases ra with
            | false =>
             have h_arms : ¬ x.arms = y.arms := fun e => by rw [eqB_true e] at hra; cases hra
             have hres := qh (eqB_false (fun e : x = y => h_arms (by rw [e])))
             clear h_arms hra
             go_wp2_with fail
             go_ret
             exact ⟨hres.out ▸ rfl, ACC.out.trans R1.out⟩
            | true =>
            have H_arms := qh (eqB_iff.1 hra)
            clear hra
            go_wp2_with fail
            go_loopw [5] (fun sl wr => ∃ k : Nat, k ≤ x.names.length ∧ sl = .int .i64 k ∧ x.names.take k = y.names.take k ∧ Wr [] w0 wr) (fun sl _ => x.names.length - (intOf sl).toNat)
            case atStart => exact ⟨0, by omega, rfl, by simp, R1.out⟩
            case round =>
             obtain ⟨k, hk, rfl, htk, rk⟩ := hrel
             have RK := qh rk
             have HTK := qh htk
             clear rk htk
             clear x7 y7 x8 y8 x10 y10
             have x7 := (BX.out.wr0 RK.out).cell 7
             have y7 := (BY.out.wr0 RK.out).cell 7
             have x8 := (BX.out.wr0 RK.out).cell 8
             have y8 := (BY.out.wr0 RK.out).cell 8
             have x10 := (BX.out.wr0 RK.out).cell 10
             have y10 := (BY.out.wr0 RK.out).cell 10
             simp only [qgaq, qgzq, qgsq] at x7 y7 x8 y8 x10 y10
             by_cases hlt : k < x.names.length
             ·obtain ⟨u, hu⟩ : ∃ u, x.names[k]? = some u := ⟨_, qgeq hlt⟩
              obtain ⟨v, hv⟩ : ∃ v, y.names[k]? = some v := ⟨_, qgeq (by omega)⟩
              obtain ⟨p1, o1, c1', e1, _, _, _, hc1⟩ := Sl.at_ (Sl.wr0 HX.out.names RK.out) (j := k) (u := .string u) (by rw [qgmq, hu]; rfl)
              obtain ⟨p2, o2, c2', e2, _, _, _, hc2⟩ := Sl.at_ (Sl.wr0 HY.out.names RK.out) (j := k) (u := .string v) (by rw [qgmq, hv]; rfl)
              injection e1 with e11 _ e12
              injection e2 with e21 _ e22
              subst e11 e12 e21 e22
              have h0 : (0 : Int) ≤ (k : Int) := by omega
              have h1k : (k : Int) < (x.names.length : Int) := by omega
              have h2k : (k : Int) < (y.names.length : Int) := by omega
              by_cases hne : u = v
              ·subst hne
               have hs := str_eq u
               have hnx := qh (same_next HTK.out hu hv)
               clear hu hv
               go_wp2_with fail
               go_quiet (fail)
               go_wp2_with fail
               go_roundw
               case rel => exact ⟨k + 1, by omega, by go_num, hnx.out, RK.out.trans ((Wr.refl _ _).drewN _)⟩
               case measure => simp [intOf]; omega
              ·have hres := qh (eqB_false (fun e : x = y => ne_at hu hv hne (congrArg Ty.names e)))
               clear hu hv
               have hs := str_ne hne
               go_wp2_with fail
               go_quiet (fail)
               go_wp2_with fail
               go_ret
               exact ⟨hres.out ▸ rfl, ACC.out.trans (RK.out.trans ((Wr.refl _ _).drewN _))⟩
             ·obtain rfl : k = x.names.length := by omega
              have H_nm := qh (take_full H_names.out HTK.out)
              have R2 := qh RK.out
              go_wp2_with fail
              go_loopw [6] (fun sl wr => ∃ k : Nat, k ≤ x.fields.length ∧ sl = .int .i64 k ∧ x.fields.take k = y.fields.take k ∧ Wr [] w0 wr) (fun sl _ => x.fields.length - (intOf sl).toNat)
              case atStart => exact ⟨0, by omega, rfl, by simp, R2.out⟩
              case round =>
               obtain ⟨k, hk, rfl, htk, rk⟩ := hrel
               have RK := qh rk
               have HTK := qh htk
               clear rk htk
               clear x7 y7 x8 y8 x10 y10
               have x7 := (BX.out.wr0 RK.out).cell 7
               have y7 := (BY.out.wr0 RK.out).cell 7
               have x8 := (BX.out.wr0 RK.out).cell 8
               have y8 := (BY.out.wr0 RK.out).cell 8
               have x10 := (BX.out.wr0 RK.out).cell 10
               have y10 := (BY.out.wr0 RK.out).cell 10
               simp only [qgaq, qgzq, qgsq] at x7 y7 x8 y8 x10 y10
               by_cases hlt : k < x.fields.length
               ·obtain ⟨u, hu⟩ : ∃ u, x.fields[k]? = some u := ⟨_, qgeq hlt⟩
                obtain ⟨v, hv⟩ : ∃ v, y.fields[k]? = some v := ⟨_, qgeq (by omega)⟩
                obtain ⟨p1, o1, c1', e1, _, hc1⟩ := fld_at' (Sl.wr0 HX.out.fields RK.out) hu
                obtain ⟨p2, o2, c2', e2, _, hc2⟩ := fld_at' (Sl.wr0 HY.out.fields RK.out) hv
                injection e1 with e11 _ e12
                injection e2 with e21 _ e22
                subst e11 e12 e21 e22
                have u0 := hc1 0 _ rfl
                have v0 := hc2 0 _ rfl
                have u1 := hc1 1 _ rfl
                have v1 := hc2 1 _ rfl
                have u2 := hc1 2 _ rfl
                have v2 := hc2 2 _ rfl
                simp only [Nat.add_zero] at u0 v0
                clear hc1 hc2
                have h0 : (0 : Int) ≤ (k : Int) := by omega
                have h1k : (k : Int) < (x.fields.length : Int) := by omega
                have h2k : (k : Int) < (y.fields.length : Int) := by omega
                by_cases h_name : u.name = v.name
                ·have i_name : (u.name.toList == v.name.toList) = true := by rw [h_name]; exact str_eq _
                 have i2_name : u.name.toList = v.name.toList := by rw [h_name]
                 by_cases h_type : u.type = v.type
                 ·have i_type : (u.type == v.type) = true := by simp [h_type]
                  by_cases h_arm : u.arm = v.arm
                  ·have i_arm : (u.arm == v.arm) = true := by simp [h_arm]
                   have huv : u = v := by obtain ⟨a0, a1, a2⟩ := u; obtain ⟨d0, d1, d2⟩ := v; simp only at h_name h_type h_arm; subst h_name h_type h_arm; rfl
                   have hnx := qh (same_next (x := u) HTK.out hu (by rw [huv]; exact hv))
                   clear hu hv huv
                   go_wp2_with fail
                   go_quiet (fail)
                   go_wp2_with fail
                   go_roundw
                   case rel => exact ⟨k + 1, by omega, by go_num, hnx.out, RK.out.trans ((Wr.refl _ _).drewN _)⟩
                   case measure => simp [intOf]; omega
                  ·have hne : u ≠ v := fun e => h_arm (by rw [e])
                   have i_arm : (u.arm == v.arm) = false := by simpa using h_arm
                   have hres := qh (eqB_false (fun e : x = y => ne_at hu hv hne (congrArg Ty.fields e)))
                   clear hu hv
                   clear hne
                   go_wp2_with fail
                   go_quiet (fail)
                   go_wp2_with fail
                   go_ret
                   exact ⟨hres.out ▸ rfl, ACC.out.trans (RK.out.trans ((Wr.refl _ _).drewN _))⟩
                 ·have hne : u ≠ v := fun e => h_type (by rw [e])
                  have i_type : (u.type == v.type) = false := by simpa using h_type
                  have hres := qh (eqB_false (fun e : x = y => ne_at hu hv hne (congrArg Ty.fields e)))
                  clear hu hv
                  clear hne
                  go_wp2_with fail
                  go_quiet (fail)
                  go_wp2_with fail
                  go_ret
                  exact ⟨hres.out ▸ rfl, ACC.out.trans (RK.out.trans ((Wr.refl _ _).drewN _))⟩
                ·have hne : u ≠ v := fun e => h_name (by rw [e])
                 have i_name : (u.name.toList == v.name.toList) = false := str_ne h_name
                 have i2_name : ¬ u.name.toList = v.name.toList := by simpa using i_name
                 have hres := qh (eqB_false (fun e : x = y => ne_at hu hv hne (congrArg Ty.fields e)))
                 clear hu hv
                 clear hne
                 go_wp2_with fail
                 go_quiet (fail)
                 go_wp2_with fail
                 go_ret
                 exact ⟨hres.out ▸ rfl, ACC.out.trans (RK.out.trans ((Wr.refl _ _).drewN _))⟩
               ·obtain rfl : k = x.fields.length := by omega
                have H_fl := qh (take_full H_fields.out HTK.out)
                have R3 := qh RK.out
                go_wp2_with fail
                go_loopw [7] (fun sl wr => ∃ k : Nat, k ≤ x.params.length ∧ sl = .int .i64 k ∧ x.params.take k = y.params.take k ∧ Wr [] w0 wr) (fun sl _ => x.params.length - (intOf sl).toNat)
                case atStart => exact ⟨0, by omega, rfl, by simp, R3.out⟩
                case round =>
                 obtain ⟨k, hk, rfl, htk, rk⟩ := hrel
                 have RK := qh rk
                 have HTK := qh htk
                 clear rk htk
                 clear x7 y7 x8 y8 x10 y10
                 have x7 := (BX.out.wr0 RK.out).cell 7
                 have y7 := (BY.out.wr0 RK.out).cell 7
                 have x8 := (BX.out.wr0 RK.out).cell 8
                 have y8 := (BY.out.wr0 RK.out).cell 8
                 have x10 := (BX.out.wr0 RK.out).cell 10
                 have y10 := (BY.out.wr0 RK.out).cell 10
                 simp only [qgaq, qgzq, qgsq] at x7 y7 x8 y8 x10 y10
                 by_cases hlt : k < x.params.length
                 ·obtain ⟨u, hu⟩ : ∃ u, x.params[k]? = some u := ⟨_, qgeq hlt⟩
                  obtain ⟨v, hv⟩ : ∃ v, y.params[k]? = some v := ⟨_, qgeq (by omega)⟩
                  obtain ⟨p1, o1, c1', e1, _, hc1⟩ := par_at' (Sl.wr0 HX.out.params RK.out) hu
                  obtain ⟨p2, o2, c2', e2, _, hc2⟩ := par_at' (Sl.wr0 HY.out.params RK.out) hv
                  injection e1 with e11 _ e12
                  injection e2 with e21 _ e22
                  subst e11 e12 e21 e22
                  have u0 := hc1 0 _ rfl
                  have v0 := hc2 0 _ rfl
                  have u1 := hc1 1 _ rfl
                  have v1 := hc2 1 _ rfl
                  simp only [Nat.add_zero] at u0 v0
                  clear hc1 hc2
                  have h0 : (0 : Int) ≤ (k : Int) := by omega
                  have h1k : (k : Int) < (x.params.length : Int) := by omega
                  have h2k : (k : Int) < (y.params.length : Int) := by omega
                  by_cases h_var : u.var = v.var
                  ·have i_var : (u.var == v.var) = true := by simp [h_var]
                   by_cases h_type : u.type = v.type
                   ·have i_type : (u.type == v.type) = true := by simp [h_type]
                    have huv : u = v := by obtain ⟨a0, a1⟩ := u; obtain ⟨d0, d1⟩ := v; simp only at h_var h_type; subst h_var h_type; rfl
                    have hnx := qh (same_next (x := u) HTK.out hu (by rw [huv]; exact hv))
                    clear hu hv huv
                    go_wp2_with fail
                    go_quiet (fail)
                    go_wp2_with fail
                    go_roundw
                    case rel => exact ⟨k + 1, by omega, by go_num, hnx.out, RK.out.trans ((Wr.refl _ _).drewN _)⟩
                    case measure => simp [intOf]; omega
                   ·have hne : u ≠ v := fun e => h_type (by rw [e])
                    have i_type : (u.type == v.type) = false := by simpa using h_type
                    have hres := qh (eqB_false (fun e : x = y => ne_at hu hv hne (congrArg Ty.params e)))
                    clear hu hv
                    clear hne
                    go_wp2_with fail
                    go_quiet (fail)
                    go_wp2_with fail
                    go_ret
                    exact ⟨hres.out ▸ rfl, ACC.out.trans (RK.out.trans ((Wr.refl _ _).drewN _))⟩
                  ·have hne : u ≠ v := fun e => h_var (by rw [e])
                   have i_var : (u.var == v.var) = false := by simpa using h_var
                   have hres := qh (eqB_false (fun e : x = y => ne_at hu hv hne (congrArg Ty.params e)))
                   clear hu hv
                   clear hne
                   go_wp2_with fail
                   go_quiet (fail)
                   go_wp2_with fail
                   go_ret
                   exact ⟨hres.out ▸ rfl, ACC.out.trans (RK.out.trans ((Wr.refl _ _).drewN _))⟩
                 ·obtain rfl : k = x.params.length := by omega
                  have H_pr := qh (take_full H_params.out HTK.out)
                  have R4 := qh RK.out
                  have hres := qh (eqB_true (ty_ext x y H_kind.out H_module.out H_name.out H_base.out H_index.out H_low.out H_high.out H_nm.out H_fl.out H_arms.out H_pr.out H_result.out))
                  go_wp2_with fail
                  go_ret
                  exact ⟨hres.out ▸ rfl, ACC.out.trans R4.out⟩
           ·have i_params : ((x.params.length : Int) == (y.params.length : Int)) = false := by simpa using (by omega : ¬ (x.params.length : Int) = (y.params.length : Int))
            have j_params : ((x.params.length : Int) != (y.params.length : Int)) = true := by simpa using (by omega : ¬ (x.params.length : Int) = (y.params.length : Int))
            have k_params : ¬ x.params.length = y.params.length := h_params
            have hres := qh (eqB_false (fun e : x = y => h_params (by rw [e])))
            clear h_params
            go_wp2_with fail
            go_ret
            exact ⟨hres.out ▸ rfl, ACC.out⟩
          ·have i_fields : ((x.fields.length : Int) == (y.fields.length : Int)) = false := by simpa using (by omega : ¬ (x.fields.length : Int) = (y.fields.length : Int))
           have j_fields : ((x.fields.length : Int) != (y.fields.length : Int)) = true := by simpa using (by omega : ¬ (x.fields.length : Int) = (y.fields.length : Int))
           have k_fields : ¬ x.fields.length = y.fields.length := h_fields
           have hres := qh (eqB_false (fun e : x = y => h_fields (by rw [e])))
           clear h_fields
           go_wp2_with fail
           go_ret
           exact ⟨hres.out ▸ rfl, ACC.out⟩
         ·have i_names : ((x.names.length : Int) == (y.names.length : Int)) = false := by simpa using (by omega : ¬ (x.names.length : Int) = (y.names.length : Int))
          have j_names : ((x.names.length : Int) != (y.names.length : Int)) = true := by simpa using (by omega : ¬ (x.names.length : Int) = (y.names.length : Int))
          have k_names : ¬ x.names.length = y.names.length := h_names
          have hres := qh (eqB_false (fun e : x = y => h_names (by rw [e])))
          clear h_names
          go_wp2_with fail
          go_ret
          exact ⟨hres.out ▸ rfl, ACC.out⟩
        ·have i_result : (x.result == y.result) = false := by simpa using h_result
         have j_result : (x.result != y.result) = true := by simpa using h_result
         have hres := qh (eqB_false (fun e : x = y => h_result (by rw [e])))
         clear h_result
         go_wp2_with fail
         go_ret
         exact ⟨hres.out ▸ rfl, ACC.out⟩
       ·have i_high : (x.high == y.high) = false := by simpa using h_high
        have j_high : (x.high != y.high) = true := by simpa using h_high
        have hres := qh (eqB_false (fun e : x = y => h_high (by rw [e])))
        clear h_high
        go_wp2_with fail
        go_ret
        exact ⟨hres.out ▸ rfl, ACC.out⟩
      ·have i_low : (x.low == y.low) = false := by simpa using h_low
       have j_low : (x.low != y.low) = true := by simpa using h_low
       have hres := qh (eqB_false (fun e : x = y => h_low (by rw [e])))
       clear h_low
       go_wp2_with fail
       go_ret
       exact ⟨hres.out ▸ rfl, ACC.out⟩
     ·have i_index : (x.index == y.index) = false := by simpa using h_index
      have j_index : (x.index != y.index) = true := by simpa using h_index
      have hres := qh (eqB_false (fun e : x = y => h_index (by rw [e])))
      clear h_index
      go_wp2_with fail
      go_ret
      exact ⟨hres.out ▸ rfl, ACC.out⟩
    ·have i_base : (x.base == y.base) = false := by simpa using h_base
     have j_base : (x.base != y.base) = true := by simpa using h_base
     have hres := qh (eqB_false (fun e : x = y => h_base (by rw [e])))
     clear h_base
     go_wp2_with fail
     go_ret
     exact ⟨hres.out ▸ rfl, ACC.out⟩
   ·have i_name : (x.name.toList == y.name.toList) = false := str_ne h_name
    have hres := qh (eqB_false (fun e : x = y => h_name (by rw [e])))
    clear h_name
    go_wp2_with fail
    go_ret
    exact ⟨hres.out ▸ rfl, ACC.out⟩
  ·have i_module : (x.module.toList == y.module.toList) = false := str_ne h_module
   have hres := qh (eqB_false (fun e : x = y => h_module (by rw [e])))
   clear h_module
   go_wp2_with fail
   go_ret
   exact ⟨hres.out ▸ rfl, ACC.out⟩
 ·have i_kind : (x.kind == y.kind) = false := by simpa using h_kind
  have j_kind : (x.kind != y.kind) = true := by simpa using h_kind
  have hres := qh (eqB_false (fun e : x = y => h_kind (by rw [e])))
  clear h_kind
  go_wp2_with fail
  go_ret
  exact ⟨hres.out ▸ rfl, ACC.out⟩
end Go.Proofs.YtildcdgobdfieaaGreat
