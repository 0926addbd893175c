/- The document's Same: lists of numbers, items: walked. No conditions. -/
import Derived.Test.YtmpbkfbjmmoapaaIB14
import Derived.Test.YtmpbkfbjmmoapaaIB16
import Derived.Laws.StructEq
namespace Go.Proofs.Ytmpbkfbjmmoapaa
open Go.RowKit
set_option linter.unusedVariables false
set_option linter.unusedSimpArgs false
/-- Are two the same? -/
noncomputable def eqB {α : Type} (a b : α) : Bool := @decide (a = b) (Classical.propDecidable _)
theorem eqB_true {α : Type} {a b : α} (h : a = b) : eqB a b = true := by exact @decide_eq_true _ (Classical.propDecidable _) h
theorem eqB_false {α : Type} {a b : α} (h : a ≠ b) : eqB a b = false := by exact @decide_eq_false _ (Classical.propDecidable _) h
theorem eqB_iff {α : Type} {a b : α} : eqB a b = true ↔ a = b := by exact @decide_eq_true_iff _ (Classical.propDecidable _)
theorem str_ne {s t : ByteArray} (h : s ≠ t) : (s.toList == t.toList) = false := by
  rw [beq_eq_false_iff_ne]
  intro e
  apply h
  rw [ByteArray.toList_eq, ByteArray.toList_eq] at e
  obtain ⟨⟨l⟩⟩ := s
  obtain ⟨⟨m⟩⟩ := t
  simp at e
  rw [e]
theorem str_eq (s : ByteArray) : (s.toList == s.toList) = true := by simp
/-- Two lists that are the same so far. -/
theorem same_next {α : Type} {l m : List α} {k : Nat} {x : α} (h : l.take k = m.take k) (hx : l[k]? = some x) (hy : m[k]? = some x) : l.take (k + 1) = m.take (k + 1) := by
  have h1 := (List.getElem?_eq_some_iff.1 hx).1
  have h2 := (List.getElem?_eq_some_iff.1 hy).1
  rw [List.take_succ_eq_append_getElem h1, List.take_succ_eq_append_getElem h2, h, (List.getElem?_eq_some_iff.1 hx).2, (List.getElem?_eq_some_iff.1 hy).2]
theorem ne_at {α : Type} {l m : List α} {k : Nat} {x y : α} (hx : l[k]? = some x) (hy : m[k]? = some y) (h : x ≠ y) : l ≠ m := fun e => by
  rw [e, hy] at hx
  injection hx with hx
  exact h hx.symm
theorem take_full {α : Type} {l m : List α} (hl : l.length = m.length) (h : l.take l.length = m.take l.length) : l = m := by
  rw [List.take_length, hl, List.take_length] at h
  exact h
/-- An answer, and nothing but orders drawn. -/
def DrewB (r : Bool) (w : World) (e : Ending) (w' : World) : Prop := e = .returned (.bool r) ∧ ∃ n, w' = w.drewN n
set_option maxRecDepth 100000 in
set_option maxHeartbeats 4000000 in
theorem numbers_any (l m : List Int) (va vb : Value) (P Q : Nat → Prop) (w : World) (ha : SlInts w P va l) (hb : SlInts w Q vb m) :
    Calls Try.prog 100 #[va, vb] w (DrewB (eqB l m) w) := by
  obtain ⟨A, c, rfl, la, ma⟩ := Sl.form ha
  obtain ⟨B, d, rfl, lb, mb⟩ := Sl.form hb
  unfold maxLen at ma mb
  have HA := Lib.hid ha
  have HB := Lib.hid hb
  clear ha hb
  by_cases hlen : l.length = m.length
  · have HLEN := Lib.hid hlen
    have hne : ((l.length : Int) != (m.length : Int)) = false := by simp [hlen]
    have hle : m.length ≤ l.length := by omega
    have hge : l.length ≤ m.length := by omega
    clear hlen
    go_enter Try.func100, Try.ntmps100
    go_wp2_with fail
    go_loopw [5] (fun s5 wr => ∃ k : Nat, k ≤ l.length ∧ s5 = .int .i64 k ∧ l.take k = m.take k ∧ ∃ n, wr = w.drewN n) (fun s5 _ => l.length - (intOf s5).toNat)
    case atStart => exact ⟨0, by omega, rfl, by simp, 0, rfl⟩
    case round =>
      obtain ⟨k, hk, rfl, htk, n0, hn0⟩ := hrel
      have hw0 : Wr [] w wr := by rw [hn0]; exact (Wr.refl _ _).drewN _
      have HN0 := Lib.hid hn0
      have HTK := Lib.hid htk
      clear hn0 htk
      by_cases hlt : k < l.length
      · obtain ⟨x, hx⟩ : ∃ x, l[k]? = some x := ⟨_, List.getElem?_eq_getElem hlt⟩
        obtain ⟨y, hy⟩ : ∃ y, m[k]? = some y := ⟨_, List.getElem?_eq_getElem (by omega)⟩
        obtain ⟨b1, o1, c1, e1, _, _, _, hc1⟩ := Sl.at_ (Sl.wr0 HA.out hw0) (j := k) (u := .int .i64 x) (by rw [List.getElem?_map, hx]; rfl)
        obtain ⟨b2, o2, c2, e2, _, _, _, hc2⟩ := Sl.at_ (Sl.wr0 HB.out hw0) (j := k) (u := .int .i64 y) (by rw [List.getElem?_map, hy]; rfl)
        injection e1 with e11 _ e12
        injection e2 with e21 _ e22
        subst e11 e12 e21 e22
        have h0 : (0 : Int) ≤ (k : Int) := by omega
        have h1 : (k : Int) < (l.length : Int) := by omega
        have h2 : (k : Int) < (m.length : Int) := by omega
        by_cases hxy : x = y
        · subst hxy
          have hnx := Lib.hid (same_next HTK.out hx hy)
          clear hx hy
          go_wp2_with fail
          go_quiet (fail)
          go_wp2_with fail
          go_roundw
          case rel => exact ⟨k + 1, by omega, by go_num, hnx.out, _, by rw [HN0.out, World.drewN_drewN]⟩
          case measure => simp [intOf]; omega
        · have hres := Lib.hid (eqB_false (ne_at hx hy hxy))
          clear hx hy
          go_wp2_with fail
          go_quiet (fail)
          go_wp2_with fail
          go_ret
          exact ⟨by rw [hres.out]; rfl, _, by rw [HN0.out, World.drewN_drewN]⟩
      · obtain rfl : k = l.length := by omega
        have hres := Lib.hid (eqB_true (take_full HLEN.out HTK.out))
        go_wp2_with fail
        go_ret
        exact ⟨by rw [hres.out]; rfl, n0, HN0.out⟩
  · have hres := Lib.hid (eqB_false (fun e : l = m => hlen (by rw [e])))
    have hne : ((l.length : Int) != (m.length : Int)) = true := by simpa using (by omega : ¬ (l.length : Int) = (m.length : Int))
    have hne2 : ((l.length : Int) == (m.length : Int)) = false := by simpa using (by omega : ¬ (l.length : Int) = (m.length : Int))
    have hne3 : ¬ l.length = m.length := hlen
    clear hlen
    go_enter Try.func100, Try.ntmps100
    go_wp2_with fail
    go_ret
    exact ⟨by rw [hres.out]; rfl, 0, rfl⟩
set_option maxRecDepth 100000 in
set_option maxHeartbeats 8000000 in
theorem arms_any (l m : List ArmD) (va vb : Value) (P Q : Nat → Prop) (w : World) (ha : SlArms w P va l) (hb : SlArms w Q vb m) :
    Calls Try.prog 83 #[va, vb] w (DrewB (eqB l m) w) := by
  obtain ⟨xs, ha1, _, ha3⟩ := ha
  obtain ⟨ys, hb1, _, hb3⟩ := hb
  obtain ⟨A, c, rfl, la, ma⟩ := Sl.form ha1
  obtain ⟨B, d, rfl, lb, mb⟩ := Sl.form hb1
  unfold maxLen at ma mb
  have HA := Lib.hid ha1
  have HB := Lib.hid hb1
  have HA3 := Lib.hid ha3
  have HB3 := Lib.hid hb3
  clear ha1 hb1 ha3 hb3
  by_cases hlen : l.length = m.length
  · have HLEN := Lib.hid hlen
    have hne : ((l.length : Int) != (m.length : Int)) = false := by simp [hlen]
    have hle : m.length ≤ l.length := by omega
    have hge : l.length ≤ m.length := by omega
    clear hlen
    go_enter Try.func83, Try.ntmps83
    go_wp2_with fail
    go_loopw [5] (fun s5 wr => ∃ k : Nat, k ≤ l.length ∧ s5 = .int .i64 k ∧ l.take k = m.take k ∧ ∃ n, wr = w.drewN n) (fun s5 _ => l.length - (intOf s5).toNat)
    case atStart => exact ⟨0, by omega, rfl, by simp, 0, rfl⟩
    case round =>
      obtain ⟨k, hk, rfl, htk, n0, hn0⟩ := hrel
      have hw0 : Wr [] w wr := by rw [hn0]; exact (Wr.refl _ _).drewN _
      have HN0 := Lib.hid hn0
      have HTK := Lib.hid htk
      clear hn0 htk
      by_cases hlt : k < l.length
      · obtain ⟨x, hx⟩ : ∃ x, l[k]? = some x := ⟨_, List.getElem?_eq_getElem hlt⟩
        obtain ⟨y, hy⟩ : ∃ y, m[k]? = some y := ⟨_, List.getElem?_eq_getElem (by omega)⟩
        obtain ⟨u0, u1, f0, f1, f2, sa, sb⟩ := HA3.out k x hx
        obtain ⟨v0, v1, g0, g1, g2, ta, tb⟩ := HB3.out k y hy
        obtain ⟨Q1, m1, rfl, _, _⟩ := Sl.form sa
        obtain ⟨Q2, m2, rfl, _, _⟩ := Sl.form sb
        obtain ⟨R1, p1, rfl, _, _⟩ := Sl.form ta
        obtain ⟨R2, p2, rfl, _, _⟩ := Sl.form tb
        obtain ⟨b1, o1, c1', e1, _, _, _, hc1⟩ := Sl.thing (Sl.wr0 HA.out hw0) (by decide) hlt
        obtain ⟨b2, o2, c2', e2, _, _, _, hc2⟩ := Sl.thing (Sl.wr0 HB.out hw0) (by decide) (by omega : k < m.length)
        injection e1 with e11 _ e12
        injection e2 with e21 _ e22
        subst e11 e12 e21 e22
        have x0 := hc1 0 _ (by decide) f0
        have x1 := hc1 1 _ (by decide) f1
        have x2 := hc1 2 _ (by decide) f2
        have y0 := hc2 0 _ (by decide) g0
        have y1 := hc2 1 _ (by decide) g1
        have y2 := hc2 2 _ (by decide) g2
        simp only [Nat.add_zero, ← Nat.add_assoc] at x0 x1 x2 y0 y1 y2
        have HSA := Lib.hid (Sl.wr0 sa hw0)
        have HSB := Lib.hid (Sl.wr0 sb hw0)
        have HTA := Lib.hid (Sl.wr0 ta hw0)
        have HTB := Lib.hid (Sl.wr0 tb hw0)
        have h0 : (0 : Int) ≤ (k : Int) := by omega
        have h1k : (k : Int) < (l.length : Int) := by omega
        have h2k : (k : Int) < (m.length : Int) := by omega
        clear f0 f1 f2 g0 g1 g2 sa sb ta tb hc1 hc2 hw0
        by_cases c1 : x.frm = y.frm
        · by_cases c2 : x.to = y.to
          · by_cases c3 : x.els = y.els
            · have d3 : (x.els != y.els) = false := by simp [c3]
              have d4 : (x.els == y.els) = true := by simp [c3]
              have h1 : ∀ n, Calls Try.prog 100 #[.slice Q1 x.frm.length m1, .slice R1 y.frm.length p1] (wr.drewN n) fun e w' => e = .returned (.bool true) ∧ ∃ m, w' = (wr.drewN n).drewN m := fun n => by
                have := numbers_any x.frm y.frm _ _ _ _ (wr.drewN n) (Sl.wr0 HSA.out ((Wr.refl _ _).drewN n)) (Sl.wr0 HTA.out ((Wr.refl _ _).drewN n))
                rw [eqB_true c1] at this
                exact this
              have h2 : ∀ n, Calls Try.prog 100 #[.slice Q2 x.to.length m2, .slice R2 y.to.length p2] (wr.drewN n) fun e w' => e = .returned (.bool true) ∧ ∃ m, w' = (wr.drewN n).drewN m := fun n => by
                have := numbers_any x.to y.to _ _ _ _ (wr.drewN n) (Sl.wr0 HSB.out ((Wr.refl _ _).drewN n)) (Sl.wr0 HTB.out ((Wr.refl _ _).drewN n))
                rw [eqB_true c2] at this
                exact this
              have H2 := Lib.hid h2
              clear h2
              have H1 := Lib.hid h1
              clear h1
              have hxy : x = y := by obtain ⟨a1, a2, a3⟩ := x; obtain ⟨d1, d2, d3⟩ := y; simp only at c1 c2 c3; subst c1 c2 c3; rfl
              have hnx := Lib.hid (same_next (x := x) HTK.out hx (by rw [hxy]; exact hy))
              clear hx hy c1 c2 c3 hxy
              go_wp2_with fail
              go_quiet ((go_at_call 100; first | (with_reducible exact Calls.quiet_of (H1.out _)) | (with_reducible exact Calls.quiet_of (H2.out _))))
              go_wp2_with fail
              go_roundw
              case rel => exact ⟨k + 1, by omega, by go_num, hnx.out, _, by rw [HN0.out, World.drewN_drewN]⟩
              case measure => simp [intOf]; omega
            · have d3 : (x.els != y.els) = true := by simpa using c3
              have d4 : (x.els == y.els) = false := by simpa using c3
              have h1 : ∀ n, Calls Try.prog 100 #[.slice Q1 x.frm.length m1, .slice R1 y.frm.length p1] (wr.drewN n) fun e w' => e = .returned (.bool true) ∧ ∃ m, w' = (wr.drewN n).drewN m := fun n => by
                have := numbers_any x.frm y.frm _ _ _ _ (wr.drewN n) (Sl.wr0 HSA.out ((Wr.refl _ _).drewN n)) (Sl.wr0 HTA.out ((Wr.refl _ _).drewN n))
                rw [eqB_true c1] at this
                exact this
              have h2 : ∀ n, Calls Try.prog 100 #[.slice Q2 x.to.length m2, .slice R2 y.to.length p2] (wr.drewN n) fun e w' => e = .returned (.bool true) ∧ ∃ m, w' = (wr.drewN n).drewN m := fun n => by
                have := numbers_any x.to y.to _ _ _ _ (wr.drewN n) (Sl.wr0 HSB.out ((Wr.refl _ _).drewN n)) (Sl.wr0 HTB.out ((Wr.refl _ _).drewN n))
                rw [eqB_true c2] at this
                exact this
              have H2 := Lib.hid h2
              clear h2
              have H1 := Lib.hid h1
              clear h1
              have hres := Lib.hid (eqB_false (ne_at hx hy (fun e : x = y => c3 (by rw [e]))))
              clear hx hy c1 c2 c3
              go_wp2_with fail
              go_quiet ((go_at_call 100; first | (with_reducible exact Calls.quiet_of (H1.out _)) | (with_reducible exact Calls.quiet_of (H2.out _))))
              go_wp2_with fail
              go_ret
              exact ⟨by rw [hres.out]; rfl, _, by rw [HN0.out, World.drewN_drewN]⟩
          · skip
            have h1 : ∀ n, Calls Try.prog 100 #[.slice Q1 x.frm.length m1, .slice R1 y.frm.length p1] (wr.drewN n) fun e w' => e = .returned (.bool true) ∧ ∃ m, w' = (wr.drewN n).drewN m := fun n => by
              have := numbers_any x.frm y.frm _ _ _ _ (wr.drewN n) (Sl.wr0 HSA.out ((Wr.refl _ _).drewN n)) (Sl.wr0 HTA.out ((Wr.refl _ _).drewN n))
              rw [eqB_true c1] at this
              exact this
            have h2 : ∀ n, Calls Try.prog 100 #[.slice Q2 x.to.length m2, .slice R2 y.to.length p2] (wr.drewN n) fun e w' => e = .returned (.bool false) ∧ ∃ m, w' = (wr.drewN n).drewN m := fun n => by
              have := numbers_any x.to y.to _ _ _ _ (wr.drewN n) (Sl.wr0 HSB.out ((Wr.refl _ _).drewN n)) (Sl.wr0 HTB.out ((Wr.refl _ _).drewN n))
              rw [eqB_false c2] at this
              exact this
            have H2 := Lib.hid h2
            clear h2
            have H1 := Lib.hid h1
            clear h1
            have hres := Lib.hid (eqB_false (ne_at hx hy (fun e : x = y => c2 (by rw [e]))))
            clear hx hy c1 c2
            go_wp2_with fail
            go_quiet ((go_at_call 100; first | (with_reducible exact Calls.quiet_of (H1.out _)) | (with_reducible exact Calls.quiet_of (H2.out _))))
            go_wp2_with fail
            go_ret
            exact ⟨by rw [hres.out]; rfl, _, by rw [HN0.out, World.drewN_drewN]⟩
        · skip
          have h1 : ∀ n, Calls Try.prog 100 #[.slice Q1 x.frm.length m1, .slice R1 y.frm.length p1] (wr.drewN n) fun e w' => e = .returned (.bool false) ∧ ∃ m, w' = (wr.drewN n).drewN m := fun n => by
            have := numbers_any x.frm y.frm _ _ _ _ (wr.drewN n) (Sl.wr0 HSA.out ((Wr.refl _ _).drewN n)) (Sl.wr0 HTA.out ((Wr.refl _ _).drewN n))
            rw [eqB_false c1] at this
            exact this
          have H1 := Lib.hid h1
          clear h1
          have hres := Lib.hid (eqB_false (ne_at hx hy (fun e : x = y => c1 (by rw [e]))))
          clear hx hy c1
          go_wp2_with fail
          go_quiet ((go_at_call 100; with_reducible exact Calls.quiet_of (H1.out _)))
          go_wp2_with fail
          go_ret
          exact ⟨by rw [hres.out]; rfl, _, by rw [HN0.out, World.drewN_drewN]⟩
      · obtain rfl : k = l.length := by omega
        have hres := Lib.hid (eqB_true (take_full HLEN.out HTK.out))
        go_wp2_with fail
        go_ret
        exact ⟨by rw [hres.out]; rfl, n0, HN0.out⟩
  · have hres := Lib.hid (eqB_false (fun e : l = m => hlen (by rw [e])))
    have hne : ((l.length : Int) != (m.length : Int)) = true := by simpa using (by omega : ¬ (l.length : Int) = (m.length : Int))
    have hne2 : ((l.length : Int) == (m.length : Int)) = false := by simpa using (by omega : ¬ (l.length : Int) = (m.length : Int))
    have hne3 : ¬ l.length = m.length := hlen
    clear hlen
    go_enter Try.func83, Try.ntmps83
    go_wp2_with fail
    go_ret
    exact ⟨by rw [hres.out]; rfl, 0, rfl⟩
end Go.Proofs.Ytmpbkfbjmmoapaa

/- The document's SameType: walked. No conditions. -/
namespace Go.Proofs.Ytmpbkfbjmmoapaa
open Go.RowKit
set_option linter.unusedVariables false
set_option linter.unusedSimpArgs false
theorem ty_ext (x y : Ty) (h1 : x.kind = y.kind) (h2 : x.module = y.module) (h3 : x.name = y.name) (h4 : x.base = y.base) (h5 : x.index = y.index) (h6 : x.low = y.low) (h7 : x.high = y.high) (h8 : x.names = y.names) (h9 : x.fields = y.fields) (h10 : x.arms = y.arms) (h11 : x.params = y.params) (h12 : x.result = y.result) : x = y := by
  cases x
  cases y
  simp only at h1 h2 h3 h4 h5 h6 h7 h8 h9 h10 h11 h12
  subst h1 h2 h3 h4 h5 h6 h7 h8 h9 h10 h11 h12
  rfl
/-- An answer, and nothing is written. -/
def BoolE (r : Bool) (w : World) (e : Ending) (w' : World) : Prop := e = .returned (.bool r) ∧ Wr [] w w'
set_option maxRecDepth 100000 in
set_option maxHeartbeats 16000000 in
theorem sameType_any (x y : Ty) (vn vf va vp un uf ua up : Value) (P Q : Nat → Prop) (w : World) (hx : Lists w P vn vf va vp x) (hy : Lists w Q un uf ua up y) :
    Calls Try.prog 55 #[.agg (x.cells vn vf va vp).toArray, .agg (y.cells un uf ua up).toArray] w (BoolE (eqB x y) w) := by
  unfold Ty.cells
  obtain ⟨⟨A1, a1, rfl, la1, ma1⟩, ⟨A2, a2, rfl, la2, ma2⟩, ⟨A3, a3, rfl, la3, ma3⟩, ⟨A4, a4, rfl, la4, ma4⟩⟩ := hx.forms
  obtain ⟨⟨B1, b1, rfl, lb1, mb1⟩, ⟨B2, b2, rfl, lb2, mb2⟩, ⟨B3, b3, rfl, lb3, mb3⟩, ⟨B4, b4, rfl, lb4, mb4⟩⟩ := hy.forms
  unfold maxLen at ma1 ma2 ma3 ma4 mb1 mb2 mb3 mb4
  obtain ⟨wa, hwa⟩ : ∃ q, w.alloc (.cells #[.int .u8 x.kind, .string x.module, .string x.name, .int .i64 x.base, .int .i64 x.index, .int .i64 x.low, .int .i64 x.high, .slice A1 x.names.length a1, .slice A2 x.fields.length a2, .slice A3 x.arms.length a3, .slice A4 x.params.length a4, .int .i64 x.result] 56) = q := ⟨_, rfl⟩
  obtain ⟨g, hg⟩ : ∃ q, w.heap.size = q := ⟨_, rfl⟩
  have sa : wa.heap.size = g + 1 := by rw [← hwa, World.size_alloc, hg]
  obtain ⟨w0, hw0⟩ : ∃ q, wa.alloc (.cells #[.int .u8 y.kind, .string y.module, .string y.name, .int .i64 y.base, .int .i64 y.index, .int .i64 y.low, .int .i64 y.high, .slice B1 y.names.length b1, .slice B2 y.fields.length b2, .slice B3 y.arms.length b3, .slice B4 y.params.length b4, .int .i64 y.result] 56) = q := ⟨_, rfl⟩
  have ra : Wr [] w wa := by rw [← hwa]; exact (Wr.refl _ _).alloc _
  have rb : Wr [] wa w0 := by rw [← hw0]; exact (Wr.refl _ _).alloc _
  have bX : Blk w0 g 56 #[.int .u8 x.kind, .string x.module, .string x.name, .int .i64 x.base, .int .i64 x.index, .int .i64 x.low, .int .i64 x.high, .slice A1 x.names.length a1, .slice A2 x.fields.length a2, .slice A3 x.arms.length a3, .slice A4 x.params.length a4, .int .i64 x.result] := by
    have := (show Blk wa g 56 #[.int .u8 x.kind, .string x.module, .string x.name, .int .i64 x.base, .int .i64 x.index, .int .i64 x.low, .int .i64 x.high, .slice A1 x.names.length a1, .slice A2 x.fields.length a2, .slice A3 x.arms.length a3, .slice A4 x.params.length a4, .int .i64 x.result] by rw [← hwa, ← hg]; exact Blk.new _ _ _)
    exact this.wr0 rb
  have bY : Blk w0 (g + 1) 56 #[.int .u8 y.kind, .string y.module, .string y.name, .int .i64 y.base, .int .i64 y.index, .int .i64 y.low, .int .i64 y.high, .slice B1 y.names.length b1, .slice B2 y.fields.length b2, .slice B3 y.arms.length b3, .slice B4 y.params.length b4, .int .i64 y.result] := by rw [← hw0, ← sa]; exact Blk.new _ _ _
  have hw0' : (w.alloc (.cells #[.int .u8 x.kind, .string x.module, .string x.name, .int .i64 x.base, .int .i64 x.index, .int .i64 x.low, .int .i64 x.high, .slice A1 x.names.length a1, .slice A2 x.fields.length a2, .slice A3 x.arms.length a3, .slice A4 x.params.length a4, .int .i64 x.result] 56)).alloc (.cells #[.int .u8 y.kind, .string y.module, .string y.name, .int .i64 y.base, .int .i64 y.index, .int .i64 y.low, .int .i64 y.high, .slice B1 y.names.length b1, .slice B2 y.fields.length b2, .slice B3 y.arms.length b3, .slice B4 y.params.length b4, .int .i64 y.result] 56) = w0 := by rw [hwa, hw0]
  have acc := ra.trans rb
  have HX := Lib.hid (hx.wr0 acc)
  have HY := Lib.hid (hy.wr0 acc)
  have x0 := bX.cell 0
  have y0 := bY.cell 0
  have x1 := bX.cell 1
  have y1 := bY.cell 1
  have x2 := bX.cell 2
  have y2 := bY.cell 2
  have x3 := bX.cell 3
  have y3 := bY.cell 3
  have x4 := bX.cell 4
  have y4 := bY.cell 4
  have x5 := bX.cell 5
  have y5 := bY.cell 5
  have x6 := bX.cell 6
  have y6 := bY.cell 6
  have x7 := bX.cell 7
  have y7 := bY.cell 7
  have x8 := bX.cell 8
  have y8 := bY.cell 8
  have x9 := bX.cell 9
  have y9 := bY.cell 9
  have x10 := bX.cell 10
  have y10 := bY.cell 10
  have x11 := bX.cell 11
  have y11 := bY.cell 11
  simp only [List.getElem?_toArray, List.getElem?_cons_zero, List.getElem?_cons_succ] at x0 y0 x1 y1 x2 y2 x3 y3 x4 y4 x5 y5 x6 y6 x7 y7 x8 y8 x9 y9 x10 y10 x11 y11
  have ACC := Lib.hid acc
  have BX := Lib.hid bX
  have BY := Lib.hid bY
  have Hw0 := Lib.hid hw0'
  have Hg := Lib.hid hg
  clear hx hy hwa hw0 hw0' hg sa ra rb acc bX bY
  go_enter Try.func55, Try.ntmps55
  go_upto_region 1 with (fail)
  rw [Hw0.out, Hg.out]
  by_cases h_kind : x.kind = y.kind
  · have i_kind : (x.kind == y.kind) = true := by simp [h_kind]
    have j_kind : (x.kind != y.kind) = false := by simp [h_kind]
    have H_kind := Lib.hid h_kind
    clear h_kind
    by_cases h_module : x.module = y.module
    · have i_module : (x.module.toList == y.module.toList) = true := by rw [h_module]; exact str_eq _
      have H_module := Lib.hid h_module
      clear h_module
      by_cases h_name : x.name = y.name
      · have i_name : (x.name.toList == y.name.toList) = true := by rw [h_name]; exact str_eq _
        have H_name := Lib.hid h_name
        clear h_name
        by_cases h_base : x.base = y.base
        · have i_base : (x.base == y.base) = true := by simp [h_base]
          have j_base : (x.base != y.base) = false := by simp [h_base]
          have H_base := Lib.hid h_base
          clear h_base
          by_cases h_index : x.index = y.index
          · have i_index : (x.index == y.index) = true := by simp [h_index]
            have j_index : (x.index != y.index) = false := by simp [h_index]
            have H_index := Lib.hid h_index
            clear h_index
            by_cases h_low : x.low = y.low
            · have i_low : (x.low == y.low) = true := by simp [h_low]
              have j_low : (x.low != y.low) = false := by simp [h_low]
              have H_low := Lib.hid h_low
              clear h_low
              by_cases h_high : x.high = y.high
              · have i_high : (x.high == y.high) = true := by simp [h_high]
                have j_high : (x.high != y.high) = false := by simp [h_high]
                have H_high := Lib.hid h_high
                clear h_high
                by_cases h_result : x.result = y.result
                · have i_result : (x.result == y.result) = true := by simp [h_result]
                  have j_result : (x.result != y.result) = false := by simp [h_result]
                  have H_result := Lib.hid h_result
                  clear h_result
                  by_cases h_names : x.names.length = y.names.length
                  · have i_names : ((x.names.length : Int) == (y.names.length : Int)) = true := by simp [h_names]
                    have j_names : ((x.names.length : Int) != (y.names.length : Int)) = false := by simp [h_names]
                    have l_names : y.names.length ≤ x.names.length := by omega
                    have m_names : x.names.length ≤ y.names.length := by omega
                    have H_names := Lib.hid h_names
                    clear h_names
                    by_cases h_fields : x.fields.length = y.fields.length
                    · have i_fields : ((x.fields.length : Int) == (y.fields.length : Int)) = true := by simp [h_fields]
                      have j_fields : ((x.fields.length : Int) != (y.fields.length : Int)) = false := by simp [h_fields]
                      have l_fields : y.fields.length ≤ x.fields.length := by omega
                      have m_fields : x.fields.length ≤ y.fields.length := by omega
                      have H_fields := Lib.hid h_fields
                      clear h_fields
                      by_cases h_params : x.params.length = y.params.length
                      · have i_params : ((x.params.length : Int) == (y.params.length : Int)) = true := by simp [h_params]
                        have j_params : ((x.params.length : Int) != (y.params.length : Int)) = false := by simp [h_params]
                        have l_params : y.params.length ≤ x.params.length := by omega
                        have m_params : x.params.length ≤ y.params.length := by omega
                        have H_params := Lib.hid h_params
                        clear h_params
                        obtain ⟨ra, hra⟩ : ∃ r, eqB x.arms y.arms = r := ⟨_, rfl⟩
                        have harm := fun W (hW : Wr [] w0 W) => arms_any x.arms y.arms _ _ _ _ W (SlArms.keep HX.out.arms hW (fun _ _ => by simp)) (SlArms.keep HY.out.arms hW (fun _ _ => by simp))
                        rw [hra] at harm
                        have HARM := Lib.hid (harm w0 (Wr.refl _ _))
                        clear harm
                        go_upto_region 3 with (fail)
                        go_wp2_with fail
                        refine HARM.out.mono ?_
                        rintro e w1 ⟨rfl, n1, rfl⟩
                        have R1 := Lib.hid ((Wr.refl [] w0).drewN n1)
                        cases ra with
                        | false =>
                          have h_arms : ¬ x.arms = y.arms := fun e => by rw [eqB_true e] at hra; cases hra
                          have hres := Lib.hid (eqB_false (fun e : x = y => h_arms (by rw [e])))
                          clear h_arms hra
                          go_wp2_with fail
                          go_ret
                          exact ⟨hres.out ▸ rfl, ACC.out.trans R1.out⟩
                        | true =>
                        have H_arms := Lib.hid (eqB_iff.1 hra)
                        clear hra
                        go_wp2_with fail
                        go_loopw [5] (fun sl wr => ∃ k : Nat, k ≤ x.names.length ∧ sl = .int .i64 k ∧ x.names.take k = y.names.take k ∧ Wr [] w0 wr) (fun sl _ => x.names.length - (intOf sl).toNat)
                        case atStart => exact ⟨0, by omega, rfl, by simp, R1.out⟩
                        case round =>
                          obtain ⟨k, hk, rfl, htk, rk⟩ := hrel
                          have RK := Lib.hid rk
                          have HTK := Lib.hid htk
                          clear rk htk
                          clear x7 y7 x8 y8 x10 y10
                          have x7 := (BX.out.wr0 RK.out).cell 7
                          have y7 := (BY.out.wr0 RK.out).cell 7
                          have x8 := (BX.out.wr0 RK.out).cell 8
                          have y8 := (BY.out.wr0 RK.out).cell 8
                          have x10 := (BX.out.wr0 RK.out).cell 10
                          have y10 := (BY.out.wr0 RK.out).cell 10
                          simp only [List.getElem?_toArray, List.getElem?_cons_zero, List.getElem?_cons_succ] at x7 y7 x8 y8 x10 y10
                          by_cases hlt : k < x.names.length
                          · obtain ⟨u, hu⟩ : ∃ u, x.names[k]? = some u := ⟨_, List.getElem?_eq_getElem hlt⟩
                            obtain ⟨v, hv⟩ : ∃ v, y.names[k]? = some v := ⟨_, List.getElem?_eq_getElem (by omega)⟩
                            obtain ⟨p1, o1, c1', e1, _, _, _, hc1⟩ := Sl.at_ (Sl.wr0 HX.out.names RK.out) (j := k) (u := .string u) (by rw [List.getElem?_map, hu]; rfl)
                            obtain ⟨p2, o2, c2', e2, _, _, _, hc2⟩ := Sl.at_ (Sl.wr0 HY.out.names RK.out) (j := k) (u := .string v) (by rw [List.getElem?_map, hv]; rfl)
                            injection e1 with e11 _ e12
                            injection e2 with e21 _ e22
                            subst e11 e12 e21 e22
                            have h0 : (0 : Int) ≤ (k : Int) := by omega
                            have h1k : (k : Int) < (x.names.length : Int) := by omega
                            have h2k : (k : Int) < (y.names.length : Int) := by omega
                            by_cases hne : u = v
                            · subst hne
                              have hs := str_eq u
                              have hnx := Lib.hid (same_next HTK.out hu hv)
                              clear hu hv
                              go_wp2_with fail
                              go_quiet (fail)
                              go_wp2_with fail
                              go_roundw
                              case rel => exact ⟨k + 1, by omega, by go_num, hnx.out, RK.out.trans ((Wr.refl _ _).drewN _)⟩
                              case measure => simp [intOf]; omega
                            · have hres := Lib.hid (eqB_false (fun e : x = y => ne_at hu hv hne (congrArg Ty.names e)))
                              clear hu hv
                              have hs := str_ne hne
                              go_wp2_with fail
                              go_quiet (fail)
                              go_wp2_with fail
                              go_ret
                              exact ⟨hres.out ▸ rfl, ACC.out.trans (RK.out.trans ((Wr.refl _ _).drewN _))⟩
                          · obtain rfl : k = x.names.length := by omega
                            have H_nm := Lib.hid (take_full H_names.out HTK.out)
                            have R2 := Lib.hid RK.out
                            go_wp2_with fail
                            go_loopw [6] (fun sl wr => ∃ k : Nat, k ≤ x.fields.length ∧ sl = .int .i64 k ∧ x.fields.take k = y.fields.take k ∧ Wr [] w0 wr) (fun sl _ => x.fields.length - (intOf sl).toNat)
                            case atStart => exact ⟨0, by omega, rfl, by simp, R2.out⟩
                            case round =>
                              obtain ⟨k, hk, rfl, htk, rk⟩ := hrel
                              have RK := Lib.hid rk
                              have HTK := Lib.hid htk
                              clear rk htk
                              clear x7 y7 x8 y8 x10 y10
                              have x7 := (BX.out.wr0 RK.out).cell 7
                              have y7 := (BY.out.wr0 RK.out).cell 7
                              have x8 := (BX.out.wr0 RK.out).cell 8
                              have y8 := (BY.out.wr0 RK.out).cell 8
                              have x10 := (BX.out.wr0 RK.out).cell 10
                              have y10 := (BY.out.wr0 RK.out).cell 10
                              simp only [List.getElem?_toArray, List.getElem?_cons_zero, List.getElem?_cons_succ] at x7 y7 x8 y8 x10 y10
                              by_cases hlt : k < x.fields.length
                              · obtain ⟨u, hu⟩ : ∃ u, x.fields[k]? = some u := ⟨_, List.getElem?_eq_getElem hlt⟩
                                obtain ⟨v, hv⟩ : ∃ v, y.fields[k]? = some v := ⟨_, List.getElem?_eq_getElem (by omega)⟩
                                obtain ⟨p1, o1, c1', e1, _, hc1⟩ := fld_at' (Sl.wr0 HX.out.fields RK.out) hu
                                obtain ⟨p2, o2, c2', e2, _, hc2⟩ := fld_at' (Sl.wr0 HY.out.fields RK.out) hv
                                injection e1 with e11 _ e12
                                injection e2 with e21 _ e22
                                subst e11 e12 e21 e22
                                have u0 := hc1 0 _ rfl
                                have v0 := hc2 0 _ rfl
                                have u1 := hc1 1 _ rfl
                                have v1 := hc2 1 _ rfl
                                have u2 := hc1 2 _ rfl
                                have v2 := hc2 2 _ rfl
                                simp only [Nat.add_zero] at u0 v0
                                clear hc1 hc2
                                have h0 : (0 : Int) ≤ (k : Int) := by omega
                                have h1k : (k : Int) < (x.fields.length : Int) := by omega
                                have h2k : (k : Int) < (y.fields.length : Int) := by omega
                                by_cases h_name : u.name = v.name
                                · have i_name : (u.name.toList == v.name.toList) = true := by rw [h_name]; exact str_eq _
                                  have i2_name : u.name.toList = v.name.toList := by rw [h_name]
                                  by_cases h_type : u.type = v.type
                                  · have i_type : (u.type == v.type) = true := by simp [h_type]
                                    by_cases h_arm : u.arm = v.arm
                                    · have i_arm : (u.arm == v.arm) = true := by simp [h_arm]
                                      have huv : u = v := by obtain ⟨a0, a1, a2⟩ := u; obtain ⟨d0, d1, d2⟩ := v; simp only at h_name h_type h_arm; subst h_name h_type h_arm; rfl
                                      have hnx := Lib.hid (same_next (x := u) HTK.out hu (by rw [huv]; exact hv))
                                      clear hu hv huv
                                      go_wp2_with fail
                                      go_quiet (fail)
                                      go_wp2_with fail
                                      go_roundw
                                      case rel => exact ⟨k + 1, by omega, by go_num, hnx.out, RK.out.trans ((Wr.refl _ _).drewN _)⟩
                                      case measure => simp [intOf]; omega
                                    · have hne : u ≠ v := fun e => h_arm (by rw [e])
                                      have i_arm : (u.arm == v.arm) = false := by simpa using h_arm
                                      have hres := Lib.hid (eqB_false (fun e : x = y => ne_at hu hv hne (congrArg Ty.fields e)))
                                      clear hu hv
                                      clear hne
                                      go_wp2_with fail
                                      go_quiet (fail)
                                      go_wp2_with fail
                                      go_ret
                                      exact ⟨hres.out ▸ rfl, ACC.out.trans (RK.out.trans ((Wr.refl _ _).drewN _))⟩
                                  · have hne : u ≠ v := fun e => h_type (by rw [e])
                                    have i_type : (u.type == v.type) = false := by simpa using h_type
                                    have hres := Lib.hid (eqB_false (fun e : x = y => ne_at hu hv hne (congrArg Ty.fields e)))
                                    clear hu hv
                                    clear hne
                                    go_wp2_with fail
                                    go_quiet (fail)
                                    go_wp2_with fail
                                    go_ret
                                    exact ⟨hres.out ▸ rfl, ACC.out.trans (RK.out.trans ((Wr.refl _ _).drewN _))⟩
                                · have hne : u ≠ v := fun e => h_name (by rw [e])
                                  have i_name : (u.name.toList == v.name.toList) = false := str_ne h_name
                                  have i2_name : ¬ u.name.toList = v.name.toList := by simpa using i_name
                                  have hres := Lib.hid (eqB_false (fun e : x = y => ne_at hu hv hne (congrArg Ty.fields e)))
                                  clear hu hv
                                  clear hne
                                  go_wp2_with fail
                                  go_quiet (fail)
                                  go_wp2_with fail
                                  go_ret
                                  exact ⟨hres.out ▸ rfl, ACC.out.trans (RK.out.trans ((Wr.refl _ _).drewN _))⟩
                              · obtain rfl : k = x.fields.length := by omega
                                have H_fl := Lib.hid (take_full H_fields.out HTK.out)
                                have R3 := Lib.hid RK.out
                                go_wp2_with fail
                                go_loopw [7] (fun sl wr => ∃ k : Nat, k ≤ x.params.length ∧ sl = .int .i64 k ∧ x.params.take k = y.params.take k ∧ Wr [] w0 wr) (fun sl _ => x.params.length - (intOf sl).toNat)
                                case atStart => exact ⟨0, by omega, rfl, by simp, R3.out⟩
                                case round =>
                                  obtain ⟨k, hk, rfl, htk, rk⟩ := hrel
                                  have RK := Lib.hid rk
                                  have HTK := Lib.hid htk
                                  clear rk htk
                                  clear x7 y7 x8 y8 x10 y10
                                  have x7 := (BX.out.wr0 RK.out).cell 7
                                  have y7 := (BY.out.wr0 RK.out).cell 7
                                  have x8 := (BX.out.wr0 RK.out).cell 8
                                  have y8 := (BY.out.wr0 RK.out).cell 8
                                  have x10 := (BX.out.wr0 RK.out).cell 10
                                  have y10 := (BY.out.wr0 RK.out).cell 10
                                  simp only [List.getElem?_toArray, List.getElem?_cons_zero, List.getElem?_cons_succ] at x7 y7 x8 y8 x10 y10
                                  by_cases hlt : k < x.params.length
                                  · obtain ⟨u, hu⟩ : ∃ u, x.params[k]? = some u := ⟨_, List.getElem?_eq_getElem hlt⟩
                                    obtain ⟨v, hv⟩ : ∃ v, y.params[k]? = some v := ⟨_, List.getElem?_eq_getElem (by omega)⟩
                                    obtain ⟨p1, o1, c1', e1, _, hc1⟩ := par_at' (Sl.wr0 HX.out.params RK.out) hu
                                    obtain ⟨p2, o2, c2', e2, _, hc2⟩ := par_at' (Sl.wr0 HY.out.params RK.out) hv
                                    injection e1 with e11 _ e12
                                    injection e2 with e21 _ e22
                                    subst e11 e12 e21 e22
                                    have u0 := hc1 0 _ rfl
                                    have v0 := hc2 0 _ rfl
                                    have u1 := hc1 1 _ rfl
                                    have v1 := hc2 1 _ rfl
                                    simp only [Nat.add_zero] at u0 v0
                                    clear hc1 hc2
                                    have h0 : (0 : Int) ≤ (k : Int) := by omega
                                    have h1k : (k : Int) < (x.params.length : Int) := by omega
                                    have h2k : (k : Int) < (y.params.length : Int) := by omega
                                    by_cases h_var : u.var = v.var
                                    · have i_var : (u.var == v.var) = true := by simp [h_var]
                                      by_cases h_type : u.type = v.type
                                      · have i_type : (u.type == v.type) = true := by simp [h_type]
                                        have huv : u = v := by obtain ⟨a0, a1⟩ := u; obtain ⟨d0, d1⟩ := v; simp only at h_var h_type; subst h_var h_type; rfl
                                        have hnx := Lib.hid (same_next (x := u) HTK.out hu (by rw [huv]; exact hv))
                                        clear hu hv huv
                                        go_wp2_with fail
                                        go_quiet (fail)
                                        go_wp2_with fail
                                        go_roundw
                                        case rel => exact ⟨k + 1, by omega, by go_num, hnx.out, RK.out.trans ((Wr.refl _ _).drewN _)⟩
                                        case measure => simp [intOf]; omega
                                      · have hne : u ≠ v := fun e => h_type (by rw [e])
                                        have i_type : (u.type == v.type) = false := by simpa using h_type
                                        have hres := Lib.hid (eqB_false (fun e : x = y => ne_at hu hv hne (congrArg Ty.params e)))
                                        clear hu hv
                                        clear hne
                                        go_wp2_with fail
                                        go_quiet (fail)
                                        go_wp2_with fail
                                        go_ret
                                        exact ⟨hres.out ▸ rfl, ACC.out.trans (RK.out.trans ((Wr.refl _ _).drewN _))⟩
                                    · have hne : u ≠ v := fun e => h_var (by rw [e])
                                      have i_var : (u.var == v.var) = false := by simpa using h_var
                                      have hres := Lib.hid (eqB_false (fun e : x = y => ne_at hu hv hne (congrArg Ty.params e)))
                                      clear hu hv
                                      clear hne
                                      go_wp2_with fail
                                      go_quiet (fail)
                                      go_wp2_with fail
                                      go_ret
                                      exact ⟨hres.out ▸ rfl, ACC.out.trans (RK.out.trans ((Wr.refl _ _).drewN _))⟩
                                  · obtain rfl : k = x.params.length := by omega
                                    have H_pr := Lib.hid (take_full H_params.out HTK.out)
                                    have R4 := Lib.hid RK.out
                                    have hres := Lib.hid (eqB_true (ty_ext x y H_kind.out H_module.out H_name.out H_base.out H_index.out H_low.out H_high.out H_nm.out H_fl.out H_arms.out H_pr.out H_result.out))
                                    go_wp2_with fail
                                    go_ret
                                    exact ⟨hres.out ▸ rfl, ACC.out.trans R4.out⟩
                      · have i_params : ((x.params.length : Int) == (y.params.length : Int)) = false := by simpa using (by omega : ¬ (x.params.length : Int) = (y.params.length : Int))
                        have j_params : ((x.params.length : Int) != (y.params.length : Int)) = true := by simpa using (by omega : ¬ (x.params.length : Int) = (y.params.length : Int))
                        have k_params : ¬ x.params.length = y.params.length := h_params
                        have hres := Lib.hid (eqB_false (fun e : x = y => h_params (by rw [e])))
                        clear h_params
                        go_wp2_with fail
                        go_ret
                        exact ⟨hres.out ▸ rfl, ACC.out⟩
                    · have i_fields : ((x.fields.length : Int) == (y.fields.length : Int)) = false := by simpa using (by omega : ¬ (x.fields.length : Int) = (y.fields.length : Int))
                      have j_fields : ((x.fields.length : Int) != (y.fields.length : Int)) = true := by simpa using (by omega : ¬ (x.fields.length : Int) = (y.fields.length : Int))
                      have k_fields : ¬ x.fields.length = y.fields.length := h_fields
                      have hres := Lib.hid (eqB_false (fun e : x = y => h_fields (by rw [e])))
                      clear h_fields
                      go_wp2_with fail
                      go_ret
                      exact ⟨hres.out ▸ rfl, ACC.out⟩
                  · have i_names : ((x.names.length : Int) == (y.names.length : Int)) = false := by simpa using (by omega : ¬ (x.names.length : Int) = (y.names.length : Int))
                    have j_names : ((x.names.length : Int) != (y.names.length : Int)) = true := by simpa using (by omega : ¬ (x.names.length : Int) = (y.names.length : Int))
                    have k_names : ¬ x.names.length = y.names.length := h_names
                    have hres := Lib.hid (eqB_false (fun e : x = y => h_names (by rw [e])))
                    clear h_names
                    go_wp2_with fail
                    go_ret
                    exact ⟨hres.out ▸ rfl, ACC.out⟩
                · have i_result : (x.result == y.result) = false := by simpa using h_result
                  have j_result : (x.result != y.result) = true := by simpa using h_result
                  have hres := Lib.hid (eqB_false (fun e : x = y => h_result (by rw [e])))
                  clear h_result
                  go_wp2_with fail
                  go_ret
                  exact ⟨hres.out ▸ rfl, ACC.out⟩
              · have i_high : (x.high == y.high) = false := by simpa using h_high
                have j_high : (x.high != y.high) = true := by simpa using h_high
                have hres := Lib.hid (eqB_false (fun e : x = y => h_high (by rw [e])))
                clear h_high
                go_wp2_with fail
                go_ret
                exact ⟨hres.out ▸ rfl, ACC.out⟩
            · have i_low : (x.low == y.low) = false := by simpa using h_low
              have j_low : (x.low != y.low) = true := by simpa using h_low
              have hres := Lib.hid (eqB_false (fun e : x = y => h_low (by rw [e])))
              clear h_low
              go_wp2_with fail
              go_ret
              exact ⟨hres.out ▸ rfl, ACC.out⟩
          · have i_index : (x.index == y.index) = false := by simpa using h_index
            have j_index : (x.index != y.index) = true := by simpa using h_index
            have hres := Lib.hid (eqB_false (fun e : x = y => h_index (by rw [e])))
            clear h_index
            go_wp2_with fail
            go_ret
            exact ⟨hres.out ▸ rfl, ACC.out⟩
        · have i_base : (x.base == y.base) = false := by simpa using h_base
          have j_base : (x.base != y.base) = true := by simpa using h_base
          have hres := Lib.hid (eqB_false (fun e : x = y => h_base (by rw [e])))
          clear h_base
          go_wp2_with fail
          go_ret
          exact ⟨hres.out ▸ rfl, ACC.out⟩
      · have i_name : (x.name.toList == y.name.toList) = false := str_ne h_name
        have hres := Lib.hid (eqB_false (fun e : x = y => h_name (by rw [e])))
        clear h_name
        go_wp2_with fail
        go_ret
        exact ⟨hres.out ▸ rfl, ACC.out⟩
    · have i_module : (x.module.toList == y.module.toList) = false := str_ne h_module
      have hres := Lib.hid (eqB_false (fun e : x = y => h_module (by rw [e])))
      clear h_module
      go_wp2_with fail
      go_ret
      exact ⟨hres.out ▸ rfl, ACC.out⟩
  · have i_kind : (x.kind == y.kind) = false := by simpa using h_kind
    have j_kind : (x.kind != y.kind) = true := by simpa using h_kind
    have hres := Lib.hid (eqB_false (fun e : x = y => h_kind (by rw [e])))
    clear h_kind
    go_wp2_with fail
    go_ret
    exact ⟨hres.out ▸ rfl, ACC.out⟩
end Go.Proofs.Ytmpbkfbjmmoapaa

/- The document's Same, and law 14's: walked. No conditions. -/
namespace Go.Proofs.Ytmpbkfbjmmoapaa
open Go.RowKit
set_option linter.unusedVariables false
set_option linter.unusedSimpArgs false
theorem pitm_ext (x y : PItm) (h1 : x.name = y.name) (h2 : x.kind = y.kind) (h3 : x.type = y.type) (h4 : x.at_ = y.at_) (h5 : x.v.sort = y.v.sort) (h6 : x.v.n = y.v.n) (h7 : x.v.type = y.v.type) (h8 : x.v.text = y.v.text) : x = y := by
  obtain ⟨a1, a2, a3, a4, ⟨a5, a6, a7, a8⟩⟩ := x
  obtain ⟨d1, d2, d3, d4, ⟨d5, d6, d7, d8⟩⟩ := y
  simp only at h1 h2 h3 h4 h5 h6 h7 h8
  subst h1 h2 h3 h4 h5 h6 h7 h8
  rfl
theorem face_ext (x y : FaceP) (h1 : x.module = y.module) (h2 : x.uses = y.uses) (h3 : x.types = y.types) (h4 : x.items = y.items) : x = y := by
  cases x
  cases y
  simp only at h1 h2 h3 h4
  subst h1 h2 h3 h4
  rfl
set_option maxRecDepth 100000 in
set_option maxHeartbeats 8000000 in
theorem sameExport_any (x y : PItm) (w : World) : Calls Try.prog 56 #[.agg x.cells.toArray, .agg y.cells.toArray] w (BoolE (eqB x y) w) := by
  unfold PItm.cells
  have acc : Wr [] w ((w.alloc (.cells #[.string x.name, .int .u8 x.kind, .int .i64 x.type, .int .i64 x.at_, .int .u8 x.v.sort, .int .i64 x.v.n, .int .i64 x.v.type, .string x.v.text] 60)).alloc (.cells #[.string y.name, .int .u8 y.kind, .int .i64 y.type, .int .i64 y.at_, .int .u8 y.v.sort, .int .i64 y.v.n, .int .i64 y.v.type, .string y.v.text] 60)) := ((Wr.refl _ _).alloc _).alloc _
  have ACC := Lib.hid acc
  clear acc
  by_cases h_name : x.name = y.name
  · have i_name : (x.name.toList == y.name.toList) = true := by rw [h_name]; exact str_eq _
    have i2_name : x.name.toList = y.name.toList := by rw [h_name]
    by_cases h_kind : x.kind = y.kind
    · have i_kind : (x.kind == y.kind) = true := by simp [h_kind]
      by_cases h_type : x.type = y.type
      · have i_type : (x.type == y.type) = true := by simp [h_type]
        by_cases h_at_ : x.at_ = y.at_
        · have i_at_ : (x.at_ == y.at_) = true := by simp [h_at_]
          by_cases h_v_sort : x.v.sort = y.v.sort
          · have i_v_sort : (x.v.sort == y.v.sort) = true := by simp [h_v_sort]
            by_cases h_v_n : x.v.n = y.v.n
            · have i_v_n : (x.v.n == y.v.n) = true := by simp [h_v_n]
              by_cases h_v_type : x.v.type = y.v.type
              · have i_v_type : (x.v.type == y.v.type) = true := by simp [h_v_type]
                by_cases h_v_text : x.v.text = y.v.text
                · have i_v_text : (x.v.text.toList == y.v.text.toList) = true := by rw [h_v_text]; exact str_eq _
                  have i2_v_text : x.v.text.toList = y.v.text.toList := by rw [h_v_text]
                  have hres := Lib.hid (eqB_true (pitm_ext x y h_name h_kind h_type h_at_ h_v_sort h_v_n h_v_type h_v_text))
                  go_enter Try.func56, Try.ntmps56
                  go_wp2_with fail
                  go_ret
                  exact ⟨hres.out ▸ rfl, ((Wr.refl _ _).alloc _).alloc _⟩
                · have hres := Lib.hid (eqB_false (fun e : x = y => h_v_text (by rw [e])))
                  have i_v_text : (x.v.text.toList == y.v.text.toList) = false := str_ne h_v_text
                  have i2_v_text : ¬ x.v.text.toList = y.v.text.toList := by simpa using i_v_text
                  go_enter Try.func56, Try.ntmps56
                  go_wp2_with fail
                  go_ret
                  exact ⟨hres.out ▸ rfl, ((Wr.refl _ _).alloc _).alloc _⟩
              · have hres := Lib.hid (eqB_false (fun e : x = y => h_v_type (by rw [e])))
                have i_v_type : (x.v.type == y.v.type) = false := by simpa using h_v_type
                go_enter Try.func56, Try.ntmps56
                go_wp2_with fail
                go_ret
                exact ⟨hres.out ▸ rfl, ((Wr.refl _ _).alloc _).alloc _⟩
            · have hres := Lib.hid (eqB_false (fun e : x = y => h_v_n (by rw [e])))
              have i_v_n : (x.v.n == y.v.n) = false := by simpa using h_v_n
              go_enter Try.func56, Try.ntmps56
              go_wp2_with fail
              go_ret
              exact ⟨hres.out ▸ rfl, ((Wr.refl _ _).alloc _).alloc _⟩
          · have hres := Lib.hid (eqB_false (fun e : x = y => h_v_sort (by rw [e])))
            have i_v_sort : (x.v.sort == y.v.sort) = false := by simpa using h_v_sort
            go_enter Try.func56, Try.ntmps56
            go_wp2_with fail
            go_ret
            exact ⟨hres.out ▸ rfl, ((Wr.refl _ _).alloc _).alloc _⟩
        · have hres := Lib.hid (eqB_false (fun e : x = y => h_at_ (by rw [e])))
          have i_at_ : (x.at_ == y.at_) = false := by simpa using h_at_
          go_enter Try.func56, Try.ntmps56
          go_wp2_with fail
          go_ret
          exact ⟨hres.out ▸ rfl, ((Wr.refl _ _).alloc _).alloc _⟩
      · have hres := Lib.hid (eqB_false (fun e : x = y => h_type (by rw [e])))
        have i_type : (x.type == y.type) = false := by simpa using h_type
        go_enter Try.func56, Try.ntmps56
        go_wp2_with fail
        go_ret
        exact ⟨hres.out ▸ rfl, ((Wr.refl _ _).alloc _).alloc _⟩
    · have hres := Lib.hid (eqB_false (fun e : x = y => h_kind (by rw [e])))
      have i_kind : (x.kind == y.kind) = false := by simpa using h_kind
      go_enter Try.func56, Try.ntmps56
      go_wp2_with fail
      go_ret
      exact ⟨hres.out ▸ rfl, ((Wr.refl _ _).alloc _).alloc _⟩
  · have hres := Lib.hid (eqB_false (fun e : x = y => h_name (by rw [e])))
    have i_name : (x.name.toList == y.name.toList) = false := str_ne h_name
    have i2_name : ¬ x.name.toList = y.name.toList := by simpa using i_name
    go_enter Try.func56, Try.ntmps56
    go_wp2_with fail
    go_ret
    exact ⟨hres.out ▸ rfl, ((Wr.refl _ _).alloc _).alloc _⟩
set_option maxRecDepth 100000 in
set_option maxHeartbeats 16000000 in
theorem refSame_any (x y : FaceP) (vu vt vi uu ut ui : Value) (P Q : Nat → Prop) (w : World) (hx : FacePL w P vu vt vi x) (hy : FacePL w Q uu ut ui y) :
    Calls Try.prog 20 #[.agg #[.string x.module, vu, vt, vi], .agg #[.string y.module, uu, ut, ui]] w (BoolE (eqB x y) w) := by
  obtain ⟨⟨A1, a1, rfl, la1, ma1⟩, ⟨A2, a2, rfl, la2, ma2⟩, ⟨A3, a3, rfl, la3, ma3⟩⟩ := hx.forms
  obtain ⟨⟨B1, b1, rfl, lb1, mb1⟩, ⟨B2, b2, rfl, lb2, mb2⟩, ⟨B3, b3, rfl, lb3, mb3⟩⟩ := hy.forms
  unfold maxLen at ma1 ma2 ma3 mb1 mb2 mb3
  obtain ⟨wa, hwa⟩ : ∃ q, w.alloc (.cells #[.string x.module, .slice A1 x.uses.length a1, .slice A2 x.types.length a2, .slice A3 x.items.length a3] 26) = q := ⟨_, rfl⟩
  obtain ⟨g, hg⟩ : ∃ q, w.heap.size = q := ⟨_, rfl⟩
  have sa : wa.heap.size = g + 1 := by rw [← hwa, World.size_alloc, hg]
  obtain ⟨w0, hw0⟩ : ∃ q, wa.alloc (.cells #[.string y.module, .slice B1 y.uses.length b1, .slice B2 y.types.length b2, .slice B3 y.items.length b3] 26) = q := ⟨_, rfl⟩
  have ra : Wr [] w wa := by rw [← hwa]; exact (Wr.refl _ _).alloc _
  have rb : Wr [] wa w0 := by rw [← hw0]; exact (Wr.refl _ _).alloc _
  have bX : Blk w0 g 26 #[.string x.module, .slice A1 x.uses.length a1, .slice A2 x.types.length a2, .slice A3 x.items.length a3] := by
    have := (show Blk wa g 26 #[.string x.module, .slice A1 x.uses.length a1, .slice A2 x.types.length a2, .slice A3 x.items.length a3] by rw [← hwa, ← hg]; exact Blk.new _ _ _)
    exact this.wr0 rb
  have bY : Blk w0 (g + 1) 26 #[.string y.module, .slice B1 y.uses.length b1, .slice B2 y.types.length b2, .slice B3 y.items.length b3] := by rw [← hw0, ← sa]; exact Blk.new _ _ _
  have hw0' : (w.alloc (.cells #[.string x.module, .slice A1 x.uses.length a1, .slice A2 x.types.length a2, .slice A3 x.items.length a3] 26)).alloc (.cells #[.string y.module, .slice B1 y.uses.length b1, .slice B2 y.types.length b2, .slice B3 y.items.length b3] 26) = w0 := by rw [hwa, hw0]
  have acc := ra.trans rb
  have HX := Lib.hid (hx.wr0 acc)
  have HY := Lib.hid (hy.wr0 acc)
  have x0 := bX.cell 0
  have y0 := bY.cell 0
  have x1 := bX.cell 1
  have y1 := bY.cell 1
  have x2 := bX.cell 2
  have y2 := bY.cell 2
  have x3 := bX.cell 3
  have y3 := bY.cell 3
  simp only [List.getElem?_toArray, List.getElem?_cons_zero, List.getElem?_cons_succ] at x0 y0 x1 y1 x2 y2 x3 y3
  have ACC := Lib.hid acc
  have BX := Lib.hid bX
  have BY := Lib.hid bY
  have Hw0 := Lib.hid hw0'
  have Hg := Lib.hid hg
  clear hx hy hwa hw0 hw0' hg sa ra rb acc bX bY
  go_enter Try.func20, Try.ntmps20
  go_upto_region 1 with (fail)
  rw [Hw0.out, Hg.out]
  by_cases h_module : x.module = y.module
  · have i_module : (x.module.toList == y.module.toList) = true := by rw [h_module]; exact str_eq _
    have H_module := Lib.hid h_module
    clear h_module
    by_cases h_uses : x.uses.length = y.uses.length
    · have i_uses : ((x.uses.length : Int) == (y.uses.length : Int)) = true := by simp [h_uses]
      have j_uses : ((x.uses.length : Int) != (y.uses.length : Int)) = false := by simp [h_uses]
      have l_uses : y.uses.length ≤ x.uses.length := by omega
      have m_uses : x.uses.length ≤ y.uses.length := by omega
      have H_uses := Lib.hid h_uses
      clear h_uses
      by_cases h_types : x.types.length = y.types.length
      · have i_types : ((x.types.length : Int) == (y.types.length : Int)) = true := by simp [h_types]
        have j_types : ((x.types.length : Int) != (y.types.length : Int)) = false := by simp [h_types]
        have l_types : y.types.length ≤ x.types.length := by omega
        have m_types : x.types.length ≤ y.types.length := by omega
        have H_types := Lib.hid h_types
        clear h_types
        by_cases h_items : x.items.length = y.items.length
        · have i_items : ((x.items.length : Int) == (y.items.length : Int)) = true := by simp [h_items]
          have j_items : ((x.items.length : Int) != (y.items.length : Int)) = false := by simp [h_items]
          have l_items : y.items.length ≤ x.items.length := by omega
          have m_items : x.items.length ≤ y.items.length := by omega
          have H_items := Lib.hid h_items
          clear h_items
          go_wp2_with fail
          go_loopw [5] (fun sl wr => ∃ k : Nat, k ≤ x.uses.length ∧ sl = .int .i64 k ∧ x.uses.take k = y.uses.take k ∧ Wr [] w0 wr) (fun sl _ => x.uses.length - (intOf sl).toNat)
          case atStart => exact ⟨0, by omega, rfl, by simp, Wr.refl _ _⟩
          case round =>
            obtain ⟨k, hk, rfl, htk, rk⟩ := hrel
            have RK := Lib.hid rk
            have HTK := Lib.hid htk
            clear rk htk x0 x1 x2 x3 y0 y1 y2 y3
            have x1 := (BX.out.wr0 RK.out).cell 1
            have y1 := (BY.out.wr0 RK.out).cell 1
            have x2 := (BX.out.wr0 RK.out).cell 2
            have y2 := (BY.out.wr0 RK.out).cell 2
            have x3 := (BX.out.wr0 RK.out).cell 3
            have y3 := (BY.out.wr0 RK.out).cell 3
            simp only [List.getElem?_toArray, List.getElem?_cons_zero, List.getElem?_cons_succ] at x1 y1 x2 y2 x3 y3
            by_cases hlt : k < x.uses.length
            · obtain ⟨u, hu⟩ : ∃ u, x.uses[k]? = some u := ⟨_, List.getElem?_eq_getElem hlt⟩
              obtain ⟨v, hv⟩ : ∃ v, y.uses[k]? = some v := ⟨_, List.getElem?_eq_getElem (by omega)⟩
              have h0 : (0 : Int) ≤ (k : Int) := by omega
              have h1k : (k : Int) < (x.uses.length : Int) := by omega
              have h2k : (k : Int) < (y.uses.length : Int) := by omega
              obtain ⟨p1, o1, c1', e1, _, hc1⟩ := useF_at (Sl.wr0 HX.out.uses RK.out) hu
              obtain ⟨p2, o2, c2', e2, _, hc2⟩ := useF_at (Sl.wr0 HY.out.uses RK.out) hv
              injection e1 with e11 _ e12
              injection e2 with e21 _ e22
              subst e11 e12 e21 e22
              have u0 := hc1 0 _ rfl
              have u1 := hc1 1 _ rfl
              have v0 := hc2 0 _ rfl
              have v1 := hc2 1 _ rfl
              simp only [Nat.add_zero] at u0 v0
              clear hc1 hc2
              by_cases h_module : u.module = v.module
              · have i_module : (u.module.toList == v.module.toList) = true := by rw [h_module]; exact str_eq _
                have i2_module : u.module.toList = v.module.toList := by rw [h_module]
                by_cases h_key : u.key = v.key
                · have i_key : (u.key == v.key) = true := by simp [h_key]
                  have huv : u = v := by obtain ⟨q1, q2⟩ := u; obtain ⟨d1, d2⟩ := v; simp only at h_module h_key; subst h_module h_key; rfl
                  have hnx := Lib.hid (same_next (x := u) HTK.out hu (by rw [huv]; exact hv))
                  clear hu hv huv
                  go_wp2_with fail
                  go_quiet (fail)
                  go_wp2_with fail
                  go_roundw
                  case rel => exact ⟨k + 1, by omega, by go_num, hnx.out, RK.out.trans ((Wr.refl _ _).drewN _)⟩
                  case measure => simp [intOf]; omega
                · have hne : u ≠ v := fun e => h_key (by rw [e])
                  have i_key : (u.key == v.key) = false := by simpa using h_key
                  have hres := Lib.hid (eqB_false (fun e : x = y => ne_at hu hv hne (congrArg FaceP.uses e)))
                  clear hu hv hne
                  go_wp2_with fail
                  go_quiet (fail)
                  go_wp2_with fail
                  go_ret
                  exact ⟨hres.out ▸ rfl, ACC.out.trans (RK.out.trans ((Wr.refl _ _).drewN _))⟩
              · have hne : u ≠ v := fun e => h_module (by rw [e])
                have i_module : (u.module.toList == v.module.toList) = false := str_ne h_module
                have i2_module : ¬ u.module.toList = v.module.toList := by simpa using i_module
                have hres := Lib.hid (eqB_false (fun e : x = y => ne_at hu hv hne (congrArg FaceP.uses e)))
                clear hu hv hne
                go_wp2_with fail
                go_quiet (fail)
                go_wp2_with fail
                go_ret
                exact ⟨hres.out ▸ rfl, ACC.out.trans (RK.out.trans ((Wr.refl _ _).drewN _))⟩
            · obtain rfl : k = x.uses.length := by omega
              have H_us := Lib.hid (take_full H_uses.out HTK.out)
              have R1 := Lib.hid RK.out
              go_wp2_with fail
              go_loopw [6] (fun sl wr => ∃ k : Nat, k ≤ x.types.length ∧ sl = .int .i64 k ∧ x.types.take k = y.types.take k ∧ Wr [] w0 wr) (fun sl _ => x.types.length - (intOf sl).toNat)
              case atStart => exact ⟨0, by omega, rfl, by simp, R1.out⟩
              case round =>
                obtain ⟨k, hk, rfl, htk, rk⟩ := hrel
                have RK := Lib.hid rk
                have HTK := Lib.hid htk
                clear rk htk x1 x2 x3 y1 y2 y3
                have x1 := (BX.out.wr0 RK.out).cell 1
                have y1 := (BY.out.wr0 RK.out).cell 1
                have x2 := (BX.out.wr0 RK.out).cell 2
                have y2 := (BY.out.wr0 RK.out).cell 2
                have x3 := (BX.out.wr0 RK.out).cell 3
                have y3 := (BY.out.wr0 RK.out).cell 3
                simp only [List.getElem?_toArray, List.getElem?_cons_zero, List.getElem?_cons_succ] at x1 y1 x2 y2 x3 y3
                by_cases hlt : k < x.types.length
                · obtain ⟨u, hu⟩ : ∃ u, x.types[k]? = some u := ⟨_, List.getElem?_eq_getElem hlt⟩
                  obtain ⟨v, hv⟩ : ∃ v, y.types[k]? = some v := ⟨_, List.getElem?_eq_getElem (by omega)⟩
                  have h0 : (0 : Int) ≤ (k : Int) := by omega
                  have h1k : (k : Int) < (x.types.length : Int) := by omega
                  have h2k : (k : Int) < (y.types.length : Int) := by omega
                  obtain ⟨p1, o1, c1', un, uf, ua, up, e1, _, hc1, hl1⟩ := ty_at (HX.out.types.wr0 RK.out) hu
                  injection e1 with e11 _ e12
                  subst e11 e12
                  obtain ⟨⟨U1, uq1, rfl, _, _⟩, ⟨U2, uq2, rfl, _, _⟩, ⟨U3, uq3, rfl, _, _⟩, ⟨U4, uq4, rfl, _, _⟩⟩ := hl1.forms
                  have u0 := hc1 0 _ rfl
                  have u1 := hc1 1 _ rfl
                  have u2 := hc1 2 _ rfl
                  have u3 := hc1 3 _ rfl
                  have u4 := hc1 4 _ rfl
                  have u5 := hc1 5 _ rfl
                  have u6 := hc1 6 _ rfl
                  have u7 := hc1 7 _ rfl
                  have u8 := hc1 8 _ rfl
                  have u9 := hc1 9 _ rfl
                  have u10 := hc1 10 _ rfl
                  have u11 := hc1 11 _ rfl
                  simp only [Nat.add_zero] at u0
                  obtain ⟨p2, o2, c2', vn, vf, va, vp, e2, _, hc2, hl2⟩ := ty_at (HY.out.types.wr0 RK.out) hv
                  injection e2 with e21 _ e22
                  subst e21 e22
                  obtain ⟨⟨V1, vq1, rfl, _, _⟩, ⟨V2, vq2, rfl, _, _⟩, ⟨V3, vq3, rfl, _, _⟩, ⟨V4, vq4, rfl, _, _⟩⟩ := hl2.forms
                  have v0 := hc2 0 _ rfl
                  have v1 := hc2 1 _ rfl
                  have v2 := hc2 2 _ rfl
                  have v3 := hc2 3 _ rfl
                  have v4 := hc2 4 _ rfl
                  have v5 := hc2 5 _ rfl
                  have v6 := hc2 6 _ rfl
                  have v7 := hc2 7 _ rfl
                  have v8 := hc2 8 _ rfl
                  have v9 := hc2 9 _ rfl
                  have v10 := hc2 10 _ rfl
                  have v11 := hc2 11 _ rfl
                  simp only [Nat.add_zero] at v0
                  clear hc1 hc2
                  obtain ⟨r, hr⟩ : ∃ r, eqB u v = r := ⟨_, rfl⟩
                  have hsame := sameType_any u v _ _ _ _ _ _ _ _ _ _ wr.drew (hl1.keep (Wr.refl [] wr).drew (fun _ _ => by simp)) (hl2.keep (Wr.refl [] wr).drew (fun _ _ => by simp))
                  simp only [Ty.cells] at hsame
                  clear hl1 hl2
                  rw [hr] at hsame
                  have HSAME := Lib.hid hsame
                  have HR := Lib.hid hr
                  have HU := Lib.hid hu
                  have HV := Lib.hid hv
                  clear hsame hr hu hv
                  go_wp2_with fail
                  go_still_tail 10, (by kernel_rfl)
                  change wpList _ _ _ _ _ wr.drew
                  have hsd := HSAME.out
                  have rkd := Lib.hid (RK.out.drew)
                  generalize wr.drew = wd at *
                  have HSD := Lib.hid hsd
                  clear hsd
                  go_wp2_with fail
                  refine HSD.out.mono ?_
                  rintro e w2 ⟨rfl, r2⟩
                  cases r with
                  | true =>
                    have huv := eqB_iff.1 HR.out
                    have hnx := Lib.hid (same_next (x := u) HTK.out HU.out (by rw [huv]; exact HV.out))
                    have RN := Lib.hid (rkd.out.trans r2)
                    clear huv r2
                    go_wp2_with fail
                    go_roundw
                    case rel => exact ⟨k + 1, by omega, by go_num, hnx.out, RN.out⟩
                    case measure => simp [intOf]; omega
                  | false =>
                    have hne : u ≠ v := fun e => by have := HR.out; rw [eqB_true e] at this; cases this
                    have hres := Lib.hid (eqB_false (fun e : x = y => ne_at HU.out HV.out hne (congrArg FaceP.types e)))
                    have RN := Lib.hid (rkd.out.trans r2)
                    clear hne r2
                    go_wp2_with fail
                    go_ret
                    exact ⟨hres.out ▸ rfl, ACC.out.trans RN.out⟩
                · obtain rfl : k = x.types.length := by omega
                  have H_ty := Lib.hid (take_full H_types.out HTK.out)
                  have R2 := Lib.hid RK.out
                  go_wp2_with fail
                  go_loopw [7] (fun sl wr => ∃ k : Nat, k ≤ x.items.length ∧ sl = .int .i64 k ∧ x.items.take k = y.items.take k ∧ Wr [] w0 wr) (fun sl _ => x.items.length - (intOf sl).toNat)
                  case atStart => exact ⟨0, by omega, rfl, by simp, R2.out⟩
                  case round =>
                    obtain ⟨k, hk, rfl, htk, rk⟩ := hrel
                    have RK := Lib.hid rk
                    have HTK := Lib.hid htk
                    clear rk htk x1 x2 x3 y1 y2 y3
                    have x1 := (BX.out.wr0 RK.out).cell 1
                    have y1 := (BY.out.wr0 RK.out).cell 1
                    have x2 := (BX.out.wr0 RK.out).cell 2
                    have y2 := (BY.out.wr0 RK.out).cell 2
                    have x3 := (BX.out.wr0 RK.out).cell 3
                    have y3 := (BY.out.wr0 RK.out).cell 3
                    simp only [List.getElem?_toArray, List.getElem?_cons_zero, List.getElem?_cons_succ] at x1 y1 x2 y2 x3 y3
                    by_cases hlt : k < x.items.length
                    · obtain ⟨u, hu⟩ : ∃ u, x.items[k]? = some u := ⟨_, List.getElem?_eq_getElem hlt⟩
                      obtain ⟨v, hv⟩ : ∃ v, y.items[k]? = some v := ⟨_, List.getElem?_eq_getElem (by omega)⟩
                      have h0 : (0 : Int) ≤ (k : Int) := by omega
                      have h1k : (k : Int) < (x.items.length : Int) := by omega
                      have h2k : (k : Int) < (y.items.length : Int) := by omega
                      obtain ⟨p1, o1, c1', e1, _, hc1⟩ := pitm_at (Sl.wr0 HX.out.items RK.out) hu
                      injection e1 with e11 _ e12
                      subst e11 e12
                      have u0 := hc1 0 _ rfl
                      have u1 := hc1 1 _ rfl
                      have u2 := hc1 2 _ rfl
                      have u3 := hc1 3 _ rfl
                      have u4 := hc1 4 _ rfl
                      have u5 := hc1 5 _ rfl
                      have u6 := hc1 6 _ rfl
                      have u7 := hc1 7 _ rfl
                      simp only [Nat.add_zero] at u0
                      obtain ⟨p2, o2, c2', e2, _, hc2⟩ := pitm_at (Sl.wr0 HY.out.items RK.out) hv
                      injection e2 with e21 _ e22
                      subst e21 e22
                      have v0 := hc2 0 _ rfl
                      have v1 := hc2 1 _ rfl
                      have v2 := hc2 2 _ rfl
                      have v3 := hc2 3 _ rfl
                      have v4 := hc2 4 _ rfl
                      have v5 := hc2 5 _ rfl
                      have v6 := hc2 6 _ rfl
                      have v7 := hc2 7 _ rfl
                      simp only [Nat.add_zero] at v0
                      clear hc1 hc2
                      obtain ⟨r, hr⟩ : ∃ r, eqB u v = r := ⟨_, rfl⟩
                      have hsame := sameExport_any u v wr.drew
                      simp only [PItm.cells] at hsame
                      rw [hr] at hsame
                      have HSAME := Lib.hid hsame
                      have HR := Lib.hid hr
                      have HU := Lib.hid hu
                      have HV := Lib.hid hv
                      clear hsame hr hu hv
                      go_wp2_with fail
                      go_still_tail 10, (by kernel_rfl)
                      change wpList _ _ _ _ _ wr.drew
                      have hsd := HSAME.out
                      have rkd := Lib.hid (RK.out.drew)
                      generalize wr.drew = wd at *
                      have HSD := Lib.hid hsd
                      clear hsd
                      go_wp2_with fail
                      refine HSD.out.mono ?_
                      rintro e w2 ⟨rfl, r2⟩
                      cases r with
                      | true =>
                        have huv := eqB_iff.1 HR.out
                        have hnx := Lib.hid (same_next (x := u) HTK.out HU.out (by rw [huv]; exact HV.out))
                        have RN := Lib.hid (rkd.out.trans r2)
                        clear huv r2
                        go_wp2_with fail
                        go_roundw
                        case rel => exact ⟨k + 1, by omega, by go_num, hnx.out, RN.out⟩
                        case measure => simp [intOf]; omega
                      | false =>
                        have hne : u ≠ v := fun e => by have := HR.out; rw [eqB_true e] at this; cases this
                        have hres := Lib.hid (eqB_false (fun e : x = y => ne_at HU.out HV.out hne (congrArg FaceP.items e)))
                        have RN := Lib.hid (rkd.out.trans r2)
                        clear hne r2
                        go_wp2_with fail
                        go_ret
                        exact ⟨hres.out ▸ rfl, ACC.out.trans RN.out⟩
                    · obtain rfl : k = x.items.length := by omega
                      have H_it := Lib.hid (take_full H_items.out HTK.out)
                      have R3 := Lib.hid RK.out
                      have hres := Lib.hid (eqB_true (face_ext x y H_module.out H_us.out H_ty.out H_it.out))
                      go_wp2_with fail
                      go_ret
                      exact ⟨hres.out ▸ rfl, ACC.out.trans R3.out⟩
        · have i_items : ((x.items.length : Int) == (y.items.length : Int)) = false := by simpa using (by omega : ¬ (x.items.length : Int) = (y.items.length : Int))
          have j_items : ((x.items.length : Int) != (y.items.length : Int)) = true := by simpa using (by omega : ¬ (x.items.length : Int) = (y.items.length : Int))
          have k_items : ¬ x.items.length = y.items.length := h_items
          have hres := Lib.hid (eqB_false (fun e : x = y => h_items (by rw [e])))
          clear h_items
          go_wp2_with fail
          go_ret
          exact ⟨hres.out ▸ rfl, ACC.out⟩
      · have i_types : ((x.types.length : Int) == (y.types.length : Int)) = false := by simpa using (by omega : ¬ (x.types.length : Int) = (y.types.length : Int))
        have j_types : ((x.types.length : Int) != (y.types.length : Int)) = true := by simpa using (by omega : ¬ (x.types.length : Int) = (y.types.length : Int))
        have k_types : ¬ x.types.length = y.types.length := h_types
        have hres := Lib.hid (eqB_false (fun e : x = y => h_types (by rw [e])))
        clear h_types
        go_wp2_with fail
        go_ret
        exact ⟨hres.out ▸ rfl, ACC.out⟩
    · have i_uses : ((x.uses.length : Int) == (y.uses.length : Int)) = false := by simpa using (by omega : ¬ (x.uses.length : Int) = (y.uses.length : Int))
      have j_uses : ((x.uses.length : Int) != (y.uses.length : Int)) = true := by simpa using (by omega : ¬ (x.uses.length : Int) = (y.uses.length : Int))
      have k_uses : ¬ x.uses.length = y.uses.length := h_uses
      have hres := Lib.hid (eqB_false (fun e : x = y => h_uses (by rw [e])))
      clear h_uses
      go_wp2_with fail
      go_ret
      exact ⟨hres.out ▸ rfl, ACC.out⟩
  · have i_module : (x.module.toList == y.module.toList) = false := str_ne h_module
    have hres := Lib.hid (eqB_false (fun e : x = y => h_module (by rw [e])))
    clear h_module
    go_wp2_with fail
    go_ret
    exact ⟨hres.out ▸ rfl, ACC.out⟩
end Go.Proofs.Ytmpbkfbjmmoapaa
