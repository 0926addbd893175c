/- The document's Same: lists of numbers, items: walked. No conditions. -/
import Derived.Test.YtjanbpchedgoiaaKI13
import Derived.Test.YtjanbpchedgoiaaKI14
import Derived.Test.YtjanbpchedgoiaaKI17
import Derived.Laws.StructEq
namespace Go.Proofs.Ytjanbpchedgoiaa
open Go.RowKit
set_option linter.unusedVariables false
set_option linter.unusedSimpArgs false

/-- Are two the same? -/
noncomputable def eqB {α : Type} (a b : α) : Bool := @decide (a = b) (Classical.propDecidable _)
theorem eqB_true {α : Type} {a b : α} (h : a = b) : eqB a b = true := by exact @decide_eq_true _ (Classical.propDecidable _) h
theorem eqB_false {α : Type} {a b : α} (h : a ≠ b) : eqB a b = false := by exact @decide_eq_false _ (Classical.propDecidable _) h
theorem eqB_iff {α : Type} {a b : α} : eqB a b = true ↔ a = b := by exact @decide_eq_true_iff _ (Classical.propDecidable _)
theorem str_ne {s t : ByteArray} (h : s ≠ t) : (s.toList == t.toList) = false := by
  rw [beq_eq_false_iff_ne]
  intro e
  apply h
  rw [ByteArray.toList_eq, ByteArray.toList_eq] at e
  obtain ⟨⟨l⟩⟩ := s
  obtain ⟨⟨m⟩⟩ := t
  simp at e
  rw [e]
theorem str_eq (s : ByteArray) : (s.toList == s.toList) = true := by simp
theorem str_beq (s t : ByteArray) : (s.toList == t.toList) = eqB s t := by
  by_cases h : s = t
  · rw [h, eqB_true rfl]; exact str_eq t
  · rw [eqB_false h]; exact str_ne h
theorem int_beq (a b : Int) : (a == b) = eqB a b := by
  by_cases h : a = b
  · rw [eqB_true h]; simpa using h
  · rw [eqB_false h]; simpa using h
theorem bool_beq (a b : Bool) : (a == b) = eqB a b := by
  by_cases h : a = b
  · rw [eqB_true h]; simpa using h
  · rw [eqB_false h]; simpa using h
/-- Two lists that are the same so far. -/
theorem same_next {α : Type} {l m : List α} {k : Nat} {x : α} (h : l.take k = m.take k) (hx : l[k]? = some x) (hy : m[k]? = some x) : l.take (k + 1) = m.take (k + 1) := by
  have h1 := (List.getElem?_eq_some_iff.1 hx).1
  have h2 := (List.getElem?_eq_some_iff.1 hy).1
  rw [List.take_succ_eq_append_getElem h1, List.take_succ_eq_append_getElem h2, h, (List.getElem?_eq_some_iff.1 hx).2, (List.getElem?_eq_some_iff.1 hy).2]
theorem ne_at {α : Type} {l m : List α} {k : Nat} {x y : α} (hx : l[k]? = some x) (hy : m[k]? = some y) (h : x ≠ y) : l ≠ m := fun e => by
  rw [e, hy] at hx
  injection hx with hx
  exact h hx.symm
theorem take_full {α : Type} {l m : List α} (hl : l.length = m.length) (h : l.take l.length = m.take l.length) : l = m := by
  rw [List.take_length, hl, List.take_length] at h
  exact h
/-- An answer, and nothing but orders drawn. -/
def DrewB (r : Bool) (w : World) (e : Ending) (w' : World) : Prop := e = .returned (.bool r) ∧ ∃ n, w' = w.drewN n
set_option maxRecDepth 100000 in
set_option maxHeartbeats 4000000 in
theorem numbers_any (l m : List Int) (va vb : Value) (P Q : Nat → Prop) (w : World) (ha : SlInts w P va l) (hb : SlInts w Q vb m) :
    Calls Try.prog 90 #[va, vb] w (DrewB (eqB l m) w) := by
  obtain ⟨A, c, rfl, la, ma⟩ := Sl.form ha
  obtain ⟨B, d, rfl, lb, mb⟩ := Sl.form hb
  unfold maxLen at ma mb
  have HA := Lib.hid ha
  have HB := Lib.hid hb
  clear ha hb
  by_cases hlen : l.length = m.length
  · have HLEN := Lib.hid hlen
    have hne : ((l.length : Int) != (m.length : Int)) = false := by simp [hlen]
    have hle : m.length ≤ l.length := by omega
    have hge : l.length ≤ m.length := by omega
    clear hlen
    go_enter Try.func90, Try.ntmps90
    go_wp2_with fail
    go_loopw [5] (fun s5 wr => ∃ k : Nat, k ≤ l.length ∧ s5 = .int .i64 k ∧ l.take k = m.take k ∧ ∃ n, wr = w.drewN n) (fun s5 _ => l.length - (intOf s5).toNat)
    case atStart => exact ⟨0, by omega, rfl, by simp, 0, rfl⟩
    case round =>
      obtain ⟨k, hk, rfl, htk, n0, hn0⟩ := hrel
      have hw0 : Wr [] w wr := by rw [hn0]; exact (Wr.refl _ _).drewN _
      have HN0 := Lib.hid hn0
      have HTK := Lib.hid htk
      clear hn0 htk
      by_cases hlt : k < l.length
      · obtain ⟨x, hx⟩ : ∃ x, l[k]? = some x := ⟨_, List.getElem?_eq_getElem hlt⟩
        obtain ⟨y, hy⟩ : ∃ y, m[k]? = some y := ⟨_, List.getElem?_eq_getElem (by omega)⟩
        obtain ⟨b1, o1, c1, e1, _, _, _, hc1⟩ := Sl.at_ (Sl.wr0 HA.out hw0) (j := k) (u := .int .i64 x) (by rw [List.getElem?_map, hx]; rfl)
        obtain ⟨b2, o2, c2, e2, _, _, _, hc2⟩ := Sl.at_ (Sl.wr0 HB.out hw0) (j := k) (u := .int .i64 y) (by rw [List.getElem?_map, hy]; rfl)
        injection e1 with e11 _ e12
        injection e2 with e21 _ e22
        subst e11 e12 e21 e22
        have h0 : (0 : Int) ≤ (k : Int) := by omega
        have h1 : (k : Int) < (l.length : Int) := by omega
        have h2 : (k : Int) < (m.length : Int) := by omega
        by_cases hxy : x = y
        · subst hxy
          have hnx := Lib.hid (same_next HTK.out hx hy)
          clear hx hy
          go_wp2_with fail
          go_quiet (fail)
          go_wp2_with fail
          go_roundw
          case rel => exact ⟨k + 1, by omega, by go_num, hnx.out, _, by rw [HN0.out, World.drewN_drewN]⟩
          case measure => simp [intOf]; omega
        · have hres := Lib.hid (eqB_false (ne_at hx hy hxy))
          clear hx hy
          go_wp2_with fail
          go_quiet (fail)
          go_wp2_with fail
          go_ret
          exact ⟨by rw [hres.out]; rfl, _, by rw [HN0.out, World.drewN_drewN]⟩
      · obtain rfl : k = l.length := by omega
        have hres := Lib.hid (eqB_true (take_full HLEN.out HTK.out))
        go_wp2_with fail
        go_ret
        exact ⟨by rw [hres.out]; rfl, n0, HN0.out⟩
  · have hres := Lib.hid (eqB_false (fun e : l = m => hlen (by rw [e])))
    have hne : ((l.length : Int) != (m.length : Int)) = true := by simpa using (by omega : ¬ (l.length : Int) = (m.length : Int))
    have hne2 : ((l.length : Int) == (m.length : Int)) = false := by simpa using (by omega : ¬ (l.length : Int) = (m.length : Int))
    have hne3 : ¬ l.length = m.length := hlen
    clear hlen
    go_enter Try.func90, Try.ntmps90
    go_wp2_with fail
    go_ret
    exact ⟨by rw [hres.out]; rfl, 0, rfl⟩
set_option maxRecDepth 100000 in
set_option maxHeartbeats 8000000 in
theorem arms_any (l m : List ArmD) (va vb : Value) (P Q : Nat → Prop) (w : World) (ha : SlArms w P va l) (hb : SlArms w Q vb m) :
    Calls Try.prog 73 #[va, vb] w (DrewB (eqB l m) w) := by
  obtain ⟨xs, ha1, _, ha3⟩ := ha
  obtain ⟨ys, hb1, _, hb3⟩ := hb
  obtain ⟨A, c, rfl, la, ma⟩ := Sl.form ha1
  obtain ⟨B, d, rfl, lb, mb⟩ := Sl.form hb1
  unfold maxLen at ma mb
  have HA := Lib.hid ha1
  have HB := Lib.hid hb1
  have HA3 := Lib.hid ha3
  have HB3 := Lib.hid hb3
  clear ha1 hb1 ha3 hb3
  by_cases hlen : l.length = m.length
  · have HLEN := Lib.hid hlen
    have hne : ((l.length : Int) != (m.length : Int)) = false := by simp [hlen]
    have hle : m.length ≤ l.length := by omega
    have hge : l.length ≤ m.length := by omega
    clear hlen
    go_enter Try.func73, Try.ntmps73
    go_wp2_with fail
    go_loopw [5] (fun s5 wr => ∃ k : Nat, k ≤ l.length ∧ s5 = .int .i64 k ∧ l.take k = m.take k ∧ ∃ n, wr = w.drewN n) (fun s5 _ => l.length - (intOf s5).toNat)
    case atStart => exact ⟨0, by omega, rfl, by simp, 0, rfl⟩
    case round =>
      obtain ⟨k, hk, rfl, htk, n0, hn0⟩ := hrel
      have hw0 : Wr [] w wr := by rw [hn0]; exact (Wr.refl _ _).drewN _
      have HN0 := Lib.hid hn0
      have HTK := Lib.hid htk
      clear hn0 htk
      by_cases hlt : k < l.length
      · obtain ⟨x, hx⟩ : ∃ x, l[k]? = some x := ⟨_, List.getElem?_eq_getElem hlt⟩
        obtain ⟨y, hy⟩ : ∃ y, m[k]? = some y := ⟨_, List.getElem?_eq_getElem (by omega)⟩
        obtain ⟨u0, u1, f0, f1, f2, sa, sb⟩ := HA3.out k x hx
        obtain ⟨v0, v1, g0, g1, g2, ta, tb⟩ := HB3.out k y hy
        obtain ⟨Q1, m1, rfl, _, _⟩ := Sl.form sa
        obtain ⟨Q2, m2, rfl, _, _⟩ := Sl.form sb
        obtain ⟨R1, p1, rfl, _, _⟩ := Sl.form ta
        obtain ⟨R2, p2, rfl, _, _⟩ := Sl.form tb
        obtain ⟨b1, o1, c1', e1, _, _, _, hc1⟩ := Sl.thing (Sl.wr0 HA.out hw0) (by decide) hlt
        obtain ⟨b2, o2, c2', e2, _, _, _, hc2⟩ := Sl.thing (Sl.wr0 HB.out hw0) (by decide) (by omega : k < m.length)
        injection e1 with e11 _ e12
        injection e2 with e21 _ e22
        subst e11 e12 e21 e22
        have x0 := hc1 0 _ (by decide) f0
        have x1 := hc1 1 _ (by decide) f1
        have x2 := hc1 2 _ (by decide) f2
        have y0 := hc2 0 _ (by decide) g0
        have y1 := hc2 1 _ (by decide) g1
        have y2 := hc2 2 _ (by decide) g2
        simp only [Nat.add_zero, ← Nat.add_assoc] at x0 x1 x2 y0 y1 y2
        have HSA := Lib.hid (Sl.wr0 sa hw0)
        have HSB := Lib.hid (Sl.wr0 sb hw0)
        have HTA := Lib.hid (Sl.wr0 ta hw0)
        have HTB := Lib.hid (Sl.wr0 tb hw0)
        have h0 : (0 : Int) ≤ (k : Int) := by omega
        have h1k : (k : Int) < (l.length : Int) := by omega
        have h2k : (k : Int) < (m.length : Int) := by omega
        clear f0 f1 f2 g0 g1 g2 sa sb ta tb hc1 hc2 hw0
        by_cases c1 : x.frm = y.frm
        · by_cases c2 : x.to = y.to
          · by_cases c3 : x.els = y.els
            · have d3 : (x.els != y.els) = false := by simp [c3]
              have d4 : (x.els == y.els) = true := by simp [c3]
              have h1 : ∀ n, Calls Try.prog 90 #[.slice Q1 x.frm.length m1, .slice R1 y.frm.length p1] (wr.drewN n) fun e w' => e = .returned (.bool true) ∧ ∃ m, w' = (wr.drewN n).drewN m := fun n => by
                have := numbers_any x.frm y.frm _ _ _ _ (wr.drewN n) (Sl.wr0 HSA.out ((Wr.refl _ _).drewN n)) (Sl.wr0 HTA.out ((Wr.refl _ _).drewN n))
                rw [eqB_true c1] at this
                exact this
              have h2 : ∀ n, Calls Try.prog 90 #[.slice Q2 x.to.length m2, .slice R2 y.to.length p2] (wr.drewN n) fun e w' => e = .returned (.bool true) ∧ ∃ m, w' = (wr.drewN n).drewN m := fun n => by
                have := numbers_any x.to y.to _ _ _ _ (wr.drewN n) (Sl.wr0 HSB.out ((Wr.refl _ _).drewN n)) (Sl.wr0 HTB.out ((Wr.refl _ _).drewN n))
                rw [eqB_true c2] at this
                exact this
              have H2 := Lib.hid h2
              clear h2
              have H1 := Lib.hid h1
              clear h1
              have hxy : x = y := by obtain ⟨a1, a2, a3⟩ := x; obtain ⟨d1, d2, d3⟩ := y; simp only at c1 c2 c3; subst c1 c2 c3; rfl
              have hnx := Lib.hid (same_next (x := x) HTK.out hx (by rw [hxy]; exact hy))
              clear hx hy c1 c2 c3 hxy
              go_wp2_with fail
              go_quiet ((go_at_call 90; first | (with_reducible exact Calls.quiet_of (H1.out _)) | (with_reducible exact Calls.quiet_of (H2.out _))))
              go_wp2_with fail
              go_roundw
              case rel => exact ⟨k + 1, by omega, by go_num, hnx.out, _, by rw [HN0.out, World.drewN_drewN]⟩
              case measure => simp [intOf]; omega
            · have d3 : (x.els != y.els) = true := by simpa using c3
              have d4 : (x.els == y.els) = false := by simpa using c3
              have h1 : ∀ n, Calls Try.prog 90 #[.slice Q1 x.frm.length m1, .slice R1 y.frm.length p1] (wr.drewN n) fun e w' => e = .returned (.bool true) ∧ ∃ m, w' = (wr.drewN n).drewN m := fun n => by
                have := numbers_any x.frm y.frm _ _ _ _ (wr.drewN n) (Sl.wr0 HSA.out ((Wr.refl _ _).drewN n)) (Sl.wr0 HTA.out ((Wr.refl _ _).drewN n))
                rw [eqB_true c1] at this
                exact this
              have h2 : ∀ n, Calls Try.prog 90 #[.slice Q2 x.to.length m2, .slice R2 y.to.length p2] (wr.drewN n) fun e w' => e = .returned (.bool true) ∧ ∃ m, w' = (wr.drewN n).drewN m := fun n => by
                have := numbers_any x.to y.to _ _ _ _ (wr.drewN n) (Sl.wr0 HSB.out ((Wr.refl _ _).drewN n)) (Sl.wr0 HTB.out ((Wr.refl _ _).drewN n))
                rw [eqB_true c2] at this
                exact this
              have H2 := Lib.hid h2
              clear h2
              have H1 := Lib.hid h1
              clear h1
              have hres := Lib.hid (eqB_false (ne_at hx hy (fun e : x = y => c3 (by rw [e]))))
              clear hx hy c1 c2 c3
              go_wp2_with fail
              go_quiet ((go_at_call 90; first | (with_reducible exact Calls.quiet_of (H1.out _)) | (with_reducible exact Calls.quiet_of (H2.out _))))
              go_wp2_with fail
              go_ret
              exact ⟨by rw [hres.out]; rfl, _, by rw [HN0.out, World.drewN_drewN]⟩
          · skip
            have h1 : ∀ n, Calls Try.prog 90 #[.slice Q1 x.frm.length m1, .slice R1 y.frm.length p1] (wr.drewN n) fun e w' => e = .returned (.bool true) ∧ ∃ m, w' = (wr.drewN n).drewN m := fun n => by
              have := numbers_any x.frm y.frm _ _ _ _ (wr.drewN n) (Sl.wr0 HSA.out ((Wr.refl _ _).drewN n)) (Sl.wr0 HTA.out ((Wr.refl _ _).drewN n))
              rw [eqB_true c1] at this
              exact this
            have h2 : ∀ n, Calls Try.prog 90 #[.slice Q2 x.to.length m2, .slice R2 y.to.length p2] (wr.drewN n) fun e w' => e = .returned (.bool false) ∧ ∃ m, w' = (wr.drewN n).drewN m := fun n => by
              have := numbers_any x.to y.to _ _ _ _ (wr.drewN n) (Sl.wr0 HSB.out ((Wr.refl _ _).drewN n)) (Sl.wr0 HTB.out ((Wr.refl _ _).drewN n))
              rw [eqB_false c2] at this
              exact this
            have H2 := Lib.hid h2
            clear h2
            have H1 := Lib.hid h1
            clear h1
            have hres := Lib.hid (eqB_false (ne_at hx hy (fun e : x = y => c2 (by rw [e]))))
            clear hx hy c1 c2
            go_wp2_with fail
            go_quiet ((go_at_call 90; first | (with_reducible exact Calls.quiet_of (H1.out _)) | (with_reducible exact Calls.quiet_of (H2.out _))))
            go_wp2_with fail
            go_ret
            exact ⟨by rw [hres.out]; rfl, _, by rw [HN0.out, World.drewN_drewN]⟩
        · skip
          have h1 : ∀ n, Calls Try.prog 90 #[.slice Q1 x.frm.length m1, .slice R1 y.frm.length p1] (wr.drewN n) fun e w' => e = .returned (.bool false) ∧ ∃ m, w' = (wr.drewN n).drewN m := fun n => by
            have := numbers_any x.frm y.frm _ _ _ _ (wr.drewN n) (Sl.wr0 HSA.out ((Wr.refl _ _).drewN n)) (Sl.wr0 HTA.out ((Wr.refl _ _).drewN n))
            rw [eqB_false c1] at this
            exact this
          have H1 := Lib.hid h1
          clear h1
          have hres := Lib.hid (eqB_false (ne_at hx hy (fun e : x = y => c1 (by rw [e]))))
          clear hx hy c1
          go_wp2_with fail
          go_quiet ((go_at_call 90; with_reducible exact Calls.quiet_of (H1.out _)))
          go_wp2_with fail
          go_ret
          exact ⟨by rw [hres.out]; rfl, _, by rw [HN0.out, World.drewN_drewN]⟩
      · obtain rfl : k = l.length := by omega
        have hres := Lib.hid (eqB_true (take_full HLEN.out HTK.out))
        go_wp2_with fail
        go_ret
        exact ⟨by rw [hres.out]; rfl, n0, HN0.out⟩
  · have hres := Lib.hid (eqB_false (fun e : l = m => hlen (by rw [e])))
    have hne : ((l.length : Int) != (m.length : Int)) = true := by simpa using (by omega : ¬ (l.length : Int) = (m.length : Int))
    have hne2 : ((l.length : Int) == (m.length : Int)) = false := by simpa using (by omega : ¬ (l.length : Int) = (m.length : Int))
    have hne3 : ¬ l.length = m.length := hlen
    clear hlen
    go_enter Try.func73, Try.ntmps73
    go_wp2_with fail
    go_ret
    exact ⟨by rw [hres.out]; rfl, 0, rfl⟩
end Go.Proofs.Ytjanbpchedgoiaa
