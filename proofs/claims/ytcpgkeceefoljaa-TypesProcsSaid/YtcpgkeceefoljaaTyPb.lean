/- What Alike asks of parameters: the closure, and slices.EqualFunc over it: walked. Conditions: what the types of two parameters answer is known. -/
import Derived.Test.YtcpgkeceefoljaaTyX
namespace Go.Proofs.Ytcpgkeceefoljaa
open Go.RowKit
set_option linter.unusedVariables false
set_option linter.unusedSimpArgs false
attribute [local go_sem ↓] Go.wp_at_zero Go.wp_at_succ

/-- Two parameters are one. -/
def parB (x y : Par) : Bool := x.var == y.var && x.type == y.type
theorem parB_iff (x y : Par) : parB x y = true ↔ x = y := by
  obtain ⟨a, b⟩ := x
  obtain ⟨c, d⟩ := y
  simp [parB]
/-- The closure that asks itself stands in its cell. -/
def AlkIn (w : World) (pt pm pa : Nat) : Prop := w.cell? ⟨pa, 0, none⟩ = some (.func (.func 29) #[] #[.pointer (some ⟨pt, 0, none⟩), .pointer (some ⟨pm, 0, none⟩), .pointer (some ⟨pa, 0, none⟩)])
/-- What it answers of two numbers. -/
def AlkLow (w : World) (pt pm pa : Nat) (i j : Int) : Prop := ∀ W, Wr [] w W → Calls Try.prog 29 #[.int .i64 i, .int .i64 j, .pointer (some ⟨pt, 0, none⟩), .pointer (some ⟨pm, 0, none⟩), .pointer (some ⟨pa, 0, none⟩)] W fun e w' => e = .returned (.bool (i == j)) ∧ Wr [] W w'
set_option maxHeartbeats 4000000 in
theorem alike11_any (w : World) (pt pm pa : Nat) (x y : Par) (ha : AlkIn w pt pm pa) (hlow : AlkLow w pt pm pa x.type y.type) :
    Calls Try.prog 32 #[.agg #[.bool x.var, .int .i64 x.type], .agg #[.bool y.var, .int .i64 y.type], .pointer (some ⟨pa, 0, none⟩)] w fun e w' => e = .returned (.bool (parB x y)) ∧ Wr [] w w' := by
  obtain ⟨xv, xi⟩ := x
  obtain ⟨yv, yi⟩ := y
  unfold AlkIn at ha
  unfold AlkLow at hlow
  unfold parB
  simp only at hlow ⊢
  have zpa := World.block_lt_of_cell? w _ ha
  simp only at zpa
  cases xv <;> cases yv
  · simp only [beq_self_eq_true, Bool.true_and]
    generalize (xi == yi) = rs at *
    go_enter Try.func32, Try.ntmps32
    go_wp2_with fail
    refine (hlow _ (((Wr.refl [] w).alloc _).alloc _)).mono ?_
    clear hlow
    rintro e w1 ⟨rfl, r⟩
    have R := Lib.hid ((((Wr.refl [] w).alloc _).alloc _).trans r)
    clear r
    go_wp2_with fail
    go_ret
    exact ⟨rfl, R.out⟩
  · clear hlow
    go_enter Try.func32, Try.ntmps32
    go_wp2_with fail
    go_ret
    exact ⟨rfl, ((Wr.refl [] w).alloc _).alloc _⟩
  · clear hlow
    go_enter Try.func32, Try.ntmps32
    go_wp2_with fail
    go_ret
    exact ⟨rfl, ((Wr.refl [] w).alloc _).alloc _⟩
  · simp only [beq_self_eq_true, Bool.true_and]
    generalize (xi == yi) = rs at *
    go_enter Try.func32, Try.ntmps32
    go_wp2_with fail
    refine (hlow _ (((Wr.refl [] w).alloc _).alloc _)).mono ?_
    clear hlow
    rintro e w1 ⟨rfl, r⟩
    have R := Lib.hid ((((Wr.refl [] w).alloc _).alloc _).trans r)
    clear r
    go_wp2_with fail
    go_ret
    exact ⟨rfl, R.out⟩
/-- What EqualFunc answers. -/
def EqfP (w : World) (l m : List Par) (e : Ending) (w' : World) : Prop := ∃ b : Bool, e = .returned (.bool b) ∧ Wr [] w w' ∧ (b = true ↔ l = m)
/-- At the head of a round. -/
def EqfAt (w : World) (l m : List Par) (s : Value) (wr : World) : Prop := ∃ k : Nat, k ≤ l.length ∧ s = .int .i64 k ∧ Wr [] w wr ∧ ∀ j, j < k → l[j]? = m[j]?
set_option maxHeartbeats 4000000 in
theorem eqf_any (w : World) (pt pm pa : Nat) (P Q : Nat → Prop) (v1 v2 : Value) (l m : List Par) (h1 : SlPars w P v1 l) (h2 : SlPars w Q v2 m) (ha : AlkIn w pt pm pa) (hlow : ∀ x ∈ l, ∀ y ∈ m, AlkLow w pt pm pa x.type y.type) :
    Calls Try.prog 31 #[v1, v2, .func (.func 32) #[] #[.pointer (some ⟨pa, 0, none⟩)]] w (EqfP w l m) := by
  obtain ⟨A1, c1, rfl, k1, k2⟩ := Sl.form h1
  obtain ⟨A2, c2, rfl, k3, k4⟩ := Sl.form h2
  unfold maxLen at k2 k4
  by_cases hlen : l.length = m.length
  · have H1 := Lib.hid h1
    have H2 := Lib.hid h2
    have HA := Lib.hid ha
    have HLow := Lib.hid hlow
    have HLN := Lib.hid hlen
    rw [← hlen] at k3 ⊢
    clear h1 h2 ha hlow hlen
    go_enter Try.func31, Try.ntmps31
    go_wp2_with fail
    go_loopw [17] (fun s wr => EqfAt w l m s wr) (fun s _ => l.length - (intOf s).toNat)
    case atStart => exact ⟨0, Nat.zero_le _, rfl, Wr.refl _ _, fun j hj => absurd hj (by omega)⟩
    case round =>
      obtain ⟨k, hk, rfl, hr, hj⟩ := hrel
      have HJ := Lib.hid hj
      have HR := Lib.hid hr
      by_cases hlt : k < l.length
      · have hltm : k < m.length := by rw [← HLN.out]; exact hlt
        obtain ⟨x, hx⟩ : ∃ x, l[k]? = some x := ⟨l[k], List.getElem?_eq_getElem hlt⟩
        obtain ⟨y, hy⟩ : ∃ y, m[k]? = some y := ⟨m[k], List.getElem?_eq_getElem hltm⟩
        have hatx : ∀ j u, j < 2 → x.cells[j]? = some u → (l.flatMap Par.cells)[k * 2 + j]? = some u := fun j u hj hu => by
          rw [flatMap_at Par.cells 2 (fun _ => rfl) l k j x hx hj]
          exact hu
        have haty : ∀ j u, j < 2 → y.cells[j]? = some u → (m.flatMap Par.cells)[k * 2 + j]? = some u := fun j u hj hu => by
          rw [flatMap_at Par.cells 2 (fun _ => rfl) m k j y hy hj]
          exact hu
        obtain ⟨bF, oF, cF, hvF, _, _, _, hF⟩ := Sl.thing (Sl.wr0 H1.out hr) (by omega) hlt
        obtain ⟨bG, oG, cG, hvG, _, _, _, hG⟩ := Sl.thing (Sl.wr0 H2.out hr) (by omega) hltm
        injection hvF with hvF _ e3
        subst hvF e3
        injection hvG with hvG _ e3
        subst hvG e3
        have f0 := hF 0 _ (by omega) (hatx 0 _ (by omega) rfl)
        have f1 := hF 1 _ (by omega) (hatx 1 _ (by omega) rfl)
        have g0 := hG 0 _ (by omega) (haty 0 _ (by omega) rfl)
        have g1 := hG 1 _ (by omega) (haty 1 _ (by omega) rfl)
        rw [Nat.add_zero] at f0 g0
        rw [← Nat.add_assoc] at f1 g1
        have zF := World.block_lt_of_cell? wr _ f0
        have zG := World.block_lt_of_cell? wr _ g0
        simp only at zF zG
        have hi0 : (0 : Int) ≤ (k : Int) := by omega
        have hi1 : (k : Int) < (l.length : Int) := by omega
        have hcl := fun W (hW : Wr [] w W) => alike11_any W pt pm pa x y (hW.cellOf HA.out (by simp)) (fun V hV => HLow.out x (List.mem_of_getElem? hx) y (List.mem_of_getElem? hy) V (hW.trans hV))
        have hpb := parB_iff x y
        have HX := Lib.hid hx
        have HY := Lib.hid hy
        have HPB := Lib.hid hpb
        clear hr hj hatx haty hF hG hx hy hpb hltm
        generalize parB x y = rs at *
        go_wp2_with fail
        refine (hcl _ ((HR.out.alloc _).alloc _)).mono ?_
        clear hcl f0 f1 g0 g1
        rintro e w2 ⟨rfl, r⟩
        have R2 := Lib.hid (((HR.out.alloc _).alloc _).trans r)
        clear r
        cases rs with
        | false =>
          go_wp2_with fail
          go_ret
          refine ⟨_, rfl, R2.out, ⟨fun h => (by cases h), fun h => ?_⟩⟩
          have hxy := HX.out
          rw [h, HY.out] at hxy
          injection hxy with hxy
          exact HPB.out.2 hxy.symm
        | true =>
          go_wp2_with fail
          go_roundw
          case rel =>
            refine ⟨k + 1, by omega, by go_num, R2.out, fun j hj => ?_⟩
            by_cases hjk : j = k
            · rw [hjk, HX.out, HY.out, HPB.out.1 (by simp)]
            · exact HJ.out j (by omega)
          case measure => simp [intOf]; omega
      · have hkl : k = l.length := by omega
        subst hkl
        go_wp2_with fail
        go_ret
        refine ⟨_, rfl, HR.out, ⟨fun _ => ?_, fun _ => rfl⟩⟩
        apply List.ext_getElem?
        intro j
        by_cases hjl : j < l.length
        · exact HJ.out j hjl
        · rw [List.getElem?_eq_none (by omega), List.getElem?_eq_none (by have := HLN.out; omega)]
  · have hl2 : ¬((l.length : Int) = (m.length : Int)) := by omega
    have HLN := Lib.hid hlen
    clear h1 h2 ha hlow hlen
    go_enter Try.func31, Try.ntmps31
    go_wp2_with fail
    go_ret
    exact ⟨_, rfl, Wr.refl _ _, ⟨fun h => (by cases h), fun h => absurd (congrArg List.length h) HLN.out⟩⟩
end Go.Proofs.Ytcpgkeceefoljaa

