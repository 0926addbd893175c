/- link's wrong, over its four closures: walked. Conditions: what each of them does. -/
import Derived.Test.YtfeeeogkkajefaaLnD
namespace Go.Proofs.Ytfeeeogkkajefaa
open Go.RowKit
set_option linter.unusedVariables false
set_option linter.unusedSimpArgs false

/-- One of the closures is well, or the row ends with what it answers. -/
def StepP (S : World → Prop) (E : ByteArray → Int → World → Prop) (e : Ending) (w' : World) : Prop :=
  (e = .returned (.tuple #[.string ⟨#[]⟩, .int .i64 0]) ∧ S w') ∨ ∃ who en, en ≠ 0 ∧ e = .returned (.tuple #[.string who, .int .i64 en]) ∧ E who en w'
def RowF (q : Nat) (k1 k2 k3 k4 : Array Value) (w : World) : Prop :=
  Blk w q 66 #[.func (.func 18) #[] k1, .func (.func 20) #[] k2, .func (.func 22) #[] k3, .func (.func 23) #[] k4]
set_option maxRecDepth 100000 in
set_option maxHeartbeats 8000000 in
theorem wrong_any (q : Nat) (a1 a2 b1 b2 b3 c1 c2 c3 d1 d2 d3 : Value) (S0 S1 S2 S3 S4 : World → Prop) (E : ByteArray → Int → World → Prop)
    (hB : ∀ w, S0 w ∨ S1 w ∨ S2 w ∨ S3 w → RowF q #[a1, a2] #[b1, b2, b3] #[c1, c2, c3] #[d1, d2, d3] w)
    (h1 : ∀ w, S0 w → Calls Try.prog 18 #[a1, a2] w (StepP S1 E))
    (h2 : ∀ w, S1 w → Calls Try.prog 20 #[b1, b2, b3] w (StepP S2 E))
    (h3 : ∀ w, S2 w → Calls Try.prog 22 #[c1, c2, c3] w (StepP S3 E))
    (h4 : ∀ w, S3 w → Calls Try.prog 23 #[d1, d2, d3] w (StepP S4 E))
    (w : World) (hs : S0 w) : Calls Try.prog 24 #[.slice (some ⟨q, 0, none⟩) 4 4] w (StepP S4 E) := by
  have x0 := Blk.cell (hB w (.inl hs)) 0
  simp only [List.getElem?_toArray, List.getElem?_cons_zero, List.getElem?_cons_succ] at x0
  have HS := Lib.hid hs
  have HB := Lib.hid hB
  have H1 := Lib.hid h1
  have H2 := Lib.hid h2
  have H3 := Lib.hid h3
  have H4 := Lib.hid h4
  clear hs hB h1 h2 h3 h4
  go_enter Try.func24, Try.ntmps24
  go_wp2_with fail
  refine wp_loop_rounds 5 ?_
  rw [rounds_succ]
  go_wp2_with fail
  refine (H1.out _ HS.out).mono ?_
  intro e w1 hp
  rcases hp with ⟨rfl, hs1⟩ | ⟨who, en, hen, rfl, hE⟩
  · have y0 := Blk.cell (HB.out w1 (.inr (.inl hs1))) 1
    simp only [List.getElem?_toArray, List.getElem?_cons_zero, List.getElem?_cons_succ] at y0
    have HS1 := Lib.hid hs1
    clear hs1 x0
    go_wp2_with fail
    rw [rounds_succ]
    go_wp2_with fail
    refine (H2.out _ HS1.out).mono ?_
    intro e w2 hp
    rcases hp with ⟨rfl, hs2⟩ | ⟨who, en, hen, rfl, hE⟩
    · have x0 := Blk.cell (HB.out w2 (.inr (.inr (.inl hs2)))) 2
      simp only [List.getElem?_toArray, List.getElem?_cons_zero, List.getElem?_cons_succ] at x0
      have HS2 := Lib.hid hs2
      clear hs2 y0
      go_wp2_with fail
      rw [rounds_succ]
      go_wp2_with fail
      refine (H3.out _ HS2.out).mono ?_
      intro e w3 hp
      rcases hp with ⟨rfl, hs3⟩ | ⟨who, en, hen, rfl, hE⟩
      · have y0 := Blk.cell (HB.out w3 (.inr (.inr (.inr hs3)))) 3
        simp only [List.getElem?_toArray, List.getElem?_cons_zero, List.getElem?_cons_succ] at y0
        have HS3 := Lib.hid hs3
        clear hs3 x0
        go_wp2_with fail
        rw [rounds_succ]
        go_wp2_with fail
        refine (H4.out _ HS3.out).mono ?_
        intro e w4 hp
        rcases hp with ⟨rfl, hs4⟩ | ⟨who, en, hen, rfl, hE⟩
        · have HS4 := Lib.hid hs4
          clear hs4 y0
          go_wp2_with fail
          rw [rounds_succ]
          go_wp2_with fail
          go_ret2
          exact .inl ⟨rfl, HS4.out⟩
        · have hd : (en == 0) = false := by simpa using hen
          have hd2 : (en != 0) = true := by simpa using hen
          have HE := Lib.hid hE
          have HEN := Lib.hid hen
          clear hE hen
          go_wp2_with fail
          go_ret2
          exact .inr ⟨who, en, HEN.out, rfl, HE.out⟩
      · have hd : (en == 0) = false := by simpa using hen
        have hd2 : (en != 0) = true := by simpa using hen
        have HE := Lib.hid hE
        have HEN := Lib.hid hen
        clear hE hen
        go_wp2_with fail
        go_ret2
        exact .inr ⟨who, en, HEN.out, rfl, HE.out⟩
    · have hd : (en == 0) = false := by simpa using hen
      have hd2 : (en != 0) = true := by simpa using hen
      have HE := Lib.hid hE
      have HEN := Lib.hid hen
      clear hE hen
      go_wp2_with fail
      go_ret2
      exact .inr ⟨who, en, HEN.out, rfl, HE.out⟩
  · have hd : (en == 0) = false := by simpa using hen
    have hd2 : (en != 0) = true := by simpa using hen
    have HE := Lib.hid hE
    have HEN := Lib.hid hen
    clear hE hen
    go_wp2_with fail
    go_ret2
    exact .inr ⟨who, en, HEN.out, rfl, HE.out⟩
end Go.Proofs.Ytfeeeogkkajefaa
