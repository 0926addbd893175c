/- ref 21's SameModule, of one module that lies twice: walked. No conditions. -/
import Derived.Test.YtfeeeogkkajefaaLkG
import Derived.Deep.QuietTactic
import Derived.BigQuiet
namespace Go.Proofs.Ytfeeeogkkajefaa
open Go.RowKit
set_option linter.unusedVariables false
set_option linter.unusedSimpArgs false

section
variable {w : World} {P : Nat → Prop} {v : Value}
theorem u16_at {l : List Int} (h : SlU16 w P v l) {i : Nat} {x : Int} (hi : l[i]? = some x) : ∃ b off c, v = .slice (some ⟨b, off, none⟩) l.length c ∧ l.length ≤ c ∧ c ≤ maxLen ∧ w.cell? ⟨b, off + i, none⟩ = some (.int .u16 x) := by
  obtain ⟨b, off, c, e, h1, h2, _, h4⟩ := Sl.at_ h (j := i) (u := .int .u16 x) (by rw [List.getElem?_map, hi]; rfl)
  exact ⟨b, off, c, e, h1, h2, h4⟩
end
set_option maxRecDepth 100000 in
set_option maxHeartbeats 16000000 in
theorem samemod_any (m : ModD) (vp vi vn up ui un : Value) (P Q : Nat → Prop) (w : World) (h : ModL w P vp vi vn m) (k : ModL w Q up ui un m) : Calls Try.prog 15 #[m.val vp vi vn, m.val up ui un] w fun e w' => e = .returned (.bool true) ∧ Wr [] w w' := by
  obtain ⟨Ap, cp, rfl, lp1, lp2⟩ := Sl.form h.procs
  obtain ⟨Ai, ci, rfl, li1, li2⟩ := Sl.form h.imports
  obtain ⟨An, cn, rfl, ln1, ln2⟩ := Sl.form h.init
  obtain ⟨Bp, dp, rfl, kp1, kp2⟩ := Sl.form k.procs
  obtain ⟨Bi, di, rfl, ki1, ki2⟩ := Sl.form k.imports
  obtain ⟨Bn, dn, rfl, kn1, kn2⟩ := Sl.form k.init
  unfold maxLen at lp2 li2 ln2 kp2 ki2 kn2
  obtain ⟨g, hg⟩ : ∃ g, w.heap.size = g := ⟨_, rfl⟩
  obtain ⟨w0, hw0⟩ : ∃ w0, (w.alloc (.cells #[.string m.code, .slice Ap m.procs.length cp, .slice Ai m.imports.length ci, .int .i64 m.data, .slice An m.init.length cn] 50)).alloc (.cells #[.string m.code, .slice Bp m.procs.length dp, .slice Bi m.imports.length di, .int .i64 m.data, .slice Bn m.init.length dn] 50) = w0 := ⟨_, rfl⟩
  have acc : Wr [] w w0 := by rw [← hw0]; exact ((Wr.refl [] w).alloc _).alloc _
  have bA : Blk w0 g 50 #[.string m.code, .slice Ap m.procs.length cp, .slice Ai m.imports.length ci, .int .i64 m.data, .slice An m.init.length cn] := by rw [← hw0, ← hg]; exact (Blk.new _ _ _).alloc _
  have bB : Blk w0 (g + 1) 50 #[.string m.code, .slice Bp m.procs.length dp, .slice Bi m.imports.length di, .int .i64 m.data, .slice Bn m.init.length dn] := by
    have := Blk.new (w.alloc (.cells #[.string m.code, .slice Ap m.procs.length cp, .slice Ai m.imports.length ci, .int .i64 m.data, .slice An m.init.length cn] 50)) 50 #[.string m.code, .slice Bp m.procs.length dp, .slice Bi m.imports.length di, .int .i64 m.data, .slice Bn m.init.length dn]
    rw [World.size_alloc, hg, hw0] at this
    exact this
  unfold ModD.val ModD.cells
  have HH := Lib.hid h
  have HK := Lib.hid k
  have Hg := Lib.hid hg
  have Hw0 := Lib.hid hw0
  clear hg hw0 h k
  go_enter Try.func15, Try.ntmps15
  go_upto_region 1 with (fail)
  rw [Hw0.out, Hg.out]
  have c0 := bA.cell 0
  have c1 := bA.cell 1
  have c2 := bA.cell 2
  have c3 := bA.cell 3
  have c4 := bA.cell 4
  have d0 := bB.cell 0
  have d1 := bB.cell 1
  have d2 := bB.cell 2
  have d3 := bB.cell 3
  have d4 := bB.cell 4
  simp only [List.getElem?_toArray, List.getElem?_cons_zero, List.getElem?_cons_succ] at c0 c1 c2 c3 c4 d0 d1 d2 d3 d4
  have BA := Lib.hid bA
  have BB := Lib.hid bB
  have ACC := Lib.hid acc
  clear bA bB acc
  go_wp2_with fail
  clear c0 c1 c2 c3 c4 d0 d1 d2 d3 d4
  go_loopw [5] (fun s5 wr => ∃ k : Nat, k ≤ m.procs.length ∧ s5 = .int .i64 k ∧ Wr [] w0 wr) (fun s5 _ => m.procs.length - (intOf s5).toNat)
  case atStart => exact ⟨0, by omega, rfl, Wr.refl _ _⟩
  case round =>
    obtain ⟨k, hk, rfl, rr⟩ := hrel
    have c1 := (BA.out.wr0 rr).cell 1
    have d1 := (BB.out.wr0 rr).cell 1
    simp only [List.getElem?_toArray, List.getElem?_cons_zero, List.getElem?_cons_succ] at c1 d1
    by_cases hlt : k < m.procs.length
    · obtain ⟨p, hp⟩ : ∃ p, m.procs[k]? = some p := ⟨_, List.getElem?_eq_getElem hlt⟩
      obtain ⟨b, off, c, e, _, _, hc⟩ := prc_at ((HH.out.wr0 ACC.out).wr0 rr).procs hp
      obtain ⟨b', off', c', e', _, _, hc'⟩ := prc_at ((HK.out.wr0 ACC.out).wr0 rr).procs hp
      injection e with e1 e2 e3
      subst e1
      subst e3
      injection e' with e1' e2' e3'
      subst e1'
      subst e3'
      have x0 := hc 0 _ rfl
      have x1 := hc 1 _ rfl
      have x2 := hc 2 _ rfl
      have x3 := hc 3 _ rfl
      have x4 := hc 4 _ rfl
      have x5 := hc 5 _ rfl
      have y0 := hc' 0 _ rfl
      have y1 := hc' 1 _ rfl
      have y2 := hc' 2 _ rfl
      have y3 := hc' 3 _ rfl
      have y4 := hc' 4 _ rfl
      have y5 := hc' 5 _ rfl
      simp only [Nat.add_zero] at x0 y0
      have hlti : (k : Int) < (m.procs.length : Int) := by omega
      have hk0 : (0 : Int) ≤ (k : Int) := by omega
      have RR := Lib.hid rr
      clear e2 e2' hc hc' hp rr
      go_wp2_with fail
      go_quiet (fail)
      go_wp2_with fail
      go_roundw
      case rel => exact ⟨k + 1, by omega, by go_num, RR.out.drewN _⟩
      case measure => simp [intOf]; omega
    · have hkn : k = m.procs.length := by omega
      subst hkn
      have c2 := (BA.out.wr0 rr).cell 2
      have d2 := (BB.out.wr0 rr).cell 2
      simp only [List.getElem?_toArray, List.getElem?_cons_zero, List.getElem?_cons_succ] at c2 d2
      obtain ⟨w1, rfl⟩ : ∃ w1 : World, w1 = wr := ⟨_, rfl⟩
      have RR := Lib.hid rr
      clear rr
      go_wp2_with fail
      clear c1 d1 c2 d2
      go_loopw [6] (fun s6 w2 => ∃ k : Nat, k ≤ m.imports.length ∧ s6 = .int .i64 k ∧ Wr [] w0 w2) (fun s6 _ => m.imports.length - (intOf s6).toNat)
      case atStart => exact ⟨0, by omega, rfl, RR.out⟩
      case round =>
        obtain ⟨k, hk, rfl, rr⟩ := hrel
        have c2 := (BA.out.wr0 rr).cell 2
        have d2 := (BB.out.wr0 rr).cell 2
        simp only [List.getElem?_toArray, List.getElem?_cons_zero, List.getElem?_cons_succ] at c2 d2
        by_cases hlt2 : k < m.imports.length
        · obtain ⟨x, hx⟩ : ∃ x, m.imports[k]? = some x := ⟨_, List.getElem?_eq_getElem hlt2⟩
          obtain ⟨b, off, c, e, _, _, hc⟩ := i64_at ((HH.out.wr0 ACC.out).wr0 rr).imports hx
          obtain ⟨b', off', c', e', _, _, hc'⟩ := i64_at ((HK.out.wr0 ACC.out).wr0 rr).imports hx
          injection e with e1 e2 e3
          subst e1
          subst e3
          injection e' with e1' e2' e3'
          subst e1'
          subst e3'
          have hlti : (k : Int) < (m.imports.length : Int) := by omega
          have hk0 : (0 : Int) ≤ (k : Int) := by omega
          have RR2 := Lib.hid rr
          clear e2 e2' hx rr
          go_wp2_with fail
          go_quiet (fail)
          go_wp2_with fail
          go_roundw
          case rel => exact ⟨k + 1, by omega, by go_num, RR2.out.drewN _⟩
          case measure => simp [intOf]; omega
        · have hkn : k = m.imports.length := by omega
          subst hkn
          have c4 := (BA.out.wr0 rr).cell 4
          have d4 := (BB.out.wr0 rr).cell 4
          simp only [List.getElem?_toArray, List.getElem?_cons_zero, List.getElem?_cons_succ] at c4 d4
          obtain ⟨w2, rfl⟩ : ∃ w2 : World, w2 = wr := ⟨_, rfl⟩
          have RR2 := Lib.hid rr
          clear rr
          go_wp2_with fail
          clear c2 d2 c4 d4
          go_loopw [7] (fun s7 w3 => ∃ k : Nat, k ≤ m.init.length ∧ s7 = .int .i64 k ∧ Wr [] w0 w3) (fun s7 _ => m.init.length - (intOf s7).toNat)
          case atStart => exact ⟨0, by omega, rfl, RR2.out⟩
          case round =>
            obtain ⟨k, hk, rfl, rr⟩ := hrel
            have c4 := (BA.out.wr0 rr).cell 4
            have d4 := (BB.out.wr0 rr).cell 4
            simp only [List.getElem?_toArray, List.getElem?_cons_zero, List.getElem?_cons_succ] at c4 d4
            by_cases hlt3 : k < m.init.length
            · obtain ⟨x, hx⟩ : ∃ x, m.init[k]? = some x := ⟨_, List.getElem?_eq_getElem hlt3⟩
              obtain ⟨b, off, c, e, _, _, hc⟩ := u16_at ((HH.out.wr0 ACC.out).wr0 rr).init hx
              obtain ⟨b', off', c', e', _, _, hc'⟩ := u16_at ((HK.out.wr0 ACC.out).wr0 rr).init hx
              injection e with e1 e2 e3
              subst e1
              subst e3
              injection e' with e1' e2' e3'
              subst e1'
              subst e3'
              have hlti : (k : Int) < (m.init.length : Int) := by omega
              have hk0 : (0 : Int) ≤ (k : Int) := by omega
              have RR3 := Lib.hid rr
              clear e2 e2' hx rr
              go_wp2_with fail
              go_quiet (fail)
              go_wp2_with fail
              go_roundw
              case rel => exact ⟨k + 1, by omega, by go_num, RR3.out.drewN _⟩
              case measure => simp [intOf]; omega
            · have hkn : k = m.init.length := by omega
              subst hkn
              have RR3 := Lib.hid rr
              clear rr
              go_wp2_with fail
              go_ret
              exact ⟨rfl, ACC.out.trans RR3.out⟩
end Go.Proofs.Ytfeeeogkkajefaa
