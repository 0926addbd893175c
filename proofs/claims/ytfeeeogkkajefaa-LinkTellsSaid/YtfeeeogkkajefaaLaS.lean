/- ref 23's Same, of one image that lies twice: walked. No conditions. -/
import Derived.Test.YtfeeeogkkajefaaLaD
import Derived.Test.YtfeeeogkkajefaaLnG
namespace Go.Proofs.Ytfeeeogkkajefaa
open Go.RowKit
set_option linter.unusedVariables false
set_option linter.unusedSimpArgs false

set_option maxRecDepth 100000 in
set_option maxHeartbeats 16000000 in
theorem same_any (img : ImgD) (vn vm vo un um uo : Value) (P Q : Nat → Prop) (w : World) (hn : SlStr w P vn img.names) (hm : SlMods w P vm img.mods) (ho : SlI64 w P vo img.order) (kn : SlStr w Q un img.names) (km : SlMods w Q um img.mods) (ko : SlI64 w Q uo img.order) :
    Calls Try.prog 13 #[.agg #[vn, vm, vo], .agg #[un, um, uo]] w fun e w' => e = .returned (.bool true) ∧ Wr [] w w' := by
  obtain ⟨An, cn, rfl, ln1, ln2⟩ := Sl.form hn
  obtain ⟨Am, cm, rfl, lm1, lm2⟩ := hm.form
  obtain ⟨Ao, co, rfl, lo1, lo2⟩ := Sl.form ho
  obtain ⟨Bn, dn, rfl, jn1, jn2⟩ := Sl.form kn
  obtain ⟨Bm, dm, rfl, jm1, jm2⟩ := km.form
  obtain ⟨Bo, d0, rfl, jo1, jo2⟩ := Sl.form ko
  unfold maxLen at ln2 lm2 lo2 jn2 jm2 jo2
  obtain ⟨g, hg⟩ : ∃ g, w.heap.size = g := ⟨_, rfl⟩
  obtain ⟨w0, hw0⟩ : ∃ w0, (w.alloc (.cells #[.slice An img.names.length cn, .slice Am img.mods.length cm, .slice Ao img.order.length co] 31)).alloc (.cells #[.slice Bn img.names.length dn, .slice Bm img.mods.length dm, .slice Bo img.order.length d0] 31) = w0 := ⟨_, rfl⟩
  have acc : Wr [] w w0 := by rw [← hw0]; exact ((Wr.refl [] w).alloc _).alloc _
  have bA : Blk w0 g 31 #[.slice An img.names.length cn, .slice Am img.mods.length cm, .slice Ao img.order.length co] := by rw [← hw0, ← hg]; exact (Blk.new _ _ _).alloc _
  have bB : Blk w0 (g + 1) 31 #[.slice Bn img.names.length dn, .slice Bm img.mods.length dm, .slice Bo img.order.length d0] := by
    have := Blk.new (w.alloc (.cells #[.slice An img.names.length cn, .slice Am img.mods.length cm, .slice Ao img.order.length co] 31)) 31 #[.slice Bn img.names.length dn, .slice Bm img.mods.length dm, .slice Bo img.order.length d0]
    rw [World.size_alloc, hg, hw0] at this
    exact this
  have HNA := Lib.hid (Sl.wr0 hn acc)
  have HMA := Lib.hid (hm.wr0 acc)
  have HOA := Lib.hid (Sl.wr0 ho acc)
  have HNB := Lib.hid (Sl.wr0 kn acc)
  have HMB := Lib.hid (km.wr0 acc)
  have HOB := Lib.hid (Sl.wr0 ko acc)
  have Hg := Lib.hid hg
  have Hw0 := Lib.hid hw0
  clear hg hw0 hn hm ho kn km ko
  go_enter Try.func13, Try.ntmps13
  go_upto_region 1 with (fail)
  rw [Hw0.out, Hg.out]
  have c0 := bA.cell 0
  have c1 := bA.cell 1
  have c2 := bA.cell 2
  have d0' := bB.cell 0
  have d1 := bB.cell 1
  have d2 := bB.cell 2
  simp only [List.getElem?_toArray, List.getElem?_cons_zero, List.getElem?_cons_succ] at c0 c1 c2 d0' d1 d2
  have BA := Lib.hid bA
  have BB := Lib.hid bB
  have ACC := Lib.hid acc
  clear bA bB acc
  go_wp2_with fail
  clear c0 c1 c2 d0' d1 d2
  go_loopw [5] (fun s5 wr => ∃ k : Nat, k ≤ img.names.length ∧ s5 = .int .i64 k ∧ Wr [] w0 wr) (fun s5 _ => img.names.length - (intOf s5).toNat)
  case atStart => exact ⟨0, by omega, rfl, Wr.refl _ _⟩
  case round =>
    obtain ⟨k, hk, rfl, rr⟩ := hrel
    have c0 := (BA.out.wr0 rr).cell 0
    have d0' := (BB.out.wr0 rr).cell 0
    simp only [List.getElem?_toArray, List.getElem?_cons_zero, List.getElem?_cons_succ] at c0 d0'
    by_cases hlt : k < img.names.length
    · obtain ⟨p, hp⟩ : ∃ p, img.names[k]? = some p := ⟨_, List.getElem?_eq_getElem hlt⟩
      obtain ⟨b, off, c, e, _, _, _, hc⟩ := Sl.at_ (Sl.wr0 HNA.out rr) (j := k) (u := .string p) (by rw [List.getElem?_map, hp]; rfl)
      obtain ⟨b', off', c', e', _, _, _, hc'⟩ := Sl.at_ (Sl.wr0 HNB.out rr) (j := k) (u := .string p) (by rw [List.getElem?_map, hp]; rfl)
      injection e with e1 e2 e3
      subst e1
      subst e3
      injection e' with e1' e2' e3'
      subst e1'
      subst e3'
      have hss : (p.toList == p.toList) = true := by simp
      have hlti : (k : Int) < (img.names.length : Int) := by omega
      have hk0 : (0 : Int) ≤ (k : Int) := by omega
      have RR := Lib.hid rr
      clear e2 e2' hp rr
      go_wp2_with fail
      go_quiet (fail)
      go_wp2_with fail
      go_roundw
      case rel => exact ⟨k + 1, by omega, by go_num, RR.out.drewN _⟩
      case measure => simp [intOf]; omega
    · have hkn : k = img.names.length := by omega
      subst hkn
      have c1 := (BA.out.wr0 rr).cell 1
      have d1 := (BB.out.wr0 rr).cell 1
      simp only [List.getElem?_toArray, List.getElem?_cons_zero, List.getElem?_cons_succ] at c1 d1
      obtain ⟨w1, rfl⟩ : ∃ w1 : World, w1 = wr := ⟨_, rfl⟩
      have RR := Lib.hid rr
      clear rr
      go_wp2_with fail
      clear c0 d0' c1 d1
      go_loopw [6] (fun s6 w2 => ∃ k : Nat, k ≤ img.mods.length ∧ s6 = .int .i64 k ∧ Wr [] w0 w2) (fun s6 _ => img.mods.length - (intOf s6).toNat)
      case atStart => exact ⟨0, by omega, rfl, RR.out⟩
      case round =>
        obtain ⟨k, hk, rfl, rr⟩ := hrel
        have c1 := (BA.out.wr0 rr).cell 1
        have d1 := (BB.out.wr0 rr).cell 1
        simp only [List.getElem?_toArray, List.getElem?_cons_zero, List.getElem?_cons_succ] at c1 d1
        by_cases hlt2 : k < img.mods.length
        · obtain ⟨m, hmk⟩ : ∃ m, img.mods[k]? = some m := ⟨_, List.getElem?_eq_getElem hlt2⟩
          obtain ⟨b, off, c, vp, vi, vn, e, hc, hml⟩ := mod_at (HMA.out.wr0 rr) hmk
          obtain ⟨b', off', c', up, ui, un, e', hc', kml⟩ := mod_at (HMB.out.wr0 rr) hmk
          injection e with e1 e2 e3
          subst e1
          subst e3
          injection e' with e1' e2' e3'
          subst e1'
          subst e3'
          have hsm : ∀ W, Wr [] wr W → Calls Try.prog 15 #[m.val vp vi vn, m.val up ui un] W (fun e w' => e = .returned (.bool true) ∧ Wr [] W w') := fun W hW => samemod_any m _ _ _ _ _ _ P Q W (hml.wr0 hW) (kml.wr0 hW)
          obtain ⟨Ap, cp, rfl, _, _⟩ := Sl.form hml.procs
          obtain ⟨Ai, ci, rfl, _, _⟩ := Sl.form hml.imports
          obtain ⟨Ak, ck, rfl, _, _⟩ := Sl.form hml.init
          obtain ⟨Bp, dp, rfl, _, _⟩ := Sl.form kml.procs
          obtain ⟨Bi, di, rfl, _, _⟩ := Sl.form kml.imports
          obtain ⟨Bk, dk, rfl, _, _⟩ := Sl.form kml.init
          have x0 := hc 0 _ rfl
          have x1 := hc 1 _ rfl
          have x2 := hc 2 _ rfl
          have x3 := hc 3 _ rfl
          have x4 := hc 4 _ rfl
          have y0 := hc' 0 _ rfl
          have y1 := hc' 1 _ rfl
          have y2 := hc' 2 _ rfl
          have y3 := hc' 3 _ rfl
          have y4 := hc' 4 _ rfl
          simp only [Nat.add_zero] at x0 y0
          have hlti : (k : Int) < (img.mods.length : Int) := by omega
          have hk0 : (0 : Int) ≤ (k : Int) := by omega
          have HSM := Lib.hid hsm
          have RR2 := Lib.hid rr
          obtain ⟨w2, hw2⟩ : ∃ w2 : World, w2 = wr := ⟨_, rfl⟩
          subst hw2
          clear e2 e2' hc hc' hmk hml kml hsm rr
          go_wp2_with fail
          go_region_held3 (fun w' => w'.cell? ⟨g, 1, none⟩ = some (.slice (some ⟨b, off, none⟩) img.mods.length cm) ∧ w'.cell? ⟨g + 1, 1, none⟩ = some (.slice (some ⟨b', off', none⟩) img.mods.length dm) ∧ w'.cell? ⟨b, off + k * 5, none⟩ = some (.string m.code) ∧ w'.cell? ⟨b, off + k * 5 + 1, none⟩ = some (.slice Ap m.procs.length cp) ∧ w'.cell? ⟨b, off + k * 5 + 2, none⟩ = some (.slice Ai m.imports.length ci) ∧ w'.cell? ⟨b, off + k * 5 + 3, none⟩ = some (.int .i64 m.data) ∧ w'.cell? ⟨b, off + k * 5 + 4, none⟩ = some (.slice Ak m.init.length ck) ∧ w'.cell? ⟨b', off' + k * 5, none⟩ = some (.string m.code) ∧ w'.cell? ⟨b', off' + k * 5 + 1, none⟩ = some (.slice Bp m.procs.length dp) ∧ w'.cell? ⟨b', off' + k * 5 + 2, none⟩ = some (.slice Bi m.imports.length di) ∧ w'.cell? ⟨b', off' + k * 5 + 3, none⟩ = some (.int .i64 m.data) ∧ w'.cell? ⟨b', off' + k * 5 + 4, none⟩ = some (.slice Bk m.init.length dk)) (go_keep)
            ((go_at_call 15; refine (HSM.out _ (Wr.drew (Wr.refl [] _))).mono ?_; rintro e w8 ⟨rfl, r8⟩; have nc := r8.cellOf c1 (by simp); have nd := r8.cellOf d1 (by simp); have n0 := r8.cellOf x0 (by simp); have n1 := r8.cellOf x1 (by simp); have n2 := r8.cellOf x2 (by simp); have n3 := r8.cellOf x3 (by simp); have n4 := r8.cellOf x4 (by simp); have n5 := r8.cellOf y0 (by simp); have n6 := r8.cellOf y1 (by simp); have n7 := r8.cellOf y2 (by simp); have n8 := r8.cellOf y3 (by simp); have n9 := r8.cellOf y4 (by simp); have R8 := Lib.hid r8; clear r8))
          all_goals
            go_wp2_with fail
            go_roundw
            case rel => exact ⟨k + 1, by omega, by go_num, RR2.out.drew.trans R8.out⟩
            case measure => simp [intOf]; omega
        · have hkn : k = img.mods.length := by omega
          subst hkn
          have c2 := (BA.out.wr0 rr).cell 2
          have d2 := (BB.out.wr0 rr).cell 2
          simp only [List.getElem?_toArray, List.getElem?_cons_zero, List.getElem?_cons_succ] at c2 d2
          obtain ⟨w2, rfl⟩ : ∃ w2 : World, w2 = wr := ⟨_, rfl⟩
          have RR2 := Lib.hid rr
          clear rr
          go_wp2_with fail
          clear c1 d1 c2 d2
          go_loopw [7] (fun s7 w3 => ∃ k : Nat, k ≤ img.order.length ∧ s7 = .int .i64 k ∧ Wr [] w0 w3) (fun s7 _ => img.order.length - (intOf s7).toNat)
          case atStart => exact ⟨0, by omega, rfl, RR2.out⟩
          case round =>
            obtain ⟨k, hk, rfl, rr⟩ := hrel
            have c2 := (BA.out.wr0 rr).cell 2
            have d2 := (BB.out.wr0 rr).cell 2
            simp only [List.getElem?_toArray, List.getElem?_cons_zero, List.getElem?_cons_succ] at c2 d2
            by_cases hlt3 : k < img.order.length
            · obtain ⟨x, hx⟩ : ∃ x, img.order[k]? = some x := ⟨_, List.getElem?_eq_getElem hlt3⟩
              obtain ⟨b, off, c, e, _, _, hc⟩ := i64_at (Sl.wr0 HOA.out rr) hx
              obtain ⟨b', off', c', e', _, _, hc'⟩ := i64_at (Sl.wr0 HOB.out rr) hx
              injection e with e1 e2 e3
              subst e1
              subst e3
              injection e' with e1' e2' e3'
              subst e1'
              subst e3'
              have hlti : (k : Int) < (img.order.length : Int) := by omega
              have hk0 : (0 : Int) ≤ (k : Int) := by omega
              have RR3 := Lib.hid rr
              clear e2 e2' hx rr
              go_wp2_with fail
              go_quiet (fail)
              go_wp2_with fail
              go_roundw
              case rel => exact ⟨k + 1, by omega, by go_num, RR3.out.drewN _⟩
              case measure => simp [intOf]; omega
            · have hkn : k = img.order.length := by omega
              subst hkn
              have RR3 := Lib.hid rr
              clear rr
              go_wp2_with fail
              go_ret
              exact ⟨rfl, ACC.out.trans RR3.out⟩
end Go.Proofs.Ytfeeeogkkajefaa
