/- ref 23's Needs: walked. Conditions: the lists are not too long. -/
import Derived.Test.YtfeeeogkkajefaaRfE
import Derived.Test.YtfeeeogkkajefaaRegL
namespace Go.Proofs.Ytfeeeogkkajefaa
open Go.RowKit
set_option linter.unusedVariables false
set_option linter.unusedSimpArgs false

/-- The inner loop. -/
def RInN (wo : World) (gN : Nat) (o : ObjD) (j : Nat) (wr : World) : Prop :=
  Wr [] wo wr ∧ ∃ vc, Blk wr gN 40 #[.string o.module, vc] ∧ wr.ownsRow wo.heap.size 9 1 vc j (((o.uses.take j).map UseD.module).map Value.string) ∧ ∀ b, vc.ownBlock = some b → b ≠ gN
set_option maxRecDepth 100000 in
set_option maxHeartbeats 8000000 in
theorem rneeds_any (l : List ObjD) (v : Value) (P : Nat → Prop) (w : World) (h : SlObjs w P v l) (hlen : l.length ≤ 1000000000) (hus : ∀ o ∈ l, o.uses.length ≤ 1000000000) :
    Calls Try.prog 12 #[v] w fun e w' => ∃ vo, e = .returned vo ∧ Wr [] w w' ∧ SlNeeds w' (fun b => w.heap.size ≤ b) vo (l.map needOf) := by
  obtain ⟨i0, hi0, hz0, hz1, hz2⟩ := info_parts info_strO
  obtain ⟨i1, hi1, hy0, hy1, hy2⟩ := info_parts info_needs
  obtain ⟨A, c, rfl, l1, l2⟩ := SlObjs.form h
  unfold maxLen at l2
  have HH := Lib.hid h
  have HUS := Lib.hid hus
  clear h hus
  go_enter Try.func12, Try.ntmps12
  go_wp2_with fail
  go_loopw [3, 4] (fun s3 s4 wr => ∃ k : Nat, k ≤ l.length ∧ s4 = .int .i64 k ∧ LnAt w l k s3 wr) (fun _ s4 _ => l.length - (intOf s4).toNat)
  case atStart => exact ⟨0, by omega, rfl, Wr.refl [] w, RowN.nil w⟩
  case round =>
    obtain ⟨k, hk, rfl, acc, hrow⟩ := hrel
    obtain ⟨wo, rfl⟩ : ∃ wo : World, wo = wr := ⟨_, rfl⟩
    by_cases hlt : k < l.length
    · obtain ⟨o, ho⟩ : ∃ o, l[k]? = some o := ⟨_, List.getElem?_eq_getElem hlt⟩
      obtain ⟨b, off, c', vu, vp, vi, vn, e, hc, hol⟩ := obj_at (HH.out.wr0 acc) ho
      injection e with e1 e2 e3
      subst e1
      subst e3
      obtain ⟨Bu, du, rfl, lu1, lu2⟩ := Sl.form hol.uses
      obtain ⟨Bp, dp, rfl, _, _⟩ := Sl.form hol.mod.procs
      obtain ⟨Bi, di, rfl, _, _⟩ := Sl.form hol.mod.imports
      obtain ⟨Bn, dn, rfl, _, _⟩ := Sl.form hol.mod.init
      unfold maxLen at lu2
      have x0 := hc 0 _ rfl
      have x1 := hc 1 _ rfl
      have x2 := hc 2 _ rfl
      have x3 := hc 3 _ rfl
      have x4 := hc 4 _ rfl
      have x5 := hc 5 _ rfl
      have x6 := hc 6 _ rfl
      have x7 := hc 7 _ rfl
      have x8 := hc 8 _ rfl
      simp only [Nat.add_zero] at x0
      have husz := HUS.out o (List.mem_of_getElem? ho)
      have hto : (l.take (k + 1)).map needOf = (l.take k).map needOf ++ [needOf o] := by rw [List.take_add_one, ho]; simp
      obtain ⟨sz, hsz⟩ : ∃ sz, wo.heap.size = sz := ⟨_, rfl⟩
      obtain ⟨w0, hw0⟩ : ∃ w0, wo.alloc (.cells #[.string o.module, .slice none 0 0] 40) = w0 := ⟨_, rfl⟩
      have r0 : Wr [] wo w0 := by rw [← hw0]; exact (Wr.refl [] wo).alloc _
      have bN : Blk w0 sz 40 #[.string o.module, .slice none 0 0] := by rw [← hw0, ← hsz]; exact Blk.new _ _ _
      have HX := Lib.hid (And.intro ho (And.intro hto husz))
      have HOL := Lib.hid hol
      have HROW := Lib.hid hrow
      have ACC := Lib.hid acc
      have HSZ := Lib.hid hsz
      have HW0 := Lib.hid hw0
      have R0 := Lib.hid r0
      have BN := Lib.hid bN
      have hlti : (k : Int) < (l.length : Int) := by omega
      have hk0 : (0 : Int) ≤ (k : Int) := by omega
      have HC3 := Lib.hid x3
      have hobl := World.block_lt_of_cell? _ _ x3
      clear e2 hc ho hto husz hol hrow acc hsz hw0 r0 bN
      go_upto_region 6 with (fail)
      rw [HSZ.out, HW0.out]
      clear x0 x1 x2 x3 x4 x5 x6 x7 x8
      go_wp2_with fail
      go_loopw [6] (fun s6 w2 => ∃ j : Nat, j ≤ o.uses.length ∧ s6 = .int .i64 j ∧ RInN wo sz o j w2) (fun s6 _ => o.uses.length - (intOf s6).toNat)
      case atStart => exact ⟨0, by omega, rfl, R0.out, _, BN.out, World.ownsRow_nil _ _ _ _, fun b hb => by cases hb⟩
      case round =>
        obtain ⟨j, hj, rfl, rin, vc, bn, hown, hne⟩ := hrel
        have o3 := rin.cellOf HC3.out (by simp)
        obtain ⟨Bv, dv, hvc⟩ : ∃ A c, vc = .slice A j c := by
          rcases hown.2 with ⟨h0, h1⟩ | ⟨g, cap, cur, e, _⟩
          · exact ⟨none, 0, by rw [h0, h1]⟩
          · exact ⟨_, _, e⟩
        subst hvc
        by_cases hlt2 : j < o.uses.length
        · obtain ⟨u, hu⟩ : ∃ u, o.uses[j]? = some u := ⟨_, List.getElem?_eq_getElem hlt2⟩
          obtain ⟨bu, offu, cu, eu, _, _, hcu0⟩ := use_at HOL.out.uses hu
          have hcu : ∀ j' u', u.cells[j']? = some u' → wr.cell? ⟨bu, offu + j * 2 + j', none⟩ = some u' := fun j' u' h => rin.cellOf (hcu0 j' u' h) (by simp)
          injection eu with q1 q2 q3
          subst q1
          subst q3
          have y0 := hcu 0 _ rfl
          have y1 := hcu 1 _ rfl
          simp only [Nat.add_zero] at y0
          obtain ⟨wa, hwa⟩ : ∃ wa, (wr.alloc (.cells #[.string u.module] 9)).drew = wa := ⟨_, rfl⟩
          have ra : Wr [] wr wa := by rw [← hwa]; exact ((Wr.refl [] wr).alloc _).drew
          have hnew : Blk wa wr.heap.size 9 #[.string u.module] := by rw [← hwa]; exact (Blk.new _ _ _).drew
          have hownA := own_keep hown ra (fun _ _ => by simp)
          have hus1 := HX.out.2.2
          have hbase : wo.heap.size ≤ wa.heap.size := Nat.le_trans rin.size ra.size
          obtain ⟨v', w4, hrun, hown4, hgrow, _, hbk⟩ := run_append_own_at (P := Try.prog) wa wo.heap.size 25 25 9 i0 _ 1 16 Try.underlying25 hi0 hz0 hz1 hz2 rfl (by decide) _ j _ hownA ⟨wr.heap.size, 0, none⟩ 1 1 [.string u.module] rfl (fun q u' hq => by
            rw [Addr.add_lit, Nat.zero_add, hnew.cell]
            simpa using hq) (by simp [Value.oneCell']) (by unfold maxLen; omega) (by omega) hbase
          obtain ⟨Av, cv, hv'⟩ : ∃ A c, v' = .slice A (j + 1) c := by
            rcases hown4.2 with ⟨_, h0⟩ | ⟨g, cap, cur, e, _⟩
            · omega
            · exact ⟨_, _, e⟩
          subst hv'
          have hwg := Wr.ofGrownOwn hgrow
          have bnA := (bn.wr0 ra).wr hwg (fun hx => hne _ (mem_ownL.1 hx) rfl)
          have hsz1 : sz < wr.heap.size := bn.lt
          have hsz0 := HSZ.out
          have hbw : ∀ b, (Value.slice Av (j + 1) cv).ownBlock = some b → b ≠ sz := by
            intro b hb
            rcases hbk with h1 | h1
            · exact hne b (h1 ▸ hb)
            · rw [h1] at hb
              injection hb with hb
              have := ra.size
              omega
          have hst : Wr [sz] w4 (w4.setCell ⟨sz, 1, none⟩ (.slice Av (j + 1) cv)) := (Wr.refl [sz] w4).setOn (by simp) _
          have rin2 : Wr [] wo (w4.setCell ⟨sz, 1, none⟩ (.slice Av (j + 1) cv)) := by
            refine Wr.setNew ?_ (by omega) _
            exact (rin.trans ra).trans' hwg (fun x hx => .inr ((hownA.lt x (mem_ownL.1 hx)).1))
          have hfin : RInN wo sz o (j + 1) (w4.setCell ⟨sz, 1, none⟩ (.slice Av (j + 1) cv)) := by
            refine ⟨rin2, _, by simpa using bnA.set_ 1 (.slice Av (j + 1) cv), ?_, hbw⟩
            have h1 := own_keep hown4 hst (fun b hb => by simpa using hbw b hb)
            rw [List.take_add_one, hu]
            simpa using h1
          have q1 : sz ∉ ownL (Value.slice Bv j dv) := fun hm => hne sz (mem_ownL.1 hm) rfl
          have q2' : b ∉ ownL (Value.slice Bv j dv) := fun hm => by have := (hown.lt b (mem_ownL.1 hm)).1; omega
          have hbl := World.block_lt_of_cell? _ _ (hcu0 0 _ rfl)
          have q3' : bu ∉ ownL (Value.slice Bv j dv) := fun hm => by
            have h1 := (hown.lt bu (mem_ownL.1 hm)).1
            have h2 : bu < wo.heap.size := hbl
            omega
          have d1 := bn.cell 1
          have d0 := bnA.cell 1
          have f1 := bnA.frozen 1
          simp only [List.getElem?_toArray, List.getElem?_cons_zero, List.getElem?_cons_succ] at d1 d0
          have HWA := Lib.hid hwa
          have HFIN := Lib.hid hfin
          have HRUN := Lib.hid hrun
          have Q1 := Lib.hid q1
          have Q2 := Lib.hid q2'
          have Q3 := Lib.hid q3'
          have R3 : Hid (Wr (ownL (Value.slice Bv j dv)) ((wr.alloc (.cells #[.string u.module] 9)).drew) w4) := Lib.hid (by rw [hwa]; exact hwg)
          have hlti2 : (j : Int) < (o.uses.length : Int) := by omega
          have hj0 : (0 : Int) ≤ (j : Int) := by omega
          clear q2 hcu hcu0 hu rin bn hown hne hwa ra hnew hownA hbase hrun hown4 hgrow hbk hwg bnA hsz0 hbw hst rin2 hfin q1 q2' q3' hbl y1
          go_wp2_with fail
          have hC : ∀ W, Wr (ownL (Value.slice Bv j dv)) wr W → W.cell? ⟨sz, 1, none⟩ = some (.slice Bv j dv) ∧ W.cell? ⟨b, off + k * 9 + 3, none⟩ = some (.slice (some ⟨bu, offu, none⟩) o.uses.length du) ∧ W.cell? ⟨bu, offu + j * 2, none⟩ = some (.string u.module) := fun W hW => ⟨hW.cellOf d1 Q1.out, hW.cellOf o3 Q2.out, hW.cellOf y0 Q3.out⟩
          have HC := Lib.hid hC
          clear hC
          refine wp_region_noPanic ?_
          refine wp_region_L (Until 14 fun w' => w'.cell? ⟨sz, 1, none⟩ = some (.slice Bv j dv) ∧ w'.cell? ⟨b, off + k * 9 + 3, none⟩ = some (.slice (some ⟨bu, offu, none⟩) o.uses.length du) ∧ w'.cell? ⟨bu, offu + j * 2, none⟩ = some (.string u.module)) (by kernel_rfl) (fun hcl => ?_)
          have hS : Until 14 (fun w' => w'.cell? ⟨sz, 1, none⟩ = some (.slice Bv j dv) ∧ w'.cell? ⟨b, off + k * 9 + 3, none⟩ = some (.slice (some ⟨bu, offu, none⟩) o.uses.length du) ∧ w'.cell? ⟨bu, offu + j * 2, none⟩ = some (.string u.module)) (Array.replicate 15 false) wr.drew := fun _ => ⟨d1, o3, y0⟩
          refine wpAnyL_take (i := 0) (oi := ?oi101) (v := ?v101) ?hi101 (by kernel_rfl) (by kernel_rfl) (by kernel_rfl) (fun _ _ _ h => h) (until_take 14 _ (by decide)) ?hy101 hcl hS ?rest101
          case hi101 =>
            simp only [List.getElem?_toArray, List.getElem?_cons_succ, List.getElem?_cons_zero]
            rfl
          case hy101 =>
            refine yields_until (by kernel_rfl) (Or.inl ⟨by rfl, fun w' hS => ?_⟩)
            try go_split_ands
            go_simp
            try rfl
          case rest101 =>
          intro hcl1 hS1
          clear hcl hS
          try simp only [Act.put, List.setIfInBounds_toArray, List.set_cons_zero, List.set_cons_succ]
          refine wpAnyL_take (i := 1) (oi := ?oi102) (v := ?v102) ?hi102 (by kernel_rfl) (by kernel_rfl) (by kernel_rfl) (fun _ _ _ h => h) (until_take 14 _ (by decide)) ?hy102 hcl1 hS1 ?rest102
          case hi102 =>
            simp only [List.getElem?_toArray, List.getElem?_cons_succ, List.getElem?_cons_zero]
            rfl
          case hy102 =>
            refine yields_until (by kernel_rfl) (Or.inl ⟨by rfl, fun w' hS => ?_⟩)
            try go_split_ands
            go_simp
            try rfl
          case rest102 =>
          intro hcl2 hS2
          clear hcl1 hS1
          try simp only [Act.put, List.setIfInBounds_toArray, List.set_cons_zero, List.set_cons_succ]
          refine wpAnyL_take (i := 2) (oi := ?oi103) (v := ?v103) ?hi103 (by kernel_rfl) (by kernel_rfl) (by kernel_rfl) (fun _ _ _ h => h) (until_take 14 _ (by decide)) ?hy103 hcl2 hS2 ?rest103
          case hi103 =>
            simp only [List.getElem?_toArray, List.getElem?_cons_succ, List.getElem?_cons_zero]
            rfl
          case hy103 =>
            refine yields_until (by kernel_rfl) (Or.inl ⟨by rfl, fun w' hS => ?_⟩)
            try go_split_ands
            go_simp
            try rfl
          case rest103 =>
          intro hcl3 hS3
          clear hcl2 hS2
          try simp only [Act.put, List.setIfInBounds_toArray, List.set_cons_zero, List.set_cons_succ]
          refine wpAnyL_take (i := 3) (oi := ?oi104) (v := ?v104) ?hi104 (by kernel_rfl) (by kernel_rfl) (by kernel_rfl) (fun _ _ _ h => h) (until_take 14 _ (by decide)) ?hy104 hcl3 hS3 ?rest104
          case hi104 =>
            simp only [List.getElem?_toArray, List.getElem?_cons_succ, List.getElem?_cons_zero]
            rfl
          case hy104 =>
            refine yields_until (by kernel_rfl) (Or.inl ⟨by rfl, fun w' hS => ?_⟩)
            try go_split_ands
            go_simp
            try rfl
          case rest104 =>
          intro hcl4 hS4
          clear hcl3 hS3
          try simp only [Act.put, List.setIfInBounds_toArray, List.set_cons_zero, List.set_cons_succ]
          refine wpAnyL_take (i := 4) (oi := ?oi105) (v := ?v105) ?hi105 (by kernel_rfl) (by kernel_rfl) (by kernel_rfl) (fun _ _ _ h => h) (until_take 14 _ (by decide)) ?hy105 hcl4 hS4 ?rest105
          case hi105 =>
            simp only [List.getElem?_toArray, List.getElem?_cons_succ, List.getElem?_cons_zero]
            rfl
          case hy105 =>
            refine yields_until (by kernel_rfl) (Or.inl ⟨by rfl, fun w' hS => ?_⟩)
            try go_split_ands
            go_simp
            try rfl
          case rest105 =>
          intro hcl5 hS5
          clear hcl4 hS4
          try simp only [Act.put, List.setIfInBounds_toArray, List.set_cons_zero, List.set_cons_succ]
          refine wpAnyL_take (i := 5) (oi := ?oi106) (v := ?v106) ?hi106 (by kernel_rfl) (by kernel_rfl) (by kernel_rfl) (fun _ _ _ h => h) (until_take 14 _ (by decide)) ?hy106 hcl5 hS5 ?rest106
          case hi106 =>
            simp only [List.getElem?_toArray, List.getElem?_cons_succ, List.getElem?_cons_zero]
            rfl
          case hy106 =>
            refine yields_until (by kernel_rfl) (Or.inl ⟨by rfl, fun w' hS => ?_⟩)
            try go_split_ands
            go_simp
            try rfl
          case rest106 =>
          intro hcl6 hS6
          clear hcl5 hS5
          try simp only [Act.put, List.setIfInBounds_toArray, List.set_cons_zero, List.set_cons_succ]
          refine wpAnyL_take (i := 6) (oi := ?oi107) (v := ?v107) ?hi107 (by kernel_rfl) (by kernel_rfl) (by kernel_rfl) (fun _ _ _ h => h) (until_take 14 _ (by decide)) ?hy107 hcl6 hS6 ?rest107
          case hi107 =>
            simp only [List.getElem?_toArray, List.getElem?_cons_succ, List.getElem?_cons_zero]
            rfl
          case hy107 =>
            refine yields_until (by kernel_rfl) (Or.inl ⟨by rfl, fun w' hS => ?_⟩)
            try go_split_ands
            go_simp
            try rfl
          case rest107 =>
          intro hcl7 hS7
          clear hcl6 hS6
          try simp only [Act.put, List.setIfInBounds_toArray, List.set_cons_zero, List.set_cons_succ]
          refine wpAnyL_take (i := 7) (oi := ?oi108) (v := ?v108) ?hi108 (by kernel_rfl) (by kernel_rfl) (by kernel_rfl) (fun _ _ _ h => h) (until_take 14 _ (by decide)) ?hy108 hcl7 hS7 ?rest108
          case hi108 =>
            simp only [List.getElem?_toArray, List.getElem?_cons_succ, List.getElem?_cons_zero]
            rfl
          case hy108 =>
            refine yields_until (by kernel_rfl) (Or.inl ⟨by rfl, fun w' hS => ?_⟩)
            try go_split_ands
            go_simp
            try rfl
          case rest108 =>
          intro hcl8 hS8
          clear hcl7 hS7
          try simp only [Act.put, List.setIfInBounds_toArray, List.set_cons_zero, List.set_cons_succ]
          refine wpAnyL_take (i := 8) (oi := ?oi109) (v := ?v109) ?hi109 (by kernel_rfl) (by kernel_rfl) (by kernel_rfl) (fun _ _ _ h => h) (until_take 14 _ (by decide)) ?hy109 hcl8 hS8 ?rest109
          case hi109 =>
            simp only [List.getElem?_toArray, List.getElem?_cons_succ, List.getElem?_cons_zero]
            rfl
          case hy109 =>
            refine yields_until (by kernel_rfl) (Or.inl ⟨by rfl, fun w' hS => ?_⟩)
            try go_split_ands
            go_simp
            try rfl
          case rest109 =>
          intro hcl9 hS9
          clear hcl8 hS8
          try simp only [Act.put, List.setIfInBounds_toArray, List.set_cons_zero, List.set_cons_succ]
          refine wpAnyL_take (i := 9) (oi := ?oi110) (v := ?v110) ?hi110 (by kernel_rfl) (by kernel_rfl) (by kernel_rfl) (fun _ _ _ h => h) (until_take 14 _ (by decide)) ?hy110 hcl9 hS9 ?rest110
          case hi110 =>
            simp only [List.getElem?_toArray, List.getElem?_cons_succ, List.getElem?_cons_zero]
            rfl
          case hy110 =>
            refine yields_until (by kernel_rfl) (Or.inl ⟨by rfl, fun w' hS => ?_⟩)
            try go_split_ands
            go_simp
            try rfl
          case rest110 =>
          intro hcl10 hS10
          clear hcl9 hS9
          try simp only [Act.put, List.setIfInBounds_toArray, List.set_cons_zero, List.set_cons_succ]
          refine wpAnyL_take (i := 10) (oi := ?oi111) (v := ?v111) ?hi111 (by kernel_rfl) (by kernel_rfl) (by kernel_rfl) (fun _ _ _ h => h) (until_take 14 _ (by decide)) ?hy111 hcl10 hS10 ?rest111
          case hi111 =>
            simp only [List.getElem?_toArray, List.getElem?_cons_succ, List.getElem?_cons_zero]
            rfl
          case hy111 =>
            refine yields_until (by kernel_rfl) (Or.inl ⟨by rfl, fun w' hS => ?_⟩)
            try go_split_ands
            go_simp
            try rfl
          case rest111 =>
          intro hcl11 hS11
          clear hcl10 hS10
          try simp only [Act.put, List.setIfInBounds_toArray, List.set_cons_zero, List.set_cons_succ]
          refine wpAnyL_step (i := 11) (o := ?oi112) ?hi112 (by kernel_rfl) hcl11 ?rest112
          case hi112 =>
            simp only [List.getElem?_toArray, List.getElem?_cons_succ, List.getElem?_cons_zero]
            rfl
          case rest112 =>
          intro K hK
          go_simp
          refine hK _ _ (fun _ => HC.out _ (((Wr.refl _ wr).alloc _).drew)) (fun hcl12 => ?_)
          clear hK K hcl11 hS11
          try simp only [Act.put, List.setIfInBounds_toArray, List.set_cons_zero, List.set_cons_succ]
          refine wpAnyL_step (i := 12) (o := ?oi113) ?hi113 (by kernel_rfl) hcl12 ?rest113
          case hi113 =>
            simp only [List.getElem?_toArray, List.getElem?_cons_succ, List.getElem?_cons_zero]
            rfl
          case rest113 =>
          intro K hK
          rw [HWA.out]
          refine step_append_run (by rfl) _ _ _ (by rfl) _ _ (by rfl) (by rfl) _ _ HRUN.out ?_
          refine hK _ _ (fun _ => HC.out _ ((((Wr.refl _ wr).alloc _).drew).trans R3.out)) (fun hcl13 => ?_)
          clear hK K hcl12
          try simp only [Act.put, List.setIfInBounds_toArray, List.set_cons_zero, List.set_cons_succ]
          refine wpAnyL_take (i := 13) (oi := ?oi114) (v := ?v114) ?hi114 (by kernel_rfl) (by kernel_rfl) (by kernel_rfl) (fun _ _ _ h => h) (until_take 14 _ (by decide)) ?hy114 hcl13 (fun _ => HC.out _ ((((Wr.refl _ wr).alloc _).drew).trans R3.out)) ?rest114
          case hi114 =>
            simp only [List.getElem?_toArray, List.getElem?_cons_succ, List.getElem?_cons_zero]
            rfl
          case hy114 =>
            refine yields_until (by kernel_rfl) (Or.inl ⟨by rfl, fun w' hS => ?_⟩)
            try go_split_ands
            go_simp
            try rfl
          case rest114 =>
          intro hcl14 hS14
          clear hcl13
          try simp only [Act.put, List.setIfInBounds_toArray, List.set_cons_zero, List.set_cons_succ]
          refine wpAnyL_step (i := 14) (o := ?oi115) ?hi115 (by kernel_rfl) hcl14 ?rest115
          case hi115 =>
            simp only [List.getElem?_toArray, List.getElem?_cons_succ, List.getElem?_cons_zero]
            rfl
          case rest115 =>
          intro K hK
          go_simp
          refine hK _ _ (fun hb => absurd hb (by decide)) (fun hcl999 => ?_)
          clear hK K hcl14 hS14
          refine wpAnyL_done (by kernel_rfl) (NoPanic.normal ?_) _
          try simp only [Act.put, List.setIfInBounds_toArray, List.set_cons_zero, List.set_cons_succ]
          go_wp2_with fail
          go_roundw
          case rel => exact ⟨j + 1, by omega, by go_num, HFIN.out⟩
          case measure => simp [intOf]; omega
        · have hjn : j = o.uses.length := by omega
          subst hjn
          have hrowB := HROW.out.wr0 (rin.trans ((Wr.refl [] wr).alloc (.cells #[.string o.module, .slice Bv o.uses.length dv] 40)))
          obtain ⟨xs, h1, h2, h3⟩ := hrowB
          obtain ⟨zz, hzz⟩ : ∃ zz, wr.heap.size = zz := ⟨_, rfl⟩
          obtain ⟨wB, hwB⟩ : ∃ wB, wr.alloc (.cells #[.string o.module, .slice Bv o.uses.length dv] 40) = wB := ⟨_, rfl⟩
          have rB : Wr [] wr wB := by rw [← hwB]; exact (Wr.refl [] wr).alloc _
          have hnew : Blk wB zz 40 #[.string o.module, .slice Bv o.uses.length dv] := by rw [← hwB, ← hzz]; exact Blk.new _ _ _
          rw [hwB] at h1 h3
          have hkl : ((l.take k).map needOf).length = k := by rw [List.length_map, List.length_take]; omega
          have hbase : w.heap.size ≤ wB.heap.size := Nat.le_trans (ACC.out.trans rin).size rB.size
          obtain ⟨v', w4, hrun, hown4, hgrow, _, hbk⟩ := run_append_own_at (P := Try.prog) wB w.heap.size 37 37 40 i1 _ 2 40 Try.underlying37 hi1 hy0 hy1 hy2 rfl (by decide) _ _ _ h1 ⟨zz, 0, none⟩ 1 1 [.string o.module, .slice Bv o.uses.length dv] rfl (fun q u' hq => by
            rw [Addr.add_lit, Nat.zero_add, hnew.cell]
            simpa using hq) (by simp [Value.oneCell']) (by unfold maxLen; omega) (by omega) hbase
          have hsz0 := HSZ.out
          have hx : SlStr wB (fun b => w.heap.size ≤ b ∧ b ∉ ownL u3) (.slice Bv o.uses.length dv) (needOf o).needs := by
            have hvl : ∀ b, u3.ownBlock = some b → b < wo.heap.size := by
              obtain ⟨ys, g1, _⟩ := HROW.out
              exact own_lt g1
            have := Sl.ofOwn (P := fun b => w.heap.size ≤ b ∧ b ∉ ownL u3) (own_keep hown rB (fun _ _ => by simp)) (fun b hb => ⟨Nat.le_trans ACC.out.size (hown.lt b hb).1, fun hm => by
              have := hvl b (mem_ownL.1 hm)
              have := (hown.lt b hb).1
              omega⟩)
            rw [List.take_length] at this
            have e : (needOf o).needs.length = o.uses.length := by simp [needOf]
            unfold SlStr
            rw [e]
            exact this
          have hpush := RowN.push (x := needOf o) h1 h2 h3 hbase hx rfl hown4 hgrow hbk
          rw [← HX.out.2.1] at hpush
          have hacc := ((ACC.out.trans rin).trans rB).trans' (Wr.ofGrownOwn hgrow) (fun x hx => .inr ((h1.lt x (mem_ownL.1 hx)).1))
          have hsz1 : sz < wr.heap.size := bn.lt
          have d0 := bn.cell 0
          have d1 := bn.cell 1
          simp only [List.getElem?_toArray, List.getElem?_cons_zero, List.getElem?_cons_succ] at d0 d1
          have HZZ := Lib.hid hzz
          have HWB := Lib.hid hwB
          have HP := Lib.hid hpush
          have HA := Lib.hid hacc
          have HRUN := Lib.hid hrun
          clear rin bn hown hne h1 h2 h3 hzz hwB rB hnew hkl hbase hrun hown4 hgrow hbk hsz0 hx hpush hacc
          go_wp2_with (at_builtin; rw [HZZ.out, HWB.out]; refine wpList_append_run rfl _ _ _ rfl _ _ rfl rfl _ _ HRUN.out ?_)
          go_roundw
          case rel => exact ⟨k + 1, by omega, by go_num, HA.out, HP.out⟩
          case measure => simp [intOf]; omega
    · have hkn : k = l.length := by omega
      subst hkn
      rw [List.take_length] at hrow
      have HS := Lib.hid hrow.sl
      have ACC := Lib.hid acc
      clear hrow acc
      go_wp2_with fail
      go_ret
      exact ⟨_, rfl, ACC.out, HS.out⟩
end Go.Proofs.Ytfeeeogkkajefaa
