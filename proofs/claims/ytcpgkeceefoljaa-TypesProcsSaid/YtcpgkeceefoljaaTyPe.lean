/- Alike's closure: walked. Conditions: the table is there; what it asks of parameters is known. -/
import Derived.Test.YtcpgkeceefoljaaTyPd
namespace Go.Proofs.Ytcpgkeceefoljaa
open Go.RowKit
set_option linter.unusedVariables false
set_option linter.unusedSimpArgs false

set_option maxRecDepth 100000 in
set_option maxHeartbeats 8000000 in
theorem alike_low (w : World) (t pt pm pa : Nat) (v : Value) (L : List Nat) (base : Nat) (tys : List Ty) (h : Tab 71 w t v L base tys) (hp : w.cell? ⟨pt, 0, none⟩ = some (.pointer (some ⟨t, 0, none⟩))) (i j : Int) (hk0 : (tyOf tys i).kind ≠ 0) (hne : i ≠ j → (tyOf tys i).kind ≠ (tyOf tys j).kind) :
    Calls Try.prog 29 #[.int .i64 i, .int .i64 j, .pointer (some ⟨pt, 0, none⟩), .pointer (some ⟨pm, 0, none⟩), .pointer (some ⟨pa, 0, none⟩)] w fun e w' => e = .returned (.bool (i == j)) ∧ Wr [] w w' := by
  have hoi := fun W (r : Wr [] w W) => of_q h r i
  have hoj := fun W (r : Wr [] w W) => of_q h r j
  have HNE := Lib.hid hne
  have HK0 := Lib.hid hk0
  clear h hne hk0
  go_enter Try.func29, Try.ntmps29
  go_upto_region 1 with (fail)
  go_cut [8, 9] (fun s8 s9 wx => AlkCut w (tyOf tys i) (tyOf tys j) s8 s9 wx)
  case first =>
    rename_i J K' hJ hK'
    generalize tyOf tys i = x at *
    generalize tyOf tys j = y at *
    refine wp_region_L (fun _ _ => True) (by kernel_rfl) (fun hcl => ?_)
    clear hcl
    change wpAnyL _ _ _ _ _ _ _ _ w.drew
    have acc : Wr [] w w.drew := (Wr.refl [] w).drew
    have hpd : w.drew.cell? ⟨pt, 0, none⟩ = some (.pointer (some ⟨t, 0, none⟩)) := hp
    generalize w.drew = wd at *
    refine wpAnyL_grid0 [(0, 10), (1, 11), (2, 12), (3, 13), (4, 14), (5, 15), (6, 8), (7, 9)] (GridJ wd (alkVal t i j) alkV alkAl (alkX x y)) (by kernel_rfl) (by kernel_rfl) ?steps (by kernel_rfl) (fun _ _ _ _ => trivial) ?fin (GridJ.start (Wr.refl [] wd) _ ⟨fun h => (by rw [lst_start] at h; cases h), fun h => (by rw [lst_start] at h; cases h)⟩)
    case steps =>
      intro n hn
      have : n = 0 ∨ n = 1 ∨ n = 2 ∨ n = 3 ∨ n = 4 ∨ n = 5 ∨ n = 6 ∨ n = 7 ∨ n = 8 ∨ n = 9 := by
        have : n < 10 := hn
        omega
      rcases this with h | h | h | h | h | h | h | h | h | h <;> subst h <;> intro oi hoi' <;> simp only [List.getElem?_toArray, List.getElem?_cons_succ, List.getElem?_cons_zero, Option.some.injEq] at hoi' <;> subst hoi' <;> intro σ l w1 hsz hl hd hI K hK <;>
        simp only [puts, List.foldl_cons, List.foldl_nil, Act.put, List.setIfInBounds_toArray, List.set_cons_zero, List.set_cons_succ] at hK ⊢
      · have c0 := hI.acc.cellOf hpd (by simp)
        go_simp
        exact hK _ _ (hI.quiet hl (Wr.refl [] _) (alkNa _ (by decide)) (fun _ => rfl) (hI.x.quiet (Wr.refl [] _) (by decide) (by decide) (by decide) (by decide)))
      · go_simp
        exact hK _ _ (hI.quiet hl (Wr.refl [] _) (alkNa _ (by decide)) (fun _ => rfl) (hI.x.quiet (Wr.refl [] _) (by decide) (by decide) (by decide) (by decide)))
      · have e0 := hI.v 0 (by decide) (hd 0 (by decide +kernel))
        have e1 := hI.v 1 (by decide) (hd 1 (by decide +kernel))
        simp only [alkVal] at e0 e1
        simp only [e0, e1] at hK ⊢
        go_simp
        refine (hoi _ (acc.trans hI.acc)).mono ?_
        rintro e w2 ⟨A1, c1, A2, c2, A3, c3, A4, c4, rfl, r, s⟩
        exact hK _ _ (hI.quiet hl r (alkNa _ (by decide)) (fun h => absurd h (by decide)) (hI.x.two r ⟨A1, c1, A2, c2, A3, c3, A4, c4, rfl, Sl.mono s (fun b hb => ⟨hb.2, alk_q hI acc b hb.1⟩)⟩))
      · have c0 := hI.acc.cellOf hpd (by simp)
        go_simp
        exact hK _ _ (hI.quiet hl (Wr.refl [] _) (alkNa _ (by decide)) (fun _ => rfl) (hI.x.quiet (Wr.refl [] _) (by decide) (by decide) (by decide) (by decide)))
      · go_simp
        exact hK _ _ (hI.quiet hl (Wr.refl [] _) (alkNa _ (by decide)) (fun _ => rfl) (hI.x.quiet (Wr.refl [] _) (by decide) (by decide) (by decide) (by decide)))
      · have e0 := hI.v 3 (by decide) (hd 3 (by decide +kernel))
        have e1 := hI.v 4 (by decide) (hd 4 (by decide +kernel))
        simp only [alkVal] at e0 e1
        simp only [e0, e1] at hK ⊢
        go_simp
        refine (hoj _ (acc.trans hI.acc)).mono ?_
        rintro e w2 ⟨A1, c1, A2, c2, A3, c3, A4, c4, rfl, r, s⟩
        exact hK _ _ (hI.quiet hl r (alkNa _ (by decide)) (fun h => absurd h (by decide)) (hI.x.five r ⟨A1, c1, A2, c2, A3, c3, A4, c4, rfl, Sl.mono s (fun b hb => ⟨hb.2, alk_q hI acc b hb.1⟩)⟩))
      · go_simp
        exact hK _ _ (hI.alloc alkApart ⟨6, 8, 2, 31, zeroT⟩ (by simp [alkAl]) hl (hI.x.alloc (by decide) _))
      · go_simp
        exact hK _ _ (hI.alloc alkApart ⟨7, 9, 5, 31, zeroT⟩ (by simp [alkAl]) hl (hI.x.alloc (by decide) _))
      · have l6 := hd 6 (by decide +kernel)
        have l2 := hd 2 (by decide +kernel)
        obtain ⟨b, e6, hb, hz, _⟩ := hI.b ⟨6, 8, 2, 31, zeroT⟩ (by simp [alkAl]) l6
        have hz := hz hl
        simp only at hz e6
        obtain ⟨A1, c1, A2, c2, A3, c3, A4, c4, e0, _⟩ := hI.x.1 l2
        have c0 := hz.cell 0
        have z0 := hz.frozen 0
        have c1 := hz.cell 1
        have z1 := hz.frozen 1
        have c2 := hz.cell 2
        have z2 := hz.frozen 2
        have c3 := hz.cell 3
        have z3 := hz.frozen 3
        have c4 := hz.cell 4
        have z4 := hz.frozen 4
        have c5 := hz.cell 5
        have z5 := hz.frozen 5
        have c6 := hz.cell 6
        have z6 := hz.frozen 6
        have c7 := hz.cell 7
        have z7 := hz.frozen 7
        have c8 := hz.cell 8
        have z8 := hz.frozen 8
        have c9 := hz.cell 9
        have z9 := hz.frozen 9
        have c10 := hz.cell 10
        have z10 := hz.frozen 10
        have c11 := hz.cell 11
        have z11 := hz.frozen 11
        simp only [zeroT, List.getElem?_toArray, List.getElem?_cons_succ, List.getElem?_cons_zero] at c0 c1 c2 c3 c4 c5 c6 c7 c8 c9 c10 c11
        simp only [e0, e6] at hK ⊢
        go_simp
        exact hK undef _ (hI.store alkApart ⟨6, 8, 2, 31, zeroT⟩ (by simp [alkAl]) (by rw [hsz]; exact (by decide : 8 < 10)) hl l6 l2 e6 hb (wr12 _ _ _ _ _ _ _ _ _ _ _ _ _ _) e0 (blk12 _ _ _ _ _ _ _ _ _ _ _ _ _ _ _ _ _ _ _ _ _ _ _ _ _ _ _ hz) (hI.x.store (by decide) (k := 6) (by decide) l6 e6 (wr12 _ _ _ _ _ _ _ _ _ _ _ _ _ _)))
      · have l6 := hd 7 (by decide +kernel)
        have l2 := hd 5 (by decide +kernel)
        obtain ⟨b, e6, hb, hz, _⟩ := hI.b ⟨7, 9, 5, 31, zeroT⟩ (by simp [alkAl]) l6
        have hz := hz hl
        simp only at hz e6
        obtain ⟨A1, c1, A2, c2, A3, c3, A4, c4, e0, _⟩ := hI.x.2 l2
        have c0 := hz.cell 0
        have z0 := hz.frozen 0
        have c1 := hz.cell 1
        have z1 := hz.frozen 1
        have c2 := hz.cell 2
        have z2 := hz.frozen 2
        have c3 := hz.cell 3
        have z3 := hz.frozen 3
        have c4 := hz.cell 4
        have z4 := hz.frozen 4
        have c5 := hz.cell 5
        have z5 := hz.frozen 5
        have c6 := hz.cell 6
        have z6 := hz.frozen 6
        have c7 := hz.cell 7
        have z7 := hz.frozen 7
        have c8 := hz.cell 8
        have z8 := hz.frozen 8
        have c9 := hz.cell 9
        have z9 := hz.frozen 9
        have c10 := hz.cell 10
        have z10 := hz.frozen 10
        have c11 := hz.cell 11
        have z11 := hz.frozen 11
        simp only [zeroT, List.getElem?_toArray, List.getElem?_cons_succ, List.getElem?_cons_zero] at c0 c1 c2 c3 c4 c5 c6 c7 c8 c9 c10 c11
        simp only [e0, e6] at hK ⊢
        go_simp
        exact hK undef _ (hI.store alkApart ⟨7, 9, 5, 31, zeroT⟩ (by simp [alkAl]) (by rw [hsz]; exact (by decide : 9 < 10)) hl l6 l2 e6 hb (wr12 _ _ _ _ _ _ _ _ _ _ _ _ _ _) e0 (blk12 _ _ _ _ _ _ _ _ _ _ _ _ _ _ _ _ _ _ _ _ _ _ _ _ _ _ _ hz) (hI.x.store (by decide) (k := 7) (by decide) l6 e6 (wr12 _ _ _ _ _ _ _ _ _ _ _ _ _ _)))
    case fin =>
      intro σ l w1 hall hI
      have hl : ∀ i, i < 10 → lst l i = true := hall
      obtain ⟨b8, e6, _, _, t8⟩ := hI.b ⟨6, 8, 2, 31, zeroT⟩ (by simp [alkAl]) (hl 6 (by decide))
      obtain ⟨b9, e7, _, _, t9⟩ := hI.b ⟨7, 9, 5, 31, zeroT⟩ (by simp [alkAl]) (hl 7 (by decide))
      obtain ⟨cs8, f8, t8⟩ := t8 (hl 8 (by decide))
      obtain ⟨cs9, f9, t9⟩ := t9 (hl 9 (by decide))
      obtain ⟨A1, c1, A2, c2, A3, c3, A4, c4, g8, s8⟩ := hI.x.1 (hl 2 (by decide))
      obtain ⟨B1, d1, B2, d2, B3, d3, B4, d4, g9, s9⟩ := hI.x.2 (hl 5 (by decide))
      simp only at e6 e7 f8 f9
      rw [f8] at g8
      rw [f9] at g9
      simp only [Value.agg.injEq] at g8 g9
      subst g8 g9
      simp only [puts, List.foldl_cons, List.foldl_nil, Act.put, List.setIfInBounds_toArray, List.set_cons_zero, List.set_cons_succ]
      simp only [e6, e7]
      have hcut : AlkCut w x y (.pointer (some ⟨b8, 0, none⟩)) (.pointer (some ⟨b9, 0, none⟩)) w1 := ⟨b8, b9, A1, c1, A2, c2, A3, c3, A4, c4, B1, d1, B2, d2, B3, d3, B4, d4, rfl, rfl, acc.trans hI.acc, t8, t9, Sl.mono s8 (fun _ _ => trivial), Sl.mono s9 (fun _ _ => trivial)⟩
      clear t8 t9 e6 e7 s8 s9
      refine hK' _ _ (Met.intro (hJ _ _ ?_))
      repeat apply Exists.intro
      exact ⟨hcut, rfl⟩
  case rest =>
    obtain ⟨b8, b9, A1, c1, A2, c2, A3, c3, A4, c4, B1, d1, B2, d2, B3, d3, B4, d4, rfl, rfl, acc, t8, t9, s8, s9⟩ := hcut
    have hk0 := HK0.out
    have hne := HNE.out
    clear HK0 HNE s8 s9 hoi hoj
    by_cases hij : i = j
    · subst hij
      generalize tyOf tys i = x at *
      have e0 := t8.cell 0
      have f0 := t9.cell 0
      simp only [List.getElem?_toArray, List.getElem?_cons_zero] at e0 f0
      have k0 : (x.kind == 0) = false := by simp [hk0]
      have kk : (x.kind != x.kind) = false := by simp
      have hii : (i == i) = true := by simp
      clear t8 t9 hne
      go_wp2_with fail
      go_ret
      exact ⟨by simp, acc⟩
    · generalize tyOf tys i = x at *
      generalize tyOf tys j = y at *
      have e0 := t8.cell 0
      have f0 := t9.cell 0
      simp only [List.getElem?_toArray, List.getElem?_cons_zero] at e0 f0
      have k0 : (x.kind == 0) = false := by simp [hk0]
      have hn := hne hij
      have hn_ : (x.kind != y.kind) = true := by simp [hn]
      clear t8 t9 hne
      go_wp2_with fail
      go_ret
      exact ⟨by simp [hij], acc⟩

end Go.Proofs.Ytcpgkeceefoljaa
