/- Alike's closure, of two procedure types; Alike. Conditions: the table is there; its types are known. -/
import Derived.Test.YtcpgkeceefoljaaTyPe
import Derived.Test.YtcpgkeceefoljaaMapA
import Derived.DeepKeys3
import Derived.Laws.EntriesVeiled
namespace Go.Proofs.Ytcpgkeceefoljaa
open Go.RowKit
set_option linter.unusedVariables false
set_option linter.unusedSimpArgs false

theorem key_pair {a b : Int} (ha : (Lit.int .i64 a).wf = true) (hb : (Lit.int .i64 b).wf = true) (e : Bool) (w : World) : (Instr.checkKey e 10000 75 (.agg #[.int .i64 a, .int .i64 b])).run Try.prog w = .ok () w := by
  have hc2 : Try.prog.cellsOf 75 = 2 := by kernel_rfl
  have hc1 : Try.prog.cellsOf 3 = 1 := by kernel_rfl
  have h1 : ∀ n : Int, (Lit.int .i64 n).wf = true → Try.prog.keyLits 4 3 [.int .i64 n] = some [.int .i64 n] := by
    intro n hn
    unfold Program.keyLits
    rw [Try.underlying3]
    simp [hn]
  have hL : Try.prog.keyLits 5 75 [.int .i64 a, .int .i64 b] = some [.int .i64 a, .int .i64 b] := by
    unfold Program.keyLits
    rw [Try.underlying75]
    simp [hc2, hc1, List.range, List.range.loop, h1 a ha, h1 b hb]
  have hf : (Value.agg #[.int .i64 a, .int .i64 b]).formed Try.prog 75 = true := by
    unfold Value.formed
    rw [Try.underlying75]
    simp [hc2]
  have h := Go.run_checkKey_deep (P := Try.prog) e 9998 2 75 (by kernel_rfl)
  exact h w 5 _ _ hf hL
theorem hmf_ (fn : Fn) (first cap : Array Value) (w : World) : (Instr.makeFunc fn first cap).run Try.prog w = .ok (.func fn first cap) w := rfl
theorem met_ins (w : World) (mr : Nat) {a b : Int} (ha : (Lit.int .i64 a).wf = true) (hb : (Lit.int .i64 b).wf = true) (h : w.heap[mr]? = some (.map #[] 0)) :
    ∃ w2, (Instr.mapUpdate 74 (.map (some mr)) (.agg #[.int .i64 a, .int .i64 b]) (.bool true)).run Try.prog w = .ok () w2 ∧ Wr [mr] w w2 := by
  refine ⟨_, ins_at Try.underlying74 Try.underlying75 w mr #[] 0 _ _ h (fun w => key_pair ha hb false w) rfl, rfl, rfl, rfl, ?_, fun k hk hn => ?_⟩
  · simp
  · have : k ≠ mr := by simpa using hn
    have hne : ¬mr = k := fun e => this e.symm
    simp [Array.getElem?_setIfInBounds, hne]
theorem met_look (w : World) (mr : Nat) {a b : Int} (ha : (Lit.int .i64 a).wf = true) (hb : (Lit.int .i64 b).wf = true) (h : w.heap[mr]? = some (.map #[] 0)) :
    (Instr.lookup 74 (.map (some mr)) (.agg #[.int .i64 a, .int .i64 b]) false).run Try.prog w = .ok (.bool false) w :=
  look_at Try.underlying74 Try.underlying75 w mr #[] 0 _ none (.bool false) h (fun e w => key_pair ha hb e w) rfl Try.zeroValue4 false

theorem Sl.notmap {w : World} {P : Nat → Prop} {size n mr : Nat} {v : Value} {xs : List Value} {es : Array MapEntry} {c : Nat} (h : Sl w P size v n xs) (hm : w.heap[mr]? = some (.map es c)) : Sl w (fun b => b ≠ mr) size v n xs := by
  obtain ⟨A, k, hv, h1, h2, h3, h4⟩ := h
  refine ⟨A, k, hv, h1, h2, h3, fun j u hj => ?_⟩
  obtain ⟨b, off, e, _, hc⟩ := h4 j u hj
  refine ⟨b, off, e, ?_, hc⟩
  rintro rfl
  simp [World.cell?, hm] at hc
/-- What Alike's closure answers of two procedure types. -/
def AlkTop (mr : Nat) (w : World) (x y : Ty) (e : Ending) (w' : World) : Prop := ∃ b : Bool, e = .returned (.bool b) ∧ Wr [mr] w w' ∧ (b = true ↔ (x.result = y.result ∧ x.params = y.params))
/-- Two types of parameters are told apart by their kinds. -/
def Told (tys : List Ty) (l m : List Par) : Prop := ∀ p ∈ l, ∀ q ∈ m, (tyOf tys p.type).kind ≠ 0 ∧ (p.type ≠ q.type → (tyOf tys p.type).kind ≠ (tyOf tys q.type).kind)

set_option maxRecDepth 100000 in
set_option maxHeartbeats 8000000 in
theorem alike_top (w : World) (t pt pm pa mr : Nat) (v : Value) (L : List Nat) (base : Nat) (tys : List Ty) (h : Tab 71 w t v L base tys) (hp : w.cell? ⟨pt, 0, none⟩ = some (.pointer (some ⟨t, 0, none⟩)))
    (hm : w.cell? ⟨pm, 0, none⟩ = some (.map (some mr))) (hmr : w.heap[mr]? = some (.map #[] 0)) (hmL : mr ∈ L) (htm : t ≠ mr) (hvm : ∀ k, v.ownBlock = some k → k ≠ mr) (ha : AlkIn w pt pm pa) (hpt : pt ≠ mr) (hpa : pa ≠ mr) (i j : Int) (wi : (Lit.int .i64 i).wf = true) (wj : (Lit.int .i64 j).wf = true) (hij : i ≠ j)
    (hx : (tyOf tys i).kind = 16) (hy : (tyOf tys j).kind = 16) (htold : Told tys (tyOf tys i).params (tyOf tys j).params) :
    Calls Try.prog 29 #[.int .i64 i, .int .i64 j, .pointer (some ⟨pt, 0, none⟩), .pointer (some ⟨pm, 0, none⟩), .pointer (some ⟨pa, 0, none⟩)] w (AlkTop mr w (tyOf tys i) (tyOf tys j)) := by
  have hoi := fun W (r : Wr [] w W) => of_q h r i
  have hoj := fun W (r : Wr [] w W) => of_q h r j
  have HT := Lib.hid h
  have HTO := Lib.hid htold
  have HX := Lib.hid hx
  have HY := Lib.hid hy
  have HA := Lib.hid ha
  have HM := Lib.hid hm
  have HMR := Lib.hid hmr
  clear h htold hx hy ha hm hmr
  go_enter Try.func29, Try.ntmps29
  go_upto_region 1 with (fail)
  go_cut [8, 9] (fun s8 s9 wx => AlkCut w (tyOf tys i) (tyOf tys j) s8 s9 wx)
  case first =>
    rename_i J K' hJ hK'
    generalize tyOf tys i = x at *
    generalize tyOf tys j = y at *
    refine wp_region_L (fun _ _ => True) (by kernel_rfl) (fun hcl => ?_)
    clear hcl
    change wpAnyL _ _ _ _ _ _ _ _ w.drew
    have acc : Wr [] w w.drew := (Wr.refl [] w).drew
    have hpd : w.drew.cell? ⟨pt, 0, none⟩ = some (.pointer (some ⟨t, 0, none⟩)) := hp
    generalize w.drew = wd at *
    refine wpAnyL_grid0 [(0, 10), (1, 11), (2, 12), (3, 13), (4, 14), (5, 15), (6, 8), (7, 9)] (GridJ wd (alkVal t i j) alkV alkAl (alkX x y)) (by kernel_rfl) (by kernel_rfl) ?steps (by kernel_rfl) (fun _ _ _ _ => trivial) ?fin (GridJ.start (Wr.refl [] wd) _ ⟨fun h => (by rw [lst_start] at h; cases h), fun h => (by rw [lst_start] at h; cases h)⟩)
    case steps =>
      intro n hn
      have : n = 0 ∨ n = 1 ∨ n = 2 ∨ n = 3 ∨ n = 4 ∨ n = 5 ∨ n = 6 ∨ n = 7 ∨ n = 8 ∨ n = 9 := by
        have : n < 10 := hn
        omega
      rcases this with h | h | h | h | h | h | h | h | h | h <;> subst h <;> intro oi hoi' <;> simp only [List.getElem?_toArray, List.getElem?_cons_succ, List.getElem?_cons_zero, Option.some.injEq] at hoi' <;> subst hoi' <;> intro σ l w1 hsz hl hd hI K hK <;>
        simp only [puts, List.foldl_cons, List.foldl_nil, Act.put, List.setIfInBounds_toArray, List.set_cons_zero, List.set_cons_succ] at hK ⊢
      · have c0 := hI.acc.cellOf hpd (by simp)
        go_simp
        exact hK _ _ (hI.quiet hl (Wr.refl [] _) (alkNa _ (by decide)) (fun _ => rfl) (hI.x.quiet (Wr.refl [] _) (by decide) (by decide) (by decide) (by decide)))
      · go_simp
        exact hK _ _ (hI.quiet hl (Wr.refl [] _) (alkNa _ (by decide)) (fun _ => rfl) (hI.x.quiet (Wr.refl [] _) (by decide) (by decide) (by decide) (by decide)))
      · have e0 := hI.v 0 (by decide) (hd 0 (by decide +kernel))
        have e1 := hI.v 1 (by decide) (hd 1 (by decide +kernel))
        simp only [alkVal] at e0 e1
        simp only [e0, e1] at hK ⊢
        go_simp
        refine (hoi _ (acc.trans hI.acc)).mono ?_
        rintro e w2 ⟨A1, c1, A2, c2, A3, c3, A4, c4, rfl, r, s⟩
        exact hK _ _ (hI.quiet hl r (alkNa _ (by decide)) (fun h => absurd h (by decide)) (hI.x.two r ⟨A1, c1, A2, c2, A3, c3, A4, c4, rfl, Sl.mono s (fun b hb => ⟨hb.2, alk_q hI acc b hb.1⟩)⟩))
      · have c0 := hI.acc.cellOf hpd (by simp)
        go_simp
        exact hK _ _ (hI.quiet hl (Wr.refl [] _) (alkNa _ (by decide)) (fun _ => rfl) (hI.x.quiet (Wr.refl [] _) (by decide) (by decide) (by decide) (by decide)))
      · go_simp
        exact hK _ _ (hI.quiet hl (Wr.refl [] _) (alkNa _ (by decide)) (fun _ => rfl) (hI.x.quiet (Wr.refl [] _) (by decide) (by decide) (by decide) (by decide)))
      · have e0 := hI.v 3 (by decide) (hd 3 (by decide +kernel))
        have e1 := hI.v 4 (by decide) (hd 4 (by decide +kernel))
        simp only [alkVal] at e0 e1
        simp only [e0, e1] at hK ⊢
        go_simp
        refine (hoj _ (acc.trans hI.acc)).mono ?_
        rintro e w2 ⟨A1, c1, A2, c2, A3, c3, A4, c4, rfl, r, s⟩
        exact hK _ _ (hI.quiet hl r (alkNa _ (by decide)) (fun h => absurd h (by decide)) (hI.x.five r ⟨A1, c1, A2, c2, A3, c3, A4, c4, rfl, Sl.mono s (fun b hb => ⟨hb.2, alk_q hI acc b hb.1⟩)⟩))
      · go_simp
        exact hK _ _ (hI.alloc alkApart ⟨6, 8, 2, 31, zeroT⟩ (by simp [alkAl]) hl (hI.x.alloc (by decide) _))
      · go_simp
        exact hK _ _ (hI.alloc alkApart ⟨7, 9, 5, 31, zeroT⟩ (by simp [alkAl]) hl (hI.x.alloc (by decide) _))
      · have l6 := hd 6 (by decide +kernel)
        have l2 := hd 2 (by decide +kernel)
        obtain ⟨b, e6, hb, hz, _⟩ := hI.b ⟨6, 8, 2, 31, zeroT⟩ (by simp [alkAl]) l6
        have hz := hz hl
        simp only at hz e6
        obtain ⟨A1, c1, A2, c2, A3, c3, A4, c4, e0, _⟩ := hI.x.1 l2
        have c0 := hz.cell 0
        have z0 := hz.frozen 0
        have c1 := hz.cell 1
        have z1 := hz.frozen 1
        have c2 := hz.cell 2
        have z2 := hz.frozen 2
        have c3 := hz.cell 3
        have z3 := hz.frozen 3
        have c4 := hz.cell 4
        have z4 := hz.frozen 4
        have c5 := hz.cell 5
        have z5 := hz.frozen 5
        have c6 := hz.cell 6
        have z6 := hz.frozen 6
        have c7 := hz.cell 7
        have z7 := hz.frozen 7
        have c8 := hz.cell 8
        have z8 := hz.frozen 8
        have c9 := hz.cell 9
        have z9 := hz.frozen 9
        have c10 := hz.cell 10
        have z10 := hz.frozen 10
        have c11 := hz.cell 11
        have z11 := hz.frozen 11
        simp only [zeroT, List.getElem?_toArray, List.getElem?_cons_succ, List.getElem?_cons_zero] at c0 c1 c2 c3 c4 c5 c6 c7 c8 c9 c10 c11
        simp only [e0, e6] at hK ⊢
        go_simp
        exact hK undef _ (hI.store alkApart ⟨6, 8, 2, 31, zeroT⟩ (by simp [alkAl]) (by rw [hsz]; exact (by decide : 8 < 10)) hl l6 l2 e6 hb (wr12 _ _ _ _ _ _ _ _ _ _ _ _ _ _) e0 (blk12 _ _ _ _ _ _ _ _ _ _ _ _ _ _ _ _ _ _ _ _ _ _ _ _ _ _ _ hz) (hI.x.store (by decide) (k := 6) (by decide) l6 e6 (wr12 _ _ _ _ _ _ _ _ _ _ _ _ _ _)))
      · have l6 := hd 7 (by decide +kernel)
        have l2 := hd 5 (by decide +kernel)
        obtain ⟨b, e6, hb, hz, _⟩ := hI.b ⟨7, 9, 5, 31, zeroT⟩ (by simp [alkAl]) l6
        have hz := hz hl
        simp only at hz e6
        obtain ⟨A1, c1, A2, c2, A3, c3, A4, c4, e0, _⟩ := hI.x.2 l2
        have c0 := hz.cell 0
        have z0 := hz.frozen 0
        have c1 := hz.cell 1
        have z1 := hz.frozen 1
        have c2 := hz.cell 2
        have z2 := hz.frozen 2
        have c3 := hz.cell 3
        have z3 := hz.frozen 3
        have c4 := hz.cell 4
        have z4 := hz.frozen 4
        have c5 := hz.cell 5
        have z5 := hz.frozen 5
        have c6 := hz.cell 6
        have z6 := hz.frozen 6
        have c7 := hz.cell 7
        have z7 := hz.frozen 7
        have c8 := hz.cell 8
        have z8 := hz.frozen 8
        have c9 := hz.cell 9
        have z9 := hz.frozen 9
        have c10 := hz.cell 10
        have z10 := hz.frozen 10
        have c11 := hz.cell 11
        have z11 := hz.frozen 11
        simp only [zeroT, List.getElem?_toArray, List.getElem?_cons_succ, List.getElem?_cons_zero] at c0 c1 c2 c3 c4 c5 c6 c7 c8 c9 c10 c11
        simp only [e0, e6] at hK ⊢
        go_simp
        exact hK undef _ (hI.store alkApart ⟨7, 9, 5, 31, zeroT⟩ (by simp [alkAl]) (by rw [hsz]; exact (by decide : 9 < 10)) hl l6 l2 e6 hb (wr12 _ _ _ _ _ _ _ _ _ _ _ _ _ _) e0 (blk12 _ _ _ _ _ _ _ _ _ _ _ _ _ _ _ _ _ _ _ _ _ _ _ _ _ _ _ hz) (hI.x.store (by decide) (k := 7) (by decide) l6 e6 (wr12 _ _ _ _ _ _ _ _ _ _ _ _ _ _)))
    case fin =>
      intro σ l w1 hall hI
      have hl : ∀ i, i < 10 → lst l i = true := hall
      obtain ⟨b8, e6, _, _, t8⟩ := hI.b ⟨6, 8, 2, 31, zeroT⟩ (by simp [alkAl]) (hl 6 (by decide))
      obtain ⟨b9, e7, _, _, t9⟩ := hI.b ⟨7, 9, 5, 31, zeroT⟩ (by simp [alkAl]) (hl 7 (by decide))
      obtain ⟨cs8, f8, t8⟩ := t8 (hl 8 (by decide))
      obtain ⟨cs9, f9, t9⟩ := t9 (hl 9 (by decide))
      obtain ⟨A1, c1, A2, c2, A3, c3, A4, c4, g8, s8⟩ := hI.x.1 (hl 2 (by decide))
      obtain ⟨B1, d1, B2, d2, B3, d3, B4, d4, g9, s9⟩ := hI.x.2 (hl 5 (by decide))
      simp only at e6 e7 f8 f9
      rw [f8] at g8
      rw [f9] at g9
      simp only [Value.agg.injEq] at g8 g9
      subst g8 g9
      simp only [puts, List.foldl_cons, List.foldl_nil, Act.put, List.setIfInBounds_toArray, List.set_cons_zero, List.set_cons_succ]
      simp only [e6, e7]
      have hcut : AlkCut w x y (.pointer (some ⟨b8, 0, none⟩)) (.pointer (some ⟨b9, 0, none⟩)) w1 := ⟨b8, b9, A1, c1, A2, c2, A3, c3, A4, c4, B1, d1, B2, d2, B3, d3, B4, d4, rfl, rfl, acc.trans hI.acc, t8, t9, Sl.mono s8 (fun _ _ => trivial), Sl.mono s9 (fun _ _ => trivial)⟩
      clear t8 t9 e6 e7 s8 s9
      refine hK' _ _ (Met.intro (hJ _ _ ?_))
      repeat apply Exists.intro
      exact ⟨hcut, rfl⟩
  case rest =>
    obtain ⟨b8, b9, A1, c1, A2, c2, A3, c3, A4, c4, B1, d1, B2, d2, B3, d3, B4, d4, rfl, rfl, acc, t8, t9, s8, s9⟩ := hcut
    have hx := HX.out
    have hy := HY.out
    have hm := acc.cellOf HM.out (by simp)
    have hmr : wc.heap[mr]? = some (.map #[] 0) := by
      have hlt : mr < w.heap.size := by
        rcases Nat.lt_or_ge mr w.heap.size with k | k
        · exact k
        · have := HMR.out
          rw [Array.getElem?_eq_none k] at this
          cases this
      exact (acc.block mr hlt (by simp)).trans HMR.out
    have hlk := met_look wc mr wi wj hmr
    obtain ⟨w2, hins, r2⟩ := met_ins wc mr wi wj hmr
    have n8 : b8 ≠ mr := fun e => by
      have := t8
      rw [e] at this
      unfold Blk at this
      rw [hmr] at this
      cases this
    have n9 : b9 ≠ mr := fun e => by
      have := t9
      rw [e] at this
      unfold Blk at this
      rw [hmr] at this
      cases this
    have q8 := t8.wr r2 (by simp [n8])
    have q9 := t9.wr r2 (by simp [n9])
    have S8 := Lib.hid s8
    have S9 := Lib.hid s9
    clear s8 s9
    have hmf := hmf_
    have hij_ : (i == j) = false := by simp [hij]
    have hcl := HTO.out
    generalize hX : tyOf tys i = x at *
    generalize hY : tyOf tys j = y at *
    have e0 := t8.cell 0
    have f0 := t9.cell 0
    simp only [List.getElem?_toArray, List.getElem?_cons_zero, hx, hy] at e0 f0
    have g0 := q8.cell 0
    have g10 := q8.cell 10
    have g11 := q8.cell 11
    have h10 := q9.cell 10
    have h11 := q9.cell 11
    simp only [List.getElem?_toArray, List.getElem?_cons_zero, List.getElem?_cons_succ, hx] at g0 g10 g11 h10 h11
    by_cases hr : x.result = y.result
    · have hr_ : (x.result == y.result) = true := by simp [hr]
      clear t8 t9 q8 q9
      go_wp2_with fail
      have ha2 : AlkIn w2 pt pm pa := r2.cellOf (acc.cellOf HA.out (by simp)) (by simp [hpa])
      have hT2 : Tab 71 w2 t v L base tys := (HT.out.wr0 acc).keep r2 (by simp [hmL]) (by simp [htm]) (fun k hk => by simp [hvm k hk])
      have hp2 : w2.cell? ⟨pt, 0, none⟩ = some (.pointer (some ⟨t, 0, none⟩)) := r2.cellOf (acc.cellOf hp (by simp)) (by simp [hpt])
      have hs8 := Sl.keep (Sl.notmap S8.out hmr) r2 (fun b hb => by simp [hb])
      have hs9 := Sl.keep (Sl.notmap S9.out hmr) r2 (fun b hb => by simp [hb])
      refine (eqf_any w2 pt pm pa _ _ _ _ x.params y.params hs8 hs9 ha2 (fun p hp' q hq' W hW => alike_low W t pt pm pa v L base tys (hT2.wr0 hW) (hW.cellOf hp2 (by simp)) p.type q.type (hcl p hp' q hq').1 (hcl p hp' q hq').2)).mono ?_
      rintro e w3 ⟨b, rfl, r3, hb⟩
      cases b with
      | true =>
        have hv := hb.1 rfl
        clear hb
        go_wp2_with fail
        go_ret
        exact ⟨true, rfl, ((acc.nil).trans r2).trans0 r3, by simp [hr, hv]⟩
      | false =>
        have hne : ¬x.params = y.params := fun e => by have := hb.2 e; cases this
        clear hb
        go_wp2_with fail
        go_ret
        exact ⟨false, rfl, ((acc.nil).trans r2).trans0 r3, by simp [hne]⟩
    · have hr_ : (x.result == y.result) = false := by simp [hr]
      clear t8 t9 q8 q9 hcl
      go_wp2_with fail
      go_ret
      exact ⟨false, rfl, (acc.nil).trans r2, by simp [hr]⟩

/-- What Alike answers of two procedure types. -/
def AlkT (w : World) (x y : Ty) (e : Ending) (w' : World) : Prop := ∃ b : Bool, e = .returned (.bool b) ∧ Wr [] w w' ∧ (b = true ↔ (x.result = y.result ∧ x.params = y.params))
set_option maxHeartbeats 4000000 in
theorem alikeT_any (w : World) (t : Nat) (v : Value) (L : List Nat) (base : Nat) (tys : List Ty) (h : Tab 71 w t v L base tys) (i j : Int) (wi : (Lit.int .i64 i).wf = true) (wj : (Lit.int .i64 j).wf = true) (hij : i ≠ j)
    (hx : (tyOf tys i).kind = 16) (hy : (tyOf tys j).kind = 16) (htold : Told tys (tyOf tys i).params (tyOf tys j).params) :
    Calls Try.prog 9 #[.pointer (some ⟨t, 0, none⟩), .int .i64 i, .int .i64 j] w (AlkT w (tyOf tys i) (tyOf tys j)) := by
  have hmf := hmf_
  have hmm := @run_makeMap Try.prog
  have hen : ∀ args w, (callFunc 29 args).run Try.prog w = .ok (.enter 29 args) w := fun args w => rfl
  go_enter Try.func9, Try.ntmps9
  have z1 : (w.alloc (.cells #[.pointer (some ⟨t, 0, none⟩)] 24)).heap.size = w.heap.size + 1 := by simp
  have m2 := heap_alloc_new (w.alloc (.cells #[.pointer (some ⟨t, 0, none⟩)] 24)) (.map #[] 0)
  rw [z1] at m2
  have p1 := (Blk.new w 24 #[.pointer (some ⟨t, 0, none⟩)]).alloc (.map #[] 0)
  have r1 := ((Wr.refl [] w).alloc (.cells #[.pointer (some ⟨t, 0, none⟩)] 24)).alloc (.map #[] 0)
  have z2 : ((w.alloc (.cells #[.pointer (some ⟨t, 0, none⟩)] 24)).alloc (.map #[] 0)).heap.size = w.heap.size + 1 + 1 := by simp
  go_wp2_with fail
  generalize (w.alloc (.cells #[.pointer (some ⟨t, 0, none⟩)] 24)).alloc (.map #[] 0) = w2 at *
  have p3 := Blk.new w2 74 #[.map (some (w.heap.size + 1))]
  rw [z2] at p3
  have m3 := (Below.heap_alloc w2 (.cells #[.map (some (w.heap.size + 1))] 74) (w.heap.size + 1) (by omega)).trans m2
  replace p1 := p1.alloc (.cells #[.map (some (w.heap.size + 1))] 74)
  replace r1 := r1.alloc (.cells #[.map (some (w.heap.size + 1))] 74)
  have z3 : (w2.alloc (.cells #[.map (some (w.heap.size + 1))] 74)).heap.size = w.heap.size + 1 + 1 + 1 := by simp [z2]
  generalize w2.alloc (.cells #[.map (some (w.heap.size + 1))] 74) = w3 at *
  have p4 := Blk.new w3 37 #[.func (.func 29) #[] #[.pointer (some ⟨w.heap.size, 0, none⟩), .pointer (some ⟨w.heap.size + 1 + 1, 0, none⟩), .pointer (some ⟨w.heap.size + 1 + 1 + 1, 0, none⟩)]]
  rw [z3] at p4
  have m4 := (Below.heap_alloc w3 (.cells #[.func (.func 29) #[] #[.pointer (some ⟨w.heap.size, 0, none⟩), .pointer (some ⟨w.heap.size + 1 + 1, 0, none⟩), .pointer (some ⟨w.heap.size + 1 + 1 + 1, 0, none⟩)]] 37) (w.heap.size + 1) (by omega)).trans m3
  replace p1 := p1.alloc (.cells #[.func (.func 29) #[] #[.pointer (some ⟨w.heap.size, 0, none⟩), .pointer (some ⟨w.heap.size + 1 + 1, 0, none⟩), .pointer (some ⟨w.heap.size + 1 + 1 + 1, 0, none⟩)]] 37)
  replace p3 := p3.alloc (.cells #[.func (.func 29) #[] #[.pointer (some ⟨w.heap.size, 0, none⟩), .pointer (some ⟨w.heap.size + 1 + 1, 0, none⟩), .pointer (some ⟨w.heap.size + 1 + 1 + 1, 0, none⟩)]] 37)
  replace r1 := r1.alloc (.cells #[.func (.func 29) #[] #[.pointer (some ⟨w.heap.size, 0, none⟩), .pointer (some ⟨w.heap.size + 1 + 1, 0, none⟩), .pointer (some ⟨w.heap.size + 1 + 1 + 1, 0, none⟩)]] 37)
  have z4 : (w3.alloc (.cells #[.func (.func 29) #[] #[.pointer (some ⟨w.heap.size, 0, none⟩), .pointer (some ⟨w.heap.size + 1 + 1, 0, none⟩), .pointer (some ⟨w.heap.size + 1 + 1 + 1, 0, none⟩)]] 37)).heap.size = w.heap.size + 1 + 1 + 1 + 1 := by simp [z3]
  generalize w3.alloc (.cells #[.func (.func 29) #[] #[.pointer (some ⟨w.heap.size, 0, none⟩), .pointer (some ⟨w.heap.size + 1 + 1, 0, none⟩), .pointer (some ⟨w.heap.size + 1 + 1 + 1, 0, none⟩)]] 37) = w4 at *
  have hL := h.lin
  have hT : Tab 71 w4 t v (L ++ [w.heap.size + 1]) base tys := h.step r1 (by simp) (by simp) (by simp) (fun x hx => List.mem_append_left _ hx) (fun x hx => by
      rcases List.mem_append.1 hx with e | e
      · exact .inl e
      · rw [List.mem_singleton] at e
        exact .inr (by omega)) (fun x hx => by
      rcases List.mem_append.1 hx with e | e
      · have := h.lin x e
        omega
      · rw [List.mem_singleton] at e
        omega)
  have ht := h.lin t h.tin
  have c1 := p1.cell 0
  have c3 := p3.cell 0
  have c4 := p4.cell 0
  simp only [List.getElem?_toArray, List.getElem?_cons_zero] at c1 c3 c4
  refine (alike_top w4 t w.heap.size (w.heap.size + 1 + 1) (w.heap.size + 1 + 1 + 1) (w.heap.size + 1) v (L ++ [w.heap.size + 1]) base tys hT c1 c3 m4 (by simp) (by omega) (fun k hk e => by
    have := h.lin k (h.rin k hk)
    omega) c4 (by omega) (by omega) i j wi wj hij hx hy htold).mono ?_
  rintro e w5 ⟨b, rfl, r5, hb⟩
  have HB := Lib.hid hb
  clear hb
  go_wp2_with fail
  go_ret
  exact ⟨b, rfl, r1.new r5 (by omega), HB.out⟩
end Go.Proofs.Ytcpgkeceefoljaa
