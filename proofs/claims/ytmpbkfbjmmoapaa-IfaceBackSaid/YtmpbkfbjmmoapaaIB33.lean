/- IfaceBack: walked. Conditions: the interfaces are such as Go has. -/
import Derived.Test.YtmpbkfbjmmoapaaIB24
import Derived.Test.YtmpbkfbjmmoapaaIB32
namespace Go.Proofs.Ytmpbkfbjmmoapaa
open Go.RowKit
set_option linter.unusedVariables false
set_option linter.unusedSimpArgs false
set_option maxRecDepth 100000 in
set_option maxHeartbeats 16000000 in
theorem ifaceBack_main (f h : FaceP) (vu vt vi uu ut ui : Value) (P R : Nat → Prop) (s : ByteArray) (w : World) (hf : FacePL w P vu vt vi f) (hh : FacePL w R uu ut ui h) (sf : ∀ x ∈ f.items, 0 ≤ x.v.sort) (sh : ∀ x ∈ h.items, 0 ≤ x.v.sort) (wf : faceW (faceOf f)) (wh : faceW (faceOf h)) :
    Calls Try.prog 3 #[.agg #[.string f.module, vu, vt, vi], .agg #[.string h.module, uu, ut, ui], .string s] w (TrueR w) := by
  obtain ⟨⟨A1, a1, rfl, _, ma1⟩, ⟨A2, a2, rfl, _, ma2⟩, ⟨A3, a3, rfl, _, ma3⟩⟩ := hf.forms
  obtain ⟨⟨B1, b1, rfl, _, mb1⟩, ⟨B2, b2, rfl, _, mb2⟩, ⟨B3, b3, rfl, _, mb3⟩⟩ := hh.forms
  unfold maxLen at ma1 ma2 ma3 mb1 mb2 mb3
  obtain ⟨w0, hw0⟩ : ∃ w0, (w.alloc (.cells #[.string f.module, .slice A1 f.uses.length a1, .slice A2 f.types.length a2, .slice A3 f.items.length a3] 26)).alloc (.cells #[.string h.module, .slice B1 h.uses.length b1, .slice B2 h.types.length b2, .slice B3 h.items.length b3] 26) = w0 := ⟨_, rfl⟩
  obtain ⟨g, hg⟩ : ∃ g, w.heap.size = g := ⟨_, rfl⟩
  have acc : Wr [] w w0 := by rw [← hw0]; exact ((Wr.refl _ _).alloc _).alloc _
  have bA : Blk w0 g 26 #[.string f.module, .slice A1 f.uses.length a1, .slice A2 f.types.length a2, .slice A3 f.items.length a3] := by rw [← hw0, ← hg]; exact (Blk.new _ _ _).alloc _
  have bB : Blk w0 (g + 1) 26 #[.string h.module, .slice B1 h.uses.length b1, .slice B2 h.types.length b2, .slice B3 h.items.length b3] := by
    have hb := Blk.new (w.alloc (.cells #[.string f.module, .slice A1 f.uses.length a1, .slice A2 f.types.length a2, .slice A3 f.items.length a3] 26)) 26 #[.string h.module, .slice B1 h.uses.length b1, .slice B2 h.types.length b2, .slice B3 h.items.length b3]
    rw [show (w.alloc (.cells #[.string f.module, .slice A1 f.uses.length a1, .slice A2 f.types.length a2, .slice A3 f.items.length a3] 26)).heap.size = g + 1 by simp [hg], hw0] at hb
    exact hb
  have HLA := Lib.hid (fun W (r : Wr [] w W) => large_any f _ _ _ P W (hf.wr0 r))
  have HLB := Lib.hid (fun W (r : Wr [] w W) => large_any h _ _ _ R W (hh.wr0 r))
  have HAL := Lib.hid alive14
  have HF := Lib.hid hf
  have HH := Lib.hid hh
  have SF := Lib.hid sf
  have SH := Lib.hid sh
  have WF := Lib.hid wf
  have WH := Lib.hid wh
  have HW0 := Lib.hid hw0
  have HG := Lib.hid hg
  have BA := Lib.hid bA
  have BB := Lib.hid bB
  clear hw0 hg bA bB hf hh sf sh wf wh
  go_enter Try.func3, Try.ntmps3
  go_upto_region 1 with (fail)
  rw [HW0.out, HG.out]
  have x0 := BA.out.cell 0
  have x1 := BA.out.cell 1
  have x2 := BA.out.cell 2
  have x3 := BA.out.cell 3
  simp only [List.getElem?_toArray, List.getElem?_cons_zero, List.getElem?_cons_succ] at x0 x1 x2 x3
  have y0 := BB.out.cell 0
  have y1 := BB.out.cell 1
  have y2 := BB.out.cell 2
  have y3 := BB.out.cell 3
  simp only [List.getElem?_toArray, List.getElem?_cons_zero, List.getElem?_cons_succ] at y0 y1 y2 y3
  go_wp2_with fail
  refine (HLA.out _ acc).mono ?_
  rintro e w1 ⟨r, rfl, r1, hsm⟩
  have R1 := Lib.hid (acc.trans r1)
  have q1 := r1
  clear x0 x1 x2 x3 y0 y1 y2 y3
  cases r with
  | true =>
    go_wp2_with fail
    refine (HAL.out _).mono ?_
    rintro e w9 ⟨rfl, r9⟩
    go_wp2_with fail
    go_ret
    exact ⟨rfl, R1.out.trans r9⟩
  | false =>
    have x0 := (BA.out.wr0 r1).cell 0
    have x1 := (BA.out.wr0 r1).cell 1
    have x2 := (BA.out.wr0 r1).cell 2
    have x3 := (BA.out.wr0 r1).cell 3
    simp only [List.getElem?_toArray, List.getElem?_cons_zero, List.getElem?_cons_succ] at x0 x1 x2 x3
    have y0 := (BB.out.wr0 r1).cell 0
    have y1 := (BB.out.wr0 r1).cell 1
    have y2 := (BB.out.wr0 r1).cell 2
    have y3 := (BB.out.wr0 r1).cell 3
    simp only [List.getElem?_toArray, List.getElem?_cons_zero, List.getElem?_cons_succ] at y0 y1 y2 y3
    have hi60 := (hsm rfl).1
    clear hsm
    go_wp2_with fail
    refine (HLB.out _ R1.out).mono ?_
    rintro e w2 ⟨r, rfl, r2, hsm⟩
    have R2 := Lib.hid (r1.trans r2)
    clear r1 r2 q1 x0 x1 x2 x3 y0 y1 y2 y3
    cases r with
    | true =>
      go_wp2_with fail
      refine (HAL.out _).mono ?_
      rintro e w9 ⟨rfl, r9⟩
      go_wp2_with fail
      go_ret
      exact ⟨rfl, (acc.trans R2.out).trans r9⟩
    | false =>
      have hj60 := (hsm rfl).1
      clear hsm
      by_cases hs : 4096 < s.size
      · have hs1 : (4096 : Int) < (s.size : Int) := by omega
        have hs2 : (s.size : Int) > (4096 : Int) := by omega
        go_wp2_with fail
        refine (HAL.out _).mono ?_
        rintro e w9 ⟨rfl, r9⟩
        go_wp2_with fail
        go_ret
        exact ⟨rfl, (acc.trans R2.out).trans r9⟩
      · have hs1 : ¬ (4096 : Int) < (s.size : Int) := by omega
        have hs2 : ¬ (s.size : Int) > (4096 : Int) := by omega
        go_upto_region 3 with (fail)
        go_cut [7, 8] (fun s7 s8 wx => IbCut w2 (faceOf f) (faceOf h) s7 s8 wx)
        case first =>
          rename_i J K' hJ hK'
          refine wp_region_L (fun _ _ => True) (by kernel_rfl) (fun hcl => ?_)
          clear hcl
          change wpAnyL _ _ _ _ _ _ _ _ w2.drew
          have rd : Wr [] w2 w2.drew := (Wr.refl [] w2).drew
          have rdw : Wr [] w w2.drew := (acc.trans R2.out).trans rd
          have p0 := ((BA.out.wr0 R2.out).wr0 rd).cell 0
          have p1 := ((BA.out.wr0 R2.out).wr0 rd).cell 1
          have p2 := ((BA.out.wr0 R2.out).wr0 rd).cell 2
          have p3 := ((BA.out.wr0 R2.out).wr0 rd).cell 3
          simp only [List.getElem?_toArray, List.getElem?_cons_zero, List.getElem?_cons_succ] at p0 p1 p2 p3
          have q0 := ((BB.out.wr0 R2.out).wr0 rd).cell 0
          have q1 := ((BB.out.wr0 R2.out).wr0 rd).cell 1
          have q2 := ((BB.out.wr0 R2.out).wr0 rd).cell 2
          have q3 := ((BB.out.wr0 R2.out).wr0 rd).cell 3
          simp only [List.getElem?_toArray, List.getElem?_cons_zero, List.getElem?_cons_succ] at q0 q1 q2 q3
          have hf0 := (HF.out.wr0 rdw).into (Q := fun b => b < w2.drew.heap.size) (fun b _ hb => hb)
          have hh0 := (HH.out.wr0 rdw).into (Q := fun b => b < w2.drew.heap.size) (fun b _ hb => hb)
          generalize w2.drew = wd at *
          have hof := fun W (r : Wr [] wd W) => of_face_at f _ _ _ _ W (hf0.wr0 r) SF.out (by omega)
          have hoh := fun W (r : Wr [] wd W) => of_face_at h _ _ _ _ W (hh0.wr0 r) SH.out (by omega)
          refine wpAnyL_grid0 [(0, 31), (1, 32), (2, 33), (3, 34), (4, 7), (5, 8)] (GridJ wd (ibVal (.agg #[.string f.module, .slice A1 f.uses.length a1, .slice A2 f.types.length a2, .slice A3 f.items.length a3]) (.agg #[.string h.module, .slice B1 h.uses.length b1, .slice B2 h.types.length b2, .slice B3 h.items.length b3])) ibV ibAl (ibX (faceOf f) (faceOf h))) (by kernel_rfl) (by kernel_rfl) ?steps (by kernel_rfl) (fun _ _ _ _ => trivial) ?fin (GridJ.start (Wr.refl [] wd) _ ⟨fun h => (by rw [lst_start] at h; cases h), fun h => (by rw [lst_start] at h; cases h)⟩)
          case steps =>
            intro n hn
            have : n = 0 ∨ n = 1 ∨ n = 2 ∨ n = 3 ∨ n = 4 ∨ n = 5 ∨ n = 6 ∨ n = 7 := by
              have : n < 8 := hn
              omega
            rcases this with h | h | h | h | h | h | h | h <;> subst h <;> intro oi hoi' <;> simp only [List.getElem?_toArray, List.getElem?_cons_succ, List.getElem?_cons_zero, Option.some.injEq] at hoi' <;> subst hoi' <;> intro σ l w1 hsz hl hd hI K hK <;>
              simp only [puts, List.foldl_cons, List.foldl_nil, Act.put, List.setIfInBounds_toArray, List.set_cons_zero, List.set_cons_succ] at hK ⊢
            · have c0 := hI.acc.cellOf p0 (by simp)
              have c1 := hI.acc.cellOf p1 (by simp)
              have c2 := hI.acc.cellOf p2 (by simp)
              have c3 := hI.acc.cellOf p3 (by simp)
              go_simp
              exact hK _ _ (hI.quiet hl (Wr.refl [] _) (ibNa _ (by decide)) (fun _ => rfl) (hI.x.quiet (Wr.refl [] _) (by decide) (by decide) (by decide) (by decide)))
            · have e0 := hI.v 0 (by decide) (hd 0 (by decide +kernel))
              simp only [ibVal] at e0
              simp only [e0] at hK ⊢
              go_simp
              refine (hof _ hI.acc).mono ?_
              rintro e w3 ⟨vi, rfl, r, fl⟩
              obtain ⟨C3, c3, rfl, _, _⟩ := Sl.form fl.items
              exact hK _ _ (hI.quiet hl r (ibNa _ (by decide)) (fun h => absurd h (by decide)) (hI.x.one r ⟨A1, a1, A2, a2, C3, c3, rfl, fl.into (fun b hb hlt => ⟨hlt, ib_q hI b hb⟩)⟩))
            · have c0 := hI.acc.cellOf q0 (by simp)
              have c1 := hI.acc.cellOf q1 (by simp)
              have c2 := hI.acc.cellOf q2 (by simp)
              have c3 := hI.acc.cellOf q3 (by simp)
              go_simp
              exact hK _ _ (hI.quiet hl (Wr.refl [] _) (ibNa _ (by decide)) (fun _ => rfl) (hI.x.quiet (Wr.refl [] _) (by decide) (by decide) (by decide) (by decide)))
            · have e0 := hI.v 2 (by decide) (hd 2 (by decide +kernel))
              simp only [ibVal] at e0
              simp only [e0] at hK ⊢
              go_simp
              refine (hoh _ hI.acc).mono ?_
              rintro e w3 ⟨vi, rfl, r, fl⟩
              obtain ⟨C3, c3, rfl, _, _⟩ := Sl.form fl.items
              exact hK _ _ (hI.quiet hl r (ibNa _ (by decide)) (fun h => absurd h (by decide)) (hI.x.three r ⟨B1, b1, B2, b2, C3, c3, rfl, fl.into (fun b hb hlt => ⟨hlt, ib_q hI b hb⟩)⟩))
            · go_simp
              exact hK _ _ (hI.alloc ibApart ⟨4, 6, 1, 31, zeroI⟩ (by simp [ibAl]) hl (hI.x.alloc (by decide) _))
            · go_simp
              exact hK _ _ (hI.alloc ibApart ⟨5, 7, 3, 31, zeroI⟩ (by simp [ibAl]) hl (hI.x.alloc (by decide) _))
            · have l6 := hd 4 (by decide +kernel)
              have l2 := hd 1 (by decide +kernel)
              obtain ⟨b, e6, hb, hz, _⟩ := hI.b ⟨4, 6, 1, 31, zeroI⟩ (by simp [ibAl]) l6
              have hz := hz hl
              simp only at hz e6
              obtain ⟨Y1, k1, Y2, k2, Y3, k3, e0, _⟩ := hI.x.1 l2
              unfold zeroI at hz
              have c0 := hz.cell 0
              have z0 := hz.frozen 0
              have c1 := hz.cell 1
              have z1 := hz.frozen 1
              have c2 := hz.cell 2
              have z2 := hz.frozen 2
              have c3 := hz.cell 3
              have z3 := hz.frozen 3
              simp only [List.getElem?_toArray, List.getElem?_cons_succ, List.getElem?_cons_zero] at c0 c1 c2 c3
              simp only [e0, e6] at hK ⊢
              go_simp
              exact hK undef _ (hI.store ibApart ⟨4, 6, 1, 31, zeroI⟩ (by simp [ibAl]) (by rw [hsz]; exact (by decide : 6 < 8)) hl l6 l2 e6 hb (wr4 _ _ _ _ _ _) e0 (blk4 _ _ _ _ _ _ _ _ _ _ _ hz) (hI.x.store (by decide) (k := 4) (by decide) l6 e6 (wr4 _ _ _ _ _ _)))
            · have l6 := hd 5 (by decide +kernel)
              have l2 := hd 3 (by decide +kernel)
              obtain ⟨b, e6, hb, hz, _⟩ := hI.b ⟨5, 7, 3, 31, zeroI⟩ (by simp [ibAl]) l6
              have hz := hz hl
              simp only at hz e6
              obtain ⟨Y1, k1, Y2, k2, Y3, k3, e0, _⟩ := hI.x.2 l2
              unfold zeroI at hz
              have c0 := hz.cell 0
              have z0 := hz.frozen 0
              have c1 := hz.cell 1
              have z1 := hz.frozen 1
              have c2 := hz.cell 2
              have z2 := hz.frozen 2
              have c3 := hz.cell 3
              have z3 := hz.frozen 3
              simp only [List.getElem?_toArray, List.getElem?_cons_succ, List.getElem?_cons_zero] at c0 c1 c2 c3
              simp only [e0, e6] at hK ⊢
              go_simp
              exact hK undef _ (hI.store ibApart ⟨5, 7, 3, 31, zeroI⟩ (by simp [ibAl]) (by rw [hsz]; exact (by decide : 7 < 8)) hl l6 l2 e6 hb (wr4 _ _ _ _ _ _) e0 (blk4 _ _ _ _ _ _ _ _ _ _ _ hz) (hI.x.store (by decide) (k := 5) (by decide) l6 e6 (wr4 _ _ _ _ _ _)))
          case fin =>
            intro σ l w1 hall hI
            have hl : ∀ i, i < 8 → lst l i = true := hall
            obtain ⟨b7, e6, _, _, t8⟩ := hI.b ⟨4, 6, 1, 31, zeroI⟩ (by simp [ibAl]) (hl 4 (by decide))
            obtain ⟨b8, e7, _, _, t9⟩ := hI.b ⟨5, 7, 3, 31, zeroI⟩ (by simp [ibAl]) (hl 5 (by decide))
            obtain ⟨cs8, f8, t8⟩ := t8 (hl 6 (by decide))
            obtain ⟨cs9, f9, t9⟩ := t9 (hl 7 (by decide))
            obtain ⟨D1, c1, D2, c2, D3, c3, g8, s8⟩ := hI.x.1 (hl 1 (by decide))
            obtain ⟨E1, d1, E2, d2, E3, d3, g9, s9⟩ := hI.x.2 (hl 3 (by decide))
            simp only at e6 e7 f8 f9
            rw [f8] at g8
            rw [f9] at g9
            simp only [Value.agg.injEq] at g8 g9
            subst g8 g9
            simp only [puts, List.foldl_cons, List.foldl_nil, Act.put, List.setIfInBounds_toArray, List.set_cons_zero, List.set_cons_succ]
            simp only [e6, e7]
            have hcut : IbCut w2 (faceOf f) (faceOf h) (.pointer (some ⟨b7, 0, none⟩)) (.pointer (some ⟨b8, 0, none⟩)) w1 := ⟨b7, b8, D1, c1, D2, c2, D3, c3, E1, d1, E2, d2, E3, d3, rfl, rfl, rd.trans hI.acc, t8, t9, s8.into (fun _ _ _ => trivial), s9.into (fun _ _ _ => trivial)⟩
            clear t8 t9 e6 e7 s8 s9
            refine hK' _ _ (Met.intro (hJ _ _ ?_))
            repeat apply Exists.intro
            exact ⟨hcut, rfl⟩
        case rest =>
          obtain ⟨b7, b8, D1, k1, D2, k2, D3, k3, E1, l1, E2, l2, E3, l3, rfl, rfl, rx, t7, t8, fl7, fl8⟩ := hcut
          obtain ⟨x, hx⟩ : ∃ x, faceOf f = x := ⟨_, rfl⟩
          obtain ⟨y, hy⟩ : ∃ y, faceOf h = y := ⟨_, rfl⟩
          have fx := WF.out
          have fy := WH.out
          have nx : (faceOf f).items.length ≤ 60 := by show (f.items.map itmOf).length ≤ 60; rw [List.length_map]; exact hi60
          have ny : (faceOf h).items.length ≤ 60 := by show (h.items.map itmOf).length ≤ 60; rw [List.length_map]; exact hj60
          rw [hx] at t7 fl7 fx nx
          rw [hy] at t8 fl8 fy ny
          have RX := Lib.hid (acc.trans (R2.out.trans rx))
          have hd := fun W => decode_any s W
          unfold DecodeR at hd
          obtain ⟨D, hD⟩ : ∃ D, decFaceP s.data.toList = D := ⟨_, rfl⟩
          have fz := dec_w (l := s.data.toList)
          rw [hD] at hd fz
          obtain ⟨z, ez⟩ := D
          simp only at hd fz
          have T7 := Lib.hid t7
          have T8 := Lib.hid t8
          have HD := Lib.hid hd
          have HZ := Lib.hid hD
          have FZ := Lib.hid fz
          have FX := Lib.hid fx
          have FY := Lib.hid fy
          have FL7 := Lib.hid fl7
          have FL8 := Lib.hid fl8
          have he1 := fun W r => encode_any x _ _ _ _ fx W (fl7.wr0 r)
          have he2 := fun W r => encode_any y _ _ _ _ fy W (fl8.wr0 r)
          unfold EncodeR at he1 he2
          have HE1 := Lib.hid he1
          have HE2 := Lib.hid he2
          clear t7 t8 fx fy hd fz he1 he2 rx hD hx hy
          have x0 := T7.out.cell 0
          have x1 := T7.out.cell 1
          have x2 := T7.out.cell 2
          have x3 := T7.out.cell 3
          simp only [List.getElem?_toArray, List.getElem?_cons_zero, List.getElem?_cons_succ] at x0 x1 x2 x3
          go_wp2_with fail
          refine (HE1.out _ (Wr.refl _ _)).mono ?_
          rintro e w4 ⟨rfl, r4⟩
          have R4 := Lib.hid r4
          clear r4 x0 x1 x2 x3
          have y0 := (T8.out.wr0 R4.out).cell 0
          have y1 := (T8.out.wr0 R4.out).cell 1
          have y2 := (T8.out.wr0 R4.out).cell 2
          have y3 := (T8.out.wr0 R4.out).cell 3
          simp only [List.getElem?_toArray, List.getElem?_cons_zero, List.getElem?_cons_succ] at y0 y1 y2 y3
          go_wp2_with fail
          refine (HE2.out _ R4.out).mono ?_
          rintro e w5 ⟨rfl, r5⟩
          have R5 := Lib.hid (R4.out.trans r5)
          clear r5 y0 y1 y2 y3
          by_cases mx : mayP x = 0
          · have ex : encFaceP x = (faceL x, 0) := by unfold encFaceP; rw [if_pos mx]
            simp only [ex]
            have hdp := fun W => decode_any ⟨(faceL x).toArray⟩ W
            unfold DecodeR at hdp
            have hdx : decFaceP (⟨(faceL x).toArray⟩ : ByteArray).data.toList = (x, 0) := by
              show decFaceP (faceL x) = _
              exact dec_enc x FX.out mx
            rw [hdx] at hdp
            obtain ⟨p, hp⟩ : ∃ p : ByteArray, ⟨(faceL x).toArray⟩ = p := ⟨_, rfl⟩
            rw [hp] at hdp ⊢
            simp only at hdp
            have HDP := Lib.hid hdp
            have HP := Lib.hid hp
            clear hdp hdx hp ex
            go_wp2_with fail
            refine (HDP.out _).mono ?_
            rintro e w6 ⟨zu, zt, zi, rfl, r6, fl6⟩
            obtain ⟨⟨Z1, z1, rfl, _, _⟩, ⟨Z2, z2, rfl, _, _⟩, ⟨Z3, z3, rfl, _, _⟩⟩ := fl6.forms
            simp only [FaceD.val]
            go_upto_region 8 with (fail)
            obtain ⟨w7, hw7⟩ : ∃ q, w6.alloc (.cells #[.string x.module, .slice Z1 x.uses.length z1, .slice Z2 x.types.length z2, .slice Z3 x.items.length z3] 31) = q := ⟨_, rfl⟩
            obtain ⟨b13, hb13⟩ : ∃ q, w6.heap.size = q := ⟨_, rfl⟩
            have r7 : Wr [] w6 w7 := by rw [← hw7]; exact (Wr.refl _ _).alloc _
            have x13 : Blk w7 b13 31 #[.string x.module, .slice Z1 x.uses.length z1, .slice Z2 x.types.length z2, .slice Z3 x.items.length z3] := by rw [← hw7, ← hb13]; exact Blk.new _ _ _
            rw [hw7, hb13]
            have R7 := Lib.hid ((R5.out.trans r6).trans r7)
            have hsm := lawSame_any x x _ _ _ _ _ _ _ _ w7 (fl6.wr0 r7) (FL7.out.wr0 R7.out) FX.out FX.out (by omega) (by omega)
            rw [eqB_true (rfl : facePl x = facePl x)] at hsm
            have HSM := Lib.hid hsm
            have v0 := x13.cell 0
            have v1 := x13.cell 1
            have v2 := x13.cell 2
            have v3 := x13.cell 3
            simp only [List.getElem?_toArray, List.getElem?_cons_zero, List.getElem?_cons_succ] at v0 v1 v2 v3
            have x0 := (T7.out.wr0 R7.out).cell 0
            have x1 := (T7.out.wr0 R7.out).cell 1
            have x2 := (T7.out.wr0 R7.out).cell 2
            have x3 := (T7.out.wr0 R7.out).cell 3
            simp only [List.getElem?_toArray, List.getElem?_cons_zero, List.getElem?_cons_succ] at x0 x1 x2 x3
            clear hw7 hb13 r6 r7 fl6 hsm x13
            go_wp2_with fail
            refine HSM.out.mono ?_
            rintro e w8 ⟨rfl, r8⟩
            have R8 := Lib.hid (R7.out.trans r8)
            clear r8 v0 v1 v2 v3 x0 x1 x2 x3
            have x0 := (T7.out.wr0 R8.out).cell 0
            have x1 := (T7.out.wr0 R8.out).cell 1
            have x2 := (T7.out.wr0 R8.out).cell 2
            have x3 := (T7.out.wr0 R8.out).cell 3
            simp only [List.getElem?_toArray, List.getElem?_cons_zero, List.getElem?_cons_succ] at x0 x1 x2 x3
            have y0 := (T8.out.wr0 R8.out).cell 0
            have y1 := (T8.out.wr0 R8.out).cell 1
            have y2 := (T8.out.wr0 R8.out).cell 2
            have y3 := (T8.out.wr0 R8.out).cell 3
            simp only [List.getElem?_toArray, List.getElem?_cons_zero, List.getElem?_cons_succ] at y0 y1 y2 y3
            have hxy := lawSame_any x y _ _ _ _ _ _ _ _ w8 (FL7.out.wr0 R8.out) (FL8.out.wr0 R8.out) FX.out FY.out (by omega) (by omega)
            by_cases my : mayP y = 0
            · have ey : encFaceP y = (faceL y, 0) := by unfold encFaceP; rw [if_pos my]
              simp only [ey]
              obtain ⟨q, hq⟩ : ∃ q : ByteArray, ⟨(faceL y).toArray⟩ = q := ⟨_, rfl⟩
              rw [hq]
              have hb := bytes_same FX.out FY.out mx my
              by_cases hpq : p = q
              · have hl : faceL x = faceL y := by
                  have h1 := congrArg (fun b : ByteArray => b.data.toList) (HP.out.trans (hpq.trans hq.symm))
                  exact h1
                rw [eqB_true (hb.1 hl)] at hxy
                have HXY := Lib.hid hxy
                clear hxy hb hl hq ey
                subst hpq
                go_wp2_with fail
                refine HXY.out.mono ?_
                rintro e w9 ⟨rfl, r9⟩
                have R9 := Lib.hid (RX.out.trans (R8.out.trans r9))
                clear r9 x0 x1 x2 x3 y0 y1 y2 y3
                go_wp2_with fail
                refine (HD.out _).mono ?_
                rintro e w16 ⟨zu, zt, zi, rfl, r16, fl16⟩
                obtain ⟨⟨Z1, z1, rfl, _, _⟩, ⟨Z2, z2, rfl, _, _⟩, ⟨Z3, z3, rfl, _, _⟩⟩ := fl16.forms
                simp only [FaceD.val]
                have R16 := Lib.hid (R9.out.trans r16)
                have FL16 := Lib.hid fl16
                clear r16 fl16
                go_upto_region 13 with (fail)
                obtain ⟨w17, hw17⟩ : ∃ q, w16.alloc (.cells #[.string z.module, .slice Z1 z.uses.length z1, .slice Z2 z.types.length z2, .slice Z3 z.items.length z3] 31) = q := ⟨_, rfl⟩
                obtain ⟨b17, hb17⟩ : ∃ q, w16.heap.size = q := ⟨_, rfl⟩
                have r17 : Wr [] w16 w17 := by rw [← hw17]; exact (Wr.refl _ _).alloc _
                have x17 : Blk w17 b17 31 #[.string z.module, .slice Z1 z.uses.length z1, .slice Z2 z.types.length z2, .slice Z3 z.items.length z3] := by rw [← hw17, ← hb17]; exact Blk.new _ _ _
                rw [hw17, hb17]
                have v0 := x17.cell 0
                have v1 := x17.cell 1
                have v2 := x17.cell 2
                have v3 := x17.cell 3
                simp only [List.getElem?_toArray, List.getElem?_cons_zero, List.getElem?_cons_succ] at v0 v1 v2 v3
                clear hw17 hb17 x17
                by_cases hez : ez = 0
                · subst hez
                  have henc := encode_any z _ _ _ _ FZ.out w17 (FL16.out.wr0 r17)
                  unfold EncodeR at henc
                  rw [enc_dec HZ.out] at henc
                  have hss : (⟨s.data.toList.toArray⟩ : ByteArray) = s := by rw [Array.toArray_toList]
                  rw [hss] at henc
                  have R17 := Lib.hid (R16.out.trans r17)
                  have HENC := Lib.hid henc
                  clear henc hss r17
                  go_wp2_with fail
                  refine HENC.out.mono ?_
                  rintro e w18 ⟨rfl, r18⟩
                  have R18 := Lib.hid (R17.out.trans r18)
                  clear r18 v0 v1 v2 v3
                  go_wp2_with fail
                  refine (HAL.out _).mono ?_
                  rintro e w9 ⟨rfl, r9⟩
                  go_wp2_with fail
                  go_ret
                  exact ⟨rfl, R18.out.trans r9⟩
                · have hez1 : (ez == 0) = false := by simpa using hez
                  have hez2 : (ez != 0) = true := by simpa using hez
                  have R17 := Lib.hid (R16.out.trans r17)
                  clear r17 v0 v1 v2 v3
                  go_wp2_with fail
                  refine (HAL.out _).mono ?_
                  rintro e w9 ⟨rfl, r9⟩
                  go_wp2_with fail
                  go_ret
                  exact ⟨rfl, R17.out.trans r9⟩
              · have hl : faceL x ≠ faceL y := fun e => hpq (by rw [← HP.out, ← hq, e])
                rw [eqB_false (fun e => hl (hb.2 e))] at hxy
                have hne := str_ne hpq
                have HXY := Lib.hid hxy
                by_cases hlen : p.size ≤ q.size
                · have hli : (p.size : Int) ≤ (q.size : Int) := by omega
                  have hex : q.extract 0 p.size ≠ p := by
                    intro e
                    have h1 : (q.extract 0 p.size).data.toList = p.data.toList := by rw [e]
                    have hqd : q.data.toList = faceL y := by rw [← hq]
                    have hpd : p.data.toList = faceL x := by rw [← HP.out]
                    have hps : p.size = (faceL x).length := by rw [← hpd]; show p.data.size = _; simp
                    rw [ByteArray.data_extract, Array.toList_extract, List.extract_eq_take_drop, hqd, hpd, hps, List.drop_zero, Nat.sub_zero] at h1
                    have h2 := List.take_append_drop (faceL x).length (faceL y)
                    rw [h1] at h2
                    exact hl (by rw [(face_prefix x y FX.out FY.out mx my _ h2).2])
                  have hexs := str_ne hex
                  clear hxy hb hl hq ey
                  go_wp2_with fail
                  refine HXY.out.mono ?_
                  rintro e w9 ⟨rfl, r9⟩
                  have R9 := Lib.hid (RX.out.trans (R8.out.trans r9))
                  clear r9 x0 x1 x2 x3 y0 y1 y2 y3
                  go_wp2_with fail
                  refine (HD.out _).mono ?_
                  rintro e w16 ⟨zu, zt, zi, rfl, r16, fl16⟩
                  obtain ⟨⟨Z1, z1, rfl, _, _⟩, ⟨Z2, z2, rfl, _, _⟩, ⟨Z3, z3, rfl, _, _⟩⟩ := fl16.forms
                  simp only [FaceD.val]
                  have R16 := Lib.hid (R9.out.trans r16)
                  have FL16 := Lib.hid fl16
                  clear r16 fl16
                  go_upto_region 13 with (fail)
                  obtain ⟨w17, hw17⟩ : ∃ q, w16.alloc (.cells #[.string z.module, .slice Z1 z.uses.length z1, .slice Z2 z.types.length z2, .slice Z3 z.items.length z3] 31) = q := ⟨_, rfl⟩
                  obtain ⟨b17, hb17⟩ : ∃ q, w16.heap.size = q := ⟨_, rfl⟩
                  have r17 : Wr [] w16 w17 := by rw [← hw17]; exact (Wr.refl _ _).alloc _
                  have x17 : Blk w17 b17 31 #[.string z.module, .slice Z1 z.uses.length z1, .slice Z2 z.types.length z2, .slice Z3 z.items.length z3] := by rw [← hw17, ← hb17]; exact Blk.new _ _ _
                  rw [hw17, hb17]
                  have v0 := x17.cell 0
                  have v1 := x17.cell 1
                  have v2 := x17.cell 2
                  have v3 := x17.cell 3
                  simp only [List.getElem?_toArray, List.getElem?_cons_zero, List.getElem?_cons_succ] at v0 v1 v2 v3
                  clear hw17 hb17 x17
                  by_cases hez : ez = 0
                  · subst hez
                    have henc := encode_any z _ _ _ _ FZ.out w17 (FL16.out.wr0 r17)
                    unfold EncodeR at henc
                    rw [enc_dec HZ.out] at henc
                    have hss : (⟨s.data.toList.toArray⟩ : ByteArray) = s := by rw [Array.toArray_toList]
                    rw [hss] at henc
                    have R17 := Lib.hid (R16.out.trans r17)
                    have HENC := Lib.hid henc
                    clear henc hss r17
                    go_wp2_with fail
                    refine HENC.out.mono ?_
                    rintro e w18 ⟨rfl, r18⟩
                    have R18 := Lib.hid (R17.out.trans r18)
                    clear r18 v0 v1 v2 v3
                    go_wp2_with fail
                    refine (HAL.out _).mono ?_
                    rintro e w9 ⟨rfl, r9⟩
                    go_wp2_with fail
                    go_ret
                    exact ⟨rfl, R18.out.trans r9⟩
                  · have hez1 : (ez == 0) = false := by simpa using hez
                    have hez2 : (ez != 0) = true := by simpa using hez
                    have R17 := Lib.hid (R16.out.trans r17)
                    clear r17 v0 v1 v2 v3
                    go_wp2_with fail
                    refine (HAL.out _).mono ?_
                    rintro e w9 ⟨rfl, r9⟩
                    go_wp2_with fail
                    go_ret
                    exact ⟨rfl, R17.out.trans r9⟩
                · have hli : ¬ (p.size : Int) ≤ (q.size : Int) := by omega
                  clear hxy hb hl hq ey
                  go_wp2_with fail
                  refine HXY.out.mono ?_
                  rintro e w9 ⟨rfl, r9⟩
                  have R9 := Lib.hid (RX.out.trans (R8.out.trans r9))
                  clear r9 x0 x1 x2 x3 y0 y1 y2 y3
                  go_wp2_with fail
                  refine (HD.out _).mono ?_
                  rintro e w16 ⟨zu, zt, zi, rfl, r16, fl16⟩
                  obtain ⟨⟨Z1, z1, rfl, _, _⟩, ⟨Z2, z2, rfl, _, _⟩, ⟨Z3, z3, rfl, _, _⟩⟩ := fl16.forms
                  simp only [FaceD.val]
                  have R16 := Lib.hid (R9.out.trans r16)
                  have FL16 := Lib.hid fl16
                  clear r16 fl16
                  go_upto_region 13 with (fail)
                  obtain ⟨w17, hw17⟩ : ∃ q, w16.alloc (.cells #[.string z.module, .slice Z1 z.uses.length z1, .slice Z2 z.types.length z2, .slice Z3 z.items.length z3] 31) = q := ⟨_, rfl⟩
                  obtain ⟨b17, hb17⟩ : ∃ q, w16.heap.size = q := ⟨_, rfl⟩
                  have r17 : Wr [] w16 w17 := by rw [← hw17]; exact (Wr.refl _ _).alloc _
                  have x17 : Blk w17 b17 31 #[.string z.module, .slice Z1 z.uses.length z1, .slice Z2 z.types.length z2, .slice Z3 z.items.length z3] := by rw [← hw17, ← hb17]; exact Blk.new _ _ _
                  rw [hw17, hb17]
                  have v0 := x17.cell 0
                  have v1 := x17.cell 1
                  have v2 := x17.cell 2
                  have v3 := x17.cell 3
                  simp only [List.getElem?_toArray, List.getElem?_cons_zero, List.getElem?_cons_succ] at v0 v1 v2 v3
                  clear hw17 hb17 x17
                  by_cases hez : ez = 0
                  · subst hez
                    have henc := encode_any z _ _ _ _ FZ.out w17 (FL16.out.wr0 r17)
                    unfold EncodeR at henc
                    rw [enc_dec HZ.out] at henc
                    have hss : (⟨s.data.toList.toArray⟩ : ByteArray) = s := by rw [Array.toArray_toList]
                    rw [hss] at henc
                    have R17 := Lib.hid (R16.out.trans r17)
                    have HENC := Lib.hid henc
                    clear henc hss r17
                    go_wp2_with fail
                    refine HENC.out.mono ?_
                    rintro e w18 ⟨rfl, r18⟩
                    have R18 := Lib.hid (R17.out.trans r18)
                    clear r18 v0 v1 v2 v3
                    go_wp2_with fail
                    refine (HAL.out _).mono ?_
                    rintro e w9 ⟨rfl, r9⟩
                    go_wp2_with fail
                    go_ret
                    exact ⟨rfl, R18.out.trans r9⟩
                  · have hez1 : (ez == 0) = false := by simpa using hez
                    have hez2 : (ez != 0) = true := by simpa using hez
                    have R17 := Lib.hid (R16.out.trans r17)
                    clear r17 v0 v1 v2 v3
                    go_wp2_with fail
                    refine (HAL.out _).mono ?_
                    rintro e w9 ⟨rfl, r9⟩
                    go_wp2_with fail
                    go_ret
                    exact ⟨rfl, R17.out.trans r9⟩
            · have ey : encFaceP y = ([], mayP y) := by unfold encFaceP; rw [if_neg my]
              simp only [ey]
              have my1 : (mayP y == 0) = false := by simpa using my
              have R9 := Lib.hid (RX.out.trans R8.out)
              generalize mayP y = mv at *
              clear x0 x1 x2 x3 y0 y1 y2 y3 hxy ey
              go_wp2_with fail
              refine (HD.out _).mono ?_
              rintro e w16 ⟨zu, zt, zi, rfl, r16, fl16⟩
              obtain ⟨⟨Z1, z1, rfl, _, _⟩, ⟨Z2, z2, rfl, _, _⟩, ⟨Z3, z3, rfl, _, _⟩⟩ := fl16.forms
              simp only [FaceD.val]
              have R16 := Lib.hid (R9.out.trans r16)
              have FL16 := Lib.hid fl16
              clear r16 fl16
              go_upto_region 13 with (fail)
              obtain ⟨w17, hw17⟩ : ∃ q, w16.alloc (.cells #[.string z.module, .slice Z1 z.uses.length z1, .slice Z2 z.types.length z2, .slice Z3 z.items.length z3] 31) = q := ⟨_, rfl⟩
              obtain ⟨b17, hb17⟩ : ∃ q, w16.heap.size = q := ⟨_, rfl⟩
              have r17 : Wr [] w16 w17 := by rw [← hw17]; exact (Wr.refl _ _).alloc _
              have x17 : Blk w17 b17 31 #[.string z.module, .slice Z1 z.uses.length z1, .slice Z2 z.types.length z2, .slice Z3 z.items.length z3] := by rw [← hw17, ← hb17]; exact Blk.new _ _ _
              rw [hw17, hb17]
              have v0 := x17.cell 0
              have v1 := x17.cell 1
              have v2 := x17.cell 2
              have v3 := x17.cell 3
              simp only [List.getElem?_toArray, List.getElem?_cons_zero, List.getElem?_cons_succ] at v0 v1 v2 v3
              clear hw17 hb17 x17
              by_cases hez : ez = 0
              · subst hez
                have henc := encode_any z _ _ _ _ FZ.out w17 (FL16.out.wr0 r17)
                unfold EncodeR at henc
                rw [enc_dec HZ.out] at henc
                have hss : (⟨s.data.toList.toArray⟩ : ByteArray) = s := by rw [Array.toArray_toList]
                rw [hss] at henc
                have R17 := Lib.hid (R16.out.trans r17)
                have HENC := Lib.hid henc
                clear henc hss r17
                go_wp2_with fail
                refine HENC.out.mono ?_
                rintro e w18 ⟨rfl, r18⟩
                have R18 := Lib.hid (R17.out.trans r18)
                clear r18 v0 v1 v2 v3
                go_wp2_with fail
                refine (HAL.out _).mono ?_
                rintro e w9 ⟨rfl, r9⟩
                go_wp2_with fail
                go_ret
                exact ⟨rfl, R18.out.trans r9⟩
              · have hez1 : (ez == 0) = false := by simpa using hez
                have hez2 : (ez != 0) = true := by simpa using hez
                have R17 := Lib.hid (R16.out.trans r17)
                clear r17 v0 v1 v2 v3
                go_wp2_with fail
                refine (HAL.out _).mono ?_
                rintro e w9 ⟨rfl, r9⟩
                go_wp2_with fail
                go_ret
                exact ⟨rfl, R17.out.trans r9⟩
          · have ex : encFaceP x = ([], mayP x) := by unfold encFaceP; rw [if_neg mx]
            simp only [ex]
            have mx1 : (mayP x == 0) = false := by simpa using mx
            have R9 := Lib.hid (RX.out.trans R5.out)
            generalize mayP x = mv at *
            clear ex
            go_wp2_with fail
            refine (HD.out _).mono ?_
            rintro e w16 ⟨zu, zt, zi, rfl, r16, fl16⟩
            obtain ⟨⟨Z1, z1, rfl, _, _⟩, ⟨Z2, z2, rfl, _, _⟩, ⟨Z3, z3, rfl, _, _⟩⟩ := fl16.forms
            simp only [FaceD.val]
            have R16 := Lib.hid (R9.out.trans r16)
            have FL16 := Lib.hid fl16
            clear r16 fl16
            go_upto_region 13 with (fail)
            obtain ⟨w17, hw17⟩ : ∃ q, w16.alloc (.cells #[.string z.module, .slice Z1 z.uses.length z1, .slice Z2 z.types.length z2, .slice Z3 z.items.length z3] 31) = q := ⟨_, rfl⟩
            obtain ⟨b17, hb17⟩ : ∃ q, w16.heap.size = q := ⟨_, rfl⟩
            have r17 : Wr [] w16 w17 := by rw [← hw17]; exact (Wr.refl _ _).alloc _
            have x17 : Blk w17 b17 31 #[.string z.module, .slice Z1 z.uses.length z1, .slice Z2 z.types.length z2, .slice Z3 z.items.length z3] := by rw [← hw17, ← hb17]; exact Blk.new _ _ _
            rw [hw17, hb17]
            have v0 := x17.cell 0
            have v1 := x17.cell 1
            have v2 := x17.cell 2
            have v3 := x17.cell 3
            simp only [List.getElem?_toArray, List.getElem?_cons_zero, List.getElem?_cons_succ] at v0 v1 v2 v3
            clear hw17 hb17 x17
            by_cases hez : ez = 0
            · subst hez
              have henc := encode_any z _ _ _ _ FZ.out w17 (FL16.out.wr0 r17)
              unfold EncodeR at henc
              rw [enc_dec HZ.out] at henc
              have hss : (⟨s.data.toList.toArray⟩ : ByteArray) = s := by rw [Array.toArray_toList]
              rw [hss] at henc
              have R17 := Lib.hid (R16.out.trans r17)
              have HENC := Lib.hid henc
              clear henc hss r17
              go_wp2_with fail
              refine HENC.out.mono ?_
              rintro e w18 ⟨rfl, r18⟩
              have R18 := Lib.hid (R17.out.trans r18)
              clear r18 v0 v1 v2 v3
              go_wp2_with fail
              refine (HAL.out _).mono ?_
              rintro e w9 ⟨rfl, r9⟩
              go_wp2_with fail
              go_ret
              exact ⟨rfl, R18.out.trans r9⟩
            · have hez1 : (ez == 0) = false := by simpa using hez
              have hez2 : (ez != 0) = true := by simpa using hez
              have R17 := Lib.hid (R16.out.trans r17)
              clear r17 v0 v1 v2 v3
              go_wp2_with fail
              refine (HAL.out _).mono ?_
              rintro e w9 ⟨rfl, r9⟩
              go_wp2_with fail
              go_ret
              exact ⟨rfl, R17.out.trans r9⟩
end Go.Proofs.Ytmpbkfbjmmoapaa
