/- KeyIface: walked. Conditions: the interface is such as Go has. -/
import Derived.Test.YtjanbpchedgoiaaKI30
namespace Go.Proofs.Ytjanbpchedgoiaa
open Go.RowKit
set_option linter.unusedVariables false
set_option linter.unusedSimpArgs false

set_option maxRecDepth 100000 in
set_option maxHeartbeats 16000000 in
theorem keyIface_main (f : FaceP) (vu vt vi : Value) (P : Nat → Prop) (byN : Nat) (hby : byN < 256) (w : World) (h : FacePL w P vu vt vi f) (hs : ∀ x ∈ f.items, 0 ≤ x.v.sort) (hW : faceW (faceOf f)) (hms : f.module.size ≤ maxLen) :
    Calls Try.prog 4 #[.agg #[.string f.module, vu, vt, vi], .int .u8 (byN : Int)] w fun e w' => e = .returned (.bool true) ∧ Wr [] w w' := by
  obtain ⟨⟨A1, k1, rfl, hn1, hn2⟩, ⟨A2, k2, rfl, hf1, hf2⟩, ⟨A3, k3, rfl, ha1, ha2⟩⟩ := h.forms
  unfold maxLen at hn2 hf2 ha2
  have hal := alive_ok
  unfold AliveOk at hal
  obtain ⟨w0, hw0⟩ : ∃ w0, w.alloc (.cells #[.string f.module, .slice A1 f.uses.length k1, .slice A2 f.types.length k2, .slice A3 f.items.length k3] 35) = w0 := ⟨_, rfl⟩
  obtain ⟨g, hg⟩ : ∃ g, w.heap.size = g := ⟨_, rfl⟩
  have acc : Wr [] w w0 := by rw [← hw0]; exact (Wr.refl _ _).alloc _
  have bF : Blk w0 g 35 #[.string f.module, .slice A1 f.uses.length k1, .slice A2 f.types.length k2, .slice A3 f.items.length k3] := by rw [← hw0, ← hg]; exact Blk.new _ _ _
  have hlg := large_any f _ _ _ P w0 (h.wr0 acc)
  have Hw0 := Lib.hid hw0
  have Hg := Lib.hid hg
  have HAL := Lib.hid hal
  have HL := Lib.hid h
  have HS := Lib.hid hs
  have HW := Lib.hid hW
  have HLG := Lib.hid hlg
  have HMS := Lib.hid hms
  have HBY := Lib.hid hby
  clear hw0 hg hal h hs hW hlg hms
  go_enter Try.func4, Try.ntmps4
  go_upto_region 1 with (fail)
  rw [Hw0.out, Hg.out]
  have c0 := bF.cell 0
  have c1 := bF.cell 1
  have c2 := bF.cell 2
  have c3 := bF.cell 3
  simp only [List.getElem?_toArray, List.getElem?_cons_zero, List.getElem?_cons_succ] at c0 c1 c2 c3
  go_wp2_with fail
  refine HLG.out.mono ?_
  rintro e w1 ⟨r, rfl, r1, hsm⟩
  replace acc := acc.trans r1
  replace bF := bF.wr0 r1
  clear c0 c1 c2 c3
  cases r with
  | true =>
    go_wp2_with fail
    refine (HAL.out _).mono ?_
    rintro e w2 ⟨rfl, r2⟩
    go_wp2_with fail
    go_ret
    exact ⟨rfl, acc.trans r2⟩
  | false =>
  have c0 := bF.cell 0
  have c1 := bF.cell 1
  have c2 := bF.cell 2
  have c3 := bF.cell 3
  simp only [List.getElem?_toArray, List.getElem?_cons_zero, List.getElem?_cons_succ] at c0 c1 c2 c3
  have hi60 := (hsm rfl).1
  have hof := of_face f _ _ _ P w1 (HL.out.wr0 acc) HS.out (by omega)
  have HOF := Lib.hid hof
  clear hof hsm r1
  go_wp2_with fail
  refine HOF.out.mono ?_
  rintro e w2 ⟨vi2, rfl, r2, hl2⟩
  obtain ⟨d, hd⟩ : ∃ d, faceOf f = d := ⟨_, rfl⟩
  have hdm : f.module = d.module := by rw [← hd]; rfl
  have hWd := HW.out
  rw [hd] at hl2 hWd
  have hdl : d.items.length ≤ 60 := by rw [← hd]; show (f.items.map itmOf).length ≤ 60; rw [List.length_map]; exact hi60
  replace acc := acc.trans r2
  replace bF := bF.wr0 r2
  obtain ⟨⟨D1, j1, e1, _, _⟩, ⟨D2, j2, e2, _, _⟩, ⟨D3, j3, e3, _, _⟩⟩ := hl2.forms
  have hv : (faceOf f).val (.slice A1 f.uses.length k1) (.slice A2 f.types.length k2) vi2 = .agg #[.string d.module, .slice A1 f.uses.length k1, .slice A2 f.types.length k2, vi2] := by rw [hd]; rfl
  subst e3
  rw [hv]
  clear r2 hv
  obtain ⟨w3, hw3⟩ : ∃ q, w2.alloc (.cells #[.string d.module, .slice A1 f.uses.length k1, .slice A2 f.types.length k2, .slice D3 d.items.length j3] 39) = q := ⟨_, rfl⟩
  obtain ⟨gi, hgi⟩ : ∃ q, w2.heap.size = q := ⟨_, rfl⟩
  have hggi : g < gi := by rw [← hgi]; exact bF.lt
  have r3 : Wr [] w2 w3 := by rw [← hw3]; exact (Wr.refl _ _).alloc _
  have bI : Blk w3 gi 39 #[.string d.module, .slice A1 f.uses.length k1, .slice A2 f.types.length k2, .slice D3 d.items.length j3] := by rw [← hw3, ← hgi]; exact Blk.new _ _ _
  have hki := keyIface_any d _ _ _ _ w3 (hl2.wr0 r3) hWd
  have HKI := Lib.hid hki
  have HL2 := Lib.hid ((hl2.into (Q := fun b => b < gi) (fun b _ hb => by rw [hgi] at hb; exact hb)).wr0 r3)
  have HWD := Lib.hid hWd
  have HD := Lib.hid hd
  have HDM := Lib.hid hdm
  have HDL := Lib.hid hdl
  have HW3 := Lib.hid hw3
  have HGI := Lib.hid hgi
  replace acc := acc.trans r3
  replace bF := bF.wr0 r3
  have hwgi : w.heap.size ≤ gi := by have := Hg.out; omega
  clear hki hl2 hWd hd hdm hdl hw3 hgi r3 c0 c1 c2 c3 e1 e2
  go_upto_region 4 with (fail)
  rw [HW3.out, HGI.out]
  have c0 := bI.cell 0
  have c1 := bI.cell 1
  have c2 := bI.cell 2
  have c3 := bI.cell 3
  simp only [List.getElem?_toArray, List.getElem?_cons_zero, List.getElem?_cons_succ] at c0 c1 c2 c3
  obtain ⟨kp, hkp⟩ : ∃ q, keyP d = q := ⟨_, rfl⟩
  rw [hkp] at HKI
  obtain ⟨K, E⟩ := kp
  by_cases hm : mayP d = 0
  · have hko := key_ok hm
    rw [hkp] at hko
    injection hko with hK hE
    subst hE
    have HM := Lib.hid hm
    have HKP := Lib.hid hkp
    have HK := Lib.hid hK
    clear hm hkp hK
    go_wp2_with fail
    refine HKI.out.mono ?_
    rintro e w4 ⟨rfl, r4⟩
    replace acc := acc.trans r4
    replace bF := bF.wr0 r4
    replace bI := bI.wr0 r4
    have hcan := canon_any d _ _ _ _ w4 (HL2.out.wr0 r4)
    have hcp : canonP d = (canonF d, 0) := by unfold canonP; rw [if_pos HM.out]
    unfold CanonR at hcan
    rw [hcp] at hcan
    have HCAN := Lib.hid hcan
    replace HL2 := Lib.hid (HL2.out.wr0 r4)
    clear hcan hcp r4 c0 c1 c2 c3 HKI
    have c0 := bI.cell 0
    have c1 := bI.cell 1
    have c2 := bI.cell 2
    have c3 := bI.cell 3
    simp only [List.getElem?_toArray, List.getElem?_cons_zero, List.getElem?_cons_succ] at c0 c1 c2 c3
    go_wp2_with fail
    refine HCAN.out.mono ?_
    rintro e w5 ⟨cu, ct, ci, rfl, r5, hcl⟩
    replace acc := acc.trans r5
    replace bF := bF.wr0 r5
    replace bI := bI.wr0 r5
    replace HL2 := Lib.hid (HL2.out.wr0 r5)
    obtain ⟨c, hc⟩ : ∃ c, canonF d = c := ⟨_, rfl⟩
    have hWc := faceW_canon HWD.out HM.out
    have hcm := canon_may HM.out
    have hct := key_twice HM.out
    have hcml : c.items.length ≤ 60 := by rw [← hc]; show (d.items.map (anewI (ordOf d))).length ≤ 60; rw [List.length_map]; exact HDL.out
    have hroom := face_room (face_parts hcm).1
    rw [hc] at hcl hWc hcm hct hroom
    rw [HKP.out] at hct
    have hK2 := HK.out
    rw [hc] at hK2
    obtain ⟨⟨C1, n1, rfl, _, _⟩, ⟨C2, n2, rfl, _, _⟩, ⟨C3, n3, rfl, _, _⟩⟩ := hcl.forms
    have hv : (canonF d, (0 : Int)).1.val (.slice C1 c.uses.length n1) (.slice C2 c.types.length n2) (.slice C3 c.items.length n3) = .agg #[.string c.module, .slice C1 c.uses.length n1, .slice C2 c.types.length n2, .slice C3 c.items.length n3] := by rw [hc]; rfl
    simp only [hv]
    clear hv r5 c0 c1 c2 c3
    obtain ⟨w6, hw6⟩ : ∃ q, w5.alloc (.cells #[.string c.module, .slice C1 c.uses.length n1, .slice C2 c.types.length n2, .slice C3 c.items.length n3] 39) = q := ⟨_, rfl⟩
    obtain ⟨gc, hgc⟩ : ∃ q, w5.heap.size = q := ⟨_, rfl⟩
    have hgic : gi < gc := by rw [← hgc]; exact bI.lt
    have r6 : Wr [] w5 w6 := by rw [← hw6]; exact (Wr.refl _ _).alloc _
    have bC : Blk w6 gc 39 #[.string c.module, .slice C1 c.uses.length n1, .slice C2 c.types.length n2, .slice C3 c.items.length n3] := by rw [← hw6, ← hgc]; exact Blk.new _ _ _
    replace acc := acc.trans r6
    replace bF := bF.wr0 r6
    replace bI := bI.wr0 r6
    replace HL2 := Lib.hid (HL2.out.wr0 r6)
    have hcl6 := hcl.wr0 r6
    have henc := fun W (hWr : Wr [] w6 W) => encode_any c _ _ _ _ hWc W (hcl6.wr0 hWr)
    unfold EncodeR at henc
    rw [show encFaceP c = (faceL c, 0) by unfold encFaceP; rw [if_pos hcm]] at henc
    have hkey2 := fun W (hWr : Wr [] w6 W) => keyIface_any c _ _ _ _ W (hcl6.wr0 hWr) hWc
    rw [hct] at hkey2
    have hsame := fun W (hWr : Wr [] w6 W) => lawSame_any c c _ _ _ _ _ _ _ _ W (hcl6.wr0 hWr) (hcl6.wr0 hWr) hWc hWc (by omega) (by omega)
    rw [eqB_true (rfl : facePl c = facePl c)] at hsame
    have hkof := fun W => of_any ⟨(faceL c).toArray⟩ (by show (faceL c).toArray.size ≤ _; unfold maxLen; simp; omega) W
    unfold keyN at hK2
    simp only [← hK2] at hkof
    generalize (⟨(faceL c).toArray⟩ : ByteArray) = bs at *
    have HENC := Lib.hid henc
    have HKEY2 := Lib.hid hkey2
    have HSAME := Lib.hid hsame
    have HKOF := Lib.hid hkof
    have HW6 := Lib.hid hw6
    have HGC := Lib.hid hgc
    clear henc hkey2 hsame hkof hw6 hgc r6 hcl hcl6 hWc hcm hct hcml hroom hK2 hc HK HCAN
    go_upto_region 8 with (fail)
    rw [HW6.out, HGC.out]
    have c0 := bC.cell 0
    have c1 := bC.cell 1
    have c2 := bC.cell 2
    have c3 := bC.cell 3
    simp only [List.getElem?_toArray, List.getElem?_cons_zero, List.getElem?_cons_succ] at c0 c1 c2 c3
    go_wp2_with fail
    refine (HENC.out _ (Wr.refl _ _)).mono ?_
    rintro e w7 ⟨rfl, r7⟩
    have R7 := Lib.hid r7
    clear r7 c0 c1 c2 c3
    have bC7 := bC.wr0 R7.out
    have c0 := bC7.cell 0
    have c1 := bC7.cell 1
    have c2 := bC7.cell 2
    have c3 := bC7.cell 3
    simp only [List.getElem?_toArray, List.getElem?_cons_zero, List.getElem?_cons_succ] at c0 c1 c2 c3
    go_wp2_with fail
    refine (HKEY2.out _ R7.out).mono ?_
    rintro e w8 ⟨rfl, r8⟩
    have R8 := Lib.hid (R7.out.trans r8)
    clear r8 c0 c1 c2 c3 bC7
    have bC8 := bC.wr0 R8.out
    have c0 := bC8.cell 0
    have c1 := bC8.cell 1
    have c2 := bC8.cell 2
    have c3 := bC8.cell 3
    simp only [List.getElem?_toArray, List.getElem?_cons_zero, List.getElem?_cons_succ] at c0 c1 c2 c3
    have iKK : ((K : Int) == (K : Int)) = true := by simp
    go_wp2_with fail
    refine (HKOF.out _).mono ?_
    rintro e w9 ⟨rfl, rfl⟩
    go_wp2_with fail
    refine (HSAME.out _ R8.out).mono ?_
    rintro e w9 ⟨rfl, r9⟩
    have R9 := Lib.hid (R8.out.trans r9)
    clear r9 c0 c1 c2 c3 bC8 iKK
    replace acc := acc.trans R9.out
    replace bF := bF.wr0 R9.out
    replace bI := bI.wr0 R9.out
    replace HL2 := Lib.hid (HL2.out.wr0 R9.out)
    have f0 := bF.cell 0
    simp only [List.getElem?_toArray, List.getElem?_cons_zero] at f0
    by_cases hz : f.module.size = 0
    · have e0 : ((f.module.size : Int) == 0) = true := by simp [hz]
      go_wp2_with fail
      refine (HAL.out _).mono ?_
      rintro e w10 ⟨rfl, r10⟩
      go_wp2_with fail
      go_ret
      exact ⟨rfl, acc.trans r10⟩
    · have hz0 : 0 < d.module.size := by have := HDM.out; rw [← this]; omega
      have hms : d.module.size ≤ maxLen := by rw [← HDM.out]; exact HMS.out
      unfold maxLen at hms
      have hby := HBY.out
      rw [HDM.out] at f0 hz ⊢
      have e0 : ((d.module.size : Int) == 0) = false := by simp only [beq_eq_false_iff_ne, ne_eq]; omega
      have e1 : ¬(d.module.size : Int) = 0 := by omega
      have hk1 : (0 : Int) < (d.module.size : Int) := by omega
      have hxl : (d.module.data[0]'hz0).toNat < 256 := (d.module.data[0]'hz0).toNat_lt
      have hxx := xor8 (d.module.data[0]'hz0).toNat byN hxl hby
      have hyl : (d.module.data[0]'hz0).toNat ^^^ byN < 256 := Nat.xor_lt_two_pow (n := 8) (by omega) (by omega)
      obtain ⟨l, hl⟩ : ∃ l : List UInt8, l = d.module.data.toList.set 0 (UInt8.ofNat ((d.module.data[0]'hz0).toNat ^^^ byN)) := ⟨_, rfl⟩
      have hll : l.length = d.module.size := by rw [hl, List.length_set, Array.length_toList]; rfl
      obtain ⟨K', hk', hkk⟩ := key_mod d HM.out hz0 byN hby l hl
      rw [HKP.out] at hkk
      have hb0 : ((byN : Int) == 0) = decide (byN = 0) := by
        rw [Bool.eq_iff_iff]
        simp only [beq_iff_eq, decide_eq_true_eq]
        omega
      have hMd := HM.out
      have hWd := HWD.out
      have hconv := run_bytes_of_string (P := Try.prog) w9 9 28 5 d.module Try.underlying9 Try.underlying28 Try.underlying5
      obtain ⟨cap, hcap⟩ : ∃ cap, grownCap w9 d.module.size 0 5 = cap := ⟨_, rfl⟩
      rw [hcap] at hconv
      obtain ⟨w10, hw10⟩ : ∃ q, (w9.drew.alloc (.cells (bytesRow d.module cap) 5 ((bytesRow d.module cap).size, (bytesRow d.module cap).size + 1))) = q := ⟨_, rfl⟩
      have hcell : ∀ j (hj : j < d.module.data.size), w10.cell? ⟨w9.heap.size, j, none⟩ = some (.int .u8 ((d.module.data[j]'hj).toNat : Int)) := fun j hj => by
        rw [← hw10]
        exact (World.cell?_alloc_mark w9.drew _ _ _ j).trans (bytesRow_at d.module cap j hj)
      have hfroz : ∀ j, j < d.module.data.size → w10.frozen? ⟨w9.heap.size, j, none⟩ = false := fun j hj => by
        rw [← hw10]
        refine (World.frozen?_alloc_mark w9.drew _ _ _ _ j).trans ?_
        have : ¬(bytesRow d.module cap).size ≤ j := by
          have h3 : d.module.data.size ≤ (bytesRow d.module cap).size := by simp [bytesRow]
          omega
        simp [this]
      have r10 : Wr [] w9 w10 := by rw [← hw10]; exact ((Wr.refl [] w9).drew).alloc _
      rw [hw10] at hconv
      have c0 := hcell 0 hz0
      have z0 := hfroz 0 hz0
      have hgz : w9.heap.size < w10.heap.size := World.block_lt_of_cell? w10 _ c0
      have hgi9 : gi < w9.heap.size := bI.lt
      obtain ⟨g2, hg2⟩ : ∃ q, w9.heap.size = q := ⟨_, rfl⟩
      rw [hg2] at hgi9 hgz hcell hfroz hconv c0 z0
      obtain ⟨w11, hw11⟩ : ∃ q, w10.setCell ⟨g2, 0, none⟩ (.int .u8 (((d.module.data[0]'hz0).toNat ^^^ byN : Nat) : Int)) = q := ⟨_, rfl⟩
      have hback : (convert 28 9 (.slice (some ⟨g2, 0, none⟩) d.module.size cap)).run Try.prog w11 = .ok (.string ⟨l.toArray⟩) w11 := by
        have := run_convert_bytes_back (P := Try.prog) w11 28 9 5 ⟨g2, 0, none⟩ cap l Try.underlying28 Try.underlying5 Try.underlying9 (fun j hj => by
          rw [show (⟨g2, 0, none⟩ : Addr).add j = ⟨g2, j, none⟩ by simp [Addr.add]; exact fun e => e.symm, ← hw11]
          have hjs : j < d.module.data.size := by rw [hll] at hj; exact hj
          by_cases hjk : 0 = j
          · subst hjk
            rw [World.cell?_setCell_same' _ _ _ (by rw [c0]; rfl)]
            simp only [hl, List.getElem_set_self]
            rw [UInt8.toNat_ofNat', Nat.mod_eq_of_lt hyl]
          · rw [World.cell?_setCell_other _ _ _ _ (by simp only [ne_eq, Addr.mk.injEq, true_and, and_true]; exact hjk), hcell j hjs]
            simp only [hl, List.getElem_set_ne hjk, Array.getElem_toList])
        rw [hll] at this
        exact this
      have r11 : Wr [] w9 w11 := by
        rw [← hw11]
        exact r10.new ((Wr.refl [g2] w10).setOn (by simp) _) (by omega)
      replace bI := bI.wr0 r11
      have hHL : FaceL w11 (fun b => b < gi) (.slice A1 f.uses.length k1) (.slice A2 f.types.length k2) (.slice D3 d.items.length j3) d := HL2.out.wr0 r11
      obtain ⟨w12, hw12⟩ : ∃ q, w11.setCell ⟨gi, 0, none⟩ (.string ⟨l.toArray⟩) = q := ⟨_, rfl⟩
      have bJ : Blk w12 gi 39 #[.string ⟨l.toArray⟩, .slice A1 f.uses.length k1, .slice A2 f.types.length k2, .slice D3 d.items.length j3] := by rw [← hw12]; exact bI.set_ 0 _
      have r12 : Wr [gi] w11 w12 := by rw [← hw12]; exact (Wr.refl _ _).setOn (by simp) _
      have hHL2 := hHL.keep r12 (fun b (hb : b < gi) => by simp only [List.mem_singleton]; omega)
      replace acc := (acc.trans r11).new r12 hwgi
      have hky := keyIface_any { d with module := ⟨l.toArray⟩ } _ _ _ _ w12 ⟨hHL2.uses, hHL2.types, hHL2.items⟩ ⟨hWd.keys, hWd.kinds, hWd.sorts, hWd.vals⟩
      rw [hk'] at hky
      have hix := bI.cell 0
      have hiz := bI.frozen 0
      simp only [List.getElem?_toArray, List.getElem?_cons_zero] at hix
      have HKY := Lib.hid hky
      have HW12 := Lib.hid hw12
      have HBJ := Lib.hid bJ
      clear hky hw12 bJ hHL hHL2 r12 r11 r10 hcell hfroz hk' hMd hWd HKP HM HWD HL2 hgz hll hyl hl hw10 bI bF
      generalize decide (byN = 0) = r at *
      have hgg2 : g2 ≠ gi := by omega
      go_upto_region 15 with (fail)
      try rw [hg2]
      go_upto_region 16 with (fail)
      try rw [hw11]
      clear hw11 c0 z0 hconv f0
      go_upto_region 17 with (fail)
      rw [HW12.out]
      clear hback hix hiz
      have bJ := HBJ.out
      have c0 := bJ.cell 0
      have c1 := bJ.cell 1
      have c2 := bJ.cell 2
      have c3 := bJ.cell 3
      simp only [List.getElem?_toArray, List.getElem?_cons_zero, List.getElem?_cons_succ] at c0 c1 c2 c3
      go_wp2_with fail
      refine HKY.out.mono ?_
      rintro e w13 ⟨rfl, r13⟩
      clear c0 c1 c2 c3 bJ
      have hrr : (r == r) = true := by cases r <;> rfl
      go_wp2_with fail
      refine (HAL.out _).mono ?_
      rintro e w14 ⟨rfl, r14⟩
      go_wp2_with fail
      go_ret
      exact ⟨rfl, (acc.trans r13).trans r14⟩
  · have hko : keyP d = (0, mayP d) := by unfold keyP; rw [if_neg hm]
    rw [hkp] at hko
    injection hko with hK hE
    subst hK hE
    have he : mayP d ≠ 0 := hm
    generalize mayP d = mv at *
    clear hm hkp
    go_wp2_with fail
    refine HKI.out.mono ?_
    rintro e w4 ⟨rfl, r4⟩
    replace acc := acc.trans r4
    clear c0 c1 c2 c3
    go_wp2_with fail
    refine (HAL.out _).mono ?_
    rintro e w5 ⟨rfl, r5⟩
    go_wp2_with fail
    go_ret
    exact ⟨rfl, acc.trans r5⟩
end Go.Proofs.Ytjanbpchedgoiaa
