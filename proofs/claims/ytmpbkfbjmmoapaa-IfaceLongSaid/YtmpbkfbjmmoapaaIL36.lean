/- IfaceLong: walked. Conditions: the number is of its kind. -/
import Derived.Test.YtmpbkfbjmmoapaaIL03
import Derived.Test.YtmpbkfbjmmoapaaIL35
namespace Go.Proofs.Ytmpbkfbjmmoapaa
open Go.RowKit
set_option linter.unusedVariables false
set_option linter.unusedSimpArgs false
/-- At the head of a round: so many items are there. -/
def LongB (ws : World) (bx gt k : Nat) (wr : World) : Prop :=
  ∃ v, Wr [] ws wr ∧ Blk wr bx 31 #[.string ⟨#[77]⟩, .slice none 0 0, .slice (some ⟨gt, 0, none⟩) 3 3, v] ∧ Blk wr gt 56 tyL3.toArray ∧ wr.ownsRow ws.heap.size 44 5 v k ((itmsN k).flatMap ItmD.cells) ∧ bx ∉ ownL v ∧ gt ∉ ownL v
/-- At the head of a round: so many uses are there. -/
def LongC (ws : World) (bx gt gi k : Nat) (wr : World) : Prop :=
  ∃ v, Wr [] ws wr ∧ Blk wr bx 31 #[.string ⟨#[77]⟩, v, .slice (some ⟨gt, 0, none⟩) 3 3, .slice (some ⟨gi, 0, none⟩) 2 2] ∧ SmallM wr gt gi ∧ wr.ownsRow ws.heap.size 47 2 v k (((List.range k).map useN).flatMap UseD.cellsF) ∧ bx ∉ ownL v ∧ gt ∉ ownL v ∧ gi ∉ ownL v
theorem lTys_bare : ∀ t ∈ lTys, t.names = [] ∧ t.fields = [] ∧ t.arms = [] ∧ t.params = [] := by
  intro t ht
  simp only [lTys, List.mem_cons, List.not_mem_nil, or_false] at ht
  rcases ht with rfl | rfl | rfl <;> exact ⟨rfl, rfl, rfl, rfl⟩
theorem flat_rep {α β : Type} (f : α → List β) (t : α) (n : Nat) : (List.replicate n t).flatMap f = (List.replicate n (f t)).flatten := by
  induction n with
  | zero => rfl
  | succ n ih => rw [List.replicate_succ, List.replicate_succ, List.flatMap_cons, List.flatten_cons, ih]
theorem tmod_3 (over : Int) : ∃ k : Nat, k ≤ 4 ∧ over.tmod 3 = (k : Int) - 2 := by
  have h := Int.natAbs_tmod over 3
  have h2 := Nat.mod_lt over.natAbs (show 0 < (3 : Int).natAbs by decide)
  have h3 : (3 : Int).natAbs = 3 := rfl
  exact ⟨(over.tmod 3 + 2).toNat, by omega, by omega⟩
theorem tmod_8 (over : Int) : ∃ k : Nat, k ≤ 14 ∧ over.tmod 8 = (k : Int) - 7 := by
  have h := Int.natAbs_tmod over 8
  have h2 := Nat.mod_lt over.natAbs (show 0 < (8 : Int).natAbs by decide)
  have h3 : (8 : Int).natAbs = 8 := rfl
  exact ⟨(over.tmod 8 + 7).toNat, by omega, by omega⟩
theorem name_items (k : Nat) : (⟨#[120]⟩ : ByteArray) ++ ⟨#[UInt8.ofNat (97 + (k : Int) % 26).toNat, UInt8.ofNat (97 + (k : Int) / 26 % 26).toNat]⟩ = xname (97 + k % 26) (97 + k / 26 % 26) := by
  rw [show (97 + (k : Int) % 26).toNat = 97 + k % 26 by omega, show (97 + (k : Int) / 26 % 26).toNat = 97 + k / 26 % 26 by omega]
  exact x_eq (97 + k % 26) (97 + k / 26 % 26) (by omega) (by omega)
theorem name_uses (k : Nat) (h : k ≤ 100) : (⟨#[120]⟩ : ByteArray) ++ ⟨#[UInt8.ofNat (97 + (k : Int) % 26).toNat, UInt8.ofNat (97 + (k : Int) / 26).toNat]⟩ = xname (97 + k % 26) (97 + k / 26) := by
  rw [show (97 + (k : Int) % 26).toNat = 97 + k % 26 by omega, show (97 + (k : Int) / 26).toNat = 97 + k / 26 by omega]
  exact x_eq (97 + k % 26) (97 + k / 26) (by omega) (by omega)
set_option maxRecDepth 100000 in
set_option maxHeartbeats 16000000 in
theorem ifaceLong_any (over : Int) (ho : -128 ≤ over ∧ over ≤ 127) (w : World) : Calls Try.prog 4 #[.int .i8 over] w (TrueR w) := by
  have HAL := Lib.hid alive14
  have HS := Lib.hid small14_any
  obtain ⟨n3, hn3, hx3⟩ := tmod_3 over
  obtain ⟨n8, hn8, hx8⟩ := tmod_8 over
  obtain ⟨NA, hNA⟩ : ∃ N : Nat, N = 253 + n3 := ⟨_, rfl⟩
  obtain ⟨NB, hNB⟩ : ∃ N : Nat, (N : Int) = 512 + over := ⟨(512 + over).toNat, by omega⟩
  obtain ⟨NC, hNC⟩ : ∃ N : Nat, N = 57 + n8 := ⟨_, rfl⟩
  obtain ⟨ND, hND⟩ : ∃ N : Nat, (N : Int) = 1021 + over := ⟨(1021 + over).toNat, by omega⟩
  have eA : 255 + over.tmod 3 = (NA : Int) := by omega
  have eC : 64 + over.tmod 8 = (NC : Int) := by omega
  have w3 : IntKind.i64.wrap (over.tmod 3) = over.tmod 3 := by rw [IntKind.wrap_i64, hx3]; omega
  have w8 : IntKind.i64.wrap (over.tmod 8) = over.tmod 8 := by rw [IntKind.wrap_i64, hx8]; omega
  have v3 : IntKind.i8.wrap (over.tmod 3) = over.tmod 3 := by rw [hx3]; exact (by decide : ∀ k : Fin 5, IntKind.i8.wrap ((k.val : Int) - 2) = (k.val : Int) - 2) ⟨n3, by omega⟩
  have v8 : IntKind.i8.wrap (over.tmod 8) = over.tmod 8 := by rw [hx8]; exact (by decide : ∀ k : Fin 15, IntKind.i8.wrap ((k.val : Int) - 7) = (k.val : Int) - 7) ⟨n8, by omega⟩
  have b1 : -2 ≤ over.tmod 3 := by omega
  have b2 : over.tmod 3 ≤ 2 := by omega
  have b3 : -7 ≤ over.tmod 8 := by omega
  have b4 : over.tmod 8 ≤ 7 := by omega
  obtain ⟨ho1, ho2⟩ := ho
  have HX3 := Lib.hid hx3
  have HX8 := Lib.hid hx8
  have HNA := Lib.hid hNA
  have HNC := Lib.hid hNC
  clear hx3 hx8 hNA hNC
  have hmk := fun W => made_bytes NA (by omega) W
  obtain ⟨w1, hw1⟩ : ∃ q, w.alloc (.cells (madeCells #[.int .u8 0] NA) 5) = q := ⟨_, rfl⟩
  have r1 : Wr [] w w1 := by rw [← hw1]; exact (Wr.refl _ _).alloc _
  have hcv := conv_zeros NA (w.alloc (.cells (madeCells #[.int .u8 0] NA) 5)) w.heap.size (Blk.new _ _ _)
  have R1 := Lib.hid r1
  have HW1 := Lib.hid hw1
  clear r1 hw1
  go_enter Try.func4, Try.ntmps4
  go_upto_region 2 with (fail)
  rw [HW1.out]
  clear hcv hmk
  go_wp2_with fail
  refine (HS.out _).mono ?_
  rintro e w2 ⟨gt, gi, rfl, r2, lgt, lgi, ngt, bgt, bgi⟩
  have lgt' := bgt.lt
  have lgi' := bgi.lt
  go_upto_region 3 with (fail)
  obtain ⟨g4, hg4⟩ : ∃ q, w2.heap.size = q := ⟨_, rfl⟩
  obtain ⟨wA, hwA⟩ : ∃ q, w2.alloc (.cells #[.string ⟨#[77]⟩, .slice none 0 0, .slice (some ⟨gt, 0, none⟩) 3 3, .slice (some ⟨gi, 0, none⟩) 2 2] 31) = q := ⟨_, rfl⟩
  have r0 : Wr [] w2 wA := by rw [← hwA]; exact (Wr.refl _ _).alloc _
  have x4 : Blk wA g4 31 #[.string ⟨#[77]⟩, .slice none 0 0, .slice (some ⟨gt, 0, none⟩) 3 3, .slice (some ⟨gi, 0, none⟩) 2 2] := by rw [← hwA, ← hg4]; exact Blk.new _ _ _
  rw [hwA, hg4]
  have c0 := x4.cell 0
  have f0 := x4.frozen 0
  simp only [List.getElem?_toArray, List.getElem?_cons_zero] at c0
  obtain ⟨w4, hw4⟩ : ∃ q, wA.setCell ⟨g4, 0, none⟩ (.string (zerosB NA)) = q := ⟨_, rfl⟩
  have rw4 : Wr [g4] wA w4 := by rw [← hw4]; exact (Wr.refl _ _).setOn (by simp) _
  have x4b : Blk w4 g4 31 #[.string (zerosB NA), .slice none 0 0, .slice (some ⟨gt, 0, none⟩) 3 3, .slice (some ⟨gi, 0, none⟩) 2 2] := by
    rw [← hw4]
    have := x4.set_ 0 (.string (zerosB NA))
    simpa using this
  have m4 : SmallM w4 gt gi := ⟨(bgt.wr0 r0).wr rw4 (by simp; omega), (bgi.wr0 r0).wr rw4 (by simp; omega)⟩
  have R4 := Lib.hid (((R1.out.trans r2).trans r0).new rw4 (by have := R1.out.size; have := r2.size; omega))
  have HW4 := Lib.hid hw4
  have X4 := Lib.hid x4b
  have M4 := Lib.hid m4
  clear hw4 x4b m4 rw4 r0 r2 bgt bgi lgt lgi ngt lgt' lgi' x4 hg4 hwA
  go_upto_region 4 with (fail)
  rw [HW4.out]
  clear c0 f0
  go_wp2_with fail
  refine (HS.out _).mono ?_
  rintro e w5 ⟨gt5, gi5, rfl, r5, lgt5, lgi5, ngt5, bgt5, bgi5⟩
  have lgt5' := bgt5.lt
  have lgi5' := bgi5.lt
  go_upto_region 5 with (fail)
  obtain ⟨g5, hg5⟩ : ∃ q, w5.heap.size = q := ⟨_, rfl⟩
  obtain ⟨w6, hw6⟩ : ∃ q, w5.alloc (.cells #[.string ⟨#[77]⟩, .slice none 0 0, .slice (some ⟨gt5, 0, none⟩) 3 3, .slice (some ⟨gi5, 0, none⟩) 2 2] 31) = q := ⟨_, rfl⟩
  have r0 : Wr [] w5 w6 := by rw [← hw6]; exact (Wr.refl _ _).alloc _
  have x5 : Blk w6 g5 31 #[.string ⟨#[77]⟩, .slice none 0 0, .slice (some ⟨gt5, 0, none⟩) 3 3, .slice (some ⟨gi5, 0, none⟩) 2 2] := by rw [← hw6, ← hg5]; exact Blk.new _ _ _
  rw [hw6, hg5]
  have c3 := x5.cell 3
  simp only [List.getElem?_toArray, List.getElem?_cons_zero, List.getElem?_cons_succ] at c3
  have hat : LongB w4 g5 gt5 2 w6 := by
    refine ⟨.slice (some ⟨gi5, 0, none⟩) 2 2, r5.trans r0, x5, bgt5.wr0 r0, ?_, fun hm => ?_, fun hm => ?_⟩
    · exact own_blk (xs := itL2) (bgi5.wr0 r0) rfl lgi5 (by unfold maxLen; omega)
    · have h : gi5 = g5 := by simpa [Value.ownBlock] using mem_ownL.1 hm
      omega
    · have h : gi5 = gt5 := by simpa [Value.ownBlock] using mem_ownL.1 hm
      exact ngt5 h.symm
  have hg5w : w4.heap.size ≤ g5 := by have := r5.size; omega
  have HAT := Lib.hid hat
  have G5 := Lib.hid (show w4.heap.size ≤ g5 ∧ w4.heap.size ≤ gt5 ∧ g5 ≠ gt5 from ⟨hg5w, lgt5, by omega⟩)
  clear hat r5 r0 x5 bgt5 bgi5 lgt5 lgi5 ngt5 lgt5' lgi5' hg5 hw6 hg5w
  have wov : IntKind.i64.wrap over = over := by rw [IntKind.wrap_i64]; omega
  go_wp2_with fail
  clear c3
  go_loopw [6] (fun s wr => ∃ k : Nat, 2 ≤ k ∧ k ≤ NB ∧ s = .int .i64 k ∧ LongB w4 g5 gt5 k wr) (fun s _ => NB - (intOf s).toNat)
  case atStart => exact ⟨2, by omega, by omega, rfl, HAT.out⟩
  case round =>
    obtain ⟨k, hk1, hk2, rfl, v, rk, bx, bt, ow, nx, nt⟩ := hrel
    obtain ⟨Av, cv, hv, _, _⟩ := own_form ow
    subst hv
    obtain ⟨wo, rfl⟩ : ∃ wo : World, wo = wr := ⟨_, rfl⟩
    by_cases hlt : k < NB
    · have hlti : (k : Int) < 512 + over := by omega
      have hk0 : (0 : Int) ≤ (k : Int) := by omega
      have hsz := rk.size
      have hg := G5.out
      obtain ⟨i0, hi0, hz0, hz1, hz2⟩ := info_parts info_exp
      obtain ⟨z, hz⟩ : ∃ z, wo.heap.size = z := ⟨_, rfl⟩
      have hcv := conv_two14 (wo.alloc (.cells #[.int .u8 (97 + (k : Int) % 26), .int .u8 (97 + (k : Int) / 26 % 26)] 5)) wo.heap.size (97 + (k : Int) % 26) (97 + (k : Int) / 26 % 26) (by simp) (by simp)
      have hname := name_items k
      obtain ⟨nm, hnm⟩ : ∃ nm : ByteArray, (⟨#[UInt8.ofNat (97 + (k : Int) % 26).toNat, UInt8.ofNat (97 + (k : Int) / 26 % 26).toNat]⟩ : ByteArray) = nm := ⟨_, rfl⟩
      have hn2 : nm.size ≤ 2 := by rw [← hnm]; exact Nat.le_refl _
      rw [hnm] at hcv hname
      obtain ⟨XN, hxn⟩ : ∃ X, xname (97 + k % 26) (97 + k / 26 % 26) = X := ⟨_, rfl⟩
      obtain ⟨wa, hwa⟩ : ∃ q, wo.alloc (.cells #[.int .u8 (97 + (k : Int) % 26), .int .u8 (97 + (k : Int) / 26 % 26)] 5) = q := ⟨_, rfl⟩
      obtain ⟨wb, hwb⟩ : ∃ q, wa.alloc (.cells #[.string XN, .int .u8 0, .int .i64 0, .nilIface, .int .i64 0] 44) = q := ⟨_, rfl⟩
      have za : wa.heap.size = z + 1 := by rw [← hwa, World.size_alloc, hz]
      have rab : Wr [] wo wb := by rw [← hwb, ← hwa]; exact ((Wr.refl [] _).alloc _).alloc _
      have bb : Blk wb (z + 1) 44 #[.string XN, .int .u8 0, .int .i64 0, .nilIface, .int .i64 0] := by rw [← hwb, ← za]; exact Blk.new _ _ _
      have ho1 : ∀ u ∈ ([.string XN, .int .u8 0, .int .i64 0, .nilIface, .int .i64 0] : List Value), u.oneCell' = true := by
        intro u hu
        simp only [List.mem_cons, List.not_mem_nil, or_false] at hu
        rcases hu with rfl | rfl | rfl | rfl | rfl <;> rfl
      obtain ⟨A7, c7, w7, hrun, hown, hw7, hbk⟩ := push_own (t := 29) Try.underlying29 hi0 hz0 hz1 hz2 rfl (by decide) (own_keep ow rab (fun _ _ => by simp)) bb rfl ho1 (by omega) (by decide) (by have := rab.size; omega)
      have b7 := (bx.wr0 rab).wr hw7 nx
      obtain ⟨w8', hw8⟩ : ∃ q, w7.setCell ⟨g5, 3, none⟩ (.slice A7 (k + 1) c7) = q := ⟨_, rfl⟩
      have r8 : Wr [g5] w7 w8' := by rw [← hw8]; exact (Wr.refl _ _).setOn (by simp) _
      have hlow : ∀ q, q ∈ ownL (.slice Av k cv) → w4.heap.size ≤ q ∧ q < wo.heap.size := fun q hq => ow.lt q (mem_ownL.1 hq)
      have hfar : ∀ q, q < wo.heap.size → q ∉ ownL (.slice Av k cv) → q ∉ ownL (.slice A7 (k + 1) c7) := by
        intro q hq hn hm
        have h := mem_ownL.1 hm
        rcases hbk with e | e
        · exact hn (mem_ownL.2 (e ▸ h))
        · rw [e] at h
          injection h with h
          have := rab.size
          omega
      have hfin : LongB w4 g5 gt5 (k + 1) w8' := by
        refine ⟨.slice A7 (k + 1) c7, ((rk.trans rab).trans' hw7 (fun q hq => .inr (hlow q hq).1)).new r8 hg.1, ?_, ((bt.wr0 rab).wr hw7 nt).wr r8 (by simp; exact fun e => hg.2.2 e.symm), ?_, hfar _ bx.lt nx, hfar _ bt.lt nt⟩
        · rw [← hw8]
          have := b7.set_ 3 (.slice A7 (k + 1) c7)
          simpa using this
        · rw [itmsN_succ hk1, List.flatMap_append]
          have e : [itmN k].flatMap ItmD.cells = [.string XN, .int .u8 0, .int .i64 0, .nilIface, .int .i64 0] := by rw [← hxn]; rfl
          rw [e]
          exact own_keep hown r8 (fun q hq hm => by
            rw [List.mem_singleton] at hm
            subst hm
            exact hfar _ bx.lt nx (mem_ownL.2 hq))
      have m3 := bx.cell 3
      have g3 := b7.cell 3
      have f3 := b7.frozen 3
      simp only [List.getElem?_toArray, List.getElem?_cons_zero, List.getElem?_cons_succ] at m3 g3
      rw [hxn] at hname
      have HFIN := Lib.hid hfin
      have HZ := Lib.hid hz
      have HNM := Lib.hid hname
      have HWA := Lib.hid hwa
      have HWB := Lib.hid hwb
      have HW8 := Lib.hid hw8
      have HRUN := Lib.hid hrun
      clear hz hname hnm hwa hwb za rab bb ho1 hown hw7 hbk b7 hw8 r8 hlow hfar hfin hrun hxn rk bx bt ow nx nt hsz
      go_upto_region 7 with (at_builtin; rw [HZ.out, HNM.out, HWA.out, HWB.out]; refine wpList_append_run rfl _ _ _ rfl _ _ rfl rfl _ _ HRUN.out ?_)
      rw [HW8.out]
      clear hcv m3 g3 f3
      go_wp2_with fail
      go_roundw
      case rel => exact ⟨k + 1, by omega, by omega, by go_num, HFIN.out⟩
      case measure => simp [intOf]; omega
    · have hkx := Lib.hid (show k = NB by omega)
      have hkB : (k : Int) = 512 + over := by omega
      have hnl : ¬ (k : Int) < 512 + over := by omega
      have fb : FaceL wo (fun _ => True) (.slice none 0 0) (.slice (some ⟨gt5, 0, none⟩) 3 3) (.slice Av k cv) ⟨⟨#[77]⟩, [], lTys, itmsN k⟩ := by
        refine ⟨Sl.nil _ _ _, ?_, ?_⟩
        · exact tys14_sl (ts := lTys) (rest := #[]) (by rw [Array.append_empty]; exact bt) trivial lTys_bare (Nat.le_refl _) (by decide)
        · have := Sl.ofOwn ow (P := fun _ => True) (fun _ _ => trivial)
          unfold SlItms
          rw [itmsN_len hk1]
          exact this
      have FB := Lib.hid fb
      have XB := Lib.hid bx
      have RK := Lib.hid rk
      clear fb bx rk bt ow nx nt
      go_wp2_with fail
      refine (HS.out _).mono ?_
      rintro e w9 ⟨gt7, gi7, rfl, r9, lgt7, lgi7, ngt7, bgt7, bgi7⟩
      have lgt7' := bgt7.lt
      have lgi7' := bgi7.lt
      go_upto_region 10 with (fail)
      obtain ⟨g7, hg7⟩ : ∃ q, w9.heap.size = q := ⟨_, rfl⟩
      obtain ⟨w10, hw10⟩ : ∃ q, w9.alloc (.cells #[.string ⟨#[77]⟩, .slice none 0 0, .slice (some ⟨gt7, 0, none⟩) 3 3, .slice (some ⟨gi7, 0, none⟩) 2 2] 31) = q := ⟨_, rfl⟩
      have r0 : Wr [] w9 w10 := by rw [← hw10]; exact (Wr.refl _ _).alloc _
      have x7 : Blk w10 g7 31 #[.string ⟨#[77]⟩, .slice none 0 0, .slice (some ⟨gt7, 0, none⟩) 3 3, .slice (some ⟨gi7, 0, none⟩) 2 2] := by rw [← hw10, ← hg7]; exact Blk.new _ _ _
      rw [hw10, hg7]
      have hat : LongC wo g7 gt7 gi7 0 w10 := ⟨.slice none 0 0, r9.trans r0, x7, ⟨bgt7.wr0 r0, bgi7.wr0 r0⟩, World.ownsRow_nil _ _ _ _, by simp [ownL, Value.ownBlock], by simp [ownL, Value.ownBlock], by simp [ownL, Value.ownBlock]⟩
      have HAT2 := Lib.hid hat
      have G7 := Lib.hid (show wo.heap.size ≤ g7 ∧ g7 ≠ gt7 ∧ g7 ≠ gi7 from ⟨by have := r9.size; omega, by omega, by omega⟩)
      clear hat r9 r0 x7 bgt7 bgi7 lgt7 lgi7 ngt7 lgt7' lgi7' hg7 hw10
      go_wp2_with fail
      go_loopw [8] (fun s wr => ∃ k : Nat, k ≤ NC ∧ s = .int .i64 k ∧ LongC wo g7 gt7 gi7 k wr) (fun s _ => NC - (intOf s).toNat)
      case atStart => exact ⟨0, by omega, rfl, HAT2.out⟩
      case round =>
        obtain ⟨j, hj2, rfl, v, rj, cx, cm, ow, nx, nt, ni⟩ := hrel
        obtain ⟨Au, cu, hv, _, _⟩ := own_form ow
        subst hv
        obtain ⟨wq, rfl⟩ : ∃ wq : World, wq = wr := ⟨_, rfl⟩
        by_cases hlt : j < NC
        · have hlti : (j : Int) < (NC : Int) := by omega
          have hk0 : (0 : Int) ≤ (j : Int) := by omega
          have hsz := rj.size
          have hg := G7.out
          obtain ⟨i0, hi0, hz0, hz1, hz2⟩ := info_parts info_use
          obtain ⟨z, hz⟩ : ∃ z, wq.heap.size = z := ⟨_, rfl⟩
          have hcv := conv_two14 (wq.alloc (.cells #[.int .u8 (97 + (j : Int) % 26), .int .u8 (97 + (j : Int) / 26)] 5)) wq.heap.size (97 + (j : Int) % 26) (97 + (j : Int) / 26) (by simp) (by simp)
          have hname := name_uses j (by omega)
          obtain ⟨nm, hnm⟩ : ∃ nm : ByteArray, (⟨#[UInt8.ofNat (97 + (j : Int) % 26).toNat, UInt8.ofNat (97 + (j : Int) / 26).toNat]⟩ : ByteArray) = nm := ⟨_, rfl⟩
          have hn2 : nm.size ≤ 2 := by rw [← hnm]; exact Nat.le_refl _
          rw [hnm] at hcv hname
          obtain ⟨XN, hxn⟩ : ∃ X, xname (97 + j % 26) (97 + j / 26) = X := ⟨_, rfl⟩
          obtain ⟨wa, hwa⟩ : ∃ q, wq.alloc (.cells #[.int .u8 (97 + (j : Int) % 26), .int .u8 (97 + (j : Int) / 26)] 5) = q := ⟨_, rfl⟩
          obtain ⟨wb, hwb⟩ : ∃ q, wa.alloc (.cells #[.string XN, .int .u64 0] 47) = q := ⟨_, rfl⟩
          have za : wa.heap.size = z + 1 := by rw [← hwa, World.size_alloc, hz]
          have rab : Wr [] wq wb := by rw [← hwb, ← hwa]; exact ((Wr.refl [] _).alloc _).alloc _
          have bb : Blk wb (z + 1) 47 #[.string XN, .int .u64 0] := by rw [← hwb, ← za]; exact Blk.new _ _ _
          have ho1 : ∀ u ∈ ([.string XN, .int .u64 0] : List Value), u.oneCell' = true := by
            intro u hu
            simp only [List.mem_cons, List.not_mem_nil, or_false] at hu
            rcases hu with rfl | rfl <;> rfl
          obtain ⟨A7, c7, w7, hrun, hown, hw7, hbk⟩ := push_own (t := 22) Try.underlying22 hi0 hz0 hz1 hz2 rfl (by decide) (own_keep ow rab (fun _ _ => by simp)) bb rfl ho1 (by omega) (by decide) (by have := rab.size; omega)
          have b7 := (cx.wr0 rab).wr hw7 nx
          obtain ⟨w8', hw8⟩ : ∃ q, w7.setCell ⟨g7, 1, none⟩ (.slice A7 (j + 1) c7) = q := ⟨_, rfl⟩
          have r8 : Wr [g7] w7 w8' := by rw [← hw8]; exact (Wr.refl _ _).setOn (by simp) _
          have hlow : ∀ q, q ∈ ownL (.slice Au j cu) → wo.heap.size ≤ q ∧ q < wq.heap.size := fun q hq => ow.lt q (mem_ownL.1 hq)
          have hfar : ∀ q, q < wq.heap.size → q ∉ ownL (.slice Au j cu) → q ∉ ownL (.slice A7 (j + 1) c7) := by
            intro q hq hn hm
            have h := mem_ownL.1 hm
            rcases hbk with e | e
            · exact hn (mem_ownL.2 (e ▸ h))
            · rw [e] at h
              injection h with h
              have := rab.size
              omega
          have hfin : LongC wo g7 gt7 gi7 (j + 1) w8' := by
            refine ⟨.slice A7 (j + 1) c7, ((rj.trans rab).trans' hw7 (fun q hq => .inr (hlow q hq).1)).new r8 hg.1, ?_, ⟨((cm.t.wr0 rab).wr hw7 nt).wr r8 (by simp; exact fun e => hg.2.1 e.symm), ((cm.i.wr0 rab).wr hw7 ni).wr r8 (by simp; exact fun e => hg.2.2 e.symm)⟩, ?_, hfar _ cx.lt nx, hfar _ cm.t.lt nt, hfar _ cm.i.lt ni⟩
            · rw [← hw8]
              have := b7.set_ 1 (.slice A7 (j + 1) c7)
              simpa using this
            · rw [List.range_succ, List.map_append, List.flatMap_append]
              have e : ([j].map useN).flatMap UseD.cellsF = [.string XN, .int .u64 0] := by rw [← hxn]; rfl
              rw [e]
              exact own_keep hown r8 (fun q hq hm => by
                rw [List.mem_singleton] at hm
                subst hm
                exact hfar _ cx.lt nx (mem_ownL.2 hq))
          have m3 := cx.cell 1
          have g3 := b7.cell 1
          have f3 := b7.frozen 1
          simp only [List.getElem?_toArray, List.getElem?_cons_zero, List.getElem?_cons_succ] at m3 g3
          rw [hxn] at hname
          have HFIN := Lib.hid hfin
          have HZ := Lib.hid hz
          have HNM := Lib.hid hname
          have HWA := Lib.hid hwa
          have HWB := Lib.hid hwb
          have HW8 := Lib.hid hw8
          have HRUN := Lib.hid hrun
          clear hz hname hnm hwa hwb za rab bb ho1 hown hw7 hbk b7 hw8 r8 hlow hfar hfin hrun hxn rj cx cm ow nx nt ni hsz
          go_upto_region 12 with (at_builtin; rw [HZ.out, HNM.out, HWA.out, HWB.out]; refine wpList_append_run rfl _ _ _ rfl _ _ rfl rfl _ _ HRUN.out ?_)
          rw [HW8.out]
          clear hcv m3 g3 f3
          go_wp2_with fail
          go_roundw
          case rel => exact ⟨j + 1, by omega, by go_num, HFIN.out⟩
          case measure => simp [intOf]; omega
        · have hjN := Lib.hid (show j = NC by omega)
          have hnj : ¬ (j : Int) < (NC : Int) := by omega
          have fc : FaceL wq (fun _ => True) (.slice Au j cu) (.slice (some ⟨gt7, 0, none⟩) 3 3) (.slice (some ⟨gi7, 0, none⟩) 2 2) ⟨⟨#[77]⟩, (List.range j).map useN, lTys, lItms⟩ := by
            refine ⟨?_, ?_, blk_sl (xs := itL2) cm.i trivial rfl (by decide)⟩
            · have := Sl.ofOwn ow (P := fun _ => True) (fun _ _ => trivial)
              unfold SlUsesF
              rw [List.length_map, List.length_range]
              exact this
            · exact tys14_sl (ts := lTys) (rest := #[]) (by rw [Array.append_empty]; exact cm.t) trivial lTys_bare (Nat.le_refl _) (by decide)
          have FC := Lib.hid fc
          have XC := Lib.hid cx
          have RJ := Lib.hid rj
          clear fc cx rj cm ow nx nt ni
          go_wp2_with fail
          refine (HS.out _).mono ?_
          rintro e w14 ⟨gt9, gi9, rfl, r14, lgt9, lgi9, ngt9, bgt9, bgi9⟩
          have lgt9' := bgt9.lt
          have lgi9' := bgi9.lt
          go_upto_region 15 with (fail)
          obtain ⟨g9, hg9⟩ : ∃ q, w14.heap.size = q := ⟨_, rfl⟩
          obtain ⟨w15, hw15⟩ : ∃ q, w14.alloc (.cells #[.string ⟨#[77]⟩, .slice none 0 0, .slice (some ⟨gt9, 0, none⟩) 3 3, .slice (some ⟨gi9, 0, none⟩) 2 2] 31) = q := ⟨_, rfl⟩
          have r0 : Wr [] w14 w15 := by rw [← hw15]; exact (Wr.refl _ _).alloc _
          have x9 : Blk w15 g9 31 #[.string ⟨#[77]⟩, .slice none 0 0, .slice (some ⟨gt9, 0, none⟩) 3 3, .slice (some ⟨gi9, 0, none⟩) 2 2] := by rw [← hw15, ← hg9]; exact Blk.new _ _ _
          rw [hw15, hg9]
          have c2 := x9.cell 2
          simp only [List.getElem?_toArray, List.getElem?_cons_zero, List.getElem?_cons_succ] at c2
          obtain ⟨i1, hj1, hy0, hy1, hy2⟩ := info_parts info_typ
          have hrun := run_append_zeros (P := Try.prog) w15 23 3 23 56 i1 _ Try.underlying23 Try.underlying3 hj1 hy0 ⟨gt9, 0, none⟩ 3 3 tyL3 (by rw [hy1]; rfl) (fun q u hu => by
            rw [Addr.add_lit, Nat.zero_add, (bgt9.wr0 r0).cell, List.getElem?_toArray]
            exact hu) ND (by rw [hy1]; omega) (by rw [hy2]; omega) (by omega) (by omega) (by omega) (by rw [hy2]; unfold Builtin.nextslicecap; rw [if_pos (by omega)]; omega)
          have hge := grownCap_ge w15 (3 + ND) 3 56
          have hle := grownCap_le_maxLen w15 (3 + ND) 3 56 (by unfold maxLen; omega)
          obtain ⟨cap, hcap⟩ : ∃ c, grownCap w15 (3 + ND) 3 56 = c := ⟨_, rfl⟩
          rw [hcap] at hrun hge hle
          obtain ⟨ZR, hzr⟩ : ∃ Z, Builtin.zeroCells (Value.agg #[.int .u8 0, .string ⟨#[]⟩, .string ⟨#[]⟩, .int .i64 0, .int .i64 0, .int .i64 0, .int .i64 0, .slice none 0 0, .slice none 0 0, .slice none 0 0, .slice none 0 0, .int .i64 0]).cells (cap - (3 + ND)) = Z := ⟨_, rfl⟩
          have hcells : tyL3.toArray ++ Builtin.zeroCells (Value.agg #[.int .u8 0, .string ⟨#[]⟩, .string ⟨#[]⟩, .int .i64 0, .int .i64 0, .int .i64 0, .int .i64 0, .slice none 0 0, .slice none 0 0, .slice none 0 0, .slice none 0 0, .int .i64 0]).cells ND = ((lTys ++ List.replicate ND zeroTy).flatMap (fun t => t.cells (.slice none 0 0) (.slice none 0 0) (.slice none 0 0) (.slice none 0 0))).toArray := by
            apply Array.ext'
            rw [Array.toList_append, zero_cells, List.flatMap_append, flat_rep]
            rfl
          rw [hzr, hcells] at hrun
          obtain ⟨g10, hg10⟩ : ∃ q, w15.heap.size = q := ⟨_, rfl⟩
          obtain ⟨w16, hw16⟩ : ∃ q, w15.drew.alloc (.cells (((lTys ++ List.replicate ND zeroTy).flatMap (fun t => t.cells (.slice none 0 0) (.slice none 0 0) (.slice none 0 0) (.slice none 0 0))).toArray ++ ZR) 56) = q := ⟨_, rfl⟩
          have r16 : Wr [] w15 w16 := by rw [← hw16]; exact ((Wr.refl [] w15).drew).alloc _
          have bz : Blk w16 g10 56 (((lTys ++ List.replicate ND zeroTy).flatMap (fun t => t.cells (.slice none 0 0) (.slice none 0 0) (.slice none 0 0) (.slice none 0 0))).toArray ++ ZR) := by rw [← hw16, ← hg10]; exact Blk.new _ _ _
          rw [hw16, hg10, hND] at hrun
          have x9' := x9.wr0 r16
          have c2' := x9'.cell 2
          have f2' := x9'.frozen 2
          simp only [List.getElem?_toArray, List.getElem?_cons_zero, List.getElem?_cons_succ] at c2'
          obtain ⟨w17, hw17⟩ : ∃ q, w16.setCell ⟨g9, 2, none⟩ (.slice (some ⟨g10, 0, none⟩) (3 + ND) cap) = q := ⟨_, rfl⟩
          have rg : Wr [g9] w16 w17 := by rw [← hw17]; exact (Wr.refl _ _).setOn (by simp) _
          have hg9l : g9 < w15.heap.size := x9.lt
          have x17 : Blk w17 g9 31 #[.string ⟨#[77]⟩, .slice none 0 0, .slice (some ⟨g10, 0, none⟩) (3 + ND) cap, .slice (some ⟨gi9, 0, none⟩) 2 2] := by
            rw [← hw17]
            have := x9'.set_ 2 (.slice (some ⟨g10, 0, none⟩) (3 + ND) cap)
            simpa using this
          have hlen : (lTys ++ List.replicate ND zeroTy).length = 3 + ND := by rw [List.length_append, List.length_replicate]; rfl
          have hty : SlTys w17 (fun _ => True) (.slice (some ⟨g10, 0, none⟩) (lTys ++ List.replicate ND zeroTy).length cap) (lTys ++ List.replicate ND zeroTy) := by
            refine tys14_sl (bz.wr rg (by simp; omega)) trivial (fun t ht => ?_) (by rw [hlen]; exact hge) hle
            rcases List.mem_append.1 ht with h | h
            · exact lTys_bare t h
            · rw [(List.mem_replicate.1 h).2]
              exact ⟨rfl, rfl, rfl, rfl⟩
          rw [hlen] at hty
          have fd : FaceL w17 (fun _ => True) (.slice none 0 0) (.slice (some ⟨g10, 0, none⟩) (3 + ND) cap) (.slice (some ⟨gi9, 0, none⟩) 2 2) ⟨⟨#[77]⟩, [], lTys ++ List.replicate ND zeroTy, lItms⟩ :=
            ⟨Sl.nil _ _ _, hty, blk_sl (xs := itL2) (((bgi9.wr0 r0).wr0 r16).wr rg (by simp; omega)) trivial rfl (by decide)⟩
          have rq : Wr [] wq w17 := (((r14.trans r0).trans r16)).new rg (by have := r14.size; omega)
          have HRUN := Lib.hid hrun
          have HW17 := Lib.hid hw17
          have FD := Lib.hid fd
          have XD := Lib.hid x17
          have RQ := Lib.hid rq
          clear hrun hcells hzr hw16 hw17 bz x9 x9' x17 hty fd rg rq r0 r14 r16 bgt9 bgi9 lgt9 lgi9 ngt9 lgt9' lgi9' hg9 hw15 hg10 hge hle hcap hj1 hy0 hy1 hy2 hg9l hlen
          go_upto_region 16 with (at_builtin; refine wpList_append_run2 rfl _ _ _ _ rfl _ _ rfl rfl _ _ HRUN.out ?_)
          rw [HW17.out]
          clear c2 c2' f2'
          have rx : Wr [] w4 w17 := (RK.out.trans RJ.out).trans RQ.out
          have m17 := M4.out.wr0 rx
          have fa : FaceL w17 (fun _ => True) (.slice none 0 0) (.slice (some ⟨gt, 0, none⟩) 3 3) (.slice (some ⟨gi, 0, none⟩) 2 2) ⟨zerosB NA, [], lTys, lItms⟩ :=
            ⟨Sl.nil _ _ _, tys14_sl (ts := lTys) (rest := #[]) (by rw [Array.append_empty]; exact m17.t) trivial lTys_bare (Nat.le_refl _) (by decide), blk_sl (xs := itL2) m17.i trivial rfl (by decide)⟩
          have fb := FB.out.wr0 (RJ.out.trans RQ.out)
          have fc := FC.out.wr0 RQ.out
          have fd := FD.out
          have ya := fun W r => may_any ⟨zerosB NA, [], lTys, lItms⟩ _ _ _ _ W (fa.wr0 r)
          have yb := fun W r => may_any ⟨⟨#[77]⟩, [], lTys, itmsN k⟩ _ _ _ _ W (fb.wr0 r)
          have yc := fun W r => may_any ⟨⟨#[77]⟩, (List.range j).map useN, lTys, lItms⟩ _ _ _ _ W (fc.wr0 r)
          have yd := fun W r => may_any ⟨⟨#[77]⟩, [], lTys ++ List.replicate ND zeroTy, lItms⟩ _ _ _ _ W (fd.wr0 r)
          rw [may_name, zerosB_size] at ya
          rw [may_items hk1 (by omega)] at yb
          rw [may_uses (by have := HNC.out; have := hjN.out; omega)] at yc
          rw [may_types] at yd
          simp only at ya yb yc yd
          obtain ⟨mA, hmA⟩ : ∃ m : Int, (if NA ≤ 255 then 0 else 5) = m := ⟨_, rfl⟩
          obtain ⟨mB, hmB⟩ : ∃ m : Int, (if k ≤ 512 then 0 else 5) = m := ⟨_, rfl⟩
          obtain ⟨mC, hmC⟩ : ∃ m : Int, (if j ≤ 64 then 0 else 5) = m := ⟨_, rfl⟩
          obtain ⟨mD, hmD⟩ : ∃ m : Int, (if 3 + ND ≤ 1024 then 0 else 5) = m := ⟨_, rfl⟩
          rw [hmA] at ya
          rw [hmB] at yb
          rw [hmC] at yc
          rw [hmD] at yd
          have qA : (mA = 0 ∧ over.tmod 3 ≤ 0) ∨ (mA = 5 ∧ ¬ over.tmod 3 ≤ 0) := by
            by_cases h : NA ≤ 255
            · rw [if_pos h] at hmA
              exact .inl ⟨hmA.symm, by omega⟩
            · rw [if_neg h] at hmA
              exact .inr ⟨hmA.symm, by omega⟩
          have qB : (mB = 0 ∧ mD = 0 ∧ over ≤ 0) ∨ (mB = 5 ∧ mD = 5 ∧ ¬ over ≤ 0) := by
            by_cases h : over ≤ 0
            · rw [if_pos (by omega)] at hmB hmD
              exact .inl ⟨hmB.symm, hmD.symm, h⟩
            · rw [if_neg (by omega)] at hmB hmD
              exact .inr ⟨hmB.symm, hmD.symm, h⟩
          have qC : (mC = 0 ∧ over.tmod 8 ≤ 0) ∨ (mC = 5 ∧ ¬ over.tmod 8 ≤ 0) := by
            have hjn := hjN.out
            by_cases h : j ≤ 64
            · rw [if_pos h] at hmC
              exact .inl ⟨hmC.symm, by omega⟩
            · rw [if_neg h] at hmC
              exact .inr ⟨hmC.symm, by omega⟩
          have YA := Lib.hid ya
          have YB := Lib.hid yb
          have YC := Lib.hid yc
          have YD := Lib.hid yd
          have RX := Lib.hid rx
          have RT := Lib.hid (R4.out.trans rx)
          clear ya yb yc yd hmA hmB hmC hmD fa fb fc fd m17 rx
          rcases qA with ⟨rfl, qa⟩ | ⟨rfl, qa⟩ <;> rcases qB with ⟨rfl, rfl, qb⟩ | ⟨rfl, rfl, qb⟩ <;> rcases qC with ⟨rfl, qc⟩ | ⟨rfl, qc⟩
          · have dA := decide_eq_true qa
            have dB := decide_eq_true qb
            have dC := decide_eq_true qc
            clear qa qb qc
            have x0 := (X4.out.wr0 RX.out).cell 0
            have x1 := (X4.out.wr0 RX.out).cell 1
            have x2 := (X4.out.wr0 RX.out).cell 2
            have x3 := (X4.out.wr0 RX.out).cell 3
            simp only [List.getElem?_toArray, List.getElem?_cons_zero, List.getElem?_cons_succ] at x0 x1 x2 x3
            go_wp2_with fail
            refine (YA.out _ (Wr.refl _ _)).mono ?_
            rintro e w18 ⟨rfl, s1⟩
            clear x0 x1 x2 x3
            have x0 := (XB.out.wr0 ((RJ.out.trans RQ.out).trans s1)).cell 0
            have x1 := (XB.out.wr0 ((RJ.out.trans RQ.out).trans s1)).cell 1
            have x2 := (XB.out.wr0 ((RJ.out.trans RQ.out).trans s1)).cell 2
            have x3 := (XB.out.wr0 ((RJ.out.trans RQ.out).trans s1)).cell 3
            simp only [List.getElem?_toArray, List.getElem?_cons_zero, List.getElem?_cons_succ] at x0 x1 x2 x3
            go_wp2_with fail
            refine (YB.out _ s1).mono ?_
            rintro e w19 ⟨rfl, s2⟩
            replace s2 := s1.trans s2
            clear x0 x1 x2 x3
            have x0 := (XC.out.wr0 (RQ.out.trans s2)).cell 0
            have x1 := (XC.out.wr0 (RQ.out.trans s2)).cell 1
            have x2 := (XC.out.wr0 (RQ.out.trans s2)).cell 2
            have x3 := (XC.out.wr0 (RQ.out.trans s2)).cell 3
            simp only [List.getElem?_toArray, List.getElem?_cons_zero, List.getElem?_cons_succ] at x0 x1 x2 x3
            go_wp2_with fail
            refine (YC.out _ s2).mono ?_
            rintro e w20 ⟨rfl, s3⟩
            replace s3 := s2.trans s3
            clear x0 x1 x2 x3
            have x0 := (XD.out.wr0 s3).cell 0
            have x1 := (XD.out.wr0 s3).cell 1
            have x2 := (XD.out.wr0 s3).cell 2
            have x3 := (XD.out.wr0 s3).cell 3
            simp only [List.getElem?_toArray, List.getElem?_cons_zero, List.getElem?_cons_succ] at x0 x1 x2 x3
            go_wp2_with fail
            refine (YD.out _ s3).mono ?_
            rintro e w21 ⟨rfl, s4⟩
            replace s4 := s3.trans s4
            clear x0 x1 x2 x3
            go_wp2_with fail
            refine (HAL.out _).mono ?_
            rintro e w22 ⟨rfl, s5⟩
            go_wp2_with fail
            go_ret
            exact ⟨rfl, RT.out.trans (s4.trans s5)⟩
          · have dA := decide_eq_true qa
            have dB := decide_eq_true qb
            have dC := decide_eq_false qc
            clear qa qb qc
            have x0 := (X4.out.wr0 RX.out).cell 0
            have x1 := (X4.out.wr0 RX.out).cell 1
            have x2 := (X4.out.wr0 RX.out).cell 2
            have x3 := (X4.out.wr0 RX.out).cell 3
            simp only [List.getElem?_toArray, List.getElem?_cons_zero, List.getElem?_cons_succ] at x0 x1 x2 x3
            go_wp2_with fail
            refine (YA.out _ (Wr.refl _ _)).mono ?_
            rintro e w18 ⟨rfl, s1⟩
            clear x0 x1 x2 x3
            have x0 := (XB.out.wr0 ((RJ.out.trans RQ.out).trans s1)).cell 0
            have x1 := (XB.out.wr0 ((RJ.out.trans RQ.out).trans s1)).cell 1
            have x2 := (XB.out.wr0 ((RJ.out.trans RQ.out).trans s1)).cell 2
            have x3 := (XB.out.wr0 ((RJ.out.trans RQ.out).trans s1)).cell 3
            simp only [List.getElem?_toArray, List.getElem?_cons_zero, List.getElem?_cons_succ] at x0 x1 x2 x3
            go_wp2_with fail
            refine (YB.out _ s1).mono ?_
            rintro e w19 ⟨rfl, s2⟩
            replace s2 := s1.trans s2
            clear x0 x1 x2 x3
            have x0 := (XC.out.wr0 (RQ.out.trans s2)).cell 0
            have x1 := (XC.out.wr0 (RQ.out.trans s2)).cell 1
            have x2 := (XC.out.wr0 (RQ.out.trans s2)).cell 2
            have x3 := (XC.out.wr0 (RQ.out.trans s2)).cell 3
            simp only [List.getElem?_toArray, List.getElem?_cons_zero, List.getElem?_cons_succ] at x0 x1 x2 x3
            go_wp2_with fail
            refine (YC.out _ s2).mono ?_
            rintro e w20 ⟨rfl, s3⟩
            replace s3 := s2.trans s3
            clear x0 x1 x2 x3
            have x0 := (XD.out.wr0 s3).cell 0
            have x1 := (XD.out.wr0 s3).cell 1
            have x2 := (XD.out.wr0 s3).cell 2
            have x3 := (XD.out.wr0 s3).cell 3
            simp only [List.getElem?_toArray, List.getElem?_cons_zero, List.getElem?_cons_succ] at x0 x1 x2 x3
            go_wp2_with fail
            refine (YD.out _ s3).mono ?_
            rintro e w21 ⟨rfl, s4⟩
            replace s4 := s3.trans s4
            clear x0 x1 x2 x3
            go_wp2_with fail
            refine (HAL.out _).mono ?_
            rintro e w22 ⟨rfl, s5⟩
            go_wp2_with fail
            go_ret
            exact ⟨rfl, RT.out.trans (s4.trans s5)⟩
          · have dA := decide_eq_true qa
            have dB := decide_eq_false qb
            have dC := decide_eq_true qc
            clear qa qb qc
            have x0 := (X4.out.wr0 RX.out).cell 0
            have x1 := (X4.out.wr0 RX.out).cell 1
            have x2 := (X4.out.wr0 RX.out).cell 2
            have x3 := (X4.out.wr0 RX.out).cell 3
            simp only [List.getElem?_toArray, List.getElem?_cons_zero, List.getElem?_cons_succ] at x0 x1 x2 x3
            go_wp2_with fail
            refine (YA.out _ (Wr.refl _ _)).mono ?_
            rintro e w18 ⟨rfl, s1⟩
            clear x0 x1 x2 x3
            have x0 := (XB.out.wr0 ((RJ.out.trans RQ.out).trans s1)).cell 0
            have x1 := (XB.out.wr0 ((RJ.out.trans RQ.out).trans s1)).cell 1
            have x2 := (XB.out.wr0 ((RJ.out.trans RQ.out).trans s1)).cell 2
            have x3 := (XB.out.wr0 ((RJ.out.trans RQ.out).trans s1)).cell 3
            simp only [List.getElem?_toArray, List.getElem?_cons_zero, List.getElem?_cons_succ] at x0 x1 x2 x3
            go_wp2_with fail
            refine (YB.out _ s1).mono ?_
            rintro e w19 ⟨rfl, s2⟩
            replace s2 := s1.trans s2
            clear x0 x1 x2 x3
            have x0 := (XC.out.wr0 (RQ.out.trans s2)).cell 0
            have x1 := (XC.out.wr0 (RQ.out.trans s2)).cell 1
            have x2 := (XC.out.wr0 (RQ.out.trans s2)).cell 2
            have x3 := (XC.out.wr0 (RQ.out.trans s2)).cell 3
            simp only [List.getElem?_toArray, List.getElem?_cons_zero, List.getElem?_cons_succ] at x0 x1 x2 x3
            go_wp2_with fail
            refine (YC.out _ s2).mono ?_
            rintro e w20 ⟨rfl, s3⟩
            replace s3 := s2.trans s3
            clear x0 x1 x2 x3
            have x0 := (XD.out.wr0 s3).cell 0
            have x1 := (XD.out.wr0 s3).cell 1
            have x2 := (XD.out.wr0 s3).cell 2
            have x3 := (XD.out.wr0 s3).cell 3
            simp only [List.getElem?_toArray, List.getElem?_cons_zero, List.getElem?_cons_succ] at x0 x1 x2 x3
            go_wp2_with fail
            refine (YD.out _ s3).mono ?_
            rintro e w21 ⟨rfl, s4⟩
            replace s4 := s3.trans s4
            clear x0 x1 x2 x3
            go_wp2_with fail
            refine (HAL.out _).mono ?_
            rintro e w22 ⟨rfl, s5⟩
            go_wp2_with fail
            go_ret
            exact ⟨rfl, RT.out.trans (s4.trans s5)⟩
          · have dA := decide_eq_true qa
            have dB := decide_eq_false qb
            have dC := decide_eq_false qc
            clear qa qb qc
            have x0 := (X4.out.wr0 RX.out).cell 0
            have x1 := (X4.out.wr0 RX.out).cell 1
            have x2 := (X4.out.wr0 RX.out).cell 2
            have x3 := (X4.out.wr0 RX.out).cell 3
            simp only [List.getElem?_toArray, List.getElem?_cons_zero, List.getElem?_cons_succ] at x0 x1 x2 x3
            go_wp2_with fail
            refine (YA.out _ (Wr.refl _ _)).mono ?_
            rintro e w18 ⟨rfl, s1⟩
            clear x0 x1 x2 x3
            have x0 := (XB.out.wr0 ((RJ.out.trans RQ.out).trans s1)).cell 0
            have x1 := (XB.out.wr0 ((RJ.out.trans RQ.out).trans s1)).cell 1
            have x2 := (XB.out.wr0 ((RJ.out.trans RQ.out).trans s1)).cell 2
            have x3 := (XB.out.wr0 ((RJ.out.trans RQ.out).trans s1)).cell 3
            simp only [List.getElem?_toArray, List.getElem?_cons_zero, List.getElem?_cons_succ] at x0 x1 x2 x3
            go_wp2_with fail
            refine (YB.out _ s1).mono ?_
            rintro e w19 ⟨rfl, s2⟩
            replace s2 := s1.trans s2
            clear x0 x1 x2 x3
            have x0 := (XC.out.wr0 (RQ.out.trans s2)).cell 0
            have x1 := (XC.out.wr0 (RQ.out.trans s2)).cell 1
            have x2 := (XC.out.wr0 (RQ.out.trans s2)).cell 2
            have x3 := (XC.out.wr0 (RQ.out.trans s2)).cell 3
            simp only [List.getElem?_toArray, List.getElem?_cons_zero, List.getElem?_cons_succ] at x0 x1 x2 x3
            go_wp2_with fail
            refine (YC.out _ s2).mono ?_
            rintro e w20 ⟨rfl, s3⟩
            replace s3 := s2.trans s3
            clear x0 x1 x2 x3
            have x0 := (XD.out.wr0 s3).cell 0
            have x1 := (XD.out.wr0 s3).cell 1
            have x2 := (XD.out.wr0 s3).cell 2
            have x3 := (XD.out.wr0 s3).cell 3
            simp only [List.getElem?_toArray, List.getElem?_cons_zero, List.getElem?_cons_succ] at x0 x1 x2 x3
            go_wp2_with fail
            refine (YD.out _ s3).mono ?_
            rintro e w21 ⟨rfl, s4⟩
            replace s4 := s3.trans s4
            clear x0 x1 x2 x3
            go_wp2_with fail
            refine (HAL.out _).mono ?_
            rintro e w22 ⟨rfl, s5⟩
            go_wp2_with fail
            go_ret
            exact ⟨rfl, RT.out.trans (s4.trans s5)⟩
          · have dA := decide_eq_false qa
            have dB := decide_eq_true qb
            have dC := decide_eq_true qc
            clear qa qb qc
            have x0 := (X4.out.wr0 RX.out).cell 0
            have x1 := (X4.out.wr0 RX.out).cell 1
            have x2 := (X4.out.wr0 RX.out).cell 2
            have x3 := (X4.out.wr0 RX.out).cell 3
            simp only [List.getElem?_toArray, List.getElem?_cons_zero, List.getElem?_cons_succ] at x0 x1 x2 x3
            go_wp2_with fail
            refine (YA.out _ (Wr.refl _ _)).mono ?_
            rintro e w18 ⟨rfl, s1⟩
            clear x0 x1 x2 x3
            have x0 := (XB.out.wr0 ((RJ.out.trans RQ.out).trans s1)).cell 0
            have x1 := (XB.out.wr0 ((RJ.out.trans RQ.out).trans s1)).cell 1
            have x2 := (XB.out.wr0 ((RJ.out.trans RQ.out).trans s1)).cell 2
            have x3 := (XB.out.wr0 ((RJ.out.trans RQ.out).trans s1)).cell 3
            simp only [List.getElem?_toArray, List.getElem?_cons_zero, List.getElem?_cons_succ] at x0 x1 x2 x3
            go_wp2_with fail
            refine (YB.out _ s1).mono ?_
            rintro e w19 ⟨rfl, s2⟩
            replace s2 := s1.trans s2
            clear x0 x1 x2 x3
            have x0 := (XC.out.wr0 (RQ.out.trans s2)).cell 0
            have x1 := (XC.out.wr0 (RQ.out.trans s2)).cell 1
            have x2 := (XC.out.wr0 (RQ.out.trans s2)).cell 2
            have x3 := (XC.out.wr0 (RQ.out.trans s2)).cell 3
            simp only [List.getElem?_toArray, List.getElem?_cons_zero, List.getElem?_cons_succ] at x0 x1 x2 x3
            go_wp2_with fail
            refine (YC.out _ s2).mono ?_
            rintro e w20 ⟨rfl, s3⟩
            replace s3 := s2.trans s3
            clear x0 x1 x2 x3
            have x0 := (XD.out.wr0 s3).cell 0
            have x1 := (XD.out.wr0 s3).cell 1
            have x2 := (XD.out.wr0 s3).cell 2
            have x3 := (XD.out.wr0 s3).cell 3
            simp only [List.getElem?_toArray, List.getElem?_cons_zero, List.getElem?_cons_succ] at x0 x1 x2 x3
            go_wp2_with fail
            refine (YD.out _ s3).mono ?_
            rintro e w21 ⟨rfl, s4⟩
            replace s4 := s3.trans s4
            clear x0 x1 x2 x3
            go_wp2_with fail
            refine (HAL.out _).mono ?_
            rintro e w22 ⟨rfl, s5⟩
            go_wp2_with fail
            go_ret
            exact ⟨rfl, RT.out.trans (s4.trans s5)⟩
          · have dA := decide_eq_false qa
            have dB := decide_eq_true qb
            have dC := decide_eq_false qc
            clear qa qb qc
            have x0 := (X4.out.wr0 RX.out).cell 0
            have x1 := (X4.out.wr0 RX.out).cell 1
            have x2 := (X4.out.wr0 RX.out).cell 2
            have x3 := (X4.out.wr0 RX.out).cell 3
            simp only [List.getElem?_toArray, List.getElem?_cons_zero, List.getElem?_cons_succ] at x0 x1 x2 x3
            go_wp2_with fail
            refine (YA.out _ (Wr.refl _ _)).mono ?_
            rintro e w18 ⟨rfl, s1⟩
            clear x0 x1 x2 x3
            have x0 := (XB.out.wr0 ((RJ.out.trans RQ.out).trans s1)).cell 0
            have x1 := (XB.out.wr0 ((RJ.out.trans RQ.out).trans s1)).cell 1
            have x2 := (XB.out.wr0 ((RJ.out.trans RQ.out).trans s1)).cell 2
            have x3 := (XB.out.wr0 ((RJ.out.trans RQ.out).trans s1)).cell 3
            simp only [List.getElem?_toArray, List.getElem?_cons_zero, List.getElem?_cons_succ] at x0 x1 x2 x3
            go_wp2_with fail
            refine (YB.out _ s1).mono ?_
            rintro e w19 ⟨rfl, s2⟩
            replace s2 := s1.trans s2
            clear x0 x1 x2 x3
            have x0 := (XC.out.wr0 (RQ.out.trans s2)).cell 0
            have x1 := (XC.out.wr0 (RQ.out.trans s2)).cell 1
            have x2 := (XC.out.wr0 (RQ.out.trans s2)).cell 2
            have x3 := (XC.out.wr0 (RQ.out.trans s2)).cell 3
            simp only [List.getElem?_toArray, List.getElem?_cons_zero, List.getElem?_cons_succ] at x0 x1 x2 x3
            go_wp2_with fail
            refine (YC.out _ s2).mono ?_
            rintro e w20 ⟨rfl, s3⟩
            replace s3 := s2.trans s3
            clear x0 x1 x2 x3
            have x0 := (XD.out.wr0 s3).cell 0
            have x1 := (XD.out.wr0 s3).cell 1
            have x2 := (XD.out.wr0 s3).cell 2
            have x3 := (XD.out.wr0 s3).cell 3
            simp only [List.getElem?_toArray, List.getElem?_cons_zero, List.getElem?_cons_succ] at x0 x1 x2 x3
            go_wp2_with fail
            refine (YD.out _ s3).mono ?_
            rintro e w21 ⟨rfl, s4⟩
            replace s4 := s3.trans s4
            clear x0 x1 x2 x3
            go_wp2_with fail
            refine (HAL.out _).mono ?_
            rintro e w22 ⟨rfl, s5⟩
            go_wp2_with fail
            go_ret
            exact ⟨rfl, RT.out.trans (s4.trans s5)⟩
          · have dA := decide_eq_false qa
            have dB := decide_eq_false qb
            have dC := decide_eq_true qc
            clear qa qb qc
            have x0 := (X4.out.wr0 RX.out).cell 0
            have x1 := (X4.out.wr0 RX.out).cell 1
            have x2 := (X4.out.wr0 RX.out).cell 2
            have x3 := (X4.out.wr0 RX.out).cell 3
            simp only [List.getElem?_toArray, List.getElem?_cons_zero, List.getElem?_cons_succ] at x0 x1 x2 x3
            go_wp2_with fail
            refine (YA.out _ (Wr.refl _ _)).mono ?_
            rintro e w18 ⟨rfl, s1⟩
            clear x0 x1 x2 x3
            have x0 := (XB.out.wr0 ((RJ.out.trans RQ.out).trans s1)).cell 0
            have x1 := (XB.out.wr0 ((RJ.out.trans RQ.out).trans s1)).cell 1
            have x2 := (XB.out.wr0 ((RJ.out.trans RQ.out).trans s1)).cell 2
            have x3 := (XB.out.wr0 ((RJ.out.trans RQ.out).trans s1)).cell 3
            simp only [List.getElem?_toArray, List.getElem?_cons_zero, List.getElem?_cons_succ] at x0 x1 x2 x3
            go_wp2_with fail
            refine (YB.out _ s1).mono ?_
            rintro e w19 ⟨rfl, s2⟩
            replace s2 := s1.trans s2
            clear x0 x1 x2 x3
            have x0 := (XC.out.wr0 (RQ.out.trans s2)).cell 0
            have x1 := (XC.out.wr0 (RQ.out.trans s2)).cell 1
            have x2 := (XC.out.wr0 (RQ.out.trans s2)).cell 2
            have x3 := (XC.out.wr0 (RQ.out.trans s2)).cell 3
            simp only [List.getElem?_toArray, List.getElem?_cons_zero, List.getElem?_cons_succ] at x0 x1 x2 x3
            go_wp2_with fail
            refine (YC.out _ s2).mono ?_
            rintro e w20 ⟨rfl, s3⟩
            replace s3 := s2.trans s3
            clear x0 x1 x2 x3
            have x0 := (XD.out.wr0 s3).cell 0
            have x1 := (XD.out.wr0 s3).cell 1
            have x2 := (XD.out.wr0 s3).cell 2
            have x3 := (XD.out.wr0 s3).cell 3
            simp only [List.getElem?_toArray, List.getElem?_cons_zero, List.getElem?_cons_succ] at x0 x1 x2 x3
            go_wp2_with fail
            refine (YD.out _ s3).mono ?_
            rintro e w21 ⟨rfl, s4⟩
            replace s4 := s3.trans s4
            clear x0 x1 x2 x3
            go_wp2_with fail
            refine (HAL.out _).mono ?_
            rintro e w22 ⟨rfl, s5⟩
            go_wp2_with fail
            go_ret
            exact ⟨rfl, RT.out.trans (s4.trans s5)⟩
          · have dA := decide_eq_false qa
            have dB := decide_eq_false qb
            have dC := decide_eq_false qc
            clear qa qb qc
            have x0 := (X4.out.wr0 RX.out).cell 0
            have x1 := (X4.out.wr0 RX.out).cell 1
            have x2 := (X4.out.wr0 RX.out).cell 2
            have x3 := (X4.out.wr0 RX.out).cell 3
            simp only [List.getElem?_toArray, List.getElem?_cons_zero, List.getElem?_cons_succ] at x0 x1 x2 x3
            go_wp2_with fail
            refine (YA.out _ (Wr.refl _ _)).mono ?_
            rintro e w18 ⟨rfl, s1⟩
            clear x0 x1 x2 x3
            have x0 := (XB.out.wr0 ((RJ.out.trans RQ.out).trans s1)).cell 0
            have x1 := (XB.out.wr0 ((RJ.out.trans RQ.out).trans s1)).cell 1
            have x2 := (XB.out.wr0 ((RJ.out.trans RQ.out).trans s1)).cell 2
            have x3 := (XB.out.wr0 ((RJ.out.trans RQ.out).trans s1)).cell 3
            simp only [List.getElem?_toArray, List.getElem?_cons_zero, List.getElem?_cons_succ] at x0 x1 x2 x3
            go_wp2_with fail
            refine (YB.out _ s1).mono ?_
            rintro e w19 ⟨rfl, s2⟩
            replace s2 := s1.trans s2
            clear x0 x1 x2 x3
            have x0 := (XC.out.wr0 (RQ.out.trans s2)).cell 0
            have x1 := (XC.out.wr0 (RQ.out.trans s2)).cell 1
            have x2 := (XC.out.wr0 (RQ.out.trans s2)).cell 2
            have x3 := (XC.out.wr0 (RQ.out.trans s2)).cell 3
            simp only [List.getElem?_toArray, List.getElem?_cons_zero, List.getElem?_cons_succ] at x0 x1 x2 x3
            go_wp2_with fail
            refine (YC.out _ s2).mono ?_
            rintro e w20 ⟨rfl, s3⟩
            replace s3 := s2.trans s3
            clear x0 x1 x2 x3
            have x0 := (XD.out.wr0 s3).cell 0
            have x1 := (XD.out.wr0 s3).cell 1
            have x2 := (XD.out.wr0 s3).cell 2
            have x3 := (XD.out.wr0 s3).cell 3
            simp only [List.getElem?_toArray, List.getElem?_cons_zero, List.getElem?_cons_succ] at x0 x1 x2 x3
            go_wp2_with fail
            refine (YD.out _ s3).mono ?_
            rintro e w21 ⟨rfl, s4⟩
            replace s4 := s3.trans s4
            clear x0 x1 x2 x3
            go_wp2_with fail
            refine (HAL.out _).mono ?_
            rintro e w22 ⟨rfl, s5⟩
            go_wp2_with fail
            go_ret
            exact ⟨rfl, RT.out.trans (s4.trans s5)⟩
end Go.Proofs.Ytmpbkfbjmmoapaa
