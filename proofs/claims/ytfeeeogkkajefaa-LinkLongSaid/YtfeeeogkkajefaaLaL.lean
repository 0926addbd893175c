/- LinkLong, walked. No conditions. -/
import Derived.Test.YtfeeeogkkajefaaLaQ
import Derived.Test.YtfeeeogkkajefaaLaC
import Derived.Test.YtfeeeogkkajefaaLaS
namespace Go.Proofs.Ytfeeeogkkajefaa
open Go.RowKit
set_option linter.unusedVariables false
set_option linter.unusedSimpArgs false
attribute [local go_sem ↓] Go.wp_at_zero Go.wp_at_succ

def usesK (k : Nat) : List UseD := (List.range' 1 k).map fun i => ⟨nameO i, 0⟩
theorem usesK_succ (k : Nat) : usesK (k + 1) = usesK k ++ [⟨nameO (k + 1), 0⟩] := by
  unfold usesK
  rw [List.range'_concat, List.map_append]
  simp [Nat.add_comm]
def starsK (k : Nat) : List ObjD := (List.range' 1 k).map starO
theorem starsK_succ (k : Nat) : starsK (k + 1) = starsK k ++ [starO (k + 1)] := by
  unfold starsK
  rw [List.range'_concat, List.map_append]
  simp [Nat.add_comm]
theorem starsK_len (k : Nat) : (starsK k).length = k := by simp [starsK]
theorem usesK_len (k : Nat) : (usesK k).length = k := by simp [usesK]
/-- At the head of a round. -/
def LongAt (w2 : World) (s : Nat) (k : Nat) (v4 : Value) (wr : World) : Prop :=
  Wr [s + 1] w2 wr ∧ ∃ vu, Blk wr (s + 1) 52 #[.string ⟨#[77]⟩, .bool true, .int .u64 0, vu, .string ⟨#[]⟩, .slice (some ⟨s, 0, none⟩) 1 1, .slice none 0 0, .int .i64 0, .slice none 0 0] ∧
    RowQ w2.heap.size wr (fun b => b ≠ s + 1 ∧ b ∉ ownL v4 ∧ b ∉ ownL vu) (starsK k) v4 ∧ wr.ownsRow w2.heap.size 54 2 vu k ((usesK k).flatMap UseD.cells) ∧ ∀ b, b ∈ ownL v4 → b ∉ ownL vu
theorem tmod9 (over : Int) : ∃ k : Nat, k ≤ 16 ∧ over.tmod 9 = (k : Int) - 8 := by
  have h := Int.natAbs_tmod over 9
  have h2 := Nat.mod_lt over.natAbs (show 0 < (9 : Int).natAbs by decide)
  have h3 : (9 : Int).natAbs = 9 := rfl
  exact ⟨(over.tmod 9 + 8).toNat, by omega, by omega⟩
theorem conv_two (w : World) (g : Nat) (a b : Int) (hc : w.cell? ⟨g, 0, none⟩ = some (.int .u8 a)) (hd : w.cell? ⟨g, 1, none⟩ = some (.int .u8 b)) :
    (convert 60 9 (.slice (some ⟨g, 0, none⟩) 2 2)).run Try.prog w = .ok (.string ⟨#[UInt8.ofNat a.toNat, UInt8.ofNat b.toNat]⟩) w := by
  rw [run_convert_bytes_string w _ _ 5 _ 2 2 Try.underlying60 Try.underlying5 Try.underlying9,
    run_bytesToString w ⟨g, 0, none⟩ 2 2 [a, b] (by simp [loadCells, loadCellsFrom, run_load, hc, hd, Sem.run_bind, Result.andThen, Sem.run_pure, Addr.add])]
  rfl
theorem starsK_at {i : Nat} (h : 1 ≤ i) : starsK i = starsK (i - 1) ++ [starO i] := by
  obtain ⟨k, rfl⟩ : ∃ k, i = k + 1 := ⟨i - 1, by omega⟩
  exact starsK_succ k
theorem usesK_at {i : Nat} (h : 1 ≤ i) : usesK i = usesK (i - 1) ++ [⟨nameO i, 0⟩] := by
  obtain ⟨k, rfl⟩ : ∃ k, i = k + 1 := ⟨i - 1, by omega⟩
  exact usesK_succ k
theorem name_eq (i : Nat) : (⟨#[109]⟩ : ByteArray) ++ ⟨#[UInt8.ofNat (48 + (i : Int) % 10).toNat, UInt8.ofNat (48 + (i : Int) / 10).toNat]⟩ = nameO i := by
  have e1 : (48 + (i : Int) % 10).toNat = 48 + i % 10 := by omega
  have e2 : (48 + (i : Int) / 10).toNat = 48 + i / 10 := by omega
  rw [e1, e2]
  unfold nameO
  apply ByteArray.ext
  rw [ByteArray.data_append]
  simp
theorem info_use : (Try.prog.info? 54).map (fun i => (i.zero, i.size, i.bytes)) = some (some (.agg #[.string ⟨#[]⟩, .int .u64 0]), 2, 24) := by kernel_rfl
set_option maxRecDepth 100000 in
set_option maxHeartbeats 16000000 in
theorem long_any (over : Int) (ho : -128 ≤ over ∧ over ≤ 127) (w : World) :
    Calls Try.prog 6 #[.int .i8 over] w fun e w' => e = .returned (.bool true) ∧ Wr [] w w' := by
  have hal := fun w => alive_any w
  obtain ⟨k0, hk0, hx⟩ := tmod9 over
  have HX := Lib.hid hx
  have hw1 : IntKind.i64.wrap (over.tmod 9) = over.tmod 9 := by rw [IntKind.wrap_i64, hx]; omega
  have hb1 : -8 ≤ over.tmod 9 := by omega
  have hb2 : over.tmod 9 ≤ 8 := by omega
  clear hx
  obtain ⟨N, hN⟩ : ∃ N : Nat, N = 55 + k0 := ⟨_, rfl⟩
  have hN2 : N ≤ 71 := by omega
  have hN1 : 64 + over.tmod 9 = (N : Int) + 1 := by rw [HX.out]; omega
  have HN := Lib.hid hN
  have HN1 := Lib.hid hN1
  clear hN hN1
  obtain ⟨s, hs⟩ : ∃ s, w.heap.size = s := ⟨_, rfl⟩
  obtain ⟨w1, hw1'⟩ : ∃ w1, w.alloc (.cells #[.int .i64 0, .int .i64 0, .int .i64 0, .int .i64 0, .int .i64 1, .bool false] 59) = w1 := ⟨_, rfl⟩
  obtain ⟨w2, hw2⟩ : ∃ w2, w1.alloc (.cells #[.string ⟨#[77]⟩, .bool true, .int .u64 0, .slice none 0 0, .string ⟨#[]⟩, .slice (some ⟨s, 0, none⟩) 1 1, .slice none 0 0, .int .i64 0, .slice none 0 0] 52) = w2 := ⟨_, rfl⟩
  have z1 : w1.heap.size = s + 1 := by rw [← hw1', World.size_alloc, hs]
  have r1 : Wr [] w w1 := by rw [← hw1']; exact (Wr.refl [] w).alloc _
  have r2 : Wr [] w1 w2 := by rw [← hw2]; exact (Wr.refl [] w1).alloc _
  have bp : Blk w1 s 59 #[.int .i64 0, .int .i64 0, .int .i64 0, .int .i64 0, .int .i64 1, .bool false] := by rw [← hw1', ← hs]; exact Blk.new _ _ _
  have bm : Blk w2 (s + 1) 52 #[.string ⟨#[77]⟩, .bool true, .int .u64 0, .slice none 0 0, .string ⟨#[]⟩, .slice (some ⟨s, 0, none⟩) 1 1, .slice none 0 0, .int .i64 0, .slice none 0 0] := by rw [← hw2, ← z1]; exact Blk.new _ _ _
  have hb2 : s + 1 < w2.heap.size := bm.lt
  have HB2 := Lib.hid hb2
  have BP := Lib.hid (bp.wr0 r2)
  have HW2 := Lib.hid hw2
  have HW1 := Lib.hid hw1'
  have HS := Lib.hid hs
  have R2 := Lib.hid (r1.trans r2)
  have hstart : LongAt w2 s 0 (.slice none 0 0) w2 := ⟨Wr.refl _ _, _, bm, RowQ.nil _ _ _, World.ownsRow_nil _ _ _ _, fun b hb => by cases hb⟩
  have HST := Lib.hid hstart
  clear hs hw1' hw2 z1 r1 r2 bp bm hstart hb2
  go_enter Try.func6, Try.ntmps6
  go_upto_region 5 with (fail)
  rw [HS.out, HW1.out, HW2.out, HN1.out]
  go_loopw [4, 6] (fun s4 s6 wr => ∃ i : Nat, 1 ≤ i ∧ i ≤ N + 1 ∧ s6 = .int .i64 i ∧ LongAt w2 s (i - 1) s4 wr) (fun _ s6 _ => N + 1 - (intOf s6).toNat)
  case atStart => exact ⟨1, by omega, by omega, rfl, HST.out⟩
  case round =>
    obtain ⟨i, hi1, hi2, rfl, hlong⟩ := hrel
    obtain ⟨racc, vu, bm, hrow, huse, hne⟩ := hlong
    obtain ⟨A4, c4, rfl⟩ := hrow.form
    obtain ⟨Au, cu, rfl⟩ := own_shape huse
    obtain ⟨wo, rfl⟩ : ∃ wo : World, wo = wr := ⟨_, rfl⟩
    rw [starsK_len] at *
    have BM := Lib.hid bm
    have HROW := Lib.hid hrow
    have HUSE := Lib.hid huse
    have HNE := Lib.hid hne
    have RACC := Lib.hid racc
    clear bm hrow huse hne racc
    by_cases hlt : i < N + 1
    · have hlti : (i : Int) < (N : Int) + 1 := by omega
      have hi0 : (0 : Int) ≤ (i : Int) := by omega
      obtain ⟨z, hz⟩ : ∃ z, wo.heap.size = z := ⟨_, rfl⟩
      have hcv := conv_two (wo.alloc (.cells #[.int .u8 (48 + (i : Int) % 10), .int .u8 (48 + (i : Int) / 10)] 5)) wo.heap.size (48 + (i : Int) % 10) (48 + (i : Int) / 10) (by simp) (by simp)
      have hname := name_eq i
      obtain ⟨nm, hnm⟩ : ∃ nm : ByteArray, (⟨#[UInt8.ofNat (48 + (i : Int) % 10).toNat, UInt8.ofNat (48 + (i : Int) / 10).toNat]⟩ : ByteArray) = nm := ⟨_, rfl⟩
      have hn2 : nm.size ≤ 2 := by rw [← hnm]; exact Nat.le_refl _
      rw [hnm] at hcv hname
      obtain ⟨wA, hwA⟩ : ∃ q, wo.alloc (.cells #[.int .u8 (48 + (i : Int) % 10), .int .u8 (48 + (i : Int) / 10)] 5) = q := ⟨_, rfl⟩
      obtain ⟨wB, hwB⟩ : ∃ q, wA.alloc (.cells #[.int .i64 0, .int .i64 0, .int .i64 0, .int .i64 0, .int .i64 1, .bool false] 59) = q := ⟨_, rfl⟩
      obtain ⟨wC, hwC⟩ : ∃ q, wB.alloc (.cells #[.string (nameO i), .bool false, .int .u64 0, .slice none 0 0, .string ⟨#[]⟩, .slice (some ⟨z + 1, 0, none⟩) 1 1, .slice none 0 0, .int .i64 0, .slice none 0 0] 52) = q := ⟨_, rfl⟩
      obtain ⟨wD, hwD⟩ : ∃ q, wC.alloc (.cells #[.string (nameO i), .bool false, .int .u64 0, .slice none 0 0, .string ⟨#[]⟩, .slice (some ⟨z + 1, 0, none⟩) 1 1, .slice none 0 0, .int .i64 0, .slice none 0 0] 52) = q := ⟨_, rfl⟩
      have zA : wA.heap.size = z + 1 := by rw [← hwA, World.size_alloc, hz]
      have zB : wB.heap.size = z + 1 + 1 := by rw [← hwB, World.size_alloc, zA]
      have zC : wC.heap.size = z + 1 + 1 + 1 := by rw [← hwC, World.size_alloc, zB]
      have zD : wD.heap.size = z + 1 + 1 + 1 + 1 := by rw [← hwD, World.size_alloc, zC]
      have rA : Wr [] wo wA := by rw [← hwA]; exact (Wr.refl [] _).alloc _
      have rB : Wr [] wA wB := by rw [← hwB]; exact (Wr.refl [] _).alloc _
      have rC : Wr [] wB wC := by rw [← hwC]; exact (Wr.refl [] _).alloc _
      have rD : Wr [] wC wD := by rw [← hwD]; exact (Wr.refl [] _).alloc _
      have bp : Blk wB (z + 1) 59 #[.int .i64 0, .int .i64 0, .int .i64 0, .int .i64 0, .int .i64 1, .bool false] := by rw [← hwB, ← zA]; exact Blk.new _ _ _
      have bo : Blk wC (z + 1 + 1) 52 #[.string (nameO i), .bool false, .int .u64 0, .slice none 0 0, .string ⟨#[]⟩, .slice (some ⟨z + 1, 0, none⟩) 1 1, .slice none 0 0, .int .i64 0, .slice none 0 0] := by rw [← hwC, ← zB]; exact Blk.new _ _ _
      have bn : Blk wD (z + 1 + 1 + 1) 52 #[.string (nameO i), .bool false, .int .u64 0, .slice none 0 0, .string ⟨#[]⟩, .slice (some ⟨z + 1, 0, none⟩) 1 1, .slice none 0 0, .int .i64 0, .slice none 0 0] := by rw [← hwD, ← zC]; exact Blk.new _ _ _
      have rAD : Wr [] wo wD := ((rA.trans rB).trans rC).trans rD
      have hb2 := HB2.out
      have hbase : w2.heap.size ≤ wo.heap.size := RACC.out.size
      have howl : ∀ b, b ∈ ownL (.slice A4 (i - 1) c4) → w2.heap.size ≤ b ∧ b < z := fun b hb => by
        obtain ⟨_, h1, _⟩ := HROW.out
        rw [starsK_len] at h1
        have := h1.lt b (mem_ownL.1 hb)
        omega
      have huwl : ∀ b, b ∈ ownL (.slice Au (i - 1) cu) → w2.heap.size ≤ b ∧ b < z := fun b hb => by
        have := HUSE.out.lt b (mem_ownL.1 hb)
        omega
      -- the new object's lists
      have hol : ObjL wD (fun b => (b ≠ s + 1 ∧ b ∉ ownL (.slice A4 (i - 1) c4) ∧ b ∉ ownL (.slice Au (i - 1) cu)) ∧ b < wD.heap.size) (.slice none 0 0) (.slice (some ⟨z + 1, 0, none⟩) 1 1) (.slice none 0 0) (.slice none 0 0) (starO i) := by
        refine ⟨Sl.nil _ _ 2, ⟨?_, Sl.nil _ _ 1, Sl.nil _ _ 1⟩⟩
        have hbp := (bp.wr0 rC).wr0 rD
        refine ⟨_, _, rfl, Nat.le_refl _, by unfold maxLen; omega, rfl, fun j u hj => ⟨z + 1, 0, rfl, ⟨⟨by omega, fun hm => ?_, fun hm => ?_⟩, by omega⟩, ?_⟩⟩
        · have := howl _ hm; omega
        · have := huwl _ hm; omega
        · rw [Nat.zero_add, hbp.cell, List.getElem?_toArray]
          exact hj
      obtain ⟨xs, g1, g2, g3⟩ := (HROW.out.wr0 rAD).into (R := fun b => (b ≠ s + 1 ∧ b ∉ ownL (.slice A4 (i - 1) c4) ∧ b ∉ ownL (.slice Au (i - 1) cu)) ∧ b < wD.heap.size) (fun b hb hlt => ⟨hb, hlt⟩)
      obtain ⟨j1, hj1, hy0, hy1, hy2⟩ := info_parts info_obj
      have g1' := g1
      rw [starsK_len] at g1'
      obtain ⟨v4', wE, hrun, hown4, hgrow, _, hbk⟩ := run_append_own_at (P := Try.prog) wD w2.heap.size 22 22 52 j1 _ 9 152 Try.underlying22 hj1 hy0 hy1 hy2 rfl (by decide) _ _ _ g1' ⟨z + 1 + 1 + 1, 0, none⟩ 1 1 [.string (nameO i), .bool false, .int .u64 0, .slice none 0 0, .string ⟨#[]⟩, .slice (some ⟨z + 1, 0, none⟩) 1 1, .slice none 0 0, .int .i64 0, .slice none 0 0] rfl (fun q u' hq => by
          rw [Addr.add_lit, Nat.zero_add, bn.cell]
          simpa using hq) (by simp [Value.oneCell']) (by unfold maxLen; omega) (by omega) (by omega)
      have hpush := RowQ.push (o := starO i) (l := starsK (i - 1)) g1 g2 g3 (fun b hb => hb.1.2.1) hol hgrow (by rw [starsK_len]; exact hown4)
      rw [← starsK_at hi1] at hpush
      rw [show i - 1 + 1 = i by omega] at hown4
      have hwg := Wr.ofGrownOwn hgrow
      have hs4 : s + 1 ∉ ownL (.slice A4 (i - 1) c4) := fun hm => by have := howl _ hm; omega
      have hz4 : z + 1 + 1 ∉ ownL (.slice A4 (i - 1) c4) := fun hm => by have := howl _ hm; omega
      have bmE := (BM.out.wr0 rAD).wr hwg hs4
      have boE := (bo.wr0 rD).wr hwg hz4
      have huseE := own_keep (own_keep HUSE.out rAD (fun _ _ => by simp)) hwg (fun b hb hm => HNE.out b hm (mem_ownL.2 hb))
      have raE : Wr [s + 1] w2 wE := (RACC.out.trans0 rAD).trans' hwg (fun x hx => .inr (howl x hx).1)
      obtain ⟨A4', c4', e4⟩ := own_shape hown4
      subst e4
      have hz4E : ∀ b, b ∈ ownL (.slice A4' i c4') → (b ∈ ownL (.slice A4 (i - 1) c4) ∨ b = wD.heap.size) ∧ b < wE.heap.size := fun b hb => by
        have hb' := mem_ownL.1 hb
        refine ⟨?_, (hown4.lt b hb').2⟩
        rcases hbk with h | h
        · rw [h] at hb'; exact .inl (mem_ownL.2 hb')
        · rw [h] at hb'; injection hb' with hb'; exact .inr hb'.symm
      -- the use
      obtain ⟨zE, hzE⟩ : ∃ q, wE.heap.size = q := ⟨_, rfl⟩
      obtain ⟨wF, hwF⟩ : ∃ q, wE.alloc (.cells #[.string (nameO i), .int .u64 0] 54) = q := ⟨_, rfl⟩
      have zF : wF.heap.size = zE + 1 := by rw [← hwF, World.size_alloc, hzE]
      have rF : Wr [] wE wF := by rw [← hwF]; exact (Wr.refl [] _).alloc _
      have bu : Blk wF zE 54 #[.string (nameO i), .int .u64 0] := by rw [← hwF, ← hzE]; exact Blk.new _ _ _
      obtain ⟨j2, hj2, hu0, hu1, hu2⟩ := info_parts info_use
      have hsE := raE.size
      obtain ⟨vu', wG, hrun2, hown5, hgrow2, _, hbk2⟩ := run_append_own_at (P := Try.prog) wF w2.heap.size 46 46 54 j2 _ 2 24 Try.underlying46 hj2 hu0 hu1 hu2 rfl (by decide) _ _ _ (own_keep huseE rF (fun _ _ => by simp)) ⟨zE, 0, none⟩ 1 1 [.string (nameO i), .int .u64 0] rfl (fun q u' hq => by
          rw [Addr.add_lit, Nat.zero_add, bu.cell]
          simpa using hq) (by simp [Value.oneCell']) (by unfold maxLen; omega) (by omega) (by omega)
      rw [show i - 1 + 1 = i by omega] at hown5
      have hwg2 := Wr.ofGrownOwn hgrow2
      have hsu : s + 1 ∉ ownL (.slice Au (i - 1) cu) := fun hm => by have := huwl _ hm; omega
      have bmG := (bmE.wr0 rF).wr hwg2 hsu
      have raG : Wr [s + 1] w2 wG := (raE.trans0 rF).trans' hwg2 (fun x hx => .inr (huwl x hx).1)
      have hzD : z < wD.heap.size := by omega
      have hDE := hwg.size
      have hrowG := (hpush.wr0 rF).keep hwg2 (fun b hb hm => by
        rcases (hz4E b (mem_ownL.2 hb)).1 with h | h
        · exact HNE.out b h hm
        · have := huwl b hm; omega) (fun b hb => hb.1.2.2)
      obtain ⟨Au', cu', e5⟩ := own_shape hown5
      subst e5
      obtain ⟨wH, hwH⟩ : ∃ q, wG.setCell ⟨s + 1, 3, none⟩ (.slice Au' i cu') = q := ⟨_, rfl⟩
      have rH : Wr [s + 1] wG wH := by rw [← hwH]; exact (Wr.refl _ _).setOn (by simp) _
      have bmH : Blk wH (s + 1) 52 #[.string ⟨#[77]⟩, .bool true, .int .u64 0, .slice Au' i cu', .string ⟨#[]⟩, .slice (some ⟨s, 0, none⟩) 1 1, .slice none 0 0, .int .i64 0, .slice none 0 0] := by
        rw [← hwH]
        have := bmG.set_ 3 (.slice Au' i cu')
        simpa using this
      have hrowH := hrowG.keep rH (fun b hb => by have := (hz4E b (mem_ownL.2 hb)).1; rcases this with h | h; (have := howl b h; simp; omega); (simp; omega)) (fun b hb => by simpa using hb.1.1)
      have huseH := own_keep hown5 rH (fun b hb => by have := (hown5.lt b hb).1; simp; omega)
      have hnu : ∀ b, b ∈ ownL (.slice Au' i cu') → b ∈ ownL (.slice Au (i - 1) cu) ∨ b = wF.heap.size := fun b hb => by
        have hb' := mem_ownL.1 hb
        rcases hbk2 with h | h
        · rw [h] at hb'; exact .inl (mem_ownL.2 hb')
        · rw [h] at hb'; injection hb' with hb'; exact .inr hb'.symm
      have huseH2 : wH.ownsRow w2.heap.size 54 2 (.slice Au' i cu') i ((usesK i).flatMap UseD.cells) := by
        rw [usesK_at hi1, List.flatMap_append]
        exact huseH
      have hfin : LongAt w2 s i (.slice A4' i c4') wH := by
        refine ⟨raG.trans rH, _, bmH, hrowH.into (fun b hb _ => ⟨hb.1.1, fun hm => ?_, fun hm => ?_⟩), huseH2, fun b hb hm => ?_⟩
        · rcases (hz4E b hm).1 with h | h
          · exact hb.1.2.1 h
          · have := hb.2; omega
        · rcases hnu b hm with h | h
          · exact hb.1.2.2 h
          · have := hb.2; omega
        · have h1 := hz4E b hb
          rcases hnu b hm with h | h
          · rcases h1.1 with h2 | h2
            · exact HNE.out b h2 h
            · have := huwl b h; omega
          · have := h1.2; omega
      have HFIN := Lib.hid hfin
      have HZ := Lib.hid hz
      have HWA := Lib.hid hwA
      have HWB := Lib.hid hwB
      have HWC := Lib.hid hwC
      have HWD := Lib.hid hwD
      have HWF := Lib.hid hwF
      have HWH := Lib.hid hwH
      have HZC := Lib.hid zC
      have HZE := Lib.hid hzE
      have HRUN := Lib.hid hrun
      have HRUN2 := Lib.hid hrun2
      have HNM := Lib.hid hname
      have BO := Lib.hid bo
      have BOE := Lib.hid boE
      have BME := Lib.hid bmE
      have BMG := Lib.hid bmG
      clear hz hname hnm hwA hwB hwC hwD zA zB zC zD rA rB rC rD bp bo bn rAD hb2 hbase howl huwl hol g1 g2 g3 g1' hj1 hy0 hy1 hy2 hrun hown4 hgrow hbk hpush hwg hs4 hz4 bmE boE huseE raE hz4E hzE hwF zF rF bu hj2 hu0 hu1 hu2 hsE hrun2 hown5 hgrow2 hbk2 hwg2 hsu bmG raG hzD hDE hrowG hwH rH bmH hrowH huseH hnu huseH2 hfin
      go_upto_region 8 with (fail)
      rw [HZ.out, HNM.out, HWA.out, HWB.out, HWC.out]
      clear hcv
      have o0 := BO.out.cell 0
      have o1 := BO.out.cell 1
      have o2 := BO.out.cell 2
      have o3 := BO.out.cell 3
      have o4 := BO.out.cell 4
      have o5 := BO.out.cell 5
      have o6 := BO.out.cell 6
      have o7 := BO.out.cell 7
      have o8 := BO.out.cell 8
      simp only [List.getElem?_toArray, List.getElem?_cons_zero, List.getElem?_cons_succ] at o0 o1 o2 o3 o4 o5 o6 o7 o8
      go_upto_region 9 with (at_builtin; rw [HZC.out, HWD.out]; refine wpList_append_run rfl _ _ _ rfl _ _ rfl rfl _ _ HRUN.out ?_)
      clear o0 o1 o2 o3 o4 o5 o6 o7 o8
      have m3 := BME.out.cell 3
      have o0 := BOE.out.cell 0
      have g3 := BMG.out.cell 3
      have f3 := BMG.out.frozen 3
      simp only [List.getElem?_toArray, List.getElem?_cons_zero, List.getElem?_cons_succ] at m3 o0 g3
      go_upto_region 6 with (at_builtin; rw [HZE.out, HWF.out]; refine wpList_append_run rfl _ _ _ rfl _ _ rfl rfl _ _ HRUN2.out ?_)
      rw [HWH.out]
      clear m3 o0 g3 f3
      go_wp2_with fail
      go_roundw
      case rel =>
        first
        | exact ⟨i + 1, by omega, by omega, by go_num, HFIN.out⟩
        | (repeat apply Exists.intro
           refine ⟨⟨i + 1, by omega, by omega, by go_num, HFIN.out⟩, ?_⟩
           rfl)
      case measure => simp [intOf]; omega
    · have hiN : i = N + 1 := by omega
      subst hiN
      simp only [Nat.add_sub_cancel] at *
      have hb2 := HB2.out
      have hbase : w2.heap.size ≤ wo.heap.size := RACC.out.size
      obtain ⟨zP, hzP⟩ : ∃ q, wo.heap.size = q := ⟨_, rfl⟩
      obtain ⟨wP, hwP⟩ : ∃ q, wo.alloc (.cells #[.string ⟨#[77]⟩, .bool true, .int .u64 0, .slice Au N cu, .string ⟨#[]⟩, .slice (some ⟨s, 0, none⟩) 1 1, .slice none 0 0, .int .i64 0, .slice none 0 0] 52) = q := ⟨_, rfl⟩
      have sP : wP.heap.size = zP + 1 := by rw [← hwP, World.size_alloc, hzP]
      have rP : Wr [] wo wP := by rw [← hwP]; exact (Wr.refl [] _).alloc _
      have bP : Blk wP zP 52 #[.string ⟨#[77]⟩, .bool true, .int .u64 0, .slice Au N cu, .string ⟨#[]⟩, .slice (some ⟨s, 0, none⟩) 1 1, .slice none 0 0, .int .i64 0, .slice none 0 0] := by rw [← hwP, ← hzP]; exact Blk.new _ _ _
      have howl : ∀ b, b ∈ ownL (.slice A4 N c4) → w2.heap.size ≤ b := fun b hb => by
        obtain ⟨_, h1, _⟩ := HROW.out
        rw [starsK_len] at h1
        exact (h1.lt b (mem_ownL.1 hb)).1
      obtain ⟨xs, g1, g2, g3⟩ := (HROW.out.wr0 rP).into (R := fun b => b ∉ ownL (.slice A4 N c4)) (fun b hb _ => hb.2.1)
      have hol : ObjL wP (fun b => b ∉ ownL (.slice A4 N c4)) (.slice Au N cu) (.slice (some ⟨s, 0, none⟩) 1 1) (.slice none 0 0) (.slice none 0 0) (starM N) := by
        refine ⟨?_, ⟨?_, Sl.nil _ _ 1, Sl.nil _ _ 1⟩⟩
        · have := Sl.ofOwn (P := fun b => b ∉ ownL (.slice A4 N c4)) (own_keep HUSE.out rP (fun _ _ => by simp)) (fun b hb hm => HNE.out b hm (mem_ownL.2 hb))
          show Sl _ _ 2 _ (usesK N).length _
          rw [usesK_len]
          exact this
        · have hbp := (BP.out.wr RACC.out (by simp)).wr0 rP
          refine ⟨_, _, rfl, Nat.le_refl _, by unfold maxLen; omega, rfl, fun j u hj => ⟨s, 0, rfl, fun hm => ?_, ?_⟩⟩
          · have := howl _ hm; omega
          · rw [Nat.zero_add, hbp.cell, List.getElem?_toArray]
            exact hj
      obtain ⟨j1, hj1, hy0, hy1, hy2⟩ := info_parts info_obj
      have g1' := g1
      rw [starsK_len] at g1'
      obtain ⟨v5, wQ, hrun, hown4, hgrow, _, hbk⟩ := run_append_own_at (P := Try.prog) wP w2.heap.size 22 22 52 j1 _ 9 152 Try.underlying22 hj1 hy0 hy1 hy2 rfl (by decide) _ _ _ g1' ⟨zP, 0, none⟩ 1 1 [.string ⟨#[77]⟩, .bool true, .int .u64 0, .slice Au N cu, .string ⟨#[]⟩, .slice (some ⟨s, 0, none⟩) 1 1, .slice none 0 0, .int .i64 0, .slice none 0 0] rfl (fun q u' hq => by
          rw [Addr.add_lit, Nat.zero_add, bP.cell]
          simpa using hq) (by simp [Value.oneCell']) (by unfold maxLen; omega) (by omega) (by omega)
      have hpush := RowQ.push (o := starM N) (l := starsK N) g1 g2 g3 (fun b hb => hb) hol hgrow (by rw [starsK_len]; exact hown4)
      have hsl : SlObjs wQ (fun _ => True) v5 (starL N) := hpush.sl
      have hwg := Wr.ofGrownOwn hgrow
      have rQ : Wr [] w wQ := by
        have h1 : Wr [] w wo := R2.out.new RACC.out (by rw [HS.out]; omega)
        exact (h1.trans rP).trans' hwg (fun x hx => .inr (by have := howl x hx; have := R2.out.size; omega))
      obtain ⟨A5, c5, e5, _, _⟩ := hsl.form
      subst e5
      have hlen : (starL N).length = N + 1 := by simp [starL]
      have hmay : ∃ who en f2, (linkP (starL N) ⟨#[77]⟩).2 = (who, en) ∧ (linkP (twoD 7 65435 (92 + (k0 : Int))) ⟨#[77]⟩).2 = (f2, en) ∧ ((k0 ≤ 8 ∧ en = 0) ∨ (8 < k0 ∧ en = 5 ∧ who = ⟨#[77]⟩)) := by
        have h1 : endP (starL (55 + k0)) ⟨#[77]⟩ = if 55 + k0 + 1 ≤ 64 then (⟨#[]⟩, 0) else (⟨#[77]⟩, 5) := star_ends ⟨k0, by omega⟩
        have h2 : endP (twoD 7 65435 (92 + (k0 : Int))) ⟨#[77]⟩ = if 92 + k0 ≤ 100 then (⟨#[]⟩, 0) else (⟨#[77]⟩, 5) := two_ends ⟨k0, by omega⟩
        unfold endP at h1 h2
        have hNN := HN.out
        rw [← hNN] at h1
        by_cases hk : k0 ≤ 8
        · rw [if_pos (show N + 1 ≤ 64 by omega)] at h1
          rw [if_pos (show 92 + k0 ≤ 100 by omega)] at h2
          exact ⟨_, _, _, h1, h2, .inl ⟨hk, rfl⟩⟩
        · rw [if_neg (show ¬ N + 1 ≤ 64 by omega)] at h1
          rw [if_neg (show ¬ 92 + k0 ≤ 100 by omega)] at h2
          exact ⟨_, _, _, h1, h2, .inr ⟨by omega, rfl, rfl⟩⟩
      obtain ⟨who, en, f2, hl1, hl2, hcase⟩ := hmay
      have hlk := link_ans (starL N) _ ⟨#[77]⟩ who en wQ hsl (by rw [hlen]; omega) (fun o ho => by
        have hm : o ∈ starsK N ++ [starM N] := ho
        rcases List.mem_append.1 hm with hm | hm
        · obtain ⟨j, _, rfl⟩ := List.mem_map.1 hm
          simp [starO]
        · rw [List.mem_singleton] at hm
          subst hm
          show (usesK N).length ≤ _
          rw [usesK_len]
          omega) hl1
      have hx2 : (100 : Int) + over.tmod 9 = 92 + (k0 : Int) := by rw [HX.out]; omega
      have HX2 := Lib.hid hx2
      have HLK := Lib.hid hlk
      have HL2 := Lib.hid hl2
      have HCASE := Lib.hid hcase
      have HRUN := Lib.hid hrun
      have HZP := Lib.hid hzP
      have HWP := Lib.hid hwP
      have RQ := Lib.hid rQ
      have m0 := BM.out.cell 0
      have m1 := BM.out.cell 1
      have m2 := BM.out.cell 2
      have m3 := BM.out.cell 3
      have m4 := BM.out.cell 4
      have m5 := BM.out.cell 5
      have m6 := BM.out.cell 6
      have m7 := BM.out.cell 7
      have m8 := BM.out.cell 8
      simp only [List.getElem?_toArray, List.getElem?_cons_zero, List.getElem?_cons_succ] at m0 m1 m2 m3 m4 m5 m6 m7 m8
      clear hb2 hbase hzP hwP sP rP bP howl g1 g2 g3 hol hj1 hy0 hy1 hy2 g1' hrun hown4 hgrow hbk hpush hsl hwg rQ hlen hl1 hl2 hcase hlk hx2
      go_wp2_with (at_builtin; rw [HZP.out, HWP.out]; refine wpList_append_run rfl _ _ _ rfl _ _ rfl rfl _ _ HRUN.out ?_)
      refine HLK.out.mono ?_
      rintro e w5 ⟨B1, B2, B3, n1, n2, n3, d1, d2, d3, rfl, r5⟩
      clear m0 m1 m2 m3 m4 m5 m6 m7 m8
      have R5 := Lib.hid ((RQ.out.trans r5).alloc (.cells #[.slice B1 n1 d1, .slice B2 n2 d2, .slice B3 n3 d3] 31))
      clear r5
      obtain ⟨w6, hw6⟩ : ∃ w6, w5.alloc (.cells #[.slice B1 n1 d1, .slice B2 n2 d2, .slice B3 n3 d3] 31) = w6 := ⟨_, rfl⟩
      rw [hw6] at R5
      have HW6 := Lib.hid hw6
      clear hw6
      go_upto_region 11 with (fail)
      rw [HW6.out]
      go_wp2_with fail
      refine (two_anyQ 7 _).mono ?_
      rintro e w7 ⟨g, rfl, r7, hr7⟩
      have R7 := Lib.hid (R5.out.trans r7)
      obtain ⟨hg7, hf7, vu, vp, vi, vn, hc7, ho7⟩ := RowQ.at_ (l := twoD 7 0 0) hr7 (p := 0) rfl
      have HR7 := Lib.hid hr7
      obtain ⟨Bu, du, rfl, _, _⟩ := Sl.form ho7.uses
      obtain ⟨Bp, dp, rfl, _, _⟩ := Sl.form ho7.mod.procs
      obtain ⟨Bi, di, rfl, _, _⟩ := Sl.form ho7.mod.imports
      obtain ⟨Bn, dn, rfl, _, _⟩ := Sl.form ho7.mod.init
      have x0 : w7.cell? ⟨g, 0, none⟩ = some (.string ⟨#[77]⟩) := hc7 0 _ rfl
      have x1 : w7.cell? ⟨g, 1, none⟩ = some (.bool true) := hc7 1 _ rfl
      have x2 : w7.cell? ⟨g, 2, none⟩ = some (.int .u64 0) := hc7 2 _ rfl
      have x3 : w7.cell? ⟨g, 3, none⟩ = some (.slice Bu 1 du) := hc7 3 _ rfl
      have x4 : w7.cell? ⟨g, 4, none⟩ = some (.string ⟨#[]⟩) := hc7 4 _ rfl
      have x5 : w7.cell? ⟨g, 5, none⟩ = some (.slice Bp 1 dp) := hc7 5 _ rfl
      have x6 : w7.cell? ⟨g, 6, none⟩ = some (.slice Bi 0 di) := hc7 6 _ rfl
      have x7 : w7.cell? ⟨g, 7, none⟩ = some (.int .i64 0) := hc7 7 _ rfl
      have x8 : w7.cell? ⟨g, 8, none⟩ = some (.slice Bn 0 dn) := hc7 8 _ rfl
      have HO7 := Lib.hid ho7
      have hcx : ∀ j u, (ObjD.cells ⟨⟨#[77]⟩, true, 0, [⟨⟨#[83]⟩, 7⟩], { bodyM with data := 0 }⟩ (.slice Bu 1 du) (.slice Bp 1 dp) (.slice Bi 0 di) (.slice Bn 0 dn))[j]? = some u → w7.cell? ⟨g, j, none⟩ = some u := fun j u hj => by
        have := hc7 j u hj
        rwa [Nat.zero_mul, Nat.zero_add] at this
      have HX7 := Lib.hid hcx
      have HG7 := Lib.hid hg7
      clear r7 hr7 hc7 ho7 hf7 hg7 hcx
      obtain ⟨zt, hzt⟩ : ∃ q, w7.heap.size = q := ⟨_, rfl⟩
      obtain ⟨wt, hwt⟩ : ∃ q, w7.alloc (.cells #[.string ⟨#[77]⟩, .bool true, .int .u64 0, .slice Bu 1 du, .string ⟨#[]⟩, .slice Bp 1 dp, .slice Bi 0 di, .int .i64 0, .slice Bn 0 dn] 52) = q := ⟨_, rfl⟩
      have rt : Wr [] w7 wt := by rw [← hwt]; exact (Wr.refl [] _).alloc _
      have bt : Blk wt zt 52 #[.string ⟨#[77]⟩, .bool true, .int .u64 0, .slice Bu 1 du, .string ⟨#[]⟩, .slice Bp 1 dp, .slice Bi 0 di, .int .i64 0, .slice Bn 0 dn] := by rw [← hwt, ← hzt]; exact Blk.new _ _ _
      have HZT := Lib.hid hzt
      have HWT := Lib.hid hwt
      have RT := Lib.hid rt
      have BT := Lib.hid bt
      clear hzt hwt rt bt
      go_upto_region 13 with (fail)
      rw [HZT.out, HWT.out]
      clear x0 x1 x2 x3 x4 x5 x6 x7 x8
      have y7 := BT.out.cell 7
      have f7 := BT.out.frozen 7
      simp only [List.getElem?_toArray, List.getElem?_cons_zero, List.getElem?_cons_succ] at y7
      go_upto_region 14 with (fail)
      obtain ⟨wu, hwu⟩ : ∃ q, wt.setCell ⟨zt, 7, none⟩ (.int .i64 65435) = q := ⟨_, rfl⟩
      have ru : Wr [] w7 wu := by rw [← hwu]; exact RT.out.setNew (by rw [HZT.out]; exact Nat.le_refl _) _
      have bu : Blk wu zt 52 #[.string ⟨#[77]⟩, .bool true, .int .u64 0, .slice Bu 1 du, .string ⟨#[]⟩, .slice Bp 1 dp, .slice Bi 0 di, .int .i64 65435, .slice Bn 0 dn] := by
        rw [← hwu]
        have := BT.out.set_ 7 (.int .i64 65435)
        simpa using this
      have hr8 := HR7.out.wr0 ru
      obtain ⟨_, hf8, _⟩ := RowQ.at_ (l := twoD 7 0 0) hr8 (p := 0) rfl
      obtain ⟨wv, hwv⟩ : ∃ q, (((((((((wu.setCell ⟨g, 0, none⟩ (.string ⟨#[77]⟩)).setCell ⟨g, 1, none⟩ (.bool true)).setCell ⟨g, 2, none⟩ (.int .u64 0)).setCell ⟨g, 3, none⟩ (.slice Bu 1 du)).setCell ⟨g, 4, none⟩ (.string ⟨#[]⟩)).setCell ⟨g, 5, none⟩ (.slice Bp 1 dp)).setCell ⟨g, 6, none⟩ (.slice Bi 0 di)).setCell ⟨g, 7, none⟩ (.int .i64 65435)).setCell ⟨g, 8, none⟩ (.slice Bn 0 dn)) = q := ⟨_, rfl⟩
      have hol1 : ObjL wu (fun b => b ≠ g) (.slice Bu 1 du) (.slice Bp 1 dp) (.slice Bi 0 di) (.slice Bn 0 dn) ⟨⟨#[77]⟩, true, 0, [⟨⟨#[83]⟩, 7⟩], { bodyM with data := 65435 }⟩ := ⟨(HO7.out.wr0 ru).uses, ⟨(HO7.out.wr0 ru).mod.procs, (HO7.out.wr0 ru).mod.imports, (HO7.out.wr0 ru).mod.init⟩⟩
      obtain ⟨rv, hr9⟩ := RowQ.put (l := twoD 7 0 0) hr8 (p := 0) (by decide) hol1 (fun b hb => hb) hwv.symm
      have hcells : ∀ j u, (ObjD.cells ⟨⟨#[77]⟩, true, 0, [⟨⟨#[83]⟩, 7⟩], { bodyM with data := 0 }⟩ (.slice Bu 1 du) (.slice Bp 1 dp) (.slice Bi 0 di) (.slice Bn 0 dn))[j]? = some u → wu.cell? ⟨g, j, none⟩ = some u := fun j u hj => ru.cellOf (HX7.out j u hj) (by simp)
      have x0 : wu.cell? ⟨g, 0, none⟩ = some (.string ⟨#[77]⟩) := hcells 0 _ rfl
      have x1 : wu.cell? ⟨g, 1, none⟩ = some (.bool true) := hcells 1 _ rfl
      have x2 : wu.cell? ⟨g, 2, none⟩ = some (.int .u64 0) := hcells 2 _ rfl
      have x3 : wu.cell? ⟨g, 3, none⟩ = some (.slice Bu 1 du) := hcells 3 _ rfl
      have x4 : wu.cell? ⟨g, 4, none⟩ = some (.string ⟨#[]⟩) := hcells 4 _ rfl
      have x5 : wu.cell? ⟨g, 5, none⟩ = some (.slice Bp 1 dp) := hcells 5 _ rfl
      have x6 : wu.cell? ⟨g, 6, none⟩ = some (.slice Bi 0 di) := hcells 6 _ rfl
      have x7 : wu.cell? ⟨g, 7, none⟩ = some (.int .i64 0) := hcells 7 _ rfl
      have x8 : wu.cell? ⟨g, 8, none⟩ = some (.slice Bn 0 dn) := hcells 8 _ rfl
      have rv2 : Wr [] w wv := (R7.out.trans ru).new rv (Nat.le_trans R5.out.size HG7.out)
      have HWU := Lib.hid hwu
      have HWV := Lib.hid hwv
      have HR9 := Lib.hid hr9
      have RV := Lib.hid rv2
      have BU := Lib.hid bu
      clear y7 f7
      have q0 := hf8 0
      have q1 := hf8 1
      have q2 := hf8 2
      have q3 := hf8 3
      have q4 := hf8 4
      have q5 := hf8 5
      have q6 := hf8 6
      have q7 := hf8 7
      have q8 := hf8 8
      have y0 := BU.out.cell 0
      have y1 := BU.out.cell 1
      have y2 := BU.out.cell 2
      have y3 := BU.out.cell 3
      have y4 := BU.out.cell 4
      have y5 := BU.out.cell 5
      have y6 := BU.out.cell 6
      have y7 := BU.out.cell 7
      have y8 := BU.out.cell 8
      simp only [List.getElem?_toArray, List.getElem?_cons_zero, List.getElem?_cons_succ] at y0 y1 y2 y3 y4 y5 y6 y7 y8
      have hne : g ≠ zt := by
        have h1 := (HR7.out)
        obtain ⟨xs, h1, _⟩ := h1
        have := own_lt h1 g rfl
        have := HZT.out
        omega
      clear hwu ru bu hr8 hwv hol1 rv hr9 hcells rv2 hf8
      rw [HWU.out]
      go_upto_region 15 with (fail)
      rw [HWV.out]
      clear x0 x1 x2 x3 x4 x5 x6 x7 x8 y0 y1 y2 y3 y4 y5 y6 y7 y8 q0 q1 q2 q3 q4 q5 q6 q7 q8
      obtain ⟨hg9, hf9, cu2, cp2, ci2, cn2, hc9, ho9⟩ := RowQ.at_ (l := (twoD 7 0 0).set 0 ⟨⟨#[77]⟩, true, 0, [⟨⟨#[83]⟩, 7⟩], { bodyM with data := 65435 }⟩) HR9.out (p := 1) rfl
      obtain ⟨Cu, eu, rfl, _, _⟩ := Sl.form ho9.uses
      obtain ⟨Cp, ep, rfl, _, _⟩ := Sl.form ho9.mod.procs
      obtain ⟨Ci, ei, rfl, _, _⟩ := Sl.form ho9.mod.imports
      obtain ⟨Cn, en', rfl, _, _⟩ := Sl.form ho9.mod.init
      have x0 : wv.cell? ⟨g, 9, none⟩ = some (.string ⟨#[83]⟩) := hc9 0 _ rfl
      have x1 : wv.cell? ⟨g, 10, none⟩ = some (.bool false) := hc9 1 _ rfl
      have x2 : wv.cell? ⟨g, 11, none⟩ = some (.int .u64 7) := hc9 2 _ rfl
      have x3 : wv.cell? ⟨g, 12, none⟩ = some (.slice Cu 0 eu) := hc9 3 _ rfl
      have x4 : wv.cell? ⟨g, 13, none⟩ = some (.string ⟨#[]⟩) := hc9 4 _ rfl
      have x5 : wv.cell? ⟨g, 14, none⟩ = some (.slice Cp 1 ep) := hc9 5 _ rfl
      have x6 : wv.cell? ⟨g, 15, none⟩ = some (.slice Ci 0 ei) := hc9 6 _ rfl
      have x7 : wv.cell? ⟨g, 16, none⟩ = some (.int .i64 0) := hc9 7 _ rfl
      have x8 : wv.cell? ⟨g, 17, none⟩ = some (.slice Cn 0 en') := hc9 8 _ rfl
      obtain ⟨zs, hzs⟩ : ∃ q, wv.heap.size = q := ⟨_, rfl⟩
      obtain ⟨ws, hws⟩ : ∃ q, wv.alloc (.cells #[.string ⟨#[83]⟩, .bool false, .int .u64 7, .slice Cu 0 eu, .string ⟨#[]⟩, .slice Cp 1 ep, .slice Ci 0 ei, .int .i64 0, .slice Cn 0 en'] 52) = q := ⟨_, rfl⟩
      have rs : Wr [] wv ws := by rw [← hws]; exact (Wr.refl [] _).alloc _
      have bs : Blk ws zs 52 #[.string ⟨#[83]⟩, .bool false, .int .u64 7, .slice Cu 0 eu, .string ⟨#[]⟩, .slice Cp 1 ep, .slice Ci 0 ei, .int .i64 0, .slice Cn 0 en'] := by rw [← hws, ← hzs]; exact Blk.new _ _ _
      obtain ⟨wy, hwy⟩ : ∃ q, ws.setCell ⟨zs, 7, none⟩ (.int .i64 (92 + (k0 : Int))) = q := ⟨_, rfl⟩
      have ry : Wr [] wv wy := by rw [← hwy]; exact rs.setNew (by rw [hzs]; exact Nat.le_refl _) _
      have by_ : Blk wy zs 52 #[.string ⟨#[83]⟩, .bool false, .int .u64 7, .slice Cu 0 eu, .string ⟨#[]⟩, .slice Cp 1 ep, .slice Ci 0 ei, .int .i64 (92 + (k0 : Int)), .slice Cn 0 en'] := by
        rw [← hwy]
        have := bs.set_ 7 (.int .i64 (92 + (k0 : Int)))
        simpa using this
      have hr10 := HR9.out.wr0 ry
      obtain ⟨_, hf10, _⟩ := RowQ.at_ (l := (twoD 7 0 0).set 0 ⟨⟨#[77]⟩, true, 0, [⟨⟨#[83]⟩, 7⟩], { bodyM with data := 65435 }⟩) hr10 (p := 0) rfl
      obtain ⟨wz, hwz⟩ : ∃ q, (((((((((wy.setCell ⟨g, 9, none⟩ (.string ⟨#[83]⟩)).setCell ⟨g, 10, none⟩ (.bool false)).setCell ⟨g, 11, none⟩ (.int .u64 7)).setCell ⟨g, 12, none⟩ (.slice Cu 0 eu)).setCell ⟨g, 13, none⟩ (.string ⟨#[]⟩)).setCell ⟨g, 14, none⟩ (.slice Cp 1 ep)).setCell ⟨g, 15, none⟩ (.slice Ci 0 ei)).setCell ⟨g, 16, none⟩ (.int .i64 (92 + (k0 : Int)))).setCell ⟨g, 17, none⟩ (.slice Cn 0 en')) = q := ⟨_, rfl⟩
      have hol2 : ObjL wy (fun b => b ≠ g) (.slice Cu 0 eu) (.slice Cp 1 ep) (.slice Ci 0 ei) (.slice Cn 0 en') ⟨⟨#[83]⟩, false, 7, [], { bodyM with data := 92 + (k0 : Int) }⟩ := ⟨(ho9.wr0 ry).uses, ⟨(ho9.wr0 ry).mod.procs, (ho9.wr0 ry).mod.imports, (ho9.wr0 ry).mod.init⟩⟩
      obtain ⟨rz, hr11⟩ := RowQ.put (l := (twoD 7 0 0).set 0 ⟨⟨#[77]⟩, true, 0, [⟨⟨#[83]⟩, 7⟩], { bodyM with data := 65435 }⟩) hr10 (p := 1) (by decide) hol2 (fun b hb => hb) hwz.symm
      have hsl2 : SlObjs wz (fun _ => True) (.slice (some ⟨g, 0, none⟩) 2 2) (twoD 7 65435 (92 + (k0 : Int))) := hr11.sl
      have hne2 : g ≠ zs := by
        obtain ⟨xs, h1, _⟩ := HR9.out
        have := own_lt h1 g rfl
        omega
      have rz2 : Wr [] w wz := (RV.out.trans ry).new rz (Nat.le_trans R5.out.size HG7.out)
      have hcells2 : ∀ j u, (ObjD.cells ⟨⟨#[83]⟩, false, 7, [], { bodyM with data := 0 }⟩ (.slice Cu 0 eu) (.slice Cp 1 ep) (.slice Ci 0 ei) (.slice Cn 0 en'))[j]? = some u → wy.cell? ⟨g, 1 * 9 + j, none⟩ = some u := fun j u hj => ry.cellOf (hc9 j u hj) (by simp)
      have HC2 := Lib.hid hcells2
      have HZS := Lib.hid hzs
      have HWS := Lib.hid hws
      have HWY := Lib.hid hwy
      have HWZ := Lib.hid hwz
      have BS := Lib.hid bs
      have BY := Lib.hid by_
      have HF10 := Lib.hid hf10
      have HSL2 := Lib.hid hsl2
      have RZ := Lib.hid rz2
      clear hg9 hf9 hc9 ho9 hzs hws rs bs hwy ry by_ hr10 hf10 hwz hol2 rz hr11 hsl2 rz2 hcells2
      go_upto_region 16 with (fail)
      rw [HZS.out, HWS.out]
      clear x0 x1 x2 x3 x4 x5 x6 x7 x8
      have y7 := BS.out.cell 7
      have f7 := BS.out.frozen 7
      simp only [List.getElem?_toArray, List.getElem?_cons_zero, List.getElem?_cons_succ] at y7
      go_upto_region 17 with (fail)
      rw [HX2.out, HWY.out]
      clear y7 f7
      have x0 : wy.cell? ⟨g, 9, none⟩ = some (.string ⟨#[83]⟩) := HC2.out 0 _ rfl
      have x1 : wy.cell? ⟨g, 10, none⟩ = some (.bool false) := HC2.out 1 _ rfl
      have x2 : wy.cell? ⟨g, 11, none⟩ = some (.int .u64 7) := HC2.out 2 _ rfl
      have x3 : wy.cell? ⟨g, 12, none⟩ = some (.slice Cu 0 eu) := HC2.out 3 _ rfl
      have x4 : wy.cell? ⟨g, 13, none⟩ = some (.string ⟨#[]⟩) := HC2.out 4 _ rfl
      have x5 : wy.cell? ⟨g, 14, none⟩ = some (.slice Cp 1 ep) := HC2.out 5 _ rfl
      have x6 : wy.cell? ⟨g, 15, none⟩ = some (.slice Ci 0 ei) := HC2.out 6 _ rfl
      have x7 : wy.cell? ⟨g, 16, none⟩ = some (.int .i64 0) := HC2.out 7 _ rfl
      have x8 : wy.cell? ⟨g, 17, none⟩ = some (.slice Cn 0 en') := HC2.out 8 _ rfl
      have q0 := HF10.out 9
      have q1 := HF10.out 10
      have q2 := HF10.out 11
      have q3 := HF10.out 12
      have q4 := HF10.out 13
      have q5 := HF10.out 14
      have q6 := HF10.out 15
      have q7 := HF10.out 16
      have q8 := HF10.out 17
      have y0 := BY.out.cell 0
      have y1 := BY.out.cell 1
      have y2 := BY.out.cell 2
      have y3 := BY.out.cell 3
      have y4 := BY.out.cell 4
      have y5 := BY.out.cell 5
      have y6 := BY.out.cell 6
      have y7 := BY.out.cell 7
      have y8 := BY.out.cell 8
      simp only [List.getElem?_toArray, List.getElem?_cons_zero, List.getElem?_cons_succ] at y0 y1 y2 y3 y4 y5 y6 y7 y8
      go_upto_region 18 with (fail)
      rw [HWZ.out]
      clear x0 x1 x2 x3 x4 x5 x6 x7 x8 y0 y1 y2 y3 y4 y5 y6 y7 y8 q0 q1 q2 q3 q4 q5 q6 q7 q8
      go_wp2_with fail
      refine (link_ans _ _ _ _ _ _ HSL2.out (few_two 7 65435 _).1 (few_two 7 65435 _).2 HL2.out).mono ?_
      rintro e w11 ⟨D1, D2, D3, k1, k2, k3, f1, f2', f3, rfl, r11⟩
      have R11 := Lib.hid ((RZ.out.trans r11).alloc (.cells #[.slice D1 k1 f1, .slice D2 k2 f2', .slice D3 k3 f3] 31))
      clear r11
      obtain ⟨w12, hw12⟩ : ∃ w12, w11.alloc (.cells #[.slice D1 k1 f1, .slice D2 k2 f2', .slice D3 k3 f3] 31) = w12 := ⟨_, rfl⟩
      rw [hw12] at R11
      have HW12 := Lib.hid hw12
      clear hw12
      go_upto_region 19 with (fail)
      rw [HW12.out]
      rcases HCASE.out with ⟨h8, he⟩ | ⟨h8, he, hw⟩
      · subst he
        have hd : decide (over.tmod 9 ≤ 0) = true := decide_eq_true (by have := HX.out; omega)
        go_wp2_with fail
        refine (hal _).mono ?_
        rintro e w14 ⟨rfl, r14⟩
        go_wp2_with fail
        go_ret
        exact ⟨rfl, R11.out.trans r14⟩
      · subst he
        subst hw
        have hd : decide (over.tmod 9 ≤ 0) = false := decide_eq_false (by have := HX.out; omega)
        go_wp2_with fail
        refine (hal _).mono ?_
        rintro e w14 ⟨rfl, r14⟩
        go_wp2_with fail
        go_ret
        exact ⟨rfl, R11.out.trans r14⟩
end Go.Proofs.Ytfeeeogkkajefaa
