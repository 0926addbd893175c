/- law 12's table: walked. Conditions: no more types and records than the statements play. -/
import Derived.Test.YtloihffdolehhaaLyX
namespace Go.Proofs.Ytloihffdolehhaa
open Go.RowKit
set_option linter.unusedVariables false
set_option linter.unusedSimpArgs false
attribute [local go_sem ↓] Go.wp_at_zero Go.wp_at_succ

def addR (tys : List Ty) (m : RecD) : List Ty := tys ++ [m.ty tys.length]
def tabR (tys : List Ty) (l : List RecD) : List Ty := l.foldl addR tys
theorem tabR_take (tys : List Ty) (l : List RecD) (k : Nat) (m : RecD) (h : l[k]? = some m) : tabR tys (l.take (k + 1)) = addR (tabR tys (l.take k)) m := by
  unfold tabR
  rw [List.take_add_one, h, List.foldl_append]
  rfl
theorem tabR_len (tys : List Ty) : ∀ l : List RecD, (tabR tys l).length = tys.length + l.length := by
  intro l
  induction l generalizing tys with
  | nil => rfl
  | cons m l ih =>
    show (tabR (addR tys m) l).length = _
    rw [ih, addR]
    simp
    omega
theorem recTy_room (m : RecD) (n : Int) (hf : m.fs.length ≤ 200) : (m.ty n).room := by
  have hc : ∀ i, m.cnt i ≤ 67 := fun i => by unfold RecD.cnt; omega
  refine ⟨by simp [RecD.ty], by simp [RecD.ty, RecD.flds]; omega, by simp [RecD.ty, RecD.arms], by simp [RecD.ty], fun x hx => ?_⟩
  obtain ⟨i, _, rfl⟩ := List.mem_map.1 hx
  have := hc i
  simp only [RecD.arm, pick_len]
  omega
/-- At the head of a round. -/
def Tables2At (w0 : World) (t r : Nat) (tys0 : List Ty) (l : List RecD) (s8 : Value) (wr : World) : Prop :=
  ∃ (k : Nat) (vt vr : Value) (L : List Nat), k ≤ l.length ∧ s8 = .int .i64 k ∧ Two w0 wr t r vt vr L (tabR tys0 (l.take k))
set_option maxHeartbeats 8000000 in
theorem table2_any (w0 : World) (v v1 : Value) (l : List MadeD) (recs : List RecD) (h : IsMades w0 v l) (h1 : IsRecs w0 v1 recs) (hl : l.length ≤ 20) (hr4 : recs.length ≤ 4) (hf : ∀ m ∈ recs, m.fs.length ≤ 200) :
    Calls Try.prog 10 #[v, v1] w0 (fun e w' => ∃ t r vt vr L, e = .returned (.tuple #[.pointer (some ⟨t, 0, none⟩), .pointer (some ⟨r, 0, none⟩)]) ∧ Two w0 w' t r vt vr L (tabR (tabL (l.take 40)) recs)) := by
  have htb := tables_any w0 v l h
  obtain ⟨A, c, rfl, hc, hcm, hroom, hin⟩ := h1
  unfold maxLen at hcm
  have HIN := Lib.hid hin
  have HF := Lib.hid hf
  clear hroom hin h hf
  go_enter Try.func10, Try.ntmps10
  go_wp2_with fail
  refine htb.mono ?_
  clear htb
  rintro e w1 ⟨t, r, vt, vr, L, rfl, two⟩
  have hln0 := tabL_len (l.take 40) 40 (by omega)
  rw [List.take_take, Nat.min_self] at hln0
  generalize hgen : tabL (l.take 40) = tysA at *
  have HGEN := Lib.hid hgen
  clear hgen
  have at0 : Tables2At w0 t r tysA recs (.int .i64 0) w1 := ⟨0, vt, vr, L, Nat.zero_le _, rfl, two⟩
  have AT0 := Lib.hid at0
  clear two at0
  go_wp2_with fail
  go_loopw [8] (fun s8 wr => Tables2At w0 t r tysA recs s8 wr) (fun s8 _ => 10 - (intOf s8).toNat)
  case atStart => exact AT0.out
  case round =>
    clear AT0
    obtain ⟨k, vt, vr, L, hk, rfl, h2⟩ := hrel
    by_cases hlt : k < recs.length
    · obtain ⟨m, hx⟩ : ∃ x, recs[k]? = some x := ⟨recs[k], List.getElem?_eq_getElem hlt⟩
      obtain ⟨bb, off, rfl, hm⟩ := HIN.out k m hx
      have hmf := HF.out m (List.mem_of_getElem? hx)
      have htl := tabR_take tysA recs k m hx
      have hln := tabR_len tysA (recs.take k)
      rw [List.length_take, Nat.min_eq_left (by omega)] at hln
      replace hln : 10 ≤ (tabR tysA (recs.take k)).length ∧ (tabR tysA (recs.take k)).length ≤ 60 := by omega
      generalize tabR tysA (recs.take k) = tys at *
      have hm2 := hm.wr0 h2.wr
      obtain ⟨AT, AA, AF, AO, cT, cA, cF, cO, hT, hA, hFs, hO, c0, c1, c2, c3⟩ := hm2
      obtain ⟨xs, ho, hx1, hx2⟩ := h2.doc.row
      obtain ⟨Ao, co, hvo, _, _⟩ := Sl.form (P := fun _ => True) (Sl.ofOwn ho (fun _ _ => trivial))
      subst hvo
      have hr0 := h2.doc.blk.cell 0
      simp only [List.getElem?_toArray, List.getElem?_cons_zero] at hr0
      have e9 := World.new_ne wr _ hr0
      have e0 := World.new_ne wr _ c0
      have hz0 := World.block_lt_of_cell? wr _ c0
      have hz9 := h2.doc.blk.lt
      have hmk : ∀ W, Wr [] wr W → Calls Try.prog 19 #[.agg #[.slice AT m.ts.length cT, .slice AA m.ars.length cA, .slice AF m.fs.length cF, .slice AO m.tos.length cO], .int .i64 tys.length] W (CopyP W (m.ty tys.length)) := fun W hW =>
        rec_any W m tys.length AT AA AF AO cT cA cF cO (hT.wr0 hW) (hA.wr0 hW) (hFs.wr0 hW) (hO.wr0 hW) (by omega) hmf
      have hrm := recTy_room m tys.length hmf
      have hmy : mayB (m.ty tys.length).kind = true := by show mayB 12 = true; decide
      obtain ⟨ty, hty⟩ : ∃ ty, ty = m.ty tys.length := ⟨_, rfl⟩
      rw [← hty] at hmk hrm hmy
      have HTY := Lib.hid hty
      clear hty
      have HMK := Lib.hid hmk
      have H2 := Lib.hid h2
      have HX := Lib.hid hx
      have HMY := Lib.hid hmy
      clear hmk h2 hx hm hT hA hFs hO ho hx1 hx2 hmy
      go_upto_region 5 with (fail)
      go_cut [9] (fun s7 wx => MadeNow wr ty s7 wx)
      case first =>
        go_region_with (first
          | (go_at_call 19; (with_reducible refine (HMK.out _ (Wr.refl [] wr).drew).mono ?_); rintro e w4 ⟨vn, vf, va, vp, rfl, r4, hl⟩
             obtain ⟨⟨A1, k1, rfl⟩, ⟨A2, k2, rfl⟩, ⟨A3, k3, rfl⟩, ⟨A4, k4, rfl⟩⟩ := hl.forms
             have acc4 := Acc0.mk ((Wr.refl [] wr).drew.trans r4); have hz4 : wr.heap.size ≤ w4.heap.size := acc4.h.size
             have HL := Lib.hid hl; clear hl r4; unfold Ty.val Ty.cells)
          | (go_at_call 19; (with_reducible refine (HMK.out _ ((Wr.refl [] wr).alloc _).drew).mono ?_); rintro e w4 ⟨vn, vf, va, vp, rfl, r4, hl⟩
             obtain ⟨⟨A1, k1, rfl⟩, ⟨A2, k2, rfl⟩, ⟨A3, k3, rfl⟩, ⟨A4, k4, rfl⟩⟩ := hl.forms
             have acc4 := Acc0.mk (((Wr.refl [] wr).alloc (.cells #[.int .u8 0, .string ⟨#[]⟩, .string ⟨#[]⟩, .int .i64 0, .int .i64 0, .int .i64 0, .int .i64 0, .slice none 0 0, .slice none 0 0, .slice none 0 0, .slice none 0 0, .int .i64 0] 38)).drew.trans r4); have hz4 : wr.heap.size + 1 ≤ w4.heap.size := by have := r4.size; simpa using this
             have hc4 := (Blk.new wr 38 #[.int .u8 0, .string ⟨#[]⟩, .string ⟨#[]⟩, .int .i64 0, .int .i64 0, .int .i64 0, .int .i64 0, .slice none 0 0, .slice none 0 0, .slice none 0 0, .slice none 0 0, .int .i64 0]).drew.wr0 r4
             have d0 := hc4.cell 0; have f0 := hc4.frozen 0; have d1 := hc4.cell 1; have f1 := hc4.frozen 1; have d2 := hc4.cell 2; have f2 := hc4.frozen 2; have d3 := hc4.cell 3; have f3 := hc4.frozen 3; have d4 := hc4.cell 4; have f4 := hc4.frozen 4; have d5 := hc4.cell 5; have f5 := hc4.frozen 5; have d6 := hc4.cell 6; have f6 := hc4.frozen 6; have d7 := hc4.cell 7; have f7 := hc4.frozen 7; have d8 := hc4.cell 8; have f8 := hc4.frozen 8; have d9 := hc4.cell 9; have f9 := hc4.frozen 9; have d10 := hc4.cell 10; have f10 := hc4.frozen 10; have d11 := hc4.cell 11; have f11 := hc4.frozen 11
             simp only [List.getElem?_toArray, List.getElem?_cons_zero, List.getElem?_cons_succ] at d0 d1 d2 d3 d4 d5 d6 d7 d8 d9 d10 d11
             have HC4 := Lib.hid hc4; have HL := Lib.hid hl; clear hl r4 hc4; unfold Ty.val Ty.cells))
        all_goals
          go_wp2_with fail
          go_meet
          first
            | exact ⟨_, A1, A2, A3, A4, k1, k2, k3, k4, rfl, hz4, Acc0.mk (acc4.h.alloc _), Blk.new _ _ _, Lists.keep HL.out ((Wr.refl [] w4).alloc _) (fun _ _ => by simp)⟩
            | (have hW := wr12 w4 wr.heap.size (.int .u8 ty.kind) (.string ty.module) (.string ty.name) (.int .i64 ty.base) (.int .i64 ty.index) (.int .i64 ty.low) (.int .i64 ty.high) (.slice A1 ty.names.length k1) (.slice A2 ty.fields.length k2) (.slice A3 ty.arms.length k3) (.slice A4 ty.params.length k4) (.int .i64 ty.result)
               exact ⟨_, A1, A2, A3, A4, k1, k2, k3, k4, rfl, Nat.le_refl _, Acc0.mk (acc4.h.new hW (Nat.le_refl _)), blk12 _ _ _ _ _ _ _ _ _ _ _ _ _ _ _ _ _ _ _ _ _ _ _ _ _ _ _ HC4.out, (Lists.keep HL.out hW (fun b hb => by simp at hb; simp; omega)).into (fun b hb _ => by simp at hb; omega)⟩)
      case rest =>
        obtain ⟨g, A1, A2, A3, A4, k1, k2, k3, k4, rfl, hg, acc, hb, hl⟩ := hcut
        rename World => wx
        have two := H2.out.wr0 acc.h
        have hzx : wr.heap.size ≤ wx.heap.size := acc.h.size
        have hgx := hb.lt
        have hlx := H2.out.prog.lin
        have hlL : Lists wx (· ∉ L) _ _ _ _ ty := hl.into (fun b hb _ hm => by have := hlx b hm; omega)
        have hlb : Lists wx (fun b => wr.heap.size ≤ b ∧ b < wx.heap.size) _ _ _ _ ty := hl.into (fun b hb h => ⟨hb, h⟩)
        have hbs : w0.heap.size ≤ wx.heap.size := two.wr.size
        have a0 := hb.cell 0; have a1 := hb.cell 1; have a2 := hb.cell 2; have a3 := hb.cell 3; have a4 := hb.cell 4; have a5 := hb.cell 5; have a6 := hb.cell 6; have a7 := hb.cell 7; have a8 := hb.cell 8; have a9 := hb.cell 9; have a10 := hb.cell 10; have a11 := hb.cell 11
        simp only [List.getElem?_toArray, List.getElem?_cons_zero, List.getElem?_cons_succ] at a0 a1 a2 a3 a4 a5 a6 a7 a8 a9 a10 a11
        have hmy := HMY.out
        have y1 := add_yes wx t vt L w0.heap.size tys two.prog ty _ _ _ _ _ hlL hmy (by omega) hrm hbs
        have TW := Lib.hid two
        have HB := Lib.hid hb
        have HLB := Lib.hid hlb
        have LX := Lib.hid hlx
        clear hmy HMK hb hl hlL hlb hlx two acc
        unfold Ty.val Ty.cells at y1
        go_wp2_with fail
        refine y1.mono ?_
        clear y1
        intro e w5 k5
        obtain ⟨vt', L', rfl, mid, s1, s2, hW5⟩ := TW.out.mid k5
        have hgn : g ∉ t :: ownL vt := fun hm => by
          have hgL : g ∈ L := by
            rcases List.mem_cons.1 hm with e | e
            · rw [e]; exact TW.out.prog.tin
            · exact TW.out.prog.rin g (mem_ownL.1 e)
          have := LX.out g hgL
          omega
        have hb5 := HB.out.wr hW5 (by simpa using hgn)
        have hl5 : Lists w5 (fun b => wr.heap.size ≤ b ∧ b < wx.heap.size) _ _ _ _ ty := HLB.out.keep hW5 (fun b hb hm => by
          have hbL : b ∈ L := by
            rcases List.mem_cons.1 hm with e | e
            · rw [e]; exact TW.out.prog.tin
            · exact TW.out.prog.rin b (mem_ownL.1 e)
          have := LX.out b hbL
          omega)
        have hl6 : Lists w5 (· ∉ L') _ _ _ _ ty := hl5.into (fun b hb _ hm => by
          rcases s2 b hm with e | e
          · have := LX.out b e; omega
          · omega)
        have y2 := radd_yes w5 r _ L' w0.heap.size tys mid.doc ty _ _ _ _ hl6 HMY.out (by omega) hrm (mid.wr.size)
        have d0 := hb5.cell 0; have d1 := hb5.cell 1; have d2 := hb5.cell 2; have d3 := hb5.cell 3; have d4 := hb5.cell 4; have d5 := hb5.cell 5; have d6 := hb5.cell 6; have d7 := hb5.cell 7; have d8 := hb5.cell 8; have d9 := hb5.cell 9; have d10 := hb5.cell 10; have d11 := hb5.cell 11
        simp only [List.getElem?_toArray, List.getElem?_cons_zero, List.getElem?_cons_succ] at d0 d1 d2 d3 d4 d5 d6 d7 d8 d9 d10 d11
        have MID := Lib.hid mid
        clear a0 a1 a2 a3 a4 a5 a6 a7 a8 a9 a10 a11 TW HB HLB LX k5 mid s1 s2 hW5 hb5 hl5 hl6
        unfold Ty.val Ty.cells at y2
        go_wp2_with fail
        refine y2.mono ?_
        clear y2
        intro e w6 k6
        obtain ⟨vr', L6, rfl, h6⟩ := MID.out.two k6
        have H6 := Lib.hid h6
        clear k6 MID h6
        go_wp2_with fail
        go_roundw
        case rel =>
          refine ⟨k + 1, vt', vr', L6, by omega, by go_num, ?_⟩
          rw [htl, addR, ← HTY.out]
          exact H6.out
        case measure => simp [intOf]; omega
    · have hkl : k = recs.length := by omega
      subst hkl
      rw [List.take_length] at h2
      have H2 := Lib.hid h2
      clear h2
      go_wp2_with fail
      go_ret2
      exact ⟨t, r, vt, vr, L, rfl, by rw [HGEN.out]; exact H2.out⟩
end Go.Proofs.Ytloihffdolehhaa
