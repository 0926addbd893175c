/- law 11's Table: two tables side by side: walked. Conditions: what types are made of is such as Go has. -/
import Derived.Test.YtcpgkeceefoljaaTyZ
namespace Go.Proofs.Ytcpgkeceefoljaa
open Go.RowKit
set_option linter.unusedVariables false
set_option linter.unusedSimpArgs false
attribute [local go_sem ↓] Go.wp_at_zero Go.wp_at_succ

/-- At the head of a round. -/
def TablesAt (w0 : World) (l : List MadeD) (t r : Nat) (s6 : Value) (wr : World) : Prop :=
  ∃ (k : Nat) (vt vr : Value) (L : List Nat), k ≤ l.length ∧ k ≤ 40 ∧ s6 = .int .i64 k ∧ Two w0 wr t r vt vr L (tabL (l.take k))
/-- Behind the making of a type. -/
def MadeNow (wr : World) (ty : Ty) (s7 : Value) (wx : World) : Prop :=
  ∃ (g : Nat) (A1 A2 A3 A4 : Option Addr) (c1 c2 c3 c4 : Nat), s7 = .pointer (some ⟨g, 0, none⟩) ∧ wr.heap.size ≤ g ∧ Acc0 wr wx ∧
    Blk wx g 31 #[.int .u8 ty.kind, .string ty.module, .string ty.name, .int .i64 ty.base, .int .i64 ty.index, .int .i64 ty.low, .int .i64 ty.high, .slice A1 ty.names.length c1, .slice A2 ty.fields.length c2, .slice A3 ty.arms.length c3, .slice A4 ty.params.length c4, .int .i64 ty.result] ∧
    Lists wx (fun b => wr.heap.size ≤ b) (.slice A1 ty.names.length c1) (.slice A2 ty.fields.length c2) (.slice A3 ty.arms.length c3) (.slice A4 ty.params.length c4) ty
theorem tabL_take (l : List MadeD) (k : Nat) (m : MadeD) (h : l[k]? = some m) : tabL (l.take (k + 1)) = addT (tabL (l.take k)) m := by
  unfold tabL
  rw [List.take_add_one, h, List.foldl_append]
  rfl
theorem tabL_len (l : List MadeD) (k : Nat) (hk : k ≤ 40) : 10 ≤ (tabL (l.take k)).length ∧ (tabL (l.take k)).length ≤ 50 := by
  have := foldl_len (l.take k) tys0
  have h0 : tys0.length = 10 := rfl
  have h1 : (l.take k).length ≤ k := by simp; omega
  unfold tabL
  omega

set_option maxHeartbeats 4000000 in
theorem tables_any (w0 : World) (v : Value) (l : List MadeD) (h : IsMades w0 v l) :
    Calls Try.prog 12 #[v] w0 (fun e w' => ∃ t r vt vr L, e = .returned (.tuple #[.pointer (some ⟨t, 0, none⟩), .pointer (some ⟨r, 0, none⟩)]) ∧ Two w0 w' t r vt vr L (tabL (l.take 40))) := by
  obtain ⟨A, c, rfl, hc, hcm, hok, hin⟩ := h
  unfold maxLen at hcm
  have HOK := Lib.hid hok
  have HIN := Lib.hid hin
  clear hok hin
  go_enter Try.func12, Try.ntmps12
  go_wp2_with fail
  refine (new_any _).mono ?_
  rintro e w1 ⟨t, vt, Lt, rfl, r1, h1, k1⟩
  go_wp2_with fail
  refine (rnew_any _).mono ?_
  rintro e w2 ⟨r, vr, Lr, rfl, r2, h2, k2⟩
  have TWO := Lib.hid (two_new h1 k1 r1 h2 k2 r2)
  clear h1 k1 r1 h2 k2 r2
  go_wp2_with fail
  go_loopw [6] (fun s6 wr => TablesAt w0 l t r s6 wr) (fun s6 _ => 40 - (intOf s6).toNat)
  case atStart => exact ⟨0, vt, vr, _, Nat.zero_le _, Nat.zero_le _, rfl, TWO.out⟩
  case round =>
    clear TWO
    obtain ⟨k, vt, vr, L, hk, hk4, rfl, h2⟩ := hrel
    by_cases hlt : k < l.length
    · by_cases h40 : k < 40
      · obtain ⟨m, hx⟩ : ∃ x, l[k]? = some x := ⟨l[k], List.getElem?_eq_getElem hlt⟩
        obtain ⟨bb, off, rfl, hm⟩ := HIN.out k m hx
        have hmo := HOK.out m (List.mem_of_getElem? hx)
        have htl := tabL_take l k m hx
        have hln := tabL_len l k (by omega)
        generalize tabL (l.take k) = tys at *
        have hm2 := hm.wr0 h2.wr
        obtain ⟨Ap, Av, cp, cv, hp1, hp2, c0, c1, c2, c3, c4, c5, c6, hcp, hcv⟩ := hm2
        obtain ⟨q1, q2, q3, q4, q5, q6⟩ := hmo
        obtain ⟨xs, ho, hx1, hx2⟩ := h2.doc.row
        obtain ⟨Ao, co, hvo, _, _⟩ := Sl.form (P := fun _ => True) (Sl.ofOwn ho (fun _ _ => trivial))
        subst hvo
        have hr0 := h2.doc.blk.cell 0
        simp only [List.getElem?_toArray, List.getElem?_cons_zero] at hr0
        have e9 := World.new_ne wr _ hr0
        have e0 := World.new_ne wr _ c0
        have hz0 := World.block_lt_of_cell? wr _ c0
        have hz9 := h2.doc.blk.lt
        have hmk : ∀ W, Wr [] wr W → Calls Try.prog 25 #[.agg #[.int .u8 m.k, .int .u16 m.b, .int .u16 m.x, .int .i32 m.lo, .int .i32 m.hi, .slice Ap m.ps.length cp, .slice Av m.vs.length cv], .int .i64 tys.length] W (CopyP W (m.ty tys.length)) := fun W hW =>
          made_any W m.k m.b m.x m.lo m.hi m.ps m.vs tys.length Ap Av cp cv q1 q2 q3 q4 q5 q6 (by omega) hp1 hp2
            (fun i hi => by obtain ⟨b', o', e1, e2⟩ := hcp i hi; exact ⟨b', o', e1, hW.cellOf e2 (by simp)⟩)
            (fun i hi => by obtain ⟨b', o', e1, e2⟩ := hcv i hi; exact ⟨b', o', e1, hW.cellOf e2 (by simp)⟩)
        have hrm := madeTy_room m tys.length
        have hkd : (m.ty tys.length).kind = m.k % 12 + 7 := rfl
        obtain ⟨ty, hty⟩ : ∃ ty, ty = m.ty tys.length := ⟨_, rfl⟩
        rw [← hty] at hmk hrm hkd
        have HTY := Lib.hid hty
        clear hty
        have HKD := Lib.hid hkd
        have HMK := Lib.hid hmk
        have H2 := Lib.hid h2
        have HX := Lib.hid hx
        clear hkd hmk h2 hx hm hcp hcv q1 q2 q3 q4 q5 q6 ho hx1 hx2
        go_upto_region 5 with (fail)
        go_cut [7] (fun s7 wx => MadeNow wr ty s7 wx)
        case first =>
          go_region_with (first
            | (go_at_call 25; (with_reducible refine (HMK.out _ (Wr.refl [] wr).drew).mono ?_); rintro e w4 ⟨vn, vf, va, vp, rfl, r4, hl⟩
               obtain ⟨⟨A1, k1, rfl⟩, ⟨A2, k2, rfl⟩, ⟨A3, k3, rfl⟩, ⟨A4, k4, rfl⟩⟩ := hl.forms
               have acc4 := Acc0.mk ((Wr.refl [] wr).drew.trans r4); have hz4 : wr.heap.size ≤ w4.heap.size := acc4.h.size
               have HL := Lib.hid hl; clear hl r4; unfold Ty.val Ty.cells)
            | (go_at_call 25; (with_reducible refine (HMK.out _ ((Wr.refl [] wr).alloc _).drew).mono ?_); rintro e w4 ⟨vn, vf, va, vp, rfl, r4, hl⟩
               obtain ⟨⟨A1, k1, rfl⟩, ⟨A2, k2, rfl⟩, ⟨A3, k3, rfl⟩, ⟨A4, k4, rfl⟩⟩ := hl.forms
               have acc4 := Acc0.mk (((Wr.refl [] wr).alloc (.cells #[.int .u8 0, .string ⟨#[]⟩, .string ⟨#[]⟩, .int .i64 0, .int .i64 0, .int .i64 0, .int .i64 0, .slice none 0 0, .slice none 0 0, .slice none 0 0, .slice none 0 0, .int .i64 0] 31)).drew.trans r4); have hz4 : wr.heap.size + 1 ≤ w4.heap.size := by have := r4.size; simpa using this
               have hc4 := (Blk.new wr 31 #[.int .u8 0, .string ⟨#[]⟩, .string ⟨#[]⟩, .int .i64 0, .int .i64 0, .int .i64 0, .int .i64 0, .slice none 0 0, .slice none 0 0, .slice none 0 0, .slice none 0 0, .int .i64 0]).drew.wr0 r4
               have d0 := hc4.cell 0; have f0 := hc4.frozen 0; have d1 := hc4.cell 1; have f1 := hc4.frozen 1; have d2 := hc4.cell 2; have f2 := hc4.frozen 2; have d3 := hc4.cell 3; have f3 := hc4.frozen 3; have d4 := hc4.cell 4; have f4 := hc4.frozen 4; have d5 := hc4.cell 5; have f5 := hc4.frozen 5; have d6 := hc4.cell 6; have f6 := hc4.frozen 6; have d7 := hc4.cell 7; have f7 := hc4.frozen 7; have d8 := hc4.cell 8; have f8 := hc4.frozen 8; have d9 := hc4.cell 9; have f9 := hc4.frozen 9; have d10 := hc4.cell 10; have f10 := hc4.frozen 10; have d11 := hc4.cell 11; have f11 := hc4.frozen 11
               simp only [List.getElem?_toArray, List.getElem?_cons_zero, List.getElem?_cons_succ] at d0 d1 d2 d3 d4 d5 d6 d7 d8 d9 d10 d11
               have HC4 := Lib.hid hc4; have HL := Lib.hid hl; clear hl r4 hc4; unfold Ty.val Ty.cells))
          all_goals
            go_wp2_with fail
            go_meet
            first
              | exact ⟨_, A1, A2, A3, A4, k1, k2, k3, k4, rfl, hz4, Acc0.mk (acc4.h.alloc _), Blk.new _ _ _, Lists.keep HL.out ((Wr.refl [] w4).alloc _) (fun _ _ => by simp)⟩
              | (have hW := wr12 w4 wr.heap.size (.int .u8 ty.kind) (.string ty.module) (.string ty.name) (.int .i64 ty.base) (.int .i64 ty.index) (.int .i64 ty.low) (.int .i64 ty.high) (.slice A1 ty.names.length k1) (.slice A2 ty.fields.length k2) (.slice A3 ty.arms.length k3) (.slice A4 ty.params.length k4) (.int .i64 ty.result)
                 exact ⟨_, A1, A2, A3, A4, k1, k2, k3, k4, rfl, Nat.le_refl _, Acc0.mk (acc4.h.new hW (Nat.le_refl _)), blk12 _ _ _ _ _ _ _ _ _ _ _ _ _ _ _ _ _ _ _ _ _ _ _ _ _ _ _ HC4.out, (Lists.keep HL.out hW (fun b hb => by simp at hb; simp; omega)).into (fun b hb _ => by simp at hb; omega)⟩)
        case rest =>
          obtain ⟨g, A1, A2, A3, A4, k1, k2, k3, k4, rfl, hg, acc, hb, hl⟩ := hcut
          rename World => wx
          have two := H2.out.wr0 acc.h
          have hzx : wr.heap.size ≤ wx.heap.size := acc.h.size
          have hgx := hb.lt
          have hlx := H2.out.prog.lin
          have hlL : Lists wx (· ∉ L) _ _ _ _ ty := hl.into (fun b hb _ hm => by have := hlx b hm; omega)
          have hlb : Lists wx (fun b => wr.heap.size ≤ b ∧ b < wx.heap.size) _ _ _ _ ty := hl.into (fun b hb h => ⟨hb, h⟩)
          have hbs : w0.heap.size ≤ wx.heap.size := two.wr.size
          have a0 := hb.cell 0; have a1 := hb.cell 1; have a2 := hb.cell 2; have a3 := hb.cell 3; have a4 := hb.cell 4; have a5 := hb.cell 5; have a6 := hb.cell 6; have a7 := hb.cell 7; have a8 := hb.cell 8; have a9 := hb.cell 9; have a10 := hb.cell 10; have a11 := hb.cell 11
          simp only [List.getElem?_toArray, List.getElem?_cons_zero, List.getElem?_cons_succ] at a0 a1 a2 a3 a4 a5 a6 a7 a8 a9 a10 a11
          cases hmy : mayB ty.kind with
          | true =>
            have y1 := add_yes wx t vt L w0.heap.size tys two.prog ty _ _ _ _ _ hlL hmy (by omega) hrm hbs
            have TW := Lib.hid two
            have HB := Lib.hid hb
            have HLB := Lib.hid hlb
            have LX := Lib.hid hlx
            clear HMK hb hl hlL hlb hlx two acc
            unfold Ty.val Ty.cells at y1
            go_wp2_with fail
            refine y1.mono ?_
            clear y1
            intro e w5 k5
            obtain ⟨vt', L', rfl, mid, s1, s2, hW5⟩ := TW.out.mid k5
            have hgn : g ∉ t :: ownL vt := fun hm => by
              have hgL : g ∈ L := by
                rcases List.mem_cons.1 hm with e | e
                · rw [e]; exact TW.out.prog.tin
                · exact TW.out.prog.rin g (mem_ownL.1 e)
              have := LX.out g hgL
              omega
            have hb5 := HB.out.wr hW5 (by simpa using hgn)
            have hl5 : Lists w5 (fun b => wr.heap.size ≤ b ∧ b < wx.heap.size) _ _ _ _ ty := HLB.out.keep hW5 (fun b hb hm => by
              have hbL : b ∈ L := by
                rcases List.mem_cons.1 hm with e | e
                · rw [e]; exact TW.out.prog.tin
                · exact TW.out.prog.rin b (mem_ownL.1 e)
              have := LX.out b hbL
              omega)
            have hl6 : Lists w5 (· ∉ L') _ _ _ _ ty := hl5.into (fun b hb _ hm => by
              rcases s2 b hm with e | e
              · have := LX.out b e; omega
              · omega)
            have y2 := radd_yes w5 r _ L' w0.heap.size tys mid.doc ty _ _ _ _ hl6 hmy (by omega) hrm (mid.wr.size)
            have d0 := hb5.cell 0; have d1 := hb5.cell 1; have d2 := hb5.cell 2; have d3 := hb5.cell 3; have d4 := hb5.cell 4; have d5 := hb5.cell 5; have d6 := hb5.cell 6; have d7 := hb5.cell 7; have d8 := hb5.cell 8; have d9 := hb5.cell 9; have d10 := hb5.cell 10; have d11 := hb5.cell 11
            simp only [List.getElem?_toArray, List.getElem?_cons_zero, List.getElem?_cons_succ] at d0 d1 d2 d3 d4 d5 d6 d7 d8 d9 d10 d11
            have MID := Lib.hid mid
            clear a0 a1 a2 a3 a4 a5 a6 a7 a8 a9 a10 a11 TW HB HLB LX k5 mid s1 s2 hW5 hb5 hl5 hl6
            unfold Ty.val Ty.cells at y2
            go_wp2_with fail
            refine y2.mono ?_
            clear y2
            intro e w6 k6
            obtain ⟨vr', L6, rfl, h6⟩ := MID.out.two k6
            have H6 := Lib.hid h6
            clear k6 MID h6
            go_wp2_with fail
            go_roundw
            case rel =>
              refine ⟨k + 1, vt', vr', L6, by omega, by omega, by go_num, ?_⟩
              have hadd : addT tys m = tys ++ [ty] := by
                unfold addT
                rw [if_pos (by rw [← HKD.out]; exact hmy)]
                rw [HTY.out]
              rw [htl, hadd]
              exact H6.out
            case measure => simp [intOf]; omega
          | false =>
            have y1 := add_no wx t vt L w0.heap.size tys two.prog ty _ _ _ _ _ hlL hmy
            have TW := Lib.hid two
            have HB := Lib.hid hb
            have HLL := Lib.hid hlL
            clear HMK hb hl hlL hlb hlx two acc
            unfold Ty.val Ty.cells at y1
            go_wp2_with fail
            refine y1.mono ?_
            clear y1
            rintro e w5 ⟨rfl, r5⟩
            have two5 := TW.out.wr0 r5
            have hb5 := HB.out.wr0 r5
            have hl5 : Lists w5 (· ∉ L) _ _ _ _ ty := HLL.out.keep r5 (fun _ _ => by simp)
            have y2 := radd_no w5 r _ L w0.heap.size tys two5.doc ty _ _ _ _ hl5 hmy
            have d0 := hb5.cell 0; have d1 := hb5.cell 1; have d2 := hb5.cell 2; have d3 := hb5.cell 3; have d4 := hb5.cell 4; have d5 := hb5.cell 5; have d6 := hb5.cell 6; have d7 := hb5.cell 7; have d8 := hb5.cell 8; have d9 := hb5.cell 9; have d10 := hb5.cell 10; have d11 := hb5.cell 11
            simp only [List.getElem?_toArray, List.getElem?_cons_zero, List.getElem?_cons_succ] at d0 d1 d2 d3 d4 d5 d6 d7 d8 d9 d10 d11
            have TW5 := Lib.hid two5
            clear a0 a1 a2 a3 a4 a5 a6 a7 a8 a9 a10 a11 TW HB HLL r5 two5 hb5 hl5
            unfold Ty.val Ty.cells at y2
            go_wp2_with fail
            refine y2.mono ?_
            clear y2
            rintro e w6 ⟨rfl, r6⟩
            have H6 := Lib.hid (TW5.out.wr0 r6)
            clear r6 TW5
            go_wp2_with fail
            go_roundw
            case rel =>
              refine ⟨k + 1, vt, .slice Ao tys.length co, L, by omega, by omega, by go_num, ?_⟩
              have hadd : addT tys m = tys := by
                unfold addT
                rw [if_neg (by rw [← HKD.out, hmy]; simp)]
              rw [htl, hadd]
              exact H6.out
            case measure => simp [intOf]; omega
      · have hk40 : k = 40 := by omega
        subst hk40
        have H2 := Lib.hid h2
        clear h2
        go_wp2_with fail
        go_ret2
        exact ⟨t, r, vt, vr, L, rfl, H2.out⟩
    · have hkl : k = l.length := by omega
      subst hkl
      have hte : l.take 40 = l.take l.length := by rw [List.take_of_length_le (by omega), List.take_length]
      rw [← hte] at h2
      have H2 := Lib.hid h2
      clear h2 hte
      go_wp2_with fail
      go_ret2
      exact ⟨t, r, vt, vr, L, rfl, H2.out⟩
end Go.Proofs.Ytcpgkeceefoljaa
