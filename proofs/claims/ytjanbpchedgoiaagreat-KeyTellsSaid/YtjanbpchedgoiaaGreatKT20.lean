/- iface's walk, writing: arms, values: walked. Conditions: what is written fits, there is room. -/
import Derived.Test.YtjanbpchedgoiaaGreatKT19
import Derived.Test.YtjanbpchedgoiaaGreatKT07
set_option linter.unusedVariables false
set_option linter.unusedSimpArgs false
set_option maxRecDepth 100000
set_option maxHeartbeats 32000000
namespace Go.Proofs.YtjanbpchedgoiaaGreat
open Go.RowKit
theorem intRow_at {w : World} {b : Nat} {v : Value} {l : List Int} (h : RowW w b 1 v l.length (l.map (Value.int .i64))) {k : Nat} {x : Int} (hx : l[k]? = some x) : ∃ g off c, v = .slice (some ⟨g, off, none⟩) l.length c ∧ g ≠ b ∧ Own w ⟨g, off + k, none⟩ (.int .i64 x) := by
 obtain ⟨A, c, e, h1, h2, h3, h4⟩ := h
 obtain ⟨g, off, rfl, hg, ho⟩ := h4 k (.int .i64 x) (by rw [qgmq, hx]; rfl)
 exact ⟨g, off, c, e, hg, ho⟩
theorem zip_take {l m : List Int} {k : Nat} {x y : Int} (hx : l[k]? = some x) (hy : m[k]? = some y) : ((l.zip m).take (k + 1)).flatMap pairL = ((l.zip m).take k).flatMap pairL ++ (fourL x ++ fourL y) := by
 have h : (l.zip m)[k]? = some (x, y) := by
  rw [List.getElem?_zip_eq_some]
  exact ⟨hx, hy⟩
 rw [flat_split pairL h]
 rfl
theorem arm_w (b g o : Nat) (x : ArmD) (va vb : Value) (s : ByteArray) (w : World) (hb : Wlk w b s false) (hgb : g ≠ b) (k0 : Own w ⟨g, o, none⟩ va) (k1 : Own w ⟨g, o + 1, none⟩ vb) (k2 : Own w ⟨g, o + 2, none⟩ (.bool x.els))
  (ra : RowW w b 1 va x.frm.length (x.frm.map (Value.int .i64))) (rb : RowW w b 1 vb x.to.length (x.to.map (Value.int .i64))) (hf : armFit x = true) (hm : armForm x = true) (hroom : s.size + (armL x).length ≤ maxLen) :
  Calls Tryz.prog 86 #[.pointer (some ⟨b, 0, none⟩), .pointer (some ⟨g, o, none⟩)] w (EncQ b s (armL x) false w) := by
 unfold armForm at hm
 unfold armFit fwB at hf
 simp only [Bool.and_eq_true, decide_eq_true_eq, List.all_eq_true] at hm hf
 obtain ⟨⟨hlen, hs1⟩, hs2⟩ := hm
 obtain ⟨A1, c1, rfl, l1, m1⟩ := ra.form
 obtain ⟨A2, c2, rfl, l2, m2⟩ := rb.form
 unfold armL at hroom
 simp only [qlaq] at hroom
 have h0 := fun hr => count_w b x.frm.length s false hf.1 hr w hb
 have h1 := fun W s' (p : Addr) hb hp n hn hr ct => number_q b p s' W hb hp n hn hr ct
 have h2 := fun W s' hb hr ct => truth_q b ⟨g, o + 2, none⟩ s' W hb hgb x.els hr ct
 have H0 := qh (h0 (by rw [numL_len] at hroom; omega))
 have H1 := qh h1
 have H2 := qh h2
 have K0 := qh k0
 have K1 := qh k1
 have K2 := qh k2
 have RA := qh ra
 have RB := qh rb
 have HRM := qh hroom
 have HS1 := qh hs1
 have HS2 := qh hs2
 have HLEN := qh hlen
 have d0 := k0.cell
 unfold maxLen at m1 m2
 clear h0 h1 h2 k0 k1 k2 ra rb hroom hs1 hs2 hlen hb
 go_enter Tryz.func86, Tryz.ntmps86
 go_wp2_with fail
 refine H0.out.mono ?_
 rintro e w1 ⟨rfl, r1, b1⟩
 clear d0
 have e0 := b1.cell 0
 have e1 := b1.cell 1
 have e2 := b1.cell 2
 simp only [qgaq, qgzq, qgsq] at e0 e1 e2
 go_wp2_with fail
 go_loopw [5] (fun s5 wr => ∃ k : Nat, k ≤ x.frm.length ∧ s5 = .int .i64 k ∧ Wr [b] w wr ∧ Wlk wr b (addL s (numL x.frm.length 2 ++ ((x.frm.zip x.to).take k).flatMap pairL)) false) (fun s5 _ => x.frm.length - (intOf s5).toNat)
 case atStart => exact ⟨0, by omega, rfl, r1, by simpa using b1⟩
 case round =>
  obtain ⟨k, hk, rfl, rk, bk⟩ := hrel
  clear e0 e1 e2 b1 r1
  have e0 := bk.cell 0
  have e1 := bk.cell 1
  have e2 := bk.cell 2
  simp only [qgaq, qgzq, qgsq] at e0 e1 e2
  have d0 := (K0.out.keep rk (by simp [hgb])).cell
  have RK := qh rk
  have BK := qh bk
  clear rk bk
  by_cases hlt : k < x.frm.length
  ·obtain ⟨y, hy⟩ : ∃ y, x.frm[k]? = some y := ⟨_, qgeq hlt⟩
   obtain ⟨z, hz⟩ : ∃ z, x.to[k]? = some z := ⟨_, qgeq (by have := HLEN.out; omega)⟩
   obtain ⟨ga, oa, ca, ea, na, oy⟩ := intRow_at RA.out hy
   obtain ⟨gc, oc, cc, ec, nc, oz⟩ := intRow_at RB.out hz
   injection ea with ea1 _ ea2
   injection ec with ec1 _ ec2
   subst ea1 ea2 ec1 ec2
   have hsy := HS1.out y (List.mem_of_getElem? hy)
   have hsz := HS2.out z (List.mem_of_getElem? hz)
   have hrm : (((x.frm.zip x.to).take k).flatMap pairL).length + 8 ≤ ((x.frm.zip x.to).flatMap pairL).length := by
    have hzk : (x.frm.zip x.to)[k]? = some (y, z) := by
     rw [List.getElem?_zip_eq_some]
     exact ⟨hy, hz⟩
    have := flat_room pairL hzk
    unfold pairL at this
    simp only [qlaq, four_len] at this
    exact this
   have OY := qh oy
   have OZ := qh oz
   have HY := qh hy
   have HZ := qh hz
   have HSY := qh hsy
   have HSZ := qh hsz
   have HRK := qh hrm
   have hkt : (k : Int) < (x.to.length : Int) := by have := HLEN.out; omega
   have hki : (k : Int) < (x.frm.length : Int) := by omega
   have hk0 : (0 : Int) ≤ (k : Int) := by omega
   clear oy oz hy hz hsy hsz hrm
   go_wp2_with fail
   refine (H1.out _ _ _ BK.out (by show ga ≠ b; exact na) y HSY.out (by have h1 := HRK.out; have h2 := HRM.out; simp only [addL_size, qlaq, four_len]; omega) (OY.out.keep RK.out (by simp [na]))).mono ?_
   rintro e w2 ⟨rfl, r2, b2⟩
   have rk2 := RK.out.trans r2
   clear d0 e0 e1 e2
   have d1 := (K1.out.keep rk2 (by simp [hgb])).cell
   have R2 := qh rk2
   have B2 := qh b2
   clear r2 b2 rk2
   go_wp2_with fail
   refine (H1.out _ _ _ B2.out (by show gc ≠ b; exact nc) z HSZ.out (by have h1 := HRK.out; have h2 := HRM.out; simp only [addL_size, qlaq, four_len]; omega) (OZ.out.keep R2.out (by simp [nc]))).mono ?_
   rintro e w3 ⟨rfl, r3, b3⟩
   have b4 : Wlk w3 b (addL s (numL x.frm.length 2 ++ ((x.frm.zip x.to).take (k + 1)).flatMap pairL)) false := by
    rw [zip_take HY.out HZ.out]
    simp only [addL_add, qapq] at b3 ⊢
    exact b3
   have B4 := qh b4
   have R3 := qh (R2.out.trans r3)
   clear r3 b3 b4 d1
   go_wp2_with fail
   go_roundw
   case rel => exact ⟨k + 1, by omega, by go_num, R3.out, B4.out⟩
   case measure => simp [intOf]; omega
  ·have hkx : k = x.frm.length := by omega
   have hz : (x.frm.zip x.to).take k = x.frm.zip x.to := List.take_of_length_le (by rw [List.length_zip]; omega)
   have b5 := BK.out
   rw [hz] at b5
   have B5 := qh b5
   have h3 := H2.out wr _ b5 (by have := HRM.out; simp only [addL_size, qlaq]; omega) (K2.out.keep RK.out (by simp [hgb]))
   have H3 := qh h3
   clear b5 h3 hkx hz
   go_wp2_with fail
   refine H3.out.mono ?_
   rintro e w2 ⟨rfl, r2, b2⟩
   go_wp2_with fail
   refine bodyPost_end (results_none Tryz.results86 _ _ _) rfl ?_
   refine ⟨rfl, RK.out.trans r2, ?_⟩
   unfold armL
   rw [addL_add] at b2
   exact b2
theorem val_nil (b g o : Nat) (s : ByteArray) (w : World) (hb : Wlk w b s false) (hgb : g ≠ b) (k0 : Own w ⟨g, o, none⟩ ((.nil : AnyD).val)) (hroom : s.size + (anyL (.nil)).length ≤ maxLen) :
  Calls Tryz.prog 63 #[.pointer (some ⟨b, 0, none⟩), .pointer (some ⟨g, o, none⟩)] w (EncQ b s (anyL (.nil)) false w) := by
 have hs : Calls Tryz.prog 78 #[(.nil : AnyD).val] w fun e w' => e = .returned (.tuple #[.int .u8 0, .bool true]) ∧ Wr [] w w' := sort_any (.nil) w
 have hst := stored_any (.nil : AnyD).val (.nil : AnyD).val_one
 have hbl := hb.lt
 unfold anyL at hroom
 simp only [numL_len] at hroom
 simp only [AnyD.val] at hs hst k0
 have H1 := qh (fun W s' q (hb : Wlk W b s' false) (hq : q ≠ b) hr ct => byte_q b ⟨q, 0, none⟩ s' W hb hq 0 (by decide) hr ct)
 have HS := qh hs
 have K0 := qh k0
 have HRM := qh hroom
 have c0 := k0.cell
 clear hs k0 hroom
 go_enter Tryz.func63, Tryz.ntmps63
 go_wp2_with fail
 refine HS.out.mono ?_
 rintro e w1 ⟨rfl, r1⟩
 replace hb := hb.wr0 r1
 have R1 := qh (r1.nil (l := [b]))
 have n1 := Blk.new w1 5 #[.int .u8 0]
 have hb1 := hb.alloc (.cells #[.int .u8 0] 5)
 have hq1 : w1.heap.size ≠ b := by have := r1.size; omega
 have h1 := H1.out _ _ w1.heap.size hb1 hq1 (by have := HRM.out; rw [show (Int.toNat 0) = 0 from rfl, numL_len]; omega) ⟨n1.cell 0, n1.frozen 0⟩
 have R2 := qh (R1.out.alloc (.cells #[.int .u8 0] 5))
 have N1 := qh n1
 have HH1 := qh h1
 have Q1 := qh hq1
 clear h1 hb1 hb r1 n1 c0 hq1
 go_wp2_with fail
 refine HH1.out.mono ?_
 rintro e w2 ⟨rfl, r2, b2⟩
 have R3 := qh (R2.out.trans r2)
 have hn1 := N1.out.wr r2 (by simp only [qmsq]; exact Q1.out)
 have q0 := hn1.cell 0
 simp only [qgaq, qgzq] at q0
 have k2 := K0.out.keep R3.out (by simp [hgb])
 have c0 := k2.cell
 have f0 := k2.frozen
 have E0 := qh (setCell_self c0)
 have B2 := qh b2
 have hbl2 := b2.lt
 clear r2 b2 hn1 k2
 go_wp2_with fail
 refine bodyPost_end (results_none Tryz.results63 _ _ _) rfl ?_
 rw [E0.out]
 exact ⟨rfl, R3.out, B2.out⟩
theorem val_null (b g o : Nat) (s : ByteArray) (w : World) (hb : Wlk w b s false) (hgb : g ≠ b) (k0 : Own w ⟨g, o, none⟩ ((.null : AnyD).val)) (hroom : s.size + (anyL (.null)).length ≤ maxLen) :
  Calls Tryz.prog 63 #[.pointer (some ⟨b, 0, none⟩), .pointer (some ⟨g, o, none⟩)] w (EncQ b s (anyL (.null)) false w) := by
 have hs : Calls Tryz.prog 78 #[(.null : AnyD).val] w fun e w' => e = .returned (.tuple #[.int .u8 7, .bool true]) ∧ Wr [] w w' := sort_any (.null) w
 have hst := stored_any (.null : AnyD).val (.null : AnyD).val_one
 have hbl := hb.lt
 unfold anyL at hroom
 simp only [numL_len] at hroom
 simp only [AnyD.val] at hs hst k0
 have H1 := qh (fun W s' q (hb : Wlk W b s' false) (hq : q ≠ b) hr ct => byte_q b ⟨q, 0, none⟩ s' W hb hq 7 (by decide) hr ct)
 have HS := qh hs
 have K0 := qh k0
 have HRM := qh hroom
 have c0 := k0.cell
 clear hs k0 hroom
 go_enter Tryz.func63, Tryz.ntmps63
 go_wp2_with fail
 refine HS.out.mono ?_
 rintro e w1 ⟨rfl, r1⟩
 replace hb := hb.wr0 r1
 have R1 := qh (r1.nil (l := [b]))
 have n1 := Blk.new w1 5 #[.int .u8 7]
 have hb1 := hb.alloc (.cells #[.int .u8 7] 5)
 have hq1 : w1.heap.size ≠ b := by have := r1.size; omega
 have h1 := H1.out _ _ w1.heap.size hb1 hq1 (by have := HRM.out; rw [show (Int.toNat 7) = 7 from rfl, numL_len]; omega) ⟨n1.cell 0, n1.frozen 0⟩
 have R2 := qh (R1.out.alloc (.cells #[.int .u8 7] 5))
 have N1 := qh n1
 have HH1 := qh h1
 have Q1 := qh hq1
 clear h1 hb1 hb r1 n1 c0 hq1
 go_wp2_with fail
 refine HH1.out.mono ?_
 rintro e w2 ⟨rfl, r2, b2⟩
 have R3 := qh (R2.out.trans r2)
 have hn1 := N1.out.wr r2 (by simp only [qmsq]; exact Q1.out)
 have q0 := hn1.cell 0
 simp only [qgaq, qgzq] at q0
 have k2 := K0.out.keep R3.out (by simp [hgb])
 have c0 := k2.cell
 have f0 := k2.frozen
 have E0 := qh (setCell_self c0)
 have B2 := qh b2
 have hbl2 := b2.lt
 clear r2 b2 hn1 k2
 go_wp2_with fail
 refine bodyPost_end (results_none Tryz.results63 _ _ _) rfl ?_
 rw [E0.out]
 exact ⟨rfl, R3.out, B2.out⟩
theorem val_whole (b g o : Nat) (n : Int) (s : ByteArray) (w : World) (hb : Wlk w b s false) (hgb : g ≠ b) (k0 : Own w ⟨g, o, none⟩ ((.whole n : AnyD).val)) (hn : smB n = true) (hroom : s.size + (anyL (.whole n)).length ≤ maxLen) :
  Calls Tryz.prog 63 #[.pointer (some ⟨b, 0, none⟩), .pointer (some ⟨g, o, none⟩)] w (EncQ b s (anyL (.whole n)) false w) := by
 have hs : Calls Tryz.prog 78 #[(.whole n : AnyD).val] w fun e w' => e = .returned (.tuple #[.int .u8 1, .bool true]) ∧ Wr [] w w' := sort_any (.whole n) w
 have hst := stored_any (.whole n : AnyD).val (.whole n : AnyD).val_one
 have hbl := hb.lt
 unfold anyL at hroom
 simp only [qlaq, numL_len, four_len] at hroom
 simp only [AnyD.val] at hs hst k0
 have HC := qh (fun W s' q (hb : Wlk W b s' false) (hq : q ≠ b) hr ct => number_q b ⟨q, 0, none⟩ s' W hb hq n hn hr ct)
 have H1 := qh (fun W s' q (hb : Wlk W b s' false) (hq : q ≠ b) hr ct => byte_q b ⟨q, 0, none⟩ s' W hb hq 1 (by decide) hr ct)
 have HS := qh hs
 have K0 := qh k0
 have HRM := qh hroom
 have c0 := k0.cell
 clear hs k0 hroom
 go_enter Tryz.func63, Tryz.ntmps63
 go_wp2_with fail
 refine HS.out.mono ?_
 rintro e w1 ⟨rfl, r1⟩
 replace hb := hb.wr0 r1
 have R1 := qh (r1.nil (l := [b]))
 have n1 := Blk.new w1 5 #[.int .u8 1]
 have hb1 := hb.alloc (.cells #[.int .u8 1] 5)
 have hq1 : w1.heap.size ≠ b := by have := r1.size; omega
 have h1 := H1.out _ _ w1.heap.size hb1 hq1 (by have := HRM.out; rw [show (Int.toNat 1) = 1 from rfl, numL_len]; omega) ⟨n1.cell 0, n1.frozen 0⟩
 have R2 := qh (R1.out.alloc (.cells #[.int .u8 1] 5))
 have N1 := qh n1
 have HH1 := qh h1
 have Q1 := qh hq1
 clear h1 hb1 hb r1 n1 c0 hq1
 go_wp2_with fail
 refine HH1.out.mono ?_
 rintro e w2 ⟨rfl, r2, b2⟩
 have R3 := qh (R2.out.trans r2)
 have hn1 := N1.out.wr r2 (by simp only [qmsq]; exact Q1.out)
 have q0 := hn1.cell 0
 simp only [qgaq, qgzq] at q0
 have k2 := K0.out.keep R3.out (by simp [hgb])
 have c0 := k2.cell
 have f0 := k2.frozen
 have E0 := qh (setCell_self c0)
 have B2 := qh b2
 have hbl2 := b2.lt
 clear r2 b2 hn1 k2
 have hA := fun w => anyAs_whole (.whole n) w
 simp only [AnyD.val, AnyD.wholeV, AnyD.letterV, AnyD.truthV, AnyD.sort] at hA
 have n2 := Blk.new w2 2 #[.int .i64 n]
 have hq2 : w2.heap.size ≠ b := by omega
 have h2 := HC.out _ _ w2.heap.size (B2.out.alloc (.cells #[.int .i64 n] 2)) hq2 (by have := HRM.out; simp only [addL_size, numL_len, four_len]; show _ + (numL 1 1).length + _ ≤ _; rw [numL_len]; omega) ⟨n2.cell 0, n2.frozen 0⟩
 have H2 := qh h2
 have N2 := qh n2
 have R4 := qh (R3.out.alloc (.cells #[.int .i64 n] 2))
 have Q2 := qh hq2
 clear h2 n2 hq2
 go_wp2_with fail
 refine H2.out.mono ?_
 rintro e w3 ⟨rfl, r3, b3⟩
 have R5 := qh (R4.out.trans r3)
 have hn2 := N2.out.wr r3 (by simp only [qmsq]; exact Q2.out)
 have q2 := hn2.cell 0
 simp only [qgaq, qgzq] at q2
 have k3 := K0.out.keep R5.out (by simp [hgb])
 clear c0 f0 E0
 have c0 := k3.cell
 have f0 := k3.frozen
 have E0 := qh (setCell_self c0)
 have B3 := qh b3
 clear r3 b3 hn2 k3
 go_wp2_with fail
 refine bodyPost_end (results_none Tryz.results63 _ _ _) rfl ?_
 rw [E0.out]
 refine ⟨rfl, R5.out, ?_⟩
 have hfin := B3.out
 rw [addL_add] at hfin
 exact hfin
theorem val_letter (b g o : Nat) (n : Int) (s : ByteArray) (w : World) (hb : Wlk w b s false) (hgb : g ≠ b) (k0 : Own w ⟨g, o, none⟩ ((.letter n : AnyD).val)) (hn : 0 ≤ n ∧ n ≤ 255) (hroom : s.size + (anyL (.letter n)).length ≤ maxLen) :
  Calls Tryz.prog 63 #[.pointer (some ⟨b, 0, none⟩), .pointer (some ⟨g, o, none⟩)] w (EncQ b s (anyL (.letter n)) false w) := by
 have hs : Calls Tryz.prog 78 #[(.letter n : AnyD).val] w fun e w' => e = .returned (.tuple #[.int .u8 2, .bool true]) ∧ Wr [] w w' := sort_any (.letter n) w
 have hst := stored_any (.letter n : AnyD).val (.letter n : AnyD).val_one
 have hbl := hb.lt
 unfold anyL at hroom
 simp only [qlaq, numL_len, four_len] at hroom
 simp only [AnyD.val] at hs hst k0
 have HC := qh (fun W s' q (hb : Wlk W b s' false) (hq : q ≠ b) hr ct => byte_q b ⟨q, 0, none⟩ s' W hb hq n hn hr ct)
 have H1 := qh (fun W s' q (hb : Wlk W b s' false) (hq : q ≠ b) hr ct => byte_q b ⟨q, 0, none⟩ s' W hb hq 2 (by decide) hr ct)
 have HS := qh hs
 have K0 := qh k0
 have HRM := qh hroom
 have c0 := k0.cell
 clear hs k0 hroom
 go_enter Tryz.func63, Tryz.ntmps63
 go_wp2_with fail
 refine HS.out.mono ?_
 rintro e w1 ⟨rfl, r1⟩
 replace hb := hb.wr0 r1
 have R1 := qh (r1.nil (l := [b]))
 have n1 := Blk.new w1 5 #[.int .u8 2]
 have hb1 := hb.alloc (.cells #[.int .u8 2] 5)
 have hq1 : w1.heap.size ≠ b := by have := r1.size; omega
 have h1 := H1.out _ _ w1.heap.size hb1 hq1 (by have := HRM.out; rw [show (Int.toNat 2) = 2 from rfl, numL_len]; omega) ⟨n1.cell 0, n1.frozen 0⟩
 have R2 := qh (R1.out.alloc (.cells #[.int .u8 2] 5))
 have N1 := qh n1
 have HH1 := qh h1
 have Q1 := qh hq1
 clear h1 hb1 hb r1 n1 c0 hq1
 go_wp2_with fail
 refine HH1.out.mono ?_
 rintro e w2 ⟨rfl, r2, b2⟩
 have R3 := qh (R2.out.trans r2)
 have hn1 := N1.out.wr r2 (by simp only [qmsq]; exact Q1.out)
 have q0 := hn1.cell 0
 simp only [qgaq, qgzq] at q0
 have k2 := K0.out.keep R3.out (by simp [hgb])
 have c0 := k2.cell
 have f0 := k2.frozen
 have E0 := qh (setCell_self c0)
 have B2 := qh b2
 have hbl2 := b2.lt
 clear r2 b2 hn1 k2
 have hA := fun w => anyAs_letter (.letter n) w
 simp only [AnyD.val, AnyD.wholeV, AnyD.letterV, AnyD.truthV, AnyD.sort] at hA
 have n2 := Blk.new w2 5 #[.int .u8 n]
 have hq2 : w2.heap.size ≠ b := by omega
 have h2 := HC.out _ _ w2.heap.size (B2.out.alloc (.cells #[.int .u8 n] 5)) hq2 (by have := HRM.out; simp only [addL_size, numL_len, four_len]; show _ + (numL 2 1).length + _ ≤ _; rw [numL_len]; omega) ⟨n2.cell 0, n2.frozen 0⟩
 have H2 := qh h2
 have N2 := qh n2
 have R4 := qh (R3.out.alloc (.cells #[.int .u8 n] 5))
 have Q2 := qh hq2
 clear h2 n2 hq2
 go_wp2_with fail
 refine H2.out.mono ?_
 rintro e w3 ⟨rfl, r3, b3⟩
 have R5 := qh (R4.out.trans r3)
 have hn2 := N2.out.wr r3 (by simp only [qmsq]; exact Q2.out)
 have q2 := hn2.cell 0
 simp only [qgaq, qgzq] at q2
 have k3 := K0.out.keep R5.out (by simp [hgb])
 clear c0 f0 E0
 have c0 := k3.cell
 have f0 := k3.frozen
 have E0 := qh (setCell_self c0)
 have B3 := qh b3
 clear r3 b3 hn2 k3
 go_wp2_with fail
 refine bodyPost_end (results_none Tryz.results63 _ _ _) rfl ?_
 rw [E0.out]
 refine ⟨rfl, R5.out, ?_⟩
 have hfin := B3.out
 rw [addL_add] at hfin
 exact hfin
theorem val_truth (b g o : Nat) (t : Bool) (s : ByteArray) (w : World) (hb : Wlk w b s false) (hgb : g ≠ b) (k0 : Own w ⟨g, o, none⟩ ((.truth t : AnyD).val)) (hroom : s.size + (anyL (.truth t)).length ≤ maxLen) :
  Calls Tryz.prog 63 #[.pointer (some ⟨b, 0, none⟩), .pointer (some ⟨g, o, none⟩)] w (EncQ b s (anyL (.truth t)) false w) := by
 have hs : Calls Tryz.prog 78 #[(.truth t : AnyD).val] w fun e w' => e = .returned (.tuple #[.int .u8 3, .bool true]) ∧ Wr [] w w' := sort_any (.truth t) w
 have hst := stored_any (.truth t : AnyD).val (.truth t : AnyD).val_one
 have hbl := hb.lt
 unfold anyL at hroom
 simp only [qlaq, numL_len, four_len] at hroom
 simp only [AnyD.val] at hs hst k0
 have HC := qh (fun W s' q (hb : Wlk W b s' false) (hq : q ≠ b) hr ct => truth_q b ⟨q, 0, none⟩ s' W hb hq t hr ct)
 have H1 := qh (fun W s' q (hb : Wlk W b s' false) (hq : q ≠ b) hr ct => byte_q b ⟨q, 0, none⟩ s' W hb hq 3 (by decide) hr ct)
 have HS := qh hs
 have K0 := qh k0
 have HRM := qh hroom
 have c0 := k0.cell
 clear hs k0 hroom
 go_enter Tryz.func63, Tryz.ntmps63
 go_wp2_with fail
 refine HS.out.mono ?_
 rintro e w1 ⟨rfl, r1⟩
 replace hb := hb.wr0 r1
 have R1 := qh (r1.nil (l := [b]))
 have n1 := Blk.new w1 5 #[.int .u8 3]
 have hb1 := hb.alloc (.cells #[.int .u8 3] 5)
 have hq1 : w1.heap.size ≠ b := by have := r1.size; omega
 have h1 := H1.out _ _ w1.heap.size hb1 hq1 (by have := HRM.out; rw [show (Int.toNat 3) = 3 from rfl, numL_len]; omega) ⟨n1.cell 0, n1.frozen 0⟩
 have R2 := qh (R1.out.alloc (.cells #[.int .u8 3] 5))
 have N1 := qh n1
 have HH1 := qh h1
 have Q1 := qh hq1
 clear h1 hb1 hb r1 n1 c0 hq1
 go_wp2_with fail
 refine HH1.out.mono ?_
 rintro e w2 ⟨rfl, r2, b2⟩
 have R3 := qh (R2.out.trans r2)
 have hn1 := N1.out.wr r2 (by simp only [qmsq]; exact Q1.out)
 have q0 := hn1.cell 0
 simp only [qgaq, qgzq] at q0
 have k2 := K0.out.keep R3.out (by simp [hgb])
 have c0 := k2.cell
 have f0 := k2.frozen
 have E0 := qh (setCell_self c0)
 have B2 := qh b2
 have hbl2 := b2.lt
 clear r2 b2 hn1 k2
 have hA := fun w => anyAs_truth (.truth t) w
 simp only [AnyD.val, AnyD.wholeV, AnyD.letterV, AnyD.truthV, AnyD.sort] at hA
 have n2 := Blk.new w2 4 #[.bool t]
 have hq2 : w2.heap.size ≠ b := by omega
 have h2 := HC.out _ _ w2.heap.size (B2.out.alloc (.cells #[.bool t] 4)) hq2 (by have := HRM.out; simp only [addL_size, numL_len, four_len]; show _ + (numL 3 1).length + _ ≤ _; rw [numL_len]; omega) ⟨n2.cell 0, n2.frozen 0⟩
 have H2 := qh h2
 have N2 := qh n2
 have R4 := qh (R3.out.alloc (.cells #[.bool t] 4))
 have Q2 := qh hq2
 clear h2 n2 hq2
 go_wp2_with fail
 refine H2.out.mono ?_
 rintro e w3 ⟨rfl, r3, b3⟩
 have R5 := qh (R4.out.trans r3)
 have hn2 := N2.out.wr r3 (by simp only [qmsq]; exact Q2.out)
 have q2 := hn2.cell 0
 simp only [qgaq, qgzq] at q2
 have k3 := K0.out.keep R5.out (by simp [hgb])
 clear c0 f0 E0
 have c0 := k3.cell
 have f0 := k3.frozen
 have E0 := qh (setCell_self c0)
 have B3 := qh b3
 clear r3 b3 hn2 k3
 go_wp2_with fail
 refine bodyPost_end (results_none Tryz.results63 _ _ _) rfl ?_
 rw [E0.out]
 refine ⟨rfl, R5.out, ?_⟩
 have hfin := B3.out
 rw [addL_add] at hfin
 exact hfin
theorem val_bits (b g o : Nat) (n : Int) (s : ByteArray) (w : World) (hb : Wlk w b s false) (hgb : g ≠ b) (k0 : Own w ⟨g, o, none⟩ ((.bits n : AnyD).val)) (hn : 0 ≤ n ∧ n ≤ 65535) (hroom : s.size + (anyL (.bits n)).length ≤ maxLen) :
  Calls Tryz.prog 63 #[.pointer (some ⟨b, 0, none⟩), .pointer (some ⟨g, o, none⟩)] w (EncQ b s (anyL (.bits n)) false w) := by
 have hs : Calls Tryz.prog 78 #[(.bits n : AnyD).val] w fun e w' => e = .returned (.tuple #[.int .u8 4, .bool true]) ∧ Wr [] w w' := sort_any (.bits n) w
 have hst := stored_any (.bits n : AnyD).val (.bits n : AnyD).val_one
 have hbl := hb.lt
 unfold anyL at hroom
 simp only [qlaq, numL_len, four_len] at hroom
 simp only [AnyD.val] at hs hst k0
 have H1 := qh (fun W s' q (hb : Wlk W b s' false) (hq : q ≠ b) hr ct => byte_q b ⟨q, 0, none⟩ s' W hb hq 4 (by decide) hr ct)
 have HS := qh hs
 have K0 := qh k0
 have HRM := qh hroom
 have c0 := k0.cell
 clear hs k0 hroom
 go_enter Tryz.func63, Tryz.ntmps63
 go_wp2_with fail
 refine HS.out.mono ?_
 rintro e w1 ⟨rfl, r1⟩
 replace hb := hb.wr0 r1
 have R1 := qh (r1.nil (l := [b]))
 have n1 := Blk.new w1 5 #[.int .u8 4]
 have hb1 := hb.alloc (.cells #[.int .u8 4] 5)
 have hq1 : w1.heap.size ≠ b := by have := r1.size; omega
 have h1 := H1.out _ _ w1.heap.size hb1 hq1 (by have := HRM.out; rw [show (Int.toNat 4) = 4 from rfl, numL_len]; omega) ⟨n1.cell 0, n1.frozen 0⟩
 have R2 := qh (R1.out.alloc (.cells #[.int .u8 4] 5))
 have N1 := qh n1
 have HH1 := qh h1
 have Q1 := qh hq1
 clear h1 hb1 hb r1 n1 c0 hq1
 go_wp2_with fail
 refine HH1.out.mono ?_
 rintro e w2 ⟨rfl, r2, b2⟩
 have R3 := qh (R2.out.trans r2)
 have hn1 := N1.out.wr r2 (by simp only [qmsq]; exact Q1.out)
 have q0 := hn1.cell 0
 simp only [qgaq, qgzq] at q0
 have k2 := K0.out.keep R3.out (by simp [hgb])
 have c0 := k2.cell
 have f0 := k2.frozen
 have E0 := qh (setCell_self c0)
 have B2 := qh b2
 have hbl2 := b2.lt
 clear r2 b2 hn1 k2
 have hA := fun w => anyAs_bits (.bits n) w
 simp only [AnyD.val, AnyD.bitsV, AnyD.sort] at hA
 obtain ⟨m, rfl⟩ : ∃ m : Nat, n = (m : Int) := ⟨n.toNat, by omega⟩
 have h2 := bytes_w b _ false w2 B2.out m 2 (by omega) (by omega) (by have := HRM.out; simp only [addL_size, numL_len]; show _ + (numL 4 1).length + _ ≤ _; rw [numL_len]; omega)
 have H2 := qh h2
 have e1 : IntKind.u64.wrap (m : Int) = (m : Int) := by rw [IntKind.wrap_u64]; omega
 have e2 : IntKind.u16.wrap (m : Int) = (m : Int) := by simp [IntKind.wrap, IntKind.bits, IntKind.signed]; omega
 clear h2
 go_wp2_with fail
 refine H2.out.mono ?_
 rintro e w3 ⟨rfl, r3, b3⟩
 have R5 := qh (R3.out.trans r3)
 have k3 := K0.out.keep R5.out (by simp [hgb])
 clear c0 f0 E0
 have c0 := k3.cell
 have f0 := k3.frozen
 have E0 := qh (setCell_self c0)
 have B3 := qh b3
 clear r3 b3 k3
 go_wp2_with fail
 refine bodyPost_end (results_none Tryz.results63 _ _ _) rfl ?_
 rw [E0.out]
 refine ⟨rfl, R5.out, ?_⟩
 have hfin := B3.out
 rw [addL_add] at hfin
 exact hfin
theorem val_str (b g o : Nat) (t : ByteArray) (s : ByteArray) (w : World) (hb : Wlk w b s false) (hgb : g ≠ b) (k0 : Own w ⟨g, o, none⟩ ((.str t : AnyD).val)) (hn : t.size ≤ 65535) (hroom : s.size + (anyL (.str t)).length ≤ maxLen) :
  Calls Tryz.prog 63 #[.pointer (some ⟨b, 0, none⟩), .pointer (some ⟨g, o, none⟩)] w (EncQ b s (anyL (.str t)) false w) := by
 have hs : Calls Tryz.prog 78 #[(.str t : AnyD).val] w fun e w' => e = .returned (.tuple #[.int .u8 5, .bool true]) ∧ Wr [] w w' := sort_any (.str t) w
 have hst := stored_any (.str t : AnyD).val (.str t : AnyD).val_one
 have hbl := hb.lt
 unfold anyL at hroom
 simp only [qlaq, numL_len, Array.length_toList] at hroom
 replace hroom : s.size + (1 + (2 + t.size)) ≤ maxLen := hroom
 simp only [AnyD.val] at hs hst k0
 have H1 := qh (fun W s' q (hb : Wlk W b s' false) (hq : q ≠ b) hr ct => byte_q b ⟨q, 0, none⟩ s' W hb hq 5 (by decide) hr ct)
 have HS := qh hs
 have K0 := qh k0
 have HRM := qh hroom
 have c0 := k0.cell
 clear hs k0 hroom
 go_enter Tryz.func63, Tryz.ntmps63
 go_wp2_with fail
 refine HS.out.mono ?_
 rintro e w1 ⟨rfl, r1⟩
 replace hb := hb.wr0 r1
 have R1 := qh (r1.nil (l := [b]))
 have n1 := Blk.new w1 5 #[.int .u8 5]
 have hb1 := hb.alloc (.cells #[.int .u8 5] 5)
 have hq1 : w1.heap.size ≠ b := by have := r1.size; omega
 have h1 := H1.out _ _ w1.heap.size hb1 hq1 (by have := HRM.out; rw [show (Int.toNat 5) = 5 from rfl, numL_len]; omega) ⟨n1.cell 0, n1.frozen 0⟩
 have R2 := qh (R1.out.alloc (.cells #[.int .u8 5] 5))
 have N1 := qh n1
 have HH1 := qh h1
 have Q1 := qh hq1
 clear h1 hb1 hb r1 n1 c0 hq1
 go_wp2_with fail
 refine HH1.out.mono ?_
 rintro e w2 ⟨rfl, r2, b2⟩
 have R3 := qh (R2.out.trans r2)
 have hn1 := N1.out.wr r2 (by simp only [qmsq]; exact Q1.out)
 have q0 := hn1.cell 0
 simp only [qgaq, qgzq] at q0
 have k2 := K0.out.keep R3.out (by simp [hgb])
 have c0 := k2.cell
 have f0 := k2.frozen
 have E0 := qh (setCell_self c0)
 have B2 := qh b2
 have hbl2 := b2.lt
 clear r2 b2 hn1 k2
 have hA := fun w => anyAs_string (.str t) w
 simp only [AnyD.val, AnyD.strV, AnyD.sort] at hA
 have n2 := Blk.new w2 9 #[.string t]
 have hq2 : w2.heap.size ≠ b := by omega
 have h2 := count_w b t.size _ false hn (by have := HRM.out; simp only [addL_size]; rw [show (Int.toNat 5) = 5 from rfl, numL_len]; omega) _ (B2.out.alloc (.cells #[.string t] 9))
 have h3 := fun W nn s' (hr : s'.size + t.size ≤ maxLen) hb ct => raw_any b ⟨w2.heap.size, 0, none⟩ nn s' t false hr W hb ct
 have H2 := qh h2
 have H3 := qh h3
 have N2 := qh n2
 have R4 := qh (R3.out.alloc (.cells #[.string t] 9))
 have Q2 := qh hq2
 clear h2 h3 n2 hq2
 go_wp2_with fail
 refine H2.out.mono ?_
 rintro e w3 ⟨rfl, r3, b3⟩
 have R5 := qh (R4.out.trans r3)
 have hn2 := N2.out.wr r3 (by simp only [qmsq]; exact Q2.out)
 have h4 := H3.out w3 (t.size : Int) _ (by have := HRM.out; simp only [addL_size, numL_len]; omega) b3 (hn2.cell 0)
 have H4 := qh h4
 have N3 := qh hn2
 clear r3 b3 hn2 h4 c0 f0 E0
 go_wp2_with fail
 refine H4.out.mono ?_
 rintro e w4 ⟨rfl, r4, b4⟩
 have R6 := qh (R5.out.trans r4)
 have hn3 := N3.out.wr r4 (by simp only [qmsq]; exact Q2.out)
 have q3 := hn3.cell 0
 simp only [qgaq, qgzq] at q3
 have k3 := K0.out.keep R6.out (by simp [hgb])
 have c0 := k3.cell
 have f0 := k3.frozen
 have E0 := qh (setCell_self c0)
 have B4 := qh b4
 clear r4 b4 hn3 k3
 go_wp2_with fail
 refine bodyPost_end (results_none Tryz.results63 _ _ _) rfl ?_
 rw [E0.out]
 refine ⟨rfl, R6.out, ?_⟩
 have hfin := B4.out
 rw [addL_str, addL_add, addL_add] at hfin
 exact hfin
theorem val_item (b g o : Nat) (t n : Int) (s : ByteArray) (w : World) (hb : Wlk w b s false) (hgb : g ≠ b) (k0 : Own w ⟨g, o, none⟩ ((.item t n : AnyD).val)) (ht : smB t = true) (hn : smB n = true) (hroom : s.size + (anyL (.item t n)).length ≤ maxLen) :
  Calls Tryz.prog 63 #[.pointer (some ⟨b, 0, none⟩), .pointer (some ⟨g, o, none⟩)] w (EncQ b s (anyL (.item t n)) false w) := by
 have hs : Calls Tryz.prog 78 #[(.item t n : AnyD).val] w fun e w' => e = .returned (.tuple #[.int .u8 6, .bool true]) ∧ Wr [] w w' := sort_any (.item t n) w
 have hst := stored_any (.item t n : AnyD).val (.item t n : AnyD).val_one
 have hbl := hb.lt
 unfold anyL at hroom
 simp only [qlaq, numL_len, four_len] at hroom
 simp only [AnyD.val] at hs hst k0
 have H1 := qh (fun W s' q (hb : Wlk W b s' false) (hq : q ≠ b) hr ct => byte_q b ⟨q, 0, none⟩ s' W hb hq 6 (by decide) hr ct)
 have HS := qh hs
 have K0 := qh k0
 have HRM := qh hroom
 have c0 := k0.cell
 clear hs k0 hroom
 go_enter Tryz.func63, Tryz.ntmps63
 go_wp2_with fail
 refine HS.out.mono ?_
 rintro e w1 ⟨rfl, r1⟩
 replace hb := hb.wr0 r1
 have R1 := qh (r1.nil (l := [b]))
 have n1 := Blk.new w1 5 #[.int .u8 6]
 have hb1 := hb.alloc (.cells #[.int .u8 6] 5)
 have hq1 : w1.heap.size ≠ b := by have := r1.size; omega
 have h1 := H1.out _ _ w1.heap.size hb1 hq1 (by have := HRM.out; rw [show (Int.toNat 6) = 6 from rfl, numL_len]; omega) ⟨n1.cell 0, n1.frozen 0⟩
 have R2 := qh (R1.out.alloc (.cells #[.int .u8 6] 5))
 have N1 := qh n1
 have HH1 := qh h1
 have Q1 := qh hq1
 clear h1 hb1 hb r1 n1 c0 hq1
 go_wp2_with fail
 refine HH1.out.mono ?_
 rintro e w2 ⟨rfl, r2, b2⟩
 have R3 := qh (R2.out.trans r2)
 have hn1 := N1.out.wr r2 (by simp only [qmsq]; exact Q1.out)
 have q0 := hn1.cell 0
 simp only [qgaq, qgzq] at q0
 have k2 := K0.out.keep R3.out (by simp [hgb])
 have c0 := k2.cell
 have f0 := k2.frozen
 have E0 := qh (setCell_self c0)
 have B2 := qh b2
 have hbl2 := b2.lt
 clear r2 b2 hn1 k2
 have hA := fun w => anyAs_item (.item t n) w
 simp only [AnyD.val, AnyD.itemT, AnyD.itemN, AnyD.sort] at hA
 have n2 := Blk.new w2 86 #[.int .i64 t, .int .i64 n]
 have hq2 : w2.heap.size ≠ b := by omega
 have h2 := place_q b ⟨w2.heap.size, 0, none⟩ _ _ (B2.out.alloc (.cells #[.int .i64 t, .int .i64 n] 86)) hq2 t ht (by have := HRM.out; simp only [addL_size, four_len]; rw [show (Int.toNat 6) = 6 from rfl, numL_len]; omega) ⟨n2.cell 0, n2.frozen 0⟩
 have h3 := fun W s' hr hb ct => number_q b ⟨w2.heap.size, 1, none⟩ s' W hb hq2 n hn hr ct
 have H2 := qh h2
 have H3 := qh h3
 have N2 := qh n2
 have R4 := qh (R3.out.alloc (.cells #[.int .i64 t, .int .i64 n] 86))
 have Q2 := qh hq2
 clear h2 h3 n2 hq2
 go_wp2_with fail
 refine H2.out.mono ?_
 rintro e w3 ⟨rfl, r3, b3⟩
 have R5 := qh (R4.out.trans r3)
 have hn2 := N2.out.wr r3 (by simp only [qmsq]; exact Q2.out)
 have h4 := H3.out w3 _ (by have := HRM.out; simp only [addL_size, four_len]; rw [show (Int.toNat 6) = 6 from rfl, numL_len]; omega) b3 ⟨hn2.cell 1, hn2.frozen 1⟩
 have H4 := qh h4
 have N3 := qh hn2
 clear r3 b3 hn2 h4 c0 f0 E0
 go_wp2_with fail
 refine H4.out.mono ?_
 rintro e w4 ⟨rfl, r4, b4⟩
 have R6 := qh (R5.out.trans r4)
 have hn3 := N3.out.wr r4 (by simp only [qmsq]; exact Q2.out)
 have q3 := hn3.cell 0
 have q4 := hn3.cell 1
 simp only [qgaq, qgzq, qgsq] at q3 q4
 have k3 := K0.out.keep R6.out (by simp [hgb])
 have c0 := k3.cell
 have f0 := k3.frozen
 have E0 := qh (setCell_self c0)
 have B4 := qh b4
 clear r4 b4 hn3 k3
 go_wp2_with fail
 refine bodyPost_end (results_none Tryz.results63 _ _ _) rfl ?_
 rw [E0.out]
 refine ⟨rfl, R6.out, ?_⟩
 have hfin := B4.out
 rw [addL_add, addL_add] at hfin
 try rw [qapq] at hfin
 exact hfin
theorem value_w (b g o nt : Nat) (hnt : nt ≤ 1024) (v : AnyD) (s : ByteArray) (w : World) (hb : Wlk w b s false) (hgb : g ≠ b) (k0 : Own w ⟨g, o, none⟩ v.val) (hw : anyW v) (hf : anyFit v = true) (hm : anyForm nt v = true) (hroom : s.size + (anyL v).length ≤ maxLen) :
  Calls Tryz.prog 63 #[.pointer (some ⟨b, 0, none⟩), .pointer (some ⟨g, o, none⟩)] w (EncQ b s (anyL v) false w) := by
 cases v with
 | nil => exact val_nil b g o s w hb hgb k0 hroom
 | whole n => exact val_whole b g o n s w hb hgb k0 hm hroom
 | letter n => exact val_letter b g o n s w hb hgb k0 hw hroom
 | truth t => exact val_truth b g o t s w hb hgb k0 hroom
 | bits n => exact val_bits b g o n s w hb hgb k0 hw hroom
 | str t => exact val_str b g o t s w hb hgb k0 (of_decide_eq_true hf) hroom
 | item t n =>
  unfold anyForm at hm
  simp only [Bool.and_eq_true] at hm
  exact val_item b g o t n s w hb hgb k0 (tyB_sm hnt hm.1) hm.2 hroom
 | null => exact val_null b g o s w hb hgb k0 hroom
 | other => cases hm
end Go.Proofs.YtjanbpchedgoiaaGreat
