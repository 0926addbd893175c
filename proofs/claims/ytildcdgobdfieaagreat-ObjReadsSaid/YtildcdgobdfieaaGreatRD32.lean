/- law 14's Plain: walked. Conditions: numbers are within their kinds. -/
import Derived.Test.YtildcdgobdfieaaGreatRD31
set_option linter.unusedVariables false
set_option linter.unusedSimpArgs false
set_option maxRecDepth 100000
set_option maxHeartbeats 32000000
namespace Go.Proofs.YtildcdgobdfieaaGreat
open Go.RowKit
def FaceP.val (f : FaceP) (vu vt vi : Value) : Value := .agg #[.string f.module, vu, vt, vi]
def PlainR (f : FaceD) (vu vt : Value) (w : World) (e : Ending) (w' : World) : Prop := ∃ vi, e = .returned ((facePl f).val vu vt vi) ∧ Wr [] w w' ∧ FacePL w' (fun _ => True) vu vt vi (facePl f)
def PlAt (w0 : World) (f : FaceD) (g : Nat) (cs zs : Array Value) (vu vt : Value) (k : Nat) (w : World) : Prop :=
 ∃ v, Wr [g + 1 + 1] w0 w ∧ Blk w g 55 cs ∧ Blk w (g + 1) 60 zs ∧ Blk w (g + 1 + 1) 60 #[.string f.module, vu, vt, v] ∧ w.ownsRow (g + 1 + 1 + 1) 134 8 v k (((f.items.take k).map pitmOf).flatMap PItm.cells)
theorem info_ritm : (Tryz.prog.info? 134).map (fun i => (i.zero, i.size, i.bytes)) = some (some (.agg #[.string ⟨#[]⟩, .int .u8 0, .int .i64 0, .int .i64 0, .int .u8 0, .int .i64 0, .int .i64 0, .string ⟨#[]⟩]), 8, 80) := by kernel_rfl
theorem plain_face (f : FaceD) (vu vt vi : Value) (P : Nat → Prop) (w : World) (h : FaceL w P vu vt vi f) (hs : ∀ x ∈ f.items, anyW x.v) (hn : f.items.length ≤ 1000000) :
  Calls Tryz.prog 27 #[.agg #[.string f.module, vu, vt, vi]] w (PlainR f vu vt w) := by
 obtain ⟨⟨A1, k1, rfl, hn1, hn2⟩, ⟨A2, k2, rfl, hf1, hf2⟩, ⟨A3, k3, rfl, ha1, ha2⟩⟩ := h.forms
 unfold maxLen at hn2 hf2 ha2
 obtain ⟨i0, hi0, hz0, hz1, hz2⟩ := info_parts info_ritm
 obtain ⟨w0, hw0⟩ : ∃ w0, ((w.alloc (.cells #[.string f.module, .slice A1 f.uses.length k1, .slice A2 f.types.length k2, .slice A3 f.items.length k3] 55)).alloc (.cells #[.string ⟨#[]⟩, .slice none 0 0, .slice none 0 0, .slice none 0 0] 60)).alloc (.cells #[.string f.module, .slice A1 f.uses.length k1, .slice A2 f.types.length k2, .slice none 0 0] 60) = w0 := ⟨_, rfl⟩
 obtain ⟨g, hg⟩ : ∃ g, w.heap.size = g := ⟨_, rfl⟩
 have acc : Wr [] w w0 := by rw [← hw0]; exact (((Wr.refl _ _).alloc _).alloc _).alloc _
 have bF : Blk w0 g 55 #[.string f.module, .slice A1 f.uses.length k1, .slice A2 f.types.length k2, .slice A3 f.items.length k3] := by rw [← hw0, ← hg]; exact ((Blk.new _ _ _).alloc _).alloc _
 obtain ⟨a1, ha1'⟩ : ∃ a, w.alloc (.cells #[.string f.module, .slice A1 f.uses.length k1, .slice A2 f.types.length k2, .slice A3 f.items.length k3] 55) = a := ⟨_, rfl⟩
 obtain ⟨a2, ha2'⟩ : ∃ a, a1.alloc (.cells #[.string ⟨#[]⟩, .slice none 0 0, .slice none 0 0, .slice none 0 0] 60) = a := ⟨_, rfl⟩
 have s1 : a1.heap.size = g + 1 := by rw [← ha1', qsiq, hg]
 have s2 : a2.heap.size = g + 1 + 1 := by rw [← ha2', qsiq, s1]
 have bR : Blk w0 (g + 1) 60 #[.string ⟨#[]⟩, .slice none 0 0, .slice none 0 0, .slice none 0 0] := by
  rw [← hw0, ha1', ← s1]
  exact (Blk.new _ _ _).alloc _
 have bB : Blk w0 (g + 1 + 1) 60 #[.string f.module, .slice A1 f.uses.length k1, .slice A2 f.types.length k2, .slice none 0 0] := by
  rw [← hw0, ha1', ha2', ← s2]
  exact Blk.new _ _ _
 have s3 : w0.heap.size = g + 1 + 1 + 1 := by rw [← hw0, ha1', ha2', qsiq, s2]
 have hat0 : PlAt w0 f g #[.string f.module, .slice A1 f.uses.length k1, .slice A2 f.types.length k2, .slice A3 f.items.length k3] #[.string ⟨#[]⟩, .slice none 0 0, .slice none 0 0, .slice none 0 0] (.slice A1 f.uses.length k1) (.slice A2 f.types.length k2) 0 w0 := ⟨.slice none 0 0, Wr.refl _ _, bF, bR, bB, by simp only [List.take_zero, List.map_nil, List.flatMap_nil]; exact World.ownsRow_nil _ _ _ _⟩
 have HAT0 := qh hat0
 have Hw0 := qh hw0
 have Hg := qh hg
 have ACC := qh acc
 have HL := qh (h.into (Q := fun b => b < w.heap.size) (fun b _ hb => hb))
 have HS := qh hs
 have S3 := qh s3
 clear hw0 hg acc bF bR bB s1 s2 s3 hat0 h hs ha1' ha2' a1 a2
 go_in
 go_upto_region 2 with (fail)
 rw [Hw0.out, Hg.out]
 go_wp2_with fail
 go_loopw [4] (fun s4 wr => ∃ k : Nat, k ≤ f.items.length ∧ s4 = .int .i64 k ∧ PlAt w0 f g #[.string f.module, .slice A1 f.uses.length k1, .slice A2 f.types.length k2, .slice A3 f.items.length k3] #[.string ⟨#[]⟩, .slice none 0 0, .slice none 0 0, .slice none 0 0] (.slice A1 f.uses.length k1) (.slice A2 f.types.length k2) k wr) (fun s4 _ => f.items.length - (intOf s4).toNat)
 case atStart => exact ⟨0, by omega, rfl, HAT0.out⟩
 case round =>
  obtain ⟨k, hk, rfl, v, rk, bf, br, bb, ow⟩ := hrel
  have f3 := bf.cell 3
  simp only [qgaq, qgzq, qgsq] at f3
  by_cases hlt : k < f.items.length
  ·obtain ⟨x, hx⟩ : ∃ x, f.items[k]? = some x := ⟨_, qgeq hlt⟩
   obtain ⟨b, off, c', e, hP, hcx⟩ := itm_at HL.out.items hx
   injection e with e1 _ e3
   subst e1 e3
   have hbg : b ∉ [g + 1 + 1] := fun hm => by rw [qmsq] at hm; have h1 : b < w.heap.size := hP; have := Hg.out; omega
   have x0 := rk.cellOf (ACC.out.cellOf (hcx 0 _ rfl) (by simp)) hbg
   have x1 := rk.cellOf (ACC.out.cellOf (hcx 1 _ rfl) (by simp)) hbg
   have x2 := rk.cellOf (ACC.out.cellOf (hcx 2 _ rfl) (by simp)) hbg
   have x3 := rk.cellOf (ACC.out.cellOf (hcx 3 _ rfl) (by simp)) hbg
   have x4 := rk.cellOf (ACC.out.cellOf (hcx 4 _ rfl) (by simp)) hbg
   simp only [Nat.add_zero] at x0
   have hany := fun W => value_any x.v (HS.out x (List.mem_of_getElem? hx)) W
   have hv1 := x.v.val_one
   have hvc := val_cells x.v
   have hstep : ((f.items.take (k + 1)).map pitmOf).flatMap PItm.cells = ((f.items.take k).map pitmOf).flatMap PItm.cells ++ (pitmOf x).cells := by
    rw [List.take_succ_eq_append_getElem hlt, (List.getElem?_eq_some_iff.1 hx).2, List.map_append, qfaq]
    simp
   unfold pitmOf PItm.cells at hstep
   unfold PVal.cells at hany
   obtain ⟨p, hp⟩ : ∃ p, valOf x.v = p := ⟨_, rfl⟩
   rw [hp] at hany
   have hstep' : ((f.items.take (k + 1)).map pitmOf).flatMap PItm.cells = ((f.items.take k).map pitmOf).flatMap PItm.cells ++ [.string x.name, .int .u8 x.kind, .int .i64 x.type, .int .i64 x.at_, .int .u8 p.sort, .int .i64 p.n, .int .i64 p.type, .string p.text] := by
    rw [← hp]
    exact hstep
   replace hstep := hstep'
   generalize x.v.val = V at *
   simp only [Value.cells] at hvc
   clear hp hstep'
   obtain ⟨Av, cv, hv, hv1', hv2'⟩ := own_form ow
   subst hv
   obtain ⟨wz, hwz⟩ : ∃ q, wr.alloc (.cells #[.string x.name, .int .u8 x.kind, .int .i64 x.type, V, .int .i64 x.at_] 136) = q := ⟨_, rfl⟩
   obtain ⟨z, hz⟩ : ∃ z, wr.heap.size = z := ⟨_, rfl⟩
   have qz : Wr [] wr wz := by rw [← hwz]; exact (Wr.refl _ _).alloc _
   have bz : Blk wz z 136 #[.string x.name, .int .u8 x.kind, .int .i64 x.type, V, .int .i64 x.at_] := by rw [← hwz, ← hz]; exact Blk.new _ _ _
   have hgz : g + 1 + 1 < z := by rw [← hz]; exact bb.lt
   have hnv : ∀ q, q ∈ ownL (.slice Av k cv) → g + 1 + 1 + 1 ≤ q ∧ q < z := fun q hq => by rw [← hz]; exact ow.lt q (mem_ownL.1 hq)
   have hn1 : g + 1 + 1 ∉ ownL (.slice Av k cv) := fun hm => by have := (hnv _ hm).1; omega
   have hn2 : z ∉ ownL (.slice Av k cv) := fun hm => by have := (hnv _ hm).2; omega
   have BF := qh (bf.wr0 qz)
   have BR := qh (br.wr0 qz)
   have BB := qh (bb.wr0 qz)
   have OW := qh (own_keep ow qz (fun _ _ => by simp))
   have RK := qh (rk.trans0 qz)
   have BZ := qh bz
   have HWZ := qh hwz
   have HZ := qh hz
   have HANY := qh hany
   have HV1 := qh hv1
   have HSTEP := qh hstep
   have HN1 := qh hn1
   have HN2 := qh hn2
   have HNV := qh hnv
   have HX := qh hx
   have hst := stored_any V hv1
   have h0 : (0 : Int) ≤ (k : Int) := by omega
   have h1 : (k : Int) < (f.items.length : Int) := by omega
   clear hcx hbg hany hv1 hstep hwz hz qz bz hn1 hn2 hnv hx rk bf br bb ow
   go_upto_region 6 with (fail)
   rw [HWZ.out, HZ.out]
   clear x0 x1 x2 x3 x4 f3
   have g3 := BB.out.cell 3
   obtain ⟨y0, y1, y2, y3, y4⟩ := c5q BZ.out
   simp only [qgaq, qgzq, qgsq] at g3
   refine begin1 17 (ownL (.slice Av k cv)) (fun w' => w'.cell? ⟨g + 1 + 1, 3, none⟩ = some (.slice Av k cv) ∧ w'.cell? ⟨z, 0, none⟩ = some (.string x.name) ∧ w'.cell? ⟨z, 1, none⟩ = some (.int .u8 x.kind) ∧ w'.cell? ⟨z, 2, none⟩ = some (.int .i64 x.type) ∧ w'.cell? ⟨z, 3, none⟩ = some (V) ∧ w'.cell? ⟨z, 4, none⟩ = some (.int .i64 x.at_)) (by kernel_rfl) (fun W hW => ⟨hW.cellOf g3 HN1.out, hW.cellOf y0 HN2.out, hW.cellOf y1 HN2.out, hW.cellOf y2 HN2.out, hW.cellOf y3 HN2.out, hW.cellOf y4 HN2.out⟩) fun HC hcl hS => ?_
   refine mvu 0 (by rfl) (by kernel_rfl) (by rfl) (fun w' hS => by (try go_split_ands); go_simp; try rfl) hcl hS fun hcl1 hS1 => ?_
   clear hcl hS
   try simp only [Act.put, qsaq, qszq, qssq]
   refine mvu 1 (by rfl) (by kernel_rfl) (by rfl) (fun w' hS => by (try go_split_ands); go_simp; try rfl) hcl1 hS1 fun hcl2 hS2 => ?_
   clear hcl1 hS1
   try simp only [Act.put, qsaq, qszq, qssq]
   refine mvu 2 (by rfl) (by kernel_rfl) (by rfl) (fun w' hS => by (try go_split_ands); go_simp; try rfl) hcl2 hS2 fun hcl3 hS3 => ?_
   clear hcl2 hS2
   try simp only [Act.put, qsaq, qszq, qssq]
   refine mvu 3 (by rfl) (by kernel_rfl) (by rfl) (fun w' hS => by (try go_split_ands); go_simp; try rfl) hcl3 hS3 fun hcl4 hS4 => ?_
   clear hcl3 hS3
   try simp only [Act.put, qsaq, qszq, qssq]
   refine mvu 4 (by rfl) (by kernel_rfl) (by rfl) (fun w' hS => by (try go_split_ands); go_simp; try rfl) hcl4 hS4 fun hcl5 hS5 => ?_
   clear hcl4 hS4
   try simp only [Act.put, qsaq, qszq, qssq]
   refine mvu 5 (by rfl) (by kernel_rfl) (by rfl) (fun w' hS => by (try go_split_ands); go_simp; try rfl) hcl5 hS5 fun hcl6 hS6 => ?_
   clear hcl5 hS5
   try simp only [Act.put, qsaq, qszq, qssq]
   refine mvu 6 (by rfl) (by kernel_rfl) (by rfl) (fun w' hS => by (try go_split_ands); go_simp; try rfl) hcl6 hS6 fun hcl7 hS7 => ?_
   clear hcl6 hS6
   try simp only [Act.put, qsaq, qszq, qssq]
   refine mvu 7 (by rfl) (by kernel_rfl) (by rfl) (fun w' hS => by (try go_split_ands); go_simp; try rfl) hcl7 hS7 fun hcl8 hS8 => ?_
   clear hcl7 hS7
   try simp only [Act.put, qsaq, qszq, qssq]
   refine mvu 8 (by rfl) (by kernel_rfl) (by rfl) (fun w' hS => by (try go_split_ands); go_simp; try rfl) hcl8 hS8 fun hcl9 hS9 => ?_
   clear hcl8 hS8
   try simp only [Act.put, qsaq, qszq, qssq]
   refine mvu 9 (by rfl) (by kernel_rfl) (by rfl) (fun w' hS => by (try go_split_ands); go_simp; try rfl) hcl9 hS9 fun hcl10 hS10 => ?_
   clear hcl9 hS9
   try simp only [Act.put, qsaq, qszq, qssq]
   refine mvu 10 (by rfl) (by kernel_rfl) (by rfl) (fun w' hS => by (try go_split_ands); go_simp; try rfl) hcl10 hS10 fun hcl11 hS11 => ?_
   clear hcl10 hS10
   try simp only [Act.put, qsaq, qszq, qssq]
   refine mvu 11 (by rfl) (by kernel_rfl) (by rfl) (fun w' hS => by (try go_split_ands); go_simp; try rfl) hcl11 hS11 fun hcl12 hS12 => ?_
   clear hcl11 hS11
   try simp only [Act.put, qsaq, qszq, qssq]
   refine st0 12 (by rfl) (by kernel_rfl) hcl12 fun K hK => ?_
   go_simp
   refine (HANY.out _).mono ?_
   rintro e w5 ⟨rfl, r5⟩
   obtain ⟨W6, hW6⟩ : ∃ q, w5.alloc (.cells #[.string x.name, .int .u8 x.kind, .int .i64 x.type, .int .i64 x.at_, .int .u8 p.sort, .int .i64 p.n, .int .i64 p.type, .string p.text] 134) = q := ⟨_, rfl⟩
   have r6 : Wr [] w5 W6 := by rw [← hW6]; exact (Wr.refl _ _).alloc _
   have n6 : Blk W6 w5.heap.size 134 #[.string x.name, .int .u8 x.kind, .int .i64 x.type, .int .i64 x.at_, .int .u8 p.sort, .int .i64 p.n, .int .i64 p.type, .string p.text] := by rw [← hW6]; exact Blk.new _ _ _
   have rz6 : Wr [] wz W6 := (Wr.refl [] wz).drew.trans (r5.trans r6)
   have ho1 : ∀ u ∈ ([.string x.name, .int .u8 x.kind, .int .i64 x.type, .int .i64 x.at_, .int .u8 p.sort, .int .i64 p.n, .int .i64 p.type, .string p.text] : List Value), u.oneCell' = true := by simp [Value.oneCell']
   obtain ⟨v', W7, hrun, hown, hgrow, _, hbk⟩ := run_append_own_at (P := Tryz.prog) W6 (g + 1 + 1 + 1) 58 58 134 i0 _ 8 80 Tryz.underlying58 hi0 hz0 hz1 hz2 rfl (by decide) (.slice Av k cv) k _ (own_keep OW.out rz6 (fun _ _ => by simp)) ⟨w5.heap.size, 0, none⟩ 1 1 [.string x.name, .int .u8 x.kind, .int .i64 x.type, .int .i64 x.at_, .int .u8 p.sort, .int .i64 p.n, .int .i64 p.type, .string p.text] rfl (fun jj u hu => by
    rw [Addr.add_lit, Nat.zero_add, n6.cell, qgaq]
    exact hu) ho1 (by unfold maxLen; omega) (by omega) (by have h1 := BB.out.lt; have h2 := rz6.size; have h3 := HNV.out; have h4 := BZ.out.lt; omega)
   obtain ⟨A7, c7, hv7⟩ : ∃ A c, v' = .slice A (k + 1) c := by
    rcases hown.2 with ⟨_, h0⟩ | ⟨gg, cap, cur, e, _⟩
    ·omega
    ·exact ⟨_, _, e⟩
   subst hv7
   have b7 := ((BB.out.wr0 rz6).wr (Wr.ofGrownOwn hgrow) HN1.out)
   have c7' := b7.cell 3
   have f7 := b7.frozen 3
   simp only [qgaq, qgzq, qgsq] at c7'
   have hfin : PlAt w0 f g #[.string f.module, .slice A1 f.uses.length k1, .slice A2 f.types.length k2, .slice (some ⟨b, off, none⟩) f.items.length k3] #[.string ⟨#[]⟩, .slice none 0 0, .slice none 0 0, .slice none 0 0] (.slice A1 f.uses.length k1) (.slice A2 f.types.length k2) (k + 1) (W7.setCell ⟨g + 1 + 1, 3, none⟩ (.slice A7 (k + 1) c7)) := by
    have rA : Wr (ownL (.slice Av k cv)) W6 W7 := Wr.ofGrownOwn hgrow
    have rS : Wr [g + 1 + 1] W7 (W7.setCell ⟨g + 1 + 1, 3, none⟩ (.slice A7 (k + 1) c7)) := (Wr.refl _ _).setOn (by simp) _
    have hlo : ∀ q, q < g + 1 + 1 + 1 → q ∉ ownL (.slice Av k cv) := fun q hq hm => by have := (HNV.out q hm).1; omega
    refine ⟨.slice A7 (k + 1) c7, ((RK.out.trans0 rz6).trans' rA (fun q hq => .inr (by have := (HNV.out q hq).1; have := S3.out; omega))).trans rS, ((BF.out.wr0 rz6).wr rA (hlo _ (by omega))).wr rS (by simp; omega), ((BR.out.wr0 rz6).wr rA (hlo _ (by omega))).wr rS (by simp), ?_, ?_⟩
    ·have := b7.set_ 3 (.slice A7 (k + 1) c7)
     simp at this
     exact this
    ·rw [HSTEP.out]
     exact own_keep hown rS (fun q hq hm => by have := (hown.lt q hq).1; simp at hm; omega)
   have HRUN := qh hrun
   have HGR := qh hgrow
   have HFIN := qh hfin
   have R5 := qh r5
   have HW6 := qh hW6
   clear hrun hown hgrow hbk b7 hfin n6 r6 rz6 hW6
   refine hK _ _ (fun _ => HC.out _ ((Wr.refl (ownL (.slice Av k cv)) wz).drew.trans0 r5)) (fun hcl13 => ?_)
   clear hK K hcl12 hS12
   try simp only [Act.put, qsaq, qszq, qssq]
   refine st0 13 (by rfl) (by kernel_rfl) hcl13 fun K hK => ?_
   go_simp
   refine hK _ _ (fun _ => HC.out _ ((Wr.refl (ownL (.slice Av k cv)) wz).drew.trans0 r5)) (fun hcl14 => ?_)
   clear hK K hcl13
   try simp only [Act.put, qsaq, qszq, qssq]
   refine st0 14 (by rfl) (by kernel_rfl) hcl14 fun K hK => ?_
   go_simp
   rw [HW6.out]
   refine hK _ _ (fun _ => HC.out _ (((Wr.refl (ownL (.slice Av k cv)) wz).drew.trans0 r5).trans0 (by rw [← HW6.out]; exact (Wr.refl _ _).alloc _ : Wr [] w5 W6))) (fun hcl15 => ?_)
   clear hK K hcl14
   try simp only [Act.put, qsaq, qszq, qssq]
   refine st0 15 (by rfl) (by kernel_rfl) hcl15 fun K hK => ?_
   refine step_append_run (by rfl) _ _ _ (by rfl) _ _ (by rfl) (by rfl) _ _ HRUN.out ?_
   refine hK _ _ (fun _ => HC.out _ ((((Wr.refl (ownL (.slice Av k cv)) wz).drew.trans0 r5).trans0 (by rw [← HW6.out]; exact (Wr.refl _ _).alloc _ : Wr [] w5 W6)).trans (Wr.ofGrownOwn HGR.out))) (fun hcl16 => ?_)
   clear hK K hcl15
   try simp only [Act.put, qsaq, qszq, qssq]
   refine st0 16 (by rfl) (by kernel_rfl) hcl16 fun K hK => ?_
   go_simp
   refine hK _ _ (fun _ => HC.out _ ((((Wr.refl (ownL (.slice Av k cv)) wz).drew.trans0 r5).trans0 (by rw [← HW6.out]; exact (Wr.refl _ _).alloc _ : Wr [] w5 W6)).trans (Wr.ofGrownOwn HGR.out))) (fun hcl17 => ?_)
   clear hK K hcl16
   try simp only [Act.put, qsaq, qszq, qssq]
   refine st0 17 (by rfl) (by kernel_rfl) hcl17 fun K hK => ?_
   go_simp
   refine hK _ _ (fun hb => absurd hb (by decide)) (fun hcl999 => ?_)
   clear hK K hcl17
   refine wpAnyL_done (by kernel_rfl) (NoPanic.normal ?_) _
   try simp only [Act.put, qsaq, qszq, qssq]
   go_wp2_with fail
   go_roundw
   case rel => exact ⟨k + 1, by omega, by go_num, HFIN.out⟩
   case measure => simp [intOf]; omega
  ·obtain rfl : k = f.items.length := by omega
   rw [List.take_length] at ow
   obtain ⟨Av, cv, hv, _, _⟩ := own_form ow
   subst hv
   obtain ⟨t0, t1, t2, t3⟩ := c4q bb
   obtain ⟨s0, s1, s2, s3⟩ := c4q br
   obtain ⟨z0, z1, z2, z3⟩ := z4q br
   have RK := qh rk
   have BR := qh br
   have OW := qh ow
   clear rk br bb bf ow
   go_wp2_with fail
   have r4 := wr4 wr (g + 1) (.string f.module) (.slice A1 f.uses.length k1) (.slice A2 f.types.length k2) (.slice Av f.items.length cv)
   have rw4 : Wr [] w wr := ACC.out.trans' RK.out (fun q hq => .inr (by rw [qmsq] at hq; have := Hg.out; omega))
   have hlw := HL.out.wr0 rw4
   have hne : ∀ q, q < w.heap.size → q ∉ [g + 1] := fun q hq hm => by rw [qmsq] at hm; have := Hg.out; omega
   have hl4 := (hlw.keep r4 hne).into (Q := fun _ => True) (fun _ _ _ => trivial)
   have oi := own_keep OW.out r4 (fun q hq hm => by have := (OW.out.lt q hq).1; simp at hm; omega)
   refine bodyPost_ret (v := (facePl f).val (.slice A1 f.uses.length k1) (.slice A2 f.types.length k2) (.slice Av f.items.length cv)) ?_ rfl ⟨_, rfl, rw4.new r4 (by have := Hg.out; omega), hl4.uses, hl4.types, ?_⟩
   ·have cc := blk4 wr (g + 1) 60 _ _ _ _ (.string f.module) (.slice A1 f.uses.length k1) (.slice A2 f.types.length k2) (.slice Av f.items.length cv) BR.out
    obtain ⟨u0, u1, u2, u3⟩ := c4q cc
    simp [results, Tryz.results27, go_sem, u0, u1, u2, u3, FaceP.val, facePl]
   ·have := Sl.ofOwn oi (P := fun _ => True) (fun _ _ => trivial)
    unfold SlPItms facePl
    rw [qlmq]
    exact this
end Go.Proofs.YtildcdgobdfieaaGreat
