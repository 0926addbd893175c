/- Canon's closure: types met, walked. Conditions: the types' numbers are those of types. -/
import Derived.Test.YtjanbpchedgoiaaGreatKT13
set_option linter.unusedVariables false
set_option linter.unusedSimpArgs false
set_option maxRecDepth 100000
set_option maxHeartbeats 32000000
namespace Go.Proofs.YtjanbpchedgoiaaGreat
open Go.RowKit
theorem info_int : (Tryz.prog.info? 3).map (fun i => (i.zero, i.size, i.bytes)) = some (some (.int .i64 0), 1, 8) := by kernel_rfl
def MLoop (c : CC) (w0 : World) (ts : List Ty) (k : Nat) (l ord : List Int) (vo : Value) (w : World) (j : Nat) (wr : World) : Prop :=
 ∃ ord' vo', CEnv c w0 ts.length ord' vo' wr ∧ CStep c vo w vo' wr ∧ meets (kidsAt ts) (k + 1) l ord = meets (kidsAt ts) (k + 1) (l.drop j) ord' ∧ fresh (nums ts.length) ord' ≤ fresh (nums ts.length) ord
def MIn (c : CC) (w0 : World) (ts : List Ty) (k : Nat) (tot rest : List Int) (z : Nat) (cs : Array Value) (vo : Value) (w wr : World) : Prop :=
 ∃ ord' vo', CEnv c w0 ts.length ord' vo' wr ∧ CStep c vo w vo' wr ∧ CSafe c vo' wr z ∧ Blk wr z 52 cs ∧ tot = meets (kidsAt ts) k rest ord' ∧ fresh (nums ts.length) ord' < k
theorem MIn.next {c : CC} {w0 w wr W w2 : World} {ts : List Ty} {k : Nat} {tot rest ordf : List Int} {x : List Int} {z : Nat} {cs : Array Value} {vo vof vo2 : Value} (hst : CStep c vo w vof wr) (hs : CSafe c vof wr z) (hb : Blk wr z 52 cs) (ht : tot = meets (kidsAt ts) k (x ++ rest) ordf) (hf : fresh (nums ts.length) ordf < k)
  (r : Wr [] wr W) (E : CEnv c w0 ts.length (meets (kidsAt ts) k x ordf) vo2 w2) (S : CStep c vof W vo2 w2) : MIn c w0 ts k tot rest z cs vo w w2 := by
 have s1 : CStep c vof wr vo2 w2 := (CStep.of0 r).trans S
 refine ⟨_, vo2, E, hst.trans s1, hs.step s1, hs.blk s1 hb, by rw [ht, meets_append], Nat.lt_of_le_of_lt (fresh_mono (fun n hn => meets_more _ _ _ _ hn)) hf⟩
theorem fld_at' {w : World} {P : Nat → Prop} {v : Value} {l : List Fld} (h : SlFlds w P v l) {i : Nat} {x : Fld} (hi : l[i]? = some x) : ∃ b off c, v = .slice (some ⟨b, off, none⟩) l.length c ∧ P b ∧ ∀ j u, x.cells[j]? = some u → w.cell? ⟨b, off + i * 3 + j, none⟩ = some u := by
 obtain ⟨b, off, c, e, _, _, hP, h4⟩ := Sl.thing h (by decide) (List.getElem?_eq_some_iff.1 hi).1
 refine ⟨b, off, c, e, hP, fun j u hj => ?_⟩
 have hj5 : j < 3 := (List.getElem?_eq_some_iff.1 hj).1
 rw [Nat.add_assoc]
 exact h4 j u hj5 (by rw [flatF_at (g := Fld.cells) (size := 3) (fun _ => rfl) l i j x hi hj5]; exact hj)
theorem par_at' {w : World} {P : Nat → Prop} {v : Value} {l : List Par} (h : SlPars w P v l) {i : Nat} {x : Par} (hi : l[i]? = some x) : ∃ b off c, v = .slice (some ⟨b, off, none⟩) l.length c ∧ P b ∧ ∀ j u, x.cells[j]? = some u → w.cell? ⟨b, off + i * 2 + j, none⟩ = some u := by
 obtain ⟨b, off, c, e, _, _, hP, h4⟩ := Sl.thing h (by decide) (List.getElem?_eq_some_iff.1 hi).1
 refine ⟨b, off, c, e, hP, fun j u hj => ?_⟩
 have hj5 : j < 2 := (List.getElem?_eq_some_iff.1 hj).1
 rw [Nat.add_assoc]
 exact h4 j u hj5 (by rw [flatF_at (g := Par.cells) (size := 2) (fun _ => rfl) l i j x hi hj5]; exact hj)
def MeetK (c : CC) (w0 : World) (ts : List Ty) (k : Nat) : Prop :=
 ∀ (l ord : List Int) (vo : Value) (w : World) (q : Nat), CEnv c w0 ts.length ord vo w → fresh (nums ts.length) ord < k → (∀ x ∈ l, tyB ts.length x = true) → l.length ≤ 2 → CSafe c vo w q → (∀ j x, l[j]? = some x → w.cell? ⟨q, j, none⟩ = some (.int .i64 x)) →
  Calls Tryz.prog 27 #[.slice (some ⟨q, 0, none⟩) l.length l.length, .pointer (some ⟨c.pn, 0, none⟩), .pointer (some ⟨c.po, 0, none⟩), .pointer (some ⟨c.pi, 0, none⟩), .pointer (some ⟨c.pm, 0, none⟩)] w (MetR c w0 ts.length (meets (kidsAt ts) k l ord) vo w)
section
variable (c : CC) (hc : c.wf) (w0 : World) (hB : c.B ≤ w0.heap.size) (ts : List Ty) (vt : Value) (ht : SlTys w0 (fun b => b < c.B) vt ts) (hi : w0.cell? ⟨c.pi, 2, none⟩ = some vt) (hpi : c.pi < c.B) (hts : ts.length ≤ 1024) (hfm : ∀ t ∈ ts, tyForm ts.length t = true) (hlf : ∀ t ∈ ts, t.fields.length ≤ 65535 ∧ t.params.length ≤ 65535)
include hc hB ht hi hpi hts hfm hlf
theorem meet_step (k : Nat) (IH : MeetK c w0 ts k) : MeetK c w0 ts (k + 1) := by
  intro l ord vo w q henv hfr htyl hll hsafe hcell
  obtain ⟨i0, hi0, hz0, hz1, hz2⟩ := info_parts info_int
  have HENV := qh henv
  have HFR := qh hfr
  have HTYL := qh htyl
  have HSAFE := qh hsafe
  have HCELL := qh hcell
  have HIH := qh IH
  have HT := qh ht
  have HI := qh hi
  have HFM := qh hfm
  have HLF := qh hlf
  clear IH henv hfr htyl hsafe hcell ht hi hfm hlf
  go_enter Tryz.func27, Tryz.ntmps27
  go_wp2_with fail
  go_loopw [17] (fun s17 wr => ∃ j : Nat, j ≤ l.length ∧ s17 = .int .i64 j ∧ MLoop c w0 ts k l ord vo w j wr) (fun s17 _ => l.length - (intOf s17).toNat)
  case atStart => exact ⟨0, by omega, rfl, ord, vo, HENV.out, CStep.refl _ _ _, by rw [List.drop_zero], Nat.le_refl _⟩
  case round =>
   obtain ⟨j, hj, rfl, ord', vo', he, hst, hmt, hfr⟩ := hrel
   have hlen := he.len
   have y0 := he.bn.cell 0
   have yo := he.bo.cell 0
   simp only [qgaq, qgzq] at y0 yo
   by_cases hlt : j < l.length
   ·obtain ⟨n, hn⟩ : ∃ n, l[j]? = some n := ⟨_, qgeq hlt⟩
    have hcl := HSAFE.out.cell hst (HCELL.out j n hn)
    have hdr := hmt.trans (meets_drop hn)
    have htn := tyB_iff.1 (HTYL.out n (List.mem_of_getElem? hn))
    have hlti : (j : Int) < (l.length : Int) := by omega
    have hj0 : (0 : Int) ≤ (j : Int) := by omega
    have HE := qh he
    have HST := qh hst
    have HFRJ := qh hfr
    have hlk := mapI_look Tryz.underlying79 Tryz.underlying3 he.mn n Tryz.zeroValue3
    by_cases hm : n ∈ ord'
    ·rw [numsOf_in hm] at hlk
     rw [if_pos (.inr hm)] at hdr
     have HDR := qh hdr
     simp only [Option.getD_some, Option.isSome_some] at hlk
     clear hdr hm hst hfr he hn hmt yo
     go_wp2_with fail
     go_roundw
     case rel => exact ⟨j + 1, by omega, by go_num, ord', vo', HE.out, HST.out, HDR.out, HFRJ.out⟩
     case measure => simp [intOf]; omega
    ·by_cases h10 : n < 10
     ·rw [numsOf_out hm] at hlk
      rw [if_pos (.inl h10)] at hdr
      have HDR := qh hdr
      simp only [Option.getD_none, Option.isSome_none] at hlk
      clear hdr hm hst hfr he hn hmt yo
      go_wp2_with fail
      go_roundw
      case rel => exact ⟨j + 1, by omega, by go_num, ord', vo', HE.out, HST.out, HDR.out, HFRJ.out⟩
      case measure => simp [intOf]; omega
     ·have h10' : 10 ≤ n := by omega
      have hnT : n ∈ nums ts.length := nums_iff.2 ⟨h10', htn.2⟩
      have hil : (n - 10).toNat < ts.length := by omega
      obtain ⟨t, htt⟩ : ∃ t, ts[(n - 10).toNat]? = some t := ⟨_, qgeq hil⟩
      have hkd : kidsAt ts n = kids t := by
       unfold kidsAt
       rw [htt]
      have htf := HFM.out t (List.mem_of_getElem? htt)
      have htl := HLF.out t (List.mem_of_getElem? htt)
      have hkf := kids_form htf
      rw [if_neg (fun h => h.elim h10 hm), hkd] at hdr
      have hfr2 : fresh (nums ts.length) (ord' ++ [n]) < k := by
       have := fresh_lt (T := nums ts.length) (o := ord') (o' := ord' ++ [n]) (fun x hx => List.mem_append_left _ hx) hnT hm (by simp)
       have := HFR.out
       omega
      rw [numsOf_out hm] at hlk
      simp only [Option.getD_none, Option.isSome_none] at hlk
      -- the map, the row
      obtain ⟨W1, hu1, k1, hm1⟩ := mapI_upd Tryz.underlying79 Tryz.underlying3 he.mn n (.int .i64 (10 + (ord'.length : Int)))
      have k2 : Wr [] W1 (W1.alloc (.cells #[.int .i64 n] 3)) := (Wr.refl [] W1).alloc _
      have hnew := Blk.new W1 3 #[.int .i64 n]
      have hne := hc.ne
      have hgn := hc.low c.gn (by simp [CC.blocks])
      have own2 : (W1.alloc (.cells #[.int .i64 n] 3)).ownsRow c.B 3 1 vo' ord'.length (ord'.map (Value.int .i64)) := own_keep (own_keep he.own k1 (fun b hb hx => he.far b hb (by rw [qmsq] at hx; rw [hx]; simp [CC.blocks]))) k2 (fun _ _ => by simp)
      obtain ⟨v', W3, hrun, hown, hgrow, _, hbk⟩ := run_append_own_at (P := Tryz.prog) (W1.alloc (.cells #[.int .i64 n] 3)) c.B 80 80 3 i0 _ 1 8 Tryz.underlying80 hi0 hz0 hz1 hz2 rfl (by decide) vo' ord'.length _ own2 ⟨W1.heap.size, 0, none⟩ 1 1 [.int .i64 n] rfl (fun j u hj => by
       rw [Addr.add_lit, Nat.zero_add, hnew.cell]
       simpa using hj) (by simp [Value.oneCell']) (by unfold maxLen; omega) (by omega) (Nat.le_trans (he.size hB) (Nat.le_trans k1.size k2.size))
      obtain ⟨e4, s4⟩ := he.push hc hB hm hnT h10' k1 hm1 k2 hown hgrow hbk
      obtain ⟨Av, cv, hv'⟩ : ∃ A c, v' = .slice A (ord'.length + 1) c := by
       rcases hown.2 with ⟨_, h0⟩ | ⟨g, cap, cur, e, _⟩
       ·omega
       ·exact ⟨_, _, e⟩
      subst hv'
      have hpoW1 : c.po ∉ [c.gn] := by simpa using hne.2.2.2.2.1
      have bo1 := he.bo.wr k1 hpoW1
      have zo := (bo1.alloc (.cells #[.int .i64 n] 3)).cell 0
      have bo3 := ((bo1.alloc (.cells #[.int .i64 n] 3)).wr (Wr.ofGrownOwn hgrow) (fun hx => he.far _ (mem_ownL.1 hx) (by simp [CC.blocks])))
      have zc := bo3.cell 0
      have zz := bo3.frozen 0
      have zo1 := bo1.cell 0
      have hpo : c.po < W1.heap.size := bo1.lt
      obtain ⟨Aq, nq, cq, hq1⟩ : ∃ A c', ∃ (_ : True), vo' = .slice A ord'.length c' := by
       obtain ⟨A, c', e, _, _⟩ := own_form he.own
       exact ⟨A, c', trivial, e⟩
      subst hq1
      simp only [qgaq, qgzq] at zo zc zo1
      -- the type
      obtain ⟨b, off, c', un, uf, ua, up, evt, hP, hcs, hls⟩ := ty_at HT.out htt
      obtain ⟨⟨B1, m1, rfl, _, _⟩, ⟨B2, m2, rfl, hB1, hB2⟩, ⟨B3, m3, rfl, hC1, hC2⟩, ⟨B4, m4, rfl, hD1, hD2⟩⟩ := hls.forms
      unfold maxLen at hB2 hD2
      subst evt
      have E4 := qh e4
      have S4 := qh (hst.trans s4)
      have HRUN := qh hrun
      have HDR := qh hdr
      have HFR2 := qh hfr2
      have HKF := qh hkf
      have HLS := qh hls
      have HCS := qh hcs
      have HTL := qh htl
      have a1 : (0 : Int) ≤ n - 10 := by omega
      have a2 : n - 10 < (ts.length : Int) := by omega
      have a3 : (ord'.length : Int) ≤ 1024 := by omega
      have a4 : ((ts.length : Nat) : Int) ≤ 1024 := by omega
      clear hst hfr he hn hmt hm htt hkd htf htl hkf hdr hfr2 k1 k2 hm1 hnew hne hgn own2 hrun hown hgrow hbk e4 s4 bo1 bo3 hpoW1 hls hcs hnT htn hil
      go_upto_region 7 with (at_builtin; refine wpList_append_run rfl _ _ _ rfl _ _ rfl rfl _ _ HRUN.out ?_)
      generalize W3.setCell ⟨c.po, 0, none⟩ (.slice Av (ord'.length + 1) cv) = W4 at *
      have ci := (E4.out.bel.cell (p := ⟨c.pi, 2, none⟩) hpi).trans HI.out
      have x0 := (E4.out.bel.cell (p := ⟨b, off + (n - 10).toNat * 12 + 0, none⟩) hP).trans (HCS.out 0 _ rfl)
      have x1 := (E4.out.bel.cell (p := ⟨b, off + (n - 10).toNat * 12 + 1, none⟩) hP).trans (HCS.out 1 _ rfl)
      have x2 := (E4.out.bel.cell (p := ⟨b, off + (n - 10).toNat * 12 + 2, none⟩) hP).trans (HCS.out 2 _ rfl)
      have x3 := (E4.out.bel.cell (p := ⟨b, off + (n - 10).toNat * 12 + 3, none⟩) hP).trans (HCS.out 3 _ rfl)
      have x4 := (E4.out.bel.cell (p := ⟨b, off + (n - 10).toNat * 12 + 4, none⟩) hP).trans (HCS.out 4 _ rfl)
      have x5 := (E4.out.bel.cell (p := ⟨b, off + (n - 10).toNat * 12 + 5, none⟩) hP).trans (HCS.out 5 _ rfl)
      have x6 := (E4.out.bel.cell (p := ⟨b, off + (n - 10).toNat * 12 + 6, none⟩) hP).trans (HCS.out 6 _ rfl)
      have x7 := (E4.out.bel.cell (p := ⟨b, off + (n - 10).toNat * 12 + 7, none⟩) hP).trans (HCS.out 7 _ rfl)
      have x8 := (E4.out.bel.cell (p := ⟨b, off + (n - 10).toNat * 12 + 8, none⟩) hP).trans (HCS.out 8 _ rfl)
      have x9 := (E4.out.bel.cell (p := ⟨b, off + (n - 10).toNat * 12 + 9, none⟩) hP).trans (HCS.out 9 _ rfl)
      have x10 := (E4.out.bel.cell (p := ⟨b, off + (n - 10).toNat * 12 + 10, none⟩) hP).trans (HCS.out 10 _ rfl)
      have x11 := (E4.out.bel.cell (p := ⟨b, off + (n - 10).toNat * 12 + 11, none⟩) hP).trans (HCS.out 11 _ rfl)
      simp only [Nat.add_zero] at x0
      obtain ⟨W5, hw5⟩ : ∃ q, W4.alloc (.cells #[.int .u8 t.kind, .string t.module, .string t.name, .int .i64 t.base, .int .i64 t.index, .int .i64 t.low, .int .i64 t.high, .slice B1 t.names.length m1, .slice B2 t.fields.length m2, .slice B3 t.arms.length m3, .slice B4 t.params.length m4, .int .i64 t.result] 52) = q := ⟨_, rfl⟩
      obtain ⟨z, hz⟩ : ∃ z, W4.heap.size = z := ⟨_, rfl⟩
      have q5 : Wr [] W4 W5 := by rw [← hw5]; exact (Wr.refl [] _).alloc _
      have b5 : Blk W5 z 52 #[.int .u8 t.kind, .string t.module, .string t.name, .int .i64 t.base, .int .i64 t.index, .int .i64 t.low, .int .i64 t.high, .slice B1 t.names.length m1, .slice B2 t.fields.length m2, .slice B3 t.arms.length m3, .slice B4 t.params.length m4, .int .i64 t.result] := by rw [← hw5, ← hz]; exact Blk.new _ _ _
      have sz : CSafe c (.slice Av (ord'.length + 1) cv) W5 z := by rw [← hw5, ← hz]; exact E4.out.safeNew _
      have e5 := E4.out.wr0 hB q5
      have S5 := qh (S4.out.wr0 q5)
      have E5 := qh e5
      have SZ := qh sz
      have BZ := qh b5
      have HW5 := qh hw5
      have HZ := qh hz
      clear hw5 hz q5 b5 sz e5 zo zc zz zo1 hpo yo y0 hcl hu1 hlk
      go_upto_region 8 with (fail)
      rw [HW5.out, HZ.out]
      clear x0 x1 x2 x3 x4 x5 x6 x7 x8 x9 x10 x11 ci
      have m0 := E5.out.bm.cell 0
      have d3 := BZ.out.cell 3
      have d4 := BZ.out.cell 4
      simp only [qgaq, qgzq, qgsq, CC.caps] at m0 d3 d4
      have q6 : Wr [] W5 (W5.alloc (.cells #[.int .i64 t.base, .int .i64 t.index] 3)) := (Wr.refl [] _).alloc _
      have n6 := Blk.new W5 3 #[.int .i64 t.base, .int .i64 t.index]
      have h8 := HIH.out [t.base, t.index] (ord' ++ [n]) _ _ W5.heap.size (E5.out.wr0 hB q6) HFR2.out (fun x hx => HKF.out x (by unfold kids; simp only [qmcq, qnnq, or_false] at hx; rcases hx with rfl | rfl <;> simp)) (by simp) (E5.out.safeNew _) (fun jj x hx => by rw [n6.cell]; match jj, hx with | 0, hx => (simp at hx; subst hx; rfl) | 1, hx => (simp at hx; subst hx; rfl))
      simp only [List.length_cons, List.length_nil, Nat.zero_add, Nat.reduceAdd] at h8
      have H8 := qh h8
      have Q6 := qh q6
      clear h8 q6 n6
      go_wp2_with fail
      refine H8.out.mono ?_
      rintro e w7 ⟨rfl, vo7, e7, s7⟩
      obtain ⟨TOT, hTOT⟩ : ∃ TOT, meets (kidsAt ts) k (kids t) (ord' ++ [n]) = TOT := ⟨_, rfl⟩
      have hm7 : MIn c w0 ts k TOT ((t.fields.drop 0).map Fld.type ++ (t.params.map Par.type ++ [t.result])) z #[.int .u8 t.kind, .string t.module, .string t.name, .int .i64 t.base, .int .i64 t.index, .int .i64 t.low, .int .i64 t.high, .slice B1 t.names.length m1, .slice B2 t.fields.length m2, .slice B3 t.arms.length m3, .slice B4 t.params.length m4, .int .i64 t.result] vo w w7 := MIn.next S5.out SZ.out BZ.out (x := [t.base, t.index]) (by rw [← hTOT]; rfl) HFR2.out Q6.out e7 s7
      have c8 := (SZ.out.step (CStep.of0 Q6.out)).blk s7 (BZ.out.wr0 Q6.out)
      have d8 := c8.cell 8
      simp only [qgaq, qgzq, qgsq, CC.caps] at d8
      have HM7 := qh hm7
      have HTOT := qh hTOT
      clear hm7 e7 s7 c8 m0 d3 d4 hTOT S5 E5 SZ BZ HW5 HZ H8 Q6 E4 S4 HRUN
      go_wp2_with fail
      go_loopw [57] (fun s57 wr => ∃ jf : Nat, jf ≤ t.fields.length ∧ s57 = .int .i64 jf ∧ MIn c w0 ts k TOT ((t.fields.drop jf).map Fld.type ++ (t.params.map Par.type ++ [t.result])) z #[.int .u8 t.kind, .string t.module, .string t.name, .int .i64 t.base, .int .i64 t.index, .int .i64 t.low, .int .i64 t.high, .slice B1 t.names.length m1, .slice B2 t.fields.length m2, .slice B3 t.arms.length m3, .slice B4 t.params.length m4, .int .i64 t.result] vo w wr) (fun s57 _ => t.fields.length - (intOf s57).toNat)
      case atStart => exact ⟨0, by omega, rfl, HM7.out⟩
      case round =>
       obtain ⟨jf, hjf, rfl, ordf, vof, ef, stf, sf, bf, tf, ff⟩ := hrel
       by_cases hlin : jf < t.fields.length
       ·skip
        obtain ⟨y, hy⟩ : ∃ y, t.fields[jf]? = some y := ⟨_, qgeq hlin⟩
        obtain ⟨b', off', c'', e, hP', hcf⟩ := fld_at' HLS.out.fields hy
        injection e with e1 _ e3
        subst e1 e3
        have x0 := (ef.bel.cell (p := ⟨b', off' + jf * 3 + 0, none⟩) hP').trans (hcf 0 _ rfl)
        have x1 := (ef.bel.cell (p := ⟨b', off' + jf * 3 + 1, none⟩) hP').trans (hcf 1 _ rfl)
        have x2 := (ef.bel.cell (p := ⟨b', off' + jf * 3 + 2, none⟩) hP').trans (hcf 2 _ rfl)
        simp only [Nat.add_zero] at x0
        have hdr2 : t.fields.drop jf = y :: t.fields.drop (jf + 1) := by
         rw [List.drop_eq_getElem_cons hlin, (List.getElem?_eq_some_iff.1 hy).2]
        rw [hdr2, List.map_cons] at tf
        have hyty : tyB ts.length y.type = true := HKF.out y.type (by unfold kids; simp only [qmcq, List.mem_append, List.mem_map]; exact .inr (.inr (.inl ⟨y, List.mem_of_getElem? hy, rfl⟩)))
        obtain ⟨W8, hw8⟩ : ∃ q, wr.alloc (.cells #[.string y.name, .int .i64 y.type, .int .i64 y.arm] 73) = q := ⟨_, rfl⟩
        obtain ⟨z8, hz8⟩ : ∃ z, wr.heap.size = z := ⟨_, rfl⟩
        have q8 : Wr [] wr W8 := by rw [← hw8]; exact (Wr.refl [] _).alloc _
        have b8 : Blk W8 z8 73 #[.string y.name, .int .i64 y.type, .int .i64 y.arm] := by rw [← hw8, ← hz8]; exact Blk.new _ _ _
        have e8 := ef.wr0 hB q8
        have q9 : Wr [] W8 (W8.alloc (.cells #[.int .i64 y.type] 3)) := (Wr.refl [] _).alloc _
        have n9 := Blk.new W8 3 #[.int .i64 y.type]
        have h9 := HIH.out [y.type] ordf vof _ W8.heap.size (e8.wr0 hB q9) ff (fun x hx => by rw [qmsq] at hx; rw [hx]; exact hyty) (by simp) (e8.safeNew _) (fun jj x hx => by rw [n9.cell]; match jj, hx with | 0, hx => (simp at hx; subst hx; rfl))
        simp only [List.length_cons, List.length_nil, Nat.zero_add] at h9
        have H9 := qh h9
        have STF := qh stf
        have SF := qh sf
        have BF := qh bf
        have TF := qh tf
        have FF := qh ff
        have Q89 := qh (q8.trans q9)
        have HW8 := qh hw8
        have HZ8 := qh hz8
        have B8 := qh b8
        have E8 := qh e8
        have h0f : (0 : Int) ≤ (jf : Int) := by omega
        have h1f : (jf : Int) < (t.fields.length : Int) := by omega
        clear hy hcf hdr2 hyty q8 b8 e8 q9 n9 h9 stf sf bf tf ff hw8 hz8 ef d8
        go_upto_region 12 with (fail)
        rw [HW8.out, HZ8.out]
        clear x0 x1 x2
        have m0 := E8.out.bm.cell 0
        have d1 := B8.out.cell 1
        simp only [qgaq, qgzq, qgsq, CC.caps] at m0 d1
        go_wp2_with fail
        refine H9.out.mono ?_
        rintro e w9 ⟨rfl, vo9, e9, s9⟩
        have hm9 := MIn.next STF.out SF.out BF.out (x := [y.type]) (rest := (t.fields.drop (jf + 1)).map Fld.type ++ (t.params.map Par.type ++ [t.result])) TF.out FF.out Q89.out e9 s9
        have HM9 := qh hm9
        clear hm9 e9 s9 m0 d1
        go_wp2_with fail
        go_roundw
        case rel => exact ⟨jf + 1, by omega, by go_num, HM9.out⟩
        case measure => simp [intOf]; omega
       ·obtain rfl : jf = t.fields.length := by omega
        rw [List.drop_length, List.map_nil, List.nil_append] at tf
        have d10 := bf.cell 10
        simp only [qgaq, qgzq, qgsq, CC.caps] at d10
        have hm10 : MIn c w0 ts k TOT ((t.params.drop 0).map Par.type ++ [t.result]) z #[.int .u8 t.kind, .string t.module, .string t.name, .int .i64 t.base, .int .i64 t.index, .int .i64 t.low, .int .i64 t.high, .slice B1 t.names.length m1, .slice B2 t.fields.length m2, .slice B3 t.arms.length m3, .slice B4 t.params.length m4, .int .i64 t.result] vo w wr := ⟨ordf, vof, ef, stf, sf, bf, tf, ff⟩
        have HM10 := qh hm10
        clear ef stf sf bf tf ff hm10 d8
        go_wp2_with fail
        go_loopw [70] (fun s70 wr => ∃ jp : Nat, jp ≤ t.params.length ∧ s70 = .int .i64 jp ∧ MIn c w0 ts k TOT ((t.params.drop jp).map Par.type ++ [t.result]) z #[.int .u8 t.kind, .string t.module, .string t.name, .int .i64 t.base, .int .i64 t.index, .int .i64 t.low, .int .i64 t.high, .slice B1 t.names.length m1, .slice B2 t.fields.length m2, .slice B3 t.arms.length m3, .slice B4 t.params.length m4, .int .i64 t.result] vo w wr) (fun s70 _ => t.params.length - (intOf s70).toNat)
        case atStart => exact ⟨0, by omega, rfl, HM10.out⟩
        case round =>
         obtain ⟨jp, hjp, rfl, ordf, vof, ef, stf, sf, bf, tf, ff⟩ := hrel
         by_cases hlin : jp < t.params.length
         ·skip
          obtain ⟨y, hy⟩ : ∃ y, t.params[jp]? = some y := ⟨_, qgeq hlin⟩
          obtain ⟨b', off', c'', e, hP', hcf⟩ := par_at' HLS.out.params hy
          injection e with e1 _ e3
          subst e1 e3
          have x0 := (ef.bel.cell (p := ⟨b', off' + jp * 2 + 0, none⟩) hP').trans (hcf 0 _ rfl)
          have x1 := (ef.bel.cell (p := ⟨b', off' + jp * 2 + 1, none⟩) hP').trans (hcf 1 _ rfl)
          simp only [Nat.add_zero] at x0
          have hdr2 : t.params.drop jp = y :: t.params.drop (jp + 1) := by
           rw [List.drop_eq_getElem_cons hlin, (List.getElem?_eq_some_iff.1 hy).2]
          rw [hdr2, List.map_cons] at tf
          have hyty : tyB ts.length y.type = true := HKF.out y.type (by unfold kids; simp only [qmcq, List.mem_append, List.mem_map]; exact .inr (.inr (.inr (.inl ⟨y, List.mem_of_getElem? hy, rfl⟩))))
          obtain ⟨W8, hw8⟩ : ∃ q, wr.alloc (.cells #[.bool y.var, .int .i64 y.type] 84) = q := ⟨_, rfl⟩
          obtain ⟨z8, hz8⟩ : ∃ z, wr.heap.size = z := ⟨_, rfl⟩
          have q8 : Wr [] wr W8 := by rw [← hw8]; exact (Wr.refl [] _).alloc _
          have b8 : Blk W8 z8 84 #[.bool y.var, .int .i64 y.type] := by rw [← hw8, ← hz8]; exact Blk.new _ _ _
          have e8 := ef.wr0 hB q8
          have q9 : Wr [] W8 (W8.alloc (.cells #[.int .i64 y.type] 3)) := (Wr.refl [] _).alloc _
          have n9 := Blk.new W8 3 #[.int .i64 y.type]
          have h9 := HIH.out [y.type] ordf vof _ W8.heap.size (e8.wr0 hB q9) ff (fun x hx => by rw [qmsq] at hx; rw [hx]; exact hyty) (by simp) (e8.safeNew _) (fun jj x hx => by rw [n9.cell]; match jj, hx with | 0, hx => (simp at hx; subst hx; rfl))
          simp only [List.length_cons, List.length_nil, Nat.zero_add] at h9
          have H9 := qh h9
          have STF := qh stf
          have SF := qh sf
          have BF := qh bf
          have TF := qh tf
          have FF := qh ff
          have Q89 := qh (q8.trans q9)
          have HW8 := qh hw8
          have HZ8 := qh hz8
          have B8 := qh b8
          have E8 := qh e8
          have h0f : (0 : Int) ≤ (jp : Int) := by omega
          have h1f : (jp : Int) < (t.params.length : Int) := by omega
          clear hy hcf hdr2 hyty q8 b8 e8 q9 n9 h9 stf sf bf tf ff hw8 hz8 ef d10
          go_upto_region 17 with (fail)
          rw [HW8.out, HZ8.out]
          clear x0 x1
          have m0 := E8.out.bm.cell 0
          have d1 := B8.out.cell 1
          simp only [qgaq, qgzq, qgsq, CC.caps] at m0 d1
          go_wp2_with fail
          refine H9.out.mono ?_
          rintro e w9 ⟨rfl, vo9, e9, s9⟩
          have hm9 := MIn.next STF.out SF.out BF.out (x := [y.type]) (rest := (t.params.drop (jp + 1)).map Par.type ++ [t.result]) TF.out FF.out Q89.out e9 s9
          have HM9 := qh hm9
          clear hm9 e9 s9 m0 d1
          go_wp2_with fail
          go_roundw
          case rel => exact ⟨jp + 1, by omega, by go_num, HM9.out⟩
          case measure => simp [intOf]; omega
         ·obtain rfl : jp = t.params.length := by omega
          rw [List.drop_length, List.map_nil, List.nil_append] at tf
          have d11 := bf.cell 11
          have m0 := ef.bm.cell 0
          simp only [qgaq, qgzq, qgsq, CC.caps] at d11 m0
          have hyty : tyB ts.length t.result = true := HKF.out t.result (by unfold kids; simp)
          have q9 : Wr [] wr (wr.alloc (.cells #[.int .i64 t.result] 3)) := (Wr.refl [] _).alloc _
          have n9 := Blk.new wr 3 #[.int .i64 t.result]
          have h9 := HIH.out [t.result] ordf vof _ wr.heap.size (ef.wr0 hB q9) ff (fun x hx => by rw [qmsq] at hx; rw [hx]; exact hyty) (by simp) (ef.safeNew _) (fun jj x hx => by rw [n9.cell]; match jj, hx with | 0, hx => (simp at hx; subst hx; rfl))
          simp only [List.length_cons, List.length_nil, Nat.zero_add] at h9
          rw [← tf] at h9
          have H9 := qh h9
          have STF := qh (stf.wr0 q9)
          clear hyty q9 n9 h9 stf sf bf tf ff ef d10
          go_wp2_with fail
          refine H9.out.mono ?_
          rintro e w9 ⟨rfl, vo9, e9, s9⟩
          have hfin : MLoop c w0 ts k l ord vo w (j + 1) w9 := by
           have hd := HDR.out
           rw [HTOT.out] at hd
           refine ⟨TOT, vo9, e9, STF.out.trans s9, hd, ?_⟩
           have := fresh_mono (T := nums ts.length) (o := ord' ++ [n]) (o' := TOT) (fun x hx => by rw [← HTOT.out]; exact meets_more _ _ _ _ hx)
           have := fresh_mono (T := nums ts.length) (o := ord') (o' := ord' ++ [n]) (fun x hx => List.mem_append_left _ hx)
           have := HFRJ.out
           omega
          have HFIN := qh hfin
          clear hfin e9 s9 m0 d11
          go_wp2_with fail
          go_roundw
          case rel => exact ⟨j + 1, by omega, by go_num, HFIN.out⟩
          case measure => simp [intOf]; omega
   ·obtain rfl : j = l.length := by omega
    rw [List.drop_length, meets_nil] at hmt
    have HMT := qh hmt
    have HE := qh he
    have HST := qh hst
    clear hmt he hst hfr yo y0
    go_wp2_with fail
    refine bodyPost_end (results_none Tryz.results27 _ _ _) rfl ?_
    rw [HMT.out]
    exact ⟨rfl, vo', HE.out, HST.out⟩
theorem meet_any : ∀ k, MeetK c w0 ts k
 | 0 => fun _ _ _ _ _ _ h => absurd h (by omega)
 | k + 1 => meet_step c hc w0 hB ts vt ht hi hpi hts hfm hlf k (meet_any k)
end
end Go.Proofs.YtjanbpchedgoiaaGreat
