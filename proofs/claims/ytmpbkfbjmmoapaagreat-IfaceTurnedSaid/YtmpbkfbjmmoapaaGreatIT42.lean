/- IfaceTurned: walked. Conditions: the interface is such as Go has. -/
import Derived.Test.YtmpbkfbjmmoapaaGreatIT01
import Derived.Test.YtmpbkfbjmmoapaaGreatIT23
import Derived.Test.YtmpbkfbjmmoapaaGreatIT36
import Derived.Test.YtmpbkfbjmmoapaaGreatIT41
import Derived.Test.YtmpbkfbjmmoapaaGreatIT35
import Derived.Test.YtmpbkfbjmmoapaaGreatIT04
namespace Go.Proofs.YtmpbkfbjmmoapaaGreat
open Go.RowKit
set_option linter.unusedVariables false
set_option linter.unusedSimpArgs false
set_option maxRecDepth 100000 in
set_option maxHeartbeats 16000000 in
theorem ifaceTurned_main (f : FaceP) (vu vt vi vp : Value) (P : Nat → Prop) (w : World) (hf : FacePL w P vu vt vi f) (hp : IsInts .u8 w vp) (sf : ∀ x ∈ f.items, 0 ≤ x.v.sort) (wf : faceW (faceOf f)) (ht : ∀ t ∈ f.types, tyBnd t) (hi : ∀ x ∈ f.items, i64B x.type ∧ i64B x.v.type) :
  Calls Tryz.prog 3 #[.agg #[.string f.module, vu, vt, vi], vp] w (TrueR w) := by
 have hforms := hf.forms
 obtain ⟨⟨A1, a1, rfl, _, ma1⟩, ⟨A2, a2, rfl, _, ma2⟩, ⟨A3, a3, rfl, _, ma3⟩⟩ := hforms
 unfold maxLen at ma1 ma2 ma3
 obtain ⟨Ap, pn, pc, zs, rfl, hpn, hpc, hzs, hpw, hpi⟩ := hp
 unfold maxLen at hpc
 obtain ⟨w0, hw0⟩ : ∃ w0, w.alloc (.cells #[.string f.module, .slice A1 f.uses.length a1, .slice A2 f.types.length a2, .slice A3 f.items.length a3] 26) = w0 := ⟨_, rfl⟩
 obtain ⟨g, hg⟩ : ∃ g, w.heap.size = g := ⟨_, rfl⟩
 have acc : Wr [] w w0 := by rw [← hw0]; exact (Wr.refl _ _).alloc _
 have bA : Blk w0 g 26 #[.string f.module, .slice A1 f.uses.length a1, .slice A2 f.types.length a2, .slice A3 f.items.length a3] := by rw [← hw0, ← hg]; exact Blk.new _ _ _
 have HLA := Lib.hid (fun W (r : Wr [] w W) => large2_any f _ _ _ P W (hf.wr0 r))
 have HAL := Lib.hid alive14
 have HF := Lib.hid hf
 have SF := Lib.hid sf
 have WF := Lib.hid wf
 have HT := Lib.hid ht
 have HI := Lib.hid hi
 have HPW := Lib.hid hpw
 have HPI := Lib.hid hpi
 have HZS := Lib.hid hzs
 have HW0 := Lib.hid hw0
 have HG := Lib.hid hg
 have BA := Lib.hid bA
 clear hw0 hg bA hf sf wf ht hi hpw hpi hzs
 go_enter Tryz.func3, Tryz.ntmps3
 go_upto_region 1 with (fail)
 rw [HW0.out, HG.out]
 have x0 := BA.out.cell 0
 have x1 := BA.out.cell 1
 have x2 := BA.out.cell 2
 have x3 := BA.out.cell 3
 simp only [qgaq, qgzq, qgsq] at x0 x1 x2 x3
 go_wp2_with fail
 refine (HLA.out _ acc).mono ?_
 rintro e w1 ⟨r, rfl, r1, hsm⟩
 have R1 := Lib.hid (acc.trans r1)
 have R01 := Lib.hid r1
 clear r1 x0 x1 x2 x3
 cases r with
 | true =>
  go_wp2_with fail
  refine (HAL.out _).mono ?_
  rintro e w9 ⟨rfl, r9⟩
  go_wp2_with fail
  go_ret
  exact ⟨rfl, R1.out.trans r9⟩
 | false =>
  have hn60 := hsm rfl
  obtain ⟨n2, n1, h40⟩ := hn60
  have H40 := Lib.hid h40
  clear hsm h40
  obtain ⟨i0, hi0, hz0, hz1, hz2⟩ := info_parts info_int1
  go_upto_region 3 with (fail)
  go_wp2_with fail
  go_loopw [5, 7] (fun s5 s7 wr => ∃ i : Nat, i ≤ f.types.length ∧ s7 = .int .i64 i ∧ Wr [] w1 wr ∧ wr.ownsRow w1.heap.size 3 1 s5 i (ordC (List.range i))) (fun _ s7 _ => f.types.length - (intOf s7).toNat)
  case atStart => exact ⟨0, by omega, rfl, Wr.refl _ _, World.ownsRow_nil _ _ _ _⟩
  case round =>
   obtain ⟨i, hi, rfl, rk, ow⟩ := hrel
   obtain ⟨Av, cv, hv, _, _⟩ := own_form ow
   subst hv
   obtain ⟨wq, rfl⟩ : ∃ q : World, q = wr := ⟨_, rfl⟩
   have x2 := (BA.out.wr0 (R01.out.trans rk)).cell 2
   simp only [qgaq, qgzq, qgsq] at x2
   by_cases hlt : i < f.types.length
   ·have hi0' : (0 : Int) ≤ (i : Int) := by omega
    have hin : (i : Int) < (f.types.length : Int) := by omega
    obtain ⟨zb, hzb⟩ : ∃ q, wq.heap.size = q := ⟨_, rfl⟩
    obtain ⟨wE, hwE⟩ : ∃ q, wq.alloc (.cells #[.int .i64 (i : Int)] 3) = q := ⟨_, rfl⟩
    have rE : Wr [] wq wE := by rw [← hwE]; exact (Wr.refl [] _).alloc _
    have bb : Blk wE zb 3 ([.int .i64 (i : Int)] : List Value).toArray := by rw [← hwE, ← hzb]; exact Blk.new _ _ _
    obtain ⟨A7, c7, w7, hrun, hown, hw7, _⟩ := push_two (t := 30) Tryz.underlying30 hi0 hz0 hz1 hz2 rfl (by decide) (own_keep ow rE (fun _ _ => by simp)) bb rfl (by simp [Value.oneCell']) (by omega) (by decide) (by have := rE.size; have := rk.size; omega)
    have hfin : Wr [] w1 w7 ∧ w7.ownsRow w1.heap.size 3 1 (.slice A7 (i + 1) c7) (i + 1) (ordC (List.range (i + 1))) := by
     refine ⟨(rk.trans rE).trans' hw7 (fun q hq => .inr (ow.lt q (mem_ownL.1 hq)).1), ?_⟩
     have e : ordC (List.range (i + 1)) = ordC (List.range i) ++ [.int .i64 (i : Int)] := by
      rw [List.range_succ]
      simp [ordC]
     rw [e]
     exact hown
    have HFIN := Lib.hid hfin
    have HZB := Lib.hid hzb
    have HWE := Lib.hid hwE
    have HRUN := Lib.hid hrun
    clear hfin hzb hwE hrun rE bb hown hw7 rk ow
    go_upto_region 6 with (at_builtin; rw [HZB.out, HWE.out]; refine wpList_append_run rfl _ _ _ rfl _ _ rfl rfl _ _ HRUN.out ?_)
    go_wp2_with fail
    go_roundw
    case rel => exact ⟨i + 1, by omega, by go_num, HFIN.out.1, HFIN.out.2⟩
    case measure => simp [intOf]; omega
   ·have hie : i = f.types.length := by omega
    have hin : ¬ (i : Int) < (f.types.length : Int) := by omega
    have os : OrdAt w1 (.slice Av i cv) (.slice none 0 0) f.types.length 0 wq := by
     have ow2 := ow
     rw [hie] at ow2
     have h := ord_start rk ow2
     rw [hie]
     exact h
    have OS := Lib.hid os
    clear hie rk ow os
    go_upto_region 8 with (fail)
    clear x2
    go_wp2_with fail
    go_loopw [5, 6, 8] (fun s5 s6 s8 wr => ∃ i : Nat, i ≤ f.types.length ∧ s8 = .int .i64 i ∧ OrdAt w1 s5 s6 f.types.length i wr) (fun _ _ s8 _ => f.types.length - (intOf s8).toNat)
    case atStart => exact ⟨0, by omega, rfl, OS.out⟩
    case round =>
     obtain ⟨j, hj, rfl, ord, rest, hO⟩ := hrel
     obtain ⟨wo, rfl⟩ : ∃ q : World, q = wr := ⟨_, rfl⟩
     obtain ⟨m, hm⟩ : ∃ m, f.types.length - j = m := ⟨_, rfl⟩
     obtain ⟨Ar, cr, hv, hr1, hr2⟩ := own_form hO.rest_
     subst hv
     obtain ⟨Ao, co, hv, ho1, ho2⟩ := own_form hO.ord_
     subst hv
     have x2 := (BA.out.wr0 (R01.out.trans hO.wr_)).cell 2
     simp only [qgaq, qgzq, qgsq] at x2
     have OO := Lib.hid hO
     have HM := Lib.hid hm
     rw [hm] at hr1
     have hOm : wo.ownsRow w1.heap.size 3 1 (.slice Ar m cr) m (ordC rest) := by rw [← hm]; exact hO.rest_
     have hlen : rest.length = m := by rw [← hm]; exact hO.lenr
     by_cases hlj : j < f.types.length
     ·have hj0 : (0 : Int) ≤ (j : Int) := by omega
      have hjn : (j : Int) < (f.types.length : Int) := by omega
      have hm0 : 0 < m := by omega
      obtain ⟨rb, hrb⟩ : ∃ rb, Ar = some ⟨rb, 0, none⟩ := by
       rcases hOm.2 with ⟨_, h0⟩ | ⟨gg, cap, cur, e, _⟩
       ·omega
       ·injection e with e _ _
        exact ⟨gg, e⟩
      subst hrb
      have hmi : (m : Int) ≠ 0 := by omega
      have hmi0 : (0 : Int) < (m : Int) := by omega
      have hmi1 : (0 : Int) ≤ (m : Int) := by omega
      have RP := Lib.hid (R1.out.trans hO.wr_)
      have HOM := Lib.hid hOm
      have HLEN := Lib.hid hlen
      clear hO hOm hlen hm
      rw [HM.out]
      go_upto_region 12 with (fail)
      clear x2
      by_cases hpk : j < pn
      ·have hpj : (j : Int) < (pn : Int) := by omega
       obtain ⟨pb, po, hA, hc⟩ := HPI.out j hpk
       have hwf := HPW.out j hpk
       obtain ⟨z, hz⟩ : ∃ z, zs.getD j 0 = z := ⟨_, rfl⟩
       rw [hz] at hc hwf
       have hzb2 : 0 ≤ z ∧ z ≤ 255 := by
        have := hwf
        simp [Lit.wf, IntKind.min, IntKind.max, IntKind.bits, IntKind.signed] at this
        omega
       obtain ⟨zn, rfl⟩ : ∃ zn : Nat, z = (zn : Int) := ⟨z.toNat, by omega⟩
       subst hA
       have hc := RP.out.cellOf hc (by simp)
       have hcz := Lib.hid hz
       have hzi : (zn : Int) ≤ 255 := by omega
       have hzn0 : (0 : Int) ≤ (zn : Int) := by omega
       clear hz hwf hzb2
       obtain ⟨kk, hkk⟩ : ∃ kk, zn % m = kk := ⟨_, rfl⟩
       have hez : (zn : Int) % (m : Int) = (kk : Int) := by rw [← hkk]; exact (Int.natCast_emod zn m).symm
       have hkm : kk < m := by rw [← hkk]; exact Nat.mod_lt _ hm0
       have hk0 : (0 : Int) ≤ (kk : Int) := by omega
       have hki : (kk : Int) < (m : Int) := by omega
       have HCZ := Lib.hid hkk
       clear hkk
       go_upto_region 14 with (fail)
       rw [hez]
       clear hez hc
       obtain ⟨x, hx⟩ : ∃ x, rest[kk]? = some x := ⟨_, List.getElem?_eq_getElem (by have := HLEN.out; omega)⟩
       have hcx : wo.cell? ⟨rb, kk, none⟩ = some (.int .i64 (x : Int)) := by
        rw [HOM.out.cellAt kk (by omega)]
        unfold ordC
        rw [List.getElem?_map, hx]
        rfl
       obtain ⟨zb, hzb⟩ : ∃ q, wo.heap.size = q := ⟨_, rfl⟩
       obtain ⟨wE, hwE⟩ : ∃ q, wo.alloc (.cells #[.int .i64 (x : Int)] 3) = q := ⟨_, rfl⟩
       have rE : Wr [] wo wE := by rw [← hwE]; exact (Wr.refl [] _).alloc _
       have bb : Blk wE zb 3 ([.int .i64 (x : Int)] : List Value).toArray := by rw [← hwE, ← hzb]; exact Blk.new _ _ _
       obtain ⟨A7, c7, w7, hrun, hown, hw7, hbk⟩ := push_two (t := 30) Tryz.underlying30 hi0 hz0 hz1 hz2 rfl (by decide) (own_keep OO.out.ord_ rE (fun _ _ => by simp)) bb rfl (by simp [Value.oneCell']) (by omega) (by decide) (by have := rE.size; have := OO.out.wr_.size; omega)
       have hr7 : w7.ownsRow w1.heap.size 3 1 (.slice (some ⟨rb, 0, none⟩) m cr) m (ordC rest) := own_keep (own_keep HOM.out rE (fun _ _ => by simp)) hw7 (fun q hq hm => OO.out.apart q hq (mem_ownL.1 hm))
       have r7 : Wr [] w1 w7 := (OO.out.wr_.trans rE).trans' hw7 (fun q hq => .inr (OO.out.ord_.lt q (mem_ownL.1 hq)).1)
       have x7 := (BA.out.wr0 (R01.out.trans r7)).cell 2
       simp only [qgaq, qgzq, qgsq] at x7
       have hkc : kk ≤ cr := by omega
       have hk1m : kk + 1 ≤ m := by omega
       have hm60 : m ≤ 60 := by have := HM.out; omega
       have hwk : IntKind.i64.wrap ((kk : Int) + 1) = (kk : Int) + 1 := by rw [IntKind.wrap_i64]; omega
       have hkp : (0 : Int) ≤ (kk : Int) + 1 := by omega
       have hkq : (kk : Int) + 1 ≤ (m : Int) := by omega
       have htn : ((kk : Int) + 1).toNat = kk + 1 := by omega
       have R7 := Lib.hid (hr7)
       have HZB := Lib.hid hzb
       have HWE := Lib.hid hwE
       have HRUN := Lib.hid hrun
       have HX := Lib.hid hx
       have HOWN := Lib.hid hown
       have HW7 := Lib.hid hw7
       have RE := Lib.hid rE
       clear hx hzb hwE hrun rE bb hown hw7 hr7 r7 hbk
       go_upto_region 15 with (at_builtin; rw [HZB.out, HWE.out]; refine wpList_append_run rfl _ _ _ rfl _ _ rfl rfl _ _ HRUN.out ?_)
       clear hcx
       obtain ⟨A', hA'⟩ : ∃ q : Option Addr, (if cr = kk + 1 then some ⟨rb, 0, none⟩ else some ⟨rb, kk + 1, none⟩) = q := ⟨_, rfl⟩
       obtain ⟨wd, hwd⟩ : ∃ q, w7.drew = q := ⟨_, rfl⟩
       obtain ⟨eb, heb⟩ : ∃ q, wd.heap.size = q := ⟨_, rfl⟩
       obtain ⟨wF, hwF⟩ : ∃ q, wd.alloc (.cells #[] 3) = q := ⟨_, rfl⟩
       have he7 : w7.heap.size = eb := by rw [← heb, ← hwd]; rfl
       obtain ⟨v1, wG, v2, wH, run1, run2, rF2, rG2, rH2, own2⟩ := del_runs (k := kk) (wE := wF) R7.out (by omega) (by omega) (A' := A') (fun h => by rw [← hA', if_neg (by omega)]) (by rw [hwd]; exact hwF)
       have hfin : OrdAt w1 v2 (.slice A7 (j + 1) c7) f.types.length (j + 1) wH := ord_next OO.out HX.out RE.out HOWN.out HW7.out rH2 (by rw [HM.out]; exact own2)
       rw [he7] at run1
       have HFIN := Lib.hid hfin
       have HWD := Lib.hid hwd
       have HAA := Lib.hid hA'
       have HEB := Lib.hid heb
       have HWF := Lib.hid hwF
       have HRUN1 := Lib.hid run1
       have HRUN2 := Lib.hid run2
       have RF := Lib.hid rF2
       have RG := Lib.hid rG2
       have RH := Lib.hid rH2
       clear hfin hwd hA' heb hwF run1 run2 rF2 rG2 rH2 own2 he7
       have hC : ∀ W, Wr [] w7 W → W.cell? ⟨g, 2, none⟩ = some (.slice A2 f.types.length a2) := fun W hW => hW.cellOf x7 (by simp)
       have HC := Lib.hid hC
       clear hC
       refine wp_region_noPanic ?_
       refine wp_region_L (Until 10 fun w' => w'.cell? ⟨g, 2, none⟩ = some (.slice A2 f.types.length a2)) (by kernel_rfl) (fun hcl => ?_)
       have hS : Until 10 (fun w' => w'.cell? ⟨g, 2, none⟩ = some (.slice A2 f.types.length a2)) (Array.replicate 11 false) w7.drew := fun _ => x7
       change wpAnyL _ _ _ _ _ _ _ _ w7.drew
       rw [HWD.out] at hS ⊢
       refine wpAnyL_take (i := 1) (oi := ?oi101) (v := ?v101) ?hi101 (by kernel_rfl) (by kernel_rfl) (by kernel_rfl) (fun _ _ _ h => h) (until_take 10 _ (by decide)) ?hy101 hcl hS ?rest101
       case hi101 =>
        simp only [qgaq, qgsq, qgzq]
        rfl
       case hy101 =>
        refine yields_until (by kernel_rfl) (Or.inl ⟨by rfl, fun w' hS => ?_⟩)
        try go_split_ands
        go_simp
        try rfl
       case rest101 =>
       intro hcl101 hS101
       clear hcl hS
       try simp only [Act.put, qsaq, qszq, qssq]
       refine wpAnyL_take (i := 2) (oi := ?oi102) (v := ?v102) ?hi102 (by kernel_rfl) (by kernel_rfl) (by kernel_rfl) (fun _ _ _ h => h) (until_take 10 _ (by decide)) ?hy102 hcl101 hS101 ?rest102
       case hi102 =>
        simp only [qgaq, qgsq, qgzq]
        rfl
       case hy102 =>
        refine yields_until (by kernel_rfl) (Or.inl ⟨by rfl, fun w' hS => ?_⟩)
        try go_split_ands
        go_simp
        try rfl
       case rest102 =>
       intro hcl102 hS102
       clear hcl101 hS101
       try simp only [Act.put, qsaq, qszq, qssq]
       refine wpAnyL_take (i := 3) (oi := ?oi103) (v := ?v103) ?hi103 (by kernel_rfl) (by kernel_rfl) (by kernel_rfl) (fun _ _ _ h => h) (until_take 10 _ (by decide)) ?hy103 hcl102 hS102 ?rest103
       case hi103 =>
        simp only [qgaq, qgsq, qgzq]
        rfl
       case hy103 =>
        refine yields_until (by kernel_rfl) (Or.inl ⟨by rfl, fun w' hS => ?_⟩)
        try go_split_ands
        go_simp
        try rfl
       case rest103 =>
       intro hcl103 hS103
       clear hcl102 hS102
       try simp only [Act.put, qsaq, qszq, qssq]
       refine wpAnyL_take (i := 5) (oi := ?oi104) (v := ?v104) ?hi104 (by kernel_rfl) (by kernel_rfl) (by kernel_rfl) (fun _ _ _ h => h) (until_take 10 _ (by decide)) ?hy104 hcl103 hS103 ?rest104
       case hi104 =>
        simp only [qgaq, qgsq, qgzq]
        rfl
       case hy104 =>
        refine yields_until (by kernel_rfl) (Or.inl ⟨by rfl, fun w' hS => ?_⟩)
        try go_split_ands
        go_simp
        try rfl
       case rest104 =>
       intro hcl104 hS104
       clear hcl103 hS103
       try simp only [Act.put, qsaq, qszq, qssq]
       refine wpAnyL_take (i := 6) (oi := ?oi105) (v := ?v105) ?hi105 (by kernel_rfl) (by kernel_rfl) (by kernel_rfl) (fun _ _ _ h => h) (until_take 10 _ (by decide)) ?hy105 hcl104 hS104 ?rest105
       case hi105 =>
        simp only [qgaq, qgsq, qgzq]
        rfl
       case hy105 =>
        refine yields_until (by kernel_rfl) (Or.inl ⟨by rfl, fun w' hS => ?_⟩)
        try go_split_ands
        go_simp
        try rfl
       case rest105 =>
       intro hcl105 hS105
       clear hcl104 hS104
       try simp only [Act.put, qsaq, qszq, qssq]
       refine wpAnyL_take (i := 7) (oi := ?oi106) (v := ?v106) ?hi106 (by kernel_rfl) (by kernel_rfl) (by kernel_rfl) (fun _ _ _ h => h) (until_take 10 _ (by decide)) ?hy106 hcl105 hS105 ?rest106
       case hi106 =>
        simp only [qgaq, qgsq, qgzq]
        rfl
       case hy106 =>
        refine yields_until (by kernel_rfl) (Or.inl ⟨by rfl, fun w' hS => ?_⟩)
        try go_split_ands
        go_simp
        try rfl
       case rest106 =>
       intro hcl106 hS106
       clear hcl105 hS105
       try simp only [Act.put, qsaq, qszq, qssq]
       refine wpAnyL_take (i := 8) (oi := ?oi107) (v := ?v107) ?hi107 (by kernel_rfl) (by kernel_rfl) (by kernel_rfl) (fun _ _ _ h => h) (until_take 10 _ (by decide)) ?hy107 hcl106 hS106 ?rest107
       case hi107 =>
        simp only [qgaq, qgsq, qgzq]
        rfl
       case hy107 =>
        refine yields_until (by kernel_rfl) (Or.inl ⟨by rfl, fun w' hS => ?_⟩)
        try go_split_ands
        go_simp
        try rfl
       case rest107 =>
       intro hcl107 hS107
       clear hcl106 hS106
       try simp only [Act.put, qsaq, qszq, qssq]
       rw [HAA.out]
       refine wpAnyL_step (i := 0) (o := ?oi108) ?hi108 (by kernel_rfl) hcl107 ?rest108
       case hi108 =>
        simp only [qgaq, qgsq, qgzq]
        rfl
       case rest108 =>
       intro K hK
       go_simp
       rw [HEB.out, HWF.out]
       refine hK _ _ (fun _ => HC.out _ RF.out) (fun hcl108 => ?_)
       clear hK K hcl107 hS107
       try simp only [Act.put, qsaq, qszq, qssq]
       refine wpAnyL_step (i := 4) (o := ?oi109) ?hi109 (by kernel_rfl) hcl108 ?rest109
       case hi109 =>
        simp only [qgaq, qgsq, qgzq]
        rfl
       case rest109 =>
       intro K hK
       refine step_append_run (by rfl) _ _ _ (by rfl) _ _ (by rfl) (by rfl) _ _ HRUN1.out ?_
       refine hK _ _ (fun _ => HC.out _ RG.out) (fun hcl109 => ?_)
       clear hK K hcl108
       try simp only [Act.put, qsaq, qszq, qssq]
       refine wpAnyL_step (i := 9) (o := ?oi110) ?hi110 (by kernel_rfl) hcl109 ?rest110
       case hi110 =>
        simp only [qgaq, qgsq, qgzq]
        rfl
       case rest110 =>
       intro K hK
       refine step_append_run (by rfl) _ _ _ (by rfl) _ _ (by rfl) (by rfl) _ _ HRUN2.out ?_
       refine hK _ _ (fun _ => HC.out _ RH.out) (fun hcl110 => ?_)
       clear hK K hcl109
       try simp only [Act.put, qsaq, qszq, qssq]
       refine wpAnyL_step (i := 10) (o := ?oi111) ?hi111 (by kernel_rfl) hcl110 ?rest111
       case hi111 =>
        simp only [qgaq, qgsq, qgzq]
        rfl
       case rest111 =>
       intro K hK
       go_simp
       refine hK _ _ (fun hb => absurd hb (by decide)) (fun hcl999 => ?_)
       clear hK K hcl110
       refine wpAnyL_done (by kernel_rfl) (NoPanic.normal ?_) _
       try simp only [Act.put, qsaq, qszq, qssq]
       go_wp2_with fail
       go_roundw
       case rel => exact ⟨j + 1, by omega, by go_num, HFIN.out⟩
       case measure => simp [intOf]; omega
      ·have hpj : ¬ (j : Int) < (pn : Int) := by omega
       go_upto_region 14 with (fail)
       obtain ⟨x, hx⟩ : ∃ x, rest[0]? = some x := ⟨_, List.getElem?_eq_getElem (by have := HLEN.out; omega)⟩
       have hcx : wo.cell? ⟨rb, 0, none⟩ = some (.int .i64 (x : Int)) := by
        rw [HOM.out.cellAt 0 (by omega)]
        unfold ordC
        rw [List.getElem?_map, hx]
        rfl
       obtain ⟨zb, hzb⟩ : ∃ q, wo.heap.size = q := ⟨_, rfl⟩
       obtain ⟨wE, hwE⟩ : ∃ q, wo.alloc (.cells #[.int .i64 (x : Int)] 3) = q := ⟨_, rfl⟩
       have rE : Wr [] wo wE := by rw [← hwE]; exact (Wr.refl [] _).alloc _
       have bb : Blk wE zb 3 ([.int .i64 (x : Int)] : List Value).toArray := by rw [← hwE, ← hzb]; exact Blk.new _ _ _
       obtain ⟨A7, c7, w7, hrun, hown, hw7, hbk⟩ := push_two (t := 30) Tryz.underlying30 hi0 hz0 hz1 hz2 rfl (by decide) (own_keep OO.out.ord_ rE (fun _ _ => by simp)) bb rfl (by simp [Value.oneCell']) (by omega) (by decide) (by have := rE.size; have := OO.out.wr_.size; omega)
       have hr7 : w7.ownsRow w1.heap.size 3 1 (.slice (some ⟨rb, 0, none⟩) m cr) m (ordC rest) := own_keep (own_keep HOM.out rE (fun _ _ => by simp)) hw7 (fun q hq hm => OO.out.apart q hq (mem_ownL.1 hm))
       have r7 : Wr [] w1 w7 := (OO.out.wr_.trans rE).trans' hw7 (fun q hq => .inr (OO.out.ord_.lt q (mem_ownL.1 hq)).1)
       have x7 := (BA.out.wr0 (R01.out.trans r7)).cell 2
       simp only [qgaq, qgzq, qgsq] at x7
       have hkc : 0 ≤ cr := by omega
       have hk1m : 1 ≤ m := by omega
       have hm60 : m ≤ 60 := by have := HM.out; omega
       have hkq : (1 : Int) ≤ (m : Int) := by omega
       have hw1 : IntKind.i64.wrap 1 = 1 := by decide
       have R7 := Lib.hid (hr7)
       have HZB := Lib.hid hzb
       have HWE := Lib.hid hwE
       have HRUN := Lib.hid hrun
       have HX := Lib.hid hx
       have HOWN := Lib.hid hown
       have HW7 := Lib.hid hw7
       have RE := Lib.hid rE
       clear hx hzb hwE hrun rE bb hown hw7 hr7 r7 hbk
       go_upto_region 15 with (at_builtin; rw [HZB.out, HWE.out]; refine wpList_append_run rfl _ _ _ rfl _ _ rfl rfl _ _ HRUN.out ?_)
       clear hcx
       obtain ⟨A', hA'⟩ : ∃ q : Option Addr, (if cr = 1 then some ⟨rb, 0, none⟩ else some ⟨rb, 1, none⟩) = q := ⟨_, rfl⟩
       obtain ⟨wd, hwd⟩ : ∃ q, w7.drew = q := ⟨_, rfl⟩
       obtain ⟨eb, heb⟩ : ∃ q, wd.heap.size = q := ⟨_, rfl⟩
       obtain ⟨wF, hwF⟩ : ∃ q, wd.alloc (.cells #[] 3) = q := ⟨_, rfl⟩
       have he7 : w7.heap.size = eb := by rw [← heb, ← hwd]; rfl
       obtain ⟨v1, wG, v2, wH, run1, run2, rF2, rG2, rH2, own2⟩ := del_runs (k := 0) (wE := wF) R7.out (by omega) (by omega) (A' := A') (fun h => by rw [← hA', if_neg (by omega)]) (by rw [hwd]; exact hwF)
       have hfin : OrdAt w1 v2 (.slice A7 (j + 1) c7) f.types.length (j + 1) wH := ord_next OO.out HX.out RE.out HOWN.out HW7.out rH2 (by rw [HM.out]; exact own2)
       rw [he7] at run1
       simp only [Nat.zero_add] at run1 run2
       have HFIN := Lib.hid hfin
       have HWD := Lib.hid hwd
       have HAA := Lib.hid hA'
       have HEB := Lib.hid heb
       have HWF := Lib.hid hwF
       have HRUN1 := Lib.hid run1
       have HRUN2 := Lib.hid run2
       have RF := Lib.hid rF2
       have RG := Lib.hid rG2
       have RH := Lib.hid rH2
       clear hfin hwd hA' heb hwF run1 run2 rF2 rG2 rH2 own2 he7
       have hC : ∀ W, Wr [] w7 W → W.cell? ⟨g, 2, none⟩ = some (.slice A2 f.types.length a2) := fun W hW => hW.cellOf x7 (by simp)
       have HC := Lib.hid hC
       clear hC
       refine wp_region_noPanic ?_
       refine wp_region_L (Until 10 fun w' => w'.cell? ⟨g, 2, none⟩ = some (.slice A2 f.types.length a2)) (by kernel_rfl) (fun hcl => ?_)
       have hS : Until 10 (fun w' => w'.cell? ⟨g, 2, none⟩ = some (.slice A2 f.types.length a2)) (Array.replicate 11 false) w7.drew := fun _ => x7
       change wpAnyL _ _ _ _ _ _ _ _ w7.drew
       rw [HWD.out] at hS ⊢
       refine wpAnyL_take (i := 1) (oi := ?oi301) (v := ?v301) ?hi301 (by kernel_rfl) (by kernel_rfl) (by kernel_rfl) (fun _ _ _ h => h) (until_take 10 _ (by decide)) ?hy301 hcl hS ?rest301
       case hi301 =>
        simp only [qgaq, qgsq, qgzq]
        rfl
       case hy301 =>
        refine yields_until (by kernel_rfl) (Or.inl ⟨by rfl, fun w' hS => ?_⟩)
        try go_split_ands
        go_simp
        try rfl
       case rest301 =>
       intro hcl301 hS301
       clear hcl hS
       try simp only [Act.put, qsaq, qszq, qssq]
       refine wpAnyL_take (i := 2) (oi := ?oi302) (v := ?v302) ?hi302 (by kernel_rfl) (by kernel_rfl) (by kernel_rfl) (fun _ _ _ h => h) (until_take 10 _ (by decide)) ?hy302 hcl301 hS301 ?rest302
       case hi302 =>
        simp only [qgaq, qgsq, qgzq]
        rfl
       case hy302 =>
        refine yields_until (by kernel_rfl) (Or.inl ⟨by rfl, fun w' hS => ?_⟩)
        try go_split_ands
        go_simp
        try rfl
       case rest302 =>
       intro hcl302 hS302
       clear hcl301 hS301
       try simp only [Act.put, qsaq, qszq, qssq]
       refine wpAnyL_take (i := 3) (oi := ?oi303) (v := ?v303) ?hi303 (by kernel_rfl) (by kernel_rfl) (by kernel_rfl) (fun _ _ _ h => h) (until_take 10 _ (by decide)) ?hy303 hcl302 hS302 ?rest303
       case hi303 =>
        simp only [qgaq, qgsq, qgzq]
        rfl
       case hy303 =>
        refine yields_until (by kernel_rfl) (Or.inl ⟨by rfl, fun w' hS => ?_⟩)
        try go_split_ands
        go_simp
        try rfl
       case rest303 =>
       intro hcl303 hS303
       clear hcl302 hS302
       try simp only [Act.put, qsaq, qszq, qssq]
       refine wpAnyL_take (i := 5) (oi := ?oi304) (v := ?v304) ?hi304 (by kernel_rfl) (by kernel_rfl) (by kernel_rfl) (fun _ _ _ h => h) (until_take 10 _ (by decide)) ?hy304 hcl303 hS303 ?rest304
       case hi304 =>
        simp only [qgaq, qgsq, qgzq]
        rfl
       case hy304 =>
        refine yields_until (by kernel_rfl) (Or.inl ⟨by rfl, fun w' hS => ?_⟩)
        try go_split_ands
        go_simp
        try rfl
       case rest304 =>
       intro hcl304 hS304
       clear hcl303 hS303
       try simp only [Act.put, qsaq, qszq, qssq]
       refine wpAnyL_take (i := 6) (oi := ?oi305) (v := ?v305) ?hi305 (by kernel_rfl) (by kernel_rfl) (by kernel_rfl) (fun _ _ _ h => h) (until_take 10 _ (by decide)) ?hy305 hcl304 hS304 ?rest305
       case hi305 =>
        simp only [qgaq, qgsq, qgzq]
        rfl
       case hy305 =>
        refine yields_until (by kernel_rfl) (Or.inl ⟨by rfl, fun w' hS => ?_⟩)
        try go_split_ands
        go_simp
        try rfl
       case rest305 =>
       intro hcl305 hS305
       clear hcl304 hS304
       try simp only [Act.put, qsaq, qszq, qssq]
       refine wpAnyL_take (i := 7) (oi := ?oi306) (v := ?v306) ?hi306 (by kernel_rfl) (by kernel_rfl) (by kernel_rfl) (fun _ _ _ h => h) (until_take 10 _ (by decide)) ?hy306 hcl305 hS305 ?rest306
       case hi306 =>
        simp only [qgaq, qgsq, qgzq]
        rfl
       case hy306 =>
        refine yields_until (by kernel_rfl) (Or.inl ⟨by rfl, fun w' hS => ?_⟩)
        try go_split_ands
        go_simp
        try rfl
       case rest306 =>
       intro hcl306 hS306
       clear hcl305 hS305
       try simp only [Act.put, qsaq, qszq, qssq]
       refine wpAnyL_take (i := 8) (oi := ?oi307) (v := ?v307) ?hi307 (by kernel_rfl) (by kernel_rfl) (by kernel_rfl) (fun _ _ _ h => h) (until_take 10 _ (by decide)) ?hy307 hcl306 hS306 ?rest307
       case hi307 =>
        simp only [qgaq, qgsq, qgzq]
        rfl
       case hy307 =>
        refine yields_until (by kernel_rfl) (Or.inl ⟨by rfl, fun w' hS => ?_⟩)
        try go_split_ands
        go_simp
        try rfl
       case rest307 =>
       intro hcl307 hS307
       clear hcl306 hS306
       try simp only [Act.put, qsaq, qszq, qssq]
       rw [HAA.out]
       refine wpAnyL_step (i := 0) (o := ?oi308) ?hi308 (by kernel_rfl) hcl307 ?rest308
       case hi308 =>
        simp only [qgaq, qgsq, qgzq]
        rfl
       case rest308 =>
       intro K hK
       go_simp
       rw [HEB.out, HWF.out]
       refine hK _ _ (fun _ => HC.out _ RF.out) (fun hcl308 => ?_)
       clear hK K hcl307 hS307
       try simp only [Act.put, qsaq, qszq, qssq]
       refine wpAnyL_step (i := 4) (o := ?oi309) ?hi309 (by kernel_rfl) hcl308 ?rest309
       case hi309 =>
        simp only [qgaq, qgsq, qgzq]
        rfl
       case rest309 =>
       intro K hK
       refine step_append_run (by rfl) _ _ _ (by rfl) _ _ (by rfl) (by rfl) _ _ HRUN1.out ?_
       refine hK _ _ (fun _ => HC.out _ RG.out) (fun hcl309 => ?_)
       clear hK K hcl308
       try simp only [Act.put, qsaq, qszq, qssq]
       refine wpAnyL_step (i := 9) (o := ?oi310) ?hi310 (by kernel_rfl) hcl309 ?rest310
       case hi310 =>
        simp only [qgaq, qgsq, qgzq]
        rfl
       case rest310 =>
       intro K hK
       refine step_append_run (by rfl) _ _ _ (by rfl) _ _ (by rfl) (by rfl) _ _ HRUN2.out ?_
       refine hK _ _ (fun _ => HC.out _ RH.out) (fun hcl310 => ?_)
       clear hK K hcl309
       try simp only [Act.put, qsaq, qszq, qssq]
       refine wpAnyL_step (i := 10) (o := ?oi311) ?hi311 (by kernel_rfl) hcl310 ?rest311
       case hi311 =>
        simp only [qgaq, qgsq, qgzq]
        rfl
       case rest311 =>
       intro K hK
       go_simp
       refine hK _ _ (fun hb => absurd hb (by decide)) (fun hcl999 => ?_)
       clear hK K hcl310
       refine wpAnyL_done (by kernel_rfl) (NoPanic.normal ?_) _
       try simp only [Act.put, qsaq, qszq, qssq]
       go_wp2_with fail
       go_roundw
       case rel => exact ⟨j + 1, by omega, by go_num, HFIN.out⟩
       case measure => simp [intOf]; omega
     ·have hjn : ¬ (j : Int) < (f.types.length : Int) := by omega
      have hje : j = f.types.length := by omega
      have hol : ord.length = f.types.length := by rw [hO.len, hje]
      have hrl : rest = [] := List.eq_nil_of_length_eq_zero (by omega)
      have hnd : ord.Nodup := by
       have := hO.nd
       rw [hrl, List.append_nil] at this
       exact this
      have hlt : ∀ k ∈ ord, k < f.types.length := fun k hk => hO.lt k (List.mem_append_left _ hk)
      have hso : Sl wo (fun _ => True) 1 (.slice Ao j co) ord.length (ordC ord) := by
       have := Sl.ofOwn (P := fun _ => True) hO.ord_ (fun _ _ => trivial)
       rw [hO.len]
       exact this
      have RO := Lib.hid (R01.out.trans hO.wr_)
      have RW := Lib.hid (R1.out.trans hO.wr_)
      have hT := turned_of (f := f) hnd hol hlt
      have hsf2 := turn_sort (ord := ord) SF.out
      have hit2 : (turnP f ord).items.length ≤ 60 := by rw [turn_items]; exact n2
      have hta := fun W (r : Wr [] wo W) => turned_any f ord _ _ _ (.slice Ao j co) P (fun _ => True) W (HF.out.wr0 (RW.out.trans r)) (Sl.wr0 hso r) hol hlt HT.out HI.out n1 n2 H40.out
      unfold TurnR at hta
      obtain ⟨d, hd⟩ : ∃ d, faceOf f = d := ⟨_, rfl⟩
      obtain ⟨f2, hf2⟩ : ∃ q, turnP f ord = q := ⟨_, rfl⟩
      have hm2 : f.module = f2.module := by rw [← hf2]; rfl
      have hu2 : f2.uses = f.uses := by rw [← hf2]; rfl
      have hdm : f.module = d.module := by rw [← hd]; rfl
      obtain ⟨d2, hd2⟩ : ∃ d, faceOf f2 = d := ⟨_, rfl⟩
      have hdm2 : f.module = d2.module := by rw [hm2, ← hd2]; rfl
      have hdi : d.items.length = f.items.length := by rw [← hd]; exact faceOf_items f
      have hdt : d.types.length = f.types.length := by rw [← hd]; rfl
      have hwd := WF.out
      rw [hd] at hwd
      rw [hf2] at hT hsf2 hit2 hta
      rw [hd, hd2] at hT
      obtain ⟨⟨cA, nA⟩, hcA⟩ : ∃ q, canonP d = q := ⟨_, rfl⟩
      obtain ⟨⟨cB, nB⟩, hcB⟩ : ∃ q, canonP d2 = q := ⟨_, rfl⟩
      obtain ⟨⟨cC, nC⟩, hcC⟩ : ∃ q, canonP cA = q := ⟨_, rfl⟩
      obtain ⟨hnn, hok⟩ := turned_canon hT hwd hcA hcB hcC
      subst hnn
      have hof := of_face f _ _ _ P wo (HF.out.wr0 RW.out) SF.out (by omega)
      have hof2 := fun (a b c : Value) W (h : FacePL W (fun _ => True) a b c f2) => of_face f2 a b c _ W h hsf2 (by omega)
      unfold OfR at hof hof2
      rw [hd] at hof
      rw [hd2, ← hm2] at hof2
      have hvv : ∀ a b c, d.val a b c = .agg #[.string f.module, a, b, c] := fun a b c => by rw [hdm]; rfl
      have hvv2 : ∀ a b c, d2.val a b c = .agg #[.string f.module, a, b, c] := fun a b c => by rw [hdm2]; rfl
      simp only [hvv] at hof
      simp only [hvv2] at hof2
      have hca1 := fun (a b c : Value) W (h : FaceL W (fun _ => True) a b c d) => canon_any d a b c _ W h
      have hca2 := fun (a b c : Value) W (h : FaceL W (fun _ => True) a b c d2) => canon_any d2 a b c _ W h
      have hca3 := fun (a b c : Value) W (h : FaceL W (fun _ => True) a b c cA) => canon_any cA a b c _ W h
      unfold CanonR at hca1 hca2 hca3
      rw [hcA, ← hdm] at hca1
      rw [hcB, ← hdm2] at hca2
      rw [hcC] at hca3
      have hva : ∀ (c : FaceD) a b e, c.val a b e = .agg #[.string c.module, a, b, e] := fun c a b e => rfl
      simp only [hva] at hca1 hca2 hca3
      have HOF := Lib.hid hof
      have HOF2 := Lib.hid hof2
      have HCA := Lib.hid hca1
      have HCB := Lib.hid hca2
      have HCX := Lib.hid hca3
      have HTA := Lib.hid hta
      have HOK := Lib.hid hok
      have HDI := Lib.hid hdi
      have HDT := Lib.hid hdt
      have HU2 := Lib.hid hu2
      clear hje hol hrl hnd hlt hso hT hsf2 hit2 hta hd hf2 hm2 hu2 hd2 hdm hdm2 hdi hdt hwd hcA hcB hcC hok hof hof2 hvv hvv2 hca1 hca2 hca3 hva hlen hOm hO hm hr1 x2
      have x0 := (BA.out.wr0 RO.out).cell 0
      have x1 := (BA.out.wr0 RO.out).cell 1
      have x2 := (BA.out.wr0 RO.out).cell 2
      have x3 := (BA.out.wr0 RO.out).cell 3
      simp only [qgaq, qgzq, qgsq] at x0 x1 x2 x3
      go_upto_region 16 with (fail)
      go_wp2_with fail
      refine HOF.out.mono ?_
      rintro e w3 ⟨vi3, rfl, r3, l3⟩
      obtain ⟨_, _, ⟨D3, k3, e3, _, _⟩⟩ := l3.forms
      subst e3
      have hcan := HCA.out _ _ _ _ l3
      have HCAN := Lib.hid hcan
      have R3 := Lib.hid r3
      clear hcan l3 r3 x0 x1 x2 x3
      go_wp2_with fail
      refine HCAN.out.mono ?_
      rintro e w4 ⟨vA1, vA2, vA3, rfl, r4, lA⟩
      obtain ⟨⟨G1, q1, rfl, _, _⟩, ⟨G2, q2, rfl, _, _⟩, ⟨G3, q3, rfl, _, _⟩⟩ := lA.forms
      obtain ⟨w5, hw5⟩ : ∃ q, w4.alloc (.cells #[.string cA.module, .slice G1 cA.uses.length q1, .slice G2 cA.types.length q2, .slice G3 cA.items.length q3] 33) = q := ⟨_, rfl⟩
      obtain ⟨gA, hgA⟩ : ∃ q, w4.heap.size = q := ⟨_, rfl⟩
      have r5 : Wr [] w4 w5 := by rw [← hw5]; exact (Wr.refl [] _).alloc _
      have bX : Blk w5 gA 33 #[.string cA.module, .slice G1 cA.uses.length q1, .slice G2 cA.types.length q2, .slice G3 cA.items.length q3] := by rw [← hw5, ← hgA]; exact Blk.new _ _ _
      have R5 := Lib.hid ((R3.out.trans r4).trans r5)
      have LA := Lib.hid ((lA.into (Q := fun _ => True) (fun _ _ _ => trivial)).wr0 r5)
      have BX := Lib.hid bX
      have HW5 := Lib.hid hw5
      have HGA := Lib.hid hgA
      clear hw5 hgA r5 bX lA r4
      go_upto_region 17 with (fail)
      rw [HW5.out, HGA.out]
      have x0 := (BA.out.wr0 (RO.out.trans R5.out)).cell 0
      have x1 := (BA.out.wr0 (RO.out.trans R5.out)).cell 1
      have x2 := (BA.out.wr0 (RO.out.trans R5.out)).cell 2
      have x3 := (BA.out.wr0 (RO.out.trans R5.out)).cell 3
      simp only [qgaq, qgzq, qgsq] at x0 x1 x2 x3
      go_wp2_with fail
      refine (HTA.out _ R5.out).mono ?_
      rintro e w6 ⟨vt6, vi6, rfl, r6, l6⟩
      obtain ⟨_, ⟨T2, t2, e2, _, _⟩, ⟨T3, t3, e3, _, _⟩⟩ := l6.forms
      subst e2 e3
      have HOB := Lib.hid (HOF2.out _ _ _ _ l6)
      have R6 := Lib.hid (R5.out.trans r6)
      have Q6 := Lib.hid r6
      clear r6 l6 x0 x1 x2 x3
      go_wp2_with fail
      refine HOB.out.mono ?_
      rintro e w7 ⟨vi7, rfl, r7, l7⟩
      obtain ⟨_, _, ⟨D7, k7, e7, _, _⟩⟩ := l7.forms
      subst e7
      have HCBN := Lib.hid (HCB.out _ _ _ _ l7)
      have R7 := Lib.hid (R6.out.trans r7)
      have Q7 := Lib.hid (Q6.out.trans r7)
      clear r7 l7
      go_wp2_with fail
      refine HCBN.out.mono ?_
      rintro e w8 ⟨vB1, vB2, vB3, rfl, r8, lB⟩
      obtain ⟨⟨H1, p1, rfl, _, _⟩, ⟨H2, p2, rfl, _, _⟩, ⟨H3, p3, rfl, _, _⟩⟩ := lB.forms
      obtain ⟨w9, hw9⟩ : ∃ q, w8.alloc (.cells #[.string cB.module, .slice H1 cB.uses.length p1, .slice H2 cB.types.length p2, .slice H3 cB.items.length p3] 33) = q := ⟨_, rfl⟩
      obtain ⟨gB, hgB⟩ : ∃ q, w8.heap.size = q := ⟨_, rfl⟩
      have r9 : Wr [] w8 w9 := by rw [← hw9]; exact (Wr.refl [] _).alloc _
      have bY : Blk w9 gB 33 #[.string cB.module, .slice H1 cB.uses.length p1, .slice H2 cB.types.length p2, .slice H3 cB.items.length p3] := by rw [← hw9, ← hgB]; exact Blk.new _ _ _
      have R9 := Lib.hid ((R7.out.trans r8).trans r9)
      have Q9 := Lib.hid ((Q7.out.trans r8).trans r9)
      have LB := Lib.hid ((lB.into (Q := fun _ => True) (fun _ _ _ => trivial)).wr0 r9)
      have BY := Lib.hid bY
      have HW9 := Lib.hid hw9
      have HGB := Lib.hid hgB
      clear hw9 hgB r9 bY lB r8
      go_upto_region 18 with (fail)
      rw [HW9.out, HGB.out]
      have y0 := (BX.out.wr0 Q9.out).cell 0
      have y1 := (BX.out.wr0 Q9.out).cell 1
      have y2 := (BX.out.wr0 Q9.out).cell 2
      have y3 := (BX.out.wr0 Q9.out).cell 3
      simp only [qgaq, qgzq, qgsq] at y0 y1 y2 y3
      have HCXN := Lib.hid (HCX.out _ _ _ _ (LA.out.wr0 Q9.out))
      go_wp2_with fail
      refine HCXN.out.mono ?_
      rintro e w10 ⟨vC1, vC2, vC3, rfl, r10, lC⟩
      obtain ⟨⟨I1, o1, rfl, _, _⟩, ⟨I2, o2, rfl, _, _⟩, ⟨I3, o3, rfl, _, _⟩⟩ := lC.forms
      obtain ⟨w11, hw11⟩ : ∃ q, w10.alloc (.cells #[.string cC.module, .slice I1 cC.uses.length o1, .slice I2 cC.types.length o2, .slice I3 cC.items.length o3] 33) = q := ⟨_, rfl⟩
      obtain ⟨gC, hgC⟩ : ∃ q, w10.heap.size = q := ⟨_, rfl⟩
      have r11 : Wr [] w10 w11 := by rw [← hw11]; exact (Wr.refl [] _).alloc _
      have bZ : Blk w11 gC 33 #[.string cC.module, .slice I1 cC.uses.length o1, .slice I2 cC.types.length o2, .slice I3 cC.items.length o3] := by rw [← hw11, ← hgC]; exact Blk.new _ _ _
      have R11 := Lib.hid ((R9.out.trans r10).trans r11)
      have Q11 := Lib.hid ((Q9.out.trans r10).trans r11)
      have P11 := Lib.hid (r10.trans r11)
      have LC := Lib.hid ((lC.into (Q := fun _ => True) (fun _ _ _ => trivial)).wr0 r11)
      have BZ := Lib.hid bZ
      have HW11 := Lib.hid hw11
      have HGC := Lib.hid hgC
      have RF := Lib.hid (RW.out.trans R11.out)
      clear hw11 hgC r11 bZ lC r10 y0 y1 y2 y3
      go_upto_region 19 with (fail)
      rw [HW11.out, HGC.out]
      by_cases hn : nB = 0
      ·obtain ⟨h1, h2, h3, h4, h5, h6⟩ := HOK.out hn
       subst hn
       subst h1
       subst h2
       subst h3
       have hx := fun W (r : Wr [] w11 W) => LA.out.wr0 (Q11.out.trans r)
       have hy := fun W (r : Wr [] w11 W) => LB.out.wr0 (P11.out.trans r)
       have hz := fun W (r : Wr [] w11 W) => LC.out.wr0 r
       have hs1 := fun W (r : Wr [] w11 W) => lawSame_any _ _ _ _ _ _ _ _ _ _ W (hx W r) (hy W r) h4 h4 (by rw [h6, HDI.out]; omega) (by rw [h6, HDI.out]; omega)
       have hs2 := fun W (r : Wr [] w11 W) => lawSame_any _ _ _ _ _ _ _ _ _ _ W (hx W r) (hz W r) h4 h4 (by rw [h6, HDI.out]; omega) (by rw [h6, HDI.out]; omega)
       rw [eqB_true rfl] at hs1 hs2
       have HS1 := Lib.hid hs1
       have HS2 := Lib.hid hs2
       have hlt1 : cC.types.length ≤ f.types.length := by rw [← HDT.out]; exact h5
       have hle1 : (cC.types.length : Int) ≤ (f.types.length : Int) := by omega
       have hit : (cC.items.length : Int) = (f.items.length : Int) := by rw [h6, HDI.out]
       have HIT := Lib.hid hit
       clear hs1 hs2 hx hy hz h5 h6 h4 hit
       have x0 := (BX.out.wr0 Q11.out).cell 0
       have x1 := (BX.out.wr0 Q11.out).cell 1
       have x2 := (BX.out.wr0 Q11.out).cell 2
       have x3 := (BX.out.wr0 Q11.out).cell 3
       simp only [qgaq, qgzq, qgsq] at x0 x1 x2 x3
       have y0 := (BY.out.wr0 P11.out).cell 0
       have y1 := (BY.out.wr0 P11.out).cell 1
       have y2 := (BY.out.wr0 P11.out).cell 2
       have y3 := (BY.out.wr0 P11.out).cell 3
       simp only [qgaq, qgzq, qgsq] at y0 y1 y2 y3
       go_wp2_with fail
       refine (HS1.out _ (Wr.refl _ _)).mono ?_
       rintro e w12 ⟨rfl, r12⟩
       have R12 := Lib.hid r12
       clear x0 x1 x2 x3 y0 y1 y2 y3 r12
       have x0 := (BX.out.wr0 (Q11.out.trans R12.out)).cell 0
       have x1 := (BX.out.wr0 (Q11.out.trans R12.out)).cell 1
       have x2 := (BX.out.wr0 (Q11.out.trans R12.out)).cell 2
       have x3 := (BX.out.wr0 (Q11.out.trans R12.out)).cell 3
       simp only [qgaq, qgzq, qgsq] at x0 x1 x2 x3
       have y0 := (BZ.out.wr0 R12.out).cell 0
       have y1 := (BZ.out.wr0 R12.out).cell 1
       have y2 := (BZ.out.wr0 R12.out).cell 2
       have y3 := (BZ.out.wr0 R12.out).cell 3
       simp only [qgaq, qgzq, qgsq] at y0 y1 y2 y3
       go_wp2_with fail
       refine (HS2.out _ R12.out).mono ?_
       rintro e w13 ⟨rfl, r13⟩
       have R13 := Lib.hid (R12.out.trans r13)
       clear x0 x1 x2 x3 y0 y1 y2 y3 r13
       have x0 := (BX.out.wr0 (Q11.out.trans R13.out)).cell 0
       have x1 := (BX.out.wr0 (Q11.out.trans R13.out)).cell 1
       have x2 := (BX.out.wr0 (Q11.out.trans R13.out)).cell 2
       have x3 := (BX.out.wr0 (Q11.out.trans R13.out)).cell 3
       simp only [qgaq, qgzq, qgsq] at x0 x1 x2 x3
       have y0 := (BA.out.wr0 (RO.out.trans (R11.out.trans R13.out))).cell 0
       have y1 := (BA.out.wr0 (RO.out.trans (R11.out.trans R13.out))).cell 1
       have y2 := (BA.out.wr0 (RO.out.trans (R11.out.trans R13.out))).cell 2
       have y3 := (BA.out.wr0 (RO.out.trans (R11.out.trans R13.out))).cell 3
       simp only [qgaq, qgzq, qgsq] at y0 y1 y2 y3
       have hit := HIT.out
       go_wp2_with fail
       refine (HAL.out _).mono ?_
       rintro e w14 ⟨rfl, r14⟩
       go_wp2_with fail
       go_ret
       exact ⟨rfl, (RF.out.trans R13.out).trans r14⟩
      ·have hnb : (nB == 0) = false := by simp [hn]
       go_wp2_with fail
       refine (HAL.out _).mono ?_
       rintro e w12 ⟨rfl, r12⟩
       go_wp2_with fail
       go_ret
       exact ⟨rfl, RF.out.trans r12⟩
end Go.Proofs.YtmpbkfbjmmoapaaGreat
