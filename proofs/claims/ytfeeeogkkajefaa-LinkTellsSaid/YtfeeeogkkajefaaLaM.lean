/- LinkMay, walked. No conditions but that the strings are no longer than memory. -/
import Derived.Test.YtfeeeogkkajefaaLaA
import Derived.Test.YtfeeeogkkajefaaLaC
import Derived.Test.YtfeeeogkkajefaaLaD
import Derived.Laws.IdiomStrings
namespace Go.Proofs.Ytfeeeogkkajefaa
open Go.RowKit
set_option linter.unusedVariables false
set_option linter.unusedSimpArgs false
attribute [local go_sem ↓] Go.wp_at_zero Go.wp_at_succ

theorem str_same (a : ByteArray) : (a.toList == a.toList) = true := by simp
theorem str_other {a b : ByteArray} (h : a ≠ b) : (a.toList == b.toList) = false := by
  rw [ByteArray.toList_eq, ByteArray.toList_eq]
  obtain ⟨⟨x⟩⟩ := a
  obtain ⟨⟨y⟩⟩ := b
  simpa using h
theorem linkP_bad {l : List ObjD} {main : ByteArray} (h : (linkP l main).2.2 ≠ 0) : (linkP l main).1 = noImg := by
  unfold linkP at h ⊢
  cases hf : l.find? (fun o => !objB o) with
  | some o => simp only
  | none =>
    rw [hf] at h
    simp only at h ⊢
    by_cases ho : (orderP (l.map needOf) main).2.2 = 0
    · rw [if_pos ho] at h ⊢
      unfold linkN at h ⊢
      cases hk : keysAt l (orderP (l.map needOf) main).1.length 0 (orderP (l.map needOf) main).1 with
      | some p => simp only
      | none =>
        rw [hk] at h
        simp only at h ⊢
        by_cases hc : 64 < (orderP (l.map needOf) main).1.length ∨ 65535 < dataOf l (orderP (l.map needOf) main).1
        · rw [if_pos hc]
        · rw [if_neg hc] at h
          exact absurd rfl h
    · rw [if_neg ho]
def foundB (l : List ObjD) (m : ByteArray) (k : Nat) : Bool := inL m ((l.take k).map ObjD.module)
theorem foundB_zero (l : List ObjD) (m : ByteArray) : foundB l m 0 = false := rfl
theorem foundB_succ {l : List ObjD} {k : Nat} {o : ObjD} (h : l[k]? = some o) (m : ByteArray) : foundB l m (k + 1) = (foundB l m k || decide (o.module = m)) := by
  unfold foundB
  rw [List.take_add_one, h]
  show inL m (List.map ObjD.module (l.take k ++ [o])) = _
  rw [List.map_append]
  exact inL_snoc m o.module _
def MayK (w2 : World) (wr : World) : Prop := Wr [] w2 wr
set_option maxRecDepth 100000 in
set_option maxHeartbeats 16000000 in
theorem linkmay_any (l : List ObjD) (v : Value) (main : ByteArray) (hmain : main.size ≤ maxLen) (w : World) (h : SlObjs w (fun _ => True) v l) :
    Calls Try.prog 4 #[v, .string main] w fun e w' => e = .returned (.bool true) ∧ Wr [] w w' := by
  have hal := fun w => alive_any w
  have HH := Lib.hid h
  obtain ⟨A, c, rfl, l1, l2⟩ := SlObjs.form h
  unfold maxLen at l2 hmain
  have hmany := many_any l _ _ w h
  have HMANY := Lib.hid hmany
  clear h hmany
  go_enter Try.func4, Try.ntmps4
  go_wp2_with fail
  refine HMANY.out.mono ?_
  rintro e w1 ⟨b, rfl, r1, hfew⟩
  have R1 := Lib.hid r1
  cases b with
  | true =>
    clear r1 hfew
    go_wp2_with fail
    refine (hal _).mono ?_
    rintro e w2 ⟨rfl, r2⟩
    go_wp2_with fail
    go_ret
    exact ⟨rfl, R1.out.trans r2⟩
  | false =>
  have HFEW := Lib.hid (hfew rfl)
  clear r1 hfew
  by_cases q1 : 300 < (main.size : Int)
  · go_wp2_with fail
    refine (hal _).mono ?_
    rintro e w2 ⟨rfl, r2⟩
    go_wp2_with fail
    go_ret
    exact ⟨rfl, R1.out.trans r2⟩
  have q1' : decide (300 < (main.size : Int)) = false := decide_eq_false (by omega)
  have hlk := link_any l _ main w1 (HH.out.wr0 R1.out) (by have := HFEW.out.1; omega) (fun o ho => by have := HFEW.out.2 o ho; omega)
  obtain ⟨a, ha⟩ : ∃ a, linkP l main = a := ⟨_, rfl⟩
  rw [ha] at hlk
  have HLK := Lib.hid hlk
  have HA := Lib.hid ha
  clear hlk ha
  go_wp2_with fail
  refine HLK.out.mono ?_
  rintro e w2 ⟨vn, vm, vo, rfl, r2, hn, hm, ho⟩
  obtain ⟨img, who, en⟩ := a
  simp only at hn hm ho
  simp only
  obtain ⟨gx, hgx⟩ : ∃ g, w2.heap.size = g := ⟨_, rfl⟩
  by_cases hen : en = 0
  · subst hen
    obtain ⟨hok, _⟩ := link_ok HA.out
    obtain ⟨M, hM⟩ : ∃ M, img.names.length = M + 1 := by
      obtain ⟨x, hx⟩ := hok.last
      exact ⟨x.length, by rw [hx]; simp⟩
    have hlast : img.names[M]? = some main := by
      obtain ⟨x, hx⟩ := hok.last
      have : x.length = M := by rw [hx] at hM; simpa using hM
      rw [hx, ← this]
      simp
    obtain ⟨An, cn, hvn, ln1, ln2⟩ := Sl.form hn
    obtain ⟨Am, cm, hvm, lm1, lm2⟩ := hm.form
    obtain ⟨Ao, co, hvo, lo1, lo2⟩ := Sl.form ho
    have hml := hok.len
    have hol : img.order.length = img.names.length := by rw [hok.ord]; simp
    rw [hM] at hvn ln1
    rw [hml, hM] at hvm lm1
    rw [hol, hM] at hvo lo1
    subst hvn hvm hvo
    unfold maxLen at ln2 lm2 lo2
    have hsmall : M + 1 ≤ 64 := by have := hok.small; omega
    obtain ⟨w3, hw3⟩ : ∃ w3, w2.alloc (.cells #[.slice An (M + 1) cn, .slice Am (M + 1) cm, .slice Ao (M + 1) co] 31) = w3 := ⟨_, rfl⟩
    have r3 : Wr [] w2 w3 := by rw [← hw3]; exact (Wr.refl [] w2).alloc _
    have bx : Blk w3 gx 31 #[.slice An (M + 1) cn, .slice Am (M + 1) cm, .slice Ao (M + 1) co] := by rw [← hw3, ← hgx]; exact Blk.new _ _ _
    have hck := check_any img.mods img.order _ _ _ w3 (hm.wr0 r3) (Sl.wr0 ho r3)
    rw [hok.check] at hck
    have HCK := Lib.hid hck
    have HOK := Lib.hid hok
    have HN := Lib.hid (Sl.wr0 hn r3)
    have HM := Lib.hid (hm.wr0 r3)
    have HO := Lib.hid (Sl.wr0 ho r3)
    have R3 := Lib.hid ((R1.out.trans r2).trans r3)
    have BX := Lib.hid bx
    have HGX := Lib.hid hgx
    have HW3 := Lib.hid hw3
    have HLAST := Lib.hid hlast
    have HNL := Lib.hid hM
    have x0 := bx.cell 0
    have x1 := bx.cell 1
    have x2 := bx.cell 2
    simp only [List.getElem?_toArray, List.getElem?_cons_zero, List.getElem?_cons_succ] at x0 x1 x2
    clear r2 hn hm ho hgx hw3 r3 bx hok hck hml hol hM hlast
    go_upto_region 4 with (fail)
    rw [HGX.out, HW3.out]
    go_wp2_with fail
    refine HCK.out.mono ?_
    rintro e w4 ⟨rfl, r4⟩
    obtain ⟨bn, on, cn', en', _, _, _, hcl⟩ := Sl.at_ HN.out (j := M) (u := .string main) (by rw [List.getElem?_map, HLAST.out]; rfl)
    rw [HNL.out] at en'
    injection en' with e1 _ e3
    subst e1
    subst e3
    have y0 := (BX.out.wr0 r4).cell 0
    have y1 := (BX.out.wr0 r4).cell 1
    have y2 := (BX.out.wr0 r4).cell 2
    have yl := r4.cellOf hcl (by simp)
    simp only [List.getElem?_toArray, List.getElem?_cons_zero, List.getElem?_cons_succ] at y0 y1 y2
    have hss := str_same main
    have R4 := Lib.hid r4
    clear x0 x1 x2 hcl r4
    go_wp2_with fail
    go_loopw [10] (fun s10 wr => ∃ i : Nat, i ≤ M + 1 ∧ s10 = .int .i64 i ∧ MayK w3 wr) (fun s10 _ => M + 1 - (intOf s10).toNat)
    case atStart => exact ⟨0, by omega, rfl, R4.out⟩
    case round =>
      obtain ⟨i, hi, rfl, rr⟩ := hrel
      unfold MayK at rr
      clear y0 y1 y2 yl hss
      have y0 := (BX.out.wr0 rr).cell 0
      simp only [List.getElem?_toArray, List.getElem?_cons_zero, List.getElem?_cons_succ] at y0
      by_cases hlt : i < M + 1
      · obtain ⟨m, hm⟩ : ∃ m, img.names[i]? = some m := ⟨_, List.getElem?_eq_getElem (by rw [HNL.out]; exact hlt)⟩
        have HNM := Lib.hid hm
        have RR := Lib.hid rr
        have hlti : (i : Int) < (M : Int) + 1 := by omega
        have hi0 : (0 : Int) ≤ (i : Int) := by omega
        clear hm rr
        go_wp2_with fail
        go_loopw [11, 12] (fun s11 s12 wr => ∃ k : Nat, k ≤ l.length ∧ s12 = .int .i64 k ∧ s11 = .bool (foundB l m k) ∧ MayK w3 wr) (fun _ s12 _ => l.length - (intOf s12).toNat)
        case atStart => exact ⟨0, by omega, rfl, rfl, RR.out⟩
        case round =>
          obtain ⟨k, hk, rfl, rfl, rr⟩ := hrel
          unfold MayK at rr
          by_cases hlt2 : k < l.length
          · obtain ⟨o, ho⟩ : ∃ o, l[k]? = some o := ⟨_, List.getElem?_eq_getElem hlt2⟩
            obtain ⟨b, off, c', vu, vp, vi, vn, e, hc, hol⟩ := obj_at (((HH.out.wr0 R3.out)).wr0 rr) ho
            injection e with e1 e2 e3
            subst e1
            subst e3
            obtain ⟨Bu, du, rfl, lu1, lu2⟩ := Sl.form hol.uses
            obtain ⟨Bp, dp, rfl, _, _⟩ := Sl.form hol.mod.procs
            obtain ⟨Bi, di, rfl, _, _⟩ := Sl.form hol.mod.imports
            obtain ⟨Bn, dn, rfl, _, _⟩ := Sl.form hol.mod.init
            unfold maxLen at lu2
            have x0 := hc 0 _ rfl
            simp only [Nat.add_zero] at x0
            obtain ⟨bn, on, cn2, en2, _, _, _, hcl⟩ := Sl.at_ HN.out (j := i) (u := .string m) (by rw [List.getElem?_map, HNM.out]; rfl)
            rw [HNL.out] at en2
            injection en2 with e1 _ e3
            injection e1 with e1
            injection e1 with e1 e4 _
            subst e1 e4 e3
            have xl := rr.cellOf hcl (by simp)
            have z0 := (BX.out.wr0 rr).cell 0
            simp only [List.getElem?_toArray, List.getElem?_cons_zero, List.getElem?_cons_succ] at z0
            have hltk : (k : Int) < (l.length : Int) := by omega
            have hk0 : (0 : Int) ≤ (k : Int) := by omega
            have hin2 := foundB_succ ho m
            have HIN2 := Lib.hid hin2
            have RR2 := Lib.hid rr
            have HO2 := Lib.hid ho
            have HC := Lib.hid hc
            have HOL := Lib.hid hol
            clear e2 hc hol ho hcl rr hin2
            by_cases hme : o.module = m
            · subst hme
              have hs1 := str_same o.module
              go_wp2_with fail
              go_quiet (fail)
              generalize hWq : World.drewN wr _ = wq
              have rq : Wr [] w3 wq := by rw [← hWq]; exact RR2.out.drewN _
              have HWq := Lib.hid hWq
              clear hWq x0 xl z0 hs1
              obtain ⟨md, hmd, hmeq, hil, himp⟩ := HOK.out.each HNM.out (List.mem_of_getElem? HO2.out) rfl
              have hmc : md.code = o.mod.code := by rw [hmeq]
              have hmp : md.procs = o.mod.procs := by rw [hmeq]
              have hmdt : md.data = o.mod.data := by rw [hmeq]
              have hmn : md.init = o.mod.init := by rw [hmeq]
              obtain ⟨b2, off2, cm2, vp2, vi2, vn2, em, hcm, hml2⟩ := mod_at (HM.out.wr0 rq) hmd
              rw [HOK.out.len, HNL.out] at em
              injection em with em1 em2 em3
              subst em1
              subst em3
              have hp2 := hml2.procs
              rw [hmp] at hp2
              have hn2 := hml2.init
              rw [hmn] at hn2
              have hi2 := hml2.imports
              obtain ⟨Bp2, dp2, rfl, _, _⟩ := Sl.form hp2
              obtain ⟨Bi2, di2, hv2, li1, li2⟩ := Sl.form hi2
              rw [hil] at hv2 li1
              unfold maxLen at li2
              subst hv2
              obtain ⟨Bn2, dn2, rfl, _, _⟩ := Sl.form hn2
              have c0 : wq.cell? ⟨b2, off2 + i * 5, none⟩ = some (.string o.mod.code) := by have := hcm 0 _ rfl; rw [hmc] at this; exact this
              have c1 : wq.cell? ⟨b2, off2 + i * 5 + 1, none⟩ = some (.slice Bp2 o.mod.procs.length dp2) := hcm 1 _ rfl
              have c2 : wq.cell? ⟨b2, off2 + i * 5 + 2, none⟩ = some (.slice Bi2 o.uses.length di2) := hcm 2 _ rfl
              have c3 : wq.cell? ⟨b2, off2 + i * 5 + 3, none⟩ = some (.int .i64 o.mod.data) := by have := hcm 3 _ rfl; rw [hmdt] at this; exact this
              have c4 : wq.cell? ⟨b2, off2 + i * 5 + 4, none⟩ = some (.slice Bn2 o.mod.init.length dn2) := hcm 4 _ rfl
              have z1 := (BX.out.wr0 rq).cell 1
              simp only [List.getElem?_toArray, List.getElem?_cons_zero, List.getElem?_cons_succ] at z1
              have HP2 := Lib.hid hp2
              have HN2 := Lib.hid hn2
              have HI2 := Lib.hid hi2
              have HMEQ := Lib.hid (And.intro hil himp)
              have RQ := Lib.hid rq
              have x3 : wq.cell? ⟨b, off + k * 9 + 3, none⟩ = some (.slice Bu o.uses.length du) := by rw [← HWq.out]; exact ((Wr.refl [] wr).drewN _).cellOf (HC.out 3 _ rfl) (by simp)
              obtain ⟨gm, hgm⟩ : ∃ g, wq.heap.size = g := ⟨_, rfl⟩
              have HGM := Lib.hid hgm
              clear hcm hml2 hmd hmeq hmc hmp hmdt hmn hp2 hn2 hi2 hil himp em2 rq hgm
              go_upto_region 19 with (fail)
              generalize hW5 : World.alloc wq _ = w5
              have r5 : Wr [] wq w5 := by rw [← hW5]; exact (Wr.refl [] wq).alloc _
              have bM : Blk w5 gm 50 #[.string o.mod.code, .slice Bp2 o.mod.procs.length dp2, .slice Bi2 o.uses.length di2, .int .i64 o.mod.data, .slice Bn2 o.mod.init.length dn2] := by rw [← hW5, ← HGM.out]; exact Blk.new _ _ _
              have m2 := bM.cell 2
              have y2 := ((BX.out.wr0 RQ.out).wr0 r5).cell 2
              simp only [List.getElem?_toArray, List.getElem?_cons_zero, List.getElem?_cons_succ] at m2 y2
              have x3' := r5.cellOf x3 (by simp)
              obtain ⟨bo, oo, co', eo, _, _, hco⟩ := i64_at (i := i) (x := (i : Int)) (Sl.wr0 (Sl.wr0 HO.out RQ.out) r5) (by rw [HOK.out.ord, List.getElem?_map, List.getElem?_range (by rw [HNL.out]; exact hlt)]; rfl)
              rw [HOK.out.ord, List.length_map, List.length_range, HNL.out] at eo
              injection eo with eo1 _ eo3
              subst eo1
              subst eo3
              have R5 := Lib.hid r5
              have BM := Lib.hid bM
              have HW5 := Lib.hid hW5
              clear c0 c1 c2 c3 c4 z1 x3 r5 bM hW5
              rw [HGM.out]
              go_wp2_with fail
              go_quiet (fail)
              go_wp2_with fail
              have RWQ : Hid (Wr [] wr wq) := Lib.hid (by rw [← HWq.out]; exact (Wr.refl [] wr).drewN _)
              clear m2 y2 x3' hco
              obtain ⟨wk, rfl⟩ : ∃ wk : World, wk = wr := ⟨_, rfl⟩
              go_loopw [14] (fun s14 w6 => ∃ j : Nat, j ≤ o.uses.length ∧ s14 = .int .i64 j ∧ MayK w5 w6) (fun s14 _ => o.uses.length - (intOf s14).toNat)
              case atStart => exact ⟨0, by omega, rfl, (Wr.refl [] w5).drewN _⟩
              case round =>
                obtain ⟨j, hj, rfl, r6⟩ := hrel
                unfold MayK at r6
                have m2 := (BM.out.wr0 r6).cell 2
                simp only [List.getElem?_toArray, List.getElem?_cons_zero, List.getElem?_cons_succ] at m2
                by_cases hlt3 : j < o.uses.length
                · obtain ⟨u, hu⟩ : ∃ u, o.uses[j]? = some u := ⟨_, List.getElem?_eq_getElem hlt3⟩
                  obtain ⟨tq, hto1, hto2, hto3⟩ := HMEQ.out.2 j u hu
                  obtain ⟨b6, off6, c6, e6, _, _, hc6⟩ := i64_at (Sl.wr0 (Sl.wr0 HI2.out R5.out) r6) hto1
                  rw [HMEQ.out.1] at e6
                  injection e6 with e61 _ e63
                  subst e61
                  subst e63
                  obtain ⟨b7, off7, c7, e7, _, _, hc7⟩ := use_at (((HOL.out.wr0 RWQ.out).wr0 R5.out).wr0 r6).uses hu
                  injection e7 with e71 _ e73
                  subst e71
                  subst e73
                  obtain ⟨bn8, on8, cn8, en8, _, _, _, hcl8⟩ := Sl.at_ HN.out (j := tq) (u := .string u.module) (by rw [List.getElem?_map, hto3]; rfl)
                  rw [HNL.out] at en8
                  injection en8 with e81 _ e83
                  injection e81 with e81
                  injection e81 with e81 e84 _
                  subst e81 e84 e83
                  have xt := ((RQ.out.trans R5.out).trans r6).cellOf hcl8 (by simp)
                  have q0 := hc7 0 _ rfl
                  simp only [Nat.add_zero] at q0
                  have x3 := ((RWQ.out.trans R5.out).trans r6).cellOf (HC.out 3 _ rfl) (by simp)
                  have y0' := (((BX.out.wr0 RQ.out).wr0 R5.out).wr0 r6).cell 0
                  simp only [List.getElem?_toArray, List.getElem?_cons_zero, List.getElem?_cons_succ] at y0'
                  have hss := str_same u.module
                  have hjt : (j : Int) < (o.uses.length : Int) := by omega
                  have hj0 : (0 : Int) ≤ (j : Int) := by omega
                  have ht0 : (0 : Int) ≤ (tq : Int) := by omega
                  have hti : (tq : Int) < (i : Int) := by omega
                  have htm : (tq : Int) < (M : Int) + 1 := by omega
                  have htg : ¬ (i : Int) ≤ (tq : Int) := by omega
                  have htd : decide ((i : Int) ≤ (tq : Int)) = false := decide_eq_false htg
                  have hng : ¬ i ≤ tq := by omega
                  have hnd : decide (i ≤ tq) = false := decide_eq_false hng
                  have htn : decide ((tq : Int) < 0) = false := decide_eq_false (by omega)
                  have R6 := Lib.hid r6
                  clear hc7 hcl8 hu hto1 hto2 hto3 r6
                  go_wp2_with fail
                  go_quiet (fail)
                  go_wp2_with fail
                  go_roundw
                  case rel => exact ⟨j + 1, by omega, by go_num, R6.out.drewN _⟩
                  case measure => simp [intOf]; omega
                · have hjn : j = o.uses.length := by omega
                  subst hjn
                  have f2 := (BM.out.wr0 r6).frozen 2
                  have hsz : w3.heap.size ≤ gm := by rw [← HGM.out]; exact RQ.out.size
                  have hsz2 : wk.heap.size ≤ gm := by rw [← HGM.out]; exact RWQ.out.size
                  have hsz3 : wq.heap.size ≤ gm := by rw [← HGM.out]; exact Nat.le_refl _
                  have R6 := Lib.hid r6
                  clear r6
                  go_upto_region 28 with (fail)
                  have xb4 := ((RWQ.out.trans R5.out).trans R6.out)
                  generalize hW7 : World.setCell wr _ _ = w7
                  have r7 : Wr [] w3 w7 := by rw [← hW7]; exact ((RQ.out.trans R5.out).trans R6.out).setNew hsz _
                  have ro : Wr [] wk w7 := by rw [← hW7]; exact ((RWQ.out.trans R5.out).trans R6.out).setNew hsz2 _
                  have rm : Wr [] wq w7 := by rw [← hW7]; exact (R5.out.trans R6.out).setNew hsz3 _
                  have bM : Blk w7 gm 50 #[.string o.mod.code, .slice Bp2 o.mod.procs.length dp2, .slice none 0 0, .int .i64 o.mod.data, .slice Bn2 o.mod.init.length dn2] := by
                    rw [← hW7]
                    have := (BM.out.wr0 R6.out).set_ 2 (.slice none 0 0)
                    simpa using this
                  have m0 := bM.cell 0
                  have m1 := bM.cell 1
                  have m2 := bM.cell 2
                  have m3 := bM.cell 3
                  have m4 := bM.cell 4
                  simp only [List.getElem?_toArray, List.getElem?_cons_zero, List.getElem?_cons_succ] at m0 m1 m2 m3 m4
                  have x4 := ro.cellOf (HC.out 4 _ rfl) (by simp)
                  have x5 := ro.cellOf (HC.out 5 _ rfl) (by simp)
                  have x6 := ro.cellOf (HC.out 6 _ rfl) (by simp)
                  have x7 := ro.cellOf (HC.out 7 _ rfl) (by simp)
                  have x8 := ro.cellOf (HC.out 8 _ rfl) (by simp)
                  have hnil : o.mod.imports = [] := by
                    have := HOK.out.may o (List.mem_of_getElem? HO2.out)
                    unfold objB at this
                    simp only [Bool.and_eq_true, decide_eq_true_eq] at this
                    exact List.eq_nil_of_length_eq_zero this.1.1.2
                  have hsm : ∀ W, Wr [] w7 W → Calls Try.prog 15 #[.agg #[.string o.mod.code, .slice Bp2 o.mod.procs.length dp2, .slice none 0 0, .int .i64 o.mod.data, .slice Bn2 o.mod.init.length dn2], .agg #[.string o.mod.code, .slice Bp o.mod.procs.length dp, .slice Bi o.mod.imports.length di, .int .i64 o.mod.data, .slice Bn o.mod.init.length dn]] W (fun e w' => e = .returned (.bool true) ∧ Wr [] W w') := by
                    intro W hW
                    exact samemod_any o.mod _ (.slice none 0 0) _ _ _ _ (fun _ => True) (fun _ => True) W ⟨Sl.wr0 (Sl.wr0 HP2.out rm) hW, by rw [hnil]; exact Sl.nil _ _ _, Sl.wr0 (Sl.wr0 HN2.out rm) hW⟩ ((HOL.out.mod.wr0 ro).wr0 hW)
                  have HSM := Lib.hid hsm
                  have R7 := Lib.hid r7
                  clear hnil hsm r7 ro rm bM hW7 f2 xb4
                  go_region_held3 (fun w' => w'.cell? ⟨gm, 0, none⟩ = some (.string o.mod.code) ∧ w'.cell? ⟨gm, 1, none⟩ = some (.slice Bp2 o.mod.procs.length dp2) ∧ w'.cell? ⟨gm, 2, none⟩ = some (.slice none 0 0) ∧ w'.cell? ⟨gm, 3, none⟩ = some (.int .i64 o.mod.data) ∧ w'.cell? ⟨gm, 4, none⟩ = some (.slice Bn2 o.mod.init.length dn2) ∧ w'.cell? ⟨b, off + k * 9 + 4, none⟩ = some (.string o.mod.code) ∧ w'.cell? ⟨b, off + k * 9 + 5, none⟩ = some (.slice Bp o.mod.procs.length dp) ∧ w'.cell? ⟨b, off + k * 9 + 6, none⟩ = some (.slice Bi o.mod.imports.length di) ∧ w'.cell? ⟨b, off + k * 9 + 7, none⟩ = some (.int .i64 o.mod.data) ∧ w'.cell? ⟨b, off + k * 9 + 8, none⟩ = some (.slice Bn o.mod.init.length dn)) (go_keep)
                    ((go_at_call 15; refine (HSM.out _ (Wr.drew (Wr.refl [] w7))).mono ?_; rintro e w8 ⟨rfl, r8⟩; have n0 := r8.cellOf m0 (by simp); have n1 := r8.cellOf m1 (by simp); have n2 := r8.cellOf m2 (by simp); have n3 := r8.cellOf m3 (by simp); have n4 := r8.cellOf m4 (by simp); have n5 := r8.cellOf x4 (by simp); have n6 := r8.cellOf x5 (by simp); have n7 := r8.cellOf x6 (by simp); have n8 := r8.cellOf x7 (by simp); have n9 := r8.cellOf x8 (by simp); have R8 := Lib.hid r8; clear r8))
                  all_goals
                    go_wp2_with fail
                    go_roundw
                    case rel =>
                      have htt : foundB l o.module (k + 1) = true := by rw [HIN2.out]; simp
                      repeat apply Exists.intro
                      refine ⟨⟨k + 1, by omega, by go_num, by rw [htt], R7.out.drew.trans R8.out⟩, ?_⟩
                      rfl
                    case measure => simp [intOf]; omega
            · have hs1 := str_other hme
              have hd : decide (o.module = m) = false := decide_eq_false hme
              have HD := Lib.hid hd
              clear hme hd
              go_wp2_with fail
              go_quiet (fail)
              go_wp2_with fail
              go_roundw
              case rel =>
                repeat apply Exists.intro
                refine ⟨⟨k + 1, by omega, by go_num, by rw [HIN2.out, HD.out, Bool.or_false], RR2.out.drewN _⟩, ?_⟩
                rfl
              case measure => simp [intOf]; omega
          · have hkn : k = l.length := by omega
            subst hkn
            have hin : foundB l m l.length = true := by
              unfold foundB
              rw [List.take_length, inL_iff]
              obtain ⟨o, ho, e, _⟩ := HOK.out.obj i m HNM.out
              exact List.mem_map.2 ⟨o, ho, e⟩
            rw [hin]
            have RR2 := Lib.hid rr
            clear hin rr
            go_wp2_with fail
            go_roundw
            case rel => exact ⟨i + 1, by omega, by go_num, RR2.out⟩
            case measure => simp [intOf]; omega
      · have hin : i = M + 1 := by omega
        subst hin
        have RR := Lib.hid rr
        clear rr
        go_wp2_with fail
        refine (hal _).mono ?_
        rintro e w5 ⟨rfl, r5⟩
        go_wp2_with fail
        go_ret
        exact ⟨rfl, (R3.out.trans RR.out).trans r5⟩
  · have hni : img = noImg := by
      have := linkP_bad (l := l) (main := main) (by rw [HA.out]; exact hen)
      rw [HA.out] at this
      exact this
    subst hni
    obtain ⟨An, cn, hvn, ln1, ln2⟩ := Sl.form hn
    obtain ⟨Am, cm, hvm, lm1, lm2⟩ := hm.form
    obtain ⟨Ao, co, hvo, lo1, lo2⟩ := Sl.form ho
    have hvn' : vn = .slice An 0 cn := hvn
    have hvm' : vm = .slice Am 0 cm := hvm
    have hvo' : vo = .slice Ao 0 co := hvo
    clear hvn hvm hvo
    subst hvn' hvm' hvo'
    have hd : (en == 0) = false := by simpa using hen
    have hd2 : (en != 0) = true := by simpa using hen
    have R2 := Lib.hid (R1.out.trans r2)
    clear hen hn hm ho r2
    go_wp2_with fail
    refine (hal _).mono ?_
    rintro e w4 ⟨rfl, r4⟩
    go_wp2_with fail
    go_ret
    exact ⟨rfl, (R2.out.alloc _).trans r4⟩
end Go.Proofs.Ytfeeeogkkajefaa
