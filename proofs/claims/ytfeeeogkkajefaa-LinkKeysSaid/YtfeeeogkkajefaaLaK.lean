/- LinkKeys, walked. No conditions but that the strings are no longer than memory. -/
import Derived.Test.YtfeeeogkkajefaaLaM
import Derived.Test.YtfeeeogkkajefaaLaS
import Derived.Test.YtfeeeogkkajefaaLaR
import Derived.Test.YtfeeeogkkajefaaLaZ
namespace Go.Proofs.Ytfeeeogkkajefaa
open Go.RowKit
set_option linter.unusedVariables false
set_option linter.unusedSimpArgs false
attribute [local go_sem ↓] Go.wp_at_zero Go.wp_at_succ

def reachB (names : List ByteArray) (m : ByteArray) (k : Nat) : Bool := inL m (names.take k)
theorem reachB_zero (names : List ByteArray) (m : ByteArray) : reachB names m 0 = false := rfl
theorem reachB_len (names : List ByteArray) (m : ByteArray) : reachB names m names.length = inL m names := by unfold reachB; rw [List.take_length]
theorem reachB_succ {names : List ByteArray} {k : Nat} {x : ByteArray} (h : names[k]? = some x) (m : ByteArray) : reachB names m (k + 1) = (reachB names m k || decide (x = m)) := by
  unfold reachB
  rw [List.take_add_one, h]
  exact inL_snoc m x _
def accB (u r : Bool) (uses : List UseD) (mk : ByteArray) (j : Nat) : Bool := u || (r && (uses.take j).any fun x => decide (x.module = mk))
theorem accB_zero (u r : Bool) (uses : List UseD) (mk : ByteArray) : accB u r uses mk 0 = u := by simp [accB]
theorem accB_len (u r : Bool) (uses : List UseD) (mk : ByteArray) : accB u r uses mk uses.length = (u || (r && uses.any fun x => decide (x.module = mk))) := by unfold accB; rw [List.take_length]
theorem accB_succ (u r : Bool) {uses : List UseD} {j : Nat} {x : UseD} (h : uses[j]? = some x) (mk : ByteArray) : accB u r uses mk (j + 1) = (accB u r uses mk j || (r && decide (x.module = mk))) := by
  unfold accB
  rw [List.take_add_one, h]
  simp only [Option.toList_some, List.any_append, List.any_cons, List.any_nil, Bool.or_false]
  cases u <;> cases r <;> simp
def BackAt (w3 : World) (l : List ObjD) (img : ImgD) (mk : ByteArray) (n : Nat) (s13 s14 : Value) (wr : World) : Prop := Wr [] w3 wr ∧ RowO w3 wr (backAt l n) s13 ∧ s14 = .bool (usedAt l img mk n)
set_option maxRecDepth 100000 in
set_option maxHeartbeats 16000000 in
theorem linkkeys_any (l : List ObjD) (v : Value) (main : ByteArray) (hmain : main.size ≤ maxLen) (which : Int) (hwh : 0 ≤ which ∧ which ≤ 255) (key : Int) (hkey : 0 ≤ key ∧ key < 18446744073709551616) (w : World) (h : SlObjs w (fun _ => True) v l) (hks : ∀ o ∈ l, 0 ≤ o.key ∧ o.key < 18446744073709551616) :
    Calls Try.prog 5 #[v, .string main, .int .u8 which, .int .u64 key] w fun e w' => e = .returned (.bool true) ∧ Wr [] w w' := by
  obtain ⟨i1, hi1, hy0, hy1, hy2⟩ := info_parts info_obj
  have hal := fun w => alive_any w
  have HH := Lib.hid h
  obtain ⟨A, c, rfl, l1, l2⟩ := SlObjs.form h
  unfold maxLen at l2 hmain
  have hmany := many_any l _ _ w h
  have HMANY := Lib.hid hmany
  have HKS := Lib.hid hks
  clear h hmany hks
  go_enter Try.func5, Try.ntmps5
  go_wp2_with fail
  refine HMANY.out.mono ?_
  rintro e w1 ⟨b, rfl, r1, hfew⟩
  have R1 := Lib.hid r1
  cases b with
  | true =>
    clear r1 hfew
    go_wp2_with fail
    refine (hal _).mono ?_
    rintro e w2 ⟨rfl, r2⟩
    go_wp2_with fail
    go_ret
    exact ⟨rfl, R1.out.trans r2⟩
  | false =>
  have HFEW := Lib.hid (hfew rfl)
  clear r1 hfew
  by_cases q1 : 300 < (main.size : Int)
  · go_wp2_with fail
    refine (hal _).mono ?_
    rintro e w2 ⟨rfl, r2⟩
    go_wp2_with fail
    go_ret
    exact ⟨rfl, R1.out.trans r2⟩
  have q1' : decide (300 < (main.size : Int)) = false := decide_eq_false (by omega)
  by_cases q2 : l.length = 0
  · have q2' : ((l.length : Int) == 0) = true := by simp [q2]
    have q2d : l = [] := List.eq_nil_of_length_eq_zero q2
    subst q2d
    go_wp2_with fail
    refine (hal _).mono ?_
    rintro e w2 ⟨rfl, r2⟩
    go_wp2_with fail
    go_ret
    exact ⟨rfl, R1.out.trans r2⟩
  have q2' : ((l.length : Int) == 0) = false := by
    have : (l.length : Int) ≠ 0 := by omega
    simpa using this
  have q2n : ¬ ((l.length : Int) = 0) := by omega
  have hlk := link_any l _ main w1 (HH.out.wr0 R1.out) (by have := HFEW.out.1; omega) (fun o ho => by have := HFEW.out.2 o ho; omega)
  obtain ⟨a, ha⟩ : ∃ a, linkP l main = a := ⟨_, rfl⟩
  rw [ha] at hlk
  have HLK := Lib.hid hlk
  have HA := Lib.hid ha
  clear hlk ha
  go_wp2_with fail
  refine HLK.out.mono ?_
  rintro e w2 ⟨vn, vm, vo, rfl, r2, hn, hm, ho⟩
  obtain ⟨img, who, en⟩ := a
  simp only at hn hm ho
  simp only
  obtain ⟨gx, hgx⟩ : ∃ g, w2.heap.size = g := ⟨_, rfl⟩
  obtain ⟨An, cn, hvn, ln1, ln2⟩ := Sl.form hn
  obtain ⟨Am, cm, hvm, lm1, lm2⟩ := hm.form
  obtain ⟨Ao, co, hvo, lo1, lo2⟩ := Sl.form ho
  subst hvn hvm hvo
  unfold maxLen at ln2 lm2 lo2
  by_cases hen : en = 0
  · subst hen
    obtain ⟨hok, rfl⟩ := link_ok HA.out
    obtain ⟨w3, hw3⟩ : ∃ w3, w2.alloc (.cells #[.slice An img.names.length cn, .slice Am img.mods.length cm, .slice Ao img.order.length co] 31) = w3 := ⟨_, rfl⟩
    have r3 : Wr [] w2 w3 := by rw [← hw3]; exact (Wr.refl [] w2).alloc _
    have bx : Blk w3 gx 31 #[.slice An img.names.length cn, .slice Am img.mods.length cm, .slice Ao img.order.length co] := by rw [← hw3, ← hgx]; exact Blk.new _ _ _
    obtain ⟨K, hK, hKl⟩ : ∃ K : Nat, Int.tmod which (l.length : Int) = (K : Int) ∧ K < l.length := by
      have h1 := Int.emod_nonneg which q2n
      have h2 := Int.emod_lt_of_pos which (show (0 : Int) < (l.length : Int) by omega)
      refine ⟨(which % (l.length : Int)).toNat, ?_, by omega⟩
      rw [Int.tmod_eq_emod_of_nonneg hwh.1]
      omega
    have wwh : IntKind.i64.wrap which = which := by rw [IntKind.wrap_i64]; omega
    obtain ⟨ok, hok2⟩ : ∃ o, l[K]? = some o := ⟨_, List.getElem?_eq_getElem hKl⟩
    obtain ⟨mk, hmk⟩ : ∃ m, ok.module = m := ⟨_, rfl⟩
    have HOK := Lib.hid hok
    have HN := Lib.hid (Sl.wr0 hn r3)
    have HM := Lib.hid (hm.wr0 r3)
    have HO := Lib.hid (Sl.wr0 ho r3)
    have R3 := Lib.hid ((R1.out.trans r2).trans r3)
    have BX := Lib.hid bx
    have HGX := Lib.hid hgx
    have HW3 := Lib.hid hw3
    have HOK2 := Lib.hid (And.intro hok2 hmk)
    have HKL := Lib.hid hKl
    have HL3 : Hid (SlObjs w3 (fun b => b < w3.heap.size) (.slice A l.length c) l) := Lib.hid ((HH.out.wr0 R3.out).into (fun b _ hb => hb))
    clear r2 hn hm ho hgx hw3 r3 bx hok hok2 hmk hKl
    go_upto_region 4 with (fail)
    rw [HGX.out, HW3.out]
    go_wp2_with fail
    go_loopw [13, 14, 15] (fun s13 s14 s15 wr => ∃ n : Nat, n ≤ l.length ∧ s15 = .int .i64 ((n : Int) - 1) ∧ BackAt w3 l img mk n s13 s14 wr) (fun _ _ s15 _ => ((intOf s15) + 1).toNat)
    case atStart =>
      exact ⟨l.length, Nat.le_refl _, rfl, Wr.refl [] w3, by rw [backAt_len]; exact RowO.nil _ _, by rw [usedAt_len]⟩
    case round =>
      obtain ⟨n, hn, rfl, racc, hrow, rfl⟩ := hrel
      obtain ⟨wo, rfl⟩ : ∃ wo : World, wo = wr := ⟨_, rfl⟩
      obtain ⟨Bv, kv, e13⟩ := hrow.form
      rw [backAt_size] at e13
      subst e13
      by_cases hn0 : 0 < n
      · obtain ⟨i, rfl⟩ : ∃ i, n = i + 1 := ⟨n - 1, by omega⟩
        have e15 : ((i + 1 : Nat) : Int) - 1 = (i : Int) := by omega
        rw [e15]
        obtain ⟨o, ho⟩ : ∃ o, l[i]? = some o := ⟨_, List.getElem?_eq_getElem (by omega)⟩
        obtain ⟨b, off, c', vu, vp, vi, vn2, e, hc, hol⟩ := obj_at (HL3.out.wr0 racc) ho
        injection e with e1 e2 e3
        subst e1
        subst e3
        obtain ⟨Bu, du, rfl, lu1, lu2⟩ := Sl.form hol.uses
        obtain ⟨Bp, dp, rfl, _, _⟩ := Sl.form hol.mod.procs
        obtain ⟨Bi, di, rfl, _, _⟩ := Sl.form hol.mod.imports
        obtain ⟨Bn, dn, rfl, _, _⟩ := Sl.form hol.mod.init
        unfold maxLen at lu2
        have x0 := hc 0 _ rfl
        have x1 := hc 1 _ rfl
        have x2 := hc 2 _ rfl
        have x3 := hc 3 _ rfl
        have x4 := hc 4 _ rfl
        have x5 := hc 5 _ rfl
        have x6 := hc 6 _ rfl
        have x7 := hc 7 _ rfl
        have x8 := hc 8 _ rfl
        simp only [Nat.add_zero] at x0
        obtain ⟨sz, hsz⟩ : ∃ sz, wo.heap.size = sz := ⟨_, rfl⟩
        obtain ⟨wO, hwO⟩ : ∃ wO, wo.alloc (.cells #[.string o.module, .bool o.main, .int .u64 o.key, .slice Bu o.uses.length du, .string o.mod.code, .slice Bp o.mod.procs.length dp, .slice Bi o.mod.imports.length di, .int .i64 o.mod.data, .slice Bn o.mod.init.length dn] 52) = wO := ⟨_, rfl⟩
        have rO : Wr [] wo wO := by rw [← hwO]; exact (Wr.refl [] wo).alloc _
        have bO : Blk wO sz 52 #[.string o.module, .bool o.main, .int .u64 o.key, .slice Bu o.uses.length du, .string o.mod.code, .slice Bp o.mod.procs.length dp, .slice Bi o.mod.imports.length di, .int .i64 o.mod.data, .slice Bn o.mod.init.length dn] := by rw [← hwO, ← hsz]; exact Blk.new _ _ _
        obtain ⟨wa, hwa⟩ : ∃ wa, wO.alloc (.cells #[.string o.module, .bool o.main, .int .u64 o.key, .slice Bu o.uses.length du, .string o.mod.code, .slice Bp o.mod.procs.length dp, .slice Bi o.mod.imports.length di, .int .i64 o.mod.data, .slice Bn o.mod.init.length dn] 52) = wa := ⟨_, rfl⟩
        have ra : Wr [] wO wa := by rw [← hwa]; exact (Wr.refl [] wO).alloc _
        obtain ⟨zz, hzz⟩ : ∃ zz, wO.heap.size = zz := ⟨_, rfl⟩
        have hnew : Blk wa zz 52 #[.string o.module, .bool o.main, .int .u64 o.key, .slice Bu o.uses.length du, .string o.mod.code, .slice Bp o.mod.procs.length dp, .slice Bi o.mod.imports.length di, .int .i64 o.mod.data, .slice Bn o.mod.init.length dn] := by rw [← hwa, ← hzz]; exact Blk.new _ _ _
        obtain ⟨ys, g1, g2, g3⟩ := hrow.wr0 (rO.trans ra)
        rw [backAt_size] at g1
        have hbase : w3.heap.size ≤ wa.heap.size := Nat.le_trans (racc.trans rO).size ra.size
        have hl80 := HFEW.out.1
        obtain ⟨v', w4, hrun, hown4, hgrow, _, hbk⟩ := run_append_own_at (P := Try.prog) wa w3.heap.size 22 22 52 i1 _ 9 152 Try.underlying22 hi1 hy0 hy1 hy2 rfl (by decide) _ _ _ g1 ⟨zz, 0, none⟩ 1 1 [.string o.module, .bool o.main, .int .u64 o.key, .slice Bu o.uses.length du, .string o.mod.code, .slice Bp o.mod.procs.length dp, .slice Bi o.mod.imports.length di, .int .i64 o.mod.data, .slice Bn o.mod.init.length dn] rfl (fun q u' hq => by
          rw [Addr.add_lit, Nat.zero_add, hnew.cell]
          simpa using hq) (by simp [Value.oneCell']) (by unfold maxLen; omega) (by omega) hbase
        have hpush := RowO.push (x := o) (vu := .slice Bu o.uses.length du) (vp := .slice Bp o.mod.procs.length dp) (vi := .slice Bi o.mod.imports.length di) (vn := .slice Bn o.mod.init.length dn) (l := backAt l (i + 1)) (by rw [backAt_size]; exact g1) g2 g3 (hol.wr0 (rO.trans ra)) (by simp [ObjD.cells, Value.oneCell']) (by rw [backAt_size]; exact hown4) hgrow
        rw [← backAt_step ho] at hpush
        have hwg := Wr.ofGrownOwn hgrow
        have hacc : Wr [] w3 w4 := ((racc.trans rO).trans ra).trans' hwg (fun x hx => .inr ((g1.lt x (mem_ownL.1 hx)).1))
        have hov : sz ∉ ownL (Value.slice Bv (l.length - (i + 1)) kv) := fun hm => by
          obtain ⟨xs0, q1, _⟩ := hrow
          have := own_lt q1 sz (mem_ownL.1 hm)
          omega
        have bO4 := (bO.wr0 ra).wr hwg hov
        obtain ⟨Av, cv, hv'⟩ := hpush.form
        rw [backAt_size] at hv'
        subst hv'
        have o0 := bO.cell 0
        have o1 := bO.cell 1
        have o2 := bO.cell 2
        have o3 := bO.cell 3
        have o4 := bO.cell 4
        have o5 := bO.cell 5
        have o6 := bO.cell 6
        have o7 := bO.cell 7
        have o8 := bO.cell 8
        simp only [List.getElem?_toArray, List.getElem?_cons_zero, List.getElem?_cons_succ] at o0 o1 o2 o3 o4 o5 o6 o7 o8
        have HX := Lib.hid ho
        have hnot : ∀ b, b < w3.heap.size → b ∉ ownL (Value.slice Bv (l.length - (i + 1)) kv) := fun b hb hm => by
          have := (g1.lt b (mem_ownL.1 hm)).1
          omega
        have HOL := Lib.hid ((hol.wr0 (rO.trans ra)).keep hwg hnot)
        have HP := Lib.hid hpush
        have HAC := Lib.hid hacc
        have HSZ := Lib.hid hsz
        have HWO := Lib.hid hwO
        have HZZ := Lib.hid hzz
        have HWA := Lib.hid hwa
        have HRUN := Lib.hid hrun
        have BO4 := Lib.hid bO4
        have hlti : (i : Int) < (l.length : Int) := by omega
        have hi0 : (0 : Int) ≤ (i : Int) := by omega
        clear e2 hc hol ho hrow hnot racc hsz hwO rO bO hwa ra hzz hnew g1 g2 g3 hbase hrun hown4 hgrow hbk hpush hwg hacc hov bO4
        go_upto_region 13 with (fail)
        rw [HSZ.out, HWO.out]
        clear x0 x1 x2 x3 x4 x5 x6 x7 x8
        go_wp2_with (at_builtin; rw [HZZ.out, HWA.out]; refine wpList_append_run rfl _ _ _ rfl _ _ rfl rfl _ _ HRUN.out ?_)
        clear o0 o1 o2 o3 o4 o5 o6 o7 o8
        go_loopw [17, 18] (fun s17 s18 wr => ∃ j : Nat, j ≤ img.names.length ∧ s18 = .int .i64 j ∧ s17 = .bool (reachB img.names o.module j) ∧ MayK w4 wr) (fun _ s18 _ => img.names.length - (intOf s18).toNat)
        case atStart => exact ⟨0, by omega, rfl, rfl, Wr.refl [] w4⟩
        case round =>
          obtain ⟨j, hj, rfl, rfl, rr⟩ := hrel
          unfold MayK at rr
          have z0 := (BX.out.wr0 (HAC.out.trans rr)).cell 0
          have b0 := (BO4.out.wr0 rr).cell 0
          simp only [List.getElem?_toArray, List.getElem?_cons_zero, List.getElem?_cons_succ] at z0 b0
          by_cases hlt : j < img.names.length
          · obtain ⟨x, hx⟩ : ∃ x, img.names[j]? = some x := ⟨_, List.getElem?_eq_getElem hlt⟩
            obtain ⟨bn, on, cn2, en2, _, _, _, hcl⟩ := Sl.at_ HN.out (j := j) (u := .string x) (by rw [List.getElem?_map, hx]; rfl)
            injection en2 with e1 _ e3
            subst e1
            subst e3
            have xl := (HAC.out.trans rr).cellOf hcl (by simp)
            have hjl : (j : Int) < (img.names.length : Int) := by omega
            have hj0 : (0 : Int) ≤ (j : Int) := by omega
            have hsu := reachB_succ hx o.module
            obtain ⟨q, hq⟩ : ∃ q, reachB img.names o.module j = q := ⟨_, rfl⟩
            rw [hq] at hsu ⊢
            have HSU := Lib.hid hsu
            have RR := Lib.hid rr
            clear hsu hq hcl hx rr
            cases q with
            | true =>
              have htt : reachB img.names o.module (j + 1) = true := by rw [HSU.out]; simp
              have HTT := Lib.hid htt
              clear htt
              go_wp2_with fail
              go_quiet (fail)
              go_wp2_with fail
              go_roundw
              case rel => exact ⟨j + 1, by omega, by go_num, by rw [HTT.out], RR.out.drewN _⟩
              case measure => simp [intOf]; omega
            | false =>
              by_cases hme : x = o.module
              · have htt : reachB img.names o.module (j + 1) = true := by rw [HSU.out]; simp [hme]
                have HTT := Lib.hid htt
                have hs : (x.toList == o.module.toList) = true := by rw [hme]; exact str_same _
                clear htt hme
                go_wp2_with fail
                go_quiet (fail)
                go_wp2_with fail
                go_roundw
                case rel => exact ⟨j + 1, by omega, by go_num, by rw [HTT.out], RR.out.drewN _⟩
                case measure => simp [intOf]; omega
              · have htt : reachB img.names o.module (j + 1) = false := by rw [HSU.out]; simp [hme]
                have HTT := Lib.hid htt
                have hs := str_other hme
                clear htt hme
                go_wp2_with fail
                go_quiet (fail)
                go_wp2_with fail
                go_roundw
                case rel => exact ⟨j + 1, by omega, by go_num, by rw [HTT.out], RR.out.drewN _⟩
                case measure => simp [intOf]; omega
          · have hjn : j = img.names.length := by omega
            subst hjn
            rw [reachB_len]
            obtain ⟨r, hr⟩ : ∃ r, inL o.module img.names = r := ⟨_, rfl⟩
            rw [hr]
            obtain ⟨u0, hu0⟩ : ∃ u, usedAt l img mk (i + 1) = u := ⟨_, rfl⟩
            rw [hu0]
            obtain ⟨w5, rfl⟩ : ∃ w5 : World, w5 = wr := ⟨_, rfl⟩
            have RR := Lib.hid rr
            have HR := Lib.hid hr
            have HU0 := Lib.hid hu0
            clear hr hu0 rr
            go_wp2_with fail
            clear z0 b0
            go_loopw [14, 19] (fun s14 s19 wr => ∃ j : Nat, j ≤ o.uses.length ∧ s19 = .int .i64 j ∧ s14 = .bool (accB u0 r o.uses mk j) ∧ MayK w5 wr) (fun _ s19 _ => o.uses.length - (intOf s19).toNat)
            case atStart => exact ⟨0, by omega, rfl, by rw [accB_zero], Wr.refl [] _⟩
            case round =>
              obtain ⟨j, hj, rfl, rfl, rr⟩ := hrel
              unfold MayK at rr
              have b3 := (BO4.out.wr0 (RR.out.trans rr)).cell 3
              simp only [List.getElem?_toArray, List.getElem?_cons_zero, List.getElem?_cons_succ] at b3
              by_cases hlt2 : j < o.uses.length
              · obtain ⟨x, hx⟩ : ∃ x, o.uses[j]? = some x := ⟨_, List.getElem?_eq_getElem hlt2⟩
                obtain ⟨bu, offu, cu, eu, _, _, hcu⟩ := use_at (HOL.out.wr0 (RR.out.trans rr)).uses hx
                injection eu with q1 _ q3
                subst q1
                subst q3
                have y0 := hcu 0 _ rfl
                simp only [Nat.add_zero] at y0
                obtain ⟨bk, offk, ck, vu3, vp3, vi3, vn3, ek, hck, _⟩ := obj_at (HL3.out.wr0 ((HAC.out.trans RR.out).trans rr)) HOK2.out.1
                injection ek with q1 _ q3
                injection q1 with q1
                injection q1 with q1 q4 _
                subst q1 q4 q3
                have xk := hck 0 _ rfl
                rw [HOK2.out.2] at xk
                simp only [Nat.add_zero] at xk
                have hjl : (j : Int) < (o.uses.length : Int) := by omega
                have hj0 : (0 : Int) ≤ (j : Int) := by omega
                have hkl : (K : Int) < (l.length : Int) := by have := HKL.out; omega
                have hk0 : (0 : Int) ≤ (K : Int) := by omega
                have hsu := accB_succ u0 r hx mk
                obtain ⟨q, hq⟩ : ∃ q, accB u0 r o.uses mk j = q := ⟨_, rfl⟩
                rw [hq] at hsu ⊢
                have HSU := Lib.hid hsu
                have RR2 := Lib.hid rr
                clear hsu hq hcu hck hx rr
                cases q with
                | true =>
                  have htt : accB u0 r o.uses mk (j + 1) = true := by rw [HSU.out]; simp
                  have HTT := Lib.hid htt
                  clear htt
                  go_wp2_with fail
                  go_quiet (fail)
                  go_wp2_with fail
                  go_roundw
                  case rel => exact ⟨j + 1, by omega, by go_num, by rw [HTT.out], RR2.out.drewN _⟩
                  case measure => simp [intOf]; omega
                | false =>
                  cases r with
                  | false =>
                    have htt : accB u0 false o.uses mk (j + 1) = false := by rw [HSU.out]; simp
                    have HTT := Lib.hid htt
                    clear htt
                    go_wp2_with fail
                    go_quiet (fail)
                    go_wp2_with fail
                    go_roundw
                    case rel => exact ⟨j + 1, by omega, by go_num, by rw [HTT.out], RR2.out.drewN _⟩
                    case measure => simp [intOf]; omega
                  | true =>
                    by_cases hme : x.module = mk
                    · have htt : accB u0 true o.uses mk (j + 1) = true := by rw [HSU.out]; simp [hme]
                      have HTT := Lib.hid htt
                      have hs : (x.module.toList == mk.toList) = true := by rw [hme]; exact str_same _
                      clear htt hme
                      go_wp2_with fail
                      go_quiet (fail)
                      go_wp2_with fail
                      go_roundw
                      case rel => exact ⟨j + 1, by omega, by go_num, by rw [HTT.out], RR2.out.drewN _⟩
                      case measure => simp [intOf]; omega
                    · have htt : accB u0 true o.uses mk (j + 1) = false := by rw [HSU.out]; simp [hme]
                      have HTT := Lib.hid htt
                      have hs := str_other hme
                      clear htt hme
                      go_wp2_with fail
                      go_quiet (fail)
                      go_wp2_with fail
                      go_roundw
                      case rel => exact ⟨j + 1, by omega, by go_num, by rw [HTT.out], RR2.out.drewN _⟩
                      case measure => simp [intOf]; omega
              · have hjn : j = o.uses.length := by omega
                subst hjn
                have hua : accB u0 r o.uses mk o.uses.length = usedAt l img mk i := by rw [accB_len, usedAt_step HX.out img mk, HU0.out, HR.out]
                rw [hua]
                have RR2 := Lib.hid rr
                clear hua rr
                go_wp2_with fail
                go_roundw
                case rel =>
                  first
                  | exact ⟨i, by omega, by go_num, (HAC.out.trans RR.out).trans RR2.out, HP.out.wr0 (RR.out.trans RR2.out), rfl⟩
                  | exact ⟨i, by omega, rfl, (HAC.out.trans RR.out).trans RR2.out, HP.out.wr0 (RR.out.trans RR2.out), rfl⟩
                  | repeat apply Exists.intro
                    refine ⟨⟨i, by omega, rfl, (HAC.out.trans RR.out).trans RR2.out, HP.out.wr0 (RR.out.trans RR2.out), rfl⟩, ?_⟩
                    rfl
                case measure => first | (simp [intOf]; done) | (simp [intOf]; omega)
      · have hn00 : n = 0 := by omega
        subst hn00
        have e15 : ((0 : Nat) : Int) - 1 = -1 := by omega
        rw [e15]
        rw [backAt_zero] at hrow
        rw [Nat.sub_zero] at hrow
        rw [Nat.sub_zero]
        obtain ⟨u0, hu0⟩ : ∃ u, usedAt l img mk 0 = u := ⟨_, rfl⟩
        rw [hu0]
        have hlk2 := link_any l.reverse _ main wo hrow.sl (by rw [List.length_reverse]; have := HFEW.out.1; omega) (fun o ho => by have := HFEW.out.2 o (List.mem_reverse.1 ho); omega)
        rw [HOK.out.turned] at hlk2
        have HLK2 := Lib.hid hlk2
        have HROW := Lib.hid hrow
        have RACC := Lib.hid racc
        have HU0 := Lib.hid hu0
        clear hlk2 hrow racc hu0
        go_wp2_with fail
        refine HLK2.out.mono ?_
        rintro e w5 ⟨vn', vm', vo', rfl, r5, hn', hm', ho'⟩
        simp only at hn' hm' ho'
        simp only
        obtain ⟨gy, hgy⟩ : ∃ g, w5.heap.size = g := ⟨_, rfl⟩
        obtain ⟨Dn, dn, hvn, kn1, kn2⟩ := Sl.form hn'
        obtain ⟨Dm, dm, hvm, km1, km2⟩ := hm'.form
        obtain ⟨Do, d0, hvo, ko1, ko2⟩ := Sl.form ho'
        subst hvn hvm hvo
        unfold maxLen at kn2 km2 ko2
        obtain ⟨w6, hw6⟩ : ∃ w6, w5.alloc (.cells #[.slice Dn img.names.length dn, .slice Dm img.mods.length dm, .slice Do img.order.length d0] 31) = w6 := ⟨_, rfl⟩
        have r6 : Wr [] w5 w6 := by rw [← hw6]; exact (Wr.refl [] w5).alloc _
        have byy : Blk w6 gy 31 #[.slice Dn img.names.length dn, .slice Dm img.mods.length dm, .slice Do img.order.length d0] := by rw [← hw6, ← hgy]; exact Blk.new _ _ _
        have bxx := BX.out.wr0 ((RACC.out.trans r5).trans r6)
        have hsame := same_any img _ _ _ _ _ _ _ _ w6 (Sl.wr0 HN.out ((RACC.out.trans r5).trans r6)) (HM.out.wr0 ((RACC.out.trans r5).trans r6)) (Sl.wr0 HO.out ((RACC.out.trans r5).trans r6)) (Sl.wr0 hn' r6) (hm'.wr0 r6) (Sl.wr0 ho' r6)
        have x0 := bxx.cell 0
        have x1 := bxx.cell 1
        have x2 := bxx.cell 2
        have y0 := byy.cell 0
        have y1 := byy.cell 1
        have y2 := byy.cell 2
        simp only [List.getElem?_toArray, List.getElem?_cons_zero, List.getElem?_cons_succ] at x0 x1 x2 y0 y1 y2
        have HSAME := Lib.hid hsame
        have HGY := Lib.hid hgy
        have HW6 := Lib.hid hw6
        have R6 := Lib.hid (r5.trans r6)
        clear r5 hn' hm' ho' hgy hw6 r6 byy bxx hsame
        go_upto_region 24 with (fail)
        rw [HGY.out, HW6.out]
        go_wp2_with fail
        refine HSAME.out.mono ?_
        rintro e w7 ⟨rfl, r7⟩
        have R7 := Lib.hid r7
        clear r7 x0 x1 x2 y0 y1 y2
        go_upto_region 26 with (fail)
        have hkl := HKL.out
        have hrow7 := HROW.out.wr0 (R6.out.trans R7.out)
        obtain ⟨g, hBv⟩ : ∃ g, Bv = some ⟨g, 0, none⟩ := by
          obtain ⟨xs, h1, _⟩ := hrow7
          obtain ⟨g, cap, e, _⟩ := h1.form (by rw [List.length_reverse]; omega)
          injection e with e1
          exact ⟨g, e1⟩
        subst hBv
        obtain ⟨p, hp⟩ : ∃ p : Nat, l.length - 1 - K = p := ⟨_, rfl⟩
        have hpi : (l.length : Int) - 1 - (K : Int) = (p : Int) := by omega
        have hpl : (p : Int) < (l.length : Int) := by omega
        have hp0 : (0 : Int) ≤ (p : Int) := by omega
        have hat : l.reverse[p]? = some ok := by
          rw [List.getElem?_reverse (by omega), ← HOK2.out.1]
          congr 1
          omega
        obtain ⟨kx, hkx⟩ : ∃ kx : Int, bits .xor .u64 ok.key key = kx := ⟨_, rfl⟩
        have hlr : l.reverse.length = l.length := List.length_reverse
        rw [← hlr] at hrow7
        obtain ⟨vu, vp, vi, vn2, hc, hol, hgB, hfz, hW⟩ := RowO.rekey hrow7 hat kx
        obtain ⟨Bu, du, rfl, lu1, lu2⟩ := Sl.form hol.uses
        obtain ⟨Bp, dp, rfl, _, _⟩ := Sl.form hol.mod.procs
        obtain ⟨Bi, di, rfl, _, _⟩ := Sl.form hol.mod.imports
        obtain ⟨Bn, dn2, rfl, _, _⟩ := Sl.form hol.mod.init
        have x0 := hc 0 _ rfl
        have x1 := hc 1 _ rfl
        have x2 := hc 2 _ rfl
        have x3 := hc 3 _ rfl
        have x4 := hc 4 _ rfl
        have x5 := hc 5 _ rfl
        have x6 := hc 6 _ rfl
        have x7 := hc 7 _ rfl
        have x8 := hc 8 _ rfl
        simp only [Nat.add_zero] at x0
        obtain ⟨gz, hgz⟩ : ∃ gz, w7.heap.size = gz := ⟨_, rfl⟩
        obtain ⟨w8, hw8⟩ : ∃ w8, w7.alloc (.cells #[.string ok.module, .bool ok.main, .int .u64 ok.key, .slice Bu ok.uses.length du, .string ok.mod.code, .slice Bp ok.mod.procs.length dp, .slice Bi ok.mod.imports.length di, .int .i64 ok.mod.data, .slice Bn ok.mod.init.length dn2] 52) = w8 := ⟨_, rfl⟩
        have r8 : Wr [] w7 w8 := by rw [← hw8]; exact (Wr.refl [] w7).alloc _
        have bz : Blk w8 gz 52 #[.string ok.module, .bool ok.main, .int .u64 ok.key, .slice Bu ok.uses.length du, .string ok.mod.code, .slice Bp ok.mod.procs.length dp, .slice Bi ok.mod.imports.length di, .int .i64 ok.mod.data, .slice Bn ok.mod.init.length dn2] := by rw [← hw8, ← hgz]; exact Blk.new _ _ _
        have HC := Lib.hid hW
        have HCC := Lib.hid hc
        have HKX := Lib.hid hkx
        have HFZ := Lib.hid hfz
        have HGB := Lib.hid hgB
        have HGZ := Lib.hid hgz
        have HW8 := Lib.hid hw8
        have R8 := Lib.hid r8
        have BZ := Lib.hid bz
        have HP := Lib.hid (And.intro hp (And.intro hat hlr))
        clear hW hkx hfz hgB hgz hw8 r8 bz hp hat hlr hc hol hrow7 hkl
        go_upto_region 27 with (fail)
        rw [HGZ.out, HW8.out]
        have z2 := BZ.out.cell 2
        have fz2 := BZ.out.frozen 2
        simp only [List.getElem?_toArray, List.getElem?_cons_zero, List.getElem?_cons_succ] at z2
        clear x0 x1 x2 x3 x4 x5 x6 x7 x8
        go_upto_region 28 with (fail)
        rw [HKX.out]
        generalize hW9 : World.setCell w8 _ _ = w9
        have bz9 : Blk w9 gz 52 #[.string ok.module, .bool ok.main, .int .u64 kx, .slice Bu ok.uses.length du, .string ok.mod.code, .slice Bp ok.mod.procs.length dp, .slice Bi ok.mod.imports.length di, .int .i64 ok.mod.data, .slice Bn ok.mod.init.length dn2] := by
          rw [← hW9]
          have := BZ.out.set_ 2 (.int .u64 kx)
          simpa using this
        have r9 : Wr [] w7 w9 := by rw [← hW9]; exact R8.out.setNew (by rw [← HGZ.out]; exact Nat.le_refl _) _
        have hne : g ≠ gz := by
          obtain ⟨xs, h1, _⟩ := HROW.out.wr0 (R6.out.trans R7.out)
          have := own_lt h1 g rfl
          have := HGZ.out
          omega
        obtain ⟨hfz9, hW⟩ := HC.out w9 r9
        obtain ⟨w10, hw10⟩ : ∃ w10, ((((((((((w9.setCell ⟨g, p * 9, none⟩ (.string ok.module)).setCell ⟨g, p * 9 + 1, none⟩ (.bool ok.main)).setCell ⟨g, p * 9 + 2, none⟩ (.int .u64 kx)).setCell ⟨g, p * 9 + 3, none⟩ (.slice Bu ok.uses.length du)).setCell ⟨g, p * 9 + 4, none⟩ (.string ok.mod.code)).setCell ⟨g, p * 9 + 5, none⟩ (.slice Bp ok.mod.procs.length dp)).setCell ⟨g, p * 9 + 6, none⟩ (.slice Bi ok.mod.imports.length di)).setCell ⟨g, p * 9 + 7, none⟩ (.int .i64 ok.mod.data)).setCell ⟨g, p * 9 + 8, none⟩ (.slice Bn ok.mod.init.length dn2))) = w10 := ⟨_, rfl⟩
        obtain ⟨rW, hrowK⟩ := hW w10 hw10.symm
        have z0 := bz9.cell 0
        have z1 := bz9.cell 1
        have z2 := bz9.cell 2
        have z3 := bz9.cell 3
        have z4 := bz9.cell 4
        have z5 := bz9.cell 5
        have z6 := bz9.cell 6
        have z7 := bz9.cell 7
        have z8 := bz9.cell 8
        simp only [List.getElem?_toArray, List.getElem?_cons_zero, List.getElem?_cons_succ] at z0 z1 z2 z3 z4 z5 z6 z7 z8
        have x0 := r9.cellOf (HCC.out 0 _ rfl) (by simp)
        have x1 := r9.cellOf (HCC.out 1 _ rfl) (by simp)
        have x2 := r9.cellOf (HCC.out 2 _ rfl) (by simp)
        have x3 := r9.cellOf (HCC.out 3 _ rfl) (by simp)
        have x4 := r9.cellOf (HCC.out 4 _ rfl) (by simp)
        have x5 := r9.cellOf (HCC.out 5 _ rfl) (by simp)
        have x6 := r9.cellOf (HCC.out 6 _ rfl) (by simp)
        have x7 := r9.cellOf (HCC.out 7 _ rfl) (by simp)
        have x8 := r9.cellOf (HCC.out 8 _ rfl) (by simp)
        simp only [Nat.add_zero] at x0
        have HROWK := Lib.hid hrowK
        have RW_ := Lib.hid rW
        have HW10 := Lib.hid hw10
        have R9 := Lib.hid r9
        clear hW9 bz9 r9 hW hw10 rW hrowK fz2
        go_upto_region 29 with (fail)
        rw [HW10.out]
        clear x0 x1 x2 x3 x4 x5 x6 x7 x8 z0 z1 z2 z3 z4 z5 z6 z7 z8
        have hans := rekeyed_ans (u0 := u0) HOK.out HOK2.out.1 (key_xor (HKS.out ok (List.mem_of_getElem? HOK2.out.1)) hkey HKX.out) (by rw [HOK2.out.2]; exact HU0.out)
        have r10 : Wr [] w3 w10 := ((((RACC.out.trans R6.out).trans R7.out).trans R9.out)).new RW_.out HGB.out
        have hlk3 := link_any _ _ main w10 HROWK.out.sl (by rw [List.length_set, List.length_reverse]; have := HFEW.out.1; omega) (fun o ho => by
          rcases List.mem_or_eq_of_mem_set ho with ho | ho
          · have := HFEW.out.2 o (List.mem_reverse.1 ho); omega
          · have := HFEW.out.2 ok (List.mem_of_getElem? HOK2.out.1)
            rw [ho]
            show ok.uses.length ≤ _
            omega)
        rw [← rekey_reverse HP.out.1 HKL.out HOK2.out.1 kx, HP.out.2.2] at hlk3
        have R10 := Lib.hid r10
        clear r10
        by_cases hsame3 : key = 0 ∨ u0 = false
        · rw [hans.1 hsame3] at hlk3
          have HLK3 := Lib.hid hlk3
          clear hlk3 hans
          have hpick : Hid ((key = 0 ∧ (key != 0) = false) ∨ (u0 = false ∧ (key != 0) = true ∧ key ≠ 0)) := by
            refine Lib.hid ?_
            by_cases h0 : key = 0
            · exact .inl ⟨h0, by simp [h0]⟩
            · refine .inr ⟨?_, by simpa using h0, h0⟩
              rcases hsame3 with h | h
              · exact absurd h h0
              · exact h
          clear hsame3
          go_wp2_with fail
          refine HLK3.out.mono ?_
          rintro e w11 ⟨vn'', vm'', vo'', rfl, r11, hn'', hm'', ho''⟩
          simp only at hn'' hm'' ho''
          simp only
          obtain ⟨gw, hgw⟩ : ∃ g, w11.heap.size = g := ⟨_, rfl⟩
          obtain ⟨En, fn, hvn, jn1, jn2⟩ := Sl.form hn''
          obtain ⟨Em, fm, hvm, jm1, jm2⟩ := hm''.form
          obtain ⟨Eo, fo, hvo, jo1, jo2⟩ := Sl.form ho''
          subst hvn hvm hvo
          unfold maxLen at jn2 jm2 jo2
          obtain ⟨w12, hw12⟩ : ∃ w12, w11.alloc (.cells #[.slice En img.names.length fn, .slice Em img.mods.length fm, .slice Eo img.order.length fo] 31) = w12 := ⟨_, rfl⟩
          have r12 : Wr [] w11 w12 := by rw [← hw12]; exact (Wr.refl [] w11).alloc _
          have byy : Blk w12 gw 31 #[.slice En img.names.length fn, .slice Em img.mods.length fm, .slice Eo img.order.length fo] := by rw [← hw12, ← hgw]; exact Blk.new _ _ _
          have rr := (R10.out.trans r11).trans r12
          have bxx := BX.out.wr0 rr
          have hsame := same_any img _ _ _ _ _ _ _ _ w12 (Sl.wr0 HN.out rr) (HM.out.wr0 rr) (Sl.wr0 HO.out rr) (Sl.wr0 hn'' r12) (hm''.wr0 r12) (Sl.wr0 ho'' r12)
          have x0 := bxx.cell 0
          have x1 := bxx.cell 1
          have x2 := bxx.cell 2
          have y0 := byy.cell 0
          have y1 := byy.cell 1
          have y2 := byy.cell 2
          simp only [List.getElem?_toArray, List.getElem?_cons_zero, List.getElem?_cons_succ] at x0 x1 x2 y0 y1 y2
          have HSAME := Lib.hid hsame
          have HGW := Lib.hid hgw
          have HW12 := Lib.hid hw12
          have R12 := Lib.hid rr
          clear r11 hn'' hm'' ho'' hgw hw12 r12 byy bxx hsame rr
          go_upto_region 30 with (fail)
          rw [HGW.out, HW12.out]
          rcases hpick.out with ⟨k1, k2⟩ | ⟨k1, k2, k3⟩ <;> subst k1
          all_goals
            go_wp2_with fail
            refine HSAME.out.mono ?_
            rintro e w13 ⟨rfl, r13⟩
            have R13 := Lib.hid r13
            clear r13
            go_wp2_with fail
            refine (hal _).mono ?_
            rintro e w14 ⟨rfl, r14⟩
            go_wp2_with fail
            go_ret
            exact ⟨rfl, ((R3.out.trans R12.out).trans R13.out).trans r14⟩
        · obtain ⟨k0, k1⟩ := not_or.1 hsame3
          obtain ⟨m3, hm3⟩ := hans.2 k0 (by simpa using k1)
          rw [hm3] at hlk3
          have HLK3 := Lib.hid hlk3
          have k2 : (key != 0) = true := by simpa using k0
          obtain rfl : u0 = true := by simpa using k1
          clear hlk3 hans hm3 hsame3 k1
          go_wp2_with fail
          refine HLK3.out.mono ?_
          rintro e w11 ⟨vn'', vm'', vo'', rfl, r11, hn'', hm'', ho''⟩
          simp only [noImg] at hn'' hm'' ho''
          simp only
          obtain ⟨gw, hgw⟩ : ∃ g, w11.heap.size = g := ⟨_, rfl⟩
          obtain ⟨En, fn, hvn, jn1, jn2⟩ := Sl.form hn''
          obtain ⟨Em, fm, hvm, jm1, jm2⟩ := hm''.form
          obtain ⟨Eo, fo, hvo, jo1, jo2⟩ := Sl.form ho''
          subst hvn hvm hvo
          simp only [List.length_nil]
          obtain ⟨w12, hw12⟩ : ∃ w12, w11.alloc (.cells #[.slice En 0 fn, .slice Em 0 fm, .slice Eo 0 fo] 31) = w12 := ⟨_, rfl⟩
          have r12 : Wr [] w11 w12 := by rw [← hw12]; exact (Wr.refl [] w11).alloc _
          have byy : Blk w12 gw 31 #[.slice En 0 fn, .slice Em 0 fm, .slice Eo 0 fo] := by rw [← hw12, ← hgw]; exact Blk.new _ _ _
          have y0 := byy.cell 0
          simp only [List.getElem?_toArray, List.getElem?_cons_zero, List.getElem?_cons_succ] at y0
          have HGW := Lib.hid hgw
          have HW12 := Lib.hid hw12
          have R12 := Lib.hid ((R10.out.trans r11).trans r12)
          clear r11 hn'' hm'' ho'' hgw hw12 r12 byy jn1 jn2 jm1 jm2 jo1 jo2
          go_upto_region 30 with (fail)
          rw [HGW.out, HW12.out]
          go_wp2_with fail
          refine (hal _).mono ?_
          rintro e w14 ⟨rfl, r14⟩
          go_wp2_with fail
          go_ret
          exact ⟨rfl, (R3.out.trans R12.out).trans r14⟩
  · have hni : img = noImg := by
      have := linkP_bad (l := l) (main := main) (by rw [HA.out]; exact hen)
      rw [HA.out] at this
      exact this
    have hd : (en == 0) = false := by simpa using hen
    have hd2 : (en != 0) = true := by simpa using hen
    have R2 := Lib.hid (R1.out.trans r2)
    clear hen hn hm ho r2 hni
    go_wp2_with fail
    refine (hal _).mono ?_
    rintro e w4 ⟨rfl, r4⟩
    go_wp2_with fail
    go_ret
    exact ⟨rfl, (R2.out.alloc _).trans r4⟩
end Go.Proofs.Ytfeeeogkkajefaa
