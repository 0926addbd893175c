/- LinkTells, walked. No conditions but that the strings are no longer than memory. -/
import Derived.Test.YtfeeeogkkajefaaRfH
import Derived.Test.YtfeeeogkkajefaaLaS
import Derived.Test.YtfeeeogkkajefaaLaM
import Derived.Test.YtfeeeogkkajefaaLkO
namespace Go.Proofs.Ytfeeeogkkajefaa
open Go.RowKit
set_option linter.unusedVariables false
set_option linter.unusedSimpArgs false

def TellAt (w7 : World) (wr : World) : Prop := Wr [] w7 wr
set_option maxRecDepth 100000 in
set_option maxHeartbeats 16000000 in
theorem linktells_any (l : List ObjD) (v : Value) (main : ByteArray) (hmain : main.size ≤ maxLen) (w : World) (h : SlObjs w (fun _ => True) v l) :
    Calls Try.prog 3 #[v, .string main] w fun e w' => e = .returned (.bool true) ∧ Wr [] w w' := by
  have hal := fun w => alive_any w
  have HH := Lib.hid h
  obtain ⟨A, c, rfl, l1, l2⟩ := SlObjs.form h
  unfold maxLen at l2 hmain
  have hmany := many_any l _ _ w h
  have HMANY := Lib.hid hmany
  clear h hmany
  go_enter Try.func3, Try.ntmps3
  go_wp2_with fail
  refine HMANY.out.mono ?_
  rintro e w1 ⟨b, rfl, r1, hfew⟩
  have R1 := Lib.hid r1
  cases b with
  | true =>
    clear r1 hfew
    go_wp2_with fail
    refine (hal _).mono ?_
    rintro e w2 ⟨rfl, r2⟩
    go_wp2_with fail
    go_ret
    exact ⟨rfl, R1.out.trans r2⟩
  | false =>
  have HFEW := Lib.hid (hfew rfl)
  clear r1 hfew
  by_cases q1 : 300 < (main.size : Int)
  · go_wp2_with fail
    refine (hal _).mono ?_
    rintro e w2 ⟨rfl, r2⟩
    go_wp2_with fail
    go_ret
    exact ⟨rfl, R1.out.trans r2⟩
  have q1' : decide (300 < (main.size : Int)) = false := decide_eq_false (by omega)
  have hlk := link_any l _ main w1 (HH.out.wr0 R1.out) (by have := HFEW.out.1; omega) (fun o ho => by have := HFEW.out.2 o ho; omega)
  obtain ⟨a, ha⟩ : ∃ a, linkP l main = a := ⟨_, rfl⟩
  rw [ha] at hlk
  have HLK := Lib.hid hlk
  have HA := Lib.hid ha
  clear hlk ha
  go_wp2_with fail
  refine HLK.out.mono ?_
  rintro e w2 ⟨vn, vm, vo, rfl, r2, hn, hm, ho⟩
  obtain ⟨img, who, en⟩ := a
  simp only at hn hm ho
  simp only
  obtain ⟨gx, hgx⟩ : ∃ g, w2.heap.size = g := ⟨_, rfl⟩
  obtain ⟨An, cn, hvn, ln1, ln2⟩ := Sl.form hn
  obtain ⟨Am, cm, hvm, lm1, lm2⟩ := hm.form
  obtain ⟨Ao, co, hvo, lo1, lo2⟩ := Sl.form ho
  subst hvn hvm hvo
  unfold maxLen at ln2 lm2 lo2
  obtain ⟨w3, hw3⟩ : ∃ w3, w2.alloc (.cells #[.slice An img.names.length cn, .slice Am img.mods.length cm, .slice Ao img.order.length co] 31) = w3 := ⟨_, rfl⟩
  have r3 : Wr [] w2 w3 := by rw [← hw3]; exact (Wr.refl [] w2).alloc _
  have bx : Blk w3 gx 31 #[.slice An img.names.length cn, .slice Am img.mods.length cm, .slice Ao img.order.length co] := by rw [← hw3, ← hgx]; exact Blk.new _ _ _
  have R3 := Lib.hid ((R1.out.trans r2).trans r3)
  have HN := Lib.hid (Sl.wr0 hn r3)
  have HM := Lib.hid (hm.wr0 r3)
  have HO := Lib.hid (Sl.wr0 ho r3)
  have BX := Lib.hid bx
  have HGX := Lib.hid hgx
  have HW3 := Lib.hid hw3
  have hlk2 := rlink_any l _ main w3 (HH.out.wr0 R3.out) HFEW.out
  rw [HA.out] at hlk2
  have HLK2 := Lib.hid hlk2
  clear r2 hn hm ho hgx hw3 r3 bx hlk2
  go_upto_region 4 with (fail)
  rw [HGX.out, HW3.out]
  go_wp2_with fail
  refine HLK2.out.mono ?_
  rintro e w4 ⟨vn', vm', vo', rfl, r4, hn', hm', ho'⟩
  simp only at hn' hm' ho'
  simp only
  obtain ⟨gy, hgy⟩ : ∃ g, w4.heap.size = g := ⟨_, rfl⟩
  obtain ⟨Dn, dn, hvn, kn1, kn2⟩ := Sl.form hn'
  obtain ⟨Dm, dm, hvm, km1, km2⟩ := hm'.form
  obtain ⟨Do, d0, hvo, ko1, ko2⟩ := Sl.form ho'
  subst hvn hvm hvo
  unfold maxLen at kn2 km2 ko2
  obtain ⟨w5, hw5⟩ : ∃ w5, w4.alloc (.cells #[.slice Dn img.names.length dn, .slice Dm img.mods.length dm, .slice Do img.order.length d0] 31) = w5 := ⟨_, rfl⟩
  have r5 : Wr [] w4 w5 := by rw [← hw5]; exact (Wr.refl [] w4).alloc _
  have byy : Blk w5 gy 31 #[.slice Dn img.names.length dn, .slice Dm img.mods.length dm, .slice Do img.order.length d0] := by rw [← hw5, ← hgy]; exact Blk.new _ _ _
  have R5 := Lib.hid (r4.trans r5)
  have HN2 := Lib.hid (Sl.wr0 hn' r5)
  have HM2 := Lib.hid (hm'.wr0 r5)
  have HO2 := Lib.hid (Sl.wr0 ho' r5)
  have BY := Lib.hid byy
  have HGY := Lib.hid hgy
  have HW5 := Lib.hid hw5
  have hnd := lneeds_any l _ _ w5 (HH.out.wr0 (R3.out.trans R5.out)) (by have := HFEW.out.1; omega) (fun o ho => by have := HFEW.out.2 o ho; omega)
  have HND := Lib.hid hnd
  clear r4 hn' hm' ho' hgy hw5 r5 byy hnd
  go_upto_region 5 with (fail)
  rw [HGY.out, HW5.out]
  go_wp2_with fail
  refine HND.out.mono ?_
  rintro e w6 ⟨vq, rfl, r6, hq⟩
  have hnd2 := rneeds_any l _ _ w6 (HH.out.wr0 ((R3.out.trans R5.out).trans r6)) (by have := HFEW.out.1; omega) (fun o ho => by have := HFEW.out.2 o ho; omega)
  have HND2 := Lib.hid hnd2
  have R6 := Lib.hid r6
  have HQ := Lib.hid hq
  clear hnd2 r6 hq
  go_wp2_with fail
  refine HND2.out.mono ?_
  rintro e w7 ⟨vq2, rfl, r7, hq2⟩
  have hq1 := HQ.out.wr0 r7
  have R7 := Lib.hid (((R3.out.trans R5.out).trans R6.out).trans r7)
  have BX7 := Lib.hid (BX.out.wr0 ((R5.out.trans R6.out).trans r7))
  have BY7 := Lib.hid (BY.out.wr0 (R6.out.trans r7))
  have R57 := Lib.hid (R6.out.trans r7)
  obtain ⟨ns, hns⟩ : ∃ ns, l.map needOf = ns := ⟨_, rfl⟩
  rw [hns] at hq1 hq2
  obtain ⟨B1, c1, e1, m1, m2⟩ := hq1.form
  obtain ⟨B2, c2, e2, m3, m4⟩ := hq2.form
  subst e1 e2
  unfold maxLen at m2 m4
  have HQ1 := Lib.hid hq1
  have HQ2 := Lib.hid hq2
  clear hq1 hq2 r7 hns HQ
  go_wp2_with fail
  go_loopw [13] (fun s13 wr => ∃ i : Nat, i ≤ ns.length ∧ s13 = .int .i64 i ∧ TellAt w7 wr) (fun s13 _ => ns.length - (intOf s13).toNat)
  case atStart => exact ⟨0, by omega, rfl, Wr.refl [] _⟩
  case round =>
    obtain ⟨i, hi, rfl, rw_⟩ := hrel
    unfold TellAt at rw_
    obtain ⟨wo, rfl⟩ : ∃ wo : World, wo = wr := ⟨_, rfl⟩
    have RW := Lib.hid rw_
    clear rw_
    by_cases hlt : i < ns.length
    · obtain ⟨x, hx⟩ : ∃ x, ns[i]? = some x := ⟨_, List.getElem?_eq_getElem hlt⟩
      obtain ⟨b1, o1, cc1, vx1, f1, hc1, hs1⟩ := need_at (HQ1.out.wr0 RW.out) hx
      obtain ⟨b2, o2, cc2, vx2, f2, hc2, hs2⟩ := need_at (HQ2.out.wr0 RW.out) hx
      injection f1 with g1 _ g3
      injection f2 with g4 _ g6
      subst g1 g3 g4 g6
      obtain ⟨N1, d1, rfl, p1, p2⟩ := Sl.form hs1
      obtain ⟨N2, d2, rfl, p3, p4⟩ := Sl.form hs2
      unfold maxLen at p2 p4
      have x0 := hc1 0 _ rfl
      have x1 := hc1 1 _ rfl
      have y0 := hc2 0 _ rfl
      have y1 := hc2 1 _ rfl
      simp only [Nat.add_zero] at x0 y0
      have hii : (i : Int) < (ns.length : Int) := by omega
      have hi0 : (0 : Int) ≤ (i : Int) := by omega
      have HS1 := Lib.hid hs1
      have HS2 := Lib.hid hs2
      have X1 := Lib.hid x1
      have Y1 := Lib.hid y1
      clear hx hc1 hc2 hs1 hs2
      go_wp2_with fail
      go_quiet (fail)
      clear x0 y0
      go_wp2_with fail
      generalize hWD : World.drewN wo _ = wd
      have rd : Wr [] wo wd := by rw [← hWD]; exact (Wr.refl [] _).drewN _
      have RD := Lib.hid rd
      clear hWD rd x1 y1
      go_loopw [14] (fun s14 wr => ∃ j : Nat, j ≤ x.needs.length ∧ s14 = .int .i64 j ∧ TellAt wd wr) (fun s14 _ => x.needs.length - (intOf s14).toNat)
      case atStart => exact ⟨0, by omega, rfl, Wr.refl [] _⟩
      case round =>
        obtain ⟨j, hj, rfl, ri⟩ := hrel
        unfold TellAt at ri
        have RI := Lib.hid (RD.out.trans ri)
        have RI2 := Lib.hid ri
        clear ri
        have x1 := RI.out.cellOf X1.out (by simp)
        have y1 := RI.out.cellOf Y1.out (by simp)
        by_cases hlt2 : j < x.needs.length
        · obtain ⟨m, hm⟩ : ∃ m, x.needs[j]? = some m := ⟨_, List.getElem?_eq_getElem hlt2⟩
          obtain ⟨b3, o3, cc3, f3, _, _, _, k1⟩ := Sl.at_ (Sl.wr0 HS1.out RI.out) (j := j) (u := .string m) (by rw [List.getElem?_map, hm]; rfl)
          obtain ⟨b4, o4, cc4, f4, _, _, _, k2⟩ := Sl.at_ (Sl.wr0 HS2.out RI.out) (j := j) (u := .string m) (by rw [List.getElem?_map, hm]; rfl)
          injection f3 with g1 _ g3
          injection f4 with g4 _ g6
          subst g1 g3 g4 g6
          have hjj : (j : Int) < (x.needs.length : Int) := by omega
          have hj0 : (0 : Int) ≤ (j : Int) := by omega
          clear hm
          go_wp2_with fail
          go_quiet (fail)
          go_wp2_with fail
          go_roundw
          case rel =>
            first
            | exact ⟨j + 1, by omega, by go_num, RI2.out.drewN _⟩
            | (repeat apply Exists.intro
               refine ⟨⟨j + 1, by omega, by go_num, RI2.out.drewN _⟩, ?_⟩
               rfl)
          case measure => simp [intOf]; omega
        · obtain rfl : j = x.needs.length := by omega
          go_wp2_with fail
          go_roundw
          case rel =>
            first
            | exact ⟨i + 1, by omega, by go_num, RW.out.trans RI.out⟩
            | (repeat apply Exists.intro
               refine ⟨⟨i + 1, by omega, by go_num, RW.out.trans RI.out⟩, ?_⟩
               rfl)
          case measure => simp [intOf]; omega
    · obtain rfl : i = ns.length := by omega
      have bxx := BX7.out.wr0 RW.out
      have byy := BY7.out.wr0 RW.out
      have rr := (R57.out.trans RW.out)
      have hsame := same_any img _ _ _ _ _ _ _ _ wo (Sl.wr0 HN.out (R5.out.trans rr)) (HM.out.wr0 (R5.out.trans rr)) (Sl.wr0 HO.out (R5.out.trans rr)) (Sl.wr0 HN2.out rr) (HM2.out.wr0 rr) (Sl.wr0 HO2.out rr)
      have x0 := bxx.cell 0
      have x1 := bxx.cell 1
      have x2 := bxx.cell 2
      have y0 := byy.cell 0
      have y1 := byy.cell 1
      have y2 := byy.cell 2
      simp only [List.getElem?_toArray, List.getElem?_cons_zero, List.getElem?_cons_succ] at x0 x1 x2 y0 y1 y2
      have HSAME := Lib.hid hsame
      clear bxx byy rr hsame
      go_wp2_with fail
      refine HSAME.out.mono ?_
      rintro e w8 ⟨rfl, r8⟩
      have R8 := Lib.hid r8
      clear r8 x0 x1 x2 y0 y1 y2
      go_wp2_with fail
      refine (hal _).mono ?_
      rintro e w9 ⟨rfl, r9⟩
      go_wp2_with fail
      go_ret
      exact ⟨rfl, ((R7.out.trans RW.out).trans R8.out).trans r9⟩
theorem linktells_walk (w : World) (v : Value) (g : ∃ l, SlObjs w (fun _ => True) v l) (main : ByteArray) (hm : main.size ≤ maxLen) :
    Calls Try.prog 3 #[v, .string main] w fun e w' => e = .returned (.bool true) ∧ Wr [] w w' := by
  obtain ⟨l, hl⟩ := g
  exact linktells_any l v main hm w hl
end Go.Proofs.Ytfeeeogkkajefaa
