/- ref 22's Order: walked. Conditions: the lists are not too long. -/
import Derived.Test.YtfeeeogkkajefaaRfD
import Derived.Deep.LoopGhost
namespace Go.Proofs.Ytfeeeogkkajefaa
open Go.RowKit
set_option linter.unusedVariables false
set_option linter.unusedSimpArgs false

theorem info_step : (Try.prog.info? 91).map (fun i => (i.zero, i.size, i.bytes)) = some (some (.agg #[.int .i64 0, .int .i64 0]), 2, 16) := by kernel_rfl
theorem info_str : (Try.prog.info? 9).map (fun i => (i.zero, i.size, i.bytes)) = some (some (.string ⟨#[]⟩), 1, 16) := by kernel_rfl
def FirstAt (l : List NeedD) (w : World) (k : Nat) (wr : World) : Prop := w = wr ∧ FirstOk l k
/-- How far the order has come. -/
structure OrdAt (l : List NeedD) (R : Res) (L0 : Nat) (w1 : World) (gS : Nat) (n : Nat) (t : Tr) (ks : List (Nat × Nat)) (s8 s10 : Value) (wr : World) : Prop where
  res : R = fin (thr (allOf l) (l.length + 1)) (ks.map (frOf l)) t
  meas : left (allOf l) (l.map NeedD.module) (ks.map (frOf l)) t ≤ n
  room : t.ord.length + left (allOf l) (l.map NeedD.module) (ks.map (frOf l)) t ≤ L0
  acc : Wr [gS] w1 wr
  blk : Blk wr gS 3 (stC l t)
  ord : wr.ownsRow w1.heap.size 9 1 s8 t.ord.length (t.ord.map Value.string)
  way : wr.ownsRow w1.heap.size 91 2 s10 ks.length (wayC ks)
  ins : ∀ p ∈ ks, p.1 < l.length
  told : ∀ m, t.st m ≠ 0 → m ∈ l.map NeedD.module
  apart : ∀ b, b ∈ ownL s8 → b ∉ ownL s10
def OrdX (l : List NeedD) (R : Res) (L0 : Nat) (w1 : World) (gS : Nat) (n : Nat) (s8 s10 : Value) (wr : World) : Prop := ∃ t ks, OrdAt l R L0 w1 gS n t ks s8 s10 wr
set_option maxRecDepth 100000 in
set_option maxHeartbeats 16000000 in
theorem rorder_any (l : List NeedD) (v : Value) (first : ByteArray) (P : Nat → Prop) (w : World) (h : SlNeeds w P v l) (hlen : l.length ≤ 1000) (hB : ∀ x ∈ l, x.needs.length ≤ 1000) :
    Calls Try.prog 26 #[v, .string first] w (OrdP w (orderP l first)) := by
  obtain ⟨i1, hi1, hy0, hy1, hy2⟩ := info_parts info_int
  obtain ⟨A, c, rfl, l1, l2⟩ := SlNeeds.form h
  unfold maxLen at l2
  obtain ⟨a, ha⟩ : ∃ a, orderP l first = a := ⟨_, rfl⟩
  rw [ha]
  have hmk : ∀ w : World, (Instr.makeSlice 27 (.int .i64 (l.length : Int)) (.int .i64 (l.length : Int))).run Try.prog w = .ok (.slice (some ⟨w.heap.size, 0, none⟩) l.length l.length) (w.alloc (.cells (stC l ⟨fun _ => 0, []⟩) 3)) := by
    intro w
    have := run_make (P := Try.prog) w 27 3 i1 (.int .i64 0) Try.underlying27 hi1 hy0 .i64 .i64 (l.length : Int) (l.length : Int) (by omega) (Int.le_refl _) (by rw [hy2]; omega) (by omega)
    rw [hy1, Nat.mul_one, Int.toNat_natCast] at this
    rw [stC_zero]
    exact this
  have HA := Lib.hid ha
  have HH := Lib.hid h
  have HB := Lib.hid hB
  clear h ha hB
  go_enter Try.func26, Try.ntmps26
  go_wp2_with fail
  go_loopw [7] (fun s7 wr => ∃ k : Nat, k ≤ l.length ∧ s7 = .int .i64 k ∧ FirstAt l w k wr) (fun s7 _ => l.length - (intOf s7).toNat)
  case atStart => exact ⟨0, by omega, rfl, rfl, FirstOk.zero _⟩
  case round =>
    obtain ⟨k, hk, rfl, rfl, hok⟩ := hrel
    have HOK := Lib.hid hok
    clear hok
    by_cases hlt : k < l.length
    · obtain ⟨x, hx⟩ : ∃ x, l[k]? = some x := ⟨_, List.getElem?_eq_getElem hlt⟩
      obtain ⟨b, off, c', vn, e, hc, _⟩ := need_at HH.out hx
      injection e with e1 e2 e3
      subst e1
      subst e3
      have x0 := hc 0 _ rfl
      simp only [Nat.add_zero] at x0
      have hlti : (k : Int) < (l.length : Int) := by omega
      have hk0 : (0 : Int) ≤ (k : Int) := by omega
      have HX := Lib.hid hx
      obtain ⟨r, hr⟩ : ∃ r, idxP NeedD.module l x.module = r := ⟨_, rfl⟩
      have hat := at_any l _ x.module P w HH.out
      rw [hr] at hat
      have HAT := Lib.hid hat
      have HR := Lib.hid hr
      clear hc e2 hx hr hat
      go_wp2_with fail
      refine HAT.out.mono ?_
      rintro e w2 ⟨rfl, rfl⟩
      by_cases hrk : r = (k : Int)
      · subst hrk
        go_wp2_with fail
        go_roundw
        case rel => exact ⟨k + 1, by omega, by go_num, rfl, HOK.out.succ HX.out HR.out⟩
        case measure => simp [intOf]; omega
      · have hne : (r != (k : Int)) = true := by simpa using hrk
        have haa : a = ([], x.module, 6) := by
          rw [← HA.out]
          unfold orderP
          rw [HOK.out.twice HX.out (by rw [HR.out]; exact hrk)]
        subst haa
        clear hrk HA
        go_wp2_with fail
        go_quiet (fail)
        go_wp2_with fail
        go_ret3
        exact ⟨_, rfl, (Wr.refl [] _).drewN _, Sl.nil _ _ 1⟩
    · obtain rfl : k = l.length := by omega
      obtain ⟨hnd, htw⟩ := HOK.out.all
      have hres := orderP_res htw first
      rw [HA.out] at hres
      have HND := Lib.hid hnd
      have HRES := Lib.hid hres
      have hat := at_any l _ first P w HH.out
      rcases idx_cases hnd first with ⟨e1, e2, _⟩ | ⟨k0, x, e1, e2, e3, e4⟩
      · have haa : a = ([], first, 3) := by
          rw [HRES.out]
          unfold thr
          rw [e2]
          rfl
        subst haa
        rw [e1] at hat
        have HAT := Lib.hid hat
        clear hres hnd htw e1 e2 hat HA HRES
        go_wp2_with fail
        refine HAT.out.mono ?_
        rintro e w2 ⟨rfl, rfl⟩
        go_wp2_with fail
        go_ret3
        exact ⟨_, rfl, Wr.refl [] _, Sl.nil _ _ 1⟩
      · have hk0 := (List.getElem?_eq_some_iff.1 e2).1
        obtain ⟨gS, hgS⟩ : ∃ g, w.heap.size = g := ⟨_, rfl⟩
        obtain ⟨w1, hw1⟩ : ∃ q, w.alloc (.cells (stC l ⟨fun _ => 0, []⟩) 3) = q := ⟨_, rfl⟩
        obtain ⟨w2, hw2⟩ : ∃ q, w1.alloc (.cells #[.int .i64 (k0 : Int), .int .i64 0] 91) = q := ⟨_, rfl⟩
        obtain ⟨w3, hw3⟩ : ∃ q, w2.setCell ⟨gS, k0, none⟩ (.int .i64 1) = q := ⟨_, rfl⟩
        have s1 : w1.heap.size = gS + 1 := by rw [← hw1, World.size_alloc, hgS]
        have r1 : Wr [] w w1 := by rw [← hw1]; exact (Wr.refl [] _).alloc _
        have r2 : Wr [] w1 w2 := by rw [← hw2]; exact (Wr.refl [] _).alloc _
        have r3 : Wr [gS] w2 w3 := by rw [← hw3]; exact (Wr.refl _ _).setOn (by simp) _
        have b1 : Blk w1 gS 3 (stC l ⟨fun _ => 0, []⟩) := by rw [← hw1, ← hgS]; exact Blk.new _ _ _
        have bw : Blk w2 (gS + 1) 91 #[.int .i64 (k0 : Int), .int .i64 0] := by rw [← hw2, ← s1]; exact Blk.new _ _ _
        have b3 : Blk w3 gS 3 (stC l ((⟨fun _ => 0, []⟩ : Tr).set x.module 1)) := by
          rw [← hw3, ← stC_set hnd e2]
          exact (b1.wr0 r2).set_ k0 (.int .i64 1)
        have bw3 := bw.wr r3 (by simp)
        have hown : w3.ownsRow w1.heap.size 91 2 (.slice (some ⟨gS + 1, 0, none⟩) 1 1) 1 (wayC [(k0, 0)]) :=
          ⟨rfl, .inr ⟨gS + 1, 1, _, rfl, by omega, bw3, Nat.le_refl _, by unfold maxLen; omega, rfl, rfl⟩⟩
        have hst0 : (⟨fun _ => 0, []⟩ : Tr).st first = 0 := rfl
        have hcnt : cnt (l.map NeedD.module) ⟨fun _ => 0, []⟩ < l.length + 1 := by have := cnt_all (l.map NeedD.module) ⟨fun _ => 0, []⟩; rw [List.length_map] at this; omega
        have hR := fin_start (told_of l) hst0 e4 hcnt
        have hxn := HB.out x (List.mem_of_getElem? e2)
        have hlb := left_bound hnd HB.out [(x.module, x.needs)] ((⟨fun _ => 0, []⟩ : Tr).set x.module 1)
        simp only [List.map_cons, List.map_nil, List.sum_cons, List.sum_nil] at hlb
        obtain ⟨n0, hn0⟩ : ∃ n, left (allOf l) (l.map NeedD.module) [(x.module, x.needs)] ((⟨fun _ => 0, []⟩ : Tr).set x.module 1) = n := ⟨_, rfl⟩
        have hx0 : OrdX l (thr (allOf l) (l.length + 1) first ⟨fun _ => 0, []⟩) 2000000 w1 gS n0 (.slice none 0 0) (.slice (some ⟨gS + 1, 0, none⟩) 1 1) w3 := by
          have hfr : [(k0, 0)].map (frOf l) = [(x.module, x.needs)] := by
            show [frOf l (k0, 0)] = _
            rw [frOf_at e2, List.drop_zero]
          refine ⟨(⟨fun _ => 0, []⟩ : Tr).set x.module 1, [(k0, 0)], ?_, ?_, ?_, ?_, b3, World.ownsRow_nil _ _ _ _, hown, ?_, ?_, ?_⟩
          · rw [hfr, hR, ← e3]
          · rw [hfr, hn0]; exact Nat.le_refl _
          · rw [hfr]
            show 0 + _ ≤ _
            omega
          · exact (r2.nil).trans r3
          · intro p hp
            rw [List.mem_singleton] at hp
            rw [hp]
            exact hk0
          · intro m hm
            have hm' : (if m = x.module then 1 else 0) ≠ 0 := hm
            by_cases e : m = x.module
            · rw [e]; exact List.mem_map.2 ⟨x, List.mem_of_getElem? e2, rfl⟩
            · rw [if_neg e] at hm'; exact absurd rfl hm'
          · intro b hb
            cases hb
        have f3 := (b1.wr0 r2).frozen k0
        have c3 : w2.cell? ⟨gS, k0, none⟩ = some (.int .i64 0) := by
          rw [(b1.wr0 r2).cell]
          unfold stC
          rw [List.getElem?_toArray, List.getElem?_map, e2]
          rfl
        have hat1 := at_any l _ first P w1 (HH.out.wr0 r1)
        have hat2 := at_any l _ first P w2 (HH.out.wr0 (r1.trans r2))
        rw [e1] at hat hat1 hat2
        have HAT := Lib.hid hat
        have HAT1 := Lib.hid hat1
        have HAT2 := Lib.hid hat2
        have HGS := Lib.hid hgS
        have HW1 := Lib.hid hw1
        have HW2 := Lib.hid hw2
        have HW3 := Lib.hid hw3
        have HS1 := Lib.hid s1
        have HX0 := Lib.hid hx0
        have R1 := Lib.hid r1
        have hk0i : (0 : Int) ≤ (k0 : Int) := by omega
        have hk0l : (k0 : Int) < (l.length : Int) := by omega
        have hk0n : decide ((k0 : Int) < 0) = false := decide_eq_false (by omega)
        clear hres htw hgS hw1 hw2 hw3 s1 r1 r2 r3 b1 bw b3 bw3 hown hst0 hcnt hR hxn hlb hn0 hx0 e1 e4 hat hat1 hat2 hnd e2 e3
        go_wp2_with fail
        refine HAT.out.mono ?_
        rintro e w2' ⟨rfl, rfl⟩
        go_upto_region 10 with (fail)
        rw [HGS.out, HW1.out]
        go_wp2_with fail
        refine HAT1.out.mono ?_
        rintro e w2' ⟨rfl, rfl⟩
        go_upto_region 11 with (fail)
        rw [HS1.out, HW2.out]
        go_wp2_with fail
        refine HAT2.out.mono ?_
        rintro e w2' ⟨rfl, rfl⟩
        go_upto_region 12 with (fail)
        rw [HW3.out]
        clear f3 c3 hmk hk0n
        go_loopg [8, 10] n0 (fun n s8 s10 wr => OrdX l (thr (allOf l) (l.length + 1) first ⟨fun _ => 0, []⟩) 2000000 w1 gS n s8 s10 wr)
        case atStart => exact HX0.out
        case round =>
          obtain ⟨t, ks, hI⟩ := hrel
          obtain ⟨A8, c8, e8⟩ := own_shape hI.ord
          obtain ⟨A10, c10, e10⟩ := own_shape hI.way
          subst e8 e10
          have HI := Lib.hid hI
          clear hI
          cases ks with
          | nil =>
            have hfin : a = (t.ord, ⟨#[]⟩, 0) := by
              rw [HRES.out, HI.out.res]
              rfl
            subst hfin
            have hpost : Wr [] w wr ∧ SlStr wr (fun b => w.heap.size ≤ b) (.slice A8 t.ord.length c8) t.ord := by
              refine ⟨R1.out.new HI.out.acc (by rw [HGS.out]; exact Nat.le_refl _), Sl.ofOwn HI.out.ord (fun b hb => ?_)⟩
              have := (HI.out.ord.lt b hb).1
              have := R1.out.size
              omega
            have HPOST := Lib.hid hpost
            clear hpost HA HRES
            simp only [List.length_nil]
            go_wp2_with fail
            go_ret3
            exact ⟨_, rfl, HPOST.out.1, HPOST.out.2⟩
          | cons p ks =>
            obtain ⟨k, nx⟩ := p
            have hkl : k < l.length := HI.out.ins (k, nx) (by simp)
            obtain ⟨y, hy⟩ : ∃ y, l[k]? = some y := ⟨_, List.getElem?_eq_getElem hkl⟩
            have hfr : frOf l (k, nx) = (y.module, y.needs.drop nx) := frOf_at hy
            obtain ⟨q, hq⟩ : ∃ q, ks.length = q := ⟨_, rfl⟩
            obtain ⟨n10, hn10⟩ : ∃ n, ((k, nx) :: ks).length = n := ⟨_, rfl⟩
            have hnq : n10 = q + 1 := by rw [← hn10, ← hq]; rfl
            have hway := HI.out.way
            rw [hn10] at hway ⊢
            obtain ⟨g10, cap, e, hgb, hglt⟩ := hway.form (by omega)
            injection e with f1 _ f3
            subst f1
            have hc10 : q + 1 ≤ c10 := by
              rcases hway.2 with ⟨e1, _⟩ | ⟨_, _, _, e1, _, _, h4, _⟩
              · cases e1
              · injection e1 with _ _ e1
                omega
            have hc10m : c10 ≤ maxLen := by
              rcases hway.2 with ⟨e1, _⟩ | ⟨_, _, _, e1, _, _, _, h5, _⟩
              · cases e1
              · injection e1 with _ _ e1
                omega
            unfold maxLen at hc10m
            obtain ⟨ax0, ax1⟩ := wayC_at (k, nx) ks
            rw [hq] at ax0 ax1
            have z0 : wr.cell? ⟨g10, q * 2, none⟩ = some (.int .i64 (k : Int)) := by rw [hway.cellAt _ (by omega)]; exact ax0
            have z1 : wr.cell? ⟨g10, q * 2 + 1, none⟩ = some (.int .i64 (nx : Int)) := by rw [hway.cellAt _ (by omega)]; exact ax1
            have hs1 := HS1.out
            have hbase := HI.out.acc.size
            have hgS10 : gS ≠ g10 := by omega
            -- the box
            obtain ⟨zb, hzb⟩ : ∃ z, wr.heap.size = z := ⟨_, rfl⟩
            obtain ⟨w4, hw4⟩ : ∃ q, wr.alloc (.cells #[.int .i64 (k : Int), .int .i64 (nx : Int)] 91) = q := ⟨_, rfl⟩
            have r4 : Wr [] wr w4 := by rw [← hw4]; exact (Wr.refl [] _).alloc _
            have b4 : Blk w4 zb 91 #[.int .i64 (k : Int), .int .i64 (nx : Int)] := by rw [← hw4, ← hzb]; exact Blk.new _ _ _
            have s4 : w4.heap.size = zb + 1 := by rw [← hw4, World.size_alloc, hzb]
            have hpos : (0 : Int) < (n10 : Int) := by omega
            have hidx : (n10 : Int) - 1 = (q : Int) := by omega
            have hq0 : (0 : Int) ≤ (q : Int) := by omega
            have hqn : (q : Int) < (n10 : Int) := by omega
            have hk0 : (0 : Int) ≤ (k : Int) := by omega
            have hkn : (k : Int) < (l.length : Int) := by omega
            have hn10n : 0 < n10 := by omega
            have hql : (q : Int) ≤ 2000000 := by
              have h1 := left_len (allOf l) (l.map NeedD.module) (((k, nx) :: ks).map (frOf l)) t
              have h2 := HI.out.room
              rw [List.length_map, List.length_cons] at h1
              omega
            have rw4 : Wr [] w w4 := R1.out.new (HI.out.acc.trans0 r4) (by rw [HGS.out]; exact Nat.le_refl _)
            obtain ⟨bn, on, c', vn, e, hcn, hsn⟩ := need_at HH.out hy
            injection e with e1 _ e3
            subst e1 e3
            obtain ⟨An, cn, e, ln1, ln2⟩ := Sl.form hsn
            subst e
            unfold maxLen at ln2
            have y0 := rw4.cellOf (hcn 0 _ rfl) (by simp)
            have y1 := rw4.cellOf (hcn 1 _ rfl) (by simp)
            simp only [Nat.add_zero] at y0
            have HCN := Lib.hid hcn
            have RW4 := Lib.hid rw4
            have d0 := b4.cell 0
            have d1 := b4.cell 1
            simp only [List.getElem?_toArray, List.getElem?_cons_zero, List.getElem?_cons_succ] at d0 d1
            have hyl := HB.out y (List.mem_of_getElem? hy)
            have HY := Lib.hid hy
            have HFR := Lib.hid hfr
            have HQ := Lib.hid hq
            have HNQ := Lib.hid hnq
            have HN10 := Lib.hid hn10
            have HWAY := Lib.hid hway
            have HGB := Lib.hid hgb
            have HGLT := Lib.hid hglt
            have HGS10 := Lib.hid hgS10
            have HZB := Lib.hid hzb
            have HW4 := Lib.hid hw4
            have R4 := Lib.hid r4
            have B4 := Lib.hid b4
            have S4 := Lib.hid s4
            have HSN := Lib.hid hsn
            have HC10 := Lib.hid (And.intro hc10 hc10m)
            clear hy hfr hq hn10 hnq hway hgb hglt f3 ax0 ax1 hs1 hbase hgS10 hzb hw4 r4 b4 s4 hcn hsn hc10 hc10m rw4
            go_upto_region 14 with (fail)
            rw [HZB.out, HW4.out]
            clear z0 z1
            by_cases hend : y.needs.length ≤ nx
            · have hge : (y.needs.length : Int) ≤ (nx : Int) := by omega
              have hgen : decide (y.needs.length ≤ nx) = true := decide_eq_true hend
              go_quiet (fail)
              generalize hWD : World.drewN w4 _ = w5
              have r5 : Wr [] wr w5 := by rw [← hWD]; exact R4.out.drewN _
              have rw5 : Wr [] w w5 := by rw [← hWD]; exact RW4.out.drewN _
              have s5 : w5.heap.size = zb + 1 := by rw [← hWD]; exact S4.out
              have b5 : Blk w5 zb 91 #[.int .i64 (k : Int), .int .i64 (nx : Int)] := by rw [← hWD]; exact B4.out.drewN _
              have bs5 := HI.out.blk.wr0 r5
              have hbase := HI.out.acc.size
              have hs1 := HS1.out
              have hzb := HZB.out
              have hgb := HGB.out
              have hglt := HGLT.out
              have hgS := HGS.out
              have c9 : w5.cell? ⟨gS, k, none⟩ = some (.int .i64 (t.st y.module : Int)) := by
                rw [bs5.cell]
                unfold stC
                rw [List.getElem?_toArray, List.getElem?_map, HY.out]
                rfl
              have f9 := bs5.frozen k
              obtain ⟨w6, hw6⟩ : ∃ q, w5.setCell ⟨gS, k, none⟩ (.int .i64 2) = q := ⟨_, rfl⟩
              have r6 : Wr [gS] w5 w6 := by rw [← hw6]; exact (Wr.refl _ _).setOn (by simp) _
              have bs6 : Blk w6 gS 3 (stC l (t.done y.module)) := by
                rw [← hw6]
                have := bs5.set_ k (.int .i64 2)
                rw [show (Value.int .i64 2) = Value.int .i64 ((2 : Nat) : Int) from rfl, stC_set HND.out HY.out] at this
                exact this
              have b6 := b5.wr r6 (by simp; omega)
              have rw6 : Wr [] w w6 := rw5.new r6 (by omega)
              have keepS : ∀ {v : Value} {n sz : Nat} {e : TypeId} {xs : List Value}, w5.ownsRow w1.heap.size e sz v n xs → w6.ownsRow w1.heap.size e sz v n xs := fun h => own_keep h r6 (fun b hb => by have := (h.lt b hb).1; simp; omega)
              have hord6 := keepS (own_keep HI.out.ord r5 (fun _ _ => by simp))
              have hway6 := keepS (own_keep HWAY.out r5 (fun _ _ => by simp))
              obtain ⟨z7, hz7⟩ : ∃ z, w6.heap.size = z := ⟨_, rfl⟩
              obtain ⟨w7, hw7⟩ : ∃ q, w6.alloc (.cells #[.string y.module] 9) = q := ⟨_, rfl⟩
              have r7 : Wr [] w6 w7 := by rw [← hw7]; exact (Wr.refl [] _).alloc _
              have b7 : Blk w7 z7 9 #[.string y.module] := by rw [← hw7, ← hz7]; exact Blk.new _ _ _
              have hroom := HI.out.room
              have hsz6 := r6.size
              have hsz7 := r7.size
              obtain ⟨i2, hi2, hz0, hz1, hz2⟩ := info_parts info_str
              obtain ⟨v8, w8, hrun, hown8, hgrow, _, hbk⟩ := run_append_own_at (P := Try.prog) w7 w1.heap.size 25 25 9 i2 _ 1 16 Try.underlying25 hi2 hz0 hz1 hz2 rfl (by decide) _ _ _ (own_keep hord6 r7 (fun _ _ => by simp)) ⟨z7, 0, none⟩ 1 1 [.string y.module] rfl (fun j u hj => by
                rw [Addr.add_lit, Nat.zero_add, b7.cell]
                simpa using hj) (by simp [Value.oneCell']) (by unfold maxLen; omega) (by omega) (by omega)
              have hwg := Wr.ofGrownOwn hgrow
              have hfs : ((k, nx) :: ks).map (frOf l) = (y.module, []) :: ks.map (frOf l) := by
                rw [List.map_cons, HFR.out, List.drop_eq_nil_of_le hend]
              have hpop := left_pop (allOf l) (l.map NeedD.module) y.module (ks.map (frOf l)) t
              have hmeas := HI.out.meas
              rw [hfs] at hmeas hroom
              have hgS8 : gS ∉ ownL (.slice A8 t.ord.length c8) := fun hm => by have := (HI.out.ord.lt gS (mem_ownL.1 hm)).1; omega
              have hway8 : w8.ownsRow w1.heap.size 91 2 (.slice (some ⟨g10, 0, none⟩) n10 c10) n10 (wayC ((k, nx) :: ks)) := own_keep (own_keep hway6 r7 (fun _ _ => by simp)) hwg (fun b hb hm => HI.out.apart b hm (mem_ownL.2 hb))
              have hway9 := own_less (m := q) hway8 (by omega) (by omega)
              have hqq := HQ.out
              rw [← hqq, wayC_take, hqq] at hway9
              have hg10z : g10 < w6.heap.size := by omega
              have hnew : OrdX l (thr (allOf l) (l.length + 1) first ⟨fun _ => 0, []⟩) 2000000 w1 gS (left (allOf l) (l.map NeedD.module) (ks.map (frOf l)) (t.done y.module)) v8 (.slice (some ⟨g10, 0, none⟩) q c10) w8 := by
                refine ⟨t.done y.module, ks, ?_, Nat.le_refl _, ?_, ?_, (bs6.wr0 r7).wr hwg hgS8, ?_, ?_, fun p hp => HI.out.ins p (by simp [hp]), ?_, ?_⟩
                · rw [HI.out.res, hfs, fin_pop]
                · show (t.ord ++ [y.module]).length + _ ≤ _
                  rw [List.length_append, List.length_singleton]
                  omega
                · exact (((HI.out.acc.trans0 r5).trans r6).trans0 r7).trans' hwg (fun x hx => .inr (HI.out.ord.lt x (mem_ownL.1 hx)).1)
                · show w8.ownsRow _ _ _ _ (t.ord ++ [y.module]).length ((t.ord ++ [y.module]).map Value.string)
                  rw [List.length_append, List.map_append]
                  exact hown8
                · rw [hqq]; exact hway9
                · intro m hm
                  have hm' : (if m = y.module then 2 else t.st m) ≠ 0 := hm
                  by_cases e : m = y.module
                  · rw [e]; exact List.mem_map.2 ⟨y, List.mem_of_getElem? HY.out, rfl⟩
                  · rw [if_neg e] at hm'; exact HI.out.told m hm'
                · intro b hb hm
                  have hb' := mem_ownL.1 hb
                  have hm' : b = g10 := by have := mem_ownL.1 hm; injection this with this; exact this.symm
                  rcases hbk with h | h
                  · rw [h] at hb'
                    exact HI.out.apart b (mem_ownL.2 hb') (mem_ownL.2 (by rw [hm']; rfl))
                  · rw [h] at hb'
                    injection hb' with hb'
                    omega
              have hlt9 : left (allOf l) (l.map NeedD.module) (ks.map (frOf l)) (t.done y.module) < gk := by omega
              have HNEW := Lib.hid hnew
              have HLT9 := Lib.hid hlt9
              have HW6 := Lib.hid hw6
              have HW7 := Lib.hid hw7
              have HZ7 := Lib.hid hz7
              have HRUN := Lib.hid hrun
              have B6 := Lib.hid b6
              have RW6 := Lib.hid rw6
              clear d0 d1 y0 y1
              have d0 := b5.cell 0
              have d1 := b5.cell 1
              simp only [List.getElem?_toArray, List.getElem?_cons_zero, List.getElem?_cons_succ] at d0 d1
              clear hWD r5 rw5 s5 b5 bs5 hbase hs1 hzb hgb hglt hgS hw6 r6 bs6 b6 rw6 keepS hord6 hway6 hz7 hw7 r7 b7 hroom hsz6 hsz7 hi2 hz0 hz1 hz2 hrun hown8 hgrow hbk hwg hfs hpop hmeas hgS8 hway8 hway9 hqq hg10z hnew hlt9
              go_upto_region 16 with (fail)
              rw [HW6.out]
              clear d0 d1 c9 f9
              have d0 := B6.out.cell 0
              have y0 := RW6.out.cellOf (HCN.out 0 _ rfl) (by simp)
              simp only [Nat.add_zero] at y0
              simp only [List.getElem?_toArray, List.getElem?_cons_zero, List.getElem?_cons_succ] at d0
              go_upto_region 17 with (at_builtin; rw [HZ7.out, HW7.out]; refine wpList_append_run rfl _ _ _ rfl _ _ rfl rfl _ _ HRUN.out ?_)
              obtain ⟨hcc, hcm⟩ := HC10.out
              have hqc : (q : Int) ≤ (c10 : Int) := by omega
              go_wp2_with fail
              go_roundg (left (allOf l) (l.map NeedD.module) (ks.map (frOf l)) (t.done y.module))
              case measure => exact HLT9.out
              case rel => exact HNEW.out
            · have hlt3 : (nx : Int) < (y.needs.length : Int) := by omega
              have hltn : decide (y.needs.length ≤ nx) = false := decide_eq_false hend
              obtain ⟨m, hm⟩ : ∃ m, y.needs[nx]? = some m := ⟨_, List.getElem?_eq_getElem (by omega)⟩
              have hdrop : y.needs.drop nx = m :: y.needs.drop (nx + 1) := by
                have hlt := (List.getElem?_eq_some_iff.1 hm).1
                rw [List.drop_eq_getElem_cons hlt, (List.getElem?_eq_some_iff.1 hm).2]
              have hfs : ((k, nx) :: ks).map (frOf l) = (y.module, m :: y.needs.drop (nx + 1)) :: ks.map (frOf l) := by
                rw [List.map_cons, HFR.out, hdrop]
              have hfs2 : ((k, nx + 1) :: ks).map (frOf l) = (y.module, y.needs.drop (nx + 1)) :: ks.map (frOf l) := by
                rw [List.map_cons, frOf_at HY.out]
              obtain ⟨bm, om, cm', e, _, _, _, hcm⟩ := Sl.at_ HSN.out (j := nx) (u := .string m) (by rw [List.getElem?_map, hm]; rfl)
              injection e with e1 _ e3
              subst e1 e3
              go_quiet (fail)
              generalize hWD : World.drewN w4 _ = w5
              have r5 : Wr [] wr w5 := by rw [← hWD]; exact R4.out.drewN _
              have rw5 : Wr [] w w5 := by rw [← hWD]; exact RW4.out.drewN _
              have s5 : w5.heap.size = zb + 1 := by rw [← hWD]; exact S4.out
              have b5 : Blk w5 zb 91 #[.int .i64 (k : Int), .int .i64 (nx : Int)] := by rw [← hWD]; exact B4.out.drewN _
              have R5 := Lib.hid r5
              have RW5 := Lib.hid rw5
              have S5 := Lib.hid s5
              have B5 := Lib.hid b5
              have HFS := Lib.hid hfs
              have HFS2 := Lib.hid hfs2
              have HM := Lib.hid hm
              clear d0 d1 y0 y1
              have d0 := b5.cell 0
              have d1 := b5.cell 1
              simp only [List.getElem?_toArray, List.getElem?_cons_zero, List.getElem?_cons_succ] at d0 d1
              have y1 := rw5.cellOf (HCN.out 1 _ rfl) (by simp)
              have m0 := rw5.cellOf hcm (by simp)
              have hnx0 : (0 : Int) ≤ (nx : Int) := by omega
              clear hWD r5 rw5 s5 b5 hdrop hfs hfs2 hm hcm
              go_wp2_with fail
              go_quiet (fail)
              generalize hWD : World.drewN w5 _ = w6
              have r6 : Wr [] wr w6 := by rw [← hWD]; exact R5.out.drewN _
              have rw6 : Wr [] w w6 := by rw [← hWD]; exact RW5.out.drewN _
              have s6 : w6.heap.size = zb + 1 := by rw [← hWD]; exact S5.out
              have b6 : Blk w6 zb 91 #[.int .i64 (k : Int), .int .i64 (nx : Int)] := by rw [← hWD]; exact B5.out.drewN _
              have hbase := HI.out.acc.size
              have hs1 := HS1.out
              have hzb := HZB.out
              have hgb := HGB.out
              have hglt := HGLT.out
              have hgS := HGS.out
              have hwsz := R1.out.size
              obtain ⟨w7, hw7⟩ : ∃ q7, (w6.setCell ⟨g10, q * 2, none⟩ (.int .i64 (k : Int))).setCell ⟨g10, q * 2 + 1, none⟩ (.int .i64 ((nx : Int) + 1)) = q7 := ⟨_, rfl⟩
              have r7 : Wr [g10] w6 w7 := by rw [← hw7]; exact ((Wr.refl _ _).setOn (by simp) _).setOn (by simp) _
              have way6 : w6.ownsRow w1.heap.size 91 2 (.slice (some ⟨g10, 0, none⟩) n10 c10) n10 (wayC ((k, nx) :: ks)) := own_keep HWAY.out r6 (fun _ _ => by simp)
              have f10 := way6.frozenAt (q * 2)
              have f11 := way6.frozenAt (q * 2 + 1)
              obtain ⟨ax0, ax1⟩ := wayC_at (k, nx) ks
              have hqq := HQ.out
              have hnq := HNQ.out
              rw [hqq] at ax0 ax1
              have z0 : w6.cell? ⟨g10, q * 2, none⟩ = some (.int .i64 (k : Int)) := by rw [way6.cellAt _ (by omega)]; exact ax0
              have z1 : w6.cell? ⟨g10, q * 2 + 1, none⟩ = some (.int .i64 (nx : Int)) := by rw [way6.cellAt _ (by omega)]; exact ax1
              have way7 : w7.ownsRow w1.heap.size 91 2 (.slice (some ⟨g10, 0, none⟩) n10 c10) n10 (wayC ((k, nx + 1) :: ks)) := by
                have h1 := ((way6.stored (q * 2) (.int .i64 (k : Int))).1.stored (q * 2 + 1) (.int .i64 ((nx : Int) + 1))).1
                rw [hw7] at h1
                have h2 := wayC_set (k, nx) (k, nx + 1) ks
                rw [hqq] at h2
                have h3 : (((k, nx + 1) : Nat × Nat).2 : Int) = (nx : Int) + 1 := by simp
                rw [h3] at h2
                rw [← h2]
                exact h1
              have hg8 : ∀ b, (Value.slice A8 t.ord.length c8).ownBlock = some b → b ∉ [g10] := fun b hb hm => by
                rw [List.mem_singleton] at hm
                exact HI.out.apart b (mem_ownL.2 hb) (mem_ownL.2 (by rw [hm]; rfl))
              have ord7 := own_keep (own_keep HI.out.ord r6 (fun _ _ => by simp)) r7 hg8
              have bs7 := (HI.out.blk.wr0 r6).wr r7 (by simp; omega)
              have acc7 : Wr [gS] w1 w7 := (HI.out.acc.trans0 r6).trans' r7 (fun x hx => .inr (by rw [List.mem_singleton] at hx; omega))
              have rw7 : Wr [] w w7 := rw6.new r7 (by omega)
              have sz7 := r7.size
              have hat := at_any l _ m P w7 (HH.out.wr0 rw7)
              have hic := idx_cases HND.out m
              have hgg : g10 < w7.heap.size := by omega
              have HGG := Lib.hid hgg
              have WAY7 := Lib.hid way7
              have ORD7 := Lib.hid ord7
              have BS7 := Lib.hid bs7
              have ACC7 := Lib.hid acc7
              have RW7 := Lib.hid rw7
              have HW7 := Lib.hid hw7
              have HAT := Lib.hid hat
              have HIC := Lib.hid hic
              have hnx1 : (nx : Int) ≤ 1000 := by omega
              clear d0 d1 m0 y1
              have d0 := b6.cell 0
              have d1 := b6.cell 1
              simp only [List.getElem?_toArray, List.getElem?_cons_zero, List.getElem?_cons_succ] at d0 d1
              clear hWD r6 rw6 s6 b6 hbase hs1 hzb hgb hglt hgS hwsz hw7 r7 way6 ax0 ax1 hqq hnq way7 hg8 ord7 bs7 acc7 rw7 sz7 hat hic hgg
              go_upto_region 20 with (fail)
              rw [HW7.out]
              clear d0 d1 z0 z1 f10 f11
              go_wp2_with fail
              refine HAT.out.mono ?_
              rintro e w7' ⟨rfl, rfl⟩
              rcases HIC.out with ⟨i1, i2, i3⟩ | ⟨k2, x2, i1, i2, i3, i4⟩
              · rw [i1]
                have haa : a = ([], m, 3) := by
                  have h0 : t.st m = 0 := by
                    apply Classical.byContradiction
                    intro h
                    exact i3 (HI.out.told m h)
                  rw [HRES.out, HI.out.res, HFS.out, fin_gone h0 i2]
                  rfl
                subst haa
                clear i1 i2 i3 HA HRES
                go_wp2_with fail
                go_ret3
                exact ⟨_, rfl, RW7.out, Sl.nil _ _ 1⟩
              · rw [i1]
                have hk2 := (List.getElem?_eq_some_iff.1 i2).1
                have hk20 : (0 : Int) ≤ (k2 : Int) := by omega
                have hk2l : (k2 : Int) < (l.length : Int) := by omega
                have hk2n : decide ((k2 : Int) < 0) = false := decide_eq_false (by omega)
                obtain ⟨sm, hsm⟩ : ∃ sm, t.st m = sm := ⟨_, rfl⟩
                have c9 : w7.cell? ⟨gS, k2, none⟩ = some (.int .i64 (sm : Int)) := by
                  rw [BS7.out.cell]
                  unfold stC
                  rw [List.getElem?_toArray, List.getElem?_map, i2, ← hsm, ← i3]
                  rfl
                have f9 := BS7.out.frozen k2
                have I2 := Lib.hid i2
                have I3 := Lib.hid i3
                have I4 := Lib.hid i4
                have HSM := Lib.hid hsm
                clear i1 i2 i3 i4 hsm
                by_cases hs1 : sm = 1
                · subst hs1
                  have haa : a = ([], m, 220) := by
                    rw [HRES.out, HI.out.res, HFS.out, fin_cycle HSM.out]
                    rfl
                  subst haa
                  clear HA HRES
                  go_wp2_with fail
                  go_ret3
                  exact ⟨_, rfl, RW7.out, Sl.nil _ _ 1⟩
                · by_cases hs0 : sm = 0
                  · subst hs0
                    clear hs1
                    have c9' : w7.cell? ⟨gS, k2, none⟩ = some (.int .i64 0) := c9
                    clear c9
                    have hgb := HGB.out
                    have hgg := HGG.out
                    have hs1 := HS1.out
                    have hgS := HGS.out
                    have hbase := ACC7.out.size
                    obtain ⟨w8, hw8⟩ : ∃ q, w7.setCell ⟨gS, k2, none⟩ (.int .i64 1) = q := ⟨_, rfl⟩
                    have r8 : Wr [gS] w7 w8 := by rw [← hw8]; exact (Wr.refl _ _).setOn (by simp) _
                    have bs8 : Blk w8 gS 3 (stC l (t.set m 1)) := by
                      rw [← hw8]
                      have := BS7.out.set_ k2 (.int .i64 1)
                      rw [show (Value.int .i64 1) = Value.int .i64 ((1 : Nat) : Int) from rfl, stC_set HND.out I2.out, I3.out] at this
                      exact this
                    have keepS : ∀ {v : Value} {n sz : Nat} {e : TypeId} {xs : List Value}, w7.ownsRow w1.heap.size e sz v n xs → w8.ownsRow w1.heap.size e sz v n xs := fun h => own_keep h r8 (fun b hb => by have := (h.lt b hb).1; simp; omega)
                    have way8 := keepS WAY7.out
                    have ord8 := keepS ORD7.out
                    have sz8 := r8.size
                    obtain ⟨z9, hz9⟩ : ∃ z, w8.heap.size = z := ⟨_, rfl⟩
                    obtain ⟨w9, hw9⟩ : ∃ q, w8.alloc (.cells #[.int .i64 (k2 : Int), .int .i64 0] 91) = q := ⟨_, rfl⟩
                    have r9 : Wr [] w8 w9 := by rw [← hw9]; exact (Wr.refl [] _).alloc _
                    have b9 : Blk w9 z9 91 #[.int .i64 (k2 : Int), .int .i64 0] := by rw [← hw9, ← hz9]; exact Blk.new _ _ _
                    have sz9 := r9.size
                    obtain ⟨i2, hi2, hz0, hz1, hz2⟩ := info_parts info_step
                    have hnq := HNQ.out
                    obtain ⟨v10, w10, hrun, hown, hgrow, _, hbk⟩ := run_append_own_at (P := Try.prog) w9 w1.heap.size 92 92 91 i2 _ 2 16 Try.underlying92 hi2 hz0 hz1 hz2 rfl (by decide) _ _ _ (own_keep way8 r9 (fun _ _ => by simp)) ⟨z9, 0, none⟩ 1 1 [.int .i64 (k2 : Int), .int .i64 0] rfl (fun j u hj => by
                      rw [Addr.add_lit, Nat.zero_add, b9.cell]
                      simpa using hj) (by simp [Value.oneCell']) (by unfold maxLen; omega) (by omega) (by omega)
                    have hwg := Wr.ofGrownOwn hgrow
                    have hgS10 : gS ∉ ownL (.slice (some ⟨g10, 0, none⟩) n10 c10) := fun h => by
                      have := mem_ownL.1 h
                      injection this with this
                      have : g10 = gS := this
                      omega
                    have hmT : m ∈ l.map NeedD.module := by rw [← I3.out]; exact List.mem_map.2 ⟨x2, List.mem_of_getElem? I2.out, rfl⟩
                    have hcnt : cnt (l.map NeedD.module) t < l.length + 1 := by have := cnt_all (l.map NeedD.module) t; rw [List.length_map] at this; omega
                    have hps := left_push (m := y.module) (rest := y.needs.drop (nx + 1)) (fs := ks.map (frOf l)) hmT HSM.out I4.out
                    have hfr3 : ((k2, 0) :: (k, nx + 1) :: ks).map (frOf l) = (m, x2.needs) :: (y.module, y.needs.drop (nx + 1)) :: ks.map (frOf l) := by
                      rw [List.map_cons, HFS2.out, frOf_at I2.out, I3.out, List.drop_zero]
                    have hmeas := HI.out.meas
                    have hroom := HI.out.room
                    rw [HFS.out] at hmeas hroom
                    have hn10 := HN10.out
                    have hnew : OrdX l (thr (allOf l) (l.length + 1) first ⟨fun _ => 0, []⟩) 2000000 w1 gS (left (allOf l) (l.map NeedD.module) (((k2, 0) :: (k, nx + 1) :: ks).map (frOf l)) (t.set m 1)) (.slice A8 t.ord.length c8) v10 w10 := by
                      refine ⟨t.set m 1, (k2, 0) :: (k, nx + 1) :: ks, ?_, Nat.le_refl _, ?_, ?_, (bs8.wr0 r9).wr hwg hgS10, ?_, ?_, ?_, ?_, ?_⟩
                      · rw [HI.out.res, HFS.out, hfr3]
                        exact fin_push (told_of l) HSM.out I4.out hcnt
                      · rw [hfr3]
                        show t.ord.length + _ ≤ _
                        omega
                      · exact ((ACC7.out.trans r8).trans0 r9).trans' hwg (fun x hx => .inr (way8.lt x (mem_ownL.1 hx)).1)
                      · exact own_keep (own_keep ord8 r9 (fun _ _ => by simp)) hwg (fun b hb hm => by
                          have hm' := mem_ownL.1 hm
                          exact HI.out.apart b (mem_ownL.2 hb) (mem_ownL.2 hm'))
                      · rw [wayC_cons]
                        show w10.ownsRow _ _ _ _ (((k, nx) :: ks).length + 1) _
                        rw [hn10]
                        exact hown
                      · intro p hp
                        rcases List.mem_cons.1 hp with e | e
                        · rw [e]; exact hk2
                        · rcases List.mem_cons.1 e with e | e
                          · rw [e]; exact hkl
                          · exact HI.out.ins p (by simp [e])
                      · intro m' hm
                        have hm' : (if m' = m then 1 else t.st m') ≠ 0 := hm
                        by_cases e : m' = m
                        · rw [e]; exact hmT
                        · rw [if_neg e] at hm'; exact HI.out.told m' hm'
                      · intro b hb hm
                        have hm' := mem_ownL.1 hm
                        rcases hbk with h | h
                        · rw [h] at hm'
                          exact HI.out.apart b hb (mem_ownL.2 hm')
                        · rw [h] at hm'
                          injection hm' with hm'
                          have := (ORD7.out.lt b (mem_ownL.1 hb)).2
                          omega
                    have hlt9 : left (allOf l) (l.map NeedD.module) (((k2, 0) :: (k, nx + 1) :: ks).map (frOf l)) (t.set m 1) < gk := by rw [hfr3]; omega
                    have HNEW := Lib.hid hnew
                    have HLT9 := Lib.hid hlt9
                    have HW8 := Lib.hid hw8
                    have HZ9 := Lib.hid hz9
                    have HW9 := Lib.hid hw9
                    have HRUN := Lib.hid hrun
                    clear hgb hgg hs1 hgS hbase hw8 r8 bs8 keepS way8 ord8 sz8 hz9 hw9 r9 b9 sz9 hi2 hz0 hz1 hz2 hnq hrun hown hgrow hbk hwg hgS10 hmT hcnt hps hfr3 hmeas hroom hn10 hnew hlt9
                    go_upto_region 27 with (fail)
                    rw [HW8.out]
                    go_wp2_with (at_builtin; rw [HZ9.out, HW9.out]; refine wpList_append_run rfl _ _ _ rfl _ _ rfl rfl _ _ HRUN.out ?_)
                    go_roundg (left (allOf l) (l.map NeedD.module) (((k2, 0) :: (k, nx + 1) :: ks).map (frOf l)) (t.set m 1))
                    case measure => exact HLT9.out
                    case rel => exact HNEW.out
                  · have hne1 : ((sm : Int) == 1) = false := by
                      have : (sm : Int) ≠ 1 := by omega
                      simpa using this
                    have hne0 : ((sm : Int) == 0) = false := by
                      have : (sm : Int) ≠ 0 := by omega
                      simpa using this
                    have hsk := left_skip (allOf l) (l.map NeedD.module) y.module m (y.needs.drop (nx + 1)) (ks.map (frOf l)) t
                    have hmeas := HI.out.meas
                    have hroom := HI.out.room
                    rw [HFS.out] at hmeas hroom
                    have hnew : OrdX l (thr (allOf l) (l.length + 1) first ⟨fun _ => 0, []⟩) 2000000 w1 gS (left (allOf l) (l.map NeedD.module) (((k, nx + 1) :: ks).map (frOf l)) t) (.slice A8 t.ord.length c8) (.slice (some ⟨g10, 0, none⟩) n10 c10) w7 := by
                      refine ⟨t, (k, nx + 1) :: ks, ?_, Nat.le_refl _, ?_, ACC7.out, BS7.out, ORD7.out, ?_, ?_, HI.out.told, HI.out.apart⟩
                      · rw [HI.out.res, HFS.out, HFS2.out]
                        exact fin_skip (by rw [HSM.out]; exact hs1) (by rw [HSM.out]; exact hs0)
                      · rw [HFS2.out]; omega
                      · have h := WAY7.out
                        rw [← HN10.out] at h
                        rw [← HN10.out]
                        exact h
                      · intro p hp
                        rcases List.mem_cons.1 hp with e | e
                        · rw [e]; exact hkl
                        · exact HI.out.ins p (by simp [e])
                    have hlt9 : left (allOf l) (l.map NeedD.module) (((k, nx + 1) :: ks).map (frOf l)) t < gk := by rw [HFS2.out]; omega
                    have HNEW := Lib.hid hnew
                    have HLT9 := Lib.hid hlt9
                    clear hs1 hs0 hsk hmeas hroom hnew hlt9
                    go_wp2_with fail
                    go_roundg (left (allOf l) (l.map NeedD.module) (((k, nx + 1) :: ks).map (frOf l)) t)
                    case measure => exact HLT9.out
                    case rel => exact HNEW.out
end Go.Proofs.Ytfeeeogkkajefaa
