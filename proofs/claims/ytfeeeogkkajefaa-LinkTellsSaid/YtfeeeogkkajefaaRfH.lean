/- ref 23's Link: walked. Conditions: the lists are not too long. -/
import Derived.Test.YtfeeeogkkajefaaRfG
import Derived.Test.YtfeeeogkkajefaaRfB
import Derived.StillTailTactics
namespace Go.Proofs.Ytfeeeogkkajefaa
open Go.RowKit
set_option linter.unusedVariables false
set_option linter.unusedSimpArgs false

/-- Up to here each object may be. -/
def R1At (w0 : World) (l : List ObjD) (k : Nat) (wr : World) : Prop := Wr [] w0 wr ∧ ∀ (j : Nat) (o : ObjD), j < k → l[j]? = some o → objB o = true
/-- How far the keys have been looked at. -/
def R2At (w2 : World) (l : List ObjD) (names : List ByteArray) (k : Nat) (s11 : Value) (wr : World) : Prop :=
  Wr [] w2 wr ∧ keysAt l names.length 0 names = keysAt l names.length k (names.drop k) ∧ s11 = .int .i64 (dataOf l (names.take k))
def R3At (wo : World) (l : List ObjD) (o : ObjD) (j : Nat) (wr : World) : Prop := Wr [] wo wr ∧ ∀ (i : Nat) (u : UseD), i < j → o.uses[i]? = some u → (objOf l u.module).key = u.key
/-- The modules that one names, so far. -/
def RIncAt (w6 : World) (gm : Nat) (o : ObjD) (names : List ByteArray) (vp vn : Value) (j : Nat) (wr : World) : Prop :=
  Wr [gm] w6 wr ∧ ∃ vi, Blk wr gm 50 #[.string o.mod.code, vp, vi, .int .i64 o.mod.data, vn] ∧ wr.ownsRow w6.heap.size 3 1 vi j (ints ((o.uses.take j).map fun u => placeOf names u.module))
theorem SlObjs.at_new {w W : World} {v : Value} {l : List ObjD} (h : SlObjs w (fun _ => True) v l) (hw : Wr [] w W) : SlObjs W (fun b => b < w.heap.size) v l := (h.into (fun b _ hb => hb)).wr0 hw
theorem fld9 (a : ByteArray) (b : Bool) (n : Int) (vu : Value) (c : ByteArray) (vp vi : Value) (d : Int) (vn : Value) : ∀ w, (Instr.field 52 (.agg #[.string a, .bool b, .int .u64 n, vu, .string c, vp, vi, .int .i64 d, vn]) 2).run Try.prog w = .ok (.int .u64 n) w := fun _ => by kernel_rfl
theorem set3 (w : World) (g : Nat) (u0 u1 u2 : Value) : Wr [g] w (((w.setCell ⟨g, 0, none⟩ u0).setCell ⟨g, 1, none⟩ u1).setCell ⟨g, 2, none⟩ u2) := by
  have keep : ∀ {q : World} {j : Nat} {u : Value}, Wr [g] w q → Wr [g] w (q.setCell ⟨g, j, none⟩ u) := fun hq => hq.setOn (by simp) _
  exact keep (keep (keep (Wr.refl [g] w)))
theorem blk3 (w : World) (g : Nat) (T : TypeId) (x0 x1 x2 u0 u1 u2 : Value) (h : Blk w g T #[x0, x1, x2]) : Blk (((w.setCell ⟨g, 0, none⟩ u0).setCell ⟨g, 1, none⟩ u1).setCell ⟨g, 2, none⟩ u2) g T #[u0, u1, u2] := by
  have := ((h.set_ 0 u0).set_ 1 u1).set_ 2 u2
  simpa using this
set_option maxRecDepth 100000 in
set_option maxHeartbeats 32000000 in
theorem rlink_any (l : List ObjD) (v : Value) (main : ByteArray) (w : World) (h : SlObjs w (fun _ => True) v l) (few : FewO l) :
    Calls Try.prog 10 #[v, .string main] w (LinkR w (linkP l main)) := by
  obtain ⟨A, c, rfl, l1, l2⟩ := SlObjs.form h
  unfold maxLen at l2
  obtain ⟨few1, few2⟩ := few
  have hlen : l.length ≤ 80 := few1
  obtain ⟨g, hg⟩ : ∃ g, w.heap.size = g := ⟨_, rfl⟩
  obtain ⟨w0, hw0⟩ : ∃ q, w.alloc (.cells #[.slice none 0 0, .slice none 0 0, .slice none 0 0] 31) = q := ⟨_, rfl⟩
  have acc : Wr [] w w0 := by rw [← hw0]; exact (Wr.refl [] _).alloc _
  have b0 : Blk w0 g 31 #[.slice none 0 0, .slice none 0 0, .slice none 0 0] := by rw [← hw0, ← hg]; exact Blk.new _ _ _
  have HH := Lib.hid h
  have FEW2 := Lib.hid few2
  have HG := Lib.hid hg
  have HW0 := Lib.hid hw0
  have ACC := Lib.hid acc
  have B0 := Lib.hid b0
  clear h few2 hg hw0 acc b0 few1
  go_enter Try.func10, Try.ntmps10
  go_upto_region 1 with (fail)
  rw [HW0.out, HG.out]
  go_wp2_with fail
  go_loopw [7] (fun s7 wr => ∃ k : Nat, k ≤ l.length ∧ s7 = .int .i64 k ∧ R1At w0 l k wr) (fun s7 _ => l.length - (intOf s7).toNat)
  case atStart => exact ⟨0, by omega, rfl, Wr.refl [] _, fun j o hj => absurd hj (by omega)⟩
  case round =>
    obtain ⟨k, hk, rfl, r1, hok⟩ := hrel
    obtain ⟨wo, rfl⟩ : ∃ wo : World, wo = wr := ⟨_, rfl⟩
    have HOK := Lib.hid hok
    have R1 := Lib.hid r1
    clear hok r1
    by_cases hlt : k < l.length
    · obtain ⟨o, ho⟩ : ∃ o, l[k]? = some o := ⟨_, List.getElem?_eq_getElem hlt⟩
      obtain ⟨b, off, c', vu, vp, vi, vn, e, hc, hol⟩ := obj_at HH.out ho
      injection e with e1 e2 e3
      subst e1
      subst e3
      have rw := ACC.out.trans R1.out
      have hbl : b < w.heap.size := World.block_lt_of_cell? _ _ (hc 0 _ rfl)
      have hbg : b ≠ g := by have := HG.out; omega
      have hgb : g ≠ b := by omega
      obtain ⟨Bu, du, rfl, _, _⟩ := Sl.form hol.uses
      obtain ⟨Bp, dp, rfl, _, _⟩ := Sl.form hol.mod.procs
      obtain ⟨Bi, di, rfl, _, _⟩ := Sl.form hol.mod.imports
      obtain ⟨Bn, dn, rfl, _, _⟩ := Sl.form hol.mod.init
      have x0 := rw.cellOf (hc 0 _ rfl) (by simp)
      have x1 := rw.cellOf (hc 1 _ rfl) (by simp)
      have x2 := rw.cellOf (hc 2 _ rfl) (by simp)
      have x3 := rw.cellOf (hc 3 _ rfl) (by simp)
      have x4 := rw.cellOf (hc 4 _ rfl) (by simp)
      have x5 := rw.cellOf (hc 5 _ rfl) (by simp)
      have x6 := rw.cellOf (hc 6 _ rfl) (by simp)
      have x7 := rw.cellOf (hc 7 _ rfl) (by simp)
      have x8 := rw.cellOf (hc 8 _ rfl) (by simp)
      simp only [Nat.add_zero] at x0
      have hlti : (k : Int) < (l.length : Int) := by omega
      have hk0 : (0 : Int) ≤ (k : Int) := by omega
      have hmay := romay_any o _ _ _ _ _ wo (hol.wr0 rw)
      unfold ObjD.val ObjD.cells at hmay
      have HX := Lib.hid ho
      have HMAY := Lib.hid hmay
      have HC0 := Lib.hid x0
      clear hc e2 ho hol hmay rw hbl
      go_wp2_with fail
      refine HMAY.out.mono ?_
      rintro e w2 ⟨rfl, r2⟩
      have R2 := Lib.hid r2
      clear r2 x0 x1 x2 x3 x4 x5 x6 x7 x8
      cases hb : objB o with
      | false =>
        have hans : linkP l main = (noImg, o.module, 2) := by
          unfold linkP
          rw [find_at HX.out hb HOK.out]
        have HANS := Lib.hid hans
        have x0 := R2.out.cellOf HC0.out (by simp)
        have b2 := B0.out.wr0 (R1.out.trans R2.out)
        have d0 := b2.cell 0
        have d1 := b2.cell 1
        have d2 := b2.cell 2
        have f0 := b2.frozen 0
        have f1 := b2.frozen 1
        have f2 := b2.frozen 2
        simp only [List.getElem?_toArray, List.getElem?_cons_zero, List.getElem?_cons_succ] at d0 d1 d2
        have B2 := Lib.hid b2
        clear hb hans b2
        go_wp2_with fail
        go_region
        all_goals
          go_wp2_with fail
          refine bodyPost_ret (v := .tuple #[.agg #[.slice none 0 0, .slice none 0 0, .slice none 0 0], .string o.module, .int .i64 2]) ?_ rfl ?_
          · have hb9 := (blk3 w2 g 31 _ _ _ (.slice none 0 0) (.slice none 0 0) (.slice none 0 0) B2.out).drew
            have t0 := hb9.cell 0
            have t1 := hb9.cell 1
            have t2 := hb9.cell 2
            simp only [List.getElem?_toArray, List.getElem?_cons_zero, List.getElem?_cons_succ] at t0 t1 t2
            simp [results, Try.results10, go_sem, t0, t1, t2]
          · rw [HANS.out]
            exact ⟨_, _, _, rfl, ((ACC.out.trans (R1.out.trans R2.out)).new (set3 w2 g _ _ _) (by rw [HG.out]; exact Nat.le_refl _)).drew, Sl.nil _ _ 1, SlMods.nil _ _, Sl.nil _ _ 1⟩
      | true =>
        have HB := Lib.hid hb
        clear hb
        go_wp2_with fail
        go_roundw
        case rel =>
          refine ⟨k + 1, by omega, by go_num, R1.out.trans R2.out, fun j y hj hy => ?_⟩
          rcases Nat.lt_or_ge j k with hlt2 | hge
          · exact HOK.out j y hlt2 hy
          · obtain rfl : j = k := by omega
            rw [HX.out] at hy
            injection hy with hy
            rw [← hy]
            exact HB.out
        case measure => simp [intOf]; omega
    · obtain rfl : k = l.length := by omega
      have hfind := find_none HOK.out
      have hnd := rneeds_any l _ _ wo (HH.out.wr0 (ACC.out.trans R1.out)) (by omega) (fun o ho => by have := FEW2.out o ho; omega)
      have HND := Lib.hid hnd
      have HFIND := Lib.hid hfind
      clear hnd hfind
      go_wp2_with fail
      refine HND.out.mono ?_
      rintro e w2 ⟨vo, rfl, r2, hn2⟩
      have hor := rorder_any (l.map needOf) vo main _ w2 hn2 (by rw [List.length_map]; omega) (fun x hx => by
        obtain ⟨o, ho, rfl⟩ := List.mem_map.1 hx
        have := FEW2.out o ho
        show (o.uses.map UseD.module).length ≤ _
        rw [List.length_map]
        omega)
      obtain ⟨ao, hao⟩ : ∃ a, orderP (l.map needOf) main = a := ⟨_, rfl⟩
      rw [hao] at hor
      obtain ⟨names, who, en⟩ := ao
      obtain ⟨An2, cn2, rfl, _, _⟩ := hn2.form
      rw [List.length_map] at hor ⊢
      have HOR := Lib.hid hor
      have R2 := Lib.hid (R1.out.trans r2)
      have HAO := Lib.hid hao
      clear hor r2 hao hn2
      go_wp2_with fail
      refine HOR.out.mono ?_
      rintro e w3 ⟨vn3, rfl, r3, hn3⟩
      simp only at hn3
      obtain ⟨An, cn, rfl, ln1, ln2⟩ := Sl.form hn3
      unfold maxLen at ln2
      have R3 := Lib.hid (R2.out.trans r3)
      have HN := Lib.hid hn3
      have b3 := B0.out.wr0 R3.out
      have B3 := Lib.hid b3
      clear r3 hn3 b3
      by_cases hen : en = 0
      case neg =>
        have hd : (en != 0) = true := by simpa using hen
        have hans : linkP l main = (noImg, who, en) := by
          unfold linkP
          rw [HFIND.out]
          simp only
          rw [HAO.out, if_neg hen]
        have HANS := Lib.hid hans
        have d0 := (B3.out).cell 0
        have d1 := (B3.out).cell 1
        have d2 := (B3.out).cell 2
        have f0 := (B3.out).frozen 0
        have f1 := (B3.out).frozen 1
        have f2 := (B3.out).frozen 2
        simp only [List.getElem?_toArray, List.getElem?_cons_zero, List.getElem?_cons_succ] at d0 d1 d2
        clear hans hen
        go_wp2_with fail
        refine bodyPost_ret (v := .tuple #[.agg #[.slice none 0 0, .slice none 0 0, .slice none 0 0], .string who, .int .i64 en]) ?_ rfl ?_
        · have hb9 := (blk3 w3 g 31 _ _ _ (.slice none 0 0) (.slice none 0 0) (.slice none 0 0) B3.out)
          have t0 := hb9.cell 0
          have t1 := hb9.cell 1
          have t2 := hb9.cell 2
          simp only [List.getElem?_toArray, List.getElem?_cons_zero, List.getElem?_cons_succ] at t0 t1 t2
          simp [results, Try.results10, go_sem, t0, t1, t2]
        · rw [HANS.out]
          exact ⟨_, _, _, rfl, ((ACC.out.trans R3.out).new (set3 w3 g _ _ _) (by rw [HG.out]; exact Nat.le_refl _)), Sl.nil _ _ 1, SlMods.nil _ _, Sl.nil _ _ 1⟩
      subst hen
      have hoo : (orderP (l.map needOf) main).2.2 = 0 := by rw [HAO.out]
      have hok2 := ordOk hoo
      have hl1 := linkP_eq HFIND.out hoo
      have hnl := orderP_len (l.map needOf) main
      rw [HAO.out] at hok2 hl1 hnl
      simp only at hok2 hl1 hnl
      rw [List.length_map] at hnl
      have HOO := Lib.hid hok2
      have HL1 := Lib.hid hl1
      have HDB := Lib.hid (data_bd (find_all HFIND.out))
      have hnl80 : names.length ≤ 80 := by omega
      clear hoo hok2 hl1 hnl
      go_wp2_with fail
      go_loopw [11, 12] (fun s11 s12 wr => ∃ k : Nat, k ≤ names.length ∧ s12 = .int .i64 k ∧ R2At w3 l names k s11 wr) (fun _ s12 _ => names.length - (intOf s12).toNat)
      case atStart => exact ⟨0, by omega, rfl, Wr.refl [] _, by rw [List.drop_zero], rfl⟩
      case round =>
        obtain ⟨k, hk, rfl, r4, hkeys, rfl⟩ := hrel
        obtain ⟨w4, rfl⟩ : ∃ w4 : World, w4 = wr := ⟨_, rfl⟩
        have HKEYS := Lib.hid hkeys
        have R4 := Lib.hid r4
        clear hkeys r4
        by_cases hlt : k < names.length
        · obtain ⟨m, hm⟩ : ∃ m, names[k]? = some m := ⟨_, List.getElem?_eq_getElem hlt⟩
          have hmem : m ∈ names := List.mem_of_getElem? hm
          obtain ⟨bm, om, cm, e, _, _, _, hcm⟩ := Sl.at_ HN.out (j := k) (u := .string m) (by rw [List.getElem?_map, hm]; rfl)
          injection e with e1 _ e3
          subst e1 e3
          have xm := R4.out.cellOf hcm (by simp)
          have HCM := Lib.hid hcm
          have hlti : (k : Int) < (names.length : Int) := by omega
          have hk0 : (0 : Int) ≤ (k : Int) := by omega
          have hof := rof_any l _ m _ w4 (SlObjs.at_new HH.out (ACC.out.trans (R3.out.trans R4.out))) (ACC.out.trans (R3.out.trans R4.out)).size
          rw [ofP_objOf HOO.out.uniq] at hof
          obtain ⟨o, hoo⟩ : ∃ o, objOf l m = o := ⟨_, rfl⟩
          have hkd := keysAt_drop (l := l) (n := names.length) hm
          have hds := dataOf_snoc l m (names.take k)
          have hdb := HDB.out m
          have hdt := dataOf_bd HDB.out (names.take k)
          have htk : names.take k ++ [m] = names.take (k + 1) := by rw [List.take_add_one, hm]; rfl
          have htl : (names.take k).length = k := by rw [List.length_take]; omega
          rw [htk] at hds
          rw [htl] at hdt
          rw [hoo] at hof hkd hds hdb
          have husn : ∀ u ∈ o.uses, u.module ∈ names := fun u hu => HOO.out.of hmem (by rw [hoo]; exact hu)
          obtain ⟨D, hD⟩ : ∃ D, dataOf l (names.take k) = D := ⟨_, rfl⟩
          rw [hD] at hds hdt ⊢
          have HUSN := Lib.hid husn
          have HOF := Lib.hid hof
          have HKD := Lib.hid hkd
          have HDS := Lib.hid hds
          obtain ⟨hdb1, hdb2⟩ := hdb
          obtain ⟨hdt1, hdt2⟩ := hdt
          have HOB := Lib.hid hoo
          have HD := Lib.hid hD
          have HMM := Lib.hid (And.intro hm hmem)
          clear hm hmem hcm hof hoo hkd hds htk htl husn hD
          go_wp2_with fail
          refine HOF.out.mono ?_
          rintro e w5 ⟨vu, vp, vi, vn, rfl, r5, hol⟩
          obtain ⟨Bu, du, rfl, lu1, lu2⟩ := Sl.form hol.uses
          obtain ⟨Bp, dp, rfl, _, _⟩ := Sl.form hol.mod.procs
          obtain ⟨Bi, di, rfl, _, _⟩ := Sl.form hol.mod.imports
          obtain ⟨Bn, dn, rfl, _, _⟩ := Sl.form hol.mod.init
          unfold maxLen at lu2
          obtain ⟨zo, hzo⟩ : ∃ z, w5.heap.size = z := ⟨_, rfl⟩
          obtain ⟨w6, hw6⟩ : ∃ q, w5.alloc (.cells #[.string o.module, .bool o.main, .int .u64 o.key, .slice Bu o.uses.length du, .string o.mod.code, .slice Bp o.mod.procs.length dp, .slice Bi o.mod.imports.length di, .int .i64 o.mod.data, .slice Bn o.mod.init.length dn] 52) = q := ⟨_, rfl⟩
          have r6 : Wr [] w5 w6 := by rw [← hw6]; exact (Wr.refl [] _).alloc _
          have b6 : Blk w6 zo 52 #[.string o.module, .bool o.main, .int .u64 o.key, .slice Bu o.uses.length du, .string o.mod.code, .slice Bp o.mod.procs.length dp, .slice Bi o.mod.imports.length di, .int .i64 o.mod.data, .slice Bn o.mod.init.length dn] := by rw [← hw6, ← hzo]; exact Blk.new _ _ _
          have R6 := Lib.hid (r5.trans r6)
          have HOL := Lib.hid (hol.wr0 r6)
          have B6 := Lib.hid b6
          have HZO := Lib.hid hzo
          have HW6 := Lib.hid hw6
          have hb1 := b6.cell 1
          simp only [List.getElem?_toArray, List.getElem?_cons_zero, List.getElem?_cons_succ] at hb1
          obtain ⟨mn, hmn⟩ : ∃ b, o.main = b := ⟨_, rfl⟩
          obtain ⟨d, hd⟩ : ∃ b : Bool, decide (k + 1 = names.length) = b := ⟨_, rfl⟩
          have hdi : ((k : Int) + 1 == (names.length : Int)) = d := by
            rw [← hd]
            by_cases h : k + 1 = names.length
            · rw [decide_eq_true h]
              have : (k : Int) + 1 = (names.length : Int) := by omega
              simpa using this
            · rw [decide_eq_false h]
              have : (k : Int) + 1 ≠ (names.length : Int) := by omega
              simpa using this
          have HMN := Lib.hid hmn
          have HDD := Lib.hid hd
          clear r5 hol hzo hw6 r6 b6 hd hmn
          go_upto_region 14 with (fail)
          rw [HZO.out, HW6.out]
          clear xm
          rw [HMN.out] at hb1
          by_cases hmd : mn = d
          case neg =>
            have hx : (!mn == d) = true := by revert hmd; cases mn <;> cases d <;> simp
            have hans : linkP l main = (noImg, m, 231) := by
              rw [HL1.out]
              unfold linkN
              rw [HKEYS.out, HKD.out, HMN.out, HDD.out, if_neg hmd]
            have HANS := Lib.hid hans
            have b7 := B3.out.wr0 (R4.out.trans R6.out)
            have B7 := Lib.hid b7
            have xm := (R4.out.trans R6.out).cellOf HCM.out (by simp)
            have hbl : bm ≠ g := by
              have h1 := (Sl.at_ HN.out (j := k) (u := .string m) (by rw [List.getElem?_map, HMM.out.1]; rfl))
              obtain ⟨b', o', c'', e, _, _, hb', _⟩ := h1
              injection e with e1 _ _
              injection e1 with e1
              injection e1 with e1 _ _
              have := R2.out.size
              have h2 := B0.out.lt
              omega
            have hbl2 : g ≠ bm := fun e => hbl e.symm
            have d0 := (B7.out).cell 0
            have d1 := (B7.out).cell 1
            have d2 := (B7.out).cell 2
            have f0 := (B7.out).frozen 0
            have f1 := (B7.out).frozen 1
            have f2 := (B7.out).frozen 2
            simp only [List.getElem?_toArray, List.getElem?_cons_zero, List.getElem?_cons_succ] at d0 d1 d2
            clear hans b7 hmd
            go_wp2_with fail
            go_region
            all_goals
              go_wp2_with fail
              refine bodyPost_ret (v := .tuple #[.agg #[.slice none 0 0, .slice none 0 0, .slice none 0 0], .string m, .int .i64 231]) ?_ rfl ?_
              · have hb9 := (blk3 w6 g 31 _ _ _ (.slice none 0 0) (.slice none 0 0) (.slice none 0 0) B7.out).drew
                have t0 := hb9.cell 0
                have t1 := hb9.cell 1
                have t2 := hb9.cell 2
                simp only [List.getElem?_toArray, List.getElem?_cons_zero, List.getElem?_cons_succ] at t0 t1 t2
                simp [results, Try.results10, go_sem, t0, t1, t2]
              · rw [HANS.out]
                exact ⟨_, _, _, rfl, ((ACC.out.trans (R3.out.trans (R4.out.trans R6.out))).new (set3 w6 g _ _ _) (by rw [HG.out]; exact Nat.le_refl _)).drew, Sl.nil _ _ 1, SlMods.nil _ _, Sl.nil _ _ 1⟩
          subst hmd
          have hx : (!mn == mn) = false := by cases mn <;> rfl
          go_wp2_with fail
          clear hb1 hx
          go_loopw [14] (fun s14 wr => ∃ j : Nat, j ≤ o.uses.length ∧ s14 = .int .i64 j ∧ R3At w6 l o j wr) (fun s14 _ => o.uses.length - (intOf s14).toNat)
          case atStart => exact ⟨0, by omega, rfl, Wr.refl [] _, fun i u hi => absurd hi (by omega)⟩
          case round =>
            obtain ⟨j, hj, rfl, r7, hno⟩ := hrel
            obtain ⟨w7, rfl⟩ : ∃ w7 : World, w7 = wr := ⟨_, rfl⟩
            have b7 := B6.out.wr0 r7
            have z3 := b7.cell 3
            simp only [List.getElem?_toArray, List.getElem?_cons_zero, List.getElem?_cons_succ] at z3
            have B7 := Lib.hid b7
            have R7 := Lib.hid r7
            have RW7 := Lib.hid (ACC.out.trans (R3.out.trans (R4.out.trans (R6.out.trans r7))))
            have HNO := Lib.hid hno
            clear b7 r7 hno
            by_cases hlt2 : j < o.uses.length
            · obtain ⟨u, hu⟩ : ∃ u, o.uses[j]? = some u := ⟨_, List.getElem?_eq_getElem hlt2⟩
              obtain ⟨bu, offu, cu, eu, _, _, hcu⟩ := use_at (HOL.out.wr0 R7.out).uses hu
              injection eu with q1 _ q3
              subst q1 q3
              have y0 := hcu 0 _ rfl
              have y1 := hcu 1 _ rfl
              simp only [Nat.add_zero] at y0
              have hlti2 : (j : Int) < (o.uses.length : Int) := by omega
              have hj0 : (0 : Int) ≤ (j : Int) := by omega
              have hof2 := fun W (hW : Wr [] w W) => rof_any l _ u.module _ W (SlObjs.at_new HH.out hW) hW.size
              obtain ⟨q, hq⟩ : ∃ q, objOf l u.module = q := ⟨_, rfl⟩
              rw [ofP_objOf HOO.out.uniq, hq] at hof2
              obtain ⟨bk, hbk⟩ : ∃ b, (q.key != u.key) = b := ⟨_, rfl⟩
              have HOF2 := Lib.hid hof2
              have HQ := Lib.hid hq
              have HU := Lib.hid hu
              clear hof2 hq hu hcu
              go_wp2_with fail
              have hC : ∀ W, Wr [] w7 W → W.cell? ⟨zo, 3, none⟩ = some (.slice (some ⟨bu, offu, none⟩) o.uses.length du) ∧ W.cell? ⟨bu, offu + j * 2, none⟩ = some (.string u.module) ∧ W.cell? ⟨bu, offu + j * 2 + 1, none⟩ = some (.int .u64 u.key) := fun W hW => ⟨hW.cellOf z3 (by simp), hW.cellOf y0 (by simp), hW.cellOf y1 (by simp)⟩
              have HC := Lib.hid hC
              clear hC
              refine wp_region_noPanic ?_
              refine wp_region_L (Always fun w' => w'.cell? ⟨zo, 3, none⟩ = some (.slice (some ⟨bu, offu, none⟩) o.uses.length du) ∧ w'.cell? ⟨bu, offu + j * 2, none⟩ = some (.string u.module) ∧ w'.cell? ⟨bu, offu + j * 2 + 1, none⟩ = some (.int .u64 u.key)) (by kernel_rfl) (fun hcl => ?_)
              have hS : Always (fun w' => w'.cell? ⟨zo, 3, none⟩ = some (.slice (some ⟨bu, offu, none⟩) o.uses.length du) ∧ w'.cell? ⟨bu, offu + j * 2, none⟩ = some (.string u.module) ∧ w'.cell? ⟨bu, offu + j * 2 + 1, none⟩ = some (.int .u64 u.key)) (Array.replicate 16 false) w7.drew := ⟨z3, y0, y1⟩
              refine wpAnyL_take (i := 0) (oi := ?oi101) (v := ?v101) ?hi101 (by kernel_rfl) (by kernel_rfl) (by kernel_rfl) (fun _ _ _ h => h) (always_take _) ?hy101 hcl hS ?rest101
              case hi101 =>
                simp only [List.getElem?_toArray, List.getElem?_cons_succ, List.getElem?_cons_zero]
                rfl
              case hy101 =>
                refine yields_always (Or.inl ⟨by rfl, fun w' hS => ?_⟩)
                try go_split_ands
                go_simp
                try rfl
              case rest101 =>
              intro hcl1 hS1
              clear hcl hS
              try simp only [Act.put, List.setIfInBounds_toArray, List.set_cons_zero, List.set_cons_succ]
              refine wpAnyL_take (i := 1) (oi := ?oi102) (v := ?v102) ?hi102 (by kernel_rfl) (by kernel_rfl) (by kernel_rfl) (fun _ _ _ h => h) (always_take _) ?hy102 hcl1 hS1 ?rest102
              case hi102 =>
                simp only [List.getElem?_toArray, List.getElem?_cons_succ, List.getElem?_cons_zero]
                rfl
              case hy102 =>
                refine yields_always (Or.inl ⟨by rfl, fun w' hS => ?_⟩)
                try go_split_ands
                go_simp
                try rfl
              case rest102 =>
              intro hcl2 hS2
              clear hcl1 hS1
              try simp only [Act.put, List.setIfInBounds_toArray, List.set_cons_zero, List.set_cons_succ]
              refine wpAnyL_take (i := 2) (oi := ?oi103) (v := ?v103) ?hi103 (by kernel_rfl) (by kernel_rfl) (by kernel_rfl) (fun _ _ _ h => h) (always_take _) ?hy103 hcl2 hS2 ?rest103
              case hi103 =>
                simp only [List.getElem?_toArray, List.getElem?_cons_succ, List.getElem?_cons_zero]
                rfl
              case hy103 =>
                refine yields_always (Or.inl ⟨by rfl, fun w' hS => ?_⟩)
                try go_split_ands
                go_simp
                try rfl
              case rest103 =>
              intro hcl3 hS3
              clear hcl2 hS2
              try simp only [Act.put, List.setIfInBounds_toArray, List.set_cons_zero, List.set_cons_succ]
              refine wpAnyL_take (i := 3) (oi := ?oi104) (v := ?v104) ?hi104 (by kernel_rfl) (by kernel_rfl) (by kernel_rfl) (fun _ _ _ h => h) (always_take _) ?hy104 hcl3 hS3 ?rest104
              case hi104 =>
                simp only [List.getElem?_toArray, List.getElem?_cons_succ, List.getElem?_cons_zero]
                rfl
              case hy104 =>
                refine yields_always (Or.inl ⟨by rfl, fun w' hS => ?_⟩)
                try go_split_ands
                go_simp
                try rfl
              case rest104 =>
              intro hcl4 hS4
              clear hcl3 hS3
              try simp only [Act.put, List.setIfInBounds_toArray, List.set_cons_zero, List.set_cons_succ]
              refine wpAnyL_take (i := 4) (oi := ?oi105) (v := ?v105) ?hi105 (by kernel_rfl) (by kernel_rfl) (by kernel_rfl) (fun _ _ _ h => h) (always_take _) ?hy105 hcl4 hS4 ?rest105
              case hi105 =>
                simp only [List.getElem?_toArray, List.getElem?_cons_succ, List.getElem?_cons_zero]
                rfl
              case hy105 =>
                refine yields_always (Or.inl ⟨by rfl, fun w' hS => ?_⟩)
                try go_split_ands
                go_simp
                try rfl
              case rest105 =>
              intro hcl5 hS5
              clear hcl4 hS4
              try simp only [Act.put, List.setIfInBounds_toArray, List.set_cons_zero, List.set_cons_succ]
              refine wpAnyL_take (i := 5) (oi := ?oi106) (v := ?v106) ?hi106 (by kernel_rfl) (by kernel_rfl) (by kernel_rfl) (fun _ _ _ h => h) (always_take _) ?hy106 hcl5 hS5 ?rest106
              case hi106 =>
                simp only [List.getElem?_toArray, List.getElem?_cons_succ, List.getElem?_cons_zero]
                rfl
              case hy106 =>
                refine yields_always (Or.inl ⟨by rfl, fun w' hS => ?_⟩)
                try go_split_ands
                go_simp
                try rfl
              case rest106 =>
              intro hcl6 hS6
              clear hcl5 hS5
              try simp only [Act.put, List.setIfInBounds_toArray, List.set_cons_zero, List.set_cons_succ]
              refine wpAnyL_take (i := 6) (oi := ?oi107) (v := ?v107) ?hi107 (by kernel_rfl) (by kernel_rfl) (by kernel_rfl) (fun _ _ _ h => h) (always_take _) ?hy107 hcl6 hS6 ?rest107
              case hi107 =>
                simp only [List.getElem?_toArray, List.getElem?_cons_succ, List.getElem?_cons_zero]
                rfl
              case hy107 =>
                refine yields_always (Or.inl ⟨by rfl, fun w' hS => ?_⟩)
                try go_split_ands
                go_simp
                try rfl
              case rest107 =>
              intro hcl7 hS7
              clear hcl6 hS6
              try simp only [Act.put, List.setIfInBounds_toArray, List.set_cons_zero, List.set_cons_succ]
              refine wpAnyL_take (i := 9) (oi := ?oi108) (v := ?v108) ?hi108 (by kernel_rfl) (by kernel_rfl) (by kernel_rfl) (fun _ _ _ h => h) (always_take _) ?hy108 hcl7 hS7 ?rest108
              case hi108 =>
                simp only [List.getElem?_toArray, List.getElem?_cons_succ, List.getElem?_cons_zero]
                rfl
              case hy108 =>
                refine yields_always (Or.inl ⟨by rfl, fun w' hS => ?_⟩)
                try go_split_ands
                go_simp
                try rfl
              case rest108 =>
              intro hcl8 hS8
              clear hcl7 hS7
              try simp only [Act.put, List.setIfInBounds_toArray, List.set_cons_zero, List.set_cons_succ]
              refine wpAnyL_take (i := 10) (oi := ?oi109) (v := ?v109) ?hi109 (by kernel_rfl) (by kernel_rfl) (by kernel_rfl) (fun _ _ _ h => h) (always_take _) ?hy109 hcl8 hS8 ?rest109
              case hi109 =>
                simp only [List.getElem?_toArray, List.getElem?_cons_succ, List.getElem?_cons_zero]
                rfl
              case hy109 =>
                refine yields_always (Or.inl ⟨by rfl, fun w' hS => ?_⟩)
                try go_split_ands
                go_simp
                try rfl
              case rest109 =>
              intro hcl9 hS9
              clear hcl8 hS8
              try simp only [Act.put, List.setIfInBounds_toArray, List.set_cons_zero, List.set_cons_succ]
              refine wpAnyL_take (i := 11) (oi := ?oi110) (v := ?v110) ?hi110 (by kernel_rfl) (by kernel_rfl) (by kernel_rfl) (fun _ _ _ h => h) (always_take _) ?hy110 hcl9 hS9 ?rest110
              case hi110 =>
                simp only [List.getElem?_toArray, List.getElem?_cons_succ, List.getElem?_cons_zero]
                rfl
              case hy110 =>
                refine yields_always (Or.inl ⟨by rfl, fun w' hS => ?_⟩)
                try go_split_ands
                go_simp
                try rfl
              case rest110 =>
              intro hcl10 hS10
              clear hcl9 hS9
              try simp only [Act.put, List.setIfInBounds_toArray, List.set_cons_zero, List.set_cons_succ]
              refine wpAnyL_take (i := 12) (oi := ?oi111) (v := ?v111) ?hi111 (by kernel_rfl) (by kernel_rfl) (by kernel_rfl) (fun _ _ _ h => h) (always_take _) ?hy111 hcl10 hS10 ?rest111
              case hi111 =>
                simp only [List.getElem?_toArray, List.getElem?_cons_succ, List.getElem?_cons_zero]
                rfl
              case hy111 =>
                refine yields_always (Or.inl ⟨by rfl, fun w' hS => ?_⟩)
                try go_split_ands
                go_simp
                try rfl
              case rest111 =>
              intro hcl11 hS11
              clear hcl10 hS10
              try simp only [Act.put, List.setIfInBounds_toArray, List.set_cons_zero, List.set_cons_succ]
              refine wpAnyL_take (i := 13) (oi := ?oi112) (v := ?v112) ?hi112 (by kernel_rfl) (by kernel_rfl) (by kernel_rfl) (fun _ _ _ h => h) (always_take _) ?hy112 hcl11 hS11 ?rest112
              case hi112 =>
                simp only [List.getElem?_toArray, List.getElem?_cons_succ, List.getElem?_cons_zero]
                rfl
              case hy112 =>
                refine yields_always (Or.inl ⟨by rfl, fun w' hS => ?_⟩)
                try go_split_ands
                go_simp
                try rfl
              case rest112 =>
              intro hcl12 hS12
              clear hcl11 hS11
              try simp only [Act.put, List.setIfInBounds_toArray, List.set_cons_zero, List.set_cons_succ]
              refine wpAnyL_take (i := 14) (oi := ?oi113) (v := ?v113) ?hi113 (by kernel_rfl) (by kernel_rfl) (by kernel_rfl) (fun _ _ _ h => h) (always_take _) ?hy113 hcl12 hS12 ?rest113
              case hi113 =>
                simp only [List.getElem?_toArray, List.getElem?_cons_succ, List.getElem?_cons_zero]
                rfl
              case hy113 =>
                refine yields_always (Or.inl ⟨by rfl, fun w' hS => ?_⟩)
                try go_split_ands
                go_simp
                try rfl
              case rest113 =>
              intro hcl13 hS13
              clear hcl12 hS12
              try simp only [Act.put, List.setIfInBounds_toArray, List.set_cons_zero, List.set_cons_succ]
              refine wpAnyL_step (i := 7) (o := ?oi114) ?hi114 (by kernel_rfl) hcl13 ?rest114
              case hi114 =>
                simp only [List.getElem?_toArray, List.getElem?_cons_succ, List.getElem?_cons_zero]
                rfl
              case rest114 =>
              intro K hK
              go_simp
              go_at_call 27
              refine (HOF2.out _ ((RW7.out).drew)).mono ?_
              rintro e w8 ⟨vu9, vp9, vi9, vn9, rfl, r8, hol8⟩
              have hfl := fld9 q.module q.main q.key vu9 q.mod.code vp9 vi9 q.mod.data vn9
              refine hK _ _ (HC.out _ ((Wr.refl [] w7).drew.trans r8)) (fun hcl14 => ?_)
              clear hK K hcl13 hS13
              try simp only [Act.put, List.setIfInBounds_toArray, List.set_cons_zero, List.set_cons_succ]
              refine wpAnyL_take (i := 8) (oi := ?oi115) (v := ?v115) ?hi115 (by kernel_rfl) (by kernel_rfl) (by kernel_rfl) (fun _ _ _ h => h) (always_take _) ?hy115 hcl14 (HC.out _ ((Wr.refl [] w7).drew.trans r8)) ?rest115
              case hi115 =>
                simp only [List.getElem?_toArray, List.getElem?_cons_succ, List.getElem?_cons_zero]
                rfl
              case hy115 =>
                refine yields_always (Or.inl ⟨by rfl, fun w' hS => ?_⟩)
                try go_split_ands
                go_simp
                try rfl
              case rest115 =>
              intro hcl15 hS15
              clear hcl14
              try simp only [Act.put, List.setIfInBounds_toArray, List.set_cons_zero, List.set_cons_succ]
              refine wpAnyL_take (i := 15) (oi := ?oi116) (v := ?v116) ?hi116 (by kernel_rfl) (by kernel_rfl) (by kernel_rfl) (fun _ _ _ h => h) (always_take _) ?hy116 hcl15 hS15 ?rest116
              case hi116 =>
                simp only [List.getElem?_toArray, List.getElem?_cons_succ, List.getElem?_cons_zero]
                rfl
              case hy116 =>
                refine yields_always (Or.inl ⟨by rfl, fun w' hS => ?_⟩)
                try go_split_ands
                go_simp
                try rfl
              case rest116 =>
              intro hcl16 hS16
              clear hcl15 hS15
              try simp only [Act.put, List.setIfInBounds_toArray, List.set_cons_zero, List.set_cons_succ]
              refine wpAnyL_done (by kernel_rfl) (NoPanic.normal ?_) _
              try simp only [Act.put, List.setIfInBounds_toArray, List.set_cons_zero, List.set_cons_succ]
              have R8 := Lib.hid (R7.out.trans ((Wr.refl [] w7).drew.trans r8))
              have HBK := Lib.hid hbk
              clear hfl hol8 r8 hbk HC y0 y1 z3
              cases bk with
              | true =>
                have hkk : q.key ≠ u.key := by simpa using HBK.out
                have hans : linkP l main = (noImg, m, 230) := by
                  rw [HL1.out]
                  unfold linkN
                  rw [HKEYS.out, HKD.out, HMN.out, HDD.out, if_pos rfl, mis_at HU.out (by rw [HQ.out]; exact hkk)]
                  rfl
                have HANS := Lib.hid hans
                have b9 := B3.out.wr0 (R4.out.trans (R6.out.trans R8.out))
                have B9 := Lib.hid b9
                have xm := (R4.out.trans (R6.out.trans R8.out)).cellOf HCM.out (by simp)
                have hbl : bm ≠ g := by
                  have h1 := (Sl.at_ HN.out (j := k) (u := .string m) (by rw [List.getElem?_map, HMM.out.1]; rfl))
                  obtain ⟨b', o', c'', e, _, _, hb', _⟩ := h1
                  injection e with e1 _ _
                  injection e1 with e1
                  injection e1 with e1 _ _
                  have := R2.out.size
                  have h2 := B0.out.lt
                  omega
                have hbl2 : g ≠ bm := fun e => hbl e.symm
                have d0 := (B9.out).cell 0
                have d1 := (B9.out).cell 1
                have d2 := (B9.out).cell 2
                have f0 := (B9.out).frozen 0
                have f1 := (B9.out).frozen 1
                have f2 := (B9.out).frozen 2
                simp only [List.getElem?_toArray, List.getElem?_cons_zero, List.getElem?_cons_succ] at d0 d1 d2
                clear hans b9 hkk
                go_wp2_with fail
                go_region
                all_goals
                  go_wp2_with fail
                  refine bodyPost_ret (v := .tuple #[.agg #[.slice none 0 0, .slice none 0 0, .slice none 0 0], .string m, .int .i64 230]) ?_ rfl ?_
                  · have hb9 := (blk3 w8 g 31 _ _ _ (.slice none 0 0) (.slice none 0 0) (.slice none 0 0) B9.out).drew
                    have t0 := hb9.cell 0
                    have t1 := hb9.cell 1
                    have t2 := hb9.cell 2
                    simp only [List.getElem?_toArray, List.getElem?_cons_zero, List.getElem?_cons_succ] at t0 t1 t2
                    simp [results, Try.results10, go_sem, t0, t1, t2]
                  · rw [HANS.out]
                    exact ⟨_, _, _, rfl, ((ACC.out.trans (R3.out.trans (R4.out.trans (R6.out.trans R8.out)))).new (set3 w8 g _ _ _) (by rw [HG.out]; exact Nat.le_refl _)).drew, Sl.nil _ _ 1, SlMods.nil _ _, Sl.nil _ _ 1⟩
              | false =>
                have hkk : q.key = u.key := by simpa using HBK.out
                have HKK := Lib.hid hkk
                clear hkk
                go_wp2_with fail
                go_roundw
                case rel =>
                  refine ⟨j + 1, by omega, by go_num, R8.out, fun i y hi hy => ?_⟩
                  rcases Nat.lt_or_ge i j with hlt3 | hge
                  · exact HNO.out i y hlt3 hy
                  · obtain rfl : i = j := by omega
                    rw [HU.out] at hy
                    injection hy with hy
                    rw [← hy, HQ.out]
                    exact HKK.out
                case measure => simp [intOf]; omega
            · obtain rfl : j = o.uses.length := by omega
              have hmis := mis_none HNO.out
              have hkeys2 : keysAt l names.length 0 names = keysAt l names.length (k + 1) (names.drop (k + 1)) := by
                rw [HKEYS.out, HKD.out, HMN.out, HDD.out, if_pos rfl, hmis]
                rfl
              have HKEYS2 := Lib.hid hkeys2
              have z7 := B7.out.cell 7
              simp only [List.getElem?_toArray, List.getElem?_cons_zero, List.getElem?_cons_succ] at z7
              have hDb : D ≤ 6000000 := by omega
              clear hmis hkeys2
              go_wp2_with fail
              go_roundw
              case rel =>
                first
                | exact ⟨k + 1, by omega, by go_num, R4.out.trans (R6.out.trans R7.out), HKEYS2.out, by rw [HDS.out]⟩
                | (repeat apply Exists.intro
                   refine ⟨⟨k + 1, by omega, by go_num, R4.out.trans (R6.out.trans R7.out), HKEYS2.out, by rw [HDS.out]⟩, ?_⟩
                   rfl)
              case measure => simp [intOf]; omega
        · obtain rfl : k = names.length := by omega
          have hkn : keysAt l names.length 0 names = none := by
            rw [HKEYS.out, List.drop_length]
            rfl
          obtain ⟨D, hD⟩ : ∃ D, dataOf l (names.take names.length) = D := ⟨_, rfl⟩
          rw [hD]
          rw [List.take_length] at hD
          by_cases hroom : 64 < names.length ∨ 65535 < D
          · have hans : linkP l main = (noImg, main, 5) := by
              rw [HL1.out]
              unfold linkN
              rw [hkn]
              simp only
              rw [hD, if_pos hroom]
            have HANS := Lib.hid hans
            have b5 := B3.out.wr0 R4.out
            have B5 := Lib.hid b5
            have d0 := (B5.out).cell 0
            have d1 := (B5.out).cell 1
            have d2 := (B5.out).cell 2
            have f0 := (B5.out).frozen 0
            have f1 := (B5.out).frozen 1
            have f2 := (B5.out).frozen 2
            simp only [List.getElem?_toArray, List.getElem?_cons_zero, List.getElem?_cons_succ] at d0 d1 d2
            clear hans hkn hD b5
            by_cases h64 : 64 < names.length
            · have h64i : decide ((64 : Int) < (names.length : Int)) = true := decide_eq_true (by omega)
              have h64n : decide (64 < names.length) = true := decide_eq_true h64
              clear hroom
              go_wp2_with fail
              refine bodyPost_ret (v := .tuple #[.agg #[.slice none 0 0, .slice none 0 0, .slice none 0 0], .string main, .int .i64 5]) ?_ rfl ?_
              · have hb9 := (blk3 w4 g 31 _ _ _ (.slice none 0 0) (.slice none 0 0) (.slice none 0 0) B5.out)
                have t0 := hb9.cell 0
                have t1 := hb9.cell 1
                have t2 := hb9.cell 2
                simp only [List.getElem?_toArray, List.getElem?_cons_zero, List.getElem?_cons_succ] at t0 t1 t2
                simp [results, Try.results10, go_sem, t0, t1, t2]
              · rw [HANS.out]
                exact ⟨_, _, _, rfl, ((ACC.out.trans (R3.out.trans R4.out)).new (set3 w4 g _ _ _) (by rw [HG.out]; exact Nat.le_refl _)), Sl.nil _ _ 1, SlMods.nil _ _, Sl.nil _ _ 1⟩
            · have h64i : decide ((64 : Int) < (names.length : Int)) = false := decide_eq_false (by omega)
              have h64n : decide (64 < names.length) = false := decide_eq_false h64
              have hDb : decide ((65535 : Int) < D) = true := decide_eq_true (by omega)
              clear hroom
              go_wp2_with fail
              refine bodyPost_ret (v := .tuple #[.agg #[.slice none 0 0, .slice none 0 0, .slice none 0 0], .string main, .int .i64 5]) ?_ rfl ?_
              · have hb9 := (blk3 w4 g 31 _ _ _ (.slice none 0 0) (.slice none 0 0) (.slice none 0 0) B5.out)
                have t0 := hb9.cell 0
                have t1 := hb9.cell 1
                have t2 := hb9.cell 2
                simp only [List.getElem?_toArray, List.getElem?_cons_zero, List.getElem?_cons_succ] at t0 t1 t2
                simp [results, Try.results10, go_sem, t0, t1, t2]
              · rw [HANS.out]
                exact ⟨_, _, _, rfl, ((ACC.out.trans (R3.out.trans R4.out)).new (set3 w4 g _ _ _) (by rw [HG.out]; exact Nat.le_refl _)), Sl.nil _ _ 1, SlMods.nil _ _, Sl.nil _ _ 1⟩
          have hans : linkP l main = (imgOf l names, ⟨#[]⟩, 0) := by
            rw [HL1.out]
            unfold linkN
            rw [hkn]
            simp only
            rw [hD, if_neg hroom]
          have h64 : names.length ≤ 64 := by omega
          have h64i : decide ((64 : Int) < (names.length : Int)) = false := decide_eq_false (by omega)
          have h64n : decide (64 < names.length) = false := decide_eq_false (by omega)
          have hDb : decide ((65535 : Int) < D) = false := decide_eq_false (by omega)
          have HRA := Lib.hid hans
          obtain ⟨gi, hgi⟩ : ∃ z, w4.heap.size = z := ⟨_, rfl⟩
          obtain ⟨w2x, hw2x⟩ : ∃ q, w4.alloc (.cells #[.slice An names.length cn, .slice none 0 0, .slice none 0 0] 31) = q := ⟨_, rfl⟩
          have r2x : Wr [] w4 w2x := by rw [← hw2x]; exact (Wr.refl [] _).alloc _
          have bi2 : Blk w2x gi 31 #[.slice An names.length cn, .slice none 0 0, .slice none 0 0] := by rw [← hw2x, ← hgi]; exact Blk.new _ _ _
          have HGI := Lib.hid hgi
          have HW2X := Lib.hid hw2x
          have R2X := Lib.hid r2x
          have BI2 := Lib.hid bi2
          have hgsz := B0.out.lt
          have hg0 := R3.out.size
          have hg1 := R4.out.size
          have HGG := Lib.hid (show g < w4.heap.size by omega)
          have HND2 := Lib.hid HOO.out.nodup
          clear hans hkn hD hroom hgi hw2x r2x bi2 hgsz hg0 hg1
          go_upto_region 25 with (fail)
          rw [HGI.out, HW2X.out]
          clear hDb h64i h64n
          go_wp2_with fail
          go_loopw [16] (fun s16 wr => ∃ k : Nat, k ≤ names.length ∧ s16 = .int .i64 k ∧ ImAtL w4 gi g (.slice An names.length cn) l names k wr) (fun s16 _ => names.length - (intOf s16).toNat)
          case atStart => exact ⟨0, by omega, rfl, R2X.out, _, _, BI2.out, RowM.nil _ _ _, World.ownsRow_nil _ _ _ _, (fun b hb => by cases hb), (fun b hb => by cases hb)⟩
          case round =>
            obtain ⟨k, hk, rfl, acc, vm, vo, bi, hrm, hro, hne1, hne2⟩ := hrel
            obtain ⟨wo, rfl⟩ : ∃ wo : World, wo = wr := ⟨_, rfl⟩
            obtain ⟨Am, cm, rfl⟩ := hrm.shape
            obtain ⟨Ao, co, rfl⟩ := own_shape hro
            have hmk : ((names.take k).map (modOf l names)).length = k := by rw [List.length_map, List.length_take]; omega
            rw [hmk] at bi hrm hne1
            have ACCI := Lib.hid acc
            have BI := Lib.hid bi
            have HRM := Lib.hid hrm
            have HRO := Lib.hid hro
            have HNE1 := Lib.hid hne1
            have HNE2 := Lib.hid hne2
            have RWO := Lib.hid (ACC.out.trans (R3.out.trans (R4.out.trans acc)))
            clear acc bi hrm hro hne1 hne2 hmk
            by_cases hlt : k < names.length
            · obtain ⟨m, hm⟩ : ∃ m, names[k]? = some m := ⟨_, List.getElem?_eq_getElem hlt⟩
              have hmem : m ∈ names := List.mem_of_getElem? hm
              obtain ⟨bm1, om, cm', e, _, _, _, hcm⟩ := Sl.at_ HN.out (j := k) (u := .string m) (by rw [List.getElem?_map, hm]; rfl)
              injection e with e1 _ e3
              subst e1 e3
              have xm := (R4.out.trans ACCI.out).cellOf hcm (by simp)
              have hlti : (k : Int) < (names.length : Int) := by omega
              have hk0 : (0 : Int) ≤ (k : Int) := by omega
              have hof := rof_any l _ m _ wo (SlObjs.at_new HH.out RWO.out) RWO.out.size
              rw [ofP_objOf HOO.out.uniq] at hof
              obtain ⟨o, hoo⟩ : ∃ o, objOf l m = o := ⟨_, rfl⟩
              rw [hoo] at hof
              have husn : ∀ u ∈ o.uses, u.module ∈ names := fun u hu => HOO.out.of hmem (by rw [hoo]; exact hu)
              have husl : o.uses.length ≤ 80 := by
                obtain ⟨o2, ho2, e2, _⟩ := HOO.out.obj m hmem
                have h3 := objOf_uniq HOO.out.uniq ho2
                rw [e2, hoo] at h3
                rw [h3]
                exact FEW2.out o2 ho2
              have HUSN := Lib.hid husn
              have HOF := Lib.hid hof
              have HO := Lib.hid hoo
              have HM := Lib.hid hm
              clear hm hmem hcm hof hoo husn
              go_wp2_with fail
              refine HOF.out.mono ?_
              rintro e w5 ⟨vu, vp, vi, vn, rfl, r5, hol⟩
              obtain ⟨Bu, du, rfl, lu1, lu2⟩ := Sl.form hol.uses
              obtain ⟨Bp, dp, rfl, _, _⟩ := Sl.form hol.mod.procs
              obtain ⟨Bi, di, rfl, _, _⟩ := Sl.form hol.mod.imports
              obtain ⟨Bn, dn, rfl, _, _⟩ := Sl.form hol.mod.init
              unfold maxLen at lu2
              obtain ⟨zo, hzo⟩ : ∃ z, w5.heap.size = z := ⟨_, rfl⟩
              obtain ⟨w5b, hw5b⟩ : ∃ q, w5.alloc (.cells #[.string o.module, .bool o.main, .int .u64 o.key, .slice Bu o.uses.length du, .string o.mod.code, .slice Bp o.mod.procs.length dp, .slice Bi o.mod.imports.length di, .int .i64 o.mod.data, .slice Bn o.mod.init.length dn] 52) = q := ⟨_, rfl⟩
              obtain ⟨w6, hw6⟩ : ∃ q, w5b.alloc (.cells #[.string o.mod.code, .slice Bp o.mod.procs.length dp, .slice none 0 0, .int .i64 o.mod.data, .slice Bn o.mod.init.length dn] 50) = q := ⟨_, rfl⟩
              have s5b : w5b.heap.size = zo + 1 := by rw [← hw5b, World.size_alloc, hzo]
              have r5b : Wr [] w5 w5b := by rw [← hw5b]; exact (Wr.refl [] _).alloc _
              have r6 : Wr [] w5b w6 := by rw [← hw6]; exact (Wr.refl [] _).alloc _
              have b6 : Blk w5b zo 52 #[.string o.module, .bool o.main, .int .u64 o.key, .slice Bu o.uses.length du, .string o.mod.code, .slice Bp o.mod.procs.length dp, .slice Bi o.mod.imports.length di, .int .i64 o.mod.data, .slice Bn o.mod.init.length dn] := by rw [← hw5b, ← hzo]; exact Blk.new _ _ _
              obtain ⟨gm, hgm⟩ : ∃ z, zo + 1 = z := ⟨_, rfl⟩
              have bm6 : Blk w6 gm 50 #[.string o.mod.code, .slice Bp o.mod.procs.length dp, .slice none 0 0, .int .i64 o.mod.data, .slice Bn o.mod.init.length dn] := by rw [← hw6, ← hgm, ← s5b]; exact Blk.new _ _ _
              have R56 := Lib.hid ((r5.trans r5b).trans r6)
              have HOL := Lib.hid (hol.wr0 (r5b.trans r6))
              have B6 := Lib.hid (b6.wr0 r6)
              have BM6 := Lib.hid bm6
              have B6a := Lib.hid b6
              have HZO := Lib.hid hzo
              have HW5B := Lib.hid hw5b
              have HW6 := Lib.hid hw6
              have HGM := Lib.hid hgm
              have HS5B := Lib.hid (s5b.trans hgm)
              have HZ5 := Lib.hid (show wo.heap.size ≤ zo by have := r5.size; omega)
              have HGM6 := Lib.hid bm6.lt
              have z3 := (b6.wr0 r6).cell 3
              simp only [List.getElem?_toArray, List.getElem?_cons_zero, List.getElem?_cons_succ] at z3
              clear r5 hol hzo hw5b hw6 s5b r5b r6 b6 hgm bm6
              go_upto_region 29 with (fail)
              rw [HZO.out, HW5B.out]
              clear xm
              have o4 := (B6a.out).cell 4
              have o5 := (B6a.out).cell 5
              have o6 := (B6a.out).cell 6
              have o7 := (B6a.out).cell 7
              have o8 := (B6a.out).cell 8
              simp only [List.getElem?_toArray, List.getElem?_cons_zero, List.getElem?_cons_succ] at o4 o5 o6 o7 o8
              go_upto_region 31 with (fail)
              rw [HS5B.out, HW6.out]
              clear o4 o5 o6 o7 o8 z3
              go_wp2_with fail
              go_loopw [19] (fun s19 wr => ∃ j : Nat, j ≤ o.uses.length ∧ s19 = .int .i64 j ∧ RIncAt w6 gm o names (.slice Bp o.mod.procs.length dp) (.slice Bn o.mod.init.length dn) j wr) (fun s19 _ => o.uses.length - (intOf s19).toNat)
              case atStart => exact ⟨0, by omega, rfl, Wr.refl _ _, _, BM6.out, World.ownsRow_nil _ _ _ _⟩
              case round =>
                obtain ⟨j, hj, rfl, rin, vi, bm, hown⟩ := hrel
                obtain ⟨Bv, dv, rfl⟩ := own_shape hown
                have hzg : zo ≠ gm := by have := HGM.out; omega
                have hg6 := HGM6.out
                have b3o := B6.out.wr rin (by simpa using hzg)
                have z3 := b3o.cell 3
                simp only [List.getElem?_toArray, List.getElem?_cons_zero, List.getElem?_cons_succ] at z3
                have hbg : ∀ b, b < w.heap.size → b ∉ [gm] := fun b hb hm => by
                  rw [List.mem_singleton] at hm
                  have := HGG.out
                  have := HG.out
                  have := HZ5.out
                  have := HGM.out
                  have := ACCI.out.size
                  omega
                have rwo : Wr [] wo wr := R56.out.new rin (by have := HZ5.out; have := HGM.out; omega)
                have RIN := Lib.hid rin
                have RWR := Lib.hid rwo
                have BMJ := Lib.hid bm
                have HOWN := Lib.hid hown
                have HBG := Lib.hid hbg
                have HZG := Lib.hid hzg
                clear rin rwo bm hown hbg hzg b3o
                by_cases hlt2 : j < o.uses.length
                · obtain ⟨u, hu⟩ : ∃ u, o.uses[j]? = some u := ⟨_, List.getElem?_eq_getElem hlt2⟩
                  obtain ⟨bu, offu, cu, eu, _, _, hcu0⟩ := use_at HOL.out.uses hu
                  injection eu with q1 _ q3
                  subst q1 q3
                  have hul := World.block_lt_of_cell? _ _ (hcu0 0 _ rfl)
                  have hun : bu ∉ [gm] := by
                    obtain ⟨A', c', e', _, _, _, hh⟩ := HOL.out.uses
                    have hx := (hh (j * 2) (.string u.module) (by
                      have := flat_at use_len o.uses j 0 u hu (by decide)
                      rw [Nat.add_zero] at this
                      rw [this]
                      rfl))
                    obtain ⟨b', off', e2, hb', _⟩ := hx
                    injection e' with e3 _ _
                    rw [e2] at e3
                    injection e3 with e3
                    injection e3 with e3 _ _
                    rw [e3]
                    exact HBG.out b' hb'
                  have y0 := RIN.out.cellOf (hcu0 0 _ rfl) hun
                  simp only [Nat.add_zero] at y0
                  have hlti2 : (j : Int) < (o.uses.length : Int) := by omega
                  have hj0 : (0 : Int) ≤ (j : Int) := by omega
                  have hpc : ∀ W, Wr [] wr W → Calls Try.prog 28 #[.slice (some ⟨bm1, om, none⟩) names.length cn, .string u.module] W fun e w' => e = .returned (.int .i64 (placeOf names u.module)) ∧ W = w' := by
                    intro W hW
                    have := rplace_any names _ u.module _ W (Sl.wr0 HN.out (R4.out.trans (ACCI.out.trans (RWR.out.trans hW))))
                    rw [idx_place HND2.out (HUSN.out u (List.mem_of_getElem? hu))] at this
                    exact this
                  obtain ⟨wa, hwa⟩ : ∃ wa, (wr.alloc (.cells #[.int .i64 (placeOf names u.module)] 3)).drew = wa := ⟨_, rfl⟩
                  have ra : Wr [] wr wa := by rw [← hwa]; exact ((Wr.refl [] wr).alloc _).drew
                  have hnew : Blk wa wr.heap.size 3 #[.int .i64 (placeOf names u.module)] := by rw [← hwa]; exact (Blk.new _ _ _).drew
                  have hownA := own_keep HOWN.out ra (fun _ _ => by simp)
                  have hsz6 := RIN.out.size
                  have hsza := ra.size
                  obtain ⟨i0, hi0, hz0, hz1, hz2⟩ := info_parts info_int
                  obtain ⟨v', w7, hrun, hown7, hgrow, _, hbk⟩ := run_append_own_at (P := Try.prog) wa w6.heap.size 27 27 3 i0 _ 1 8 Try.underlying27 hi0 hz0 hz1 hz2 rfl (by decide) _ j _ hownA ⟨wr.heap.size, 0, none⟩ 1 1 [.int .i64 (placeOf names u.module)] rfl (fun q u' hq => by
                    rw [Addr.add_lit, Nat.zero_add, hnew.cell]
                    simpa using hq) (by simp [Value.oneCell']) (by unfold maxLen; omega) (by omega) (by omega)
                  obtain ⟨Av, cv, hv'⟩ := own_shape hown7
                  subst hv'
                  have hwg := Wr.ofGrownOwn hgrow
                  have hlow : ∀ b, b < w6.heap.size → b ∉ ownL (Value.slice Bv j dv) := fun b hb hm => by have := (HOWN.out.lt b (mem_ownL.1 hm)).1; omega
                  have bmA := (BMJ.out.wr0 ra).wr hwg (hlow gm hg6)
                  have hst : Wr [gm] w7 (w7.setCell ⟨gm, 2, none⟩ (.slice Av (j + 1) cv)) := (Wr.refl [gm] w7).setOn (by simp) _
                  have rin2 : Wr [gm] w6 (w7.setCell ⟨gm, 2, none⟩ (.slice Av (j + 1) cv)) :=
                    ((RIN.out.trans0 ra).trans' hwg (fun x hx => .inr ((hownA.lt x (mem_ownL.1 hx)).1))).trans hst
                  have hfin : RIncAt w6 gm o names (.slice Bp o.mod.procs.length dp) (.slice Bn o.mod.init.length dn) (j + 1) (w7.setCell ⟨gm, 2, none⟩ (.slice Av (j + 1) cv)) := by
                    refine ⟨rin2, _, by simpa using bmA.set_ 2 (.slice Av (j + 1) cv), ?_⟩
                    have h1 := own_keep hown7 hst (fun b hb => by have := (hown7.lt b hb).1; simp; omega)
                    rw [List.take_add_one, hu]
                    simpa [ints] using h1
                  have d1 := BMJ.out.cell 2
                  have d0 := bmA.cell 2
                  have f1 := bmA.frozen 2
                  simp only [List.getElem?_toArray, List.getElem?_cons_zero, List.getElem?_cons_succ] at d1 d0
                  have Q1 := Lib.hid (hlow gm hg6)
                  have Q2 := Lib.hid (hlow zo (by have := HGM.out; omega))
                  have Q3 := Lib.hid (hlow bu hul)
                  have HPC := Lib.hid hpc
                  have HWA := Lib.hid hwa
                  have HFIN := Lib.hid hfin
                  have HRUN := Lib.hid hrun
                  have R3x : Hid (Wr (ownL (Value.slice Bv j dv)) ((wr.alloc (.cells #[.int .i64 (placeOf names u.module)] 3)).drew) w7) := Lib.hid (by rw [hwa]; exact hwg)
                  clear hcu0 hul hun hpc hwa ra hnew hownA hsz6 hsza hi0 hz0 hz1 hz2 hrun hown7 hgrow hbk hwg hlow bmA hst rin2 hfin hu
                  go_wp2_with fail
                  have hC : ∀ W, Wr (ownL (Value.slice Bv j dv)) wr W → W.cell? ⟨gm, 2, none⟩ = some (.slice Bv j dv) ∧ W.cell? ⟨zo, 3, none⟩ = some (.slice (some ⟨bu, offu, none⟩) o.uses.length du) ∧ W.cell? ⟨bu, offu + j * 2, none⟩ = some (.string u.module) := fun W hW => ⟨hW.cellOf d1 Q1.out, hW.cellOf z3 Q2.out, hW.cellOf y0 Q3.out⟩
                  have HC := Lib.hid hC
                  clear hC
                  refine wp_region_noPanic ?_
                  refine wp_region_L (Until 13 fun w' => w'.cell? ⟨gm, 2, none⟩ = some (.slice Bv j dv) ∧ w'.cell? ⟨zo, 3, none⟩ = some (.slice (some ⟨bu, offu, none⟩) o.uses.length du) ∧ w'.cell? ⟨bu, offu + j * 2, none⟩ = some (.string u.module)) (by kernel_rfl) (fun hcl => ?_)
                  have hS : Until 13 (fun w' => w'.cell? ⟨gm, 2, none⟩ = some (.slice Bv j dv) ∧ w'.cell? ⟨zo, 3, none⟩ = some (.slice (some ⟨bu, offu, none⟩) o.uses.length du) ∧ w'.cell? ⟨bu, offu + j * 2, none⟩ = some (.string u.module)) (Array.replicate 14 false) wr.drew := fun _ => ⟨d1, z3, y0⟩
                  refine wpAnyL_take (i := 0) (oi := ?oi301) (v := ?v301) ?hi301 (by kernel_rfl) (by kernel_rfl) (by kernel_rfl) (fun _ _ _ h => h) (until_take 13 _ (by decide)) ?hy301 hcl hS ?rest301
                  case hi301 =>
                    simp only [List.getElem?_toArray, List.getElem?_cons_succ, List.getElem?_cons_zero]
                    rfl
                  case hy301 =>
                    refine yields_until (by kernel_rfl) (Or.inl ⟨by rfl, fun w' hS => ?_⟩)
                    try go_split_ands
                    go_simp
                    try rfl
                  case rest301 =>
                  intro hcl1 hS1
                  clear hcl hS
                  try simp only [Act.put, List.setIfInBounds_toArray, List.set_cons_zero, List.set_cons_succ]
                  refine wpAnyL_take (i := 1) (oi := ?oi302) (v := ?v302) ?hi302 (by kernel_rfl) (by kernel_rfl) (by kernel_rfl) (fun _ _ _ h => h) (until_take 13 _ (by decide)) ?hy302 hcl1 hS1 ?rest302
                  case hi302 =>
                    simp only [List.getElem?_toArray, List.getElem?_cons_succ, List.getElem?_cons_zero]
                    rfl
                  case hy302 =>
                    refine yields_until (by kernel_rfl) (Or.inl ⟨by rfl, fun w' hS => ?_⟩)
                    try go_split_ands
                    go_simp
                    try rfl
                  case rest302 =>
                  intro hcl2 hS2
                  clear hcl1 hS1
                  try simp only [Act.put, List.setIfInBounds_toArray, List.set_cons_zero, List.set_cons_succ]
                  refine wpAnyL_take (i := 2) (oi := ?oi303) (v := ?v303) ?hi303 (by kernel_rfl) (by kernel_rfl) (by kernel_rfl) (fun _ _ _ h => h) (until_take 13 _ (by decide)) ?hy303 hcl2 hS2 ?rest303
                  case hi303 =>
                    simp only [List.getElem?_toArray, List.getElem?_cons_succ, List.getElem?_cons_zero]
                    rfl
                  case hy303 =>
                    refine yields_until (by kernel_rfl) (Or.inl ⟨by rfl, fun w' hS => ?_⟩)
                    try go_split_ands
                    go_simp
                    try rfl
                  case rest303 =>
                  intro hcl3 hS3
                  clear hcl2 hS2
                  try simp only [Act.put, List.setIfInBounds_toArray, List.set_cons_zero, List.set_cons_succ]
                  refine wpAnyL_take (i := 3) (oi := ?oi304) (v := ?v304) ?hi304 (by kernel_rfl) (by kernel_rfl) (by kernel_rfl) (fun _ _ _ h => h) (until_take 13 _ (by decide)) ?hy304 hcl3 hS3 ?rest304
                  case hi304 =>
                    simp only [List.getElem?_toArray, List.getElem?_cons_succ, List.getElem?_cons_zero]
                    rfl
                  case hy304 =>
                    refine yields_until (by kernel_rfl) (Or.inl ⟨by rfl, fun w' hS => ?_⟩)
                    try go_split_ands
                    go_simp
                    try rfl
                  case rest304 =>
                  intro hcl4 hS4
                  clear hcl3 hS3
                  try simp only [Act.put, List.setIfInBounds_toArray, List.set_cons_zero, List.set_cons_succ]
                  refine wpAnyL_take (i := 4) (oi := ?oi305) (v := ?v305) ?hi305 (by kernel_rfl) (by kernel_rfl) (by kernel_rfl) (fun _ _ _ h => h) (until_take 13 _ (by decide)) ?hy305 hcl4 hS4 ?rest305
                  case hi305 =>
                    simp only [List.getElem?_toArray, List.getElem?_cons_succ, List.getElem?_cons_zero]
                    rfl
                  case hy305 =>
                    refine yields_until (by kernel_rfl) (Or.inl ⟨by rfl, fun w' hS => ?_⟩)
                    try go_split_ands
                    go_simp
                    try rfl
                  case rest305 =>
                  intro hcl5 hS5
                  clear hcl4 hS4
                  try simp only [Act.put, List.setIfInBounds_toArray, List.set_cons_zero, List.set_cons_succ]
                  refine wpAnyL_take (i := 5) (oi := ?oi306) (v := ?v306) ?hi306 (by kernel_rfl) (by kernel_rfl) (by kernel_rfl) (fun _ _ _ h => h) (until_take 13 _ (by decide)) ?hy306 hcl5 hS5 ?rest306
                  case hi306 =>
                    simp only [List.getElem?_toArray, List.getElem?_cons_succ, List.getElem?_cons_zero]
                    rfl
                  case hy306 =>
                    refine yields_until (by kernel_rfl) (Or.inl ⟨by rfl, fun w' hS => ?_⟩)
                    try go_split_ands
                    go_simp
                    try rfl
                  case rest306 =>
                  intro hcl6 hS6
                  clear hcl5 hS5
                  try simp only [Act.put, List.setIfInBounds_toArray, List.set_cons_zero, List.set_cons_succ]
                  refine wpAnyL_take (i := 6) (oi := ?oi307) (v := ?v307) ?hi307 (by kernel_rfl) (by kernel_rfl) (by kernel_rfl) (fun _ _ _ h => h) (until_take 13 _ (by decide)) ?hy307 hcl6 hS6 ?rest307
                  case hi307 =>
                    simp only [List.getElem?_toArray, List.getElem?_cons_succ, List.getElem?_cons_zero]
                    rfl
                  case hy307 =>
                    refine yields_until (by kernel_rfl) (Or.inl ⟨by rfl, fun w' hS => ?_⟩)
                    try go_split_ands
                    go_simp
                    try rfl
                  case rest307 =>
                  intro hcl7 hS7
                  clear hcl6 hS6
                  try simp only [Act.put, List.setIfInBounds_toArray, List.set_cons_zero, List.set_cons_succ]
                  refine wpAnyL_take (i := 7) (oi := ?oi308) (v := ?v308) ?hi308 (by kernel_rfl) (by kernel_rfl) (by kernel_rfl) (fun _ _ _ h => h) (until_take 13 _ (by decide)) ?hy308 hcl7 hS7 ?rest308
                  case hi308 =>
                    simp only [List.getElem?_toArray, List.getElem?_cons_succ, List.getElem?_cons_zero]
                    rfl
                  case hy308 =>
                    refine yields_until (by kernel_rfl) (Or.inl ⟨by rfl, fun w' hS => ?_⟩)
                    try go_split_ands
                    go_simp
                    try rfl
                  case rest308 =>
                  intro hcl8 hS8
                  clear hcl7 hS7
                  try simp only [Act.put, List.setIfInBounds_toArray, List.set_cons_zero, List.set_cons_succ]
                  refine wpAnyL_take (i := 8) (oi := ?oi309) (v := ?v309) ?hi309 (by kernel_rfl) (by kernel_rfl) (by kernel_rfl) (fun _ _ _ h => h) (until_take 13 _ (by decide)) ?hy309 hcl8 hS8 ?rest309
                  case hi309 =>
                    simp only [List.getElem?_toArray, List.getElem?_cons_succ, List.getElem?_cons_zero]
                    rfl
                  case hy309 =>
                    refine yields_until (by kernel_rfl) (Or.inl ⟨by rfl, fun w' hS => ?_⟩)
                    try go_split_ands
                    go_simp
                    try rfl
                  case rest309 =>
                  intro hcl9 hS9
                  clear hcl8 hS8
                  try simp only [Act.put, List.setIfInBounds_toArray, List.set_cons_zero, List.set_cons_succ]
                  refine wpAnyL_step (i := 9) (o := ?oi310) ?hi310 (by kernel_rfl) hcl9 ?rest310
                  case hi310 =>
                    simp only [List.getElem?_toArray, List.getElem?_cons_succ, List.getElem?_cons_zero]
                    rfl
                  case rest310 =>
                  intro K hK
                  go_simp
                  go_at_call 28
                  refine (HPC.out _ ((Wr.refl [] wr).drew)).mono ?_
                  rintro e w' ⟨rfl, rfl⟩
                  refine hK _ _ (fun _ => HC.out _ ((Wr.refl _ wr).drew)) (fun hcl10 => ?_)
                  clear hK K hcl9 hS9
                  try simp only [Act.put, List.setIfInBounds_toArray, List.set_cons_zero, List.set_cons_succ]
                  refine wpAnyL_step (i := 10) (o := ?oi311) ?hi311 (by kernel_rfl) hcl10 ?rest311
                  case hi311 =>
                    simp only [List.getElem?_toArray, List.getElem?_cons_succ, List.getElem?_cons_zero]
                    rfl
                  case rest311 =>
                  intro K hK
                  go_simp
                  refine hK _ _ (fun _ => HC.out _ (((Wr.refl _ wr).alloc _).drew)) (fun hcl11 => ?_)
                  clear hK K hcl10
                  try simp only [Act.put, List.setIfInBounds_toArray, List.set_cons_zero, List.set_cons_succ]
                  refine wpAnyL_step (i := 11) (o := ?oi312) ?hi312 (by kernel_rfl) hcl11 ?rest312
                  case hi312 =>
                    simp only [List.getElem?_toArray, List.getElem?_cons_succ, List.getElem?_cons_zero]
                    rfl
                  case rest312 =>
                  intro K hK
                  rw [HWA.out]
                  refine step_append_run (by rfl) _ _ _ (by rfl) _ _ (by rfl) (by rfl) _ _ HRUN.out ?_
                  refine hK _ _ (fun _ => HC.out _ ((((Wr.refl _ wr).alloc _).drew).trans R3x.out)) (fun hcl12 => ?_)
                  clear hK K hcl11
                  try simp only [Act.put, List.setIfInBounds_toArray, List.set_cons_zero, List.set_cons_succ]
                  refine wpAnyL_take (i := 12) (oi := ?oi313) (v := ?v313) ?hi313 (by kernel_rfl) (by kernel_rfl) (by kernel_rfl) (fun _ _ _ h => h) (until_take 13 _ (by decide)) ?hy313 hcl12 (fun _ => HC.out _ ((((Wr.refl _ wr).alloc _).drew).trans R3x.out)) ?rest313
                  case hi313 =>
                    simp only [List.getElem?_toArray, List.getElem?_cons_succ, List.getElem?_cons_zero]
                    rfl
                  case hy313 =>
                    refine yields_until (by kernel_rfl) (Or.inl ⟨by rfl, fun w' hS => ?_⟩)
                    try go_split_ands
                    go_simp
                    try rfl
                  case rest313 =>
                  intro hcl13 hS13
                  clear hcl12
                  try simp only [Act.put, List.setIfInBounds_toArray, List.set_cons_zero, List.set_cons_succ]
                  refine wpAnyL_step (i := 13) (o := ?oi314) ?hi314 (by kernel_rfl) hcl13 ?rest314
                  case hi314 =>
                    simp only [List.getElem?_toArray, List.getElem?_cons_succ, List.getElem?_cons_zero]
                    rfl
                  case rest314 =>
                  intro K hK
                  go_simp
                  refine hK _ _ (fun hb => absurd hb (by decide)) (fun hcl999 => ?_)
                  clear hK K hcl13 hS13
                  refine wpAnyL_done (by kernel_rfl) (NoPanic.normal ?_) _
                  try simp only [Act.put, List.setIfInBounds_toArray, List.set_cons_zero, List.set_cons_succ]
                  go_wp2_with fail
                  go_roundw
                  case rel => exact ⟨j + 1, by omega, by go_num, HFIN.out⟩
                  case measure => simp [intOf]; omega
                · obtain rfl : j = o.uses.length := by omega
                  have hsz1 := HGI.out
                  have hsz2 := HGM.out
                  have hgg := HGG.out
                  have hg0 := HG.out
                  have hz5 := HZ5.out
                  have hgw : gi < wo.heap.size := BI.out.lt
                  have hwow := ACCI.out.size
                  have rin := RWR.out
                  have bm := BMJ.out
                  have hown := HOWN.out
                  have hg6 := HGM6.out
                  have hrwz := RIN.out.size
                  have hlow6 : wo.heap.size ≤ w6.heap.size := R56.out.size
                  obtain ⟨wB, hwB⟩ : ∃ wB, wr.alloc (.cells #[.string o.mod.code, .slice Bp o.mod.procs.length dp, .slice Bv o.uses.length dv, .int .i64 o.mod.data, .slice Bn o.mod.init.length dn] 50) = wB := ⟨_, rfl⟩
                  obtain ⟨zz, hzz⟩ : ∃ zz, wr.heap.size = zz := ⟨_, rfl⟩
                  have rB : Wr [] wr wB := by rw [← hwB]; exact (Wr.refl [] wr).alloc _
                  have zB : wB.heap.size = zz + 1 := by rw [← hwB, World.size_alloc, hzz]
                  have hnew : Blk wB zz 50 #[.string o.mod.code, .slice Bp o.mod.procs.length dp, .slice Bv o.uses.length dv, .int .i64 o.mod.data, .slice Bn o.mod.init.length dn] := by rw [← hwB, ← hzz]; exact Blk.new _ _ _
                  have rwoB := rin.trans rB
                  obtain ⟨xs, h1, h2, h3⟩ := HRM.out.keep rwoB (fun _ _ => by simp) (fun _ _ => by simp)
                  have hmk : ((names.take k).map (modOf l names)).length = k := by rw [List.length_map, List.length_take]; omega
                  have hroB := own_keep HRO.out rwoB (fun _ _ => by simp)
                  have hvmlt := own_lt (own_keep (show wo.ownsRow w4.heap.size _ 5 (.slice Am k cm) _ _ from HRM.out.choose_spec.1) (Wr.refl [] wo) (fun _ _ => by simp))
                  have hvolt := own_lt HRO.out
                  have hmlB : ModL wB (fun b => (b ≠ gi ∧ b ∉ ownL (.slice Am k cm) ∧ b ∉ ownL (.slice Ao k co) ∧ b ≠ g) ∧ b < wB.heap.size) (.slice Bp o.mod.procs.length dp) (.slice Bv o.uses.length dv) (.slice Bn o.mod.init.length dn) (modOf l names m) := by
                    have hold := (HOL.out.mod.keep RIN.out HBG.out).wr0 rB
                    have hbl : ∀ b, b < w.heap.size → (b ≠ gi ∧ b ∉ ownL (.slice Am k cm) ∧ b ∉ ownL (.slice Ao k co) ∧ b ≠ g) := fun b hb => ⟨by omega, fun hm => by
                      have := (h1.lt b (mem_ownL.1 hm)).1
                      omega, fun hm => by
                      have := (HRO.out.lt b (mem_ownL.1 hm)).1
                      omega, by omega⟩
                    have hold2 := hold.into (Q := fun b => (b ≠ gi ∧ b ∉ ownL (.slice Am k cm) ∧ b ∉ ownL (.slice Ao k co) ∧ b ≠ g) ∧ b < wB.heap.size) (fun b hb hlt => ⟨hbl b hb, hlt⟩)
                    have himp := Sl.ofOwn (P := fun b => (b ≠ gi ∧ b ∉ ownL (.slice Am k cm) ∧ b ∉ ownL (.slice Ao k co) ∧ b ≠ g) ∧ b < wB.heap.size) (own_keep hown rB (fun _ _ => by simp)) (fun b hb => by
                      have hb1 := (hown.lt b hb)
                      have := rB.size
                      refine ⟨⟨by omega, fun hm => ?_, fun hm => ?_, by omega⟩, by omega⟩
                      · have := hvmlt b (mem_ownL.1 hm); omega
                      · have := hvolt b (mem_ownL.1 hm); omega)
                    rw [List.take_length] at himp
                    have e : modOf l names m = { o.mod with imports := o.uses.map fun u => placeOf names u.module } := by unfold modOf; rw [HO.out]
                    rw [e]
                    refine ⟨hold2.procs, ?_, hold2.init⟩
                    unfold SlI64
                    rw [List.length_map]
                    exact himp
                  obtain ⟨i1, hi1, hy0, hy1, hy2⟩ := info_parts info_mod
                  obtain ⟨v1, w5c, hrun1, hown5, hgrow5, _, hbk5⟩ := run_append_own_at (P := Try.prog) wB w4.heap.size 26 26 50 i1 _ 5 96 Try.underlying26 hi1 hy0 hy1 hy2 rfl (by decide) _ _ _ h1 ⟨zz, 0, none⟩ 1 1 [.string o.mod.code, .slice Bp o.mod.procs.length dp, .slice Bv o.uses.length dv, .int .i64 o.mod.data, .slice Bn o.mod.init.length dn] rfl (fun q u' hq => by
                    rw [Addr.add_lit, Nat.zero_add, hnew.cell]
                    simpa using hq) (by simp [Value.oneCell']) (by unfold maxLen; omega) (by omega) (Nat.le_trans (ACCI.out.trans rwoB).size (Nat.le_refl _))
                  rw [hmk] at hown5
                  obtain ⟨A1, c1, hv1⟩ := own_shape hown5
                  subst hv1
                  have hwg5 := Wr.ofGrownOwn hgrow5
                  have hv1b : ∀ b, (Value.slice A1 (k + 1) c1).ownBlock = some b → b ≠ gi ∧ b ∉ ownL (.slice Ao k co) := by
                    intro b hb
                    rcases hbk5 with h | h
                    · exact HNE1.out b (h ▸ hb)
                    · rw [h] at hb
                      injection hb with hb
                      have := rwoB.size
                      exact ⟨by omega, fun hm => by have := hvolt b (mem_ownL.1 hm); omega⟩
                  have hcat : (names.take (k + 1)).map (modOf l names) = (names.take k).map (modOf l names) ++ [modOf l names m] := by rw [List.take_add_one, HM.out]; simp
                  have hmcells : [.string o.mod.code, .slice Bp o.mod.procs.length dp, .slice Bv o.uses.length dv, .int .i64 o.mod.data, .slice Bn o.mod.init.length dn] = (modOf l names m).cells (.slice Bp o.mod.procs.length dp) (.slice Bv o.uses.length dv) (.slice Bn o.mod.init.length dn) := by
                    unfold modOf ModD.cells
                    rw [HO.out]
                  have hpush := RowM.push (Q := fun b => (b ≠ gi ∧ b ∉ ownL (.slice Am k cm) ∧ b ∉ ownL (.slice Ao k co) ∧ b ≠ g) ∧ b < wB.heap.size) h1 h2 (fun i x hi => by
                    obtain ⟨vp', vi', vn2, e1, e2⟩ := h3 i x hi
                    exact ⟨vp', vi', vn2, e1, e2.into (fun b hb hlt => ⟨hb, hlt⟩)⟩) (fun b hb => hb.1.2.1) hmlB hgrow5 (by rw [hmk, ← hmcells]; exact hown5)
                  rw [← hcat] at hpush
                  have biB := BI.out.wr0 rwoB
                  have hgi5 : gi ∉ ownL (.slice Am k cm) := fun hx => (HNE1.out _ (mem_ownL.1 hx)).1 rfl
                  have bi5 := biB.wr hwg5 hgi5
                  obtain ⟨w6b, hw6b⟩ : ∃ w6b, w5c.setCell ⟨gi, 1, none⟩ (.slice A1 (k + 1) c1) = w6b := ⟨_, rfl⟩
                  have r6 : Wr [gi] w5c w6b := by rw [← hw6b]; exact (Wr.refl [gi] w5c).setOn (by simp) _
                  have bi6 : Blk w6b gi 31 #[.slice (some ⟨bm1, om, none⟩) names.length cn, .slice A1 (k + 1) c1, .slice Ao k co] := by rw [← hw6b]; simpa using bi5.set_ 1 (.slice A1 (k + 1) c1)
                  have hp6 := hpush.keep r6 (fun b hb => by simpa using (hv1b b hb).1) (fun b hb => by simpa using hb.1.1)
                  have hro5 := own_keep hroB hwg5 (fun b hb hx => (HNE1.out b (mem_ownL.1 hx)).2 (mem_ownL.2 hb))
                  have hro6 := own_keep hro5 r6 (fun b hb => by simpa using HNE2.out b hb)
                  obtain ⟨wC, hwC⟩ : ∃ wC, w6b.alloc (.cells #[.int .i64 (k : Int)] 3) = wC := ⟨_, rfl⟩
                  obtain ⟨z6, hz6⟩ : ∃ z, w6b.heap.size = z := ⟨_, rfl⟩
                  have rC : Wr [] w6b wC := by rw [← hwC]; exact (Wr.refl [] w6b).alloc _
                  have hnewC : Blk wC z6 3 #[.int .i64 (k : Int)] := by rw [← hwC, ← hz6]; exact Blk.new _ _ _
                  have hp7 := hp6.keep rC (fun _ _ => by simp) (fun _ _ => by simp)
                  have hro7 := own_keep hro6 rC (fun _ _ => by simp)
                  have acc5 : Wr [] w4 w5c := (ACCI.out.trans rwoB).trans' hwg5 (fun x hx => .inr ((h1.lt x (mem_ownL.1 hx)).1))
                  have acc6 : Wr [] w4 w6b := acc5.new r6 (by omega)
                  have accC := acc6.trans rC
                  have sz5 := hwg5.size
                  have sz6 := r6.size
                  have szC := rC.size
                  obtain ⟨i0, hi0, hz0, hz1, hz2⟩ := info_parts info_int
                  obtain ⟨v2, w7, hrun2, hown7, hgrow7, _, hbk7⟩ := run_append_own_at (P := Try.prog) wC w4.heap.size 27 27 3 i0 _ 1 8 Try.underlying27 hi0 hz0 hz1 hz2 rfl (by decide) _ _ _ hro7 ⟨z6, 0, none⟩ 1 1 [.int .i64 (k : Int)] rfl (fun q u' hq => by
                    rw [Addr.add_lit, Nat.zero_add, hnewC.cell]
                    simpa using hq) (by simp [Value.oneCell']) (by unfold maxLen; omega) (by omega) accC.size
                  obtain ⟨A2, c2, hv2⟩ := own_shape hown7
                  subst hv2
                  have hwg7 := Wr.ofGrownOwn hgrow7
                  have hgi7 : gi ∉ ownL (.slice Ao k co) := fun hx => HNE2.out _ (mem_ownL.1 hx) rfl
                  have bi7 := (bi6.wr0 rC).wr hwg7 hgi7
                  obtain ⟨w8, hw8⟩ : ∃ w8, w7.setCell ⟨gi, 2, none⟩ (.slice A2 (k + 1) c2) = w8 := ⟨_, rfl⟩
                  have r8 : Wr [gi] w7 w8 := by rw [← hw8]; exact (Wr.refl [gi] w7).setOn (by simp) _
                  have bi8 : Blk w8 gi 31 #[.slice (some ⟨bm1, om, none⟩) names.length cn, .slice A1 (k + 1) c1, .slice A2 (k + 1) c2] := by rw [← hw8]; simpa using bi7.set_ 2 (.slice A2 (k + 1) c2)
                  have hv2b : ∀ b, (Value.slice A2 (k + 1) c2).ownBlock = some b → b ≠ gi ∧ (b ∈ ownL (.slice Ao k co) ∨ b = wC.heap.size) := by
                    intro b hb
                    rcases hbk7 with h | h
                    · exact ⟨HNE2.out b (h ▸ hb), .inl (mem_ownL.2 (h ▸ hb))⟩
                    · rw [h] at hb
                      injection hb with hb
                      have := rwoB.size
                      exact ⟨by omega, .inr hb.symm⟩
                  have hp8 := (hp7.keep hwg7 (fun b hb hx => (hv1b b hb).2 hx) (fun b hb => hb.1.2.2.1)).keep r8 (fun b hb => by simpa using (hv1b b hb).1) (fun b hb => by simpa using hb.1.1)
                  have hv1lt : ∀ b, (Value.slice A1 (k + 1) c1).ownBlock = some b → b < w5c.heap.size := own_lt hown5
                  have hfin : ImAtL w4 gi g (.slice (some ⟨bm1, om, none⟩) names.length cn) l names (k + 1) w8 := by
                    refine ⟨(accC.trans' hwg7 (fun x hx => .inr ((hro7.lt x (mem_ownL.1 hx)).1))).new r8 (by omega), _, _, bi8, ?_, ?_, fun b hb => ⟨(hv1b b hb).1, fun hm => ?_⟩, fun b hb => (hv2b b hb).1⟩
                    · refine hp8.into (fun b hb _ => ⟨hb.1.1, fun hm => ?_, fun hm => ?_, hb.1.2.2.2⟩)
                      · rw [mem_ownL] at hm
                        rcases hbk5 with h | h
                        · exact hb.1.2.1 (mem_ownL.2 (h ▸ hm))
                        · rw [h] at hm
                          injection hm with hm
                          omega
                      · rcases (hv2b b (mem_ownL.1 hm)).2 with h | h
                        · exact hb.1.2.2.1 h
                        · omega
                    · have h9 := own_keep hown7 r8 (fun b hb => by simpa using (hv2b b hb).1)
                      rw [List.range_succ]
                      simpa [ints] using h9
                    · rcases (hv2b b (mem_ownL.1 hm)).2 with h | h
                      · exact (hv1b b hb).2 h
                      · have := hv1lt b hb
                        omega
                  have d0 := bm.cell 0
                  have d1 := bm.cell 1
                  have d2 := bm.cell 2
                  have d3 := bm.cell 3
                  have d4 := bm.cell 4
                  have e1 := (BI.out.wr0 RWR.out).cell 1
                  have hgi1 := (BI.out.wr0 RWR.out).lt
                  have e5 := bi5.cell 1
                  have f5 := bi5.frozen 1
                  have e6 := bi6.cell 2
                  have hgi6 := bi6.lt
                  have e7 := bi7.cell 2
                  have f7 := bi7.frozen 2
                  simp only [List.getElem?_toArray, List.getElem?_cons_zero, List.getElem?_cons_succ] at d0 d1 d2 d3 d4 e1 e5 e6 e7
                  have HFIN := Lib.hid hfin
                  have HRUN1 := Lib.hid hrun1
                  have HRUN2 := Lib.hid hrun2
                  have HWB := Lib.hid hwB
                  have HZZ := Lib.hid hzz
                  have HW6b := Lib.hid hw6b
                  have HWC := Lib.hid hwC
                  have HZ6 := Lib.hid hz6
                  have HW8 := Lib.hid hw8
                  clear hsz1 hsz2 hgg hg0 hz5 hrwz hlow6 hg6 hgw hwow hwB hzz rB zB hnew rwoB h1 h2 h3 hmk hroB hvmlt hvolt hmlB hi1 hy0 hy1 hy2 hrun1 hown5 hgrow5 hbk5 hwg5 hv1b hcat hmcells hpush biB hgi5 bi5 hw6b r6 bi6 hp6 hro5 hro6 hwC hz6 rC hnewC hp7 hro7 acc5 acc6 accC sz5 sz6 szC
                  clear hi0 hz0 hz1 hz2 hrun2 hown7 hgrow7 hbk7 hwg7 hgi7 bi7 hw8 r8 bi8 hv2b hp8 hv1lt hfin rin bm hown
                  go_upto_region 36 with (at_builtin; rw [HZZ.out, HWB.out]; refine wpList_append_run rfl _ _ _ rfl _ _ rfl rfl _ _ HRUN1.out ?_)
                  rw [HW6b.out]
                  clear d0 d1 d2 d3 d4 e1 hgi1 e5 f5
                  go_wp2_with (at_builtin; rw [HZ6.out, HWC.out]; refine wpList_append_run rfl _ _ _ rfl _ _ rfl rfl _ _ HRUN2.out ?_)
                  rw [HW8.out]
                  go_roundw
                  case rel => exact ⟨k + 1, by omega, by go_num, HFIN.out⟩
                  case measure => simp [intOf]; omega
            · obtain rfl : k = names.length := by omega
              have hrm := HRM.out
              rw [List.take_length] at hrm
              have bp := B0.out.wr0 (R3.out.trans (R4.out.trans ACCI.out))
              have z0 := bp.cell 0
              have z1 := bp.cell 1
              have z2 := bp.cell 2
              have f0 := bp.frozen 0
              have f1 := bp.frozen 1
              have f2 := bp.frozen 2
              have y0 := BI.out.cell 0
              have y1 := BI.out.cell 1
              have y2 := BI.out.cell 2
              simp only [List.getElem?_toArray, List.getElem?_cons_zero, List.getElem?_cons_succ] at z0 z1 z2 y0 y1 y2
              have hb9 := blk3 wo g 31 _ _ _ (.slice An names.length cn) (.slice Am names.length cm) (.slice Ao names.length co) bp
              have hgi := HGI.out
              have hgg := HGG.out
              have rT := set3 wo g (.slice An names.length cn) (.slice Am names.length cm) (.slice Ao names.length co)
              have hmods : SlMods (((wo.setCell ⟨g, 0, none⟩ (.slice An names.length cn)).setCell ⟨g, 1, none⟩ (.slice Am names.length cm)).setCell ⟨g, 2, none⟩ (.slice Ao names.length co)) (fun _ => True) (.slice Am names.length cm) (names.map (modOf l names)) := by
                have hk := hrm.keep rT (fun b hb hx => ?_) (fun b hb => by simpa using hb.2.2.2)
                · exact hk.sl
                · obtain ⟨xs, g1, _⟩ := hrm
                  have := (g1.lt b hb).1
                  simp at hx
                  omega
              have HRT := Lib.hid rT
              have HMODS := Lib.hid hmods
              have HB9 := Lib.hid hb9
              have HGIG := Lib.hid (And.intro hgi hgg)
              have hnn : g ≠ gi := by omega
              have hnn2 : gi ≠ g := by omega
              clear hrm bp hgi hgg rT hmods hb9
              go_wp2_with fail
              refine bodyPost_ret (v := .tuple #[.agg #[.slice An names.length cn, .slice Am names.length cm, .slice Ao names.length co], .string ⟨#[]⟩, .int .i64 0]) ?_ rfl ?_
              · have t0 := HB9.out.cell 0
                have t1 := HB9.out.cell 1
                have t2 := HB9.out.cell 2
                simp only [List.getElem?_toArray, List.getElem?_cons_zero, List.getElem?_cons_succ] at t0 t1 t2
                simp [results, Try.results10, go_sem, t0, t1, t2]
              · rw [HRA.out]
                refine ⟨_, _, _, rfl, RWO.out.new HRT.out (by rw [HG.out]; exact Nat.le_refl _), ?_, HMODS.out, ?_⟩
                · have h1 := Sl.wr0 HN.out (R4.out.trans ACCI.out)
                  refine Sl.mono (Sl.keep h1 HRT.out (fun b hb hx => ?_)) (fun _ _ => trivial)
                  rw [List.mem_singleton] at hx
                  have := R2.out.size
                  have := B0.out.lt
                  omega
                · have h1 := Sl.ofOwn (P := fun b => b ≠ g) HRO.out (fun b hb => by
                    have := (HRO.out.lt b hb).1
                    have := HGIG.out
                    omega)
                  have h2 := Sl.mono (Sl.keep h1 HRT.out (fun b hb => by simpa using hb)) (fun _ _ => trivial)
                  show Sl _ (fun _ => True) 1 _ ((List.range names.length).map Int.ofNat).length _
                  rw [List.length_map, List.length_range]
                  exact h2
end Go.Proofs.Ytfeeeogkkajefaa
