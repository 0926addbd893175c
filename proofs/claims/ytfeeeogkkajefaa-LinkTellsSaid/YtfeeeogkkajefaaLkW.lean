/- link's Needs: walked. Conditions: the lists are not too long. -/
import Derived.Test.YtfeeeogkkajefaaLkV
namespace Go.Proofs.Ytfeeeogkkajefaa
open Go.RowKit
set_option linter.unusedVariables false
set_option linter.unusedSimpArgs false

section
variable {w : World} {P : Nat → Prop} {v : Value}
theorem obj_at {l : List ObjD} (h : SlObjs w P v l) {i : Nat} {o : ObjD} (hi : l[i]? = some o) : ∃ b off c vu vp vi vn, v = .slice (some ⟨b, off, none⟩) l.length c ∧ (∀ j u, (o.cells vu vp vi vn)[j]? = some u → w.cell? ⟨b, off + i * 9 + j, none⟩ = some u) ∧ ObjL w P vu vp vi vn o := by
  obtain ⟨xs, h1, h2, h3⟩ := h
  obtain ⟨vu, vp, vi, vn, e1, e2⟩ := h3 i o hi
  obtain ⟨b, off, c, e, _, _, _, h4⟩ := Sl.thing h1 (by decide) (List.getElem?_eq_some_iff.1 hi).1
  refine ⟨b, off, c, vu, vp, vi, vn, e, fun j u hj => ?_, e2⟩
  have hj9 : j < 9 := (List.getElem?_eq_some_iff.1 hj).1
  rw [Nat.add_assoc]
  exact h4 j u hj9 (e1 j u hj)
end
/-- A row of needs, as it grows. -/
def RowN (w wr : World) (l : List NeedD) (vo : Value) : Prop :=
  ∃ xs, wr.ownsRow w.heap.size 40 2 vo l.length xs ∧ (∀ u ∈ xs, u.oneCell' = true) ∧ ∀ i x, l[i]? = some x → ∃ vn, (∀ j u, (x.cells vn)[j]? = some u → xs[i * 2 + j]? = some u) ∧ SlStr wr (fun b => w.heap.size ≤ b ∧ b ∉ ownL vo) vn x.needs
theorem RowN.nil (w : World) : RowN w w [] (.slice none 0 0) := ⟨[], World.ownsRow_nil _ _ _ _, by simp, fun i x h => by simp at h⟩
theorem RowN.wr0 {w wr W : World} {l : List NeedD} {vo : Value} (h : RowN w wr l vo) (hw : Wr [] wr W) : RowN w W l vo := by
  obtain ⟨xs, h1, h2, h3⟩ := h
  refine ⟨xs, own_keep h1 hw (fun _ _ => by simp), h2, fun i x hi => ?_⟩
  obtain ⟨vn, e1, e2⟩ := h3 i x hi
  exact ⟨vn, e1, Sl.wr0 e2 hw⟩
theorem RowN.push {w wr W : World} {l : List NeedD} {vo v' vn : Value} {x : NeedD} {xs : List Value} (h1 : wr.ownsRow w.heap.size 40 2 vo l.length xs) (h2 : ∀ u ∈ xs, u.oneCell' = true)
    (h3 : ∀ (i : Nat) (x : NeedD), l[i]? = some x → ∃ vn, (∀ (j : Nat) (u : Value), (x.cells vn)[j]? = some u → xs[i * 2 + j]? = some u) ∧ SlStr wr (fun b => w.heap.size ≤ b ∧ b ∉ ownL vo) vn x.needs)
    (hsz : w.heap.size ≤ wr.heap.size) (hx : SlStr wr (fun b => w.heap.size ≤ b ∧ b ∉ ownL vo) vn x.needs) (hn : vn.oneCell' = true)
    (hown : W.ownsRow w.heap.size 40 2 v' (l.length + 1) (xs ++ x.cells vn)) (hg : wr.grownBy W vo.ownBlock) (hb : v'.ownBlock = vo.ownBlock ∨ v'.ownBlock = some wr.heap.size) : RowN w W (l ++ [x]) v' := by
  have hw : Wr (ownL vo) wr W := Wr.ofGrownOwn hg
  have hkeep : ∀ {vm : Value} {s : List ByteArray}, SlStr wr (fun b => w.heap.size ≤ b ∧ b ∉ ownL vo) vm s → SlStr W (fun b => w.heap.size ≤ b ∧ b ∉ ownL v') vm s := by
    intro vm s hs
    have hs2 : Sl wr (fun b => (w.heap.size ≤ b ∧ b ∉ ownL vo) ∧ b < wr.heap.size) 1 vm s.length (s.map Value.string) := Sl.into hs (fun b hb hlt => ⟨hb, hlt⟩)
    refine Sl.mono (Sl.keep hs2 hw (fun b hb => hb.1.2)) (fun b hb => ⟨hb.1.1, fun hm => ?_⟩)
    rw [mem_ownL] at hm
    rcases hb with ⟨hb1, hb2⟩
    rcases ‹v'.ownBlock = vo.ownBlock ∨ v'.ownBlock = some wr.heap.size› with e | e
    · rw [e] at hm
      exact hb1.2 (mem_ownL.2 hm)
    · rw [e] at hm
      injection hm with hm
      omega
  have hxl := h1.1
  refine ⟨xs ++ x.cells vn, by rw [List.length_append]; exact hown, ?_, fun i y hi => ?_⟩
  · intro u hu
    rcases List.mem_append.1 hu with hu | hu
    · exact h2 u hu
    · simp only [NeedD.cells, List.mem_cons, List.not_mem_nil, or_false] at hu
      rcases hu with rfl | rfl
      · rfl
      · exact hn
  · rcases Nat.lt_or_ge i l.length with hlt | hge
    · rw [List.getElem?_append_left hlt] at hi
      obtain ⟨vm, e1, e2⟩ := h3 i y hi
      refine ⟨vm, fun j u hj => ?_, hkeep e2⟩
      have := e1 j u hj
      rw [List.getElem?_append_left (List.getElem?_eq_some_iff.1 this).1]
      exact this
    · rw [List.getElem?_append_right hge] at hi
      have hil : i = l.length := by
        rcases Nat.eq_zero_or_pos (i - l.length) with h | h
        · omega
        · rw [List.getElem?_eq_none (by simp; omega)] at hi; cases hi
      subst hil
      rw [Nat.sub_self] at hi
      simp only [List.getElem?_cons_zero, Option.some.injEq] at hi
      subst hi
      refine ⟨vn, fun j u hj => ?_, hkeep hx⟩
      rw [List.getElem?_append_right (by rw [hxl]; omega), hxl, Nat.add_sub_cancel_left]
      exact hj
theorem RowN.sl {w wr : World} {l : List NeedD} {vo : Value} (h : RowN w wr l vo) : SlNeeds wr (fun b => w.heap.size ≤ b) vo l := by
  obtain ⟨xs, h1, h2, h3⟩ := h
  refine ⟨xs, Sl.ofOwn h1 (fun b hb => (h1.lt b hb).1), h2, fun i x hi => ?_⟩
  obtain ⟨vn, e1, e2⟩ := h3 i x hi
  exact ⟨vn, e1, Sl.mono e2 (fun b hb => hb.1)⟩
theorem info_needs : (Try.prog.info? 40).map (fun i => (i.zero, i.size, i.bytes)) = some (some (.agg #[.string ⟨#[]⟩, .slice none 0 0]), 2, 40) := by kernel_rfl
def LnAt (w : World) (l : List ObjD) (k : Nat) (s2 : Value) (wr : World) : Prop := Wr [] w wr ∧ RowN w wr ((l.take k).map needOf) s2
/-- The inner loop. -/
def InAt (wo : World) (gO gN : Nat) (cs : Array Value) (o : ObjD) (j : Nat) (wr : World) : Prop :=
  Wr [] wo wr ∧ Blk wr gO 52 cs ∧ ∃ vc, Blk wr gN 40 #[.string o.module, vc] ∧ wr.ownsRow wo.heap.size 9 1 vc j (((o.uses.take j).map UseD.module).map Value.string) ∧ ∀ b, vc.ownBlock = some b → b ≠ gO ∧ b ≠ gN
set_option maxRecDepth 100000 in
set_option maxHeartbeats 8000000 in
theorem lneeds_any (l : List ObjD) (v : Value) (P : Nat → Prop) (w : World) (h : SlObjs w P v l) (hlen : l.length ≤ 1000000000) (hus : ∀ o ∈ l, o.uses.length ≤ 1000000000) :
    Calls Try.prog 11 #[v] w fun e w' => ∃ vo, e = .returned vo ∧ Wr [] w w' ∧ SlNeeds w' (fun b => w.heap.size ≤ b) vo (l.map needOf) := by
  obtain ⟨i0, hi0, hz0, hz1, hz2⟩ := info_parts info_strO
  obtain ⟨i1, hi1, hy0, hy1, hy2⟩ := info_parts info_needs
  obtain ⟨A, c, rfl, l1, l2⟩ := SlObjs.form h
  unfold maxLen at l2
  have HH := Lib.hid h
  have HUS := Lib.hid hus
  clear h hus
  go_enter Try.func11, Try.ntmps11
  go_wp2_with fail
  go_loopw [2, 10] (fun s2 s10 wr => ∃ k : Nat, k ≤ l.length ∧ s10 = .int .i64 k ∧ LnAt w l k s2 wr) (fun _ s10 _ => l.length - (intOf s10).toNat)
  case atStart => exact ⟨0, by omega, rfl, Wr.refl [] w, RowN.nil w⟩
  case round =>
    obtain ⟨k, hk, rfl, acc, hrow⟩ := hrel
    obtain ⟨wo, rfl⟩ : ∃ wo : World, wo = wr := ⟨_, rfl⟩
    by_cases hlt : k < l.length
    · obtain ⟨o, ho⟩ : ∃ o, l[k]? = some o := ⟨_, List.getElem?_eq_getElem hlt⟩
      obtain ⟨b, off, c', vu, vp, vi, vn, e, hc, hol⟩ := obj_at (HH.out.wr0 acc) ho
      injection e with e1 e2 e3
      subst e1
      subst e3
      obtain ⟨Bu, du, rfl, lu1, lu2⟩ := Sl.form hol.uses
      obtain ⟨Bp, dp, rfl, _, _⟩ := Sl.form hol.mod.procs
      obtain ⟨Bi, di, rfl, _, _⟩ := Sl.form hol.mod.imports
      obtain ⟨Bn, dn, rfl, _, _⟩ := Sl.form hol.mod.init
      unfold maxLen at lu2
      have x0 := hc 0 _ rfl
      have x1 := hc 1 _ rfl
      have x2 := hc 2 _ rfl
      have x3 := hc 3 _ rfl
      have x4 := hc 4 _ rfl
      have x5 := hc 5 _ rfl
      have x6 := hc 6 _ rfl
      have x7 := hc 7 _ rfl
      have x8 := hc 8 _ rfl
      simp only [Nat.add_zero] at x0
      have husz := HUS.out o (List.mem_of_getElem? ho)
      have hto : (l.take (k + 1)).map needOf = (l.take k).map needOf ++ [needOf o] := by rw [List.take_add_one, ho]; simp
      obtain ⟨sz, hsz⟩ : ∃ sz, wo.heap.size = sz := ⟨_, rfl⟩
      obtain ⟨w0, hw0⟩ : ∃ w0, (wo.alloc (.cells #[.string o.module, .bool o.main, .int .u64 o.key, .slice Bu o.uses.length du, .string o.mod.code, .slice Bp o.mod.procs.length dp, .slice Bi o.mod.imports.length di, .int .i64 o.mod.data, .slice Bn o.mod.init.length dn] 52)).alloc (.cells #[.string o.module, .slice none 0 0] 40) = w0 := ⟨_, rfl⟩
      have r0 : Wr [] wo w0 := by rw [← hw0]; exact ((Wr.refl [] wo).alloc _).alloc _
      have bO : Blk w0 sz 52 #[.string o.module, .bool o.main, .int .u64 o.key, .slice Bu o.uses.length du, .string o.mod.code, .slice Bp o.mod.procs.length dp, .slice Bi o.mod.imports.length di, .int .i64 o.mod.data, .slice Bn o.mod.init.length dn] := by rw [← hw0, ← hsz]; exact (Blk.new _ _ _).alloc _
      have bN : Blk w0 (sz + 1) 40 #[.string o.module, .slice none 0 0] := by
        have := Blk.new (wo.alloc (.cells #[.string o.module, .bool o.main, .int .u64 o.key, .slice Bu o.uses.length du, .string o.mod.code, .slice Bp o.mod.procs.length dp, .slice Bi o.mod.imports.length di, .int .i64 o.mod.data, .slice Bn o.mod.init.length dn] 52)) 40 #[.string o.module, .slice none 0 0]
        rw [World.size_alloc, hsz, hw0] at this
        exact this
      have HX := Lib.hid (And.intro ho (And.intro hto husz))
      have HOL := Lib.hid hol
      have HROW := Lib.hid hrow
      have ACC := Lib.hid acc
      have HSZ := Lib.hid hsz
      have HW0 := Lib.hid hw0
      have R0 := Lib.hid r0
      have BO := Lib.hid bO
      have BN := Lib.hid bN
      have o3 := bO.cell 3
      simp only [List.getElem?_toArray, List.getElem?_cons_zero, List.getElem?_cons_succ] at o3
      have hlti : (k : Int) < (l.length : Int) := by omega
      have hk0 : (0 : Int) ≤ (k : Int) := by omega
      clear e2 hc ho hto husz hol hrow acc hsz hw0 r0 bO bN
      go_upto_region 5 with (fail)
      rw [HSZ.out, HW0.out]
      clear x0 x1 x2 x3 x4 x5 x6 x7 x8
      go_wp2_with fail
      go_loopw [20] (fun s20 w2 => ∃ j : Nat, j ≤ o.uses.length ∧ s20 = .int .i64 j ∧ InAt wo sz (sz + 1) #[.string o.module, .bool o.main, .int .u64 o.key, .slice Bu o.uses.length du, .string o.mod.code, .slice Bp o.mod.procs.length dp, .slice Bi o.mod.imports.length di, .int .i64 o.mod.data, .slice Bn o.mod.init.length dn] o j w2) (fun s20 _ => o.uses.length - (intOf s20).toNat)
      case atStart => exact ⟨0, by omega, rfl, R0.out, BO.out, _, BN.out, World.ownsRow_nil _ _ _ _, fun b hb => by cases hb⟩
      case round =>
        obtain ⟨j, hj, rfl, rin, bo, vc, bn, hown, hne⟩ := hrel
        obtain ⟨Bv, dv, hvc⟩ : ∃ A c, vc = .slice A j c := by
          rcases hown.2 with ⟨h0, h1⟩ | ⟨g, cap, cur, e, _⟩
          · exact ⟨none, 0, by rw [h0, h1]⟩
          · exact ⟨_, _, e⟩
        subst hvc
        by_cases hlt2 : j < o.uses.length
        · obtain ⟨u, hu⟩ : ∃ u, o.uses[j]? = some u := ⟨_, List.getElem?_eq_getElem hlt2⟩
          obtain ⟨bu, offu, cu, eu, _, _, hcu⟩ := use_at (HOL.out.wr0 rin).uses hu
          injection eu with q1 q2 q3
          subst q1
          subst q3
          have y0 := hcu 0 _ rfl
          have y1 := hcu 1 _ rfl
          simp only [Nat.add_zero] at y0
          obtain ⟨zz, hzz⟩ : ∃ zz, wr.heap.size = zz := ⟨_, rfl⟩
          obtain ⟨wa, hwa⟩ : ∃ wa, (wr.alloc (.cells #[.string u.module, .int .u64 u.key] 54)).alloc (.cells #[.string u.module] 9) = wa := ⟨_, rfl⟩
          have ra : Wr [] wr wa := by rw [← hwa]; exact ((Wr.refl [] wr).alloc _).alloc _
          have hnew : Blk wa (zz + 1) 9 #[.string u.module] := by
            have := Blk.new (wr.alloc (.cells #[.string u.module, .int .u64 u.key] 54)) 9 #[.string u.module]
            rw [World.size_alloc, hzz, hwa] at this
            exact this
          have hownA := own_keep hown ra (fun _ _ => by simp)
          have hus1 := HX.out.2.2
          have hbase : wo.heap.size ≤ wa.heap.size := Nat.le_trans rin.size ra.size
          obtain ⟨v', w4, hrun, hown4, hgrow, _, hbk⟩ := run_append_own_at (P := Try.prog) wa wo.heap.size 25 25 9 i0 _ 1 16 Try.underlying25 hi0 hz0 hz1 hz2 rfl (by decide) _ j _ hownA ⟨zz + 1, 0, none⟩ 1 1 [.string u.module] rfl (fun q u' hq => by
            rw [Addr.add_lit, Nat.zero_add, hnew.cell]
            simpa using hq) (by simp [Value.oneCell']) (by unfold maxLen; omega) (by omega) hbase
          obtain ⟨Av, cv, hv'⟩ : ∃ A c, v' = .slice A (j + 1) c := by
            rcases hown4.2 with ⟨_, h0⟩ | ⟨g, cap, cur, e, _⟩
            · omega
            · exact ⟨_, _, e⟩
          subst hv'
          have hwg := Wr.ofGrownOwn hgrow
          have boA := (bo.wr0 ra).wr hwg (fun hx => (hne _ (mem_ownL.1 hx)).1 rfl)
          have bnA := (bn.wr0 ra).wr hwg (fun hx => (hne _ (mem_ownL.1 hx)).2 rfl)
          have hsz1 : sz + 1 < wr.heap.size := bn.lt
          have hsz0 := HSZ.out
          have hbw : ∀ b, (Value.slice Av (j + 1) cv).ownBlock = some b → b ≠ sz ∧ b ≠ sz + 1 := by
            intro b hb
            rcases hbk with h1 | h1
            · exact hne b (h1 ▸ hb)
            · rw [h1] at hb
              injection hb with hb
              have := ra.size
              omega
          have hst : Wr [sz + 1] w4 (w4.setCell ⟨sz + 1, 1, none⟩ (.slice Av (j + 1) cv)) := (Wr.refl [sz + 1] w4).setOn (by simp) _
          have rin2 : Wr [] wo (w4.setCell ⟨sz + 1, 1, none⟩ (.slice Av (j + 1) cv)) := by
            refine Wr.setNew ?_ (by omega) _
            exact (rin.trans ra).trans' hwg (fun x hx => .inr ((hownA.lt x (mem_ownL.1 hx)).1))
          have hfin : InAt wo sz (sz + 1) #[.string o.module, .bool o.main, .int .u64 o.key, .slice (some ⟨bu, offu, none⟩) o.uses.length du, .string o.mod.code, .slice Bp o.mod.procs.length dp, .slice Bi o.mod.imports.length di, .int .i64 o.mod.data, .slice Bn o.mod.init.length dn] o (j + 1) (w4.setCell ⟨sz + 1, 1, none⟩ (.slice Av (j + 1) cv)) := by
            refine ⟨rin2, boA.wr hst (by simp), _, by simpa using bnA.set_ 1 (.slice Av (j + 1) cv), ?_, hbw⟩
            have h1 := own_keep hown4 hst (fun b hb => by simpa using (hbw b hb).2)
            rw [List.take_add_one, hu]
            simpa using h1
          have d1 := bn.cell 1
          have d0 := bnA.cell 1
          have f1 := bnA.frozen 1
          simp only [List.getElem?_toArray, List.getElem?_cons_zero, List.getElem?_cons_succ] at d1 d0
          have HZZ := Lib.hid hzz
          have HWA := Lib.hid hwa
          have HFIN := Lib.hid hfin
          have HRUN := Lib.hid hrun
          have hlti2 : (j : Int) < (o.uses.length : Int) := by omega
          have hj0 : (0 : Int) ≤ (j : Int) := by omega
          clear q2 hcu hu rin bo bn hown hne hzz hwa ra hnew hownA hbase hrun hown4 hgrow hbk hwg boA bnA hsz0 hbw hst rin2 hfin o3
          go_wp2_with (at_builtin; rw [HZZ.out, HWA.out]; refine wpList_append_run rfl _ _ _ rfl _ _ rfl rfl _ _ HRUN.out ?_)
          go_roundw
          case rel => exact ⟨j + 1, by omega, by go_num, HFIN.out⟩
          case measure => simp [intOf]; omega
        · have hjn : j = o.uses.length := by omega
          subst hjn
          have hrowB := HROW.out.wr0 (rin.trans ((Wr.refl [] wr).alloc (.cells #[.string o.module, .slice Bv o.uses.length dv] 40)))
          obtain ⟨xs, h1, h2, h3⟩ := hrowB
          obtain ⟨zz, hzz⟩ : ∃ zz, wr.heap.size = zz := ⟨_, rfl⟩
          obtain ⟨wB, hwB⟩ : ∃ wB, wr.alloc (.cells #[.string o.module, .slice Bv o.uses.length dv] 40) = wB := ⟨_, rfl⟩
          have rB : Wr [] wr wB := by rw [← hwB]; exact (Wr.refl [] wr).alloc _
          have hnew : Blk wB zz 40 #[.string o.module, .slice Bv o.uses.length dv] := by rw [← hwB, ← hzz]; exact Blk.new _ _ _
          rw [hwB] at h1 h3
          have hkl : ((l.take k).map needOf).length = k := by rw [List.length_map, List.length_take]; omega
          have hbase : w.heap.size ≤ wB.heap.size := Nat.le_trans (ACC.out.trans rin).size rB.size
          obtain ⟨v', w4, hrun, hown4, hgrow, _, hbk⟩ := run_append_own_at (P := Try.prog) wB w.heap.size 37 37 40 i1 _ 2 40 Try.underlying37 hi1 hy0 hy1 hy2 rfl (by decide) _ _ _ h1 ⟨zz, 0, none⟩ 1 1 [.string o.module, .slice Bv o.uses.length dv] rfl (fun q u' hq => by
            rw [Addr.add_lit, Nat.zero_add, hnew.cell]
            simpa using hq) (by simp [Value.oneCell']) (by unfold maxLen; omega) (by omega) hbase
          have hsz0 := HSZ.out
          have hx : SlStr wB (fun b => w.heap.size ≤ b ∧ b ∉ ownL u2) (.slice Bv o.uses.length dv) (needOf o).needs := by
            have hvl : ∀ b, u2.ownBlock = some b → b < wo.heap.size := by
              obtain ⟨ys, g1, _⟩ := HROW.out
              exact own_lt g1
            have := Sl.ofOwn (P := fun b => w.heap.size ≤ b ∧ b ∉ ownL u2) (own_keep hown rB (fun _ _ => by simp)) (fun b hb => ⟨Nat.le_trans ACC.out.size (hown.lt b hb).1, fun hm => by
              have := hvl b (mem_ownL.1 hm)
              have := (hown.lt b hb).1
              omega⟩)
            rw [List.take_length] at this
            have e : (needOf o).needs.length = o.uses.length := by simp [needOf]
            unfold SlStr
            rw [e]
            exact this
          have hpush := RowN.push (x := needOf o) h1 h2 h3 hbase hx rfl hown4 hgrow hbk
          rw [← HX.out.2.1] at hpush
          have hacc := ((ACC.out.trans rin).trans rB).trans' (Wr.ofGrownOwn hgrow) (fun x hx => .inr ((h1.lt x (mem_ownL.1 hx)).1))
          have hsz1 : sz + 1 < wr.heap.size := bn.lt
          have d0 := bn.cell 0
          have d1 := bn.cell 1
          simp only [List.getElem?_toArray, List.getElem?_cons_zero, List.getElem?_cons_succ] at d0 d1
          have HZZ := Lib.hid hzz
          have HWB := Lib.hid hwB
          have HP := Lib.hid hpush
          have HA := Lib.hid hacc
          have HRUN := Lib.hid hrun
          clear rin bo bn hown hne h1 h2 h3 hzz hwB rB hnew hkl hbase hrun hown4 hgrow hbk hsz0 hx hpush hacc o3
          go_wp2_with (at_builtin; rw [HZZ.out, HWB.out]; refine wpList_append_run rfl _ _ _ rfl _ _ rfl rfl _ _ HRUN.out ?_)
          go_roundw
          case rel => exact ⟨k + 1, by omega, by go_num, HA.out, HP.out⟩
          case measure => simp [intOf]; omega
    · have hkn : k = l.length := by omega
      subst hkn
      rw [List.take_length] at hrow
      have HS := Lib.hid hrow.sl
      have ACC := Lib.hid acc
      clear hrow acc
      go_wp2_with fail
      go_ret
      exact ⟨_, rfl, ACC.out, HS.out⟩
end Go.Proofs.Ytfeeeogkkajefaa
