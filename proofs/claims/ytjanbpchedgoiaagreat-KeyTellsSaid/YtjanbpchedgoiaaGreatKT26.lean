/- ref 14's met: walked. Conditions: the interface may be. -/
import Derived.Test.YtjanbpchedgoiaaGreatKT25
set_option linter.unusedVariables false
set_option linter.unusedSimpArgs false
set_option maxRecDepth 100000
set_option maxHeartbeats 32000000
namespace Go.Proofs.YtjanbpchedgoiaaGreat
open Go.RowKit
theorem info_boolM : (Tryz.prog.info? 4).map (fun i => (i.zero, i.size, i.bytes)) = some (some (.bool false), 1, 1) := by kernel_rfl
theorem made_bools (n : Nat) (hn : n ≤ 100000) (w : World) : (Instr.makeSlice 147 (.int .i64 (n : Int)) (.int .i64 (n : Int))).run Tryz.prog w = .ok (.slice (some ⟨w.heap.size, 0, none⟩) n n) (w.alloc (.cells (madeCells #[.bool false] n) 4)) := by
 obtain ⟨i1, hi1, hy0, hy1, hy2⟩ := info_parts info_boolM
 have := run_make (P := Tryz.prog) w 147 4 i1 (.bool false) Tryz.underlying147 hi1 hy0 .i64 .i64 (n : Int) (n : Int) (by omega) (Int.le_refl _) (by rw [hy2]; omega) (by omega)
 rw [hy1, Nat.mul_one, Int.toNat_natCast] at this
 exact this
def marks (nt : Nat) (M : List Int) : List Value := (List.range nt).map fun i : Nat => Value.bool (decide (10 + (i : Int) ∈ M))
theorem marks_nil (nt : Nat) : (marks nt []).toArray = madeCells #[.bool false] nt := by
 apply Array.ext'
 apply List.ext_getElem?
 intro i
 unfold marks
 by_cases h : i < nt
 ·simp [madeCells, h, Nat.mod_one]
 ·simp [madeCells, h]
theorem marks_len (nt : Nat) (M : List Int) : (marks nt M).length = nt := by unfold marks; rw [qlmq, List.length_range]
theorem marks_at {nt i : Nat} (M : List Int) (h : i < nt) : (marks nt M)[i]? = some (.bool (decide (10 + (i : Int) ∈ M))) := by
 unfold marks
 rw [qgmq, List.getElem?_range h]
 rfl
theorem marks_set {nt i : Nat} (M : List Int) (h : i < nt) : (marks nt M).set i (.bool true) = marks nt (M ++ [10 + (i : Int)]) := by
 apply List.ext_getElem?
 intro j
 rw [List.getElem?_set]
 by_cases hj : j < nt
 ·rw [marks_at _ hj, marks_at _ hj, marks_len]
  by_cases hij : i = j
  ·subst hij
   rw [if_pos rfl, if_pos h, qdtq (show 10 + (i : Int) ∈ M ++ [10 + (i : Int)] by simp)]
  ·rw [if_neg hij]
   have : (10 + (j : Int) ∈ M ++ [10 + (i : Int)]) ↔ 10 + (j : Int) ∈ M := by
    rw [List.mem_append, qmsq]
    exact ⟨fun h => h.elim id (fun e => by omega), .inl⟩
   rw [decide_eq_decide.2 this]
 ·have h1 : (marks nt M)[j]? = none := List.getElem?_eq_none (by rw [marks_len]; omega)
  have h2 : (marks nt (M ++ [10 + (i : Int)]))[j]? = none := List.getElem?_eq_none (by rw [marks_len]; omega)
  rw [h1, h2, if_neg (by omega)]
def lenV : Value → Nat
 | .slice _ n _ => n
 | _ => 0
theorem IOwn.form' {B : Nat} {v : Value} {l : List Int} {w : World} (h : IOwn B v l w) {N : Nat} (hN : l.length = N) : ∃ A c, v = .slice A N c ∧ N ≤ c ∧ c ≤ maxLen := by subst hN; exact h.form
theorem IOwn.pop {B : Nat} {A : Option Addr} {c : Nat} {l : List Int} {x : Int} {w : World} (h : IOwn B (.slice A (l.length + 1) c) (l ++ [x]) w) : IOwn B (.slice A l.length c) l w := by
 obtain ⟨h1, h2⟩ := h
 refine ⟨by simp, ?_⟩
 rcases h2 with ⟨_, h0⟩ | ⟨g, cap, cur, e, hge, hh, hnc, hcm, hs, ht⟩
 ·simp at h0
 ·injection e with e1 e2 e3
  subst e1
  subst e3
  refine .inr ⟨g, c, cur, rfl, hge, hh, by omega, hcm, hs, ?_⟩
  have := congrArg (List.take l.length) ht
  simp only [qlaq, List.length_cons, List.length_nil, Nat.mul_one] at this
  rw [List.take_take, Nat.min_eq_left (by omega), List.map_append, List.take_append_of_le_length (by simp), show List.take l.length (l.map (Value.int .i64)) = l.map (Value.int .i64) from List.take_of_length_le (by simp)] at this
  rw [Nat.mul_one]
  exact this
theorem cell_lt {w : World} {b o : Nat} {v : Value} (h : w.cell? ⟨b, o, none⟩ = some v) : b < w.heap.size := by
 rcases Nat.lt_or_ge b w.heap.size with hlt | hge
 ·exact hlt
 ·unfold World.cell? at h
  simp [Array.getElem?_eq_none hge] at h
structure MetW (w0 : World) (gi nt : Nat) (vo vt : Value) (ord M L : List Int) (wr : World) : Prop where
 ro : IOwn w0.heap.size vo (ord.map (· - 10)) wr
 rt : IOwn w0.heap.size vt L.reverse wr
 is : Blk wr gi 4 (marks nt M).toArray
 ge : w0.heap.size ≤ gi
 ne : ∀ q ∈ ownL vo, q ∉ ownL vt
 io : gi ∉ ownL vo
 it : gi ∉ ownL vt
 wr : Wr [] w0 wr
section
variable {w0 wr w1 : World} {gi nt : Nat} {vo vt u : Value} {ord M L k : List Int} {P : Nat → Prop}
theorem MetW.keep (h : MetW w0 gi nt vo vt ord M L wr) (r : Wr [] wr w1) : MetW w0 gi nt vo vt ord M L w1 :=
 ⟨h.ro.keep0 r, h.rt.keep0 r, h.is.wr0 r, h.ge, h.ne, h.io, h.it, h.wr.trans r⟩
theorem MetW.pushT (h : MetW w0 gi nt vo vt ord M L wr) (hu : Sl wr P 1 u k.length (k.map (Value.int .i64))) (hl : L.length + k.length ≤ 1000000000000) :
  ∃ vt' w', AppI vt u wr vt' w' ∧ MetW w0 gi nt vo vt' ord M (k.reverse ++ L) w' ∧ Wr (ownL vt) wr w' ∧ ∀ z, z < wr.heap.size → z ∉ ownL vt → z ∉ ownL vt' := by
 obtain ⟨v', w', h1, h2, h3, h4⟩ := h.rt.app hu (by rw [List.length_reverse]; exact hl) h.wr.size
 refine ⟨v', w', h1, ⟨own_keep h.ro h3 (fun q hq => h.ne q (mem_ownL.2 hq)), by rw [List.reverse_append, List.reverse_reverse]; exact h2, h.is.wr h3 h.it, h.ge, fun q hq => h4 q (h.ro.lo q hq).2 (h.ne q hq), h.io, h4 gi h.is.lt h.it, h.wr.trans' h3 (fun x hx => .inr (h.rt.lo x hx).1)⟩, h3, h4⟩
theorem MetW.pushO (h : MetW w0 gi nt vo vt ord M L wr) {x : Int} (hu : Sl wr P 1 u 1 [.int .i64 (x - 10)]) (hl : ord.length + 1 ≤ 1000000000000) :
  ∃ vo' w', AppI vo u wr vo' w' ∧ MetW w0 gi nt vo' vt (ord ++ [x]) M L w' := by
 obtain ⟨v', w', h1, h2, h3, h4⟩ := h.ro.app (k := [x - 10]) hu (by rw [qlmq]; exact hl) h.wr.size
 exact ⟨v', w', h1, ⟨by rw [List.map_append]; exact h2, own_keep h.rt h3 (fun q hq hm => h.ne q hm (mem_ownL.2 hq)), h.is.wr h3 h.io, h.ge, fun q hq hm => h4 q (h.rt.lo q hm).2 (fun h5 => h.ne q h5 hm) hq, h4 gi h.is.lt h.io, h.it, h.wr.trans' h3 (fun x hx => .inr (h.ro.lo x hx).1)⟩⟩
theorem MetW.pop {A : Option Addr} {c m : Nat} {n : Int} (h : MetW w0 gi nt vo (.slice A (m + 1) c) ord M (n :: L) wr) (hm : L.length = m) : MetW w0 gi nt vo (.slice A m c) ord M L wr := by
 subst hm
 have hr := h.rt
 rw [List.reverse_cons, ← List.length_reverse] at hr
 have h2 := IOwn.pop hr
 rw [List.length_reverse] at h2
 have e : ownL (.slice A (L.length + 1) c) = ownL (.slice A L.length c) := by
  rcases A with _ | ⟨b, o, p⟩
  ·rfl
  ·rcases o with _ | o <;> rcases p with _ | p <;> rfl
 exact ⟨h.ro, h2, h.is, h.ge, fun q hq => by rw [← e]; exact h.ne q hq, h.io, by rw [← e]; exact h.it, h.wr⟩
theorem MetW.mark (h : MetW w0 gi nt vo vt ord M L wr) {i : Nat} (hi : i < nt) : MetW w0 gi nt vo vt ord (M ++ [10 + (i : Int)]) L (wr.setCell ⟨gi, i, none⟩ (.bool true)) := by
 have r : Wr [gi] wr (wr.setCell ⟨gi, i, none⟩ (.bool true)) := (Wr.refl [gi] wr).setOn (by simp) _
 have hs := h.is.set_ i (.bool true)
 rw [qsaq, marks_set M hi] at hs
 exact ⟨own_keep h.ro r (fun q hq hm => by rw [qmsq] at hm; subst hm; exact h.io (mem_ownL.2 hq)), own_keep h.rt r (fun q hq hm => by rw [qmsq] at hm; subst hm; exact h.it (mem_ownL.2 hq)), hs, h.ge, h.ne, h.io, h.it, h.wr.trans' r (fun x hx => by rw [qmsq] at hx; subst hx; exact .inr h.ge)⟩
def MetL (w0 : World) (gi nt : Nat) (vo vt vl : Value) (ord L K : List Int) (wr : World) : Prop := MetW w0 gi nt vo vt ord ord L wr ∧ Sl wr (fun b => b ∉ ownL vt) 1 vl K.length (K.map (Value.int .i64))
theorem MetL.push {vl : Value} {K : List Int} {y : Int} (h : MetL w0 gi nt vo vt vl ord L K wr) (hl : L.length + 1 ≤ 1000000000000) :
  ∃ vt' w', AppI vt (.slice (some ⟨wr.heap.size, 0, none⟩) 1 1) (wr.alloc (.cells #[.int .i64 y] 3)) vt' w' ∧ MetL w0 gi nt vo vt' vl ord (y :: L) K w' := by
 have r := (Wr.refl [] wr).alloc (.cells #[.int .i64 y] 3)
 obtain ⟨vt', w', h1, h2, h3, h4⟩ := (h.1.keep r).pushT (k := [y]) (row_new wr [y] (by simp)) hl
 refine ⟨vt', w', h1, h2, ?_⟩
 have h5 := (Sl.wr0 h.2 r).keep h3 (fun b hb => hb)
 have h6 := (Sl.wr0 h.2 r).into (Q := fun b => b ∉ ownL vt ∧ b < (wr.alloc (.cells #[.int .i64 y] 3)).heap.size) (fun b hb hlt => ⟨hb, hlt⟩)
 exact (h6.keep h3 (fun b hb => hb.1)).mono (fun b hb => h4 b hb.2 hb.1)
end
theorem meas_step (T O K m : Nat) (h : O + 1 ≤ T) (hK : K ≤ 131073) : (T - (O + 1)) * 200000 + (K + m) < (T - O) * 200000 + (m + 1) := by
 have e : T - O = (T - (O + 1)) + 1 := by omega
 rw [e, Nat.add_mul, Nat.one_mul]
 generalize (T - (O + 1)) * 200000 = X
 omega
theorem met_b (f : FaceD) (vu vt vi : Value) (P : Nat → Prop) (w : World) (h : FacePL w P vu vt vi (facePl f)) (hm : mayP f = 0) :
  Calls Tryz.prog 31 #[.agg #[.string f.module, vu, vt, vi]] w fun e w' => ∃ vo, e = .returned vo ∧ OrdL w' (fun b => w.heap.size ≤ b) vo (ordOf f) ∧ Wr [] w w' := by
 obtain ⟨⟨A1, k1, rfl, hn1, hn2⟩, ⟨A2, k2, rfl, hf1, hf2⟩, ⟨A3, k3, rfl, ha1, ha2⟩⟩ := h.forms
 have eu : (facePl f).uses = f.uses := rfl
 have et : (facePl f).types = f.types := rfl
 obtain ⟨fi, hfi⟩ : ∃ q, (facePl f).items = q := ⟨_, rfl⟩
 have hfp : fi = f.items.map pitmOf := by rw [← hfi]; rfl
 have hiL : SlPItms w P (.slice A3 fi.length k3) fi := by have := h.items; rw [hfi] at this; exact this
 have htL : SlTys w P (.slice A2 f.types.length k2) f.types := h.types
 rw [eu, et, hfi]
 have hil : fi.length ≤ 512 := by rw [hfp, qlmq]; exact (may_types hm).2.1
 have htl := (may_types hm).1
 clear h eu et hfi hn1 hn2 hf1 hf2 ha1 ha2
 obtain ⟨w0, hw0⟩ : ∃ q, w.alloc (.cells #[.string f.module, .slice A1 f.uses.length k1, .slice A2 f.types.length k2, .slice A3 fi.length k3] 27) = q := ⟨_, rfl⟩
 obtain ⟨g, hg⟩ : ∃ g, w.heap.size = g := ⟨_, rfl⟩
 have acc : Wr [] w w0 := by rw [← hw0]; exact (Wr.refl [] _).alloc _
 have bA : Blk w0 g 27 #[.string f.module, .slice A1 f.uses.length k1, .slice A2 f.types.length k2, .slice A3 fi.length k3] := by rw [← hw0, ← hg]; exact Blk.new _ _ _
 have hmk := made_bools f.types.length (by omega) w0
 obtain ⟨w1, hw1⟩ : ∃ q, w0.alloc (.cells (madeCells #[.bool false] f.types.length) 4) = q := ⟨_, rfl⟩
 obtain ⟨gi, hgi⟩ : ∃ q, w0.heap.size = q := ⟨_, rfl⟩
 have s0 : MetW w0 gi f.types.length (.slice none 0 0) (.slice none 0 0) [] [] [] w1 := by
  refine ⟨World.ownsRow_nil _ _ _ _, World.ownsRow_nil _ _ _ _, ?_, by omega, fun q hq => by simp [ownL, Value.ownBlock] at hq, fun h => by simp [ownL, Value.ownBlock] at h, fun h => by simp [ownL, Value.ownBlock] at h, ?_⟩
  ·rw [marks_nil, ← hw1, ← hgi]
   exact Blk.new _ _ _
  ·rw [← hw1]
   exact (Wr.refl _ _).alloc _
 have hp := predI_down fi.length
 have S0 := qh s0
 have HP := qh hp
 have HFP := qh hfp
 have HW0 := qh hw0
 have HW1 := qh hw1
 have HGI := qh hgi
 have HG := qh hg
 have ACC := qh acc
 have HT := qh (htL.wr0 acc)
 have HI := qh (Sl.wr0 hiL acc)
 have GW := qh bA.lt
 have HM := qh hm
 have c2 := bA.cell 2
 have c3 := bA.cell 3
 simp only [qgaq, qgzq, qgsq] at c2 c3
 have C2 := qh c2
 have C3 := qh c3
 clear hw0 hw1 hgi hg acc bA s0 hp hfp htL hiL hm c3
 go_enter Tryz.func31, Tryz.ntmps31
 go_upto_region 1 with (fail)
 rw [HG.out, HW0.out]
 go_upto_region 3 with (fail)
 rw [HGI.out, HW1.out]
 clear hmk c2
 have c3 := S0.out.wr.cellOf C3.out (by simp)
 go_wp2_with fail
 clear c3
 go_loopw [5, 6] (fun st si wr => ∃ k : Nat, k ≤ fi.length ∧ si = .int .i64 (predI k) ∧ MetW w0 gi f.types.length (.slice none 0 0) st [] [] ((fi.drop k).flatMap pitmKids) wr) (fun _ si _ => (intOf si + 1).toNat)
 case atStart => exact ⟨fi.length, Nat.le_refl _, by rw [← HP.out], by rw [List.drop_length]; exact S0.out⟩
 case round =>
  clear S0
  obtain ⟨k, hk, rfl, s1⟩ := hrel
  have S1 := qh s1
  clear s1
  cases k with
  | succ m =>
   rw [show predI (m + 1) = (m : Int) from rfl]
   obtain ⟨x, hx⟩ : ∃ x, fi[m]? = some x := ⟨_, qgeq (by omega)⟩
   obtain ⟨b, off, c', e, _, hc⟩ := pitm_at HI.out hx
   injection e with e1 e2 e3
   subst e1 e3
   have x2 := S1.out.wr.cellOf (hc 2 _ rfl) (by simp)
   have x6 := S1.out.wr.cellOf (hc 6 _ rfl) (by simp)
   have d3 := S1.out.wr.cellOf C3.out (by simp)
   have hmi : (m : Int) < (fi.length : Int) := by omega
   have hm0 : (0 : Int) ≤ (m : Int) := by omega
   have hlen : ((fi.drop (m + 1)).flatMap pitmKids).length ≤ 2000 := by
    have : ∀ l : List PItm, (l.flatMap pitmKids).length = 2 * l.length := fun l => by
     induction l with
     | nil => rfl
     | cons x l ih => rw [qfcq, qlaq, ih]; show 2 + _ = _; rw [List.length_cons]; omega
    rw [this, List.length_drop]
    omega
   have hgn : g ∉ ownL u5 := fun hq => by have := (S1.out.rt.lo _ hq).1; have := GW.out; omega
   have hbn : b ∉ ownL u5 := fun hq => by have := (S1.out.rt.lo _ hq).1; have := cell_lt (hc 2 _ rfl); omega
   obtain ⟨wd, hwd⟩ : ∃ q, wr.drew = q := ⟨_, rfl⟩
   have kd : Wr [] wr wd := by rw [← hwd]; exact (Wr.refl _ _).drew
   obtain ⟨v1, w2, hrun, s2, rg2, _⟩ := ((S1.out.keep kd).keep ((Wr.refl [] wd).alloc (.cells #[.int .i64 x.v.type, .int .i64 x.type] 3))).pushT (k := [x.v.type, x.type]) (row_new wd [x.v.type, x.type] (by simp)) (by simp only [List.length_cons, List.length_nil]; omega)
   have hs : MetW w0 gi f.types.length (.slice none 0 0) v1 [] [] ((fi.drop m).flatMap pitmKids) w2 := by
    have e : fi.drop m = x :: fi.drop (m + 1) := by
     have hlt := (List.getElem?_eq_some_iff.1 hx).1
     rw [List.drop_eq_getElem_cons hlt, (List.getElem?_eq_some_iff.1 hx).2]
    rw [e, qfcq]
    exact s2
   have S2 := qh hs
   have hrun : AppI u5 (.slice (some ⟨wd.heap.size, 0, none⟩) 2 2) (wd.alloc (.cells #[.int .i64 x.v.type, .int .i64 x.type] 3)) v1 w2 := hrun
   have HRUN := qh hrun
   have HWD := qh hwd
   have KD := qh kd
   have RG2 := qh rg2
   have HK := qh hk
   clear hc hx e2 s2 hs hrun hwd kd rg2 hlen hk
   go_upto_region 7 with (fail)
   refine beginA (ownL u5) [(g, 3, .slice (some ⟨b, off, none⟩) fi.length k3), (b, off + m * 8 + 2, .int .i64 x.type), (b, off + m * 8 + 6, .int .i64 x.v.type)] (by kernel_rfl) (by simp only [Cs]; exact ⟨d3, x2, x6, trivial⟩) (by intro c hc; simp only [qmcq, qnnq, or_false] at hc; rcases hc with rfl | rfl | rfl; exact hgn; exact hbn; exact hbn) fun HC => ?_
   refine mvB 0 (by rfl) (by kernel_rfl) (by rfl) (fun w' hS => by simp only [Cs] at hS; go_split_ands; go_simp; try rfl) ?_
   try simp only [Act.put, qsaq, qszq, qssq]
   refine mvB 1 (by rfl) (by kernel_rfl) (by rfl) (fun w' hS => by simp only [Cs] at hS; go_split_ands; go_simp; try rfl) ?_
   try simp only [Act.put, qsaq, qszq, qssq]
   refine mvB 2 (by rfl) (by kernel_rfl) (by rfl) (fun w' hS => by simp only [Cs] at hS; go_split_ands; go_simp; try rfl) ?_
   try simp only [Act.put, qsaq, qszq, qssq]
   refine mvB 3 (by rfl) (by kernel_rfl) (by rfl) (fun w' hS => by simp only [Cs] at hS; go_split_ands; go_simp; try rfl) ?_
   try simp only [Act.put, qsaq, qszq, qssq]
   refine mvB 4 (by rfl) (by kernel_rfl) (by rfl) (fun w' hS => by simp only [Cs] at hS; go_split_ands; go_simp; try rfl) ?_
   try simp only [Act.put, qsaq, qszq, qssq]
   refine mvB 5 (by rfl) (by kernel_rfl) (by rfl) (fun w' hS => by simp only [Cs] at hS; go_split_ands; go_simp; try rfl) ?_
   try simp only [Act.put, qsaq, qszq, qssq]
   refine mvB 6 (by rfl) (by kernel_rfl) (by rfl) (fun w' hS => by simp only [Cs] at hS; go_split_ands; go_simp; try rfl) ?_
   try simp only [Act.put, qsaq, qszq, qssq]
   refine mvB 7 (by rfl) (by kernel_rfl) (by rfl) (fun w' hS => by simp only [Cs] at hS; go_split_ands; go_simp; try rfl) ?_
   try simp only [Act.put, qsaq, qszq, qssq]
   refine mvB 8 (by rfl) (by kernel_rfl) (by rfl) (fun w' hS => by simp only [Cs] at hS; go_split_ands; go_simp; try rfl) ?_
   try simp only [Act.put, qsaq, qszq, qssq]
   refine mvB 9 (by rfl) (by kernel_rfl) (by rfl) (fun w' hS => by simp only [Cs] at hS; go_split_ands; go_simp; try rfl) ?_
   try simp only [Act.put, qsaq, qszq, qssq]
   refine mvB 10 (by rfl) (by kernel_rfl) (by rfl) (fun w' hS => by simp only [Cs] at hS; go_split_ands; go_simp; try rfl) ?_
   try simp only [Act.put, qsaq, qszq, qssq]
   refine mvB 11 (by rfl) (by kernel_rfl) (by rfl) (fun w' hS => by simp only [Cs] at hS; go_split_ands; go_simp; try rfl) ?_
   try simp only [Act.put, qsaq, qszq, qssq]
   refine mvB 12 (by rfl) (by kernel_rfl) (by rfl) (fun w' hS => by simp only [Cs] at hS; go_split_ands; go_simp; try rfl) ?_
   try simp only [Act.put, qsaq, qszq, qssq]
   refine mvB 13 (by rfl) (by kernel_rfl) (by rfl) (fun w' hS => by simp only [Cs] at hS; go_split_ands; go_simp; try rfl) ?_
   try simp only [Act.put, qsaq, qszq, qssq]
   refine stL 14 (by rfl) (by kernel_rfl) fun K hK => ?_
   rw [HWD.out]
   go_simp
   refine hK _ _ (HC.out _ (((Wr.refl (ownL u5) wr).trans0 KD.out).alloc _)) ?_
   clear hK K
   try simp only [Act.put, qsaq, qszq, qssq]
   refine stL 15 (by rfl) (by kernel_rfl) fun K hK => ?_
   refine step_append_run (by rfl) _ _ _ (by rfl) _ _ (by rfl) (by rfl) _ _ HRUN.out ?_
   refine hK _ _ (HC.out _ ((((Wr.refl (ownL u5) wr).trans0 KD.out).alloc _).trans RG2.out)) ?_
   clear hK K
   try simp only [Act.put, qsaq, qszq, qssq]
   refine mvB 16 (by rfl) (by kernel_rfl) (by rfl) (fun w' hS => by simp only [Cs] at hS; go_split_ands; go_simp; try rfl) ?_
   try simp only [Act.put, qsaq, qszq, qssq]
   refine endL (by kernel_rfl) ?_
   try simp only [Act.put, qsaq, qszq, qssq]
   go_wp2_with fail
   go_roundw
   case rel => exact ⟨m, by have := HK.out; omega, by rw [predI_down], S2.out⟩
   case measure =>
    show (intOf (.int .i64 ((m : Int) - 1)) + 1).toNat < (intOf (.int .i64 (m : Int)) + 1).toNat
    simp only [intOf]
    omega
  | zero =>
   rw [show predI 0 = -1 from rfl]
   rw [List.drop_zero] at S1
   have d3 := S1.out.wr.cellOf C3.out (by simp)
   go_wp2_with fail
   clear d3
   go_loopw [3, 5] (fun so st wr => ∃ ord L, MetI f ord L ∧ MetW w0 gi f.types.length so st ord ord L wr) (fun so st _ => (f.types.length - lenV so) * 200000 + lenV st)
   case atStart => exact ⟨[], fi.flatMap pitmKids, by rw [HFP.out]; exact MetI.start HM.out, S1.out⟩
   case round =>
    clear S1 hk HFP HP HW1 HI
    obtain ⟨ord, L, hi, h1⟩ := hrel
    obtain ⟨O, hO⟩ : ∃ O, ord.length = O := ⟨_, rfl⟩
    have hOn : O ≤ 1024 := by have := hi.le; omega
    obtain ⟨Ao, co, rfl, _, _⟩ := h1.ro.form' (N := O) (by rw [qlmq]; exact hO)
    have HO := qh hO
    clear hO
    cases L with
    | nil =>
     obtain ⟨At, ct, rfl, _, _⟩ := h1.rt.form' (N := 0) rfl
     have hord := hi.done
     have H1 := qh h1
     have HD := qh hord
     clear hi h1 hord
     go_wp2_with fail
     go_ret
     refine ⟨_, rfl, ?_, ACC.out.trans H1.out.wr⟩
     have := Sl.mono H1.out.ro.sl (Q := fun b => w.heap.size ≤ b) (fun q hq => Nat.le_trans ACC.out.size (H1.out.ro.lo q hq).1)
     rw [qlmq, HO.out] at this
     unfold OrdL
     rw [← HD.out, HO.out]
     exact this
    | cons x L =>
     obtain ⟨m, hm2⟩ : ∃ m, L.length = m := ⟨_, rfl⟩
     obtain ⟨N, hN⟩ : ∃ N, m + 1 = N := ⟨_, rfl⟩
     have hrm : N ≤ 300000000 := by have := hi.room; rw [List.length_cons] at this; omega
     obtain ⟨At, ct, rfl, hct, hcm⟩ := h1.rt.form' (N := N) (by simp only [List.length_reverse, List.length_cons]; omega)
     have hnc : (N : Int) ≤ (ct : Int) := by omega
     have hat := Sl.at_ h1.rt.sl (j := m) (u := .int .i64 x) (by rw [qgmq, List.reverse_cons, qgrq (by rw [List.length_reverse]; omega), List.length_reverse, hm2, Nat.sub_self]; rfl)
     obtain ⟨b, off, c', e, _, _, _, hx⟩ := hat
     injection e with e1 e2 e3
     subst e1
     clear e2 e3
     have hxr := hi.todo x (by simp)
     rw [tyB_iff] at hxr
     have hl1 : wrap64 ((N : Int) - 1) = (m : Int) := by unfold wrap64; omega
     have hl2 : (N : Int) - 1 = (m : Int) := by omega
     have hpos : (0 : Int) < (N : Int) := by omega
     have hmN : (m : Int) < (N : Int) := by omega
     have hm0 : (0 : Int) ≤ (m : Int) := by omega
     have hmc : (m : Int) ≤ (ct : Int) := by omega
     have hp := h1
     rw [← hN] at hp
     have hp := hp.pop hm2
     obtain ⟨j, hj⟩ : ∃ j : Int, x - 10 = j := ⟨_, rfl⟩
     have hx10 : wrap64 (x - 10) = j := by rw [← hj]; unfold wrap64; omega
     have H1 := qh hp
     have HIV := qh hi
     have HM2 := qh hm2
     have HJ := qh hj
     have HN := qh hN
     have HXR := qh hxr
     have hx2 : wr.cell? ⟨b, off + m, none⟩ = some (.int .i64 x) := hx
     clear h1 hp hi hm2 hj hN hxr hx hct hcm hnc
     by_cases hj0 : j < 0
     ·have hs := HIV.out.skip (.inl (by have := HJ.out; omega))
      have HS := qh hs
      clear hs
      go_wp2_with fail
      go_roundw
      case rel => exact ⟨ord, L, HS.out, H1.out⟩
      case measure =>
       have hN := HN.out
       show (f.types.length - O) * 200000 + m < (f.types.length - O) * 200000 + N
       generalize (f.types.length - O) * 200000 = X
       omega
     ·obtain ⟨i, rfl⟩ : ∃ i : Nat, j = (i : Int) := ⟨j.toNat, by omega⟩
      have h10 : 10 ≤ x := by have := HJ.out; omega
      obtain ⟨t, ht, hit, hxn⟩ := HIV.out.at_ h10
      obtain rfl : (x - 10).toNat = i := by have := HJ.out; omega
      obtain ⟨i, hi2⟩ : ∃ i, (x - 10).toNat = i := ⟨_, rfl⟩
      have htx := ht
      rw [hi2] at ht hit
      have hxi : x = 10 + (i : Int) := by omega
      rw [hi2] at hx10 HJ
      have hj1 : ¬ ((i : Int) < 0) := by omega
      have hj2 : (0 : Int) ≤ (i : Int) := by omega
      have hj3 : (i : Int) < (f.types.length : Int) := by omega
      have d4 := H1.out.is.cell i
      rw [qgaq, marks_at ord hit, ← hxi] at d4
      clear hi2 hj0
      by_cases hmem : x ∈ ord
      ·rw [qdtq hmem] at d4
       have hs := HIV.out.skip (.inr hmem)
       have HS := qh hs
       clear hs hmem ht htx hxi
       go_wp2_with fail
       go_roundw
       case rel => exact ⟨ord, L, HS.out, H1.out⟩
       case measure =>
        have hN := HN.out
        show (f.types.length - O) * 200000 + m < (f.types.length - O) * 200000 + N
        generalize (f.types.length - O) * 200000 = X
        omega
      ·rw [qdfq hmem] at d4
       have hstep := HIV.out.step HM.out h10 hmem htx
       have HSTEP := qh hstep
       have z4 := H1.out.is.frozen i
       have hmk := H1.out.mark hit
       rw [← hxi] at hmk
       have MK := qh hmk
       have HTT := qh ht
       have hxj : x - 10 = (i : Int) := by omega
       have HXJ := qh hxj
       clear hstep hmk ht htx hxi hmem hxj
       go_upto_region 13 with (fail)
       generalize wr.setCell ⟨gi, i, none⟩ (.bool true) = wm at *
       clear d4 z4
       have hu := row_new wm [(i : Int)] (by simp)
       have hu2 : Sl (wm.alloc (.cells #[.int .i64 (i : Int)] 3)) (fun b => b = wm.heap.size) 1 (.slice (some ⟨wm.heap.size, 0, none⟩) 1 1) 1 [.int .i64 (x - 10)] := by rw [HXJ.out]; exact hu
       obtain ⟨vo2, w2, hrun, s2⟩ := (MK.out.keep ((Wr.refl [] wm).alloc (.cells #[.int .i64 (i : Int)] 3))).pushO (x := x) hu2 (by rw [HO.out]; omega)
       obtain ⟨O2, hO2⟩ : ∃ q, O + 1 = q := ⟨_, rfl⟩
       obtain ⟨Ao2, co2, rfl, _, _⟩ := s2.ro.form' (N := O2) (by rw [qlmq, qlaq, HO.out]; exact hO2)
       obtain ⟨b2, off2, c2', un, uf, ua, up, e, _, hc, hl⟩ := ty_at (HT.out.wr0 s2.wr) HTT.out
       injection e with e1 e2 e3
       subst e1 e3
       have hfit := may_tyFit HM.out (List.mem_of_getElem? HTT.out)
       unfold tyFit fwB at hfit
       simp only [Bool.and_eq_true, decide_eq_true_eq] at hfit
       have gn := names_b t un uf ua up _ w2 hl hfit.1.1.1.1.1.2 hfit.1.1.1.2
       have KR := qh (kids_room HM.out (List.mem_of_getElem? HTT.out))
       obtain ⟨⟨B1, m1, rfl, _, _⟩, ⟨B2, m2, rfl, _, _⟩, ⟨B3, m3, rfl, _, _⟩, ⟨B4, m4, rfl, _, _⟩⟩ := hl.forms
       have y0 := hc 0 _ rfl
       have y1 := hc 1 _ rfl
       have y2 := hc 2 _ rfl
       have y3 := hc 3 _ rfl
       have y4 := hc 4 _ rfl
       have y5 := hc 5 _ rfl
       have y6 := hc 6 _ rfl
       have y7 := hc 7 _ rfl
       have y8 := hc 8 _ rfl
       have y9 := hc 9 _ rfl
       have y10 := hc 10 _ rfl
       have y11 := hc 11 _ rfl
       simp only [Nat.add_zero] at y0
       have d2 := s2.wr.cellOf C2.out (by simp)
       have S2 := qh s2
       have GN := qh gn
       have HRUN := qh hrun
       have HO2 := qh hO2
       clear hu hu2 hrun s2 hO2 hc hl hfit gn e2
       go_wp2_with (at_builtin; refine wpList_append_run rfl _ _ _ rfl _ _ rfl rfl _ _ HRUN.out ?_)
       refine GN.out.mono ?_
       rintro e w3 ⟨vl, rfl, own3, r3⟩
       obtain ⟨K, hK⟩ : ∃ q, (kids t).length = q := ⟨_, rfl⟩
       have hKr : K ≤ 131073 := by have := KR.out; omega
       have ml : MetL w0 gi f.types.length (.slice Ao2 O2 co2) (.slice (some ⟨b, off, none⟩) m ct) vl (ord ++ [x]) L (kids t) w3 := ⟨S2.out.keep r3, Sl.mono own3.sl (fun q hq hm => by have h1 := (own3.lo q hq).1; have h2 := (S2.out.rt.lo q hm).2; omega)⟩
       obtain ⟨Al, cl, rfl, _, _⟩ := own3.form' (N := K) hK
       have hpk := predI_down K
       have HPK := qh hpk
       have HK := qh hK
       have ML := qh ml
       clear hpk hK ml own3 r3 GN HRUN d2 y0 y1 y2 y3 y4 y5 y6 y7 y8 y9 y10 y11
       go_wp2_with fail
       go_loopw [5, 9] (fun st si wr => ∃ q : Nat, q ≤ K ∧ si = .int .i64 (predI q) ∧ MetL w0 gi f.types.length (.slice Ao2 O2 co2) st (.slice Al K cl) (ord ++ [x]) ((kids t).drop q ++ L) (kids t) wr) (fun _ si _ => (intOf si + 1).toNat)
       case atStart => exact ⟨K, Nat.le_refl _, by rw [← HPK.out], by rw [List.drop_of_length_le (Nat.le_of_eq HK.out)]; exact ML.out⟩
       case round =>
        clear ML
        obtain ⟨q, hq, rfl, h5⟩ := hrel
        cases q with
        | zero =>
         rw [show predI 0 = -1 from rfl]
         rw [List.drop_zero] at h5
         obtain ⟨R, hR⟩ : ∃ q, (kids t ++ L).length = q := ⟨_, rfl⟩
         obtain ⟨At3, ct3, rfl, _, _⟩ := h5.1.rt.form' (N := R) (by rw [List.length_reverse]; exact hR)
         have H5 := qh h5
         have HR := qh hR
         clear h5 hR
         go_wp2_with fail
         go_roundw
         case rel => exact ⟨ord ++ [x], kids t ++ L, HSTEP.out, H5.out.1⟩
         case measure =>
          have hN := HN.out
          have hR := HR.out
          have hle := HSTEP.out.le
          rw [qlaq, HM2.out] at hR
          rw [qlaq, List.length_singleton, HO.out] at hle
          show (f.types.length - O2) * 200000 + R < (f.types.length - O) * 200000 + N
          rw [← hN, ← hR, ← HO2.out]
          exact meas_step _ _ _ _ hle (by have := KR.out; omega)
        | succ p =>
         rw [show predI (p + 1) = (p : Int) from rfl]
         obtain ⟨y, hy⟩ : ∃ y, (kids t)[p]? = some y := ⟨_, qgeq (by have := HK.out; omega)⟩
         obtain ⟨bl, ol, c', e, _, _, _, hyc⟩ := Sl.at_ h5.2 (j := p) (u := .int .i64 y) (by rw [qgmq, hy]; rfl)
         rw [HK.out] at e
         injection e with e1 e2 e3
         subst e1 e3
         have y0 := hyc
         have hp0 : (0 : Int) ≤ (p : Int) := by omega
         have hpK : (p : Int) < (K : Int) := by omega
         obtain ⟨v5, w5, hrun, s5⟩ := h5.push (y := y) (by have h1 := HSTEP.out.room; have := KR.out; have := HM2.out; rw [qlaq, qlaq] at h1; rw [qlaq, List.length_drop]; omega)
         have s6 : MetL w0 gi f.types.length (.slice Ao2 O2 co2) v5 (.slice (some ⟨bl, ol, none⟩) K cl) (ord ++ [x]) ((kids t).drop p ++ L) (kids t) w5 := by
          rw [List.drop_eq_getElem_cons (List.getElem?_eq_some_iff.1 hy).1, (List.getElem?_eq_some_iff.1 hy).2]
          exact s5
         have S6 := qh s6
         have HRUN := qh hrun
         have HQ := qh hq
         clear hyc hy e2 s5 s6 hrun hq h5
         go_wp2_with (at_builtin; refine wpList_append_run rfl _ _ _ rfl _ _ rfl rfl _ _ HRUN.out ?_)
         go_roundw
         case rel => exact ⟨p, by have := HQ.out; omega, by rw [predI_down], S6.out⟩
         case measure =>
          show (intOf (.int .i64 ((p : Int) - 1)) + 1).toNat < (intOf (.int .i64 (p : Int)) + 1).toNat
          simp only [intOf]
          omega
theorem list_r (n : Nat) (w : World) : Calls Tryz.prog 92 #[.int .i64 (n : Int)] w fun e w' => e = .returned (.bool (fwB n)) ∧ w = w' := by
 unfold fwB
 go_enter Tryz.func92, Tryz.ntmps92
 by_cases h : (n : Int) ≤ 65535
 ·have h' : n ≤ 65535 := by omega
  rw [qdtq h']
  go_wp2_with fail
  go_ret
  exact ⟨rfl, rfl⟩
 ·have h' : ¬ n ≤ 65535 := by omega
  rw [qdfq h']
  go_wp2_with fail
  go_ret
  exact ⟨rfl, rfl⟩
theorem short_r (s : ByteArray) (w : World) : Calls Tryz.prog 90 #[.string s] w fun e w' => e = .returned (.bool (shB s)) ∧ w = w' := by
 unfold shB
 go_enter Tryz.func90, Tryz.ntmps90
 by_cases h : (s.size : Int) ≤ 255
 ·have h' : s.size ≤ 255 := by omega
  rw [qdtq h']
  go_wp2_with fail
  go_ret
  exact ⟨rfl, rfl⟩
 ·have h' : ¬ s.size ≤ 255 := by omega
  rw [qdfq h']
  go_wp2_with fail
  go_ret
  exact ⟨rfl, rfl⟩
theorem small_r (n : Int) (w : World) : Calls Tryz.prog 68 #[.int .i64 n] w fun e w' => e = .returned (.bool (smB n)) ∧ w = w' := by
 unfold smB inB
 go_enter Tryz.func68, Tryz.ntmps68
 by_cases h1 : -2147483648 ≤ n
 ·rw [qdtq h1]
  by_cases h2 : n < 2147483648
  ·rw [qdtq (show n ≤ 2147483647 by omega)]
   go_wp2_with fail
   go_ret
   exact ⟨rfl, rfl⟩
  ·rw [qdfq (show ¬ n ≤ 2147483647 by omega)]
   go_wp2_with fail
   go_ret
   exact ⟨rfl, rfl⟩
 ·rw [qdfq h1]
  go_wp2_with fail
  go_ret
  exact ⟨rfl, rfl⟩
theorem typ_m (s : ByteArray) (vu vi : Value) (A : Option Addr) (nt c : Nat) (hc : nt ≤ 1000000) (n : Int) (w : World) :
  Calls Tryz.prog 67 #[.agg #[.string s, vu, .slice A nt c, vi], .int .i64 n] w fun e w' => e = .returned (.bool (tyB nt n)) ∧ Wr [] w w' := by
 have hw : wrap64 (10 + (nt : Int)) = 10 + (nt : Int) := by unfold wrap64; omega
 have acc := (Wr.refl [] w).alloc (.cells #[.string s, vu, .slice A nt c, vi] 27)
 have bA := Blk.new w 27 #[.string s, vu, .slice A nt c, vi]
 have ACC := qh acc
 have c2 := bA.cell 2
 simp only [qgaq, qgzq, qgsq] at c2
 unfold tyB inB
 clear acc bA
 go_enter Tryz.func67, Tryz.ntmps67
 by_cases h1 : 0 ≤ n
 ·rw [qdtq h1]
  by_cases h2 : n < 10 + (nt : Int)
  ·rw [qdtq (show n ≤ 9 + (nt : Int) by omega)]
   go_wp2_with fail
   go_ret
   exact ⟨rfl, ACC.out⟩
  ·rw [qdfq (show ¬ n ≤ 9 + (nt : Int) by omega)]
   go_wp2_with fail
   go_ret
   exact ⟨rfl, ACC.out⟩
 ·rw [qdfq h1]
  go_wp2_with fail
  go_ret
  exact ⟨rfl, ACC.out⟩
end Go.Proofs.YtjanbpchedgoiaaGreat
