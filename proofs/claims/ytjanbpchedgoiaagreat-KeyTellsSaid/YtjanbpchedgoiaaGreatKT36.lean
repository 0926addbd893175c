/- iface's Canon, of any interface: walked. No conditions. -/
import Derived.Test.YtjanbpchedgoiaaGreatKT35
set_option linter.unusedVariables false
set_option linter.unusedSimpArgs false
set_option maxRecDepth 100000
set_option maxHeartbeats 32000000
namespace Go.Proofs.YtjanbpchedgoiaaGreat
open Go.RowKit
def CanonR (f : FaceD) (w : World) (e : Ending) (w' : World) : Prop :=
 ∃ vu vt vi, e = .returned (.tuple #[(canonP f).1.val vu vt vi, .int .i64 (canonP f).2]) ∧ Wr [] w w' ∧ FaceL w' (fun b => w.heap.size ≤ b) vu vt vi (canonP f).1
def ccA (k g : Nat) : CC := ⟨k, k + 1 + 1, k + 1 + 1 + 1, g, k + 1 + 1 + 1 + 1, k⟩
theorem ccA_wf (k g : Nat) : (ccA k g).wf := by
 refine ⟨?_, fun b hb => ?_⟩
 ·simp only [ccA, CC.blocks, List.nodup_cons, qmcq, qnnq, or_false, not_or, not_false_eq_true, List.nodup_nil, and_true]
  refine ⟨⟨?_, ?_, ?_⟩, ⟨?_, ?_⟩, ?_⟩ <;> omega
 ·simp only [ccA, CC.blocks, qmcq, qnnq, or_false] at hb ⊢
  omega
theorem cenv_start (w3 wE : World) (k g nt : Nat) (hk : w3.heap.size = k)
  (hE : (((((w3.alloc (.map #[] 0)).alloc (.cells #[] 3)).alloc (.cells #[.map (some k)] 79)).alloc (.cells #[.slice (some ⟨k + 1, 0, none⟩) 0 0] 80)).alloc (.cells #[.func (.func 27) #[] #[.pointer (some ⟨k + 1 + 1, 0, none⟩), .pointer (some ⟨k + 1 + 1 + 1, 0, none⟩), .pointer (some ⟨g, 0, none⟩), .pointer (some ⟨k + 1 + 1 + 1 + 1, 0, none⟩)]] 81)) = wE) :
  CEnv (ccA k g) w3 nt [] (.slice (some ⟨k + 1, 0, none⟩) 0 0) wE ∧ Wr [] w3 wE := by
 obtain ⟨a1, ha1⟩ : ∃ a, w3.alloc (.map #[] 0) = a := ⟨_, rfl⟩
 obtain ⟨a2, ha2⟩ : ∃ a, a1.alloc (.cells #[] 3) = a := ⟨_, rfl⟩
 obtain ⟨a3, ha3⟩ : ∃ a, a2.alloc (.cells #[.map (some k)] 79) = a := ⟨_, rfl⟩
 obtain ⟨a4, ha4⟩ : ∃ a, a3.alloc (.cells #[.slice (some ⟨k + 1, 0, none⟩) 0 0] 80) = a := ⟨_, rfl⟩
 rw [ha1, ha2, ha3, ha4] at hE
 have s1 : a1.heap.size = k + 1 := by rw [← ha1, qsiq, hk]
 have s2 : a2.heap.size = k + 1 + 1 := by rw [← ha2, qsiq, s1]
 have s3 : a3.heap.size = k + 1 + 1 + 1 := by rw [← ha3, qsiq, s2]
 have s4 : a4.heap.size = k + 1 + 1 + 1 + 1 := by rw [← ha4, qsiq, s3]
 have r1 : Wr [] w3 a1 := by rw [← ha1]; exact (Wr.refl _ _).alloc _
 have r2 : Wr [] a1 a2 := by rw [← ha2]; exact (Wr.refl _ _).alloc _
 have r3 : Wr [] a2 a3 := by rw [← ha3]; exact (Wr.refl _ _).alloc _
 have r4 : Wr [] a3 a4 := by rw [← ha4]; exact (Wr.refl _ _).alloc _
 have r5 : Wr [] a4 wE := by rw [← hE]; exact (Wr.refl _ _).alloc _
 have rE : Wr [] w3 wE := (((r1.trans r2).trans r3).trans r4).trans r5
 have m1 : MapI a1 k (fun _ => none) := by rw [← ha1, ← hk]; exact MapI.new w3
 have o2 : a2.ownsRow k 3 1 (.slice (some ⟨k + 1, 0, none⟩) 0 0) 0 [] := by
  have := World.ownsRow_made (base := k) (e := 3) (size := 1) a1 #[] 0 (by omega) (by simp) rfl
  rw [s1, ha2] at this
  exact this
 have b3 : Blk a3 (k + 1 + 1) 79 #[.map (some k)] := by rw [← ha3, ← s2]; exact Blk.new _ _ _
 have b4 : Blk a4 (k + 1 + 1 + 1) 80 #[.slice (some ⟨k + 1, 0, none⟩) 0 0] := by rw [← ha4, ← s3]; exact Blk.new _ _ _
 have b5' : ∀ cs, a4.alloc (.cells cs 81) = wE → Blk wE (k + 1 + 1 + 1 + 1) 81 cs := fun cs h => by rw [← h, ← s4]; exact Blk.new _ _ _
 have b5 : Blk wE (k + 1 + 1 + 1 + 1) 81 #[.func (.func 27) #[] (ccA k g).caps] := b5' _ hE
 have e0 : numsOf [] = fun _ => none := by funext n; rfl
 refine ⟨⟨?_, (b3.wr0 r4).wr0 r5, b4.wr0 r5, b5, ?_, ?_, fun b hb => ?_, List.nodup_nil, fun x hx => by cases hx⟩, rE⟩
 ·exact rE.below (by show k ≤ _; omega) (fun x hx => by cases hx)
 ·rw [e0]
  exact (((m1.wr r2 (by simp)).wr r3 (by simp)).wr r4 (by simp)).wr r5 (by simp)
 ·exact own_keep (own_keep (own_keep o2 r3 (fun _ _ => by simp)) r4 (fun _ _ => by simp)) r5 (fun _ _ => by simp)
 ·obtain rfl : k + 1 = b := by simpa [Value.ownBlock] using hb
  simp only [ccA, CC.blocks, qmcq, qnnq, or_false]
  omega
theorem tys_sl {w : World} {b0 S : Nat} {lab : Nat → Nat × Nat} {xs : List Value} {vt : Value} {ts : List Ty} (ot : w.ownsRow b0 52 12 vt ts.length xs) (h : TysTo w S lab xs ts ts.length) (h1 : ∀ u ∈ xs, u.oneCell' = true) : SlTys w (fun b => b < w.heap.size) vt ts :=
 ⟨xs, Sl.ofOwn ot (fun b hb => (ot.lt b hb).2), h1, fun i t ht => by
  obtain ⟨vn, vf, va, vp, e, o⟩ := h i t (List.getElem?_eq_some_iff.1 ht).1 ht
  exact ⟨vn, vf, va, vp, e, o.lists.into (fun b _ hlt => hlt)⟩⟩
def MIt (c : CC) (w0 : World) (f : FaceD) (j : Nat) (w : World) : Prop :=
 ∃ ord vo, CEnv c w0 f.types.length ord vo w ∧ ordOf f = meets (kidsAt f.types) (f.types.length + 1) ((f.items.drop j).flatMap itmKids) ord ∧ fresh (nums f.types.length) ord < f.types.length + 1
theorem itmKids_eq (x : ItmD) : itmKids x = x.type :: (if (x.v.sort == 6) = true then [x.v.itemT] else []) := by
 unfold itmKids
 cases x.v <;> rfl
theorem noFace_l (w : World) (P : Nat → Prop) : FaceL w P (.slice none 0 0) (.slice none 0 0) (.slice none 0 0) noFace := ⟨Sl.nil _ _ _, SlTys.nil _ _, Sl.nil _ _ _⟩
theorem canon_no (f : FaceD) (vu vt vi : Value) (P : Nat → Prop) (w : World) (h : FaceL w P vu vt vi f) (mv : Int) (hmv : mayP f = mv) (hz : mv ≠ 0) :
  Calls Tryz.prog 18 #[.agg #[.string f.module, vu, vt, vi]] w (CanonR f w) := by
 obtain ⟨⟨A1, k1, rfl, hn1, hn2⟩, ⟨A2, k2, rfl, hf1, hf2⟩, ⟨A3, k3, rfl, ha1, ha2⟩⟩ := h.forms
 unfold maxLen at hn2 hf2 ha2
 have h1 := fun W (hW : Wr [] w W) => may_any f _ _ _ P W (h.wr0 hW)
 rw [hmv] at h1
 obtain ⟨w0, hw0⟩ : ∃ w0, (w.alloc (.cells #[.string f.module, .slice A1 f.uses.length k1, .slice A2 f.types.length k2, .slice A3 f.items.length k3] 35)).alloc (.cells #[.string ⟨#[]⟩, .slice none 0 0, .slice none 0 0, .slice none 0 0] 35) = w0 := ⟨_, rfl⟩
 obtain ⟨g, hg⟩ : ∃ g, w.heap.size = g := ⟨_, rfl⟩
 have acc : Wr [] w w0 := by rw [← hw0]; exact ((Wr.refl _ _).alloc _).alloc _
 have bA : Blk w0 g 35 #[.string f.module, .slice A1 f.uses.length k1, .slice A2 f.types.length k2, .slice A3 f.items.length k3] := by rw [← hw0, ← hg]; exact (Blk.new _ _ _).alloc _
 have bR : Blk w0 (g + 1) 35 #[.string ⟨#[]⟩, .slice none 0 0, .slice none 0 0, .slice none 0 0] := by
  have hb := Blk.new (w.alloc (.cells #[.string f.module, .slice A1 f.uses.length k1, .slice A2 f.types.length k2, .slice A3 f.items.length k3] 35)) 35 #[.string ⟨#[]⟩, .slice none 0 0, .slice none 0 0, .slice none 0 0]
  rw [show (w.alloc (.cells #[.string f.module, .slice A1 f.uses.length k1, .slice A2 f.types.length k2, .slice A3 f.items.length k3] 35)).heap.size = g + 1 by simp [hg], hw0] at hb
  exact hb
 have hres : canonP f = (noFace, mv) := by unfold canonP; rw [if_neg (by rw [hmv]; exact hz), hmv]
 have Hw0 := qh hw0
 have Hg := qh hg
 have H1 := qh h1
 have HRES := qh hres
 clear hw0 hg h h1 hres hmv
 go_enter Tryz.func18, Tryz.ntmps18
 go_upto_region 1 with (fail)
 rw [Hw0.out, Hg.out]
 have c0 := bA.cell 0
 have c1 := bA.cell 1
 have c2 := bA.cell 2
 have c3 := bA.cell 3
 simp only [qgaq, qgzq, qgsq] at c0 c1 c2 c3
 have cz0 := bA.frozen 0
 have cz1 := bA.frozen 1
 have cz2 := bA.frozen 2
 have cz3 := bA.frozen 3
 go_wp2_with fail
 refine (H1.out _ acc).mono ?_
 rintro e w1 ⟨rfl, r1⟩
 replace bR := bR.wr0 r1
 have d0 := bR.cell 0
 have d1 := bR.cell 1
 have d2 := bR.cell 2
 have d3 := bR.cell 3
 simp only [qgaq, qgzq, qgsq] at d0 d1 d2 d3
 have dz0 := bR.frozen 0
 have dz1 := bR.frozen 1
 have dz2 := bR.frozen 2
 have dz3 := bR.frozen 3
 have r4 := wr4 w1 (g + 1) (.string ⟨#[]⟩) (.slice none 0 0) (.slice none 0 0) (.slice none 0 0)
 have b4 := blk4 w1 (g + 1) 35 _ _ _ _ (.string ⟨#[]⟩) (.slice none 0 0) (.slice none 0 0) (.slice none 0 0) bR
 have acc4 := (acc.trans r1).new r4 (by have := Hg.out; omega)
 have R4 := qh acc4
 have B4 := qh b4
 clear r4 b4 acc4
 go_wp2_with fail
 refine bodyPost_ret (v := .tuple #[noFace.val (.slice none 0 0) (.slice none 0 0) (.slice none 0 0), .int .i64 mv]) ?_ rfl ⟨_, _, _, by rw [HRES.out], R4.out, by rw [HRES.out]; exact noFace_l _ _⟩
 have t0 := B4.out.cell 0
 have t1 := B4.out.cell 1
 have t2 := B4.out.cell 2
 have t3 := B4.out.cell 3
 simp only [qgaq, qgzq, qgsq] at t0 t1 t2 t3
 simp [results, Tryz.results18, go_sem, t0, t1, t2, t3, FaceD.val, noFace]
theorem canon_yes (f : FaceD) (vu vt vi : Value) (P : Nat → Prop) (w : World) (h : FaceL w P vu vt vi f) (hm : mayP f = 0) :
  Calls Tryz.prog 18 #[.agg #[.string f.module, vu, vt, vi]] w (CanonR f w) := by
 obtain ⟨⟨A1, k1, rfl, hn1, hn2⟩, ⟨A2, k2, rfl, hf1, hf2⟩, ⟨A3, k3, rfl, ha1, ha2⟩⟩ := h.forms
 unfold maxLen at hn2 hf2 ha2
 obtain ⟨p1, _, _, p4⟩ := face_parts hm
 have hnt := fit_types p1
 have hnu := fit_uses p1
 have h1 := fun W (hW : Wr [] w W) => may_any f _ _ _ P W (h.wr0 hW)
 rw [hm] at h1
 have h2 := fun W (hW : Wr [] w W) => clone_any f _ _ _ P W (h.wr0 hW) p1
 obtain ⟨w0, hw0⟩ : ∃ w0, (w.alloc (.cells #[.string f.module, .slice A1 f.uses.length k1, .slice A2 f.types.length k2, .slice A3 f.items.length k3] 35)).alloc (.cells #[.string ⟨#[]⟩, .slice none 0 0, .slice none 0 0, .slice none 0 0] 35) = w0 := ⟨_, rfl⟩
 obtain ⟨g, hg⟩ : ∃ g, w.heap.size = g := ⟨_, rfl⟩
 have acc : Wr [] w w0 := by rw [← hw0]; exact ((Wr.refl _ _).alloc _).alloc _
 have bA : Blk w0 g 35 #[.string f.module, .slice A1 f.uses.length k1, .slice A2 f.types.length k2, .slice A3 f.items.length k3] := by rw [← hw0, ← hg]; exact (Blk.new _ _ _).alloc _
 have bR : Blk w0 (g + 1) 35 #[.string ⟨#[]⟩, .slice none 0 0, .slice none 0 0, .slice none 0 0] := by
  have hb := Blk.new (w.alloc (.cells #[.string f.module, .slice A1 f.uses.length k1, .slice A2 f.types.length k2, .slice A3 f.items.length k3] 35)) 35 #[.string ⟨#[]⟩, .slice none 0 0, .slice none 0 0, .slice none 0 0]
  rw [show (w.alloc (.cells #[.string f.module, .slice A1 f.uses.length k1, .slice A2 f.types.length k2, .slice A3 f.items.length k3] 35)).heap.size = g + 1 by simp [hg], hw0] at hb
  exact hb
 have hres : canonP f = (canonF f, 0) := by unfold canonP; rw [if_pos hm]
 have Hw0 := qh hw0
 have Hg := qh hg
 have H1 := qh h1
 have H2 := qh h2
 have HRES := qh hres
 have HM := qh hm
 clear hw0 hg h h1 h2 hres hm p1 p4
 go_enter Tryz.func18, Tryz.ntmps18
 go_upto_region 1 with (fail)
 rw [Hw0.out, Hg.out]
 have c0 := bA.cell 0
 have c1 := bA.cell 1
 have c2 := bA.cell 2
 have c3 := bA.cell 3
 simp only [qgaq, qgzq, qgsq] at c0 c1 c2 c3
 have cz0 := bA.frozen 0
 have cz1 := bA.frozen 1
 have cz2 := bA.frozen 2
 have cz3 := bA.frozen 3
 go_wp2_with fail
 refine (H1.out _ acc).mono ?_
 rintro e w1 ⟨rfl, r1⟩
 replace acc := acc.trans r1
 replace bA := bA.wr0 r1
 replace bR := bR.wr0 r1
 clear c0 c1 c2 c3 cz0 cz1 cz2 cz3
 have c0 := bA.cell 0
 have c1 := bA.cell 1
 have c2 := bA.cell 2
 have c3 := bA.cell 3
 simp only [qgaq, qgzq, qgsq] at c0 c1 c2 c3
 have cz0 := bA.frozen 0
 have cz1 := bA.frozen 1
 have cz2 := bA.frozen 2
 have cz3 := bA.frozen 3
 clear r1
 have hgb0 : g < w1.heap.size := bA.lt
 have hgr0 : g + 1 < w1.heap.size := bR.lt
 go_wp2_with fail
 refine (H2.out _ acc).mono ?_
 rintro e w2 ⟨vu, vt, vi, S, lab, xs, he, k2, hS1, hS2, ou, ot, oi, nu, nt, ni, hty, hone⟩
 unfold FaceD.val at he
 subst he
 have ou' : w2.ownsRow w1.heap.size 45 2 vu f.uses.length (f.uses.flatMap UseD.cellsF) := ou
 have ot' : w2.ownsRow w1.heap.size 52 12 vt f.types.length xs := ot
 have oi' : w2.ownsRow w1.heap.size 59 5 vi f.items.length (f.items.flatMap ItmD.cells) := oi
 obtain ⟨B0, b0, rfl, q1, q2⟩ := own_form ou'
 obtain ⟨B1, b1, rfl, q3, q4⟩ := own_form ot'
 obtain ⟨B2, b2, rfl, q5, q6⟩ := own_form oi'
 replace acc := acc.trans k2
 replace bA := bA.wr0 k2
 replace bR := bR.wr0 k2
 unfold maxLen at q2 q4 q6
 clear ou ot oi k2
 clear c0 c1 c2 c3 cz0 cz1 cz2 cz3
 have c0 := bA.cell 0
 have c1 := bA.cell 1
 have c2 := bA.cell 2
 have c3 := bA.cell 3
 simp only [qgaq, qgzq, qgsq] at c0 c1 c2 c3
 have cz0 := bA.frozen 0
 have cz1 := bA.frozen 1
 have cz2 := bA.frozen 2
 have cz3 := bA.frozen 3
 have r4 := wr4 w2 g (.string f.module) (.slice B0 f.uses.length b0) (.slice B1 f.types.length b1) (.slice B2 f.items.length b2)
 have bI := blk4 w2 g 35 _ _ _ _ (.string f.module) (.slice B0 f.uses.length b0) (.slice B1 f.types.length b1) (.slice B2 f.items.length b2) bA
 have bR4 := bR.wr r4 (by simp)
 have keepO : ∀ {T z n v xs}, w2.ownsRow w1.heap.size T z v n xs → ∀ W, Wr [g] w2 W → W.ownsRow w1.heap.size T z v n xs := fun o W r => own_keep o r (fun a ha hm => by have := (o.lt a ha).1; simp at hm; omega)
 have OU := qh (keepO ou' _ r4)
 have OT := qh (keepO ot' _ r4)
 have OI := qh (keepO oi' _ r4)
 have TYS := qh (hty.keep r4 (fun x hx hs => by simp at hx; omega))
 have ACC := qh (acc.new r4 (by have := Hg.out; omega))
 have BI := qh bI
 have BR := qh bR4
 have NU := qh nu
 have NT := qh nt
 have NI := qh ni
 have HONE := qh hone
 have hS3 := Nat.le_trans hS2 r4.size
 clear keepO ou' ot' oi' r4 hty acc bI bA bR bR4 nu nt ni hone
 go_upto_region 5 with (fail)
 clear c0 c1 c2 c3 cz0 cz1 cz2 cz3
 generalize ((((w2.setCell ⟨g, 0, none⟩ (.string f.module)).setCell ⟨g, 1, none⟩ (.slice B0 f.uses.length b0)).setCell ⟨g, 2, none⟩ (.slice B1 f.types.length b1)).setCell ⟨g, 3, none⟩ (.slice B2 f.items.length b2)) = w3 at *
 have hmm := @run_makeMap Tryz.prog
 have hmf : ∀ (fn : Fn) (first cap : Array Value) (w : World), (Instr.makeFunc fn first cap).run Tryz.prog w = .ok (.func fn first cap) w := fun _ _ _ _ => rfl
 go_upto_region 8 with (fail)
 obtain ⟨k, hk⟩ : ∃ k, w3.heap.size = k := ⟨_, rfl⟩
 rw [hk]
 obtain ⟨wE, hwE⟩ : ∃ wE, (((((w3.alloc (.map #[] 0)).alloc (.cells #[] 3)).alloc (.cells #[.map (some k)] 79)).alloc (.cells #[.slice (some ⟨k + 1, 0, none⟩) 0 0] 80)).alloc (.cells #[.func (.func 27) #[] #[.pointer (some ⟨k + 1 + 1, 0, none⟩), .pointer (some ⟨k + 1 + 1 + 1, 0, none⟩), .pointer (some ⟨g, 0, none⟩), .pointer (some ⟨k + 1 + 1 + 1 + 1, 0, none⟩)]] 81)) = wE := ⟨_, rfl⟩
 rw [hwE]
 obtain ⟨env0, rE⟩ := cenv_start w3 wE k g f.types.length hk hwE
 have hgk : g < k := by rw [← hk]; exact BI.out.lt
 have hB : (ccA k g).B ≤ w3.heap.size := by show k ≤ _; omega
 have hfm := face_types HM.out
 have hff := fun t (ht : t ∈ f.types) => fit_ty_len (fit_ty (face_parts HM.out).1 ht)
 have slt := tys_sl OT.out TYS.out HONE.out
 rw [hk] at slt
 have sli : SlItms w3 (fun b => b < k) (.slice B2 f.items.length b2) f.items := Sl.ofOwn OI.out (fun b hb => by rw [← hk]; exact (OI.out.lt b hb).2)
 have bi2 := BI.out.cell 2
 simp only [qgaq, qgzq, qgsq] at bi2
 have mk := meet_any (ccA k g) (ccA_wf k g) w3 hB f.types _ slt bi2 hgk hnt hfm (fun t ht => ⟨(hff t ht).2.1, (hff t ht).2.2.2.1⟩) (f.types.length + 1)
 have mit0 : MIt (ccA k g) w3 f 0 wE := ⟨[], _, env0, by rw [List.drop_zero]; rfl, by rw [fresh_all]; omega⟩
 have b3 := env0.bel.cell (p := ⟨g, 3, none⟩) hgk
 have bi3 := BI.out.cell 3
 simp only [qgaq, qgzq, qgsq] at bi3
 rw [bi3] at b3
 have MK := qh mk
 have MIT0 := qh mit0
 have SLI := qh sli
 have SLT := qh slt
 have HK := qh hk
 have RE := qh rE
 have HFM := qh hfm
 have HFI := qh (face_items HM.out)
 clear mk mit0 sli slt hk rE hfm hff env0 hwE bi2 bi3 hmm
 go_wp2_with fail
 go_loopw [37] (fun s37 wr => ∃ j : Nat, j ≤ f.items.length ∧ s37 = .int .i64 j ∧ MIt (ccA k g) w3 f j wr) (fun s37 _ => f.items.length - (intOf s37).toNat)
 case atStart => exact ⟨0, by omega, rfl, MIT0.out⟩
 case round =>
  obtain ⟨j, hj, rfl, ord, vo, he, hmt, hfr⟩ := hrel
  by_cases hlt : j < f.items.length
  ·obtain ⟨x, hx⟩ : ∃ x, f.items[j]? = some x := ⟨_, qgeq hlt⟩
   obtain ⟨b, off, c', e, hP, hcx⟩ := itm_at SLI.out hx
   injection e with e1 _ e3
   subst e1 e3
   have x0 := (he.bel.cell (p := ⟨b, off + j * 5 + 0, none⟩) hP).trans (hcx 0 _ rfl)
   have x1 := (he.bel.cell (p := ⟨b, off + j * 5 + 1, none⟩) hP).trans (hcx 1 _ rfl)
   have x2 := (he.bel.cell (p := ⟨b, off + j * 5 + 2, none⟩) hP).trans (hcx 2 _ rfl)
   have x3 := (he.bel.cell (p := ⟨b, off + j * 5 + 3, none⟩) hP).trans (hcx 3 _ rfl)
   have x4 := (he.bel.cell (p := ⟨b, off + j * 5 + 4, none⟩) hP).trans (hcx 4 _ rfl)
   simp only [Nat.add_zero] at x0
   have hst := stored_any x.v.val x.v.val_one
   have htb := fun w => anyAs_item x.v w
   have hform := itm_form (HFI.out x (List.mem_of_getElem? hx))
   have hkids := itmKids_eq x
   have hdr : (f.items.drop j).flatMap itmKids = [x.type] ++ ((if (x.v.sort == 6) = true then [x.v.itemT] else []) ++ (f.items.drop (j + 1)).flatMap itmKids) := by
    rw [List.drop_eq_getElem_cons hlt, (List.getElem?_eq_some_iff.1 hx).2, qfcq, hkids]
    rfl
   rw [hdr, meets_append, meets_append] at hmt
   have hty1 : tyB f.types.length x.type = true := hform x.type (by rw [hkids]; simp)
   have hty2 : (x.v.sort == 6) = true → tyB f.types.length x.v.itemT = true := fun h6 => hform _ (by rw [hkids, if_pos h6]; simp)
   obtain ⟨V, hV⟩ : ∃ V, x.v.val = V := ⟨_, rfl⟩
   obtain ⟨it, hit⟩ : ∃ s, x.v.itemT = s := ⟨_, rfl⟩
   obtain ⟨inn, hin⟩ : ∃ s, x.v.itemN = s := ⟨_, rfl⟩
   obtain ⟨is6, h6⟩ : ∃ b, (x.v.sort == 6) = b := ⟨_, rfl⟩
   rw [hV, hit, hin, h6] at htb
   rw [hV] at x3 hst
   rw [h6, hit] at hmt hty2
   obtain ⟨W1, hw1⟩ : ∃ q, wr.alloc (.cells #[.string x.name, .int .u8 x.kind, .int .i64 x.type, V, .int .i64 x.at_] 59) = q := ⟨_, rfl⟩
   obtain ⟨z, hz⟩ : ∃ z, wr.heap.size = z := ⟨_, rfl⟩
   have q1 : Wr [] wr W1 := by rw [← hw1]; exact (Wr.refl [] _).alloc _
   have b1 : Blk W1 z 59 #[.string x.name, .int .u8 x.kind, .int .i64 x.type, V, .int .i64 x.at_] := by rw [← hw1, ← hz]; exact Blk.new _ _ _
   have sz : CSafe (ccA k g) vo W1 z := by rw [← hw1, ← hz]; exact he.safeNew _
   have e1 := he.wr0 hB q1
   have q9 : Wr [] W1 (W1.alloc (.cells #[.int .i64 x.type] 3)) := (Wr.refl [] _).alloc _
   have n9 := Blk.new W1 3 #[.int .i64 x.type]
   have h9 := MK.out [x.type] ord vo _ W1.heap.size (e1.wr0 hB q9) hfr (fun y hy => by rw [qmsq] at hy; rw [hy]; exact hty1) (by simp) (e1.safeNew _) (fun jj y hy => by rw [n9.cell]; match jj, hy with | 0, hy => (simp at hy; subst hy; rfl))
   simp only [List.length_cons, List.length_nil, Nat.zero_add, ccA] at h9
   have m0 := e1.bm.cell 0
   simp only [qgaq, qgzq, qgsq, CC.caps, ccA] at m0
   have H9 := qh h9
   have HMT := qh hmt
   have HFR := qh hfr
   have HTY2 := qh hty2
   have HTB := qh htb
   have HW1 := qh hw1
   have HZ := qh hz
   have B1h := qh b1
   have SZ := qh sz
   have Q9 := qh q9
   have M0 := qh m0
   have h0 : (0 : Int) ≤ (j : Int) := by omega
   have h1 : (j : Int) < (f.items.length : Int) := by omega
   clear hx hcx hform hkids hdr hmt hty1 hty2 hV hit hin h6 hw1 hz q1 b1 sz e1 q9 n9 h9 hfr he htb m0 b3
   go_upto_region 11 with (fail)
   rw [HW1.out, HZ.out]
   clear x0 x1 x2 x3 x4 hst
   have m0 := M0.out
   have d2 := B1h.out.cell 2
   simp only [qgaq, qgzq, qgsq] at d2
   go_wp2_with fail
   refine H9.out.mono ?_
   rintro e w2 ⟨rfl, vo2, e2, s2⟩
   have sz2 := (SZ.out.step (CStep.of0 Q9.out)).step s2
   have b2 := (SZ.out.step (CStep.of0 Q9.out)).blk s2 (B1h.out.wr0 Q9.out)
   have d3 := b2.cell 3
   simp only [qgaq, qgzq, qgsq] at d3
   have htb := HTB.out
   obtain ⟨W3, hw3⟩ : ∃ q, w2.alloc (.cells #[.int .i64 it, .int .i64 inn] 86) = q := ⟨_, rfl⟩
   obtain ⟨z3, hz3⟩ : ∃ z, w2.heap.size = z := ⟨_, rfl⟩
   have q3 : Wr [] w2 W3 := by rw [← hw3]; exact (Wr.refl [] _).alloc _
   have b3 : Blk W3 z3 86 #[.int .i64 it, .int .i64 inn] := by rw [← hw3, ← hz3]; exact Blk.new _ _ _
   have e3 := e2.wr0 hB q3
   have hf2 : fresh (nums f.types.length) (meets (kidsAt f.types) (f.types.length + 1) [x.type] ord) < f.types.length + 1 := Nat.lt_of_le_of_lt (fresh_mono (fun n hn => meets_more _ _ _ _ hn)) HFR.out
   have E3 := qh e3
   have HF2 := qh hf2
   have HW3 := qh hw3
   have HZ3 := qh hz3
   have BN3 := qh b3
   clear sz2 b2 e2 s2 q3 b3 e3 hf2 hw3 hz3 m0 d2
   go_upto_region 13 with (fail)
   rw [HW3.out, HZ3.out]
   clear d3 htb
   cases is6 with
   | false =>
    have hm := HMT.out
    rw [if_neg (by decide), meets_nil] at hm
    have HMN := qh hm
    clear hm
    go_wp2_with fail
    go_roundw
    case rel => exact ⟨j + 1, by omega, by go_num, _, vo2, E3.out, HMN.out, HF2.out⟩
    case measure => simp [intOf]; omega
   | true =>
    have hm := HMT.out
    rw [if_pos rfl] at hm
    have q9 : Wr [] W3 (W3.alloc (.cells #[.int .i64 it] 3)) := (Wr.refl [] _).alloc _
    have n9 := Blk.new W3 3 #[.int .i64 it]
    have h9 := MK.out [it] _ vo2 _ W3.heap.size (E3.out.wr0 hB q9) HF2.out (fun y hy => by rw [qmsq] at hy; rw [hy]; exact HTY2.out rfl) (by simp) (E3.out.safeNew _) (fun jj y hy => by rw [n9.cell]; match jj, hy with | 0, hy => (simp at hy; subst hy; rfl))
    simp only [List.length_cons, List.length_nil, Nat.zero_add, ccA] at h9
    have m0 := E3.out.bm.cell 0
    have d0 := BN3.out.cell 0
    simp only [qgaq, qgzq, qgsq, CC.caps, ccA] at m0 d0
    have HMN := qh hm
    have H10 := qh h9
    clear hm q9 n9 h9
    go_wp2_with fail
    refine H10.out.mono ?_
    rintro e w4 ⟨rfl, vo4, e4, s4⟩
    have hf4 : fresh (nums f.types.length) (meets (kidsAt f.types) (f.types.length + 1) [it] (meets (kidsAt f.types) (f.types.length + 1) [x.type] ord)) < f.types.length + 1 := Nat.lt_of_le_of_lt (fresh_mono (fun n hn => meets_more _ _ _ _ hn)) HF2.out
    have E4 := qh e4
    have HF4 := qh hf4
    clear m0 d0 e4 s4 hf4
    go_wp2_with fail
    go_roundw
    case rel => exact ⟨j + 1, by omega, by go_num, _, vo4, E4.out, HMN.out, HF4.out⟩
    case measure => simp [intOf]; omega
  ·obtain rfl : j = f.items.length := by omega
   rw [List.drop_length, List.flatMap_nil, meets_nil] at hmt
   subst hmt
   have bw : Blk wr g 35 #[.string f.module, .slice B0 f.uses.length b0, .slice B1 f.types.length b1, .slice B2 f.items.length b2] := (he.bel.block g hgk).trans BI.out
   have b2c := bw.cell 2
   have b2f := bw.frozen 2
   have po0 := he.bo.cell 0
   have pof : (ccA k g).po ≠ g := by show k + 1 + 1 + 1 ≠ g; omega
   obtain ⟨NB, hNB⟩ : ∃ NB, wr.heap.size = NB := ⟨_, rfl⟩
   obtain ⟨hok, hL2⟩ := core_start (w1 := w1) HM.out Hg.out hgr0 hS1 hS3 HK.out ⟨rfl, rfl, rfl⟩ ACC.out BI.out BR.out NU.out NT.out NI.out OU.out OT.out OI.out TYS.out he hNB
   obtain ⟨Av, cv, hvo⟩ : ∃ A c', vo = .slice A (ordOf f).length c' := by
    obtain ⟨A, c', e, _, _⟩ := own_form he.own
    exact ⟨A, c', e⟩
   subst hvo
   have hol := he.len
   have hgpo : (ccA k g).po < wr.heap.size := he.bo.lt
   simp only [qgaq, qgzq, qgsq] at b2c po0
   have po1 : (wr.setCell ⟨g, 2, none⟩ (.slice none 0 0)).cell? ⟨k + 1 + 1 + 1, 0, none⟩ = some (.slice Av (ordOf f).length cv) := ((he.bo.far (p := ⟨g, 2, none⟩) pof (.slice none 0 0)).cell 0)
   have HOK := qh hok
   have HL2 := qh hL2
   clear hok hL2 he hfr bw po0 b3 pof hgpo
   go_upto_region 19 with (fail)
   clear b2c b2f
   generalize wr.setCell ⟨g, 2, none⟩ (.slice none 0 0) = wF at *
   go_wp2_with fail
   go_loopw [65] (fun s65 wr => ∃ j : Nat, j ≤ (ordOf f).length ∧ s65 = .int .i64 j ∧ L2 (cpA w f g k w1.heap.size S NB (.slice B0 f.uses.length b0) (.slice B1 f.types.length b1) (.slice B2 f.items.length b2) (.slice Av (ordOf f).length cv) xs lab) j wr) (fun s65 _ => (ordOf f).length - (intOf s65).toNat)
   case atStart => exact ⟨0, by omega, rfl, HL2.out⟩
   case round =>
    obtain ⟨j, hj, rfl, vt', xs', hcore, htys⟩ := hrel
    clear po1
    by_cases hlt : j < (ordOf f).length
    ·skip
     obtain ⟨n, hn⟩ : ∃ n, (ordOf f)[j]? = some n := ⟨_, qgeq hlt⟩
     obtain ⟨t, htt, hn10, hnlt, htv, ⟨bo, oo, co, eo, co1⟩, ⟨bt, ot_, ct, et, hct⟩⟩ := l2_open HOK.out hcore htys hn
     replace hnlt : n < 10 + (f.types.length : Int) := hnlt
     have eo' : Value.slice Av (ordOf f).length cv = .slice (some ⟨bo, oo, none⟩) (ordOf f).length co := eo
     have et' : Value.slice B1 f.types.length b1 = .slice (some ⟨bt, ot_, none⟩) f.types.length ct := et
     injection eo' with eo1 _ eo2
     injection et' with et1 _ et2
     subst eo1 eo2 et1 et2
     obtain ⟨⟨N1, n1, g7⟩, ⟨N2, n2, g8, lf1, lf2⟩, ⟨N3, n3, g9⟩, ⟨N4, n4, g10, lp1, lp2⟩⟩ := htv.forms
     replace g7 : gV xs ((n - 10).toNat * 12 + 7) = .slice N1 t.names.length n1 := g7
     replace g8 : gV xs ((n - 10).toNat * 12 + 8) = .slice N2 t.fields.length n2 := g8
     replace g9 : gV xs ((n - 10).toNat * 12 + 9) = .slice N3 t.arms.length n3 := g9
     replace g10 : gV xs ((n - 10).toNat * 12 + 10) = .slice N4 t.params.length n4 := g10
     have x0 := hct 0 _ rfl
     have x1 := hct 1 _ rfl
     have x2 := hct 2 _ rfl
     have x3 := hct 3 _ rfl
     have x4 := hct 4 _ rfl
     have x5 := hct 5 _ rfl
     have x6 := hct 6 _ rfl
     have x7 := hct 7 (gV xs ((n - 10).toNat * 12 + 7)) rfl
     rw [g7] at x7
     have x8 := hct 8 (gV xs ((n - 10).toNat * 12 + 8)) rfl
     rw [g8] at x8
     have x9 := hct 9 (gV xs ((n - 10).toNat * 12 + 9)) rfl
     rw [g9] at x9
     have x10 := hct 10 (gV xs ((n - 10).toNat * 12 + 10)) rfl
     rw [g10] at x10
     have x11 := hct 11 _ rfl
     simp only [Nat.add_zero] at x0
     unfold maxLen at lf2 lp2
     obtain ⟨A', c2, ev', _, hc2⟩ := own_form hcore.nr
     subst ev'
     have hb := l3_box HOK.out hcore htys htv #[.int .u8 t.kind, .string t.module, .string t.name, .int .i64 t.base, .int .i64 t.index, .int .i64 t.low, .int .i64 t.high, .slice N1 t.names.length n1, .slice N2 t.fields.length n2, .slice N3 t.arms.length n3, .slice N4 t.params.length n4, .int .i64 t.result] 52 rfl
     obtain ⟨W5, hw5⟩ : ∃ q, wr.alloc (.cells #[.int .u8 t.kind, .string t.module, .string t.name, .int .i64 t.base, .int .i64 t.index, .int .i64 t.low, .int .i64 t.high, .slice N1 t.names.length n1, .slice N2 t.fields.length n2, .slice N3 t.arms.length n3, .slice N4 t.params.length n4, .int .i64 t.result] 52) = q := ⟨_, rfl⟩
     obtain ⟨z, hz⟩ : ∃ z, wr.heap.size = z := ⟨_, rfl⟩
     obtain ⟨vt', hvt'⟩ : ∃ q, Value.slice A' j c2 = q := ⟨_, rfl⟩
     rw [hw5, hz, hvt'] at hb
     have hil : (n - 10).toNat < f.types.length := by omega
     have HL3 := qh hb
     have HVT := qh hvt'
     have HW5 := qh hw5
     have HZ := qh hz
     have HN := qh hn
     have HTT := qh htt
     have G7 := qh g7
     have G8 := qh g8
     have G9 := qh g9
     have G10 := qh g10
     have hj0 : (0 : Int) ≤ (j : Int) := by omega
     have hj1 : (j : Int) < ((ordOf f).length : Int) := by omega
     have a1 : (0 : Int) ≤ n - 10 := by omega
     have a2 : n - 10 < (f.types.length : Int) := by omega
     clear hb hw5 hz hn htt hct hcore htys htv g7 g8 g9 g10 eo et hvt'
     go_upto_region 23 with (fail)
     rw [HW5.out, HZ.out]
     clear x0 x1 x2 x3 x4 x5 x6 x7 x8 x9 x10 x11 co1
     have ha6 := anew_any (k + 1 + 1) k z 3 (ordOf f) t.base W5 HL3.out.1.bn HL3.out.1.mn (HL3.out.own rfl)
     have HA6 := qh ha6
     clear ha6
     go_wp2_with fail
     refine HA6.out.mono ?_
     intro e w6 hz6
     obtain ⟨rfl, hl6⟩ := HL3.out.setZ HOK.out hil hz6
     replace HL3 := qh (show L3 (cpA w f g k w1.heap.size S NB (.slice B0 f.uses.length b0) (.slice (some ⟨bt, ot_, none⟩) f.types.length b1) (.slice B2 f.items.length b2) (.slice (some ⟨bo, oo, none⟩) (ordOf f).length cv) xs lab) j (n - 10).toNat z t #[.int .u8 t.kind, .string t.module, .string t.name, .int .i64 (anewN (ordOf f) t.base), .int .i64 t.index, .int .i64 t.low, .int .i64 t.high, .slice N1 t.names.length n1, .slice N2 t.fields.length n2, .slice N3 t.arms.length n3, .slice N4 t.params.length n4, .int .i64 t.result] vt' xs' w6 from hl6)
     clear hl6 hz6 HA6
     have ha7 := anew_any (k + 1 + 1) k z 4 (ordOf f) t.index w6 HL3.out.1.bn HL3.out.1.mn (HL3.out.own rfl)
     have HA7 := qh ha7
     clear ha7
     go_wp2_with fail
     refine HA7.out.mono ?_
     intro e w7 hz7
     obtain ⟨rfl, hl7⟩ := HL3.out.setZ HOK.out hil hz7
     replace HL3 := qh (show L3 (cpA w f g k w1.heap.size S NB (.slice B0 f.uses.length b0) (.slice (some ⟨bt, ot_, none⟩) f.types.length b1) (.slice B2 f.items.length b2) (.slice (some ⟨bo, oo, none⟩) (ordOf f).length cv) xs lab) j (n - 10).toNat z t #[.int .u8 t.kind, .string t.module, .string t.name, .int .i64 (anewN (ordOf f) t.base), .int .i64 (anewN (ordOf f) t.index), .int .i64 t.low, .int .i64 t.high, .slice N1 t.names.length n1, .slice N2 t.fields.length n2, .slice N3 t.arms.length n3, .slice N4 t.params.length n4, .int .i64 t.result] vt' xs' w7 from hl7)
     clear hl7 hz7 HA7
     have ha8 := anew_any (k + 1 + 1) k z 11 (ordOf f) t.result w7 HL3.out.1.bn HL3.out.1.mn (HL3.out.own rfl)
     have HA8 := qh ha8
     clear ha8
     go_wp2_with fail
     refine HA8.out.mono ?_
     intro e w8 hz8
     obtain ⟨rfl, hl8⟩ := HL3.out.setZ HOK.out hil hz8
     replace HL3 := qh (show L3 (cpA w f g k w1.heap.size S NB (.slice B0 f.uses.length b0) (.slice (some ⟨bt, ot_, none⟩) f.types.length b1) (.slice B2 f.items.length b2) (.slice (some ⟨bo, oo, none⟩) (ordOf f).length cv) xs lab) j (n - 10).toNat z t #[.int .u8 t.kind, .string t.module, .string t.name, .int .i64 (anewN (ordOf f) t.base), .int .i64 (anewN (ordOf f) t.index), .int .i64 t.low, .int .i64 t.high, .slice N1 t.names.length n1, .slice N2 t.fields.length n2, .slice N3 t.arms.length n3, .slice N4 t.params.length n4, .int .i64 (anewN (ordOf f) t.result)] vt' xs' w8 from hl8)
     clear hl8 hz8 HA8
     have d8 := HL3.out.2.2.2.1.cell 8
     simp only [qgaq, qgzq, qgsq] at d8
     have hf0 : L3 (cpA w f g k w1.heap.size S NB (.slice B0 f.uses.length b0) (.slice (some ⟨bt, ot_, none⟩) f.types.length b1) (.slice B2 f.items.length b2) (.slice (some ⟨bo, oo, none⟩) (ordOf f).length cv) xs lab) j (n - 10).toNat z { t with fields := stage (anewF (ordOf f)) 0 t.fields } #[.int .u8 t.kind, .string t.module, .string t.name, .int .i64 (anewN (ordOf f) t.base), .int .i64 (anewN (ordOf f) t.index), .int .i64 t.low, .int .i64 t.high, .slice N1 t.names.length n1, .slice N2 t.fields.length n2, .slice N3 t.arms.length n3, .slice N4 t.params.length n4, .int .i64 (anewN (ordOf f) t.result)] vt' xs' w8 := HL3.out.same rfl stage_zero rfl rfl
     have HF0 := qh hf0
     clear hf0
     go_wp2_with fail
     go_loopw [86] (fun s86 wr => ∃ kf : Nat, kf ≤ t.fields.length ∧ s86 = .int .i64 kf ∧ L3 (cpA w f g k w1.heap.size S NB (.slice B0 f.uses.length b0) (.slice (some ⟨bt, ot_, none⟩) f.types.length b1) (.slice B2 f.items.length b2) (.slice (some ⟨bo, oo, none⟩) (ordOf f).length cv) xs lab) j (n - 10).toNat z { t with fields := stage (anewF (ordOf f)) kf t.fields } #[.int .u8 t.kind, .string t.module, .string t.name, .int .i64 (anewN (ordOf f) t.base), .int .i64 (anewN (ordOf f) t.index), .int .i64 t.low, .int .i64 t.high, .slice N1 t.names.length n1, .slice N2 t.fields.length n2, .slice N3 t.arms.length n3, .slice N4 t.params.length n4, .int .i64 (anewN (ordOf f) t.result)] vt' xs' wr) (fun s86 _ => t.fields.length - (intOf s86).toNat)
     case atStart => exact ⟨0, by omega, rfl, HF0.out⟩
     case round =>
      obtain ⟨kf, hkf, rfl, hl3⟩ := hrel
      clear d8
      by_cases hlf : kf < t.fields.length
      ·obtain ⟨y, hy⟩ : ∃ y, t.fields[kf]? = some y := ⟨_, qgeq hlf⟩
       obtain ⟨gf, capf, ef, hown, hstep⟩ := hl3.field HOK.out hil hy
       have ef' : Value.slice N2 t.fields.length n2 = .slice (some ⟨gf, 0, none⟩) t.fields.length capf := G8.out.symm.trans ef
       injection ef' with ef1 _ ef2
       subst ef1 ef2
       have d8 := hl3.2.2.2.1.cell 8
       simp only [qgaq, qgzq, qgsq] at d8
       have ha := anew_any (k + 1 + 1) k gf (kf * 3 + 1) (ordOf f) y.type wr hl3.1.bn hl3.1.mn hown
       have HA := qh ha
       have HSTEP := qh hstep
       have h0f : (0 : Int) ≤ (kf : Int) := by omega
       have h1f : (kf : Int) < (t.fields.length : Int) := by omega
       clear ha hstep hown hl3 hy ef
       go_wp2_with fail
       refine HA.out.mono ?_
       intro e w9 hz9
       obtain ⟨rfl, hl9⟩ := HSTEP.out e w9 hz9
       have HL9 := qh hl9
       clear hl9 hz9 d8
       go_wp2_with fail
       go_roundw
       case rel => exact ⟨kf + 1, by omega, by go_num, HL9.out⟩
       case measure => simp [intOf]; omega
      ·obtain rfl : kf = t.fields.length := by omega
       have d10 := hl3.2.2.2.1.cell 10
       simp only [qgaq, qgzq, qgsq] at d10
       have hp0 : L3 (cpA w f g k w1.heap.size S NB (.slice B0 f.uses.length b0) (.slice (some ⟨bt, ot_, none⟩) f.types.length b1) (.slice B2 f.items.length b2) (.slice (some ⟨bo, oo, none⟩) (ordOf f).length cv) xs lab) j (n - 10).toNat z { ({ t with fields := stage (anewF (ordOf f)) t.fields.length t.fields } : Ty) with params := stage (anewP (ordOf f)) 0 t.params } #[.int .u8 t.kind, .string t.module, .string t.name, .int .i64 (anewN (ordOf f) t.base), .int .i64 (anewN (ordOf f) t.index), .int .i64 t.low, .int .i64 t.high, .slice N1 t.names.length n1, .slice N2 t.fields.length n2, .slice N3 t.arms.length n3, .slice N4 t.params.length n4, .int .i64 (anewN (ordOf f) t.result)] vt' xs' wr := hl3.same rfl rfl rfl stage_zero
       have HP0 := qh hp0
       clear hp0 hl3
       go_wp2_with fail
       go_loopw [100] (fun s100 wr => ∃ kp : Nat, kp ≤ t.params.length ∧ s100 = .int .i64 kp ∧ L3 (cpA w f g k w1.heap.size S NB (.slice B0 f.uses.length b0) (.slice (some ⟨bt, ot_, none⟩) f.types.length b1) (.slice B2 f.items.length b2) (.slice (some ⟨bo, oo, none⟩) (ordOf f).length cv) xs lab) j (n - 10).toNat z { ({ t with fields := stage (anewF (ordOf f)) t.fields.length t.fields } : Ty) with params := stage (anewP (ordOf f)) kp t.params } #[.int .u8 t.kind, .string t.module, .string t.name, .int .i64 (anewN (ordOf f) t.base), .int .i64 (anewN (ordOf f) t.index), .int .i64 t.low, .int .i64 t.high, .slice N1 t.names.length n1, .slice N2 t.fields.length n2, .slice N3 t.arms.length n3, .slice N4 t.params.length n4, .int .i64 (anewN (ordOf f) t.result)] vt' xs' wr) (fun s100 _ => t.params.length - (intOf s100).toNat)
       case atStart => exact ⟨0, by omega, rfl, HP0.out⟩
       case round =>
        obtain ⟨kp, hkp, rfl, hl3⟩ := hrel
        clear d10
        by_cases hlp : kp < t.params.length
        ·obtain ⟨y, hy⟩ : ∃ y, t.params[kp]? = some y := ⟨_, qgeq hlp⟩
         obtain ⟨gf, capf, ef, hown, hstep⟩ := L3.param (t := { t with fields := stage (anewF (ordOf f)) t.fields.length t.fields }) HOK.out hil hy hl3
         have ef' : Value.slice N4 t.params.length n4 = .slice (some ⟨gf, 0, none⟩) t.params.length capf := G10.out.symm.trans ef
         injection ef' with ef1 _ ef2
         subst ef1 ef2
         have d10 := hl3.2.2.2.1.cell 10
         simp only [qgaq, qgzq, qgsq] at d10
         have ha := anew_any (k + 1 + 1) k gf (kp * 2 + 1) (ordOf f) y.type wr hl3.1.bn hl3.1.mn hown
         have HA := qh ha
         have HSTEP := qh hstep
         have h0f : (0 : Int) ≤ (kp : Int) := by omega
         have h1f : (kp : Int) < (t.params.length : Int) := by omega
         clear ha hstep hown hl3 hy ef
         go_wp2_with fail
         refine HA.out.mono ?_
         intro e w9 hz9
         obtain ⟨rfl, hl9⟩ := HSTEP.out e w9 hz9
         have HL9 := qh hl9
         clear hl9 hz9 d10
         go_wp2_with fail
         go_roundw
         case rel => exact ⟨kp + 1, by omega, by go_num, HL9.out⟩
         case measure => simp [intOf]; omega
        ·obtain rfl : kp = t.params.length := by omega
         have hfull : L3 (cpA w f g k w1.heap.size S NB (.slice B0 f.uses.length b0) (.slice (some ⟨bt, ot_, none⟩) f.types.length b1) (.slice B2 f.items.length b2) (.slice (some ⟨bo, oo, none⟩) (ordOf f).length cv) xs lab) j (n - 10).toNat z (anewT (ordOf f) t) #[.int .u8 t.kind, .string t.module, .string t.name, .int .i64 (anewN (ordOf f) t.base), .int .i64 (anewN (ordOf f) t.index), .int .i64 t.low, .int .i64 t.high, .slice N1 t.names.length n1, .slice N2 t.fields.length n2, .slice N3 t.arms.length n3, .slice N4 t.params.length n4, .int .i64 (anewN (ordOf f) t.result)] vt' xs' wr := hl3.same rfl stage_all.symm rfl stage_all.symm
         have d0 := hl3.2.2.2.1.cell 0
         have d1 := hl3.2.2.2.1.cell 1
         have d2 := hl3.2.2.2.1.cell 2
         have d3 := hl3.2.2.2.1.cell 3
         have d4 := hl3.2.2.2.1.cell 4
         have d5 := hl3.2.2.2.1.cell 5
         have d6 := hl3.2.2.2.1.cell 6
         have d7 := hl3.2.2.2.1.cell 7
         have d8 := hl3.2.2.2.1.cell 8
         have d9 := hl3.2.2.2.1.cell 9
         have d10 := hl3.2.2.2.1.cell 10
         have d11 := hl3.2.2.2.1.cell 11
         simp only [qgaq, qgzq, qgsq] at d0 d1 d2 d3 d4 d5 d6 d7 d8 d9 d10 d11
         have cb := hl3.1.bi.cell 2
         have fb := hl3.1.bi.frozen 2
         replace cb : wr.cell? ⟨g, 2, none⟩ = some vt' := cb
         replace fb : wr.frozen? ⟨g, 2, none⟩ = false := fb
         obtain ⟨i0, hi0, hz0, hz1, hz2⟩ := info_parts info_typ
         have r6 : Wr [] wr (wr.alloc (.cells #[.int .u8 t.kind, .string t.module, .string t.name, .int .i64 (anewN (ordOf f) t.base), .int .i64 (anewN (ordOf f) t.index), .int .i64 t.low, .int .i64 t.high, .slice N1 t.names.length n1, .slice N2 t.fields.length n2, .slice N3 t.arms.length n3, .slice N4 t.params.length n4, .int .i64 (anewN (ordOf f) t.result)] 52)) := (Wr.refl [] wr).alloc _
         have n6 := Blk.new wr 52 #[.int .u8 t.kind, .string t.module, .string t.name, .int .i64 (anewN (ordOf f) t.base), .int .i64 (anewN (ordOf f) t.index), .int .i64 t.low, .int .i64 t.high, .slice N1 t.names.length n1, .slice N2 t.fields.length n2, .slice N3 t.arms.length n3, .slice N4 t.params.length n4, .int .i64 (anewN (ordOf f) t.result)]
         have own6 : (wr.alloc (.cells #[.int .u8 t.kind, .string t.module, .string t.name, .int .i64 (anewN (ordOf f) t.base), .int .i64 (anewN (ordOf f) t.index), .int .i64 t.low, .int .i64 t.high, .slice N1 t.names.length n1, .slice N2 t.fields.length n2, .slice N3 t.arms.length n3, .slice N4 t.params.length n4, .int .i64 (anewN (ordOf f) t.result)] 52)).ownsRow NB 52 12 vt' j xs' := own_keep hl3.1.nr r6 (fun _ _ => by simp)
         have ho1 : ∀ u ∈ ([.int .u8 t.kind, .string t.module, .string t.name, .int .i64 (anewN (ordOf f) t.base), .int .i64 (anewN (ordOf f) t.index), .int .i64 t.low, .int .i64 t.high, .slice N1 t.names.length n1, .slice N2 t.fields.length n2, .slice N3 t.arms.length n3, .slice N4 t.params.length n4, .int .i64 (anewN (ordOf f) t.result)] : List Value), u.oneCell' = true := by simp [Value.oneCell']
         have hjn : j + 1 ≤ 1024 := by omega
         obtain ⟨v'', W7, hrun, hown, hgrow, _, hbk⟩ := run_append_own_at (P := Tryz.prog) (wr.alloc (.cells #[.int .u8 t.kind, .string t.module, .string t.name, .int .i64 (anewN (ordOf f) t.base), .int .i64 (anewN (ordOf f) t.index), .int .i64 t.low, .int .i64 t.high, .slice N1 t.names.length n1, .slice N2 t.fields.length n2, .slice N3 t.arms.length n3, .slice N4 t.params.length n4, .int .i64 (anewN (ordOf f) t.result)] 52)) NB 24 24 52 i0 _ 12 176 Tryz.underlying24 hi0 hz0 hz1 hz2 rfl (by decide) vt' j xs' own6 ⟨wr.heap.size, 0, none⟩ 1 1 [.int .u8 t.kind, .string t.module, .string t.name, .int .i64 (anewN (ordOf f) t.base), .int .i64 (anewN (ordOf f) t.index), .int .i64 t.low, .int .i64 t.high, .slice N1 t.names.length n1, .slice N2 t.fields.length n2, .slice N3 t.arms.length n3, .slice N4 t.params.length n4, .int .i64 (anewN (ordOf f) t.result)] rfl (fun jj u hu => by
          rw [Addr.add_lit, Nat.zero_add, n6.cell, qgaq]
          exact hu) ho1 (by unfold maxLen; omega) (by omega) (Nat.le_trans hl3.1.nb r6.size)
         have hfin := L3.append HOK.out HN.out hn10 HTT.out hfull r6 (by unfold cellsV; rw [show gV (cpA w f g k w1.heap.size S NB (.slice B0 f.uses.length b0) (.slice (some ⟨bt, ot_, none⟩) f.types.length b1) (.slice B2 f.items.length b2) (.slice (some ⟨bo, oo, none⟩) (ordOf f).length cv) xs lab).xs ((n - 10).toNat * 12 + 7) = _ from G7.out, show gV (cpA w f g k w1.heap.size S NB (.slice B0 f.uses.length b0) (.slice (some ⟨bt, ot_, none⟩) f.types.length b1) (.slice B2 f.items.length b2) (.slice (some ⟨bo, oo, none⟩) (ordOf f).length cv) xs lab).xs ((n - 10).toNat * 12 + 8) = _ from G8.out, show gV (cpA w f g k w1.heap.size S NB (.slice B0 f.uses.length b0) (.slice (some ⟨bt, ot_, none⟩) f.types.length b1) (.slice B2 f.items.length b2) (.slice (some ⟨bo, oo, none⟩) (ordOf f).length cv) xs lab).xs ((n - 10).toNat * 12 + 9) = _ from G9.out, show gV (cpA w f g k w1.heap.size S NB (.slice B0 f.uses.length b0) (.slice (some ⟨bt, ot_, none⟩) f.types.length b1) (.slice B2 f.items.length b2) (.slice (some ⟨bo, oo, none⟩) (ordOf f).length cv) xs lab).xs ((n - 10).toNat * 12 + 10) = _ from G10.out]; rfl) ho1 hown hgrow
         replace hfin : L2 (cpA w f g k w1.heap.size S NB (.slice B0 f.uses.length b0) (.slice (some ⟨bt, ot_, none⟩) f.types.length b1) (.slice B2 f.items.length b2) (.slice (some ⟨bo, oo, none⟩) (ordOf f).length cv) xs lab) (j + 1) (W7.setCell ⟨g, 2, none⟩ v'') := hfin
         obtain ⟨A7, c7, hv7⟩ : ∃ A c, v'' = .slice A (j + 1) c := by
          rcases hown.2 with ⟨_, h0⟩ | ⟨gg, cap, cur, e, _⟩
          ·omega
          ·exact ⟨_, _, e⟩
         subst hv7
         have hgNB : g ∉ ownL vt' := fun hm => by
          have h1 := (hl3.1.nr.lt g (mem_ownL.1 hm)).1
          have h2 : k ≤ NB := HOK.out.p5
          have h3 : NB ≤ g := h1
          omega
         have b7 := ((hl3.1.bi.wr0 r6).wr (Wr.ofGrownOwn hgrow) hgNB)
         have c7' : W7.cell? ⟨g, 2, none⟩ = some vt' := b7.cell 2
         have f7 : W7.frozen? ⟨g, 2, none⟩ = false := b7.frozen 2
         have HRUN := qh hrun
         have HFIN := qh hfin
         rw [← HVT.out] at cb c7' HRUN
         clear hfull hl3 r6 n6 own6 ho1 hrun hown hgrow hbk hfin hgNB b7 hi0 hz0 hz1 hz2
         go_wp2_with (at_builtin; refine wpList_append_run rfl _ _ _ rfl _ _ rfl rfl _ _ HRUN.out ?_)
         go_roundw
         case rel => exact ⟨j + 1, by omega, by go_num, HFIN.out⟩
         case measure => simp [intOf]; omega
    ·skip
     obtain rfl : j = (ordOf f).length := by omega
     have e3 := hcore.bi.cell 3
     replace e3 : wr.cell? ⟨g, 3, none⟩ = some (.slice B2 f.items.length b2) := e3
     have h50 : L5z (cpA w f g k w1.heap.size S NB (.slice B0 f.uses.length b0) (.slice B1 f.types.length b1) (.slice B2 f.items.length b2) (.slice Av (ordOf f).length cv) xs lab) (stage (anewI (ordOf f)) 0 f.items) wr := ⟨vt', xs', by rw [stage_zero]; exact hcore, htys⟩
     have H50 := qh h50
     clear h50 hcore htys
     go_wp2_with fail
     go_loopw [121] (fun s121 wr => ∃ j : Nat, j ≤ f.items.length ∧ s121 = .int .i64 j ∧ L5z (cpA w f g k w1.heap.size S NB (.slice B0 f.uses.length b0) (.slice B1 f.types.length b1) (.slice B2 f.items.length b2) (.slice Av (ordOf f).length cv) xs lab) (stage (anewI (ordOf f)) j f.items) wr) (fun s121 _ => f.items.length - (intOf s121).toNat)
     case atStart => exact ⟨0, by omega, rfl, H50.out⟩
     case round =>
      obtain ⟨j, hj, rfl, h5⟩ := hrel
      clear e3
      have e3 : wr.cell? ⟨g, 3, none⟩ = some (.slice B2 f.items.length b2) := by
       obtain ⟨vt', xs', hcore, _⟩ := h5
       exact hcore.bi.cell 3
      by_cases hlt : j < f.items.length
      ·obtain ⟨x, hx⟩ : ∃ x, f.items[j]? = some x := ⟨_, qgeq hlt⟩
       have hsx : (stage (anewI (ordOf f)) j f.items)[j]? = some x := stage_at hx
       obtain ⟨gi, capi, evi, hgi, hown⟩ := h5.cells hsx
       have evi' : Value.slice B2 f.items.length b2 = .slice (some ⟨gi, 0, none⟩) f.items.length capi := by
        rw [stage_len] at evi
        exact evi
       injection evi' with ev1 _ ev2
       subst ev1 ev2
       have hbn : Blk wr (k + 1 + 1) 79 #[.map (some k)] := by
        obtain ⟨vt', xs', hcore, _⟩ := h5
        exact hcore.bn
       have hmn : MapI wr k (numsOf (ordOf f)) := by
        obtain ⟨vt', xs', hcore, _⟩ := h5
        exact hcore.mn
       have ha := anew_any (k + 1 + 1) k gi (j * 5 + 2) (ordOf f) x.type wr hbn hmn (hown 2 _ rfl)
       have hst := stored_any x.v.val x.v.val_one
       have htb := fun w => anyAs_item x.v w
       obtain ⟨y, hy⟩ : ∃ y : ItmD, y = { x with type := anewN (ordOf f) x.type } := ⟨_, rfl⟩
       have hy3 : y.cells[3]? = some x.v.val := by rw [hy]; rfl
       have hset : ∀ e w6, AnewR (ordOf f) x.type gi (j * 5 + 2) wr e w6 → e = .returned (.tuple #[]) ∧ L5z (cpA w f g k w1.heap.size S NB (.slice B0 f.uses.length b0) (.slice B1 f.types.length b1) (.slice (some ⟨gi, 0, none⟩) f.items.length b2) (.slice Av (ordOf f).length cv) xs lab) ((stage (anewI (ordOf f)) j f.items).set j y) w6 := fun e w6 hz => by
        obtain ⟨he, wd, r, hh, hw⟩ := hz
        exact ⟨he, h5.set HOK.out hsx (J := 2) (by decide) (by rw [hy]; rfl) hgi r hh hw⟩
       have hsy : ((stage (anewI (ordOf f)) j f.items).set j y)[j]? = some y := List.getElem?_set_self (by rw [stage_len]; exact hlt)
       have hno : (x.v.sort == 6) = false → (stage (anewI (ordOf f)) j f.items).set j y = stage (anewI (ordOf f)) (j + 1) f.items := fun h6 => by
        rw [← stage_set hx, hy]
        unfold anewI
        rw [anewV_other h6]
       have hyes : (x.v.sort == 6) = true → (y.cells.set 3 (.iface 86 (.agg #[.int .i64 (anewN (ordOf f) x.v.itemT), .int .i64 x.v.itemN])) = (anewI (ordOf f) x).cells ∧ ((stage (anewI (ordOf f)) j f.items).set j y).set j (anewI (ordOf f) x) = stage (anewI (ordOf f)) (j + 1) f.items) := fun h6 => by
        refine ⟨?_, by rw [List.set_set, stage_set hx]⟩
        rw [hy]
        unfold anewI
        have hv := anyItem h6
        generalize x.v.itemT = it at *
        generalize x.v.itemN = inn at *
        rw [hv]
        rfl
       obtain ⟨V, hV⟩ : ∃ V, x.v.val = V := ⟨_, rfl⟩
       obtain ⟨it, hit⟩ : ∃ s, x.v.itemT = s := ⟨_, rfl⟩
       obtain ⟨inn, hin⟩ : ∃ s, x.v.itemN = s := ⟨_, rfl⟩
       obtain ⟨is6, h6⟩ : ∃ b, (x.v.sort == 6) = b := ⟨_, rfl⟩
       rw [hV, hit, hin, h6] at htb
       rw [hV] at hst hy3
       rw [h6] at hno
       rw [h6, hit, hin] at hyes
       have HA := qh ha
       have HSET := qh hset
       have HSY := qh hsy
       have HNO := qh hno
       have HYES := qh hyes
       have HY3 := qh hy3
       have HTB := qh htb
       have HST := qh hst
       have h0 : (0 : Int) ≤ (j : Int) := by omega
       have h1 : (j : Int) < (f.items.length : Int) := by omega
       clear ha hset hsy hno hyes hy3 htb hst hy hown hbn hmn h5 hsx hx hV hit hin h6 evi
       go_wp2_with fail
       refine HA.out.mono ?_
       intro e w6 hz6
       obtain ⟨rfl, h6z⟩ := HSET.out e w6 hz6
       obtain ⟨gi', capi', evi2, hgi2, hown2⟩ := h6z.cells HSY.out
       obtain rfl : gi = gi' := by
        have : (Value.slice (some ⟨gi, 0, none⟩) f.items.length b2).ownBlock = some gi' := hgi2
        simpa [Value.ownBlock] using this
       have o3 := hown2 3 _ HY3.out
       have c3 := o3.cell
       have hbx := h6z.box HOK.out #[.int .i64 it, .int .i64 inn] 86 rfl
       obtain ⟨W7, hw7⟩ : ∃ q, w6.alloc (.cells #[.int .i64 it, .int .i64 inn] 86) = q := ⟨_, rfl⟩
       obtain ⟨z, hz⟩ : ∃ z, w6.heap.size = z := ⟨_, rfl⟩
       have r7 : Wr [] w6 W7 := by rw [← hw7]; exact (Wr.refl _ _).alloc _
       rw [hw7, hz] at hbx
       have O37 := qh (o3.keep r7 (by simp))
       have HBX := qh hbx
       have HW7 := qh hw7
       have HZ := qh hz
       have htb := HTB.out
       clear hbx hw7 hz r7 o3 h6z hz6 hown2 evi2 e3
       go_upto_region 44 with (fail)
       rw [HW7.out, HZ.out]
       clear c3 htb
       cases is6 with
       | false =>
        have h7 := HBX.out.toz
        rw [HNO.out rfl] at h7
        have H7 := qh h7
        clear h7
        go_wp2_with fail
        go_roundw
        case rel => exact ⟨j + 1, by omega, by go_num, H7.out⟩
        case measure => simp [intOf]; omega
       | true =>
        have hbn : Blk W7 (k + 1 + 1) 79 #[.map (some k)] := by
         obtain ⟨vt', xs', hcore, _⟩ := HBX.out
         exact hcore.bn
        have hmn : MapI W7 k (numsOf (ordOf f)) := by
         obtain ⟨vt', xs', hcore, _⟩ := HBX.out
         exact hcore.mn
        have hbz := HBX.out.blk
        have ha := anew_any (k + 1 + 1) k z 0 (ordOf f) it W7 hbn hmn ⟨hbz.cell 0, hbz.frozen 0⟩
        have hzl : z ≠ gi := by
         obtain ⟨vt', xs', hcore, _, _, h9, _⟩ := HBX.out
         have h1 := HOK.out.i1 gi hgi2
         have h2 := HOK.out.p4
         have h3 := HOK.out.p5
         intro e
         subst e
         exact absurd (Nat.lt_of_lt_of_le h1 (Nat.le_trans h2 (Nat.le_trans h3 h9))) (Nat.lt_irrefl _)
        have HA2 := qh ha
        clear ha hbn hmn hbz
        go_wp2_with fail
        refine HA2.out.mono ?_
        intro e w8 hz8
        obtain ⟨rfl, h8⟩ := HBX.out.setZ HOK.out hz8
        obtain ⟨_, wd, r, hh, hw⟩ := hz8
        have o8 := O37.out.keep (wr_set r hw) (by simp; exact fun e => hzl e.symm)
        have c8 := o8.cell
        have f8 := o8.frozen
        have b8 : Blk w8 z 86 #[.int .i64 (anewN (ordOf f) it), .int .i64 inn] := h8.blk
        have y0 := b8.cell 0
        have y1 := b8.cell 1
        simp only [qgaq, qgzq, qgsq] at y0 y1
        have h9 := h8.toz.set HOK.out HSY.out (J := 3) (by decide) (HYES.out (by trivial)).1 hgi2 (Wr.refl [] w8) rfl rfl
        rw [(HYES.out (by trivial)).2] at h9
        have H9 := qh h9
        have hst := HST.out
        clear h8 r hh hw o8 b8 h9
        go_wp2_with fail
        go_roundw
        case rel => exact ⟨j + 1, by omega, by go_num, H9.out⟩
        case measure => simp [intOf]; omega
      ·obtain rfl : j = f.items.length := by omega
       rw [stage_all] at h5
       obtain ⟨vt', xs', hcore, htys⟩ := h5
       have hfin := hcore.fin HOK.out rfl htys
       obtain ⟨A', c2, ev', _, _⟩ := own_form hcore.nr
       subst ev'
       have hbi : Blk wr g 35 #[.string f.module, .slice B0 f.uses.length b0, .slice A' (ordOf f).length c2, .slice B2 f.items.length b2] := hcore.bi
       have hbr : Blk wr (g + 1) 35 #[.string ⟨#[]⟩, .slice none 0 0, .slice none 0 0, .slice none 0 0] := hcore.br
       have hacc : Wr [] w wr := hcore.acc
       clear e3
       have t0 := hbi.cell 0
       have t1 := hbi.cell 1
       have t2 := hbi.cell 2
       have t3 := hbi.cell 3
       have s0 := hbr.cell 0
       have s1 := hbr.cell 1
       have s2 := hbr.cell 2
       have s3 := hbr.cell 3
       simp only [qgaq, qgzq, qgsq] at t0 t1 t2 t3 s0 s1 s2 s3
       have z0 := hbr.frozen 0
       have z1 := hbr.frozen 1
       have z2 := hbr.frozen 2
       have z3 := hbr.frozen 3
       have HFIN := qh hfin
       have HBR := qh hbr
       have HACC := qh hacc
       clear hcore htys hfin hbi hbr hacc
       go_wp2_with fail
       have r4 := wr4 wr (g + 1) (.string f.module) (.slice B0 f.uses.length b0) (.slice A' (ordOf f).length c2) (.slice B2 f.items.length b2)
       have hfl := (HFIN.out.keep r4 (fun b hb hm => by
        rw [qmsq] at hm
        subst hm
        have h1 : w1.heap.size ≤ g + 1 := hb
        omega)).into (Q := fun b => w.heap.size ≤ b) (fun b hb _ => by
        have h1 : w1.heap.size ≤ b := hb
        have := Hg.out
        omega)
       refine bodyPost_ret (v := .tuple #[(canonF f).val (.slice B0 f.uses.length b0) (.slice A' (ordOf f).length c2) (.slice B2 f.items.length b2), .int .i64 0]) ?_ rfl ⟨_, _, _, by rw [HRES.out], HACC.out.new r4 (by have := Hg.out; omega), by rw [HRES.out]; exact hfl⟩
       have cc := blk4 wr (g + 1) 35 _ _ _ _ (.string f.module) (.slice B0 f.uses.length b0) (.slice A' (ordOf f).length c2) (.slice B2 f.items.length b2) HBR.out
       have u0 := cc.cell 0
       have u1 := cc.cell 1
       have u2 := cc.cell 2
       have u3 := cc.cell 3
       simp only [qgaq, qgzq, qgsq] at u0 u1 u2 u3
       simp [results, Tryz.results18, go_sem, u0, u1, u2, u3, FaceD.val, canonF]
theorem canon_any (f : FaceD) (vu vt vi : Value) (P : Nat → Prop) (w : World) (h : FaceL w P vu vt vi f) :
  Calls Tryz.prog 18 #[.agg #[.string f.module, vu, vt, vi]] w (CanonR f w) := by
 by_cases hm : mayP f = 0
 ·exact canon_yes f vu vt vi P w h hm
 ·exact canon_no f vu vt vi P w h _ rfl hm
end Go.Proofs.YtjanbpchedgoiaaGreat
