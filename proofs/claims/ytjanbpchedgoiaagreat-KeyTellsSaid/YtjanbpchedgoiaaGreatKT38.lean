/- KeyTells: walked. Conditions: the interface is such as Go has. -/
import Derived.Test.YtjanbpchedgoiaaGreatKT37
import Derived.ProofKit
import Derived.OpenShut
import Derived.Deep.Slices
import Derived.Deep.Fields
import Derived.ChangeSame
import Derived.Deep.Grids
set_option linter.unusedVariables false
set_option linter.unusedSimpArgs false
set_option maxRecDepth 100000
set_option maxHeartbeats 32000000
namespace Go.Proofs.YtjanbpchedgoiaaGreat
open Go.RowKit
theorem keyTells_main (f : FaceP) (vu vt vi : Value) (P : Nat → Prop) (h : Nat) (hh : h < 18446744073709551616) (s : ByteArray) (hs : s.size ≤ maxLen) (w : World) (hl : FacePL w P vu vt vi f) (hso : ∀ x ∈ f.items, 0 ≤ x.v.sort) (hW : faceW (faceOf f)) :
  Calls Tryz.prog 3 #[.int .u64 (h : Int), .string s, .agg #[.string f.module, vu, vt, vi]] w fun e w' => e = .returned (.bool true) ∧ Wr [] w w' := by
 obtain ⟨⟨A1, k1, rfl, hn1, hn2⟩, ⟨A2, k2, rfl, hf1, hf2⟩, ⟨A3, k3, rfl, ha1, ha2⟩⟩ := hl.forms
 have hal := alive_ok
 unfold AliveOk at hal
 obtain ⟨w0, hw0⟩ : ∃ w0, w.alloc (.cells #[.string f.module, .slice A1 f.uses.length k1, .slice A2 f.types.length k2, .slice A3 f.items.length k3] 27) = w0 := ⟨_, rfl⟩
 obtain ⟨g, hg⟩ : ∃ g, w.heap.size = g := ⟨_, rfl⟩
 have acc : Wr [] w w0 := by rw [← hw0]; exact (Wr.refl _ _).alloc _
 have bF : Blk w0 g 27 #[.string f.module, .slice A1 f.uses.length k1, .slice A2 f.types.length k2, .slice A3 f.items.length k3] := by rw [← hw0, ← hg]; exact Blk.new _ _ _
 have hlg := large_any f _ _ _ P w0 (hl.wr0 acc)
 obtain ⟨M, hM⟩ : ∃ q, moreN h (natsOf s) = q := ⟨_, rfl⟩
 obtain ⟨O, hO⟩ : ∃ q, ofN (moreN 14695981039346656037 (natsOf s)) = q := ⟨_, rfl⟩
 obtain ⟨T, hT⟩ : ∃ q, textS h = q := ⟨_, rfl⟩
 have m1 := fun W => more_any h hh s hs W
 have m2 := fun W => rmore_any h hh s hs W
 have m3 := fun W => of_any s hs W
 have m4 := fun W => rof_any s hs W
 have m5 := fun W => text_any h hh W
 have m6 := fun W => rtext_any h hh W
 simp only [hM] at m1 m2
 simp only [hO] at m3 m4
 simp only [hT] at m5 m6
 have M1 := qh m1
 have M2 := qh m2
 have M3 := qh m3
 have M4 := qh m4
 have M5 := qh m5
 have M6 := qh m6
 have Hw0 := qh hw0
 have Hg := qh hg
 have HAL := qh hal
 have HL := qh hl
 have HS := qh hso
 have HW := qh hW
 have HLG := qh hlg
 have ACC := qh acc
 have BF := qh bF
 have c0 := bF.cell 0
 have c1 := bF.cell 1
 have c2 := bF.cell 2
 have c3 := bF.cell 3
 simp only [qgaq, qgzq, qgsq] at c0 c1 c2 c3
 unfold maxLen at hs
 clear hw0 hg hal hl hso hW hlg acc bF m1 m2 m3 m4 m5 m6 hM hO hT hn1 hn2 hf1 hf2 ha1 ha2
 go_enter Tryz.func3, Tryz.ntmps3
 go_upto_region 1 with (fail)
 rw [Hw0.out, Hg.out]
 by_cases hlen : (4096 : Int) < (s.size : Int)
 ·go_wp2_with fail
  refine (HAL.out _).mono ?_
  rintro e w2 ⟨rfl, r2⟩
  go_wp2_with fail
  go_ret
  exact ⟨rfl, ACC.out.trans r2⟩
 go_wp2_with fail
 refine HLG.out.mono ?_
 rintro e w1 ⟨r, rfl, r1, hsm⟩
 have A1c := qh (ACC.out.trans r1)
 have B1 := qh (BF.out.wr0 r1)
 clear c0 c1 c2 c3 r1
 cases r with
 | true =>
  go_wp2_with fail
  refine (HAL.out _).mono ?_
  rintro e w2 ⟨rfl, r2⟩
  go_wp2_with fail
  go_ret
  exact ⟨rfl, A1c.out.trans r2⟩
 | false =>
 have hi60 := (hsm rfl).1
 have c0 := B1.out.cell 0
 have c1 := B1.out.cell 1
 have c2 := B1.out.cell 2
 have c3 := B1.out.cell 3
 simp only [qgaq, qgzq, qgsq] at c0 c1 c2 c3
 obtain ⟨d, hd⟩ : ∃ d, faceOf f = d := ⟨_, rfl⟩
 have hdm : f.module = d.module := by rw [← hd]; rfl
 have hof := fun W (r : Wr [] w W) => of_face f _ _ _ P W (HL.out.wr0 r) HS.out (by omega)
 unfold OfR at hof
 simp only [hd] at hof
 have hWd := HW.out
 rw [hd] at hWd
 have hdl : d.items.length ≤ 60 := by rw [← hd]; show (f.items.map itmOf).length ≤ 60; rw [qlmq]; exact hi60
 have hv : ∀ v2, d.val (.slice A1 f.uses.length k1) (.slice A2 f.types.length k2) v2 = .agg #[.string d.module, .slice A1 f.uses.length k1, .slice A2 f.types.length k2, v2] := fun _ => rfl
 simp only [hv] at hof
 have HOF := qh hof
 have HWD := qh hWd
 have HDL := qh hdl
 obtain ⟨kp, hkp⟩ : ∃ q, keyP d = q := ⟨_, rfl⟩
 obtain ⟨K, E⟩ := kp
 have HKP := qh hkp
 have HDM := qh hdm
 clear hof hWd hd hdm hdl hsm hkp hv hi60
 go_wp2_with fail
 refine (HOF.out _ A1c.out).mono ?_
 rintro e w2 ⟨vi2, rfl, r2, hl2⟩
 have hki := keyIface_any d _ _ _ _ w2 hl2 HWD.out
 rw [HKP.out] at hki
 obtain ⟨_, _, ⟨D3, j3, rfl, _, _⟩⟩ := hl2.forms
 have HKI := qh hki
 have A2c := qh (A1c.out.trans r2)
 have B2 := qh (B1.out.wr0 r2)
 clear hki hl2 r2 c0 c1 c2 c3
 go_wp2_with fail
 refine HKI.out.mono ?_
 rintro e w3 ⟨rfl, r3⟩
 have A3c := qh (A2c.out.trans r3)
 have B3 := qh (B2.out.wr0 r3)
 clear r3 HKI
 have c0 := B3.out.cell 0
 have c1 := B3.out.cell 1
 have c2 := B3.out.cell 2
 have c3 := B3.out.cell 3
 simp only [qgaq, qgzq, qgsq] at c0 c1 c2 c3
 go_wp2_with fail
 refine (HOF.out _ A3c.out).mono ?_
 rintro e w4 ⟨vi4, rfl, r4, hl4⟩
 have hpl := plain_face d _ _ _ _ w4 hl4 HWD.out.vals (by have := HDL.out; omega)
 obtain ⟨_, _, ⟨D4, j4, rfl, _, _⟩⟩ := hl4.forms
 have HPL := qh hpl
 have A4c := qh (A3c.out.trans r4)
 clear hpl hl4 r4 c0 c1 c2 c3
 go_wp2_with fail
 refine HPL.out.mono ?_
 rintro e w5 ⟨vi5, rfl, r5, hl5⟩
 have hri := riface_b d _ _ _ _ w5 hl5 HWD.out
 rw [HKP.out] at hri
 have hv5 : (facePl d).val (.slice A1 f.uses.length k1) (.slice A2 f.types.length k2) vi5 = .agg #[.string d.module, .slice A1 f.uses.length k1, .slice A2 f.types.length k2, vi5] := rfl
 rw [hv5]
 obtain ⟨_, _, ⟨D5, j5, rfl, _, _⟩⟩ := hl5.forms
 have HRI := qh hri
 have A5c := qh (A4c.out.trans r5)
 clear hri hl5 r5 hv5 HPL
 go_wp2_with fail
 refine HRI.out.mono ?_
 rintro e w6 ⟨rfl, r6⟩
 have A6c := qh (A5c.out.trans r6)
 clear r6 HRI
 go_wp2_with fail
 refine (M1.out _).mono ?_
 rintro e w7 ⟨rfl, rfl⟩
 go_wp2_with fail
 refine (M2.out _).mono ?_
 rintro e w7 ⟨rfl, rfl⟩
 go_wp2_with fail
 refine (M3.out _).mono ?_
 rintro e w7 ⟨rfl, rfl⟩
 go_wp2_with fail
 refine (M4.out _).mono ?_
 rintro e w7 ⟨rfl, rfl⟩
 go_wp2_with fail
 refine (M5.out _).mono ?_
 rintro e w7 ⟨rfl, r7⟩
 go_wp2_with fail
 refine (M6.out _).mono ?_
 rintro e w8 ⟨rfl, r8⟩
 have A8c := qh ((A6c.out.trans r7).trans r8)
 clear r7 r8
 go_wp2_with fail
 refine (HAL.out _).mono ?_
 rintro e w9 ⟨rfl, r9⟩
 go_wp2_with fail
 go_ret
 exact ⟨rfl, A8c.out.trans r9⟩
end Go.Proofs.YtjanbpchedgoiaaGreat
namespace Go.Proofs.YtjanbpchedgoiaaGreat
open Go.ChangeShapes Go.WideShapes Go.ChangeAt Go.RowKit
open Go.ChangeShapes Go.WideShapes Go.ChangeAt Go.RowKit Go.Deep
section
variable {H : Type} {enc : TypeId × Value → H} {P : Program} {w : World} {base : Nat} {spare : Nat → Bool} {held : Bool}
end
open Go.ChangeShapes Go.WideShapes Go.ChangeAt Go.RowKit Go.Deep
section
variable {H : Type} {enc : TypeId × Value → H} {P : Program} {w : World} {base : Nat} {held : Bool} {spare : Nat → Bool}
theorem open_things {α : Type} {t e : TypeId} {S : Nat} (R : α → List Value → Prop) (ht : P.underlying t = some (.slice e)) (hC : P.cellsOf e = S) (hS : 0 < S)
  (hel : ∀ n cs y, cs.length = S → DataW.trod enc P w base spare held n e cs = some y → ∃ x : α, R x cs) {n : Nat} {cs : List Value} {y : DataW H × List MemPlace} (h : DataW.trod enc P w base spare held n t cs = some y) :
  ∃ (l : List α) (v : Value) (xs : List Value), cs = [v] ∧ Sl w (fun _ => True) S v l.length xs ∧ ∀ i x, l[i]? = some x → ∃ c, c.length = S ∧ R x c ∧ ∀ (k : Nat) (u : Value), c[k]? = some u → xs[i * S + k]? = some u := by
 rcases open_slice ht h with ⟨h0, _⟩ | ⟨a, len, cap, m, n', D, Pl, hcs, hb, hl, hm, hmm, hx, hi⟩
 ·exact ⟨[], _, [], h0, Sl.nil _ _ _, fun i x hx => by simp at hx⟩
 ·have hlm : len ≤ m := by rw [hmm]; split <;> omega
  have hh : ∀ i : Fin len, ∃ p : α × List Value, p.2.length = S ∧ R p.1 p.2 ∧ ∀ k, k < S → w.cell? (a.add (i.1 * S + k)) = p.2[k]? := by
   intro i
   obtain ⟨cs', hc, ht'⟩ := hi i.1 (by have := i.2; omega)
   rw [hC] at hc
   obtain ⟨_, hcl, hat⟩ := World.cells?_some hc
   obtain ⟨x, hx⟩ := hel _ _ _ hcl ht'
   refine ⟨(x, cs'), hcl, hx, fun k hk => ?_⟩
   rw [← Go.Deep.add_add]
   exact hat k hk
  obtain ⟨F, hF⟩ := Classical.axiomOfChoice hh
  let V : Nat → Value := fun j => (w.cell? (a.add j)).getD (.bool false)
  have hV : ∀ j, j < len * S → w.cell? (a.add j) = some (V j) := by
   intro j hj
   have h1 : j / S < len := Nat.div_lt_of_lt_mul (by rw [Nat.mul_comm]; exact hj)
   have h2 : j % S < S := Nat.mod_lt _ hS
   obtain ⟨g1, g2, g3⟩ := hF ⟨j / S, h1⟩
   have := g3 (j % S) h2
   have e : j / S * S + j % S = j := by rw [Nat.mul_comm]; exact Nat.div_add_mod j S
   simp only [e] at this
   rw [qgeq (by omega)] at this
   simp only [V, this, Option.getD_some]
  have hll : (List.ofFn (fun i => (F i).1)).length = len := by simp
  refine ⟨List.ofFn (fun i => (F i).1), .slice (some a) len cap, (List.range (len * S)).map V, hcs, ?_, fun i x hx => ?_⟩
  ·rw [hll]
   refine ⟨some a, cap, rfl, hl, hm, by simp, fun j u hj => ?_⟩
   have hjl : j < len * S := by
    have := (List.getElem?_eq_some_iff.1 hj).1
    simpa using this
   rw [qgmq, List.getElem?_range hjl] at hj
   have hc := hV j hjl
   injection hj with hj
   rw [hj] at hc
   obtain ⟨b, off, spot⟩ := a
   have hspot : spot = none := by
    have := hV 0 (by omega)
    simpa [Addr.add] using World.cell?_spot this
   subst hspot
   exact ⟨b, off, rfl, trivial, by simpa [Addr.add_lit] using hc⟩
  ·have hil : i < len := by
    have := (List.getElem?_eq_some_iff.1 hx).1
    omega
   obtain ⟨g1, g2, g3⟩ := hF ⟨i, hil⟩
   have hxe : x = (F ⟨i, hil⟩).1 := by
    rw [List.getElem?_ofFn] at hx
    simpa [hil] using hx.symm
   refine ⟨_, g1, by rw [hxe]; exact g2, fun k u hk => ?_⟩
   have hkS : k < S := by
    have := (List.getElem?_eq_some_iff.1 hk).1
    omega
   have hj : i * S + k < len * S := by
    have : (i + 1) * S ≤ len * S := Nat.mul_le_mul_right _ hil
    rw [Nat.succ_mul] at this
    omega
   rw [qgmq, List.getElem?_range hj]
   have h1 := g3 k hkS
   simp only at h1
   rw [hk] at h1
   have h2 := hV _ hj
   rw [h2] at h1
   exact h1
theorem flatO_len {α : Type} {g : α → List Value} {S : Nat} (hg : ∀ x, (g x).length = S) : ∀ l : List α, (l.flatMap g).length = l.length * S
 | [] => by simp
 | x :: l => by rw [qfcq, qlaq, hg, flatO_len hg l, List.length_cons, Nat.succ_mul]; omega
theorem flat_of {α : Type} {g : α → List Value} {S : Nat} (hS : 0 < S) (hg : ∀ x, (g x).length = S) {l : List α} {xs : List Value} (hx : xs.length = l.length * S) (h : ∀ (i : Nat) (x : α), l[i]? = some x → ∀ (k : Nat) (u : Value), (g x)[k]? = some u → xs[i * S + k]? = some u) : xs = l.flatMap g := by
 apply List.ext_getElem?
 intro j
 rcases Nat.lt_or_ge j (l.length * S) with hj | hj
 ·have h1 : j / S < l.length := Nat.div_lt_of_lt_mul (by rw [Nat.mul_comm]; exact hj)
  have h2 : j % S < S := Nat.mod_lt _ hS
  have e : j / S * S + j % S = j := by rw [Nat.mul_comm]; exact Nat.div_add_mod j S
  have hxi : l[j / S]? = some l[j / S] := qgeq h1
  have hu : (g l[j / S])[j % S]? = some ((g l[j / S])[j % S]'(by rw [hg]; exact h2)) := qgeq _
  have a1 := h _ _ hxi _ _ hu
  have a2 := flatF_at hg l _ _ _ hxi h2
  rw [e] at a1 a2
  rw [a1, a2, hu]
 ·rw [List.getElem?_eq_none (by omega), List.getElem?_eq_none (by rw [flatO_len hg]; omega)]
theorem open_flat {α : Type} {t e : TypeId} {S : Nat} (g : α → List Value) (hg : ∀ x, (g x).length = S) (ht : P.underlying t = some (.slice e)) (hC : P.cellsOf e = S) (hS : 0 < S)
  (hel : ∀ n cs y, cs.length = S → DataW.trod enc P w base spare held n e cs = some y → ∃ x : α, cs = g x) {n : Nat} {cs : List Value} {y : DataW H × List MemPlace} (h : DataW.trod enc P w base spare held n t cs = some y) :
  ∃ (l : List α) (v : Value), cs = [v] ∧ Sl w (fun _ => True) S v l.length (l.flatMap g) := by
 obtain ⟨l, v, xs, h1, h2, h3⟩ := open_things (fun x c => c = g x) ht hC hS hel h
 have hl : xs.length = l.length * S := by
  obtain ⟨A, c, _, _, _, hl, _⟩ := h2
  exact hl
 have := flat_of hS hg hl (fun i x hi k u hk => by
  obtain ⟨c, _, rfl, hc⟩ := h3 i x hi
  exact hc k u hk)
 rw [this] at h2
 exact ⟨l, v, h1, h2⟩
theorem fields {e : TypeId} {fs : Array Field} {n : Nat} {cs : List Value} {y : DataW H × List MemPlace} (he : P.underlying e = some (.struct fs)) (h : DataW.trod enc P w base spare held n e cs = some y) :
  ∃ n', ∀ (j : Nat) (T : TypeId) (o S : Nat), fs[j]?.map (fun f => (f.type, f.offset)) = some (T, o) → P.cellsOf T = S → ∃ y', DataW.trod enc P w base spare held n' T ((cs.drop o).take S) = some y' := by
 obtain ⟨ys, n', hn', hy, hlen, hyl, hf⟩ := DataW.trod_struct he h
 refine ⟨n', fun j T o S hj hS => ?_⟩
 cases hfj : fs[j]? with
 | none => rw [hfj] at hj; cases hj
 | some f =>
  rw [hfj] at hj
  simp only [Option.map_some, Option.some.injEq, Prod.mk.injEq] at hj
  obtain ⟨rfl, rfl⟩ := hj
  have hjl : j < fs.size := (Array.getElem?_eq_some_iff.1 hfj).1
  rw [← hS]
  exact ⟨_, (hf j f hfj).trans (qgeq (by omega))⟩
theorem open_ints1 {t e : TypeId} {k : IntKind} (ht : P.underlying t = some (.slice e)) (he : P.underlying e = some (.int k)) (hC : P.cellsOf e = 1) {n : Nat} {cs : List Value} {y : DataW H × List MemPlace} (h : DataW.trod enc P w base spare held n t cs = some y) :
  ∃ (l : List Int) (v : Value), cs = [v] ∧ Sl w (fun _ => True) 1 v l.length (l.map (Value.int k)) := by
 obtain ⟨l, v, h1, h2⟩ := open_flat (fun x => [Value.int k x]) (fun _ => rfl) ht hC (by decide) (fun n cs y _ h => by
  obtain ⟨z, e, _⟩ := DataW.trod_int he h
  exact ⟨z, e⟩) h
 refine ⟨l, v, h1, ?_⟩
 have : l.flatMap (fun x => [Value.int k x]) = l.map (Value.int k) := by
  clear h2
  induction l with
  | nil => rfl
  | cons a l ih => simp [qfcq, ih]
 rw [← this]
 exact h2
theorem open_aggF {r : Reach} {b0 : Nat} {t : TypeId} {fs : Array Field} {v : Value} {d : DataW H} {p : List MemPlace} (hs : P.underlying t = some (.struct fs))
  (hv : Value.okWide P w r b0 t v) (h : DataW.Trod enc P w base spare held t v d p) :
  ∃ (cs : List Value) (n : Nat) (y : DataW H × List MemPlace), v = .agg cs.toArray ∧ cs.length = P.cellsOf t ∧ DataW.trod enc P w base spare held n t cs = some y := by
 obtain ⟨cs, rfl, hsz⟩ := okWide_struct hs hv
 obtain ⟨fuel, hf⟩ := h
 have e : (Value.agg cs).cells.toList = cs.toList := by simp [Value.cells]
 rw [e] at hf
 exact ⟨cs.toList, fuel, _, by simp, by simpa using hsz, hf⟩
end
theorem Sl.oneO {w : World} {P : Nat → Prop} {size n : Nat} {v : Value} {xs : List Value} (h : Sl w P size v n xs) : v.oneCell' = true := by
 obtain ⟨A, c, rfl, _⟩ := h
 rfl
open Go.ChangeShapes Go.WideShapes Go.ChangeAt Go.RowKit Go.Deep
theorem anyW_of (v : PVal) : anyW (anyOf v) := by
 unfold anyOf
 repeat' split
 all_goals simp only [anyW] <;> omega
section
variable {H : Type} {enc : TypeId × Value → H} {w : World} {base : Nat} {held : Bool} {spare : Nat → Bool} {n : Nat} {cs : List Value} {y : DataW H × List MemPlace}
theorem cO_int : Tryz.prog.cellsOf 3 = 1 := by kernel_rfl
theorem cO_i64 : Tryz.prog.cellsOf 2 = 1 := by kernel_rfl
theorem cO_bool : Tryz.prog.cellsOf 4 = 1 := by kernel_rfl
theorem cO_u8 : Tryz.prog.cellsOf 5 = 1 := by kernel_rfl
theorem cO_u64 : Tryz.prog.cellsOf 22 = 1 := by kernel_rfl
theorem cO_str : Tryz.prog.cellsOf 9 = 1 := by kernel_rfl
theorem cO_ints : Tryz.prog.cellsOf 74 = 1 := by kernel_rfl
theorem cO_strs : Tryz.prog.cellsOf 47 = 1 := by kernel_rfl
theorem cO_flds : Tryz.prog.cellsOf 48 = 1 := by kernel_rfl
theorem cO_arms : Tryz.prog.cellsOf 49 = 1 := by kernel_rfl
theorem cO_pars : Tryz.prog.cellsOf 50 = 1 := by kernel_rfl
theorem cO_uses : Tryz.prog.cellsOf 23 = 1 := by kernel_rfl
theorem cO_tys : Tryz.prog.cellsOf 24 = 1 := by kernel_rfl
theorem cO_itms : Tryz.prog.cellsOf 25 = 1 := by kernel_rfl
theorem cO_fld : Tryz.prog.cellsOf 73 = 3 := by kernel_rfl
theorem cO_arm : Tryz.prog.cellsOf 76 = 3 := by kernel_rfl
theorem cO_par : Tryz.prog.cellsOf 84 = 2 := by kernel_rfl
theorem cO_use : Tryz.prog.cellsOf 45 = 2 := by kernel_rfl
theorem cO_ty : Tryz.prog.cellsOf 52 = 12 := by kernel_rfl
theorem cO_itm : Tryz.prog.cellsOf 56 = 8 := by kernel_rfl
theorem cO_val : Tryz.prog.cellsOf 54 = 4 := by kernel_rfl
theorem cO_face : Tryz.prog.cellsOf 27 = 4 := by kernel_rfl
theorem openO_fld (hl : cs.length = 3) (h : DataW.trod enc Tryz.prog w base spare held n 73 cs = some y) : ∃ p : Fld, cs = p.cells := by
 obtain ⟨n', hf⟩ := fields Tryz.underlying73 h
 match cs, hl with
 | [c0, c1, c2], _ =>
  obtain ⟨y0, h0⟩ := hf 0 9 0 _ rfl cO_str
  obtain ⟨z0, e0, _, w0⟩ := DataW.trod_string Tryz.underlying9 h0
  obtain ⟨y1, h1⟩ := hf 1 3 1 _ rfl cO_int
  obtain ⟨z1, e1, _, w1⟩ := DataW.trod_int Tryz.underlying3 h1
  obtain ⟨y2, h2⟩ := hf 2 3 2 _ rfl cO_int
  obtain ⟨z2, e2, _, w2⟩ := DataW.trod_int Tryz.underlying3 h2
  simp only [List.drop_zero, List.drop_succ_cons, List.take_succ_cons, List.take_zero, List.cons.injEq, and_true] at e0 e1 e2
  subst e0 e1 e2
  exact ⟨⟨z0, z1, z2⟩, rfl⟩
theorem openO_par (hl : cs.length = 2) (h : DataW.trod enc Tryz.prog w base spare held n 84 cs = some y) : ∃ p : Par, cs = p.cells := by
 obtain ⟨n', hf⟩ := fields Tryz.underlying84 h
 match cs, hl with
 | [c0, c1], _ =>
  obtain ⟨y0, h0⟩ := hf 0 4 0 _ rfl cO_bool
  obtain ⟨z0, e0, _⟩ := DataW.trod_bool Tryz.underlying4 h0
  obtain ⟨y1, h1⟩ := hf 1 3 1 _ rfl cO_int
  obtain ⟨z1, e1, _, w1⟩ := DataW.trod_int Tryz.underlying3 h1
  simp only [List.drop_zero, List.drop_succ_cons, List.take_succ_cons, List.take_zero, List.cons.injEq, and_true] at e0 e1
  subst e0 e1
  exact ⟨⟨z0, z1⟩, rfl⟩
theorem openO_use (hl : cs.length = 2) (h : DataW.trod enc Tryz.prog w base spare held n 45 cs = some y) : ∃ p : UseD, cs = p.cellsF ∧ 0 ≤ p.key ∧ p.key < 18446744073709551616 := by
 obtain ⟨n', hf⟩ := fields Tryz.underlying45 h
 match cs, hl with
 | [c0, c1], _ =>
  obtain ⟨y0, h0⟩ := hf 0 9 0 _ rfl cO_str
  obtain ⟨z0, e0, _, w0⟩ := DataW.trod_string Tryz.underlying9 h0
  obtain ⟨y1, h1⟩ := hf 1 22 1 _ rfl cO_u64
  obtain ⟨z1, e1, _, w1⟩ := DataW.trod_int Tryz.underlying22 h1
  simp only [List.drop_zero, List.drop_succ_cons, List.take_succ_cons, List.take_zero, List.cons.injEq, and_true] at e0 e1
  subst e0 e1
  exact ⟨⟨z0, z1⟩, rfl, (by have := Go.bounds_u64 w1; simp only; omega)⟩
theorem openO_arm (hl : cs.length = 3) (h : DataW.trod enc Tryz.prog w base spare held n 76 cs = some y) : ∃ (p : ArmD) (va vb : Value), cs = [va, vb, .bool p.els] ∧ SlInts w (fun _ => True) va p.frm ∧ SlInts w (fun _ => True) vb p.to := by
 obtain ⟨n', hf⟩ := fields Tryz.underlying76 h
 match cs, hl with
 | [c0, c1, c2], _ =>
  obtain ⟨y0, h0⟩ := hf 0 74 0 _ rfl cO_ints
  obtain ⟨z0, v0, e0, s0⟩ := open_ints1 Tryz.underlying74 Tryz.underlying2 cO_i64 h0
  obtain ⟨y1, h1⟩ := hf 1 74 1 _ rfl cO_ints
  obtain ⟨z1, v1, e1, s1⟩ := open_ints1 Tryz.underlying74 Tryz.underlying2 cO_i64 h1
  obtain ⟨y2, h2⟩ := hf 2 4 2 _ rfl cO_bool
  obtain ⟨z2, e2, _⟩ := DataW.trod_bool Tryz.underlying4 h2
  simp only [List.drop_zero, List.drop_succ_cons, List.take_succ_cons, List.take_zero, List.cons.injEq, and_true] at e0 e1 e2
  subst e0 e1 e2
  exact ⟨⟨z0, z1, z2⟩, _, _, rfl, s0, s1⟩
theorem openO_val (hl : cs.length = 4) (h : DataW.trod enc Tryz.prog w base spare held n 54 cs = some y) : ∃ p : PVal, cs = p.cells ∧ 0 ≤ p.sort := by
 obtain ⟨n', hf⟩ := fields Tryz.underlying54 h
 match cs, hl with
 | [c0, c1, c2, c3], _ =>
  obtain ⟨y0, h0⟩ := hf 0 5 0 _ rfl cO_u8
  obtain ⟨z0, e0, _, w0⟩ := DataW.trod_int Tryz.underlying5 h0
  obtain ⟨y1, h1⟩ := hf 1 2 1 _ rfl cO_i64
  obtain ⟨z1, e1, _, w1⟩ := DataW.trod_int Tryz.underlying2 h1
  obtain ⟨y2, h2⟩ := hf 2 3 2 _ rfl cO_int
  obtain ⟨z2, e2, _, w2⟩ := DataW.trod_int Tryz.underlying3 h2
  obtain ⟨y3, h3⟩ := hf 3 9 3 _ rfl cO_str
  obtain ⟨z3, e3, _, w3⟩ := DataW.trod_string Tryz.underlying9 h3
  simp only [List.drop_zero, List.drop_succ_cons, List.take_succ_cons, List.take_zero, List.cons.injEq, and_true] at e0 e1 e2 e3
  subst e0 e1 e2 e3
  exact ⟨⟨z0, z1, z2, z3⟩, rfl, (Go.bounds_u8 w0).1⟩
theorem openO_itm (hl : cs.length = 8) (h : DataW.trod enc Tryz.prog w base spare held n 56 cs = some y) : ∃ p : PItm, cs = p.cells ∧ (0 ≤ p.kind ∧ p.kind ≤ 255) ∧ 0 ≤ p.v.sort := by
 obtain ⟨n', hf⟩ := fields Tryz.underlying56 h
 match cs, hl with
 | [c0, c1, c2, c3, c4, c5, c6, c7], _ =>
  obtain ⟨y0, h0⟩ := hf 0 9 0 _ rfl cO_str
  obtain ⟨z0, e0, _, w0⟩ := DataW.trod_string Tryz.underlying9 h0
  obtain ⟨y1, h1⟩ := hf 1 5 1 _ rfl cO_u8
  obtain ⟨z1, e1, _, w1⟩ := DataW.trod_int Tryz.underlying5 h1
  obtain ⟨y2, h2⟩ := hf 2 3 2 _ rfl cO_int
  obtain ⟨z2, e2, _, w2⟩ := DataW.trod_int Tryz.underlying3 h2
  obtain ⟨y3, h3⟩ := hf 3 3 3 _ rfl cO_int
  obtain ⟨z3, e3, _, w3⟩ := DataW.trod_int Tryz.underlying3 h3
  obtain ⟨y4, h4⟩ := hf 4 54 4 _ rfl cO_val
  obtain ⟨z4, e4, r4⟩ := openO_val (by rfl) h4
  unfold PVal.cells at e4
  simp only [List.drop_zero, List.drop_succ_cons, List.take_succ_cons, List.take_zero, List.cons.injEq, and_true] at e0 e1 e2 e3 e4
  obtain ⟨x0, x1, x2, x3⟩ := e4
  subst e0 e1 e2 e3 x0 x1 x2 x3
  exact ⟨⟨z0, z1, z2, z3, z4⟩, rfl, (by have := Go.bounds_u8 w1; omega), r4⟩
theorem openO_strs (h : DataW.trod enc Tryz.prog w base spare held n 47 cs = some y) : ∃ (l : List ByteArray) (v : Value), cs = [v] ∧ SlStrs w (fun _ => True) v l := by
 obtain ⟨l, v, h1, h2⟩ := open_flat (fun x => [Value.string x]) (fun _ => rfl) Tryz.underlying47 cO_str (by decide) (fun n cs y _ h => by
  obtain ⟨z, e, _⟩ := DataW.trod_string Tryz.underlying9 h
  exact ⟨z, e⟩) h
 refine ⟨l, v, h1, ?_⟩
 have : l.flatMap (fun x => [Value.string x]) = l.map Value.string := by
  clear h2
  induction l with
  | nil => rfl
  | cons a l ih => simp [qfcq, ih]
 unfold SlStrs
 rw [← this]
 exact h2
theorem open_flatR {α : Type} {t e : TypeId} {S : Nat} (g : α → List Value) (R : α → Prop) (hg : ∀ x, (g x).length = S) (ht : Tryz.prog.underlying t = some (.slice e)) (hC : Tryz.prog.cellsOf e = S) (hS : 0 < S)
  (hel : ∀ n cs y, cs.length = S → DataW.trod enc Tryz.prog w base spare held n e cs = some y → ∃ x : α, cs = g x ∧ R x) (h : DataW.trod enc Tryz.prog w base spare held n t cs = some y) :
  ∃ (l : List α) (v : Value), cs = [v] ∧ Sl w (fun _ => True) S v l.length (l.flatMap g) ∧ ∀ x ∈ l, R x := by
 obtain ⟨l, v, xs, h1, h2, h3⟩ := open_things (fun x c => c = g x ∧ R x) ht hC hS hel h
 have hl : xs.length = l.length * S := by
  obtain ⟨A, c, _, _, _, hl, _⟩ := h2
  exact hl
 have := flat_of hS hg hl (fun i x hi k u hk => by
  obtain ⟨c, _, ⟨rfl, _⟩, hc⟩ := h3 i x hi
  exact hc k u hk)
 rw [this] at h2
 refine ⟨l, v, h1, h2, fun x hx => ?_⟩
 obtain ⟨i, hi⟩ := List.getElem?_of_mem hx
 obtain ⟨c, _, ⟨_, hr⟩, _⟩ := h3 i x hi
 exact hr
theorem openO_uses (h : DataW.trod enc Tryz.prog w base spare held n 23 cs = some y) : ∃ (l : List UseD) (v : Value), cs = [v] ∧ SlUsesF w (fun _ => True) v l ∧ ∀ u ∈ l, 0 ≤ u.key ∧ u.key < 18446744073709551616 :=
 open_flatR UseD.cellsF (fun u => 0 ≤ u.key ∧ u.key < 18446744073709551616) useF_len Tryz.underlying23 cO_use (by decide) (fun n cs y hl h => openO_use hl h) h
theorem openO_itms (h : DataW.trod enc Tryz.prog w base spare held n 25 cs = some y) : ∃ (l : List PItm) (v : Value), cs = [v] ∧ SlPItms w (fun _ => True) v l ∧ ∀ x ∈ l, (0 ≤ x.kind ∧ x.kind ≤ 255) ∧ 0 ≤ x.v.sort :=
 open_flatR PItm.cells (fun x => (0 ≤ x.kind ∧ x.kind ≤ 255) ∧ 0 ≤ x.v.sort) pitm_len Tryz.underlying25 cO_itm (by decide) (fun n cs y hl h => openO_itm hl h) h
theorem ones_of {α : Type} {S : Nat} (hS : 0 < S) {l : List α} {xs : List Value} (hl : xs.length = l.length * S) (h : ∀ i x, l[i]? = some x → ∃ c : List Value, c.length = S ∧ (∀ u ∈ c, u.oneCell' = true) ∧ ∀ (k : Nat) (u : Value), c[k]? = some u → xs[i * S + k]? = some u) : ∀ u ∈ xs, u.oneCell' = true := by
 intro u hu
 obtain ⟨j, hj⟩ := List.mem_iff_getElem?.1 hu
 have hjl : j < l.length * S := by
  have := (List.getElem?_eq_some_iff.1 hj).1
  omega
 have h1 : j / S < l.length := Nat.div_lt_of_lt_mul (by rw [Nat.mul_comm]; exact hjl)
 have h2 : j % S < S := Nat.mod_lt _ hS
 have e : j / S * S + j % S = j := by rw [Nat.mul_comm]; exact Nat.div_add_mod j S
 obtain ⟨c, hc, ho, hx⟩ := h (j / S) _ (qgeq h1)
 have hu' := qgeq (l := c) (i := j % S) (by omega)
 have := hx _ _ hu'
 rw [e, hj] at this
 injection this with this
 subst this
 exact ho _ (List.getElem_mem _)
theorem openO_arms (h : DataW.trod enc Tryz.prog w base spare held n 49 cs = some y) : ∃ (l : List ArmD) (v : Value), cs = [v] ∧ SlArms w (fun _ => True) v l := by
 obtain ⟨l, v, xs, h1, h2, h3⟩ := open_things (fun (p : ArmD) c => ∃ va vb, c = [va, vb, .bool p.els] ∧ SlInts w (fun _ => True) va p.frm ∧ SlInts w (fun _ => True) vb p.to) Tryz.underlying49 cO_arm (by decide) (fun n cs y hl h => openO_arm hl h) h
 have hl : xs.length = l.length * 3 := by
  obtain ⟨A, c, _, _, _, hl, _⟩ := h2
  exact hl
 refine ⟨l, v, h1, xs, h2, ones_of (by decide) hl (fun i x hi => ?_), fun i x hi => ?_⟩
 ·obtain ⟨c, hc, ⟨va, vb, rfl, ha, hb⟩, hx⟩ := h3 i x hi
  refine ⟨_, hc, fun u hu => ?_, hx⟩
  have a1 := Sl.oneO ha
  have a2 := Sl.oneO hb
  simp only [qmcq, qnnq, or_false] at hu
  rcases hu with rfl | rfl | rfl <;> first | rfl | assumption
 ·obtain ⟨c, hc, ⟨va, vb, rfl, ha, hb⟩, hx⟩ := h3 i x hi
  exact ⟨va, vb, hx 0 _ rfl, hx 1 _ rfl, hx 2 _ rfl, ha, hb⟩
theorem openO_ty (hl : cs.length = 12) (h : DataW.trod enc Tryz.prog w base spare held n 52 cs = some y) : ∃ (p : Ty) (vn vf va vp : Value), cs = p.cells vn vf va vp ∧ Lists w (fun _ => True) vn vf va vp p ∧ 0 ≤ p.kind ∧ p.kind ≤ 255 := by
 obtain ⟨n', hf⟩ := fields Tryz.underlying52 h
 match cs, hl with
 | [c0, c1, c2, c3, c4, c5, c6, c7, c8, c9, c10, c11], _ =>
  obtain ⟨y0, h0⟩ := hf 0 5 0 _ rfl cO_u8
  obtain ⟨z0, e0, _, w0⟩ := DataW.trod_int Tryz.underlying5 h0
  obtain ⟨y1, h1⟩ := hf 1 9 1 _ rfl cO_str
  obtain ⟨z1, e1, _, w1⟩ := DataW.trod_string Tryz.underlying9 h1
  obtain ⟨y2, h2⟩ := hf 2 9 2 _ rfl cO_str
  obtain ⟨z2, e2, _, w2⟩ := DataW.trod_string Tryz.underlying9 h2
  obtain ⟨y3, h3⟩ := hf 3 3 3 _ rfl cO_int
  obtain ⟨z3, e3, _, w3⟩ := DataW.trod_int Tryz.underlying3 h3
  obtain ⟨y4, h4⟩ := hf 4 3 4 _ rfl cO_int
  obtain ⟨z4, e4, _, w4⟩ := DataW.trod_int Tryz.underlying3 h4
  obtain ⟨y5, h5⟩ := hf 5 2 5 _ rfl cO_i64
  obtain ⟨z5, e5, _, w5⟩ := DataW.trod_int Tryz.underlying2 h5
  obtain ⟨y6, h6⟩ := hf 6 2 6 _ rfl cO_i64
  obtain ⟨z6, e6, _, w6⟩ := DataW.trod_int Tryz.underlying2 h6
  obtain ⟨y7, h7⟩ := hf 7 47 7 _ rfl cO_strs
  obtain ⟨z7, v7, e7, s7⟩ := openO_strs h7
  obtain ⟨y8, h8⟩ := hf 8 48 8 _ rfl cO_flds
  obtain ⟨z8, v8, e8, s8⟩ := open_flat Fld.cells (S := 3) (fun _ => rfl) Tryz.underlying48 cO_fld (by decide) (fun n cs y hl h => openO_fld hl h) h8
  obtain ⟨y9, h9⟩ := hf 9 49 9 _ rfl cO_arms
  obtain ⟨z9, v9, e9, s9⟩ := openO_arms h9
  obtain ⟨y10, h10⟩ := hf 10 50 10 _ rfl cO_pars
  obtain ⟨z10, v10, e10, s10⟩ := open_flat Par.cells (S := 2) (fun _ => rfl) Tryz.underlying50 cO_par (by decide) (fun n cs y hl h => openO_par hl h) h10
  obtain ⟨y11, h11⟩ := hf 11 3 11 _ rfl cO_int
  obtain ⟨z11, e11, _, w11⟩ := DataW.trod_int Tryz.underlying3 h11
  simp only [List.drop_zero, List.drop_succ_cons, List.take_succ_cons, List.take_zero, List.cons.injEq, and_true] at e0 e1 e2 e3 e4 e5 e6 e7 e8 e9 e10 e11
  subst e0 e1 e2 e3 e4 e5 e6 e7 e8 e9 e10 e11
  exact ⟨⟨z0, z1, z2, z3, z4, z5, z6, z7, z8, z9, z10, z11⟩, _, _, _, _, rfl, ⟨s7, s8, s9, s10⟩, (by have := Go.bounds_u8 w0; simp only; omega)⟩
theorem openO_tys (h : DataW.trod enc Tryz.prog w base spare held n 24 cs = some y) : ∃ (l : List Ty) (v : Value), cs = [v] ∧ SlTys w (fun _ => True) v l ∧ ∀ t ∈ l, 0 ≤ t.kind ∧ t.kind ≤ 255 := by
 obtain ⟨l, v, xs, h1, h2, h3⟩ := open_things (fun (p : Ty) c => ∃ vn vf va vp, c = p.cells vn vf va vp ∧ Lists w (fun _ => True) vn vf va vp p ∧ 0 ≤ p.kind ∧ p.kind ≤ 255) Tryz.underlying24 cO_ty (by decide) (fun n cs y hl h => openO_ty hl h) h
 have hl : xs.length = l.length * 12 := by
  obtain ⟨A, c, _, _, _, hl, _⟩ := h2
  exact hl
 refine ⟨l, v, h1, ⟨xs, h2, ones_of (by decide) hl (fun i x hi => ?_), fun i x hi => ?_⟩, fun t ht => ?_⟩
 ·obtain ⟨c, hc, ⟨vn, vf, va, vp, rfl, ho, _⟩, hx⟩ := h3 i x hi
  refine ⟨_, hc, fun u hu => ?_, hx⟩
  have a1 := Sl.oneO ho.names
  have a2 := Sl.oneO ho.fields
  obtain ⟨ys, g1, _⟩ := ho.arms
  have a3 := Sl.oneO g1
  have a4 := Sl.oneO ho.params
  simp only [Ty.cells, qmcq, qnnq, or_false] at hu
  rcases hu with rfl | rfl | rfl | rfl | rfl | rfl | rfl | rfl | rfl | rfl | rfl | rfl <;> first | rfl | assumption
 ·obtain ⟨c, hc, ⟨vn, vf, va, vp, rfl, ho, _⟩, hx⟩ := h3 i x hi
  exact ⟨vn, vf, va, vp, hx, ho⟩
 ·obtain ⟨i, hi⟩ := List.getElem?_of_mem ht
  obtain ⟨c, hc, ⟨vn, vf, va, vp, _, _, hw⟩, _⟩ := h3 i t hi
  exact hw
theorem openO_face (hl : cs.length = 4) (h : DataW.trod enc Tryz.prog w base spare held n 27 cs = some y) : ∃ (f : FaceP) (vu vt vi : Value), cs = [.string f.module, vu, vt, vi] ∧ FacePL w (fun _ => True) vu vt vi f ∧ (∀ x ∈ f.items, 0 ≤ x.v.sort) ∧ faceW (faceOf f) ∧ f.module.size ≤ maxLen := by
 obtain ⟨n', hf⟩ := fields Tryz.underlying27 h
 match cs, hl with
 | [c0, c1, c2, c3], _ =>
  obtain ⟨y0, h0⟩ := hf 0 9 0 _ rfl cO_str
  obtain ⟨z0, e0, _, w0⟩ := DataW.trod_string Tryz.underlying9 h0
  obtain ⟨y1, h1⟩ := hf 1 23 1 _ rfl cO_uses
  obtain ⟨z1, v1, e1, s1, r1⟩ := openO_uses h1
  obtain ⟨y2, h2⟩ := hf 2 24 2 _ rfl cO_tys
  obtain ⟨z2, v2, e2, s2, r2⟩ := openO_tys h2
  obtain ⟨y3, h3⟩ := hf 3 25 3 _ rfl cO_itms
  obtain ⟨z3, v3, e3, s3, r3⟩ := openO_itms h3
  simp only [List.drop_zero, List.drop_succ_cons, List.take_succ_cons, List.take_zero, List.cons.injEq, and_true] at e0 e1 e2 e3
  subst e0 e1 e2 e3
  refine ⟨⟨z0, z1, z2, z3⟩, _, _, _, rfl, ⟨s1, s2, s3⟩, fun x hx => (r3 x hx).2, ⟨r1, r2, fun x hx => ?_, fun x hx => ?_⟩, w0⟩
  ·obtain ⟨p, hp, rfl⟩ := List.mem_map.1 hx
   exact (r3 p hp).1
  ·obtain ⟨p, hp, rfl⟩ := List.mem_map.1 hx
   exact anyW_of p.v
end
def IsFace (W : World) (v : Value) : Prop := ∃ (f : FaceP) (vu vt vi : Value), v = .agg #[.string f.module, vu, vt, vi] ∧ FacePL W (fun _ => True) vu vt vi f ∧ (∀ x ∈ f.items, 0 ≤ x.v.sort) ∧ faceW (faceOf f) ∧ f.module.size ≤ maxLen
theorem open_face {H : Type} {enc : TypeId × Value → H} {W : World} {r : Reach} {b0 : Nat} {v : Value} {d : DataW H} {p : List MemPlace}
  (hv : Value.okWide Tryz.prog W r b0 27 v) (h : DataW.Trod enc Tryz.prog W 0 (fun _ => true) true 27 v d p) : IsFace W v := by
 obtain ⟨cs, n, y, rfl, hl, ht⟩ := open_aggF Tryz.underlying27 hv h
 rw [cO_face] at hl
 obtain ⟨f, vu, vt, vi, rfl, hf⟩ := openO_face hl ht
 exact ⟨f, vu, vt, vi, rfl, hf⟩
end Go.Proofs.YtjanbpchedgoiaaGreat
namespace Go.Proofs.YtjanbpchedgoiaaGreat
open Go.RowKit
theorem keyTells_walk (w : World) (a : Int) (ha : (Lit.int .u64 a).wf = true) (s : ByteArray) (hs : s.size ≤ maxLen) (v : Value) (h : IsFace w v) : Calls Tryz.prog 3 #[.int .u64 a, .string s, v] w fun e w' => e = .returned (.bool true) ∧ Wr [] w w' := by
 obtain ⟨f, vu, vt, vi, rfl, h1, h2, h3, h4⟩ := h
 have hb := Go.bounds_u64 ha
 have e : a = ((a.toNat : Nat) : Int) := by omega
 have := keyTells_main f vu vt vi _ a.toNat (by omega) s hs w h1 h2 h3
 rw [← e] at this
 exact this
end Go.Proofs.YtjanbpchedgoiaaGreat
