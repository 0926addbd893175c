/- Types that a call copied: each list in blocks with a label of its own. No conditions. -/
import Derived.Test.YtjanbpchedgoiaaGreatKT09
set_option linter.unusedVariables false
set_option linter.unusedSimpArgs false
set_option maxRecDepth 100000
set_option maxHeartbeats 32000000
namespace Go.Proofs.YtjanbpchedgoiaaGreat
open Go.RowKit
def Lb (S : Nat) (lab : Nat → Nat × Nat) (i c : Nat) (b : Nat) : Prop := S ≤ b ∧ lab b = (i, c)
def OwnL (w : World) (S : Nat) (lab : Nat → Nat × Nat) (i c : Nat) (T : TypeId) (size : Nat) (v : Value) (n : Nat) (xs : List Value) : Prop :=
 w.ownsRow S T size v n xs ∧ ∀ g, v.ownBlock = some g → lab g = (i, c)
def Lba (S : Nat) (lab : Nat → Nat × Nat) (i : Nat) (b : Nat) : Prop := S ≤ b ∧ (lab b = (i, 2) ∨ lab b = (i, 4))
def ArmO (w : World) (S : Nat) (lab : Nat → Nat × Nat) (i : Nat) (xs : List Value) (j : Nat) (x : ArmD) : Prop :=
 ∃ va vb, xs[j * 3]? = some va ∧ xs[j * 3 + 1]? = some vb ∧ xs[j * 3 + 2]? = some (.bool x.els) ∧ OwnL w S lab i 4 2 1 va x.frm.length (x.frm.map (Value.int .i64)) ∧ OwnL w S lab i 4 2 1 vb x.to.length (x.to.map (Value.int .i64))
def ArmsO (w : World) (S : Nat) (lab : Nat → Nat × Nat) (i : Nat) (v : Value) (l : List ArmD) : Prop :=
 ∃ xs, OwnL w S lab i 2 76 3 v l.length xs ∧ (∀ u ∈ xs, u.oneCell' = true) ∧ ∀ j x, l[j]? = some x → ArmO w S lab i xs j x
structure TyO (w : World) (S : Nat) (lab : Nat → Nat × Nat) (i : Nat) (vn vf va vp : Value) (t : Ty) : Prop where
 names : SlStrs w (Lb S lab i 0) vn t.names
 fields : OwnL w S lab i 1 73 3 vf t.fields.length (t.fields.flatMap Fld.cells)
 arms : ArmsO w S lab i va t.arms
 params : OwnL w S lab i 3 84 2 vp t.params.length (t.params.flatMap Par.cells)
section
variable {w w' : World} {S i c : Nat} {lab lab' : Nat → Nat × Nat} {T : TypeId} {size n : Nat} {v vn vf va vp : Value} {xs : List Value} {t : Ty} {ls : List Nat}
theorem own_keep {b : Nat} (h : w.ownsRow b T size v n xs) (r : Wr ls w w') (hl : ∀ g, v.ownBlock = some g → g ∉ ls) : w'.ownsRow b T size v n xs := by
 refine ⟨h.1, ?_⟩
 rcases h.2 with hn | ⟨g, cap, cur, rfl, hb, hgg, rest⟩
 ·exact .inl hn
 ·exact .inr ⟨g, cap, cur, rfl, hb, Blk.wr (show Blk w g T cur from hgg) r (hl g rfl), rest⟩
theorem OwnL.keep (h : OwnL w S lab i c T size v n xs) (r : Wr ls w w') (hl : ∀ x ∈ ls, S ≤ x → lab x ≠ (i, c)) : OwnL w' S lab i c T size v n xs :=
 ⟨own_keep h.1 r (fun g hg hm => hl g hm (h.1.lt g hg).1 (h.2 g hg)), h.2⟩
theorem OwnL.relab (h : OwnL w S lab i c T size v n xs) (hl : ∀ b, b < w.heap.size → lab' b = lab b) : OwnL w S lab' i c T size v n xs :=
 ⟨h.1, fun g hg => by rw [hl g (h.1.lt g hg).2]; exact h.2 g hg⟩
theorem OwnL.sl (h : OwnL w S lab i c T size v n xs) : Sl w (Lb S lab i c) size v n xs := Sl.ofOwn h.1 fun b hb => ⟨(h.1.lt b hb).1, h.2 b hb⟩
theorem OwnL.low (h : OwnL w S lab i c T size v n xs) {S' : Nat} (hs : S' ≤ S) : OwnL w S' lab i c T size v n xs := ⟨own_base h.1 hs, h.2⟩
theorem ArmO.keep {xs : List Value} {j : Nat} {x : ArmD} (h : ArmO w S lab i xs j x) (r : Wr ls w w') (hl : ∀ y ∈ ls, S ≤ y → lab y ≠ (i, 4)) : ArmO w' S lab i xs j x := by
 obtain ⟨va, vb, e1, e2, e3, ka, kb⟩ := h
 exact ⟨va, vb, e1, e2, e3, ka.keep r hl, kb.keep r hl⟩
theorem ArmO.relab {xs : List Value} {j : Nat} {x : ArmD} (h : ArmO w S lab i xs j x) (hl : ∀ b, b < w.heap.size → lab' b = lab b) : ArmO w S lab' i xs j x := by
 obtain ⟨va, vb, e1, e2, e3, ka, kb⟩ := h
 exact ⟨va, vb, e1, e2, e3, ka.relab hl, kb.relab hl⟩
theorem ArmsO.keep {l : List ArmD} (h : ArmsO w S lab i v l) (r : Wr ls w w') (hl : ∀ y ∈ ls, S ≤ y → (lab y).1 ≠ i) : ArmsO w' S lab i v l := by
 obtain ⟨xs, h1, h2, h3⟩ := h
 exact ⟨xs, h1.keep r (fun x hx hs e => hl x hx hs (by rw [e])), h2, fun j x hx => (h3 j x hx).keep r (fun x hx hs e => hl x hx hs (by rw [e]))⟩
theorem ArmsO.relab {l : List ArmD} (h : ArmsO w S lab i v l) (hl : ∀ b, b < w.heap.size → lab' b = lab b) : ArmsO w S lab' i v l := by
 obtain ⟨xs, h1, h2, h3⟩ := h
 exact ⟨xs, h1.relab hl, h2, fun j x hx => (h3 j x hx).relab hl⟩
theorem ArmsO.low {l : List ArmD} (h : ArmsO w S lab i v l) {S' : Nat} (hs : S' ≤ S) : ArmsO w S' lab i v l := by
 obtain ⟨xs, h1, h2, h3⟩ := h
 exact ⟨xs, h1.low hs, h2, fun j x hx => by
  obtain ⟨va, vb, e1, e2, e3, ka, kb⟩ := h3 j x hx
  exact ⟨va, vb, e1, e2, e3, ka.low hs, kb.low hs⟩⟩
theorem ArmsO.arms {l : List ArmD} (h : ArmsO w S lab i v l) : SlArms w (Lba S lab i) v l := by
 obtain ⟨xs, h1, h2, h3⟩ := h
 exact ⟨xs, Sl.mono h1.sl (fun b hb => ⟨hb.1, .inl hb.2⟩), h2, fun j x hx => by
  obtain ⟨va, vb, e1, e2, e3, ka, kb⟩ := h3 j x hx
  exact ⟨va, vb, e1, e2, e3, Sl.mono ka.sl (fun b hb => ⟨hb.1, .inr hb.2⟩), Sl.mono kb.sl (fun b hb => ⟨hb.1, .inr hb.2⟩)⟩⟩
theorem TyO.keep (h : TyO w S lab i vn vf va vp t) (r : Wr ls w w') (hl : ∀ x ∈ ls, S ≤ x → (lab x).1 ≠ i) : TyO w' S lab i vn vf va vp t := by
 have hb : ∀ c b, Lb S lab i c b → b ∉ ls := fun c b hb hm => hl b hm hb.1 (by rw [hb.2])
 exact ⟨Sl.keep h.names r (hb 0), h.fields.keep r (fun x hx hs e => hl x hx hs (by rw [e])), h.arms.keep r hl, h.params.keep r (fun x hx hs e => hl x hx hs (by rw [e]))⟩
theorem TyO.relab (h : TyO w S lab i vn vf va vp t) (hl : ∀ b, b < w.heap.size → lab' b = lab b) : TyO w S lab' i vn vf va vp t := by
 have hb : ∀ c b, Lb S lab i c b → b < w.heap.size → Lb S lab' i c b := fun c b hb hlt => ⟨hb.1, by rw [hl b hlt]; exact hb.2⟩
 exact ⟨Sl.into h.names (hb 0), h.fields.relab hl, h.arms.relab hl, h.params.relab hl⟩
theorem TyO.lists (h : TyO w S lab i vn vf va vp t) : Lists w (fun b => S ≤ b) vn vf va vp t :=
 ⟨Sl.mono h.names (fun b hb => hb.1), Sl.mono h.fields.sl (fun b hb => hb.1), h.arms.arms.into (fun b hb _ => hb.1), Sl.mono h.params.sl (fun b hb => hb.1)⟩
theorem TyO.low {vn vf va vp : Value} (h : TyO w S lab i vn vf va vp t) {S' : Nat} (hs : S' ≤ S) : TyO w S' lab i vn vf va vp t := by
 have hb : ∀ c b, Lb S lab i c b → Lb S' lab i c b := fun c b hb => ⟨Nat.le_trans hs hb.1, hb.2⟩
 exact ⟨Sl.mono h.names (hb 0), ⟨own_base h.fields.1 hs, h.fields.2⟩, h.arms.low hs, ⟨own_base h.params.1 hs, h.params.2⟩⟩
end
def labNew (w : World) (lab : Nat → Nat × Nat) (i c : Nat) : Nat → Nat × Nat := fun b => if w.heap.size ≤ b then (i, c) else lab b
theorem labNew_old {w : World} {lab : Nat → Nat × Nat} {i c : Nat} : ∀ b, b < w.heap.size → labNew w lab i c b = lab b := fun b hb => if_neg (by omega)
theorem labNew_new {w : World} {lab : Nat → Nat × Nat} {i c b : Nat} (h : w.heap.size ≤ b) : labNew w lab i c b = (i, c) := if_pos h
theorem own_new {w w' : World} {S i c : Nat} {lab : Nat → Nat × Nat} {T : TypeId} {size n : Nat} {v : Value} {xs : List Value} (h : w'.ownsRow w.heap.size T size v n xs) (hS : S ≤ w.heap.size) : OwnL w' S (labNew w lab i c) i c T size v n xs :=
 ⟨own_base h hS, fun g hg => labNew_new (h.lt g hg).1⟩
theorem sl_new {w w' : World} {S i c : Nat} {lab : Nat → Nat × Nat} {size n : Nat} {v : Value} {xs : List Value} (h : Sl w' (fun b => w.heap.size ≤ b) size v n xs) (hS : S ≤ w.heap.size) : Sl w' (Lb S (labNew w lab i c) i c) size v n xs :=
 Sl.mono h (fun b hb => ⟨Nat.le_trans hS hb, labNew_new hb⟩)
def CopR (S : Nat) (t : Ty) (xa : List Value) (i : Nat) (lab : Nat → Nat × Nat) : Nat → World → Value → Prop
 | 0, w, u => SlStrs w (Lb S lab i 0) u t.names
 | 1, w, u => OwnL w S lab i 1 73 3 u t.fields.length (t.fields.flatMap Fld.cells)
 | 2, w, u => OwnL w S lab i 2 76 3 u t.arms.length xa
 | _, w, u => OwnL w S lab i 3 84 2 u t.params.length (t.params.flatMap Par.cells)
section
variable {S i : Nat} {t : Ty} {xa : List Value} {lab lab' : Nat → Nat × Nat} {w w' : World} {u : Value} {ls : List Nat}
theorem CopR.keep {c : Nat} (h : CopR S t xa i lab c w u) (r : Wr ls w w') (hl : ∀ x ∈ ls, x < S) : CopR S t xa i lab c w' u := by
 have hb : ∀ c b, Lb S lab i c b → b ∉ ls := fun c b hb hm => by have := hl b hm; have := hb.1; omega
 have hx : ∀ c, ∀ x ∈ ls, S ≤ x → lab x ≠ (i, c) := fun c x hx hs => by have := hl x hx; omega
 match c, h with
 | 0, h => exact Sl.keep (h : SlStrs w (Lb S lab i 0) u t.names) r (hb 0)
 | 1, h => exact OwnL.keep (show OwnL w S lab i 1 _ 3 u _ _ from h) r (hx 1)
 | 2, h => exact OwnL.keep (show OwnL w S lab i 2 _ 3 u _ _ from h) r (hx 2)
 | _ + 3, h => exact OwnL.keep (show OwnL w S lab i 3 _ 2 u _ _ from h) r (hx 3)
theorem CopR.relab {c : Nat} (h : CopR S t xa i lab c w u) (hl : ∀ b, b < w.heap.size → lab' b = lab b) : CopR S t xa i lab' c w u := by
 have hb : ∀ c b, Lb S lab i c b → b < w.heap.size → Lb S lab' i c b := fun c b hb hlt => ⟨hb.1, by rw [hl b hlt]; exact hb.2⟩
 match c, h with
 | 0, h => exact Sl.into (h : SlStrs w (Lb S lab i 0) u t.names) (hb 0)
 | 1, h => exact OwnL.relab (show OwnL w S lab i 1 _ 3 u _ _ from h) hl
 | 2, h => exact OwnL.relab (show OwnL w S lab i 2 _ 3 u _ _ from h) hl
 | _ + 3, h => exact OwnL.relab (show OwnL w S lab i 3 _ 2 u _ _ from h) hl
end
def coC : Nat → Nat | 0 => 8 | 1 => 13 | 2 => 18 | _ => 23
def coS : Nat → Nat | 0 => 26 | 1 => 29 | 2 => 32 | _ => 35
def coU (src : Nat → Value) (σ : Nat → Value) (l : Array Bool) (c : Nat) : Value := if lst l (coS c) = true then σ (coC c) else src c
def coX (ys : List Value) (o : Nat) (f : Nat → Value) : List Value := (((ys.set (o + 7) (f 0)).set (o + 8) (f 1)).set (o + 9) (f 2)).set (o + 10) (f 3)
theorem coX_set (ys : List Value) (o : Nat) (f f' : Nat → Value) (c : Nat) (hc : c < 4) (hf : ∀ c', c' < 4 → c' ≠ c → f' c' = f c') : (coX ys o f).set (o + 7 + c) (f' c) = coX ys o f' := by
 unfold coX
 have n1 : ∀ a b : Nat, a ≠ b → o + a ≠ o + b := fun a b h => by omega
 match c, hc with
 | 0, _ =>
  rw [hf 1 (by decide) (by decide), hf 2 (by decide) (by decide), hf 3 (by decide) (by decide), Nat.add_zero, List.set_comm _ _ (n1 10 7 (by decide)), List.set_comm _ _ (n1 9 7 (by decide)), List.set_comm _ _ (n1 8 7 (by decide)), List.set_set]
 | 1, _ =>
  rw [hf 0 (by decide) (by decide), hf 2 (by decide) (by decide), hf 3 (by decide) (by decide), show o + 7 + 1 = o + 8 from rfl, List.set_comm _ _ (n1 10 8 (by decide)), List.set_comm _ _ (n1 9 8 (by decide)), List.set_set]
 | 2, _ =>
  rw [hf 0 (by decide) (by decide), hf 1 (by decide) (by decide), hf 3 (by decide) (by decide), show o + 7 + 2 = o + 9 from rfl, List.set_comm _ _ (n1 10 9 (by decide)), List.set_set]
 | 3, _ =>
  rw [hf 0 (by decide) (by decide), hf 1 (by decide) (by decide), hf 2 (by decide) (by decide), show o + 7 + 3 = o + 10 from rfl, List.set_set]
structure CoI (cnV : Nat → Value) (src : Nat → Value) (ys : List Value) (n cap B g o S : Nat) (t : Ty) (xa : List Value) (i : Nat) (lab0 : Nat → Nat × Nat) (wd : World) (σ : Nat → Value) (l : Array Bool) (w' : World) : Prop where
 v : ∀ j, (∀ c, c < 4 → j ≠ coC c) → lst l j = true → σ j = cnV j
 od : ∀ c, c < 4 → lst l (coS c) = true → lst l (coC c) = true
 ol : ∀ c, c < 4 → lst l (coC c) = true → lst l (coC c - 1) = true
 row : w'.ownsRow B 52 12 (.slice (some ⟨g, 0, none⟩) n cap) n (coX ys o (coU src σ l))
 lb : ∃ lab, (∀ b, b < wd.heap.size → lab b = lab0 b) ∧ ∀ c, c < 4 → lst l (coC c) = true → CopR S t xa i lab c w' (σ (coC c))
 acc : Wr [g] wd w'
theorem coCS : ∀ c, c < 4 → ∀ c', c' < 4 → coC c ≠ coS c' := by decide
theorem coC_1 : ∀ c, c < 4 → ∀ c', c' < 4 → coC c' - 1 ≠ coC c ∧ coC c' - 1 ≠ coS c := by decide
theorem coC_ne : ∀ c, c < 4 → ∀ c', c' < 4 → c ≠ c' → coC c ≠ coC c' := by decide
theorem coS_ne : ∀ c, c < 4 → ∀ c', c' < 4 → c ≠ c' → coS c ≠ coS c' := by decide
section
variable {cnV src : Nat → Value} {ys : List Value} {n cap B g o S : Nat} {t : Ty} {xa : List Value} {i : Nat} {lab0 : Nat → Nat × Nat} {wd : World} {σ : Nat → Value} {l : Array Bool} {w1 w2 : World}
theorem coX_congr {f f' : Nat → Value} (h : ∀ c, c < 4 → f c = f' c) : coX ys o f = coX ys o f' := by
 unfold coX
 rw [h 0 (by decide), h 1 (by decide), h 2 (by decide), h 3 (by decide)]
theorem CoI.quiet (h : CoI cnV src ys n cap B g o S t xa i lab0 wd σ l w1) (j : Nat) (hz : l.size = 36) (hjz : j < 36) (hj : (∀ c, c < 4 → j ≠ coC c) ∧ ∀ c, c < 4 → j ≠ coS c) (hgS : g < S) (r : Wr [] w1 w2) :
  CoI cnV src ys n cap B g o S t xa i lab0 wd (upd σ j (cnV j)) (l.setIfInBounds j true) w2 := by
 have eC : ∀ c, c < 4 → lst (l.setIfInBounds j true) (coC c) = lst l (coC c) := fun c hc => lst_ne (fun e => hj.1 c hc e.symm)
 have eS : ∀ c, c < 4 → lst (l.setIfInBounds j true) (coS c) = lst l (coS c) := fun c hc => lst_ne (fun e => hj.2 c hc e.symm)
 have uC : ∀ c, c < 4 → upd σ j (cnV j) (coC c) = σ (coC c) := fun c hc => upd_ne σ _ (fun e => hj.1 c hc e.symm)
 refine ⟨fun k hk hl => ?_, fun c hc hs => ?_, fun c hc hs => ?_, ?_, ?_, h.acc.trans' r (by simp)⟩
 ·by_cases hkj : k = j
  ·subst hkj
   exact upd_same _ _ _
  ·rw [upd_ne σ _ hkj]
   rw [lst_ne hkj] at hl
   exact h.v k hk hl
 ·rw [eC c hc]
  rw [eS c hc] at hs
  exact h.od c hc hs
 ·rw [eC c hc] at hs
  have := h.ol c hc hs
  by_cases e : coC c - 1 = j
  ·rw [e]
   exact lst_same (by omega)
  ·rw [lst_ne e]
   exact this
 ·have := own_wr h.row r (by simp)
  rw [coX_congr (f := coU src σ l) (f' := coU src (upd σ j (cnV j)) (l.setIfInBounds j true)) (fun c hc => by unfold coU; rw [eS c hc, uC c hc])] at this
  exact this
 ·obtain ⟨lab, h1, h2⟩ := h.lb
  exact ⟨lab, h1, fun c hc hs => by rw [uC c hc]; rw [eC c hc] at hs; exact (h2 c hc hs).keep r (by simp)⟩
theorem CoI.called (h : CoI cnV src ys n cap B g o S t xa i lab0 wd σ l w1) (c : Nat) (hc : c < 4) (hz : l.size = 36) (hl : lst l (coC c) = false) (hol : lst l (coC c - 1) = true) (hgS : g < S) (r : Wr [] w1 w2) {u : Value} (hu : ∀ lab, CopR S t xa i (labNew w1 lab i c) c w2 u) :
  CoI cnV src ys n cap B g o S t xa i lab0 wd (upd σ (coC c) u) (l.setIfInBounds (coC c) true) w2 := by
 have eS : ∀ c', c' < 4 → lst (l.setIfInBounds (coC c) true) (coS c') = lst l (coS c') := fun c' hc' => lst_ne (fun e => coCS c hc c' hc' e.symm)
 have hS : lst l (coS c) = false := by
  cases hs : lst l (coS c) with
  | false => rfl
  | true =>
   rw [h.od c hc hs] at hl
   cases hl
 refine ⟨fun k hk hl' => ?_, fun c' hc' hs => ?_, fun c' hc' hs => ?_, ?_, ?_, h.acc.trans' r (by simp)⟩
 ·have hkj := hk c hc
  rw [upd_ne σ _ hkj]
  rw [lst_ne hkj] at hl'
  exact h.v k hk hl'
 ·rw [eS c' hc'] at hs
  have := h.od c' hc' hs
  by_cases e : c' = c
  ·subst e
   rw [hS] at hs
   cases hs
  ·rw [lst_ne (coC_ne c' hc' c hc e)]
   exact this
 ·rw [lst_ne (coC_1 c hc c' hc').1]
  by_cases e : c' = c
  ·subst e
   exact hol
  ·rw [lst_ne (coC_ne c' hc' c hc e)] at hs
   exact h.ol c' hc' hs
 ·have := own_wr h.row r (by simp)
  rw [coX_congr (f := coU src σ l) (f' := coU src (upd σ (coC c) u) (l.setIfInBounds (coC c) true)) (fun c' hc' => by
   unfold coU
   rw [eS c' hc']
   by_cases e : c' = c
   ·subst e
    rw [hS]
    rfl
   ·rw [upd_ne σ _ (coC_ne c' hc' c hc e)])] at this
  exact this
 ·obtain ⟨lab, h1, h2⟩ := h.lb
  refine ⟨labNew w1 lab i c, fun b hb => by rw [labNew_old b (Nat.lt_of_lt_of_le hb h.acc.size)]; exact h1 b hb, fun c' hc' hs => ?_⟩
  by_cases e : c' = c
  ·subst e
   rw [upd_same]
   exact hu lab
  ·rw [upd_ne σ _ (coC_ne c' hc' c hc e)]
   rw [lst_ne (coC_ne c' hc' c hc e)] at hs
   exact ((h2 c' hc' hs).relab labNew_old).keep r (by simp)
theorem CoI.stored (h : CoI cnV src ys n cap B g o S t xa i lab0 wd σ l w1) (c : Nat) (hc : c < 4) (hz : l.size = 36) (hl : lst l (coC c) = true) (hgS : g < S) (hv : cnV (coS c) = undef) :
  CoI cnV src ys n cap B g o S t xa i lab0 wd (upd σ (coS c) undef) (l.setIfInBounds (coS c) true) (w1.setCell ⟨g, o + 7 + c, none⟩ (σ (coC c))) := by
 have r : Wr [g] w1 (w1.setCell ⟨g, o + 7 + c, none⟩ (σ (coC c))) := (Wr.refl [g] _).setOn (by simp) _
 have eC : ∀ c', c' < 4 → lst (l.setIfInBounds (coS c) true) (coC c') = lst l (coC c') := fun c' hc' => lst_ne (coCS c' hc' c hc)
 have uC : ∀ c', c' < 4 → upd σ (coS c) undef (coC c') = σ (coC c') := fun c' hc' => upd_ne σ _ (coCS c' hc' c hc)
 have hs36 : coS c < l.size := by
  rw [hz]
  exact (by decide : ∀ c, c < 4 → coS c < 36) c hc
 refine ⟨fun k hk hl' => ?_, fun c' hc' hs => ?_, fun c' hc' hs => ?_, ?_, ?_, h.acc.trans r⟩
 ·by_cases hkj : k = coS c
  ·subst hkj
   rw [upd_same, hv]
  ·rw [upd_ne σ _ hkj]
   rw [lst_ne hkj] at hl'
   exact h.v k hk hl'
 ·rw [eC c' hc']
  by_cases e : c' = c
  ·subst e
   exact hl
  ·rw [lst_ne (coS_ne c' hc' c hc e)] at hs
   exact h.od c' hc' hs
 ·rw [lst_ne (coC_1 c hc c' hc').2]
  rw [eC c' hc'] at hs
  exact h.ol c' hc' hs
 ·have := (h.row.stored (o + 7 + c) (σ (coC c))).1
  have e1 : coU src (upd σ (coS c) undef) (l.setIfInBounds (coS c) true) c = σ (coC c) := by
   unfold coU
   rw [lst_same hs36, if_pos rfl, uC c hc]
  rw [← e1, coX_set ys o (coU src σ l) (coU src (upd σ (coS c) undef) (l.setIfInBounds (coS c) true)) c hc (fun c' hc' hne => by unfold coU; rw [lst_ne (coS_ne c' hc' c hc hne), uC c' hc'])] at this
  rw [e1] at this
  exact this
 ·obtain ⟨lab, h1, h2⟩ := h.lb
  exact ⟨lab, h1, fun c' hc' hs => by rw [uC c' hc']; rw [eC c' hc'] at hs; exact (h2 c' hc' hs).keep r (by simpa using hgS)⟩
theorem CoI.unst (h : CoI cnV src ys n cap B g o S t xa i lab0 wd σ l w1) (c : Nat) (hc : c < 4) (hl : lst l (coC c - 1) = false) : lst l (coS c) = false := by
 cases hs : lst l (coS c) with
 | false => rfl
 | true =>
  rw [h.ol c hc (h.od c hc hs)] at hl
  cases hl
end
def CapR (S : Nat) (x : ArmD) (i : Nat) (lab : Nat → Nat × Nat) : Nat → World → Value → Prop
 | 0, w, u => OwnL w S lab i 4 2 1 u x.frm.length (x.frm.map (Value.int .i64))
 | _, w, u => OwnL w S lab i 4 2 1 u x.to.length (x.to.map (Value.int .i64))
section
variable {S i : Nat} {x : ArmD} {lab lab' : Nat → Nat × Nat} {w w' : World} {u : Value} {ls : List Nat}
theorem CapR.keep {c : Nat} (h : CapR S x i lab c w u) (r : Wr ls w w') (hl : ∀ y ∈ ls, S ≤ y → lab y ≠ (i, 4)) : CapR S x i lab c w' u := by
 match c, h with
 | 0, h => exact OwnL.keep (show OwnL w S lab i 4 2 1 u x.frm.length (x.frm.map (Value.int .i64)) from h) r hl
 | _ + 1, h => exact OwnL.keep (show OwnL w S lab i 4 2 1 u x.to.length (x.to.map (Value.int .i64)) from h) r hl
theorem CapR.relab {c : Nat} (h : CapR S x i lab c w u) (hl : ∀ b, b < w.heap.size → lab' b = lab b) : CapR S x i lab' c w u := by
 match c, h with
 | 0, h => exact OwnL.relab (show OwnL w S lab i 4 2 1 u x.frm.length (x.frm.map (Value.int .i64)) from h) hl
 | _ + 1, h => exact OwnL.relab (show OwnL w S lab i 4 2 1 u x.to.length (x.to.map (Value.int .i64)) from h) hl
end
def caC : Nat → Nat | 0 => 18 | _ => 27
def caS : Nat → Nat | 0 => 30 | _ => 33
def caU (src : Nat → Value) (σ : Nat → Value) (l : Array Bool) (c : Nat) : Value := if lst l (caS c) = true then σ (caC c) else src c
def caX (ys : List Value) (o : Nat) (f : Nat → Value) : List Value := (ys.set o (f 0)).set (o + 1) (f 1)
theorem caX_set (ys : List Value) (o : Nat) (f f' : Nat → Value) (c : Nat) (hc : c < 2) (hf : ∀ c', c' < 2 → c' ≠ c → f' c' = f c') : (caX ys o f).set (o + c) (f' c) = caX ys o f' := by
 unfold caX
 match c, hc with
 | 0, _ => rw [hf 1 (by decide) (by decide), show o + 0 = o from rfl, List.set_comm _ _ (show o + 1 ≠ o by omega), List.set_set]
 | 1, _ => rw [hf 0 (by decide) (by decide), List.set_set]
structure CaI (cnV : Nat → Value) (src : Nat → Value) (ys : List Value) (n cap B g o S : Nat) (x : ArmD) (i : Nat) (lab0 : Nat → Nat × Nat) (wd : World) (σ : Nat → Value) (l : Array Bool) (w' : World) : Prop where
 v : ∀ j, (∀ c, c < 2 → j ≠ caC c) → lst l j = true → σ j = cnV j
 od : ∀ c, c < 2 → lst l (caS c) = true → lst l (caC c) = true
 ol : ∀ c, c < 2 → lst l (caC c) = true → lst l (caC c - 1) = true
 row : w'.ownsRow B 76 3 (.slice (some ⟨g, 0, none⟩) n cap) n (caX ys o (caU src σ l))
 lb : ∃ lab, (∀ b, b < wd.heap.size → lab b = lab0 b) ∧ ∀ c, c < 2 → lst l (caC c) = true → CapR S x i lab c w' (σ (caC c))
 acc : Wr [g] wd w'
theorem caCS : ∀ c, c < 2 → ∀ c', c' < 2 → caC c ≠ caS c' := by decide
theorem caC_1 : ∀ c, c < 2 → ∀ c', c' < 2 → caC c' - 1 ≠ caC c ∧ caC c' - 1 ≠ caS c := by decide
theorem caC_ne : ∀ c, c < 2 → ∀ c', c' < 2 → c ≠ c' → caC c ≠ caC c' := by decide
theorem caS_ne : ∀ c, c < 2 → ∀ c', c' < 2 → c ≠ c' → caS c ≠ caS c' := by decide
section
variable {cnV src : Nat → Value} {ys : List Value} {n cap B g o S : Nat} {x : ArmD} {i : Nat} {lab0 : Nat → Nat × Nat} {wd : World} {σ : Nat → Value} {l : Array Bool} {w1 w2 : World}
theorem caX_congr {f f' : Nat → Value} (h : ∀ c, c < 2 → f c = f' c) : caX ys o f = caX ys o f' := by
 unfold caX
 rw [h 0 (by decide), h 1 (by decide)]
theorem CaI.quiet (h : CaI cnV src ys n cap B g o S x i lab0 wd σ l w1) (j : Nat) (hz : l.size = 34) (hjz : j < 34) (hj : (∀ c, c < 2 → j ≠ caC c) ∧ ∀ c, c < 2 → j ≠ caS c) (hgL : ∀ lab : Nat → Nat × Nat, (∀ b, b < wd.heap.size → lab b = lab0 b) → lab g ≠ (i, 4)) (r : Wr [] w1 w2) :
  CaI cnV src ys n cap B g o S x i lab0 wd (upd σ j (cnV j)) (l.setIfInBounds j true) w2 := by
 have eC : ∀ c, c < 2 → lst (l.setIfInBounds j true) (caC c) = lst l (caC c) := fun c hc => lst_ne (fun e => hj.1 c hc e.symm)
 have eS : ∀ c, c < 2 → lst (l.setIfInBounds j true) (caS c) = lst l (caS c) := fun c hc => lst_ne (fun e => hj.2 c hc e.symm)
 have uC : ∀ c, c < 2 → upd σ j (cnV j) (caC c) = σ (caC c) := fun c hc => upd_ne σ _ (fun e => hj.1 c hc e.symm)
 refine ⟨fun k hk hl => ?_, fun c hc hs => ?_, fun c hc hs => ?_, ?_, ?_, h.acc.trans' r (by simp)⟩
 ·by_cases hkj : k = j
  ·subst hkj
   exact upd_same _ _ _
  ·rw [upd_ne σ _ hkj]
   rw [lst_ne hkj] at hl
   exact h.v k hk hl
 ·rw [eC c hc]
  rw [eS c hc] at hs
  exact h.od c hc hs
 ·rw [eC c hc] at hs
  have := h.ol c hc hs
  by_cases e : caC c - 1 = j
  ·rw [e]
   exact lst_same (by omega)
  ·rw [lst_ne e]
   exact this
 ·have := own_keep h.row r (fun _ _ => by simp)
  rw [caX_congr (f := caU src σ l) (f' := caU src (upd σ j (cnV j)) (l.setIfInBounds j true)) (fun c hc => by unfold caU; rw [eS c hc, uC c hc])] at this
  exact this
 ·obtain ⟨lab, h1, h2⟩ := h.lb
  exact ⟨lab, h1, fun c hc hs => by rw [uC c hc]; rw [eC c hc] at hs; exact (h2 c hc hs).keep r (by simp)⟩
theorem CaI.called (h : CaI cnV src ys n cap B g o S x i lab0 wd σ l w1) (c : Nat) (hc : c < 2) (hz : l.size = 34) (hl : lst l (caC c) = false) (hol : lst l (caC c - 1) = true) (hgL : ∀ lab : Nat → Nat × Nat, (∀ b, b < wd.heap.size → lab b = lab0 b) → lab g ≠ (i, 4)) (r : Wr [] w1 w2) {u : Value} (hu : ∀ lab, CapR S x i (labNew w1 lab i 4) c w2 u) :
  CaI cnV src ys n cap B g o S x i lab0 wd (upd σ (caC c) u) (l.setIfInBounds (caC c) true) w2 := by
 have eS : ∀ c', c' < 2 → lst (l.setIfInBounds (caC c) true) (caS c') = lst l (caS c') := fun c' hc' => lst_ne (fun e => caCS c hc c' hc' e.symm)
 have hS : lst l (caS c) = false := by
  cases hs : lst l (caS c) with
  | false => rfl
  | true =>
   rw [h.od c hc hs] at hl
   cases hl
 refine ⟨fun k hk hl' => ?_, fun c' hc' hs => ?_, fun c' hc' hs => ?_, ?_, ?_, h.acc.trans' r (by simp)⟩
 ·have hkj := hk c hc
  rw [upd_ne σ _ hkj]
  rw [lst_ne hkj] at hl'
  exact h.v k hk hl'
 ·rw [eS c' hc'] at hs
  have := h.od c' hc' hs
  by_cases e : c' = c
  ·subst e
   rw [hS] at hs
   cases hs
  ·rw [lst_ne (caC_ne c' hc' c hc e)]
   exact this
 ·rw [lst_ne (caC_1 c hc c' hc').1]
  by_cases e : c' = c
  ·subst e
   exact hol
  ·rw [lst_ne (caC_ne c' hc' c hc e)] at hs
   exact h.ol c' hc' hs
 ·have := own_keep h.row r (fun _ _ => by simp)
  rw [caX_congr (f := caU src σ l) (f' := caU src (upd σ (caC c) u) (l.setIfInBounds (caC c) true)) (fun c' hc' => by
   unfold caU
   rw [eS c' hc']
   by_cases e : c' = c
   ·subst e
    rw [hS]
    rfl
   ·rw [upd_ne σ _ (caC_ne c' hc' c hc e)])] at this
  exact this
 ·obtain ⟨lab, h1, h2⟩ := h.lb
  refine ⟨labNew w1 lab i 4, fun b hb => by rw [labNew_old b (Nat.lt_of_lt_of_le hb h.acc.size)]; exact h1 b hb, fun c' hc' hs => ?_⟩
  by_cases e : c' = c
  ·subst e
   rw [upd_same]
   exact hu lab
  ·rw [upd_ne σ _ (caC_ne c' hc' c hc e)]
   rw [lst_ne (caC_ne c' hc' c hc e)] at hs
   exact ((h2 c' hc' hs).relab labNew_old).keep r (by simp)
theorem CaI.stored (h : CaI cnV src ys n cap B g o S x i lab0 wd σ l w1) (c : Nat) (hc : c < 2) (hz : l.size = 34) (hl : lst l (caC c) = true) (hgL : ∀ lab : Nat → Nat × Nat, (∀ b, b < wd.heap.size → lab b = lab0 b) → lab g ≠ (i, 4)) (hv : cnV (caS c) = undef) :
  CaI cnV src ys n cap B g o S x i lab0 wd (upd σ (caS c) undef) (l.setIfInBounds (caS c) true) (w1.setCell ⟨g, o + c, none⟩ (σ (caC c))) := by
 have r : Wr [g] w1 (w1.setCell ⟨g, o + c, none⟩ (σ (caC c))) := (Wr.refl [g] _).setOn (by simp) _
 have eC : ∀ c', c' < 2 → lst (l.setIfInBounds (caS c) true) (caC c') = lst l (caC c') := fun c' hc' => lst_ne (caCS c' hc' c hc)
 have uC : ∀ c', c' < 2 → upd σ (caS c) undef (caC c') = σ (caC c') := fun c' hc' => upd_ne σ _ (caCS c' hc' c hc)
 have hs34 : caS c < l.size := by
  rw [hz]
  exact (by decide : ∀ c, c < 2 → caS c < 34) c hc
 refine ⟨fun k hk hl' => ?_, fun c' hc' hs => ?_, fun c' hc' hs => ?_, ?_, ?_, h.acc.trans r⟩
 ·by_cases hkj : k = caS c
  ·subst hkj
   rw [upd_same, hv]
  ·rw [upd_ne σ _ hkj]
   rw [lst_ne hkj] at hl'
   exact h.v k hk hl'
 ·rw [eC c' hc']
  by_cases e : c' = c
  ·subst e
   exact hl
  ·rw [lst_ne (caS_ne c' hc' c hc e)] at hs
   exact h.od c' hc' hs
 ·rw [lst_ne (caC_1 c hc c' hc').2]
  rw [eC c' hc'] at hs
  exact h.ol c' hc' hs
 ·have := (h.row.stored (o + c) (σ (caC c))).1
  have e1 : caU src (upd σ (caS c) undef) (l.setIfInBounds (caS c) true) c = σ (caC c) := by
   unfold caU
   rw [lst_same hs34, if_pos rfl, uC c hc]
  rw [← e1, caX_set ys o (caU src σ l) (caU src (upd σ (caS c) undef) (l.setIfInBounds (caS c) true)) c hc (fun c' hc' hne => by unfold caU; rw [lst_ne (caS_ne c' hc' c hc hne), uC c' hc'])] at this
  rw [e1] at this
  exact this
 ·obtain ⟨lab, h1, h2⟩ := h.lb
  exact ⟨lab, h1, fun c' hc' hs => by rw [uC c' hc']; rw [eC c' hc'] at hs; exact (h2 c' hc' hs).keep r (fun y hy _ => by rw [List.mem_singleton.1 hy]; exact hgL lab h1)⟩
theorem CaI.unst (h : CaI cnV src ys n cap B g o S x i lab0 wd σ l w1) (c : Nat) (hc : c < 2) (hl : lst l (caC c - 1) = false) : lst l (caS c) = false := by
 cases hs : lst l (caS c) with
 | false => rfl
 | true =>
  rw [h.ol c hc (h.od c hc hs)] at hl
  cases hl
end
end Go.Proofs.YtjanbpchedgoiaaGreat
namespace Go.Proofs.YtjanbpchedgoiaaGreat
open Go
def init0 (ds : List (Nat × Nat)) (a0 : Act) : Nat → Value := fun j => (a0.tmps[(ds.lookup j).getD 0]?).getD undef
section
variable {P : Program} {md : Region.Mode} {ops : Array Oper} {Q : Exit → Act → World → Prop} {S : Array Bool → World → Prop}
theorem wpAnyL_gridS (ds : List (Nat × Nat)) (I : (Nat → Value) → Array Bool → World → Prop) {a0 : Act} {w : World}
  (hback : (List.range ops.size).all (fun i => (waits md ops i).all (fun d => decide (d < i))) = true)
  (hinit : puts ds (init0 ds a0) a0 = a0)
  (hstep : ∀ i, i < ops.size → GridStep P md ops Q ds a0 I i)
  (hput : fits ops ds = true)
  (hS : ∀ σ l w, I σ l w → S l w)
  (hend : ∀ σ l w, (∀ i, i < ops.size → lst l i = true) → I σ l w → Q .normal (puts ds σ a0) w)
  (h0 : ∀ σ, I σ (Array.replicate ops.size false) w) : wpAnyL P md ops Q S ops.size (Array.replicate ops.size false) a0 w := by
 have h := wpAnyL_grid (P := P) (md := md) (ops := ops) (Q := Q) (S := S) ds (List.range ops.size) I a0 hback (fun i hi => hstep i (List.mem_range.1 hi)) (fun i hi => fits_put hput a0 i (List.mem_range.1 hi)) hS hend
  ops.size (Array.replicate ops.size false) (init0 ds a0) w (by simp) (unl_le _ _) (fun j hj hc => absurd (List.mem_range.2 hj) hc) (h0 _)
 rwa [hinit] at h
end
end Go.Proofs.YtjanbpchedgoiaaGreat
namespace Go.Proofs.YtjanbpchedgoiaaGreat
open Go.RowKit
def CbpR (B : Nat) (f : FaceD) (xt : List Value) : Nat → World → Value → Prop
 | 0, w, u => w.ownsRow B 45 2 u f.uses.length (f.uses.flatMap UseD.cellsF)
 | 1, w, u => w.ownsRow B 52 12 u f.types.length xt
 | _, w, u => w.ownsRow B 59 5 u f.items.length (f.items.flatMap ItmD.cells)
section
variable {B : Nat} {f : FaceD} {xt : List Value} {w w' : World} {u : Value} {ls : List Nat}
theorem CbpR.keep {c : Nat} (h : CbpR B f xt c w u) (r : Wr ls w w') (hl : ∀ x ∈ ls, x < B) : CbpR B f xt c w' u := by
 match c, h with
 | 0, h => exact own_wr (show w.ownsRow B _ 2 u _ _ from h) r hl
 | 1, h => exact own_wr (show w.ownsRow B _ 12 u _ _ from h) r hl
 | _ + 2, h => exact own_wr (show w.ownsRow B _ 5 u _ _ from h) r hl
theorem CbpR.low {B' : Nat} {c : Nat} (h : CbpR B f xt c w u) (hb : B' ≤ B) : CbpR B' f xt c w u := by
 match c, h with
 | 0, h => exact own_base (show w.ownsRow B _ 2 u _ _ from h) hb
 | 1, h => exact own_base (show w.ownsRow B _ 12 u _ _ from h) hb
 | _ + 2, h => exact own_base (show w.ownsRow B _ 5 u _ _ from h) hb
theorem CbpR.lt {c : Nat} (h : CbpR B f xt c w u) : ∀ k, u.ownBlock = some k → B ≤ k ∧ k < w.heap.size := by
 match c, h with
 | 0, h => exact World.ownsRow.lt (show w.ownsRow B _ 2 u _ _ from h)
 | 1, h => exact World.ownsRow.lt (show w.ownsRow B _ 12 u _ _ from h)
 | _ + 2, h => exact World.ownsRow.lt (show w.ownsRow B _ 5 u _ _ from h)
end
def cbC : Nat → Nat | 0 => 2 | 1 => 5 | _ => 8
def cbS : Nat → Nat | 0 => 10 | 1 => 12 | _ => 14
def cbU (src : Nat → Value) (σ : Nat → Value) (l : Array Bool) (c : Nat) : Value := if lst l (cbS c) = true then σ (cbC c) else src c
def cbX (m : ByteArray) (f : Nat → Value) : Array Value := #[.string m, f 0, f 1, f 2]
structure CbI (cnV : Nat → Value) (src : Nat → Value) (g : Nat) (f : FaceD) (xt : List Value) (wd : World) (σ : Nat → Value) (l : Array Bool) (w' : World) : Prop where
 v : ∀ j, (∀ c, c < 3 → j ≠ cbC c) → lst l j = true → σ j = cnV j
 od : ∀ c, c < 3 → lst l (cbS c) = true → lst l (cbC c) = true
 ol : ∀ c, c < 3 → lst l (cbC c) = true → lst l (cbC c - 1) = true
 box : Blk w' g 35 (cbX f.module (cbU src σ l))
 rw_ : ∀ c, c < 3 → lst l (cbC c) = true → CbpR wd.heap.size f xt c w' (σ (cbC c))
 ne : ∀ c, c < 3 → ∀ c', c' < 3 → c ≠ c' → lst l (cbC c) = true → lst l (cbC c') = true → ∀ a, (σ (cbC c)).ownBlock = some a → (σ (cbC c')).ownBlock ≠ some a
 acc : Wr [g] wd w'
theorem cbCS : ∀ c, c < 3 → ∀ c', c' < 3 → cbC c ≠ cbS c' := by decide
theorem cbC_1 : ∀ c, c < 3 → ∀ c', c' < 3 → cbC c' - 1 ≠ cbC c ∧ cbC c' - 1 ≠ cbS c := by decide
theorem cbC_ne : ∀ c, c < 3 → ∀ c', c' < 3 → c ≠ c' → cbC c ≠ cbC c' := by decide
theorem cbS_ne : ∀ c, c < 3 → ∀ c', c' < 3 → c ≠ c' → cbS c ≠ cbS c' := by decide
section
variable {cnV src : Nat → Value} {g : Nat} {f : FaceD} {xt : List Value} {wd : World} {σ : Nat → Value} {l : Array Bool} {w1 w2 : World}
theorem cbX_congr {m : ByteArray} {h h' : Nat → Value} (e : ∀ c, c < 3 → h c = h' c) : cbX m h = cbX m h' := by
 unfold cbX
 rw [e 0 (by decide), e 1 (by decide), e 2 (by decide)]
theorem CbI.quiet (h : CbI cnV src g f xt wd σ l w1) (j : Nat) (hz : l.size = 15) (hjz : j < 15) (hj : (∀ c, c < 3 → j ≠ cbC c) ∧ ∀ c, c < 3 → j ≠ cbS c) (r : Wr [] w1 w2) :
  CbI cnV src g f xt wd (upd σ j (cnV j)) (l.setIfInBounds j true) w2 := by
 have eC : ∀ c, c < 3 → lst (l.setIfInBounds j true) (cbC c) = lst l (cbC c) := fun c hc => lst_ne (fun e => hj.1 c hc e.symm)
 have eS : ∀ c, c < 3 → lst (l.setIfInBounds j true) (cbS c) = lst l (cbS c) := fun c hc => lst_ne (fun e => hj.2 c hc e.symm)
 have uC : ∀ c, c < 3 → upd σ j (cnV j) (cbC c) = σ (cbC c) := fun c hc => upd_ne σ _ (fun e => hj.1 c hc e.symm)
 refine ⟨fun k hk hl => ?_, fun c hc hs => ?_, fun c hc hs => ?_, ?_, fun c hc hs => ?_, fun c hc c' hc' hne h1 h2 => ?_, h.acc.trans' r (by simp)⟩
 ·by_cases hkj : k = j
  ·subst hkj
   exact upd_same _ _ _
  ·rw [upd_ne σ _ hkj]
   rw [lst_ne hkj] at hl
   exact h.v k hk hl
 ·rw [eC c hc]
  rw [eS c hc] at hs
  exact h.od c hc hs
 ·rw [eC c hc] at hs
  have := h.ol c hc hs
  by_cases e : cbC c - 1 = j
  ·rw [e]
   exact lst_same (by omega)
  ·rw [lst_ne e]
   exact this
 ·have := h.box.wr0 r
  rw [cbX_congr (h := cbU src σ l) (h' := cbU src (upd σ j (cnV j)) (l.setIfInBounds j true)) (fun c hc => by unfold cbU; rw [eS c hc, uC c hc])] at this
  exact this
 ·rw [uC c hc]
  rw [eC c hc] at hs
  exact (h.rw_ c hc hs).keep r (by simp)
 ·rw [uC c hc, uC c' hc']
  rw [eC c hc] at h1
  rw [eC c' hc'] at h2
  exact h.ne c hc c' hc' hne h1 h2
theorem CbI.called (h : CbI cnV src g f xt wd σ l w1) (c : Nat) (hc : c < 3) (hl : lst l (cbC c) = false) (hol : lst l (cbC c - 1) = true) (r : Wr [] w1 w2) {u : Value} (hu : CbpR w1.heap.size f xt c w2 u) :
  CbI cnV src g f xt wd (upd σ (cbC c) u) (l.setIfInBounds (cbC c) true) w2 := by
 have eS : ∀ c', c' < 3 → lst (l.setIfInBounds (cbC c) true) (cbS c') = lst l (cbS c') := fun c' hc' => lst_ne (fun e => cbCS c hc c' hc' e.symm)
 have hS : lst l (cbS c) = false := by
  cases hs : lst l (cbS c) with
  | false => rfl
  | true =>
   rw [h.od c hc hs] at hl
   cases hl
 refine ⟨fun k hk hl' => ?_, fun c' hc' hs => ?_, fun c' hc' hs => ?_, ?_, fun c' hc' hs => ?_, fun c1 hc1 c2 hc2 hne h1 h2 a ha => ?_, h.acc.trans' r (by simp)⟩
 ·have hkj := hk c hc
  rw [upd_ne σ _ hkj]
  rw [lst_ne hkj] at hl'
  exact h.v k hk hl'
 ·rw [eS c' hc'] at hs
  have := h.od c' hc' hs
  by_cases e : c' = c
  ·subst e
   rw [hS] at hs
   cases hs
  ·rw [lst_ne (cbC_ne c' hc' c hc e)]
   exact this
 ·rw [lst_ne (cbC_1 c hc c' hc').1]
  by_cases e : c' = c
  ·subst e
   exact hol
  ·rw [lst_ne (cbC_ne c' hc' c hc e)] at hs
   exact h.ol c' hc' hs
 ·have := h.box.wr0 r
  rw [cbX_congr (h := cbU src σ l) (h' := cbU src (upd σ (cbC c) u) (l.setIfInBounds (cbC c) true)) (fun c' hc' => by
   unfold cbU
   rw [eS c' hc']
   by_cases e : c' = c
   ·subst e
    rw [hS]
    rfl
   ·rw [upd_ne σ _ (cbC_ne c' hc' c hc e)])] at this
  exact this
 ·by_cases e : c' = c
  ·subst e
   rw [upd_same]
   exact hu.low h.acc.size
  ·rw [upd_ne σ _ (cbC_ne c' hc' c hc e)]
   rw [lst_ne (cbC_ne c' hc' c hc e)] at hs
   exact (h.rw_ c' hc' hs).keep r (by simp)
 ·by_cases e1 : c1 = c
  ·subst e1
   rw [upd_same] at ha
   have hn2 : c2 ≠ c1 := fun e => hne e.symm
   rw [upd_ne σ _ (cbC_ne c2 hc2 c1 hc hn2)]
   rw [lst_ne (cbC_ne c2 hc2 c1 hc hn2)] at h2
   intro hb
   have x1 := (hu.lt a ha).1
   have x2 := ((h.rw_ c2 hc2 h2).lt a hb).2
   omega
  ·rw [upd_ne σ _ (cbC_ne c1 hc1 c hc e1)] at ha
   rw [lst_ne (cbC_ne c1 hc1 c hc e1)] at h1
   by_cases e2 : c2 = c
   ·subst e2
    rw [upd_same]
    intro hb
    have x1 := (hu.lt a hb).1
    have x2 := ((h.rw_ c1 hc1 h1).lt a ha).2
    omega
   ·rw [upd_ne σ _ (cbC_ne c2 hc2 c hc e2)]
    rw [lst_ne (cbC_ne c2 hc2 c hc e2)] at h2
    exact h.ne c1 hc1 c2 hc2 hne h1 h2 a ha
theorem CbI.stored (h : CbI cnV src g f xt wd σ l w1) (c : Nat) (hc : c < 3) (hz : l.size = 15) (hl : lst l (cbC c) = true) (hgw : g < wd.heap.size) (hv : cnV (cbS c) = undef) :
  CbI cnV src g f xt wd (upd σ (cbS c) undef) (l.setIfInBounds (cbS c) true) (w1.setCell ⟨g, 1 + c, none⟩ (σ (cbC c))) := by
 have r : Wr [g] w1 (w1.setCell ⟨g, 1 + c, none⟩ (σ (cbC c))) := (Wr.refl [g] _).setOn (by simp) _
 have eC : ∀ c', c' < 3 → lst (l.setIfInBounds (cbS c) true) (cbC c') = lst l (cbC c') := fun c' hc' => lst_ne (cbCS c' hc' c hc)
 have uC : ∀ c', c' < 3 → upd σ (cbS c) undef (cbC c') = σ (cbC c') := fun c' hc' => upd_ne σ _ (cbCS c' hc' c hc)
 have hs15 : cbS c < l.size := by
  rw [hz]
  exact (by decide : ∀ c, c < 3 → cbS c < 15) c hc
 refine ⟨fun k hk hl' => ?_, fun c' hc' hs => ?_, fun c' hc' hs => ?_, ?_, fun c' hc' hs => ?_, fun c1 hc1 c2 hc2 hne h1 h2 => ?_, h.acc.trans r⟩
 ·by_cases hkj : k = cbS c
  ·subst hkj
   rw [upd_same, hv]
  ·rw [upd_ne σ _ hkj]
   rw [lst_ne hkj] at hl'
   exact h.v k hk hl'
 ·rw [eC c' hc']
  by_cases e : c' = c
  ·subst e
   exact hl
  ·rw [lst_ne (cbS_ne c' hc' c hc e)] at hs
   exact h.od c' hc' hs
 ·rw [lst_ne (cbC_1 c hc c' hc').2]
  rw [eC c' hc'] at hs
  exact h.ol c' hc' hs
 ·have := h.box.set_ (1 + c) (σ (cbC c))
  have e1 : cbU src (upd σ (cbS c) undef) (l.setIfInBounds (cbS c) true) c = σ (cbC c) := by
   unfold cbU
   rw [lst_same hs15, if_pos rfl, uC c hc]
  have e2 : ∀ c', c' < 3 → c' ≠ c → cbU src (upd σ (cbS c) undef) (l.setIfInBounds (cbS c) true) c' = cbU src σ l c' := fun c' hc' hne => by
   unfold cbU
   rw [lst_ne (cbS_ne c' hc' c hc hne), uC c' hc']
  unfold cbX at this ⊢
  match c, hc with
  | 0, _ =>
   rw [e1, e2 1 (by decide) (by decide), e2 2 (by decide) (by decide)]
   simpa using this
  | 1, _ =>
   rw [e1, e2 0 (by decide) (by decide), e2 2 (by decide) (by decide)]
   simpa using this
  | 2, _ =>
   rw [e1, e2 0 (by decide) (by decide), e2 1 (by decide) (by decide)]
   simpa using this
 ·rw [uC c' hc']
  rw [eC c' hc'] at hs
  exact (h.rw_ c' hc' hs).keep r (by simpa using hgw)
 ·rw [uC c1 hc1, uC c2 hc2]
  rw [eC c1 hc1] at h1
  rw [eC c2 hc2] at h2
  exact h.ne c1 hc1 c2 hc2 hne h1 h2
theorem CbI.unst (h : CbI cnV src g f xt wd σ l w1) (c : Nat) (hc : c < 3) (hl : lst l (cbC c - 1) = false) : lst l (cbS c) = false := by
 cases hs : lst l (cbS c) with
 | false => rfl
 | true =>
  rw [h.ol c hc (h.od c hc hs)] at hl
  cases hl
end
end Go.Proofs.YtjanbpchedgoiaaGreat
