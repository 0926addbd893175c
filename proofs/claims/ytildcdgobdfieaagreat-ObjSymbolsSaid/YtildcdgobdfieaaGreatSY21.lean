/- What holds while clone copies one arm's two lists (a region that draws its order). No conditions. -/
import Derived.Test.YtildcdgobdfieaaGreatSY20
import Derived.Test.YtildcdgobdfieaaGreatSY15
set_option linter.unusedVariables false
set_option linter.unusedSimpArgs false
set_option maxRecDepth 100000
set_option maxHeartbeats 32000000
namespace Go.Proofs.YtildcdgobdfieaaGreat
open Go.RowKit
def CapR (S : Nat) (x : ArmD) (i : Nat) (lab : Nat → Nat × Nat) : Nat → World → Value → Prop
 | 0, w, u => OwnL w S lab i 4 2 1 u x.frm.length (x.frm.map (Value.int .i64))
 | _, w, u => OwnL w S lab i 4 2 1 u x.to.length (x.to.map (Value.int .i64))
section
variable {S i : Nat} {x : ArmD} {lab lab' : Nat → Nat × Nat} {w w' : World} {u : Value} {ls : List Nat}
theorem CapR.keep {c : Nat} (h : CapR S x i lab c w u) (r : Wr ls w w') (hl : ∀ y ∈ ls, S ≤ y → lab y ≠ (i, 4)) : CapR S x i lab c w' u := by
 match c, h with
 | 0, h => exact OwnL.keep (show OwnL w S lab i 4 2 1 u x.frm.length (x.frm.map (Value.int .i64)) from h) r hl
 | _ + 1, h => exact OwnL.keep (show OwnL w S lab i 4 2 1 u x.to.length (x.to.map (Value.int .i64)) from h) r hl
theorem CapR.relab {c : Nat} (h : CapR S x i lab c w u) (hl : ∀ b, b < w.heap.size → lab' b = lab b) : CapR S x i lab' c w u := by
 match c, h with
 | 0, h => exact OwnL.relab (show OwnL w S lab i 4 2 1 u x.frm.length (x.frm.map (Value.int .i64)) from h) hl
 | _ + 1, h => exact OwnL.relab (show OwnL w S lab i 4 2 1 u x.to.length (x.to.map (Value.int .i64)) from h) hl
end
def caC : Nat → Nat | 0 => 18 | _ => 27
def caS : Nat → Nat | 0 => 30 | _ => 33
def caU (src : Nat → Value) (σ : Nat → Value) (l : Array Bool) (c : Nat) : Value := if lst l (caS c) = true then σ (caC c) else src c
def caX (ys : List Value) (o : Nat) (f : Nat → Value) : List Value := (ys.set o (f 0)).set (o + 1) (f 1)
theorem caX_set (ys : List Value) (o : Nat) (f f' : Nat → Value) (c : Nat) (hc : c < 2) (hf : ∀ c', c' < 2 → c' ≠ c → f' c' = f c') : (caX ys o f).set (o + c) (f' c) = caX ys o f' := by
 unfold caX
 match c, hc with
 | 0, _ => rw [hf 1 (by decide) (by decide), show o + 0 = o from rfl, List.set_comm _ _ (show o + 1 ≠ o by omega), List.set_set]
 | 1, _ => rw [hf 0 (by decide) (by decide), List.set_set]
structure CaI (cnV : Nat → Value) (src : Nat → Value) (ys : List Value) (n cap B g o S : Nat) (x : ArmD) (i : Nat) (lab0 : Nat → Nat × Nat) (wd : World) (σ : Nat → Value) (l : Array Bool) (w' : World) : Prop where
 v : ∀ j, (∀ c, c < 2 → j ≠ caC c) → lst l j = true → σ j = cnV j
 od : ∀ c, c < 2 → lst l (caS c) = true → lst l (caC c) = true
 ol : ∀ c, c < 2 → lst l (caC c) = true → lst l (caC c - 1) = true
 row : w'.ownsRow B 187 3 (.slice (some ⟨g, 0, none⟩) n cap) n (caX ys o (caU src σ l))
 lb : ∃ lab, (∀ b, b < wd.heap.size → lab b = lab0 b) ∧ ∀ c, c < 2 → lst l (caC c) = true → CapR S x i lab c w' (σ (caC c))
 acc : Wr [g] wd w'
theorem caCS : ∀ c, c < 2 → ∀ c', c' < 2 → caC c ≠ caS c' := by decide
theorem caC_1 : ∀ c, c < 2 → ∀ c', c' < 2 → caC c' - 1 ≠ caC c ∧ caC c' - 1 ≠ caS c := by decide
theorem caC_ne : ∀ c, c < 2 → ∀ c', c' < 2 → c ≠ c' → caC c ≠ caC c' := by decide
theorem caS_ne : ∀ c, c < 2 → ∀ c', c' < 2 → c ≠ c' → caS c ≠ caS c' := by decide
section
variable {cnV src : Nat → Value} {ys : List Value} {n cap B g o S : Nat} {x : ArmD} {i : Nat} {lab0 : Nat → Nat × Nat} {wd : World} {σ : Nat → Value} {l : Array Bool} {w1 w2 : World}
theorem caX_congr {f f' : Nat → Value} (h : ∀ c, c < 2 → f c = f' c) : caX ys o f = caX ys o f' := by
 unfold caX
 rw [h 0 (by decide), h 1 (by decide)]
theorem CaI.quiet (h : CaI cnV src ys n cap B g o S x i lab0 wd σ l w1) (j : Nat) (hz : l.size = 34) (hjz : j < 34) (hj : (∀ c, c < 2 → j ≠ caC c) ∧ ∀ c, c < 2 → j ≠ caS c) (hgL : ∀ lab : Nat → Nat × Nat, (∀ b, b < wd.heap.size → lab b = lab0 b) → lab g ≠ (i, 4)) (r : Wr [] w1 w2) :
  CaI cnV src ys n cap B g o S x i lab0 wd (upd σ j (cnV j)) (l.setIfInBounds j true) w2 := by
 have eC : ∀ c, c < 2 → lst (l.setIfInBounds j true) (caC c) = lst l (caC c) := fun c hc => lst_ne (fun e => hj.1 c hc e.symm)
 have eS : ∀ c, c < 2 → lst (l.setIfInBounds j true) (caS c) = lst l (caS c) := fun c hc => lst_ne (fun e => hj.2 c hc e.symm)
 have uC : ∀ c, c < 2 → upd σ j (cnV j) (caC c) = σ (caC c) := fun c hc => upd_ne σ _ (fun e => hj.1 c hc e.symm)
 refine ⟨fun k hk hl => ?_, fun c hc hs => ?_, fun c hc hs => ?_, ?_, ?_, h.acc.trans' r (by simp)⟩
 ·by_cases hkj : k = j
  ·subst hkj
   exact upd_same _ _ _
  ·rw [upd_ne σ _ hkj]
   rw [lst_ne hkj] at hl
   exact h.v k hk hl
 ·rw [eC c hc]
  rw [eS c hc] at hs
  exact h.od c hc hs
 ·rw [eC c hc] at hs
  have := h.ol c hc hs
  by_cases e : caC c - 1 = j
  ·rw [e]
   exact lst_same (by omega)
  ·rw [lst_ne e]
   exact this
 ·have := own_keep h.row r (fun _ _ => by simp)
  rw [caX_congr (f := caU src σ l) (f' := caU src (upd σ j (cnV j)) (l.setIfInBounds j true)) (fun c hc => by unfold caU; rw [eS c hc, uC c hc])] at this
  exact this
 ·obtain ⟨lab, h1, h2⟩ := h.lb
  exact ⟨lab, h1, fun c hc hs => by rw [uC c hc]; rw [eC c hc] at hs; exact (h2 c hc hs).keep r (by simp)⟩
theorem CaI.called (h : CaI cnV src ys n cap B g o S x i lab0 wd σ l w1) (c : Nat) (hc : c < 2) (hz : l.size = 34) (hl : lst l (caC c) = false) (hol : lst l (caC c - 1) = true) (hgL : ∀ lab : Nat → Nat × Nat, (∀ b, b < wd.heap.size → lab b = lab0 b) → lab g ≠ (i, 4)) (r : Wr [] w1 w2) {u : Value} (hu : ∀ lab, CapR S x i (labNew w1 lab i 4) c w2 u) :
  CaI cnV src ys n cap B g o S x i lab0 wd (upd σ (caC c) u) (l.setIfInBounds (caC c) true) w2 := by
 have eS : ∀ c', c' < 2 → lst (l.setIfInBounds (caC c) true) (caS c') = lst l (caS c') := fun c' hc' => lst_ne (fun e => caCS c hc c' hc' e.symm)
 have hS : lst l (caS c) = false := by
  cases hs : lst l (caS c) with
  | false => rfl
  | true =>
   rw [h.od c hc hs] at hl
   cases hl
 refine ⟨fun k hk hl' => ?_, fun c' hc' hs => ?_, fun c' hc' hs => ?_, ?_, ?_, h.acc.trans' r (by simp)⟩
 ·have hkj := hk c hc
  rw [upd_ne σ _ hkj]
  rw [lst_ne hkj] at hl'
  exact h.v k hk hl'
 ·rw [eS c' hc'] at hs
  have := h.od c' hc' hs
  by_cases e : c' = c
  ·subst e
   rw [hS] at hs
   cases hs
  ·rw [lst_ne (caC_ne c' hc' c hc e)]
   exact this
 ·rw [lst_ne (caC_1 c hc c' hc').1]
  by_cases e : c' = c
  ·subst e
   exact hol
  ·rw [lst_ne (caC_ne c' hc' c hc e)] at hs
   exact h.ol c' hc' hs
 ·have := own_keep h.row r (fun _ _ => by simp)
  rw [caX_congr (f := caU src σ l) (f' := caU src (upd σ (caC c) u) (l.setIfInBounds (caC c) true)) (fun c' hc' => by
   unfold caU
   rw [eS c' hc']
   by_cases e : c' = c
   ·subst e
    rw [hS]
    rfl
   ·rw [upd_ne σ _ (caC_ne c' hc' c hc e)])] at this
  exact this
 ·obtain ⟨lab, h1, h2⟩ := h.lb
  refine ⟨labNew w1 lab i 4, fun b hb => by rw [labNew_old b (Nat.lt_of_lt_of_le hb h.acc.size)]; exact h1 b hb, fun c' hc' hs => ?_⟩
  by_cases e : c' = c
  ·subst e
   rw [upd_same]
   exact hu lab
  ·rw [upd_ne σ _ (caC_ne c' hc' c hc e)]
   rw [lst_ne (caC_ne c' hc' c hc e)] at hs
   exact ((h2 c' hc' hs).relab labNew_old).keep r (by simp)
theorem CaI.stored (h : CaI cnV src ys n cap B g o S x i lab0 wd σ l w1) (c : Nat) (hc : c < 2) (hz : l.size = 34) (hl : lst l (caC c) = true) (hgL : ∀ lab : Nat → Nat × Nat, (∀ b, b < wd.heap.size → lab b = lab0 b) → lab g ≠ (i, 4)) (hv : cnV (caS c) = undef) :
  CaI cnV src ys n cap B g o S x i lab0 wd (upd σ (caS c) undef) (l.setIfInBounds (caS c) true) (w1.setCell ⟨g, o + c, none⟩ (σ (caC c))) := by
 have r : Wr [g] w1 (w1.setCell ⟨g, o + c, none⟩ (σ (caC c))) := (Wr.refl [g] _).setOn (by simp) _
 have eC : ∀ c', c' < 2 → lst (l.setIfInBounds (caS c) true) (caC c') = lst l (caC c') := fun c' hc' => lst_ne (caCS c' hc' c hc)
 have uC : ∀ c', c' < 2 → upd σ (caS c) undef (caC c') = σ (caC c') := fun c' hc' => upd_ne σ _ (caCS c' hc' c hc)
 have hs34 : caS c < l.size := by
  rw [hz]
  exact (by decide : ∀ c, c < 2 → caS c < 34) c hc
 refine ⟨fun k hk hl' => ?_, fun c' hc' hs => ?_, fun c' hc' hs => ?_, ?_, ?_, h.acc.trans r⟩
 ·by_cases hkj : k = caS c
  ·subst hkj
   rw [upd_same, hv]
  ·rw [upd_ne σ _ hkj]
   rw [lst_ne hkj] at hl'
   exact h.v k hk hl'
 ·rw [eC c' hc']
  by_cases e : c' = c
  ·subst e
   exact hl
  ·rw [lst_ne (caS_ne c' hc' c hc e)] at hs
   exact h.od c' hc' hs
 ·rw [lst_ne (caC_1 c hc c' hc').2]
  rw [eC c' hc'] at hs
  exact h.ol c' hc' hs
 ·have := (h.row.stored (o + c) (σ (caC c))).1
  have e1 : caU src (upd σ (caS c) undef) (l.setIfInBounds (caS c) true) c = σ (caC c) := by
   unfold caU
   rw [lst_same hs34, if_pos rfl, uC c hc]
  rw [← e1, caX_set ys o (caU src σ l) (caU src (upd σ (caS c) undef) (l.setIfInBounds (caS c) true)) c hc (fun c' hc' hne => by unfold caU; rw [lst_ne (caS_ne c' hc' c hc hne), uC c' hc'])] at this
  rw [e1] at this
  exact this
 ·obtain ⟨lab, h1, h2⟩ := h.lb
  exact ⟨lab, h1, fun c' hc' hs => by rw [uC c' hc']; rw [eC c' hc'] at hs; exact (h2 c' hc' hs).keep r (fun y hy _ => by rw [List.mem_singleton.1 hy]; exact hgL lab h1)⟩
theorem CaI.unst (h : CaI cnV src ys n cap B g o S x i lab0 wd σ l w1) (c : Nat) (hc : c < 2) (hl : lst l (caC c - 1) = false) : lst l (caS c) = false := by
 cases hs : lst l (caS c) with
 | false => rfl
 | true =>
  rw [h.ol c hc (h.od c hc hs)] at hl
  cases hl
end
end Go.Proofs.YtildcdgobdfieaaGreat

namespace Go.Proofs.YtildcdgobdfieaaGreat
open Go
def init0 (ds : List (Nat × Nat)) (a0 : Act) : Nat → Value := fun j => (a0.tmps[(ds.lookup j).getD 0]?).getD undef
section
variable {P : Program} {md : Region.Mode} {ops : Array Oper} {Q : Exit → Act → World → Prop} {S : Array Bool → World → Prop}
theorem wpAnyL_gridS (ds : List (Nat × Nat)) (I : (Nat → Value) → Array Bool → World → Prop) {a0 : Act} {w : World}
  (hback : (List.range ops.size).all (fun i => (waits md ops i).all (fun d => decide (d < i))) = true)
  (hinit : puts ds (init0 ds a0) a0 = a0)
  (hstep : ∀ i, i < ops.size → GridStep P md ops Q ds a0 I i)
  (hput : fits ops ds = true)
  (hS : ∀ σ l w, I σ l w → S l w)
  (hend : ∀ σ l w, (∀ i, i < ops.size → lst l i = true) → I σ l w → Q .normal (puts ds σ a0) w)
  (h0 : ∀ σ, I σ (Array.replicate ops.size false) w) : wpAnyL P md ops Q S ops.size (Array.replicate ops.size false) a0 w := by
 have h := wpAnyL_grid (P := P) (md := md) (ops := ops) (Q := Q) (S := S) ds (List.range ops.size) I a0 hback (fun i hi => hstep i (List.mem_range.1 hi)) (fun i hi => fits_put hput a0 i (List.mem_range.1 hi)) hS hend
  ops.size (Array.replicate ops.size false) (init0 ds a0) w (by simp) (unl_le _ _) (fun j hj hc => absurd (List.mem_range.2 hj) hc) (h0 _)
 rwa [hinit] at h
end
end Go.Proofs.YtildcdgobdfieaaGreat

namespace Go.Proofs.YtildcdgobdfieaaGreat
open Go.RowKit
def CbpR (B : Nat) (f : FaceD) (xt : List Value) : Nat → World → Value → Prop
 | 0, w, u => w.ownsRow B 72 2 u f.uses.length (f.uses.flatMap UseD.cellsF)
 | 1, w, u => w.ownsRow B 129 12 u f.types.length xt
 | _, w, u => w.ownsRow B 136 5 u f.items.length (f.items.flatMap ItmD.cells)
section
variable {B : Nat} {f : FaceD} {xt : List Value} {w w' : World} {u : Value} {ls : List Nat}
theorem CbpR.keep {c : Nat} (h : CbpR B f xt c w u) (r : Wr ls w w') (hl : ∀ x ∈ ls, x < B) : CbpR B f xt c w' u := by
 match c, h with
 | 0, h => exact own_wr (show w.ownsRow B _ 2 u _ _ from h) r hl
 | 1, h => exact own_wr (show w.ownsRow B _ 12 u _ _ from h) r hl
 | _ + 2, h => exact own_wr (show w.ownsRow B _ 5 u _ _ from h) r hl
theorem CbpR.low {B' : Nat} {c : Nat} (h : CbpR B f xt c w u) (hb : B' ≤ B) : CbpR B' f xt c w u := by
 match c, h with
 | 0, h => exact own_base (show w.ownsRow B _ 2 u _ _ from h) hb
 | 1, h => exact own_base (show w.ownsRow B _ 12 u _ _ from h) hb
 | _ + 2, h => exact own_base (show w.ownsRow B _ 5 u _ _ from h) hb
theorem CbpR.lt {c : Nat} (h : CbpR B f xt c w u) : ∀ k, u.ownBlock = some k → B ≤ k ∧ k < w.heap.size := by
 match c, h with
 | 0, h => exact World.ownsRow.lt (show w.ownsRow B _ 2 u _ _ from h)
 | 1, h => exact World.ownsRow.lt (show w.ownsRow B _ 12 u _ _ from h)
 | _ + 2, h => exact World.ownsRow.lt (show w.ownsRow B _ 5 u _ _ from h)
end
def cbC : Nat → Nat | 0 => 2 | 1 => 5 | _ => 8
def cbS : Nat → Nat | 0 => 10 | 1 => 12 | _ => 14
def cbU (src : Nat → Value) (σ : Nat → Value) (l : Array Bool) (c : Nat) : Value := if lst l (cbS c) = true then σ (cbC c) else src c
def cbX (m : ByteArray) (f : Nat → Value) : Array Value := #[.string m, f 0, f 1, f 2]
structure CbI (cnV : Nat → Value) (src : Nat → Value) (g : Nat) (f : FaceD) (xt : List Value) (wd : World) (σ : Nat → Value) (l : Array Bool) (w' : World) : Prop where
 v : ∀ j, (∀ c, c < 3 → j ≠ cbC c) → lst l j = true → σ j = cnV j
 od : ∀ c, c < 3 → lst l (cbS c) = true → lst l (cbC c) = true
 ol : ∀ c, c < 3 → lst l (cbC c) = true → lst l (cbC c - 1) = true
 box : Blk w' g 55 (cbX f.module (cbU src σ l))
 rw_ : ∀ c, c < 3 → lst l (cbC c) = true → CbpR wd.heap.size f xt c w' (σ (cbC c))
 ne : ∀ c, c < 3 → ∀ c', c' < 3 → c ≠ c' → lst l (cbC c) = true → lst l (cbC c') = true → ∀ a, (σ (cbC c)).ownBlock = some a → (σ (cbC c')).ownBlock ≠ some a
 acc : Wr [g] wd w'
theorem cbCS : ∀ c, c < 3 → ∀ c', c' < 3 → cbC c ≠ cbS c' := by decide
theorem cbC_1 : ∀ c, c < 3 → ∀ c', c' < 3 → cbC c' - 1 ≠ cbC c ∧ cbC c' - 1 ≠ cbS c := by decide
theorem cbC_ne : ∀ c, c < 3 → ∀ c', c' < 3 → c ≠ c' → cbC c ≠ cbC c' := by decide
theorem cbS_ne : ∀ c, c < 3 → ∀ c', c' < 3 → c ≠ c' → cbS c ≠ cbS c' := by decide
section
variable {cnV src : Nat → Value} {g : Nat} {f : FaceD} {xt : List Value} {wd : World} {σ : Nat → Value} {l : Array Bool} {w1 w2 : World}
theorem cbX_congr {m : ByteArray} {h h' : Nat → Value} (e : ∀ c, c < 3 → h c = h' c) : cbX m h = cbX m h' := by
 unfold cbX
 rw [e 0 (by decide), e 1 (by decide), e 2 (by decide)]
theorem CbI.quiet (h : CbI cnV src g f xt wd σ l w1) (j : Nat) (hz : l.size = 15) (hjz : j < 15) (hj : (∀ c, c < 3 → j ≠ cbC c) ∧ ∀ c, c < 3 → j ≠ cbS c) (r : Wr [] w1 w2) :
  CbI cnV src g f xt wd (upd σ j (cnV j)) (l.setIfInBounds j true) w2 := by
 have eC : ∀ c, c < 3 → lst (l.setIfInBounds j true) (cbC c) = lst l (cbC c) := fun c hc => lst_ne (fun e => hj.1 c hc e.symm)
 have eS : ∀ c, c < 3 → lst (l.setIfInBounds j true) (cbS c) = lst l (cbS c) := fun c hc => lst_ne (fun e => hj.2 c hc e.symm)
 have uC : ∀ c, c < 3 → upd σ j (cnV j) (cbC c) = σ (cbC c) := fun c hc => upd_ne σ _ (fun e => hj.1 c hc e.symm)
 refine ⟨fun k hk hl => ?_, fun c hc hs => ?_, fun c hc hs => ?_, ?_, fun c hc hs => ?_, fun c hc c' hc' hne h1 h2 => ?_, h.acc.trans' r (by simp)⟩
 ·by_cases hkj : k = j
  ·subst hkj
   exact upd_same _ _ _
  ·rw [upd_ne σ _ hkj]
   rw [lst_ne hkj] at hl
   exact h.v k hk hl
 ·rw [eC c hc]
  rw [eS c hc] at hs
  exact h.od c hc hs
 ·rw [eC c hc] at hs
  have := h.ol c hc hs
  by_cases e : cbC c - 1 = j
  ·rw [e]
   exact lst_same (by omega)
  ·rw [lst_ne e]
   exact this
 ·have := h.box.wr0 r
  rw [cbX_congr (h := cbU src σ l) (h' := cbU src (upd σ j (cnV j)) (l.setIfInBounds j true)) (fun c hc => by unfold cbU; rw [eS c hc, uC c hc])] at this
  exact this
 ·rw [uC c hc]
  rw [eC c hc] at hs
  exact (h.rw_ c hc hs).keep r (by simp)
 ·rw [uC c hc, uC c' hc']
  rw [eC c hc] at h1
  rw [eC c' hc'] at h2
  exact h.ne c hc c' hc' hne h1 h2
theorem CbI.called (h : CbI cnV src g f xt wd σ l w1) (c : Nat) (hc : c < 3) (hl : lst l (cbC c) = false) (hol : lst l (cbC c - 1) = true) (r : Wr [] w1 w2) {u : Value} (hu : CbpR w1.heap.size f xt c w2 u) :
  CbI cnV src g f xt wd (upd σ (cbC c) u) (l.setIfInBounds (cbC c) true) w2 := by
 have eS : ∀ c', c' < 3 → lst (l.setIfInBounds (cbC c) true) (cbS c') = lst l (cbS c') := fun c' hc' => lst_ne (fun e => cbCS c hc c' hc' e.symm)
 have hS : lst l (cbS c) = false := by
  cases hs : lst l (cbS c) with
  | false => rfl
  | true =>
   rw [h.od c hc hs] at hl
   cases hl
 refine ⟨fun k hk hl' => ?_, fun c' hc' hs => ?_, fun c' hc' hs => ?_, ?_, fun c' hc' hs => ?_, fun c1 hc1 c2 hc2 hne h1 h2 a ha => ?_, h.acc.trans' r (by simp)⟩
 ·have hkj := hk c hc
  rw [upd_ne σ _ hkj]
  rw [lst_ne hkj] at hl'
  exact h.v k hk hl'
 ·rw [eS c' hc'] at hs
  have := h.od c' hc' hs
  by_cases e : c' = c
  ·subst e
   rw [hS] at hs
   cases hs
  ·rw [lst_ne (cbC_ne c' hc' c hc e)]
   exact this
 ·rw [lst_ne (cbC_1 c hc c' hc').1]
  by_cases e : c' = c
  ·subst e
   exact hol
  ·rw [lst_ne (cbC_ne c' hc' c hc e)] at hs
   exact h.ol c' hc' hs
 ·have := h.box.wr0 r
  rw [cbX_congr (h := cbU src σ l) (h' := cbU src (upd σ (cbC c) u) (l.setIfInBounds (cbC c) true)) (fun c' hc' => by
   unfold cbU
   rw [eS c' hc']
   by_cases e : c' = c
   ·subst e
    rw [hS]
    rfl
   ·rw [upd_ne σ _ (cbC_ne c' hc' c hc e)])] at this
  exact this
 ·by_cases e : c' = c
  ·subst e
   rw [upd_same]
   exact hu.low h.acc.size
  ·rw [upd_ne σ _ (cbC_ne c' hc' c hc e)]
   rw [lst_ne (cbC_ne c' hc' c hc e)] at hs
   exact (h.rw_ c' hc' hs).keep r (by simp)
 ·by_cases e1 : c1 = c
  ·subst e1
   rw [upd_same] at ha
   have hn2 : c2 ≠ c1 := fun e => hne e.symm
   rw [upd_ne σ _ (cbC_ne c2 hc2 c1 hc hn2)]
   rw [lst_ne (cbC_ne c2 hc2 c1 hc hn2)] at h2
   intro hb
   have x1 := (hu.lt a ha).1
   have x2 := ((h.rw_ c2 hc2 h2).lt a hb).2
   omega
  ·rw [upd_ne σ _ (cbC_ne c1 hc1 c hc e1)] at ha
   rw [lst_ne (cbC_ne c1 hc1 c hc e1)] at h1
   by_cases e2 : c2 = c
   ·subst e2
    rw [upd_same]
    intro hb
    have x1 := (hu.lt a hb).1
    have x2 := ((h.rw_ c1 hc1 h1).lt a ha).2
    omega
   ·rw [upd_ne σ _ (cbC_ne c2 hc2 c hc e2)]
    rw [lst_ne (cbC_ne c2 hc2 c hc e2)] at h2
    exact h.ne c1 hc1 c2 hc2 hne h1 h2 a ha
theorem CbI.stored (h : CbI cnV src g f xt wd σ l w1) (c : Nat) (hc : c < 3) (hz : l.size = 15) (hl : lst l (cbC c) = true) (hgw : g < wd.heap.size) (hv : cnV (cbS c) = undef) :
  CbI cnV src g f xt wd (upd σ (cbS c) undef) (l.setIfInBounds (cbS c) true) (w1.setCell ⟨g, 1 + c, none⟩ (σ (cbC c))) := by
 have r : Wr [g] w1 (w1.setCell ⟨g, 1 + c, none⟩ (σ (cbC c))) := (Wr.refl [g] _).setOn (by simp) _
 have eC : ∀ c', c' < 3 → lst (l.setIfInBounds (cbS c) true) (cbC c') = lst l (cbC c') := fun c' hc' => lst_ne (cbCS c' hc' c hc)
 have uC : ∀ c', c' < 3 → upd σ (cbS c) undef (cbC c') = σ (cbC c') := fun c' hc' => upd_ne σ _ (cbCS c' hc' c hc)
 have hs15 : cbS c < l.size := by
  rw [hz]
  exact (by decide : ∀ c, c < 3 → cbS c < 15) c hc
 refine ⟨fun k hk hl' => ?_, fun c' hc' hs => ?_, fun c' hc' hs => ?_, ?_, fun c' hc' hs => ?_, fun c1 hc1 c2 hc2 hne h1 h2 => ?_, h.acc.trans r⟩
 ·by_cases hkj : k = cbS c
  ·subst hkj
   rw [upd_same, hv]
  ·rw [upd_ne σ _ hkj]
   rw [lst_ne hkj] at hl'
   exact h.v k hk hl'
 ·rw [eC c' hc']
  by_cases e : c' = c
  ·subst e
   exact hl
  ·rw [lst_ne (cbS_ne c' hc' c hc e)] at hs
   exact h.od c' hc' hs
 ·rw [lst_ne (cbC_1 c hc c' hc').2]
  rw [eC c' hc'] at hs
  exact h.ol c' hc' hs
 ·have := h.box.set_ (1 + c) (σ (cbC c))
  have e1 : cbU src (upd σ (cbS c) undef) (l.setIfInBounds (cbS c) true) c = σ (cbC c) := by
   unfold cbU
   rw [lst_same hs15, if_pos rfl, uC c hc]
  have e2 : ∀ c', c' < 3 → c' ≠ c → cbU src (upd σ (cbS c) undef) (l.setIfInBounds (cbS c) true) c' = cbU src σ l c' := fun c' hc' hne => by
   unfold cbU
   rw [lst_ne (cbS_ne c' hc' c hc hne), uC c' hc']
  unfold cbX at this ⊢
  match c, hc with
  | 0, _ =>
   rw [e1, e2 1 (by decide) (by decide), e2 2 (by decide) (by decide)]
   simpa using this
  | 1, _ =>
   rw [e1, e2 0 (by decide) (by decide), e2 2 (by decide) (by decide)]
   simpa using this
  | 2, _ =>
   rw [e1, e2 0 (by decide) (by decide), e2 1 (by decide) (by decide)]
   simpa using this
 ·rw [uC c' hc']
  rw [eC c' hc'] at hs
  exact (h.rw_ c' hc' hs).keep r (by simpa using hgw)
 ·rw [uC c1 hc1, uC c2 hc2]
  rw [eC c1 hc1] at h1
  rw [eC c2 hc2] at h2
  exact h.ne c1 hc1 c2 hc2 hne h1 h2
theorem CbI.unst (h : CbI cnV src g f xt wd σ l w1) (c : Nat) (hc : c < 3) (hl : lst l (cbC c - 1) = false) : lst l (cbS c) = false := by
 cases hs : lst l (cbS c) with
 | false => rfl
 | true =>
  rw [h.ol c hc (h.od c hc hs)] at hl
  cases hl
end
end Go.Proofs.YtildcdgobdfieaaGreat

namespace Go.Proofs.YtildcdgobdfieaaGreat
open Go.RowKit
def TysTo (w : World) (S : Nat) (lab : Nat → Nat × Nat) (xs : List Value) (l : List Ty) (k : Nat) : Prop :=
 ∀ (i : Nat) (t : Ty), i < k → l[i]? = some t → ∃ vn vf va vp, (∀ j u, (t.cells vn vf va vp)[j]? = some u → xs[i * 12 + j]? = some u) ∧ TyO w S lab i vn vf va vp t
def ArmsTo (w : World) (S : Nat) (lab : Nat → Nat × Nat) (i : Nat) (xs : List Value) (l : List ArmD) (k : Nat) : Prop :=
 ∀ (j : Nat) (x : ArmD), j < k → l[j]? = some x → ArmO w S lab i xs j x
section
variable {w w' : World} {S i k : Nat} {lab lab' : Nat → Nat × Nat} {xs xs' : List Value} {l : List Ty} {al : List ArmD} {ls : List Nat}
theorem TysTo.keep (h : TysTo w S lab xs l k) (r : Wr ls w w') (hl : ∀ x ∈ ls, S ≤ x → k ≤ (lab x).1) : TysTo w' S lab xs l k := fun i t hi ht => by
 obtain ⟨vn, vf, va, vp, e, o⟩ := h i t hi ht
 exact ⟨vn, vf, va, vp, e, o.keep r (fun x hx hs => by have := hl x hx hs; omega)⟩
theorem TysTo.relab (h : TysTo w S lab xs l k) (hl : ∀ b, b < w.heap.size → lab' b = lab b) : TysTo w S lab' xs l k := fun i t hi ht => by
 obtain ⟨vn, vf, va, vp, e, o⟩ := h i t hi ht
 exact ⟨vn, vf, va, vp, e, o.relab hl⟩
theorem TysTo.row (h : TysTo w S lab xs l k) (hx : ∀ j, j < k * 12 → xs'[j]? = xs[j]?) : TysTo w S lab xs' l k := fun i t hi ht => by
 obtain ⟨vn, vf, va, vp, e, o⟩ := h i t hi ht
 refine ⟨vn, vf, va, vp, fun j u hu => ?_, o⟩
 have hj : j < 12 := (List.getElem?_eq_some_iff.1 hu).1
 rw [hx (i * 12 + j) (by omega)]
 exact e j u hu
theorem TysTo.zero : TysTo w S lab xs l 0 := fun i t hi => absurd hi (by omega)
theorem TysTo.next (h : TysTo w S lab xs l k) {t : Ty} (ht : l[k]? = some t) {vn vf va vp : Value} (e : ∀ j u, (t.cells vn vf va vp)[j]? = some u → xs[k * 12 + j]? = some u) (o : TyO w S lab k vn vf va vp t) : TysTo w S lab xs l (k + 1) := fun i t' hi ht' => by
 rcases Nat.lt_or_ge i k with hik | hik
 ·exact h i t' hik ht'
 ·obtain rfl : i = k := by omega
  rw [ht] at ht'
  injection ht' with ht'
  subst ht'
  exact ⟨vn, vf, va, vp, e, o⟩
theorem ArmsTo.keep (h : ArmsTo w S lab i xs al k) (r : Wr ls w w') (hl : ∀ x ∈ ls, S ≤ x → lab x ≠ (i, 4)) : ArmsTo w' S lab i xs al k := fun j x hj hx => (h j x hj hx).keep r hl
theorem ArmsTo.relab (h : ArmsTo w S lab i xs al k) (hl : ∀ b, b < w.heap.size → lab' b = lab b) : ArmsTo w S lab' i xs al k := fun j x hj hx => (h j x hj hx).relab hl
theorem ArmsTo.row (h : ArmsTo w S lab i xs al k) (hx : ∀ j, j < k * 3 → xs'[j]? = xs[j]?) : ArmsTo w S lab i xs' al k := fun j x hj hjx => by
 obtain ⟨va, vb, e1, e2, e3, ka, kb⟩ := h j x hj hjx
 exact ⟨va, vb, by rw [hx _ (by omega)]; exact e1, by rw [hx _ (by omega)]; exact e2, by rw [hx _ (by omega)]; exact e3, ka, kb⟩
theorem ArmsTo.zero : ArmsTo w S lab i xs al 0 := fun j x hj => absurd hj (by omega)
theorem ArmsTo.next (h : ArmsTo w S lab i xs al k) {x : ArmD} (hx : al[k]? = some x) (ha : ArmO w S lab i xs k x) : ArmsTo w S lab i xs al (k + 1) := fun j y hj hy => by
 rcases Nat.lt_or_ge j k with hjk | hjk
 ·exact h j y hjk hy
 ·obtain rfl : j = k := by omega
  rw [hx] at hy
  injection hy with hy
  subst hy
  exact ha
theorem ArmsTo.all {v : Value} (h : ArmsTo w S lab i xs al al.length) (ho : OwnL w S lab i 2 187 3 v al.length xs) (h1 : ∀ u ∈ xs, u.oneCell' = true) : ArmsO w S lab i v al :=
 ⟨xs, ho, h1, fun j x hx => h j x (List.getElem?_eq_some_iff.1 hx).1 hx⟩
end
def ClAt (w0 w : World) (l : List Ty) (v : Value) (B S : Nat) (xt : List Value) (k : Nat) : Prop :=
 ∃ lab xs, Wr v.ownBlock.toList w0 w ∧ w.ownsRow B 129 12 v l.length xs ∧ TysTo w S lab xs l k ∧ (∀ j, k * 12 ≤ j → xs[j]? = xt[j]?) ∧ ∀ u ∈ xs, u.oneCell' = true
def CloneR (w : World) (f : FaceD) (e : Ending) (w' : World) : Prop :=
 ∃ (vu vt vi : Value) (S : Nat) (lab : Nat → Nat × Nat) (xs : List Value), e = .returned (f.val vu vt vi) ∧ Wr [] w w' ∧ w.heap.size ≤ S ∧ S ≤ w'.heap.size ∧
  CbpR w.heap.size f xs 0 w' vu ∧ CbpR w.heap.size f xs 1 w' vt ∧ CbpR w.heap.size f xs 2 w' vi ∧
  (∀ a, vu.ownBlock = some a → a < S ∧ vt.ownBlock ≠ some a ∧ vi.ownBlock ≠ some a) ∧ (∀ a, vt.ownBlock = some a → a < S ∧ vi.ownBlock ≠ some a) ∧ (∀ a, vi.ownBlock = some a → a < S) ∧
  TysTo w' S lab xs f.types f.types.length ∧ ∀ u ∈ xs, u.oneCell' = true
theorem coX_one {ys : List Value} {o : Nat} {g : Nat → Value} (h : ∀ u ∈ ys, u.oneCell' = true) (hg : ∀ c, c < 4 → (g c).oneCell' = true) : ∀ u ∈ coX ys o g, u.oneCell' = true := by
 intro u hu
 unfold coX at hu
 rcases List.mem_or_eq_of_mem_set hu with hu | rfl
 ·rcases List.mem_or_eq_of_mem_set hu with hu | rfl
  ·rcases List.mem_or_eq_of_mem_set hu with hu | rfl
   ·rcases List.mem_or_eq_of_mem_set hu with hu | rfl
    ·exact h u hu
    ·exact hg 0 (by decide)
   ·exact hg 1 (by decide)
  ·exact hg 2 (by decide)
 ·exact hg 3 (by decide)
theorem coX_out {ys : List Value} {o : Nat} {g : Nat → Value} (j : Nat) (h : j < o + 7 ∨ o + 10 < j) : (coX ys o g)[j]? = ys[j]? := by
 unfold coX
 rw [List.getElem?_set_ne (by omega), List.getElem?_set_ne (by omega), List.getElem?_set_ne (by omega), List.getElem?_set_ne (by omega)]
theorem coX_in {ys : List Value} {o : Nat} {g : Nat → Value} (hl : o + 10 < ys.length) (c : Nat) (hc : c < 4) : (coX ys o g)[o + 7 + c]? = some (g c) := by
 unfold coX
 match c, hc with
 | 0, _ => rw [List.getElem?_set_ne (by omega), List.getElem?_set_ne (by omega), List.getElem?_set_ne (by omega)]; exact List.getElem?_set_self (by omega)
 | 1, _ => rw [List.getElem?_set_ne (by omega), List.getElem?_set_ne (by omega)]; exact List.getElem?_set_self (by simp; omega)
 | 2, _ => rw [List.getElem?_set_ne (by omega)]; exact List.getElem?_set_self (by simp; omega)
 | 3, _ => exact List.getElem?_set_self (by simp; omega)
theorem coX_same {ys : List Value} {o : Nat} {g : Nat → Value} (hl : o + 10 < ys.length) (h : ∀ c, c < 4 → ys[o + 7 + c]? = some (g c)) : coX ys o g = ys := by
 apply List.ext_getElem?
 intro j
 by_cases hj : j < o + 7 ∨ o + 10 < j
 ·exact coX_out j hj
 ·have hc : j = o + 7 + (j - (o + 7)) := by omega
  rw [hc, coX_in hl _ (by omega), h _ (by omega)]
theorem caX_out {ys : List Value} {o : Nat} {g : Nat → Value} (j : Nat) (h : j < o ∨ o + 1 < j) : (caX ys o g)[j]? = ys[j]? := by
 unfold caX
 rw [List.getElem?_set_ne (by omega), List.getElem?_set_ne (by omega)]
theorem caX_in {ys : List Value} {o : Nat} {g : Nat → Value} (hl : o + 1 < ys.length) (c : Nat) (hc : c < 2) : (caX ys o g)[o + c]? = some (g c) := by
 unfold caX
 match c, hc with
 | 0, _ => rw [List.getElem?_set_ne (by omega)]; exact List.getElem?_set_self (by omega)
 | 1, _ => exact List.getElem?_set_self (by simp; omega)
theorem caX_same {ys : List Value} {o : Nat} {g : Nat → Value} (hl : o + 1 < ys.length) (h : ∀ c, c < 2 → ys[o + c]? = some (g c)) : caX ys o g = ys := by
 apply List.ext_getElem?
 intro j
 by_cases hj : j < o ∨ o + 1 < j
 ·exact caX_out j hj
 ·have hc : j = o + (j - o) := by omega
  rw [hc, caX_in hl _ (by omega), h _ (by omega)]
theorem caX_one {ys : List Value} {o : Nat} {g : Nat → Value} (h : ∀ u ∈ ys, u.oneCell' = true) (hg : ∀ c, c < 2 → (g c).oneCell' = true) : ∀ u ∈ caX ys o g, u.oneCell' = true := by
 intro u hu
 unfold caX at hu
 rcases List.mem_or_eq_of_mem_set hu with hu | rfl
 ·rcases List.mem_or_eq_of_mem_set hu with hu | rfl
  ·exact h u hu
  ·exact hg 0 (by decide)
 ·exact hg 1 (by decide)
theorem CopR.form {S : Nat} {t : Ty} {xa : List Value} {i : Nat} {lab : Nat → Nat × Nat} {c : Nat} {w : World} {u : Value} (h : CopR S t xa i lab c w u) : ∃ A n k, u = .slice A n k ∧ k ≤ maxLen := by
 match c, h with
 | 0, h =>
  obtain ⟨A, k, e, _, hk⟩ := Sl.form (show SlStrs w (Lb S lab i 0) u t.names from h)
  exact ⟨A, _, k, e, hk⟩
 | 1, h =>
  obtain ⟨A, k, e, _, hk⟩ := (OwnL.sl (show OwnL w S lab i 1 _ 3 u _ _ from h)).form
  exact ⟨A, _, k, e, hk⟩
 | 2, h =>
  obtain ⟨A, k, e, _, hk⟩ := (OwnL.sl (show OwnL w S lab i 2 _ 3 u _ _ from h)).form
  exact ⟨A, _, k, e, hk⟩
 | _ + 3, h =>
  obtain ⟨A, k, e, _, hk⟩ := (OwnL.sl (show OwnL w S lab i 3 _ 2 u _ _ from h)).form
  exact ⟨A, _, k, e, hk⟩
theorem CapR.form {S : Nat} {x : ArmD} {i : Nat} {lab : Nat → Nat × Nat} {c : Nat} {w : World} {u : Value} (h : CapR S x i lab c w u) : ∃ A n k, u = .slice A n k ∧ k ≤ maxLen := by
 match c, h with
 | 0, h =>
  obtain ⟨A, k, e, _, hk⟩ := (OwnL.sl (show OwnL w S lab i 4 2 1 u x.frm.length (x.frm.map (Value.int .i64)) from h)).form
  exact ⟨A, _, k, e, hk⟩
 | _ + 1, h =>
  obtain ⟨A, k, e, _, hk⟩ := (OwnL.sl (show OwnL w S lab i 4 2 1 u x.to.length (x.to.map (Value.int .i64)) from h)).form
  exact ⟨A, _, k, e, hk⟩
end Go.Proofs.YtildcdgobdfieaaGreat
