/- iface's clone, of any interface that fits: walked. Conditions: it fits. -/
import Derived.Test.YtjanbpchedgoiaaGreatKT11
set_option linter.unusedVariables false
set_option linter.unusedSimpArgs false
set_option maxRecDepth 100000
set_option maxHeartbeats 32000000
namespace Go.Proofs.YtjanbpchedgoiaaGreat
open Go.RowKit
def src4 (a b c d : Value) : Nat → Value | 0 => a | 1 => b | 2 => c | _ => d
def ArAt (w0 w : World) (S : Nat) (lab0 : Nat → Nat × Nat) (i : Nat) (l : List ArmD) (v : Value) (xa : List Value) (a : Nat) : Prop :=
 ∃ lab ya, (∀ b, b < w0.heap.size → lab b = lab0 b) ∧ Wr v.ownBlock.toList w0 w ∧ OwnL w S lab i 2 76 3 v l.length ya ∧ ArmsTo w S lab i ya l a ∧ (∀ j, a * 3 ≤ j → ya[j]? = xa[j]?) ∧ ∀ u ∈ ya, u.oneCell' = true
theorem cells_co {xs : List Value} {o : Nat} {x : Ty} {s0 s1 s2 s3 v0 v1 v2 v3 : Value} (hxl : o + 10 < xs.length) (h : ∀ j u, (x.cells s0 s1 s2 s3)[j]? = some u → xs[o + j]? = some u) {j : Nat} {u : Value} (hu : (x.cells v0 v1 v2 v3)[j]? = some u) :
  (coX xs o (src4 v0 v1 v2 v3))[o + j]? = some u := by
 have hj : j < 12 := (List.getElem?_eq_some_iff.1 hu).1
 by_cases c : 7 ≤ j ∧ j ≤ 10
 ·have e := coX_in (g := src4 v0 v1 v2 v3) hxl (j - 7) (by omega)
  rw [show o + 7 + (j - 7) = o + j by omega] at e
  rw [e]
  have : j = 7 ∨ j = 8 ∨ j = 9 ∨ j = 10 := by omega
  rcases this with rfl | rfl | rfl | rfl <;> exact hu
 ·rw [coX_out _ (by omega)]
  refine h j u ?_
  rw [← hu]
  have : j = 0 ∨ j = 1 ∨ j = 2 ∨ j = 3 ∨ j = 4 ∨ j = 5 ∨ j = 6 ∨ j = 11 := by omega
  rcases this with rfl | rfl | rfl | rfl | rfl | rfl | rfl | rfl <;> rfl
def cbV (g : Nat) (src : Nat → Value) : Nat → Value
 | 0 => .pointer (some ⟨g, 1, none⟩)
 | 3 => .pointer (some ⟨g, 2, none⟩)
 | 6 => .pointer (some ⟨g, 3, none⟩)
 | 9 => .pointer (some ⟨g, 1, none⟩)
 | 11 => .pointer (some ⟨g, 2, none⟩)
 | 13 => .pointer (some ⟨g, 3, none⟩)
 | 1 => src 0
 | 4 => src 1
 | 7 => src 2
 | _ => undef
def src3 (a b c : Value) : Nat → Value | 0 => a | 1 => b | _ => c
theorem own_form {w : World} {B : Nat} {T : TypeId} {z n : Nat} {v : Value} {xs : List Value} (h : w.ownsRow B T z v n xs) : ∃ A c, v = .slice A n c ∧ n ≤ c ∧ c ≤ maxLen := by
 rcases h.2 with ⟨rfl, rfl⟩ | ⟨g, cap, cur, rfl, _, _, h1, h2, _⟩
 ·exact ⟨none, 0, rfl, Nat.le_refl _, Nat.zero_le _⟩
 ·exact ⟨_, cap, rfl, h1, h2⟩
theorem one_usesF (l : List UseD) : ∀ u ∈ l.flatMap UseD.cellsF, u.oneCell' = true := by
 intro u hu
 obtain ⟨x, _, h⟩ := List.mem_flatMap.1 hu
 simp only [UseD.cellsF, qmcq, qnnq, or_false] at h
 rcases h with rfl | rfl <;> rfl
theorem one_items (l : List ItmD) : ∀ u ∈ l.flatMap ItmD.cells, u.oneCell' = true := by
 intro u hu
 obtain ⟨x, _, h⟩ := List.mem_flatMap.1 hu
 simp only [ItmD.cells, qmcq, qnnq, or_false] at h
 rcases h with rfl | rfl | rfl | rfl | rfl <;> first | rfl | exact x.v.val_one
theorem fit_uses {f : FaceD} (h : faceFit f = true) : f.uses.length ≤ 64 ∧ f.items.length ≤ 512 := by
 unfold faceFit at h
 simp only [Bool.and_eq_true, decide_eq_true_eq] at h
 exact ⟨h.1.1.1.1.1.1, h.1.1.1.1.1.2⟩
def src2 (a b : Value) : Nat → Value | 0 => a | _ => b
def caV (gt o2 g o a : Nat) (v : Value) (src : Nat → Value) : Nat → Value
 | 0 => .pointer (some ⟨gt, o2, none⟩)
 | 1 => .pointer (some ⟨gt, o2, none⟩)
 | 5 => .pointer (some ⟨gt, o2, none⟩)
 | 6 => .pointer (some ⟨gt, o2, none⟩)
 | 10 => .pointer (some ⟨gt, o2, none⟩)
 | 11 => .pointer (some ⟨gt, o2, none⟩)
 | 19 => .pointer (some ⟨gt, o2, none⟩)
 | 20 => .pointer (some ⟨gt, o2, none⟩)
 | 2 => .pointer (some ⟨gt, o2 + 9, none⟩)
 | 7 => .pointer (some ⟨gt, o2 + 9, none⟩)
 | 12 => .pointer (some ⟨gt, o2 + 9, none⟩)
 | 21 => .pointer (some ⟨gt, o2 + 9, none⟩)
 | 3 => v
 | 8 => v
 | 13 => v
 | 22 => v
 | 4 => .int .i64 a
 | 9 => .int .i64 a
 | 14 => .int .i64 a
 | 23 => .int .i64 a
 | 15 => .pointer (some ⟨g, o, none⟩)
 | 24 => .pointer (some ⟨g, o, none⟩)
 | 28 => .pointer (some ⟨g, o, none⟩)
 | 31 => .pointer (some ⟨g, o, none⟩)
 | 16 => .pointer (some ⟨g, o, none⟩)
 | 29 => .pointer (some ⟨g, o, none⟩)
 | 25 => .pointer (some ⟨g, o + 1, none⟩)
 | 32 => .pointer (some ⟨g, o + 1, none⟩)
 | 17 => src 0
 | 26 => src 1
 | _ => undef
def coV (g o : Nat) (src : Nat → Value) : Nat → Value
 | 0 => .pointer (some ⟨g, o, none⟩)
 | 1 => .pointer (some ⟨g, o, none⟩)
 | 2 => .pointer (some ⟨g, o, none⟩)
 | 3 => .pointer (some ⟨g, o, none⟩)
 | 4 => .pointer (some ⟨g, o, none⟩)
 | 5 => .pointer (some ⟨g, o, none⟩)
 | 9 => .pointer (some ⟨g, o, none⟩)
 | 10 => .pointer (some ⟨g, o, none⟩)
 | 14 => .pointer (some ⟨g, o, none⟩)
 | 15 => .pointer (some ⟨g, o, none⟩)
 | 19 => .pointer (some ⟨g, o, none⟩)
 | 20 => .pointer (some ⟨g, o, none⟩)
 | 24 => .pointer (some ⟨g, o, none⟩)
 | 27 => .pointer (some ⟨g, o, none⟩)
 | 30 => .pointer (some ⟨g, o, none⟩)
 | 33 => .pointer (some ⟨g, o, none⟩)
 | 6 => .pointer (some ⟨g, o + 7, none⟩)
 | 25 => .pointer (some ⟨g, o + 7, none⟩)
 | 11 => .pointer (some ⟨g, o + 8, none⟩)
 | 28 => .pointer (some ⟨g, o + 8, none⟩)
 | 16 => .pointer (some ⟨g, o + 9, none⟩)
 | 31 => .pointer (some ⟨g, o + 9, none⟩)
 | 21 => .pointer (some ⟨g, o + 10, none⟩)
 | 34 => .pointer (some ⟨g, o + 10, none⟩)
 | 7 => src 0
 | 12 => src 1
 | 17 => src 2
 | 22 => src 3
 | _ => undef
theorem fit_ty {f : FaceD} (h : faceFit f = true) {x : Ty} (hx : x ∈ f.types) : tyFit x = true := by
 unfold faceFit at h
 simp only [Bool.and_eq_true] at h
 exact List.all_eq_true.1 h.1.2 x hx
theorem fit_ty_len {x : Ty} (h : tyFit x = true) : x.names.length ≤ 65535 ∧ x.fields.length ≤ 65535 ∧ x.arms.length ≤ 65535 ∧ x.params.length ≤ 65535 ∧ ∀ a ∈ x.arms, a.frm.length ≤ 65535 ∧ a.to.length ≤ 65535 := by
 unfold tyFit fwB at h
 simp only [Bool.and_eq_true, decide_eq_true_eq] at h
 refine ⟨h.1.1.1.1.1.1.2, h.1.1.1.1.1.2, h.1.1.1.1.2, h.1.1.1.2, fun a ha => ?_⟩
 have := List.all_eq_true.1 h.2 a ha
 unfold armFit fwB at this
 simpa using this
theorem clone_any (f : FaceD) (vu vt vi : Value) (P : Nat → Prop) (w : World) (h : FaceL w P vu vt vi f) (hfit : faceFit f = true) :
  Calls Tryz.prog 26 #[.agg #[.string f.module, vu, vt, vi]] w (CloneR w f) := by
 obtain ⟨⟨A1, k1, rfl, hn1, hn2⟩, ⟨A2, k2, rfl, hf1, hf2⟩, ⟨A3, k3, rfl, ha1, ha2⟩⟩ := h.forms
 have hnt := fit_types hfit
 have hnu := fit_uses hfit
 unfold maxLen at hn2 hf2 ha2
 replace h : FaceL w (fun b => b < w.heap.size) (.slice A1 f.uses.length k1) (.slice A2 f.types.length k2) (.slice A3 f.items.length k3) f := h.into (fun b _ hb => hb)
 obtain ⟨xt, hst, hone, hty⟩ := h.types
 have h1 : ∀ W, Wr [] w W → Calls Tryz.prog 45 #[.slice A1 f.uses.length k1] W (CloneO W 45 2 f.uses.length (f.uses.flatMap UseD.cellsF)) := fun W hW => cloneO_use W _ _ _ _ (Sl.wr0 h.uses hW) (one_usesF _) (by omega)
 have h2 : ∀ W, Wr [] w W → Calls Tryz.prog 46 #[.slice A2 f.types.length k2] W (CloneO W 52 12 f.types.length xt) := fun W hW => cloneO_typ W _ _ _ _ (Sl.wr0 hst hW) hone (by omega)
 have h3 : ∀ W, Wr [] w W → Calls Tryz.prog 47 #[.slice A3 f.items.length k3] W (CloneO W 59 5 f.items.length (f.items.flatMap ItmD.cells)) := fun W hW => cloneO_exp W _ _ _ _ (Sl.wr0 h.items hW) (one_items _) (by omega)
 obtain ⟨wb, hwb⟩ : ∃ wb, (w.alloc (.cells #[.string f.module, .slice A1 f.uses.length k1, .slice A2 f.types.length k2, .slice A3 f.items.length k3] 35)).alloc (.cells #[.string ⟨#[]⟩, .slice none 0 0, .slice none 0 0, .slice none 0 0] 35) = wb := ⟨_, rfl⟩
 obtain ⟨g, hg⟩ : ∃ g, w.heap.size = g := ⟨_, rfl⟩
 have acc : Wr [] w wb := by rw [← hwb]; exact ((Wr.refl _ _).alloc _).alloc _
 have bA : Blk wb g 35 #[.string f.module, .slice A1 f.uses.length k1, .slice A2 f.types.length k2, .slice A3 f.items.length k3] := by rw [← hwb, ← hg]; exact (Blk.new _ _ _).alloc _
 have bR : Blk wb (g + 1) 35 #[.string ⟨#[]⟩, .slice none 0 0, .slice none 0 0, .slice none 0 0] := by
  have hb := Blk.new (w.alloc (.cells #[.string f.module, .slice A1 f.uses.length k1, .slice A2 f.types.length k2, .slice A3 f.items.length k3] 35)) 35 #[.string ⟨#[]⟩, .slice none 0 0, .slice none 0 0, .slice none 0 0]
  rw [show (w.alloc (.cells #[.string f.module, .slice A1 f.uses.length k1, .slice A2 f.types.length k2, .slice A3 f.items.length k3] 35)).heap.size = g + 1 by simp [hg], hwb] at hb
  exact hb
 have Hwb := qh hwb
 have Hg := qh hg
 have HST := qh hst
 have HONE := qh hone
 have HTY := qh hty
 have HF := qh h
 have HFIT := qh hfit
 clear hwb hg hst hone hty h hfit
 have H1 := qh h1
 have H2 := qh h2
 have H3 := qh h3
 clear h1 h2 h3
 go_enter Tryz.func26, Tryz.ntmps26
 go_upto_region 1 with (fail)
 rw [Hwb.out, Hg.out]
 go_cut [6] from 6 to 18 (fun s6 wx => ∃ u0 u1 u2, Blk wx g 35 #[.string f.module, u0, u1, u2] ∧ CbpR wb.heap.size f xt 0 wx u0 ∧ CbpR wb.heap.size f xt 1 wx u1 ∧ CbpR wb.heap.size f xt 2 wx u2 ∧ (∀ a, u0.ownBlock = some a → u1.ownBlock ≠ some a ∧ u2.ownBlock ≠ some a) ∧ (∀ a, u1.ownBlock = some a → u2.ownBlock ≠ some a) ∧ Wr [g] wb wx)
 case first =>
  rename_i J K' hJ hK'
  refine wp_region_L (fun _ _ => True) (by kernel_rfl) (fun hcl => ?_)
  clear hcl
  change wpAnyL _ _ _ _ _ _ _ _ wb.drew
  have accd : Wr [g] wb wb.drew := (Wr.refl [g] wb).drew
  have accw : Wr [] w wb.drew := acc.drew
  have hds : wb.drew.heap.size = wb.heap.size := rfl
  replace bA := bA.drew
  have hgw : g < wb.drew.heap.size := bA.lt
  rw [← hds] at hJ
  clear hds
  have hwg : w.heap.size ≤ g := by have := Hg.out; omega
  generalize wb.drew = wd at *
  refine wpAnyL_grid0 [(0, 6), (1, 7), (2, 8), (3, 9), (4, 10), (5, 11), (6, 12), (7, 13), (8, 14), (9, 15), (11, 16), (13, 17)] (CbI (cbV g (src3 (.slice A1 f.uses.length k1) (.slice A2 f.types.length k2) (.slice A3 f.items.length k3))) (src3 (.slice A1 f.uses.length k1) (.slice A2 f.types.length k2) (.slice A3 f.items.length k3)) g f xt wd) (by kernel_rfl) (by kernel_rfl) ?steps (by kernel_rfl) (fun _ _ _ _ => trivial) ?fin ⟨fun j _ h => (by rw [lst_start] at h; cases h), fun c _ h => (by rw [lst_start] at h; cases h), fun c _ h => (by rw [lst_start] at h; cases h), ?box, fun c _ h => (by rw [lst_start] at h; cases h), fun c _ c' _ _ h => (by rw [lst_start] at h; cases h), Wr.refl _ _⟩
  case box =>
   have e : ∀ c, cbU (src3 (.slice A1 f.uses.length k1) (.slice A2 f.types.length k2) (.slice A3 f.items.length k3)) (fun _ => undef) (Array.replicate 15 false) c = src3 (.slice A1 f.uses.length k1) (.slice A2 f.types.length k2) (.slice A3 f.items.length k3) c := fun c => by
    unfold cbU
    rw [lst_start]
    rfl
   show Blk wd g 35 (cbX f.module (cbU _ (fun _ => undef) (Array.replicate 15 false)))
   unfold cbX
   rw [e, e, e]
   exact bA
  case steps =>
   intro n hn
   have : n = 0 ∨ n = 1 ∨ n = 2 ∨ n = 3 ∨ n = 4 ∨ n = 5 ∨ n = 6 ∨ n = 7 ∨ n = 8 ∨ n = 9 ∨ n = 10 ∨ n = 11 ∨ n = 12 ∨ n = 13 ∨ n = 14 := by
    have : n < 15 := hn
    omega
   rcases this with h | h | h | h | h | h | h | h | h | h | h | h | h | h | h <;> subst h <;> intro oi hoi' <;> simp only [qgaq, qgsq, qgzq, Option.some.injEq] at hoi' <;> subst hoi' <;> intro σ l w1 hsz hl hd hI K hK <;>
    simp only [puts, List.foldl_cons, List.foldl_nil, Act.put, qsaq, qszq, qssq] at hK ⊢
   ·go_simp
    exact hK _ _ (hI.quiet 0 hsz (by decide) (by decide) (Wr.refl _ _))
   ·have e0 := hI.v 0 (by decide) (hd 0 (by decide +kernel))
    simp only [cbV] at e0
    have n0 : lst l (cbS 0) = false := hI.unst 0 (by decide) hl
    have c0 := hI.box.cell 1
    simp only [cbX, qgaq, qgzq, qgsq] at c0
    rw [show cbU (src3 (.slice A1 f.uses.length k1) (.slice A2 f.types.length k2) (.slice A3 f.items.length k3)) σ l 0 = (src3 (.slice A1 f.uses.length k1) (.slice A2 f.types.length k2) (.slice A3 f.items.length k3)) 0 from if_neg (by rw [n0]; decide)] at c0
    simp only [src3] at c0
    simp only [e0] at hK ⊢
    go_simp
    exact hK _ _ (hI.quiet 1 hsz (by decide) (by decide) (Wr.refl _ _))
   ·have e0 := hI.v 1 (by decide) (hd 1 (by decide +kernel))
    simp only [cbV, src3] at e0
    simp only [e0] at hK ⊢
    go_simp
    refine (H1.out _ (accw.new hI.acc hwg)).mono ?_
    rintro e w2 ⟨u, rfl, r2, ho⟩
    exact hK _ _ (hI.called 0 (by decide) hl (hd 1 (by decide +kernel)) r2 ho)
   ·go_simp
    exact hK _ _ (hI.quiet 3 hsz (by decide) (by decide) (Wr.refl _ _))
   ·have e0 := hI.v 3 (by decide) (hd 3 (by decide +kernel))
    simp only [cbV] at e0
    have n0 : lst l (cbS 1) = false := hI.unst 1 (by decide) hl
    have c0 := hI.box.cell 2
    simp only [cbX, qgaq, qgzq, qgsq] at c0
    rw [show cbU (src3 (.slice A1 f.uses.length k1) (.slice A2 f.types.length k2) (.slice A3 f.items.length k3)) σ l 1 = (src3 (.slice A1 f.uses.length k1) (.slice A2 f.types.length k2) (.slice A3 f.items.length k3)) 1 from if_neg (by rw [n0]; decide)] at c0
    simp only [src3] at c0
    simp only [e0] at hK ⊢
    go_simp
    exact hK _ _ (hI.quiet 4 hsz (by decide) (by decide) (Wr.refl _ _))
   ·have e0 := hI.v 4 (by decide) (hd 4 (by decide +kernel))
    simp only [cbV, src3] at e0
    simp only [e0] at hK ⊢
    go_simp
    refine (H2.out _ (accw.new hI.acc hwg)).mono ?_
    rintro e w2 ⟨u, rfl, r2, ho⟩
    exact hK _ _ (hI.called 1 (by decide) hl (hd 4 (by decide +kernel)) r2 ho)
   ·go_simp
    exact hK _ _ (hI.quiet 6 hsz (by decide) (by decide) (Wr.refl _ _))
   ·have e0 := hI.v 6 (by decide) (hd 6 (by decide +kernel))
    simp only [cbV] at e0
    have n0 : lst l (cbS 2) = false := hI.unst 2 (by decide) hl
    have c0 := hI.box.cell 3
    simp only [cbX, qgaq, qgzq, qgsq] at c0
    rw [show cbU (src3 (.slice A1 f.uses.length k1) (.slice A2 f.types.length k2) (.slice A3 f.items.length k3)) σ l 2 = (src3 (.slice A1 f.uses.length k1) (.slice A2 f.types.length k2) (.slice A3 f.items.length k3)) 2 from if_neg (by rw [n0]; decide)] at c0
    simp only [src3] at c0
    simp only [e0] at hK ⊢
    go_simp
    exact hK _ _ (hI.quiet 7 hsz (by decide) (by decide) (Wr.refl _ _))
   ·have e0 := hI.v 7 (by decide) (hd 7 (by decide +kernel))
    simp only [cbV, src3] at e0
    simp only [e0] at hK ⊢
    go_simp
    refine (H3.out _ (accw.new hI.acc hwg)).mono ?_
    rintro e w2 ⟨u, rfl, r2, ho⟩
    exact hK _ _ (hI.called 2 (by decide) hl (hd 7 (by decide +kernel)) r2 ho)
   ·go_simp
    exact hK _ _ (hI.quiet 9 hsz (by decide) (by decide) (Wr.refl _ _))
   ·have e0 := hI.v 9 (by decide) (hd 9 (by decide +kernel))
    simp only [cbV] at e0
    obtain ⟨Au, cu, hv, _, _⟩ := own_form (hI.rw_ 0 (by decide) (hd 2 (by decide +kernel)))
    rw [show cbC 0 = 2 from rfl] at hv
    have c0 := hI.box.cell 1
    have f0 := hI.box.frozen 1
    simp only [cbX, qgaq, qgzq, qgsq] at c0
    have hs := hI.stored 0 (by decide) hsz (hd 2 (by decide +kernel)) hgw rfl
    rw [show cbC 0 = 2 from rfl, hv] at hs
    simp only [e0, hv] at hK ⊢
    go_simp
    exact hK undef _ hs
   ·go_simp
    exact hK _ _ (hI.quiet 11 hsz (by decide) (by decide) (Wr.refl _ _))
   ·have e0 := hI.v 11 (by decide) (hd 11 (by decide +kernel))
    simp only [cbV] at e0
    obtain ⟨Au, cu, hv, _, _⟩ := own_form (hI.rw_ 1 (by decide) (hd 5 (by decide +kernel)))
    rw [show cbC 1 = 5 from rfl] at hv
    have c0 := hI.box.cell 2
    have f0 := hI.box.frozen 2
    simp only [cbX, qgaq, qgzq, qgsq] at c0
    have hs := hI.stored 1 (by decide) hsz (hd 5 (by decide +kernel)) hgw rfl
    rw [show cbC 1 = 5 from rfl, hv] at hs
    simp only [e0, hv] at hK ⊢
    go_simp
    exact hK undef _ hs
   ·go_simp
    exact hK _ _ (hI.quiet 13 hsz (by decide) (by decide) (Wr.refl _ _))
   ·have e0 := hI.v 13 (by decide) (hd 13 (by decide +kernel))
    simp only [cbV] at e0
    obtain ⟨Au, cu, hv, _, _⟩ := own_form (hI.rw_ 2 (by decide) (hd 8 (by decide +kernel)))
    rw [show cbC 2 = 8 from rfl] at hv
    have c0 := hI.box.cell 3
    have f0 := hI.box.frozen 3
    simp only [cbX, qgaq, qgzq, qgsq] at c0
    have hs := hI.stored 2 (by decide) hsz (hd 8 (by decide +kernel)) hgw rfl
    rw [show cbC 2 = 8 from rfl, hv] at hs
    simp only [e0, hv] at hK ⊢
    go_simp
    exact hK undef _ hs
  case fin =>
   intro σ l w1 hall hI
   simp only [puts, List.foldl_cons, List.foldl_nil, Act.put, qsaq, qszq, qssq]
   refine hK' _ _ (Met.intro (hJ _ _ ?_))
   have hb := hI.box
   rw [cbX_congr (h := cbU (src3 (.slice A1 f.uses.length k1) (.slice A2 f.types.length k2) (.slice A3 f.items.length k3)) σ l) (h' := fun c => σ (cbC c)) (fun c hc => if_pos (hall (cbS c) ((by decide : ∀ c, c < 3 → cbS c < 15) c hc)))] at hb
   repeat apply Exists.intro
   exact ⟨⟨σ 2, σ 5, σ 8, hb, hI.rw_ 0 (by decide) (hall 2 (by decide)), hI.rw_ 1 (by decide) (hall 5 (by decide)), hI.rw_ 2 (by decide) (hall 8 (by decide)),
    fun a ha => ⟨hI.ne 0 (by decide) 1 (by decide) (by decide) (hall 2 (by decide)) (hall 5 (by decide)) a ha, hI.ne 0 (by decide) 2 (by decide) (by decide) (hall 2 (by decide)) (hall 8 (by decide)) a ha⟩,
    fun a ha => hI.ne 1 (by decide) 2 (by decide) (by decide) (hall 5 (by decide)) (hall 8 (by decide)) a ha, accd.trans hI.acc⟩, rfl⟩
 case rest =>
  obtain ⟨u0, u1, u2, bx, o0, o1, o2, ne0, ne1, rx⟩ := hcut
  obtain ⟨B0, b0, rfl, _, hb0⟩ := own_form (show wc.ownsRow _ 45 2 u0 _ _ from o0)
  obtain ⟨B2, b2, rfl, _, hb2⟩ := own_form (show wc.ownsRow _ 59 5 u2 _ _ from o2)
  have hgb : g < wb.heap.size := bA.lt
  have hgb1 : g + 1 < wb.heap.size := bR.lt
  have hwg : w.heap.size ≤ g := by have := Hg.out; omega
  have bR2 := bR.wr rx (by simp)
  have hww : Wr [] w wc := acc.new rx hwg
  have hbS : wb.heap.size ≤ wc.heap.size := rx.size
  obtain ⟨B1, b1, hu1, hl1, hb1⟩ := own_form (show wc.ownsRow _ 52 12 u1 _ _ from o1)
  unfold maxLen at hb0 hb2 hb1
  have BX := qh bx
  have BR := qh bR2
  have O0 := qh o0
  have O1 := qh o1
  have O2 := qh o2
  have NE0 := qh ne0
  have NE1 := qh ne1
  have HWW := qh hww
  clear o0 o1 o2 ne0 ne1 hww bR2 rx bR
  subst hu1
  have c0 := bx.cell 0
  have c1 := bx.cell 1
  have c2 := bx.cell 2
  have c3 := bx.cell 3
  simp only [qgaq, qgzq, qgsq] at c0 c1 c2 c3
  clear bx
  -- L1
  obtain ⟨S, hS⟩ : ∃ S, wc.heap.size = S := ⟨_, rfl⟩
  rw [hS] at hbS
  have HS := qh hS
  have hSw : w.heap.size ≤ S := by have := HWW.out.size; omega
  have hn1b : ∀ a, (.slice B1 f.types.length b1 : Value).ownBlock = some a → wb.heap.size ≤ a ∧ a < S := fun a ha => by rw [← hS]; exact (show wc.ownsRow _ 52 12 (.slice B1 f.types.length b1) _ _ from O1.out).lt a ha
  have HN1 := qh hn1b
  clear hS hn1b
  go_wp2_with fail
  go_loopw [21] (fun s21 wr => ∃ k : Nat, k ≤ f.types.length ∧ s21 = .int .i64 k ∧ ClAt wc wr f.types (.slice B1 f.types.length b1) wb.heap.size S xt k) (fun s21 _ => f.types.length - (intOf s21).toNat)
  case atStart => exact ⟨0, by omega, rfl, fun _ => (0, 0), xt, Wr.refl _ _, O1.out, TysTo.zero, fun _ _ => rfl, HONE.out⟩
  case round =>
   obtain ⟨k, hk, rfl, lab, xs, rk, ok, tok, restk, onek⟩ := hrel
   have hgl : g ∉ (.slice B1 f.types.length b1 : Value).ownBlock.toList := fun hm => by
    have := HN1.out g (by simpa using hm)
    omega
   have hgl1 : g + 1 ∉ (.slice B1 f.types.length b1 : Value).ownBlock.toList := fun hm => by
    have := HN1.out (g + 1) (by simpa using hm)
    omega
   have RK := qh rk
   have OK := qh ok
   have TOK := qh tok
   have RESTK := qh restk
   have ONEK := qh onek
   have BXK := qh (BX.out.wr rk hgl)
   have BRK := qh (BR.out.wr rk hgl1)
   clear rk ok tok restk onek c0 c1 c2 c3 hgl hgl1
   have c0 := BXK.out.cell 0
   have c1 := BXK.out.cell 1
   have c2 := BXK.out.cell 2
   have c3 := BXK.out.cell 3
   simp only [qgaq, qgzq, qgsq] at c0 c1 c2 c3
   by_cases hlt : k < f.types.length
   ·obtain ⟨x, hx⟩ : ∃ x, f.types[k]? = some x := ⟨_, qgeq hlt⟩
    obtain ⟨vn, vf, va, vp, hcells, hl⟩ := HTY.out k x hx
    obtain ⟨⟨N1, n1, rfl, _, hN1⟩, ⟨N2, n2, rfl, _, hN2⟩, ⟨N3, n3, rfl, hN3a, hN3⟩, ⟨N4, n4, rfl, _, hN4⟩⟩ := hl.forms
    have hfl := fit_ty_len (fit_ty HFIT.out (List.mem_of_getElem? hx))
    obtain ⟨xa, hsa, honea, harm⟩ := hl.arms
    have K0 : ∀ W, Wr [] w W → Calls Tryz.prog 48 #[.slice N1 x.names.length n1] W (CloneP W 1 x.names.length (x.names.map Value.string)) := fun W hW => clone_str W _ _ _ _ (Sl.wr0 hl.names hW) (one_strs _) (by omega)
    have K1 : ∀ W, Wr [] w W → Calls Tryz.prog 49 #[.slice N2 x.fields.length n2] W (CloneO W 73 3 x.fields.length (x.fields.flatMap Fld.cells)) := fun W hW => cloneO_fld W _ _ _ _ (Sl.wr0 hl.fields hW) (one_flds _) (by omega)
    have K2 : ∀ W, Wr [] w W → Calls Tryz.prog 50 #[.slice N3 x.arms.length n3] W (CloneO W 76 3 x.arms.length xa) := fun W hW => cloneO_arm W _ _ _ _ (Sl.wr0 hsa hW) honea (by omega)
    have K3 : ∀ W, Wr [] w W → Calls Tryz.prog 51 #[.slice N4 x.params.length n4] W (CloneO W 84 2 x.params.length (x.params.flatMap Par.cells)) := fun W hW => cloneO_par W _ _ _ _ (Sl.wr0 hl.params hW) (one_pars _) (by omega)
    replace K0 := qh K0
    replace K1 := qh K1
    replace K2 := qh K2
    replace K3 := qh K3
    obtain ⟨gt, rfl⟩ : ∃ gt, B1 = some ⟨gt, 0, none⟩ := by
     rcases OK.out.2 with ⟨_, h⟩ | ⟨gt, cap, _, h, _⟩
     ·omega
     ·injection h with h1 _ _
      exact ⟨gt, h1⟩
    have hgt := HN1.out gt rfl
    have hwgt : w.heap.size ≤ gt := by have := acc.size; omega
    have hxl : k * 12 + 10 < xs.length := by have := OK.out.1; omega
    have hxt : ∀ j u, (x.cells (.slice N1 x.names.length n1) (.slice N2 x.fields.length n2) (.slice N3 x.arms.length n3) (.slice N4 x.params.length n4))[j]? = some u → xs[k * 12 + j]? = some u := fun j u hu => by rw [RESTK.out _ (by omega)]; exact hcells j u hu
    have hSr : S ≤ wr.heap.size := by rw [← HS.out]; exact RK.out.size
    have accr : Wr [] w wr := HWW.out.trans' RK.out (fun y hy => .inr (by have := (HN1.out y (by simpa using hy)).1; have := acc.size; have := HWW.out.size; omega))
    have HXT := qh hxt
    have HFL := qh hfl
    have HX := qh hx
    have HARM := qh harm
    have HONEA := qh honea
    have h0 : (0 : Int) ≤ (k : Int) := by omega
    have h1 : (k : Int) < (f.types.length : Int) := by omega
    clear hcells hxt hfl hx harm honea hsa hl
    -- L3
    go_upto_region 6 with (fail)
    go_cut [28] from 28 to 60 (fun s28 wy => ∃ lab' v0 v1 v2 v3, (∀ b, b < wr.heap.size → lab' b = lab b) ∧ (∀ c, c < 4 → CopR S x xa k lab' c wy (src4 v0 v1 v2 v3 c)) ∧ wy.ownsRow wb.heap.size 52 12 (.slice (some ⟨gt, 0, none⟩) f.types.length b1) f.types.length (coX xs (k * 12) (src4 v0 v1 v2 v3)) ∧ Wr [gt] wr wy)
    case first =>
     rename_i J K' hJ hK'
     refine wp_region_L (fun _ _ => True) (by kernel_rfl) (fun hcl => ?_)
     clear hcl
     change wpAnyL _ _ _ _ _ _ _ _ wr.drew
     have accd : Wr [gt] wr wr.drew := (Wr.refl [gt] wr).drew
     have accw : Wr [] w wr.drew := accr.drew
     have hrow : wr.drew.ownsRow wb.heap.size 52 12 (.slice (some ⟨gt, 0, none⟩) f.types.length b1) f.types.length xs := OK.out
     have hds : wr.drew.heap.size = wr.heap.size := rfl
     have hSd : S ≤ wr.drew.heap.size := hSr
     rw [← hds] at hJ
     clear hds
     have hgS : gt < S := hgt.2
     generalize wr.drew = wd at *
     refine wpAnyL_gridS [(0, 28), (1, 29), (2, 30), (3, 31), (4, 32), (5, 33), (6, 34), (7, 35), (8, 36), (9, 37), (10, 38), (11, 39), (12, 40), (13, 41), (14, 42), (15, 43), (16, 44), (17, 45), (18, 46), (19, 47), (20, 48), (21, 49), (22, 50), (23, 51), (24, 52), (25, 53), (27, 54), (28, 55), (30, 56), (31, 57), (33, 58), (34, 59)] (CoI (coV gt (k * 12) (src4 (.slice N1 x.names.length n1) (.slice N2 x.fields.length n2) (.slice N3 x.arms.length n3) (.slice N4 x.params.length n4))) (src4 (.slice N1 x.names.length n1) (.slice N2 x.fields.length n2) (.slice N3 x.arms.length n3) (.slice N4 x.params.length n4)) xs f.types.length b1 wb.heap.size gt (k * 12) S x xa k lab wd) (by kernel_rfl) (by kernel_rfl) ?steps (by kernel_rfl) (fun _ _ _ _ => trivial) ?fin (fun σ => ⟨fun j _ h => (by rw [lst_start] at h; cases h), fun c _ h => (by rw [lst_start] at h; cases h), fun c _ h => (by rw [lst_start] at h; cases h), ?row, ⟨lab, fun _ _ => rfl, fun c _ h => (by rw [lst_start] at h; cases h)⟩, Wr.refl _ _⟩)
     case row =>
      have e : ∀ n c, coU (src4 (.slice N1 x.names.length n1) (.slice N2 x.fields.length n2) (.slice N3 x.arms.length n3) (.slice N4 x.params.length n4)) σ (Array.replicate n false) c = (src4 (.slice N1 x.names.length n1) (.slice N2 x.fields.length n2) (.slice N3 x.arms.length n3) (.slice N4 x.params.length n4)) c := fun n c => by
       unfold coU
       rw [lst_start]
       rfl
      rw [coX_congr (f' := (src4 (.slice N1 x.names.length n1) (.slice N2 x.fields.length n2) (.slice N3 x.arms.length n3) (.slice N4 x.params.length n4))) (fun c _ => e _ c), coX_same hxl (fun c hc => by
       rw [Nat.add_assoc]
       refine HXT.out (7 + c) _ ?_
       match c, hc with
       | 0, _ => rfl
       | 1, _ => rfl
       | 2, _ => rfl
       | 3, _ => rfl)]
      exact hrow
     case steps =>
      intro n hn
      have : n = 0 ∨ n = 1 ∨ n = 2 ∨ n = 3 ∨ n = 4 ∨ n = 5 ∨ n = 6 ∨ n = 7 ∨ n = 8 ∨ n = 9 ∨ n = 10 ∨ n = 11 ∨ n = 12 ∨ n = 13 ∨ n = 14 ∨ n = 15 ∨ n = 16 ∨ n = 17 ∨ n = 18 ∨ n = 19 ∨ n = 20 ∨ n = 21 ∨ n = 22 ∨ n = 23 ∨ n = 24 ∨ n = 25 ∨ n = 26 ∨ n = 27 ∨ n = 28 ∨ n = 29 ∨ n = 30 ∨ n = 31 ∨ n = 32 ∨ n = 33 ∨ n = 34 ∨ n = 35 := by
       have : n < 36 := hn
       omega
      rcases this with h | h | h | h | h | h | h | h | h | h | h | h | h | h | h | h | h | h | h | h | h | h | h | h | h | h | h | h | h | h | h | h | h | h | h | h <;> subst h <;> intro oi hoi' <;> simp only [qgaq, qgsq, qgzq, Option.some.injEq] at hoi' <;> subst hoi' <;> intro σ l w1 hsz hl hd hI K hK <;>
       simp only [puts, List.foldl_cons, List.foldl_nil, Act.put, qsaq, qszq, qssq] at hK ⊢
      ·go_simp
       exact hK _ _ (hI.quiet 0 hsz (by decide) (by decide) hgS (Wr.refl _ _))
      ·go_simp
       exact hK _ _ (hI.quiet 1 hsz (by decide) (by decide) hgS (Wr.refl _ _))
      ·go_simp
       exact hK _ _ (hI.quiet 2 hsz (by decide) (by decide) hgS (Wr.refl _ _))
      ·go_simp
       exact hK _ _ (hI.quiet 3 hsz (by decide) (by decide) hgS (Wr.refl _ _))
      ·go_simp
       exact hK _ _ (hI.quiet 4 hsz (by decide) (by decide) hgS (Wr.refl _ _))
      ·have e0 := hI.v 4 (by decide) (hd 4 (by decide +kernel))
       simp only [coV] at e0
       simp only [e0] at hK ⊢
       go_simp
       exact hK _ _ (hI.quiet 5 hsz (by decide) (by decide) hgS (Wr.refl _ _))
      ·have e0 := hI.v 5 (by decide) (hd 5 (by decide +kernel))
       simp only [coV] at e0
       simp only [e0] at hK ⊢
       go_simp
       exact hK _ _ (hI.quiet 6 hsz (by decide) (by decide) hgS (Wr.refl _ _))
      ·have e0 := hI.v 6 (by decide) (hd 6 (by decide +kernel))
       simp only [coV] at e0
       have n0 : lst l (coS 0) = false := hI.unst 0 (by decide) hl
       have c0 := hI.row.cellAt (k * 12 + 7 + 0) (by omega)
       rw [coX_in hxl 0 (by decide), show coU (src4 (.slice N1 x.names.length n1) (.slice N2 x.fields.length n2) (.slice N3 x.arms.length n3) (.slice N4 x.params.length n4)) σ l 0 = (src4 (.slice N1 x.names.length n1) (.slice N2 x.fields.length n2) (.slice N3 x.arms.length n3) (.slice N4 x.params.length n4)) 0 from if_neg (by rw [n0]; decide)] at c0
       simp only [src4, Nat.add_assoc, Nat.reduceAdd, Nat.add_zero] at c0
       simp only [e0] at hK ⊢
       go_simp
       exact hK _ _ (hI.quiet 7 hsz (by decide) (by decide) hgS (Wr.refl _ _))
      ·have e0 := hI.v 7 (by decide) (hd 7 (by decide +kernel))
       simp only [coV, src4] at e0
       have hSw1 : S ≤ w1.heap.size := Nat.le_trans hSd hI.acc.size
       simp only [e0] at hK ⊢
       go_simp
       refine (K0.out _ (accw.new hI.acc hwgt)).mono ?_
       rintro e w2 ⟨u, rfl, r2, ho⟩
       exact hK _ _ (hI.called 0 (by decide) hsz hl (hd 7 (by decide +kernel)) hgS r2 (fun lab => sl_new ho hSw1))
      ·go_simp
       exact hK _ _ (hI.quiet 9 hsz (by decide) (by decide) hgS (Wr.refl _ _))
      ·have e0 := hI.v 9 (by decide) (hd 9 (by decide +kernel))
       simp only [coV] at e0
       simp only [e0] at hK ⊢
       go_simp
       exact hK _ _ (hI.quiet 10 hsz (by decide) (by decide) hgS (Wr.refl _ _))
      ·have e0 := hI.v 10 (by decide) (hd 10 (by decide +kernel))
       simp only [coV] at e0
       simp only [e0] at hK ⊢
       go_simp
       exact hK _ _ (hI.quiet 11 hsz (by decide) (by decide) hgS (Wr.refl _ _))
      ·have e0 := hI.v 11 (by decide) (hd 11 (by decide +kernel))
       simp only [coV] at e0
       have n0 : lst l (coS 1) = false := hI.unst 1 (by decide) hl
       have c0 := hI.row.cellAt (k * 12 + 7 + 1) (by omega)
       rw [coX_in hxl 1 (by decide), show coU (src4 (.slice N1 x.names.length n1) (.slice N2 x.fields.length n2) (.slice N3 x.arms.length n3) (.slice N4 x.params.length n4)) σ l 1 = (src4 (.slice N1 x.names.length n1) (.slice N2 x.fields.length n2) (.slice N3 x.arms.length n3) (.slice N4 x.params.length n4)) 1 from if_neg (by rw [n0]; decide)] at c0
       simp only [src4, Nat.add_assoc, Nat.reduceAdd, Nat.add_zero] at c0
       simp only [e0] at hK ⊢
       go_simp
       exact hK _ _ (hI.quiet 12 hsz (by decide) (by decide) hgS (Wr.refl _ _))
      ·have e0 := hI.v 12 (by decide) (hd 12 (by decide +kernel))
       simp only [coV, src4] at e0
       have hSw1 : S ≤ w1.heap.size := Nat.le_trans hSd hI.acc.size
       simp only [e0] at hK ⊢
       go_simp
       refine (K1.out _ (accw.new hI.acc hwgt)).mono ?_
       rintro e w2 ⟨u, rfl, r2, ho⟩
       exact hK _ _ (hI.called 1 (by decide) hsz hl (hd 12 (by decide +kernel)) hgS r2 (fun lab => own_new ho hSw1))
      ·go_simp
       exact hK _ _ (hI.quiet 14 hsz (by decide) (by decide) hgS (Wr.refl _ _))
      ·have e0 := hI.v 14 (by decide) (hd 14 (by decide +kernel))
       simp only [coV] at e0
       simp only [e0] at hK ⊢
       go_simp
       exact hK _ _ (hI.quiet 15 hsz (by decide) (by decide) hgS (Wr.refl _ _))
      ·have e0 := hI.v 15 (by decide) (hd 15 (by decide +kernel))
       simp only [coV] at e0
       simp only [e0] at hK ⊢
       go_simp
       exact hK _ _ (hI.quiet 16 hsz (by decide) (by decide) hgS (Wr.refl _ _))
      ·have e0 := hI.v 16 (by decide) (hd 16 (by decide +kernel))
       simp only [coV] at e0
       have n0 : lst l (coS 2) = false := hI.unst 2 (by decide) hl
       have c0 := hI.row.cellAt (k * 12 + 7 + 2) (by omega)
       rw [coX_in hxl 2 (by decide), show coU (src4 (.slice N1 x.names.length n1) (.slice N2 x.fields.length n2) (.slice N3 x.arms.length n3) (.slice N4 x.params.length n4)) σ l 2 = (src4 (.slice N1 x.names.length n1) (.slice N2 x.fields.length n2) (.slice N3 x.arms.length n3) (.slice N4 x.params.length n4)) 2 from if_neg (by rw [n0]; decide)] at c0
       simp only [src4, Nat.add_assoc, Nat.reduceAdd, Nat.add_zero] at c0
       simp only [e0] at hK ⊢
       go_simp
       exact hK _ _ (hI.quiet 17 hsz (by decide) (by decide) hgS (Wr.refl _ _))
      ·have e0 := hI.v 17 (by decide) (hd 17 (by decide +kernel))
       simp only [coV, src4] at e0
       have hSw1 : S ≤ w1.heap.size := Nat.le_trans hSd hI.acc.size
       simp only [e0] at hK ⊢
       go_simp
       refine (K2.out _ (accw.new hI.acc hwgt)).mono ?_
       rintro e w2 ⟨u, rfl, r2, ho⟩
       exact hK _ _ (hI.called 2 (by decide) hsz hl (hd 17 (by decide +kernel)) hgS r2 (fun lab => own_new ho hSw1))
      ·go_simp
       exact hK _ _ (hI.quiet 19 hsz (by decide) (by decide) hgS (Wr.refl _ _))
      ·have e0 := hI.v 19 (by decide) (hd 19 (by decide +kernel))
       simp only [coV] at e0
       simp only [e0] at hK ⊢
       go_simp
       exact hK _ _ (hI.quiet 20 hsz (by decide) (by decide) hgS (Wr.refl _ _))
      ·have e0 := hI.v 20 (by decide) (hd 20 (by decide +kernel))
       simp only [coV] at e0
       simp only [e0] at hK ⊢
       go_simp
       exact hK _ _ (hI.quiet 21 hsz (by decide) (by decide) hgS (Wr.refl _ _))
      ·have e0 := hI.v 21 (by decide) (hd 21 (by decide +kernel))
       simp only [coV] at e0
       have n0 : lst l (coS 3) = false := hI.unst 3 (by decide) hl
       have c0 := hI.row.cellAt (k * 12 + 7 + 3) (by omega)
       rw [coX_in hxl 3 (by decide), show coU (src4 (.slice N1 x.names.length n1) (.slice N2 x.fields.length n2) (.slice N3 x.arms.length n3) (.slice N4 x.params.length n4)) σ l 3 = (src4 (.slice N1 x.names.length n1) (.slice N2 x.fields.length n2) (.slice N3 x.arms.length n3) (.slice N4 x.params.length n4)) 3 from if_neg (by rw [n0]; decide)] at c0
       simp only [src4, Nat.add_assoc, Nat.reduceAdd, Nat.add_zero] at c0
       simp only [e0] at hK ⊢
       go_simp
       exact hK _ _ (hI.quiet 22 hsz (by decide) (by decide) hgS (Wr.refl _ _))
      ·have e0 := hI.v 22 (by decide) (hd 22 (by decide +kernel))
       simp only [coV, src4] at e0
       have hSw1 : S ≤ w1.heap.size := Nat.le_trans hSd hI.acc.size
       simp only [e0] at hK ⊢
       go_simp
       refine (K3.out _ (accw.new hI.acc hwgt)).mono ?_
       rintro e w2 ⟨u, rfl, r2, ho⟩
       exact hK _ _ (hI.called 3 (by decide) hsz hl (hd 22 (by decide +kernel)) hgS r2 (fun lab => own_new ho hSw1))
      ·have e0 := hI.v 0 (by decide) (hd 0 (by decide +kernel))
       simp only [coV] at e0
       simp only [e0] at hK ⊢
       go_simp
       exact hK _ _ (hI.quiet 24 hsz (by decide) (by decide) hgS (Wr.refl _ _))
      ·have e0 := hI.v 24 (by decide) (hd 24 (by decide +kernel))
       simp only [coV] at e0
       simp only [e0] at hK ⊢
       go_simp
       exact hK _ _ (hI.quiet 25 hsz (by decide) (by decide) hgS (Wr.refl _ _))
      ·have e0 := hI.v 25 (by decide) (hd 25 (by decide +kernel))
       simp only [coV] at e0
       obtain ⟨labv, _, hcr⟩ := hI.lb
       obtain ⟨Au, nu, cu, hv, _⟩ := (hcr 0 (by decide) (hd 8 (by decide +kernel))).form
       rw [show coC 0 = 8 from rfl] at hv
       have c0 := hI.row.cellAt (k * 12 + 7 + 0) (by omega)
       rw [coX_in hxl 0 (by decide)] at c0
       have f0 := hI.row.frozenAt (k * 12 + 7 + 0)
       have hs := hI.stored 0 (by decide) hsz (hd 8 (by decide +kernel)) hgS rfl
       rw [show coC 0 = 8 from rfl, hv] at hs
       simp only [Nat.add_assoc, Nat.reduceAdd, Nat.add_zero] at c0 f0 hs
       simp only [e0, hv] at hK ⊢
       go_simp
       exact hK undef _ hs
      ·have e0 := hI.v 1 (by decide) (hd 1 (by decide +kernel))
       simp only [coV] at e0
       simp only [e0] at hK ⊢
       go_simp
       exact hK _ _ (hI.quiet 27 hsz (by decide) (by decide) hgS (Wr.refl _ _))
      ·have e0 := hI.v 27 (by decide) (hd 27 (by decide +kernel))
       simp only [coV] at e0
       simp only [e0] at hK ⊢
       go_simp
       exact hK _ _ (hI.quiet 28 hsz (by decide) (by decide) hgS (Wr.refl _ _))
      ·have e0 := hI.v 28 (by decide) (hd 28 (by decide +kernel))
       simp only [coV] at e0
       obtain ⟨labv, _, hcr⟩ := hI.lb
       obtain ⟨Au, nu, cu, hv, _⟩ := (hcr 1 (by decide) (hd 13 (by decide +kernel))).form
       rw [show coC 1 = 13 from rfl] at hv
       have c0 := hI.row.cellAt (k * 12 + 7 + 1) (by omega)
       rw [coX_in hxl 1 (by decide)] at c0
       have f0 := hI.row.frozenAt (k * 12 + 7 + 1)
       have hs := hI.stored 1 (by decide) hsz (hd 13 (by decide +kernel)) hgS rfl
       rw [show coC 1 = 13 from rfl, hv] at hs
       simp only [Nat.add_assoc, Nat.reduceAdd, Nat.add_zero] at c0 f0 hs
       simp only [e0, hv] at hK ⊢
       go_simp
       exact hK undef _ hs
      ·have e0 := hI.v 2 (by decide) (hd 2 (by decide +kernel))
       simp only [coV] at e0
       simp only [e0] at hK ⊢
       go_simp
       exact hK _ _ (hI.quiet 30 hsz (by decide) (by decide) hgS (Wr.refl _ _))
      ·have e0 := hI.v 30 (by decide) (hd 30 (by decide +kernel))
       simp only [coV] at e0
       simp only [e0] at hK ⊢
       go_simp
       exact hK _ _ (hI.quiet 31 hsz (by decide) (by decide) hgS (Wr.refl _ _))
      ·have e0 := hI.v 31 (by decide) (hd 31 (by decide +kernel))
       simp only [coV] at e0
       obtain ⟨labv, _, hcr⟩ := hI.lb
       obtain ⟨Au, nu, cu, hv, _⟩ := (hcr 2 (by decide) (hd 18 (by decide +kernel))).form
       rw [show coC 2 = 18 from rfl] at hv
       have c0 := hI.row.cellAt (k * 12 + 7 + 2) (by omega)
       rw [coX_in hxl 2 (by decide)] at c0
       have f0 := hI.row.frozenAt (k * 12 + 7 + 2)
       have hs := hI.stored 2 (by decide) hsz (hd 18 (by decide +kernel)) hgS rfl
       rw [show coC 2 = 18 from rfl, hv] at hs
       simp only [Nat.add_assoc, Nat.reduceAdd, Nat.add_zero] at c0 f0 hs
       simp only [e0, hv] at hK ⊢
       go_simp
       exact hK undef _ hs
      ·have e0 := hI.v 3 (by decide) (hd 3 (by decide +kernel))
       simp only [coV] at e0
       simp only [e0] at hK ⊢
       go_simp
       exact hK _ _ (hI.quiet 33 hsz (by decide) (by decide) hgS (Wr.refl _ _))
      ·have e0 := hI.v 33 (by decide) (hd 33 (by decide +kernel))
       simp only [coV] at e0
       simp only [e0] at hK ⊢
       go_simp
       exact hK _ _ (hI.quiet 34 hsz (by decide) (by decide) hgS (Wr.refl _ _))
      ·have e0 := hI.v 34 (by decide) (hd 34 (by decide +kernel))
       simp only [coV] at e0
       obtain ⟨labv, _, hcr⟩ := hI.lb
       obtain ⟨Au, nu, cu, hv, _⟩ := (hcr 3 (by decide) (hd 23 (by decide +kernel))).form
       rw [show coC 3 = 23 from rfl] at hv
       have c0 := hI.row.cellAt (k * 12 + 7 + 3) (by omega)
       rw [coX_in hxl 3 (by decide)] at c0
       have f0 := hI.row.frozenAt (k * 12 + 7 + 3)
       have hs := hI.stored 3 (by decide) hsz (hd 23 (by decide +kernel)) hgS rfl
       rw [show coC 3 = 23 from rfl, hv] at hs
       simp only [Nat.add_assoc, Nat.reduceAdd, Nat.add_zero] at c0 f0 hs
       simp only [e0, hv] at hK ⊢
       go_simp
       exact hK undef _ hs
     case fin =>
      intro σ l w1 hall hI
      simp only [puts, List.foldl_cons, List.foldl_nil, Act.put, qsaq, qszq, qssq]
      refine hK' _ _ (Met.intro (hJ _ _ ?_))
      have hr := hI.row
      rw [coX_congr (f := coU (src4 (.slice N1 x.names.length n1) (.slice N2 x.fields.length n2) (.slice N3 x.arms.length n3) (.slice N4 x.params.length n4)) σ l) (f' := src4 (σ 8) (σ 13) (σ 18) (σ 23)) (fun c hc => by
       rw [show coU (src4 (.slice N1 x.names.length n1) (.slice N2 x.fields.length n2) (.slice N3 x.arms.length n3) (.slice N4 x.params.length n4)) σ l c = σ (coC c) from if_pos (hall (coS c) ((by decide : ∀ c, c < 4 → coS c < 36) c hc))]
       match c, hc with
       | 0, _ => rfl
       | 1, _ => rfl
       | 2, _ => rfl
       | 3, _ => rfl)] at hr
      obtain ⟨lab', hl1, hl2⟩ := hI.lb
      repeat apply Exists.intro
      exact ⟨⟨lab', σ 8, σ 13, σ 18, σ 23, hl1, fun c hc => by
       have := hl2 c hc (hall (coC c) ((by decide : ∀ c, c < 4 → coC c < 36) c hc))
       match c, hc, this with
       | 0, _, h => exact h
       | 1, _, h => exact h
       | 2, _, h => exact h
       | 3, _, h => exact h, hr, accd.trans hI.acc⟩, rfl⟩
    case rest =>
     obtain ⟨lab', v0, v1, v2, v3, hlab, hcr, hrow, ry⟩ := hcut
     obtain ⟨wK, hwK⟩ : ∃ x, x = wc := ⟨_, rfl⟩
     subst hwK
     have q0 : SlStrs wK (Lb S lab' k 0) v0 x.names := hcr 0 (by decide)
     have q1 : OwnL wK S lab' k 1 73 3 v1 x.fields.length (x.fields.flatMap Fld.cells) := hcr 1 (by decide)
     have q2 : OwnL wK S lab' k 2 76 3 v2 x.arms.length xa := hcr 2 (by decide)
     have q3 : OwnL wK S lab' k 3 84 2 v3 x.params.length (x.params.flatMap Par.cells) := hcr 3 (by decide)
     obtain ⟨BA, bA, hv2, hlA, hbA⟩ := own_form q2.1
     subst hv2
     unfold maxLen at hbA
     have hSc : S ≤ wK.heap.size := Nat.le_trans hSr ry.size
     have rkc := RK.out.trans' ry (fun y hy => .inl (by rw [qmsq] at hy; subst hy; simp [Value.ownBlock]))
     have tkc := ((TOK.out.relab (lab' := lab') hlab).keep ry (fun y hy hs => by rw [qmsq] at hy; subst hy; have := hgt.2; omega)).row (xs' := coX xs (k * 12) (src4 v0 v1 (.slice BA x.arms.length bA) v3)) (fun j hj => coX_out j (.inl (by omega)))
     have acck : Wr [] w wK := accr.new ry hwgt
     have onec : ∀ u ∈ coX xs (k * 12) (src4 v0 v1 (.slice BA x.arms.length bA) v3), u.oneCell' = true := coX_one ONEK.out (fun c hc => by
      obtain ⟨_, _, _, e, _⟩ := (hcr c hc).form
      rw [e]
      rfl)
     have restc : ∀ j, (k + 1) * 12 ≤ j → (coX xs (k * 12) (src4 v0 v1 (.slice BA x.arms.length bA) v3))[j]? = xt[j]? := fun j hj => by rw [coX_out j (.inr (by omega)), RESTK.out j (by omega)]
     have celc : ∀ j u, (x.cells v0 v1 (.slice BA x.arms.length bA) v3)[j]? = some u → (coX xs (k * 12) (src4 v0 v1 (.slice BA x.arms.length bA) v3))[k * 12 + j]? = some u := fun j u hu => cells_co hxl HXT.out hu
     have cq9 := hrow.cellAt (k * 12 + 9) (by omega)
     rw [show k * 12 + 9 = k * 12 + 7 + 2 from rfl, coX_in hxl 2 (by decide)] at cq9
     simp only [src4, Nat.add_assoc, Nat.reduceAdd] at cq9
     have Q0 := qh q0
     have Q1h := qh q1
     have Q2h := qh q2
     have Q3 := qh q3
     have RKC := qh rkc
     have TKC := qh tkc
     have ACK := qh acck
     have ONEC := qh onec
     have RESTC := qh restc
     have CELC := qh celc
     have HROW := qh hrow
     have hgtc : gt < wK.heap.size := by have := hgt.2; omega
     clear q0 q1 q2 q3 rkc tkc acck onec restc celc hrow ry hcr hlab c0 c1 c2 c3
     -- A0
     go_wp2_with fail
     go_loopw [65] (fun s65 wq => ∃ a : Nat, a ≤ x.arms.length ∧ s65 = .int .i64 a ∧ ArAt wK wq S lab' k x.arms (.slice BA x.arms.length bA) xa a) (fun s65 _ => x.arms.length - (intOf s65).toNat)
     case atStart => exact ⟨0, by omega, rfl, lab', xa, fun _ _ => rfl, Wr.refl _ _, Q2h.out, ArmsTo.zero, fun _ _ => rfl, HONEA.out⟩
     case round =>
      obtain ⟨a, ha, rfl, lab2, ya, hl2, rq, oq, aq, restq, oneq⟩ := hrel
      have hSr2 : S ≤ wr.heap.size := Nat.le_trans hSc rq.size
      have hbS : ∀ g, (Value.slice BA x.arms.length bA).ownBlock = some g → S ≤ g ∧ lab2 g = (k, 2) := fun g hg => ⟨(oq.1.lt g hg).1, oq.2 g hg⟩
      have hgtn : gt ∉ (Value.slice BA x.arms.length bA).ownBlock.toList := fun hm => by
       have := (hbS gt (by simpa using hm)).1
       have := hgt.2
       omega
      have cr9 := rq.cellOf cq9 hgtn
      have accq : Wr [] w wr := ACK.out.trans' rq (fun y hy => .inr (by have := (hbS y (by simpa using hy)).1; omega))
      have HL2 := qh hl2
      have RQ := qh rq
      have OQ := qh oq
      have AQ := qh aq
      have RESTQ := qh restq
      have ONEQ := qh oneq
      have HBS := qh hbS
      have HQ9 := qh cr9
      clear hl2 rq oq aq restq oneq hbS cq9 cr9
      by_cases hla : a < x.arms.length
      ·obtain ⟨y, hy⟩ : ∃ y, x.arms[a]? = some y := ⟨_, qgeq hla⟩
       obtain ⟨s1v, s2v, f1, f2, f3, sa, sb⟩ := HARM.out a y hy
       obtain ⟨Q1, m1, rfl, _, hm1⟩ := Sl.form sa
       obtain ⟨Q2, m2, rfl, _, hm2⟩ := Sl.form sb
       have hyf := HFL.out.2.2.2.2 y (List.mem_of_getElem? hy)
       have KA0 : ∀ W, Wr [] w W → Calls Tryz.prog 52 #[.slice Q1 y.frm.length m1] W (CloneO W 2 1 y.frm.length (y.frm.map (Value.int .i64))) := fun W hW => cloneO_i64 W _ _ _ _ (Sl.wr0 sa hW) (one_ints _) (by omega)
       have KA1 : ∀ W, Wr [] w W → Calls Tryz.prog 52 #[.slice Q2 y.to.length m2] W (CloneO W 2 1 y.to.length (y.to.map (Value.int .i64))) := fun W hW => cloneO_i64 W _ _ _ _ (Sl.wr0 sb hW) (one_ints _) (by omega)
       replace KA0 := qh KA0
       replace KA1 := qh KA1
       obtain ⟨ga, rfl⟩ : ∃ ga, BA = some ⟨ga, 0, none⟩ := by
        rcases OQ.out.1.2 with ⟨_, h⟩ | ⟨ga, cap, _, h, _⟩
        ·omega
        ·injection h with h1 _ _
         exact ⟨ga, h1⟩
       have hga := HBS.out ga rfl
       have hgg : gt ≠ ga := by have := hgt.2; have := hga.1; omega
       have hwga : w.heap.size ≤ ga := by have := hga.1; omega
       have hyl : a * 3 + 1 < ya.length := by have := OQ.out.1.1; omega
       have HF1 := qh (show ya[a * 3]? = some (.slice Q1 y.frm.length m1) by rw [RESTQ.out _ (by omega)]; exact f1)
       have HF2 := qh (show ya[a * 3 + 1]? = some (.slice Q2 y.to.length m2) by rw [RESTQ.out _ (by omega)]; exact f2)
       have HF3 := qh (show ya[a * 3 + 2]? = some (.bool y.els) by rw [RESTQ.out _ (by omega)]; exact f3)
       have HY := qh hy
       have h0a : (0 : Int) ≤ (a : Int) := by omega
       have h1a : (a : Int) < (x.arms.length : Int) := by omega
       have hgaL := qh hga.2
       clear f1 f2 f3 sa sb hy
       -- A1
       go_upto_region 10 with (fail)
       refine wp_region_L (fun _ _ => True) (by kernel_rfl) (fun hcl => ?_)
       clear hcl
       change wpAnyL _ _ _ _ _ _ _ _ wr.drew
       have accd : Wr [ga] wr wr.drew := (Wr.refl [ga] wr).drew
       have accw : Wr [] w wr.drew := accq.drew
       have hrow : wr.drew.ownsRow S 76 3 (.slice (some ⟨ga, 0, none⟩) x.arms.length bA) x.arms.length ya := OQ.out.1
       have hds : wr.drew.heap.size = wr.heap.size := rfl
       have hSd : S ≤ wr.drew.heap.size := hSr2
       have hgw : ga < wr.drew.heap.size := (OQ.out.1.lt ga rfl).2
       replace HQ9 := qh (show wr.drew.cell? ⟨gt, k * 12 + 9, none⟩ = _ from HQ9.out)
       have rqd : Wr ((Value.slice (some ⟨ga, 0, none⟩) x.arms.length bA).ownBlock.toList) _ wr.drew := RQ.out.drew
       have aqd : ArmsTo wr.drew S lab2 k ya x.arms a := AQ.out.keep (ls := []) ((Wr.refl [] wr).drew) (by simp)
       have hl2d : ∀ b, b < _ → lab2 b = lab' b := HL2.out
       replace RQ := qh rqd
       replace AQ := qh aqd
       replace HL2 := qh hl2d
       clear hds rqd aqd hl2d OQ
       generalize wr.drew = wd at *
       have hgL : ∀ lab : Nat → Nat × Nat, (∀ b, b < wd.heap.size → lab b = lab2 b) → lab ga ≠ (k, 4) := fun lab hlb => by
        rw [hlb ga hgw, hgaL.out]
        simp
       refine wpAnyL_gridS [(0, 68), (1, 69), (2, 70), (3, 71), (4, 72), (5, 73), (6, 74), (7, 75), (8, 76), (9, 77), (10, 78), (11, 79), (12, 80), (13, 81), (14, 82), (15, 83), (16, 84), (17, 85), (18, 86), (19, 87), (20, 88), (21, 89), (22, 90), (23, 91), (24, 92), (25, 93), (26, 94), (27, 95), (28, 96), (29, 97), (31, 98), (32, 99)] (CaI (caV gt (k * 12) ga (a * 3) a (.slice (some ⟨ga, 0, none⟩) x.arms.length bA) (src2 (.slice Q1 y.frm.length m1) (.slice Q2 y.to.length m2))) (src2 (.slice Q1 y.frm.length m1) (.slice Q2 y.to.length m2)) ya x.arms.length bA S ga (a * 3) S y k lab2 wd) (by kernel_rfl) (by kernel_rfl) ?steps (by kernel_rfl) (fun _ _ _ _ => trivial) ?fin (fun σ => ⟨fun j _ h => (by rw [lst_start] at h; cases h), fun c _ h => (by rw [lst_start] at h; cases h), fun c _ h => (by rw [lst_start] at h; cases h), ?row, ⟨lab2, fun _ _ => rfl, fun c _ h => (by rw [lst_start] at h; cases h)⟩, Wr.refl _ _⟩)
       case row =>
        have e : ∀ n c, caU (src2 (.slice Q1 y.frm.length m1) (.slice Q2 y.to.length m2)) σ (Array.replicate n false) c = (src2 (.slice Q1 y.frm.length m1) (.slice Q2 y.to.length m2)) c := fun n c => by
         unfold caU
         rw [lst_start]
         rfl
        rw [caX_congr (f' := (src2 (.slice Q1 y.frm.length m1) (.slice Q2 y.to.length m2))) (fun c _ => e _ c), caX_same hyl (fun c hc => by
         match c, hc with
         | 0, _ => exact HF1.out
         | 1, _ => exact HF2.out)]
        exact hrow
       case steps =>
        intro n hn
        have : n = 0 ∨ n = 1 ∨ n = 2 ∨ n = 3 ∨ n = 4 ∨ n = 5 ∨ n = 6 ∨ n = 7 ∨ n = 8 ∨ n = 9 ∨ n = 10 ∨ n = 11 ∨ n = 12 ∨ n = 13 ∨ n = 14 ∨ n = 15 ∨ n = 16 ∨ n = 17 ∨ n = 18 ∨ n = 19 ∨ n = 20 ∨ n = 21 ∨ n = 22 ∨ n = 23 ∨ n = 24 ∨ n = 25 ∨ n = 26 ∨ n = 27 ∨ n = 28 ∨ n = 29 ∨ n = 30 ∨ n = 31 ∨ n = 32 ∨ n = 33 := by
         have : n < 34 := hn
         omega
        rcases this with h | h | h | h | h | h | h | h | h | h | h | h | h | h | h | h | h | h | h | h | h | h | h | h | h | h | h | h | h | h | h | h | h | h <;> subst h <;> intro oi hoi' <;> simp only [qgaq, qgsq, qgzq, Option.some.injEq] at hoi' <;> subst hoi' <;> intro σ l w1 hsz hl hd hI K hK <;>
         simp only [puts, List.foldl_cons, List.foldl_nil, Act.put, qsaq, qszq, qssq] at hK ⊢
        ·go_simp
         exact hK _ _ (hI.quiet 0 hsz (by decide) (by decide) hgL (Wr.refl _ _))
        ·have e0 := hI.v 0 (by decide) (hd 0 (by decide +kernel))
         simp only [caV] at e0
         simp only [e0] at hK ⊢
         go_simp
         exact hK _ _ (hI.quiet 1 hsz (by decide) (by decide) hgL (Wr.refl _ _))
        ·have e0 := hI.v 1 (by decide) (hd 1 (by decide +kernel))
         simp only [caV] at e0
         simp only [e0] at hK ⊢
         go_simp
         exact hK _ _ (hI.quiet 2 hsz (by decide) (by decide) hgL (Wr.refl _ _))
        ·have e0 := hI.v 2 (by decide) (hd 2 (by decide +kernel))
         simp only [caV] at e0
         have c9 := hI.acc.cellOf HQ9.out (by simpa using hgg)
         simp only [e0] at hK ⊢
         go_simp
         exact hK _ _ (hI.quiet 3 hsz (by decide) (by decide) hgL (Wr.refl _ _))
        ·go_simp
         exact hK _ _ (hI.quiet 4 hsz (by decide) (by decide) hgL (Wr.refl _ _))
        ·go_simp
         exact hK _ _ (hI.quiet 5 hsz (by decide) (by decide) hgL (Wr.refl _ _))
        ·have e0 := hI.v 5 (by decide) (hd 5 (by decide +kernel))
         simp only [caV] at e0
         simp only [e0] at hK ⊢
         go_simp
         exact hK _ _ (hI.quiet 6 hsz (by decide) (by decide) hgL (Wr.refl _ _))
        ·have e0 := hI.v 6 (by decide) (hd 6 (by decide +kernel))
         simp only [caV] at e0
         simp only [e0] at hK ⊢
         go_simp
         exact hK _ _ (hI.quiet 7 hsz (by decide) (by decide) hgL (Wr.refl _ _))
        ·have e0 := hI.v 7 (by decide) (hd 7 (by decide +kernel))
         simp only [caV] at e0
         have c9 := hI.acc.cellOf HQ9.out (by simpa using hgg)
         simp only [e0] at hK ⊢
         go_simp
         exact hK _ _ (hI.quiet 8 hsz (by decide) (by decide) hgL (Wr.refl _ _))
        ·go_simp
         exact hK _ _ (hI.quiet 9 hsz (by decide) (by decide) hgL (Wr.refl _ _))
        ·go_simp
         exact hK _ _ (hI.quiet 10 hsz (by decide) (by decide) hgL (Wr.refl _ _))
        ·have e0 := hI.v 10 (by decide) (hd 10 (by decide +kernel))
         simp only [caV] at e0
         simp only [e0] at hK ⊢
         go_simp
         exact hK _ _ (hI.quiet 11 hsz (by decide) (by decide) hgL (Wr.refl _ _))
        ·have e0 := hI.v 11 (by decide) (hd 11 (by decide +kernel))
         simp only [caV] at e0
         simp only [e0] at hK ⊢
         go_simp
         exact hK _ _ (hI.quiet 12 hsz (by decide) (by decide) hgL (Wr.refl _ _))
        ·have e0 := hI.v 12 (by decide) (hd 12 (by decide +kernel))
         simp only [caV] at e0
         have c9 := hI.acc.cellOf HQ9.out (by simpa using hgg)
         simp only [e0] at hK ⊢
         go_simp
         exact hK _ _ (hI.quiet 13 hsz (by decide) (by decide) hgL (Wr.refl _ _))
        ·go_simp
         exact hK _ _ (hI.quiet 14 hsz (by decide) (by decide) hgL (Wr.refl _ _))
        ·have e0 := hI.v 13 (by decide) (hd 13 (by decide +kernel))
         simp only [caV] at e0
         have e1 := hI.v 14 (by decide) (hd 14 (by decide +kernel))
         simp only [caV] at e1
         simp only [e0, e1] at hK ⊢
         go_simp
         exact hK _ _ (hI.quiet 15 hsz (by decide) (by decide) hgL (Wr.refl _ _))
        ·have e0 := hI.v 15 (by decide) (hd 15 (by decide +kernel))
         simp only [caV] at e0
         simp only [e0] at hK ⊢
         go_simp
         exact hK _ _ (hI.quiet 16 hsz (by decide) (by decide) hgL (Wr.refl _ _))
        ·have e0 := hI.v 16 (by decide) (hd 16 (by decide +kernel))
         simp only [caV] at e0
         have n0 : lst l (caS 0) = false := hI.unst 0 (by decide) hl
         have c0 := hI.row.cellAt (a * 3 + 0) (by omega)
         rw [caX_in hyl 0 (by decide), show caU (src2 (.slice Q1 y.frm.length m1) (.slice Q2 y.to.length m2)) σ l 0 = (src2 (.slice Q1 y.frm.length m1) (.slice Q2 y.to.length m2)) 0 from if_neg (by rw [n0]; decide)] at c0
         simp only [src2, Nat.add_zero] at c0
         simp only [e0] at hK ⊢
         go_simp
         exact hK _ _ (hI.quiet 17 hsz (by decide) (by decide) hgL (Wr.refl _ _))
        ·have e0 := hI.v 17 (by decide) (hd 17 (by decide +kernel))
         simp only [caV, src2] at e0
         have hSw1 : S ≤ w1.heap.size := Nat.le_trans hSd hI.acc.size
         simp only [e0] at hK ⊢
         go_simp
         refine (KA0.out _ (accw.new hI.acc hwga)).mono ?_
         rintro e w2 ⟨u, rfl, r2, ho⟩
         exact hK _ _ (hI.called 0 (by decide) hsz hl (hd 17 (by decide +kernel)) hgL r2 (fun lab => own_new ho hSw1))
        ·go_simp
         exact hK _ _ (hI.quiet 19 hsz (by decide) (by decide) hgL (Wr.refl _ _))
        ·have e0 := hI.v 19 (by decide) (hd 19 (by decide +kernel))
         simp only [caV] at e0
         simp only [e0] at hK ⊢
         go_simp
         exact hK _ _ (hI.quiet 20 hsz (by decide) (by decide) hgL (Wr.refl _ _))
        ·have e0 := hI.v 20 (by decide) (hd 20 (by decide +kernel))
         simp only [caV] at e0
         simp only [e0] at hK ⊢
         go_simp
         exact hK _ _ (hI.quiet 21 hsz (by decide) (by decide) hgL (Wr.refl _ _))
        ·have e0 := hI.v 21 (by decide) (hd 21 (by decide +kernel))
         simp only [caV] at e0
         have c9 := hI.acc.cellOf HQ9.out (by simpa using hgg)
         simp only [e0] at hK ⊢
         go_simp
         exact hK _ _ (hI.quiet 22 hsz (by decide) (by decide) hgL (Wr.refl _ _))
        ·go_simp
         exact hK _ _ (hI.quiet 23 hsz (by decide) (by decide) hgL (Wr.refl _ _))
        ·have e0 := hI.v 22 (by decide) (hd 22 (by decide +kernel))
         simp only [caV] at e0
         have e1 := hI.v 23 (by decide) (hd 23 (by decide +kernel))
         simp only [caV] at e1
         simp only [e0, e1] at hK ⊢
         go_simp
         exact hK _ _ (hI.quiet 24 hsz (by decide) (by decide) hgL (Wr.refl _ _))
        ·have e0 := hI.v 24 (by decide) (hd 24 (by decide +kernel))
         simp only [caV] at e0
         simp only [e0] at hK ⊢
         go_simp
         exact hK _ _ (hI.quiet 25 hsz (by decide) (by decide) hgL (Wr.refl _ _))
        ·have e0 := hI.v 25 (by decide) (hd 25 (by decide +kernel))
         simp only [caV] at e0
         have n0 : lst l (caS 1) = false := hI.unst 1 (by decide) hl
         have c0 := hI.row.cellAt (a * 3 + 1) (by omega)
         rw [caX_in hyl 1 (by decide), show caU (src2 (.slice Q1 y.frm.length m1) (.slice Q2 y.to.length m2)) σ l 1 = (src2 (.slice Q1 y.frm.length m1) (.slice Q2 y.to.length m2)) 1 from if_neg (by rw [n0]; decide)] at c0
         simp only [src2, Nat.add_zero] at c0
         simp only [e0] at hK ⊢
         go_simp
         exact hK _ _ (hI.quiet 26 hsz (by decide) (by decide) hgL (Wr.refl _ _))
        ·have e0 := hI.v 26 (by decide) (hd 26 (by decide +kernel))
         simp only [caV, src2] at e0
         have hSw1 : S ≤ w1.heap.size := Nat.le_trans hSd hI.acc.size
         simp only [e0] at hK ⊢
         go_simp
         refine (KA1.out _ (accw.new hI.acc hwga)).mono ?_
         rintro e w2 ⟨u, rfl, r2, ho⟩
         exact hK _ _ (hI.called 1 (by decide) hsz hl (hd 26 (by decide +kernel)) hgL r2 (fun lab => own_new ho hSw1))
        ·have e0 := hI.v 3 (by decide) (hd 3 (by decide +kernel))
         simp only [caV] at e0
         have e1 := hI.v 4 (by decide) (hd 4 (by decide +kernel))
         simp only [caV] at e1
         simp only [e0, e1] at hK ⊢
         go_simp
         exact hK _ _ (hI.quiet 28 hsz (by decide) (by decide) hgL (Wr.refl _ _))
        ·have e0 := hI.v 28 (by decide) (hd 28 (by decide +kernel))
         simp only [caV] at e0
         simp only [e0] at hK ⊢
         go_simp
         exact hK _ _ (hI.quiet 29 hsz (by decide) (by decide) hgL (Wr.refl _ _))
        ·have e0 := hI.v 29 (by decide) (hd 29 (by decide +kernel))
         simp only [caV] at e0
         obtain ⟨labv, _, hcr⟩ := hI.lb
         obtain ⟨Au, nu, cu, hv, _⟩ := (hcr 0 (by decide) (hd 18 (by decide +kernel))).form
         rw [show caC 0 = 18 from rfl] at hv
         have c0 := hI.row.cellAt (a * 3 + 0) (by omega)
         rw [caX_in hyl 0 (by decide)] at c0
         have f0 := hI.row.frozenAt (a * 3 + 0)
         have hs := hI.stored 0 (by decide) hsz (hd 18 (by decide +kernel)) hgL rfl
         rw [show caC 0 = 18 from rfl, hv] at hs
         try simp only [Nat.add_assoc, Nat.reduceAdd, Nat.add_zero] at c0 f0 hs
         simp only [e0, hv] at hK ⊢
         go_simp
         exact hK undef _ hs
        ·have e0 := hI.v 8 (by decide) (hd 8 (by decide +kernel))
         simp only [caV] at e0
         have e1 := hI.v 9 (by decide) (hd 9 (by decide +kernel))
         simp only [caV] at e1
         simp only [e0, e1] at hK ⊢
         go_simp
         exact hK _ _ (hI.quiet 31 hsz (by decide) (by decide) hgL (Wr.refl _ _))
        ·have e0 := hI.v 31 (by decide) (hd 31 (by decide +kernel))
         simp only [caV] at e0
         simp only [e0] at hK ⊢
         go_simp
         exact hK _ _ (hI.quiet 32 hsz (by decide) (by decide) hgL (Wr.refl _ _))
        ·have e0 := hI.v 32 (by decide) (hd 32 (by decide +kernel))
         simp only [caV] at e0
         obtain ⟨labv, _, hcr⟩ := hI.lb
         obtain ⟨Au, nu, cu, hv, _⟩ := (hcr 1 (by decide) (hd 27 (by decide +kernel))).form
         rw [show caC 1 = 27 from rfl] at hv
         have c0 := hI.row.cellAt (a * 3 + 1) (by omega)
         rw [caX_in hyl 1 (by decide)] at c0
         have f0 := hI.row.frozenAt (a * 3 + 1)
         have hs := hI.stored 1 (by decide) hsz (hd 27 (by decide +kernel)) hgL rfl
         rw [show caC 1 = 27 from rfl, hv] at hs
         try simp only [Nat.add_assoc, Nat.reduceAdd, Nat.add_zero] at c0 f0 hs
         simp only [e0, hv] at hK ⊢
         go_simp
         exact hK undef _ hs
       case fin =>
        intro σ l w1 hall hI
        simp only [puts, List.foldl_cons, List.foldl_nil, Act.put, qsaq, qszq, qssq]
        have hr := hI.row
        rw [caX_congr (f := caU (src2 (.slice Q1 y.frm.length m1) (.slice Q2 y.to.length m2)) σ l) (f' := src2 (σ 18) (σ 27)) (fun c hc => by
         rw [show caU (src2 (.slice Q1 y.frm.length m1) (.slice Q2 y.to.length m2)) σ l c = σ (caC c) from if_pos (hall (caS c) ((by decide : ∀ c, c < 2 → caS c < 34) c hc))]
         match c, hc with
         | 0, _ => rfl
         | 1, _ => rfl)] at hr
        obtain ⟨lab3, hl3, hl4⟩ := hI.lb
        have hcp : ∀ c, c < 2 → CapR S y k lab3 c w1 (src2 (σ 18) (σ 27) c) := fun c hc => by
         have := hl4 c hc (hall (caC c) ((by decide : ∀ c, c < 2 → caC c < 34) c hc))
         match c, hc, this with
         | 0, _, h => exact h
         | 1, _, h => exact h
        have hrow3 := hr
        have rz := hI.acc
        obtain ⟨u0, hu0⟩ : ∃ u0, σ 18 = u0 := ⟨_, rfl⟩
        obtain ⟨u1, hu1⟩ : ∃ u1, σ 27 = u1 := ⟨_, rfl⟩
        rw [hu0, hu1] at hcp hrow3
        clear hu0 hu1 hr hl4 hI hall
        have z0 : OwnL w1 S lab3 k 4 2 1 u0 y.frm.length (y.frm.map (Value.int .i64)) := hcp 0 (by decide)
        have z1 : OwnL w1 S lab3 k 4 2 1 u1 y.to.length (y.to.map (Value.int .i64)) := hcp 1 (by decide)
        have hnx : ArAt wK w1 S lab' k x.arms (.slice (some ⟨ga, 0, none⟩) x.arms.length bA) xa (a + 1) := by
         refine ⟨lab3, caX ya (a * 3) (src2 u0 u1), fun b hb => by rw [hl3 b (Nat.lt_of_lt_of_le hb RQ.out.size)]; exact HL2.out b hb, RQ.out.trans' rz (fun y hy => .inl (by rw [qmsq] at hy; subst hy; simp [Value.ownBlock])), ⟨hrow3, fun g hg => ?_⟩, ?_, fun j hj => ?_, caX_one ONEQ.out (fun c hc => ?_)⟩
         ·obtain rfl : ga = g := by simpa [Value.ownBlock] using hg
          rw [hl3 _ hgw]
          exact hgaL.out
         ·refine (((AQ.out.relab (lab' := lab3) hl3).keep rz (fun y hy hs => ?_)).row (fun j hj => caX_out j (.inl (by omega)))).next HY.out ?_
          ·rw [qmsq] at hy
           subst hy
           rw [hl3 _ hgw, hgaL.out]
           simp
          ·exact ⟨u0, u1, by have := caX_in (g := src2 u0 u1) hyl 0 (by decide); simpa [src2] using this, by have := caX_in (g := src2 u0 u1) hyl 1 (by decide); simpa [src2] using this, by rw [caX_out _ (.inr (by omega))]; exact HF3.out, z0, z1⟩
         ·rw [caX_out j (.inr (by omega))]
          exact RESTQ.out j (by omega)
         ·obtain ⟨_, _, _, e, _⟩ := (hcp c hc).form
          rw [e]
          rfl
        have HNX := qh hnx
        clear hl3 hcp hrow3 rz z0 z1 hnx
        go_wp2_with fail
        go_roundw
        case rel => exact ⟨a + 1, by omega, by go_num, HNX.out⟩
        case measure => simp [intOf]; omega
      ·have hfa : a = x.arms.length := by omega
       have hfin : ClAt wc wr f.types (.slice (some ⟨gt, 0, none⟩) f.types.length b1) wb.heap.size S xt (k + 1) := by
        have r1 : Wr ((Value.slice BA x.arms.length bA).ownBlock.toList) _ wr := RQ.out
        have hnk : ∀ b ∈ (Value.slice BA x.arms.length bA).ownBlock.toList, S ≤ b → (lab2 b) = (k, 2) := fun b hb _ => (HBS.out b (by simpa using hb)).2
        refine ⟨lab2, coX xs (k * 12) (src4 v0 v1 (.slice BA x.arms.length bA) v3), RKC.out.trans' r1 (fun y hy => .inr ?_), own_keep HROW.out r1 (fun g hg hm => ?_), ?_, RESTC.out, ONEC.out⟩
        ·have := (HBS.out y (by simpa using hy)).1
         rw [HS.out]
         exact this
        ·obtain rfl : gt = g := by simpa [Value.ownBlock] using hg
         exact hgtn hm
        ·refine ((TKC.out.relab (lab' := lab2) HL2.out).keep r1 (fun b hb hs => by rw [hnk b hb hs]; exact Nat.le_refl _)).next HX.out CELC.out ⟨?_, ?_, ?_, ?_⟩
         ·exact Sl.keep (Sl.into Q0.out (fun b hb hlt => ⟨hb.1, by rw [HL2.out b hlt]; exact hb.2⟩)) r1 (fun b hb hm => by have := hnk b hm hb.1; rw [hb.2] at this; simp at this)
         ·exact (Q1h.out.relab (lab' := lab2) HL2.out).keep r1 (fun b hb hs => by rw [hnk b hb hs]; simp)
         ·have h1 := AQ.out
          rw [hfa] at h1
          exact h1.all OQ.out ONEQ.out
         ·exact (Q3.out.relab (lab' := lab2) HL2.out).keep r1 (fun b hb hs => by rw [hnk b hb hs]; simp)
       have HFIN := qh hfin
       clear hfin hfa hgtn
       go_wp2_with fail
       go_roundw
       case rel => exact ⟨k + 1, by omega, by go_num, HFIN.out⟩
       case measure => simp [intOf]; omega
   ·obtain rfl : k = f.types.length := by omega
    have s0 := BRK.out.cell 0
    have s1 := BRK.out.cell 1
    have s2 := BRK.out.cell 2
    have s3 := BRK.out.cell 3
    simp only [qgaq, qgzq, qgsq] at s0 s1 s2 s3
    have z0 := BRK.out.frozen 0
    have z1 := BRK.out.frozen 1
    have z2 := BRK.out.frozen 2
    have z3 := BRK.out.frozen 3
    -- L2
    go_wp2_with fail
    have r4 := wr4 wr (g + 1) (.string f.module) (.slice B0 f.uses.length b0) (.slice B1 f.types.length b1) (.slice B2 f.items.length b2)
    have hw1 : Wr [] w wr := HWW.out.trans' RK.out (fun x hx => .inr (by have := (HN1.out x (by simpa using hx)).1; have := HWW.out.size; omega))
    have hne0 : ∀ a, (Value.slice B0 f.uses.length b0).ownBlock = some a → wb.heap.size ≤ a ∧ a < S := fun a ha => by have h := (O0.out).lt a ha; rw [HS.out] at h; exact h
    have hne2 : ∀ a, (Value.slice B2 f.items.length b2).ownBlock = some a → wb.heap.size ≤ a ∧ a < S := fun a ha => by have h := (O2.out).lt a ha; rw [HS.out] at h; exact h
    have hbw : w.heap.size ≤ wb.heap.size := acc.size
    refine bodyPost_ret (v := f.val (.slice B0 f.uses.length b0) (.slice B1 f.types.length b1) (.slice B2 f.items.length b2)) ?_ rfl ⟨_, _, _, S, lab, xs, rfl, hw1.new r4 (by omega), hSw, ?_, ?_, ?_, ?_, ?_, ?_, ?_, ?_, ONEK.out⟩
    ·have cc := blk4 wr (g + 1) 35 _ _ _ _ (.string f.module) (.slice B0 f.uses.length b0) (.slice B1 f.types.length b1) (.slice B2 f.items.length b2) BRK.out
     have t0 := cc.cell 0
     have t1 := cc.cell 1
     have t2 := cc.cell 2
     have t3 := cc.cell 3
     simp only [qgaq, qgzq, qgsq] at t0 t1 t2 t3
     simp [results, Tryz.results26, go_sem, t0, t1, t2, t3, FaceD.val]
    ·exact Nat.le_trans (by rw [← HS.out]; exact RK.out.size) r4.size
    ·exact own_base (own_keep (own_keep O0.out RK.out (fun a ha hm => (NE0.out a ha).1 (by simpa using hm))) r4 (fun a ha hm => by have := (hne0 a ha).1; simp at hm; omega)) hbw
    ·exact own_base (own_keep OK.out r4 (fun a ha hm => by have := (HN1.out a ha).1; simp at hm; omega)) hbw
    ·exact own_base (own_keep (own_keep O2.out RK.out (fun a ha hm => NE1.out a (by simpa using hm) ha)) r4 (fun a ha hm => by have := (hne2 a ha).1; simp at hm; omega)) hbw
    ·exact fun a ha => ⟨(hne0 a ha).2, NE0.out a ha⟩
    ·exact fun a ha => ⟨(HN1.out a ha).2, NE1.out a ha⟩
    ·exact fun a ha => (hne2 a ha).2
    ·exact TOK.out.keep r4 (fun x hx hs => by simp at hx; omega)
end Go.Proofs.YtjanbpchedgoiaaGreat
