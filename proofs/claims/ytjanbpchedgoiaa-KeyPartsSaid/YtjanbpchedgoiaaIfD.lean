/- iface's clone, of an interface without lists: walked. No conditions. -/
import Derived.Test.YtjanbpchedgoiaaIfC
import Derived.Test.YtjanbpchedgoiaaGrid
import Derived.Deep.DrawnRows
import Derived.Deep.Cut
import Derived.Deep.DeepCutAuto
namespace Go.Proofs.Ytjanbpchedgoiaa
open Go.RowKit
set_option linter.unusedVariables false
set_option linter.unusedSimpArgs false

set_option maxRecDepth 100000 in
theorem cloneU_nil (w : World) : Calls Try.prog 32 #[.slice none 0 0] w fun e w' => e = .returned (.slice none 0 0) ∧ w = w' := by
  have he := fun (w : World) => Lib.run_eql_slice_nil (P := Try.prog) w 31 61 none 0 0 0 0 Try.underlying31
  go_enter Try.func32, Try.ntmps32
  go_wp2_with fail
  go_ret
  exact ⟨rfl, rfl⟩
set_option maxRecDepth 100000 in
theorem cloneT_nil (w : World) : Calls Try.prog 33 #[.slice none 0 0] w fun e w' => e = .returned (.slice none 0 0) ∧ w = w' := by
  have he := fun (w : World) => Lib.run_eql_slice_nil (P := Try.prog) w 32 55 none 0 0 0 0 Try.underlying32
  go_enter Try.func33, Try.ntmps33
  go_wp2_with fail
  go_ret
  exact ⟨rfl, rfl⟩
set_option maxRecDepth 100000 in
theorem cloneE_nil (w : World) : Calls Try.prog 34 #[.slice none 0 0] w fun e w' => e = .returned (.slice none 0 0) ∧ w = w' := by
  have he := fun (w : World) => Lib.run_eql_slice_nil (P := Try.prog) w 37 57 none 0 0 0 0 Try.underlying37
  go_enter Try.func34, Try.ntmps34
  go_wp2_with fail
  go_ret
  exact ⟨rfl, rfl⟩

theorem wr4 (w : World) (g : Nat) (u0 u1 u2 u3 : Value) : Wr [g] w ((((w.setCell ⟨g, 0, none⟩ u0).setCell ⟨g, 1, none⟩ u1).setCell ⟨g, 2, none⟩ u2).setCell ⟨g, 3, none⟩ u3) :=
  ((((Wr.refl [g] w).setOn (by simp) u0).setOn (by simp) u1).setOn (by simp) u2).setOn (by simp) u3
theorem blk4 (w : World) (g : Nat) (T : TypeId) (x0 x1 x2 x3 u0 u1 u2 u3 : Value) (h : Blk w g T #[x0, x1, x2, x3]) : Blk ((((w.setCell ⟨g, 0, none⟩ u0).setCell ⟨g, 1, none⟩ u1).setCell ⟨g, 2, none⟩ u2).setCell ⟨g, 3, none⟩ u3) g T #[u0, u1, u2, u3] := by
  have := (((h.set_ 0 u0).set_ 1 u1).set_ 2 u2).set_ 3 u3
  simpa using this
def clV (g : Nat) : Nat → Value
  | 0 => .pointer (some ⟨g, 1, none⟩)
  | 3 => .pointer (some ⟨g, 2, none⟩)
  | 6 => .pointer (some ⟨g, 3, none⟩)
  | 9 => .pointer (some ⟨g, 1, none⟩)
  | 11 => .pointer (some ⟨g, 2, none⟩)
  | 13 => .pointer (some ⟨g, 3, none⟩)
  | 10 => undef
  | 12 => undef
  | 14 => undef
  | _ => .slice none 0 0
structure ClI (m : ByteArray) (wd : World) (g : Nat) (σ : Nat → Value) (l : Array Bool) (w' : World) : Prop where
  v : ∀ j, lst l j = true → σ j = clV g j
  b : Blk w' g 39 #[.string m, .slice none 0 0, .slice none 0 0, .slice none 0 0]
  acc : Wr [g] wd w'
theorem ClI.step {m : ByteArray} {wd : World} {g : Nat} {σ : Nat → Value} {l : Array Bool} {w1 w2 : World} (h : ClI m wd g σ l w1) (i : Nat) (hb : Blk w2 g 39 #[.string m, .slice none 0 0, .slice none 0 0, .slice none 0 0]) (r : Wr [g] w1 w2) : ClI m wd g (upd σ i (clV g i)) (l.setIfInBounds i true) w2 := by
  refine ⟨fun j hj => ?_, hb, h.acc.trans r⟩
  by_cases hji : j = i
  · subst hji
    exact upd_same _ _ _
  · rw [upd_ne σ _ hji]
    rw [lst_ne hji] at hj
    exact h.v j hj
theorem cl_set {w : World} {g : Nat} {m : ByteArray} (k : Nat) (hk : k = 1 ∨ k = 2 ∨ k = 3) (h : Blk w g 39 #[.string m, .slice none 0 0, .slice none 0 0, .slice none 0 0]) : Blk (w.setCell ⟨g, k, none⟩ (.slice none 0 0)) g 39 #[.string m, .slice none 0 0, .slice none 0 0, .slice none 0 0] := by
  have := h.set_ k (.slice none 0 0)
  rcases hk with rfl | rfl | rfl <;> simpa using this
set_option maxRecDepth 100000 in
set_option maxHeartbeats 4000000 in
theorem clone_bare (m : ByteArray) (w : World) : Calls Try.prog 20 #[.agg #[.string m, .slice none 0 0, .slice none 0 0, .slice none 0 0]] w fun e w' => e = .returned (.agg #[.string m, .slice none 0 0, .slice none 0 0, .slice none 0 0]) ∧ Wr [] w w' := by
  have h1 := fun w => cloneU_nil w
  have h2 := fun w => cloneT_nil w
  have h3 := fun w => cloneE_nil w
  obtain ⟨wb, hwb⟩ : ∃ wb, (w.alloc (.cells #[.string m, .slice none 0 0, .slice none 0 0, .slice none 0 0] 39)).alloc (.cells #[.string ⟨#[]⟩, .slice none 0 0, .slice none 0 0, .slice none 0 0] 39) = wb := ⟨_, rfl⟩
  obtain ⟨g, hg⟩ : ∃ g, w.heap.size = g := ⟨_, rfl⟩
  have acc : Wr [] w wb := by rw [← hwb]; exact ((Wr.refl _ _).alloc _).alloc _
  have bA : Blk wb g 39 #[.string m, .slice none 0 0, .slice none 0 0, .slice none 0 0] := by rw [← hwb, ← hg]; exact (Blk.new _ _ _).alloc _
  have bR : Blk wb (g + 1) 39 #[.string ⟨#[]⟩, .slice none 0 0, .slice none 0 0, .slice none 0 0] := by
    have hb := Blk.new (w.alloc (.cells #[.string m, .slice none 0 0, .slice none 0 0, .slice none 0 0] 39)) 39 #[.string ⟨#[]⟩, .slice none 0 0, .slice none 0 0, .slice none 0 0]
    rw [show (w.alloc (.cells #[.string m, .slice none 0 0, .slice none 0 0, .slice none 0 0] 39)).heap.size = g + 1 by simp [hg], hwb] at hb
    exact hb
  have Hwb := Lib.hid hwb
  have Hg := Lib.hid hg
  clear hwb hg
  go_enter Try.func20, Try.ntmps20
  go_upto_region 1 with (fail)
  rw [Hwb.out, Hg.out]
  go_cut [2] (fun s2 wx => s2 = .pointer (some ⟨g + 1, 0, none⟩) ∧ Blk wx g 39 #[.string m, .slice none 0 0, .slice none 0 0, .slice none 0 0] ∧ Wr [g] wb wx)
  case first =>
    rename_i J K' hJ hK'
    refine wp_region_L (fun _ _ => True) (by kernel_rfl) (fun hcl => ?_)
    clear hcl
    change wpAnyL _ _ _ _ _ _ _ _ wb.drew
    have accd : Wr [g] wb wb.drew := (Wr.refl [g] wb).drew
    replace bA := bA.drew
    generalize wb.drew = wd at *
    refine wpAnyL_grid0 [(0, 6), (1, 7), (2, 8), (3, 9), (4, 10), (5, 11), (6, 12), (7, 13), (8, 14), (9, 15), (11, 16), (13, 17)] (ClI m wd g) (by kernel_rfl) (by kernel_rfl) ?steps (by kernel_rfl) (fun _ _ _ _ => trivial) ?fin ⟨fun j h => (by rw [lst_start] at h; cases h), bA, Wr.refl _ _⟩
    case steps =>
      intro n hn
      have : n = 0 ∨ n = 1 ∨ n = 2 ∨ n = 3 ∨ n = 4 ∨ n = 5 ∨ n = 6 ∨ n = 7 ∨ n = 8 ∨ n = 9 ∨ n = 10 ∨ n = 11 ∨ n = 12 ∨ n = 13 ∨ n = 14 := by
        have : n < 15 := hn
        omega
      rcases this with h | h | h | h | h | h | h | h | h | h | h | h | h | h | h <;> subst h <;> intro oi hoi' <;> simp only [List.getElem?_toArray, List.getElem?_cons_succ, List.getElem?_cons_zero, Option.some.injEq] at hoi' <;> subst hoi' <;> intro σ l w1 hsz hl hd hI K hK <;>
        simp only [puts, List.foldl_cons, List.foldl_nil, Act.put, List.setIfInBounds_toArray, List.set_cons_zero, List.set_cons_succ] at hK ⊢
      · go_simp
        exact hK _ _ (hI.step 0 hI.b (Wr.refl _ _))
      · have e0 := hI.v 0 (hd 0 (by decide +kernel))
        simp only [clV] at e0
        have c0 := hI.b.cell 1
        simp only [List.getElem?_toArray, List.getElem?_cons_zero, List.getElem?_cons_succ] at c0
        simp only [e0] at hK ⊢
        go_simp
        exact hK _ _ (hI.step 1 hI.b (Wr.refl _ _))
      · have e0 := hI.v 1 (hd 1 (by decide +kernel))
        simp only [clV] at e0
        simp only [e0] at hK ⊢
        go_simp
        refine (h1 _).mono ?_
        rintro e w2 ⟨rfl, rfl⟩
        exact hK _ _ (hI.step 2 hI.b (Wr.refl _ _))
      · go_simp
        exact hK _ _ (hI.step 3 hI.b (Wr.refl _ _))
      · have e0 := hI.v 3 (hd 3 (by decide +kernel))
        simp only [clV] at e0
        have c0 := hI.b.cell 2
        simp only [List.getElem?_toArray, List.getElem?_cons_zero, List.getElem?_cons_succ] at c0
        simp only [e0] at hK ⊢
        go_simp
        exact hK _ _ (hI.step 4 hI.b (Wr.refl _ _))
      · have e0 := hI.v 4 (hd 4 (by decide +kernel))
        simp only [clV] at e0
        simp only [e0] at hK ⊢
        go_simp
        refine (h2 _).mono ?_
        rintro e w2 ⟨rfl, rfl⟩
        exact hK _ _ (hI.step 5 hI.b (Wr.refl _ _))
      · go_simp
        exact hK _ _ (hI.step 6 hI.b (Wr.refl _ _))
      · have e0 := hI.v 6 (hd 6 (by decide +kernel))
        simp only [clV] at e0
        have c0 := hI.b.cell 3
        simp only [List.getElem?_toArray, List.getElem?_cons_zero, List.getElem?_cons_succ] at c0
        simp only [e0] at hK ⊢
        go_simp
        exact hK _ _ (hI.step 7 hI.b (Wr.refl _ _))
      · have e0 := hI.v 7 (hd 7 (by decide +kernel))
        simp only [clV] at e0
        simp only [e0] at hK ⊢
        go_simp
        refine (h3 _).mono ?_
        rintro e w2 ⟨rfl, rfl⟩
        exact hK _ _ (hI.step 8 hI.b (Wr.refl _ _))
      · go_simp
        exact hK _ _ (hI.step 9 hI.b (Wr.refl _ _))
      · have e0 := hI.v 9 (hd 9 (by decide +kernel))
        have e1 := hI.v 2 (hd 2 (by decide +kernel))
        simp only [clV] at e0 e1
        have c0 := hI.b.cell 1
        have f0 := hI.b.frozen 1
        simp only [List.getElem?_toArray, List.getElem?_cons_zero, List.getElem?_cons_succ] at c0
        simp only [e0, e1] at hK ⊢
        go_simp
        exact hK undef _ (hI.step 10 (cl_set 1 (by decide) hI.b) ((Wr.refl [g] _).setOn (by simp) _))
      · go_simp
        exact hK _ _ (hI.step 11 hI.b (Wr.refl _ _))
      · have e0 := hI.v 11 (hd 11 (by decide +kernel))
        have e1 := hI.v 5 (hd 5 (by decide +kernel))
        simp only [clV] at e0 e1
        have c0 := hI.b.cell 2
        have f0 := hI.b.frozen 2
        simp only [List.getElem?_toArray, List.getElem?_cons_zero, List.getElem?_cons_succ] at c0
        simp only [e0, e1] at hK ⊢
        go_simp
        exact hK undef _ (hI.step 12 (cl_set 2 (by decide) hI.b) ((Wr.refl [g] _).setOn (by simp) _))
      · go_simp
        exact hK _ _ (hI.step 13 hI.b (Wr.refl _ _))
      · have e0 := hI.v 13 (hd 13 (by decide +kernel))
        have e1 := hI.v 8 (hd 8 (by decide +kernel))
        simp only [clV] at e0 e1
        have c0 := hI.b.cell 3
        have f0 := hI.b.frozen 3
        simp only [List.getElem?_toArray, List.getElem?_cons_zero, List.getElem?_cons_succ] at c0
        simp only [e0, e1] at hK ⊢
        go_simp
        exact hK undef _ (hI.step 14 (cl_set 3 (by decide) hI.b) ((Wr.refl [g] _).setOn (by simp) _))
    case fin =>
      intro σ l w1 hall hI
      simp only [puts, List.foldl_cons, List.foldl_nil, Act.put, List.setIfInBounds_toArray, List.set_cons_zero, List.set_cons_succ]
      refine hK' _ _ (Met.intro (hJ _ _ ?_))
      repeat apply Exists.intro
      exact ⟨⟨rfl, hI.b, accd.trans hI.acc⟩, rfl⟩
  case rest =>
    obtain ⟨rfl, bx, rx⟩ := hcut
    have bR2 := bR.wr rx (by simp)
    have t0 := bx.cell 0
    have t1 := bx.cell 1
    have t2 := bx.cell 2
    have t3 := bx.cell 3
    have s0 := bR2.cell 0
    have s1 := bR2.cell 1
    have s2 := bR2.cell 2
    have s3 := bR2.cell 3
    simp only [List.getElem?_toArray, List.getElem?_cons_zero, List.getElem?_cons_succ] at t0 t1 t2 t3 s0 s1 s2 s3
    have z0 := bR2.frozen 0
    have z1 := bR2.frozen 1
    have z2 := bR2.frozen 2
    have z3 := bR2.frozen 3
    go_wp2_with fail
    refine wp_loop_rounds 1 ?_
    rw [rounds_succ]
    go_wp2_with fail
    refine bodyPost_ret (v := .agg #[.string m, .slice none 0 0, .slice none 0 0, .slice none 0 0]) ?_ rfl ⟨rfl, ?_⟩
    · have cc := blk4 wc (g + 1) 39 _ _ _ _ (.string m) (.slice none 0 0) (.slice none 0 0) (.slice none 0 0) bR2
      have t0 := cc.cell 0
      have t1 := cc.cell 1
      have t2 := cc.cell 2
      have t3 := cc.cell 3
      simp only [List.getElem?_toArray, List.getElem?_cons_zero, List.getElem?_cons_succ] at t0 t1 t2 t3
      simp [results, Try.results20, go_sem, t0, t1, t2, t3]
    · have e := Hg.out
      exact (acc.new rx (by omega)).new (wr4 wc (g + 1) _ _ _ _) (by omega)
end Go.Proofs.Ytjanbpchedgoiaa
