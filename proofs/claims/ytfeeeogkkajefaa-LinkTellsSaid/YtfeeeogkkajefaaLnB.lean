/- link's second closure (the order): walked. Conditions: the lists are not too long. -/
import Derived.Test.YtfeeeogkkajefaaLnA
import Derived.Deep.RegionHeld3
namespace Go.Proofs.Ytfeeeogkkajefaa
open Go.RowKit
set_option linter.unusedVariables false
set_option linter.unusedSimpArgs false
attribute [local go_sem ↓] Go.wp_at_zero Go.wp_at_succ

/-- What the second closure answers. -/
def C2P (w : World) (pn : Nat) (a : List ByteArray × ByteArray × Int) (e : Ending) (w' : World) : Prop :=
  Wr [pn] w w' ∧ e = .returned (.tuple #[.string a.2.1, .int .i64 a.2.2]) ∧ ∃ vo, Blk w' pn 25 #[vo] ∧ SlStr w' (fun b => w.heap.size ≤ b) vo a.1
set_option maxRecDepth 100000 in
set_option maxHeartbeats 8000000 in
theorem clos2_any (l : List ObjD) (v : Value) (main : ByteArray) (w0 w : World) (h : SlObjs w0 (fun _ => True) v l) (hlen : l.length ≤ 1000000000) (hus : ∀ o ∈ l, o.uses.length ≤ 1000000000) (pl pm pn : Nat) (vn0 : Value) (hw : Wr [] w0 w)
    (bl : Blk w pl 22 #[v]) (bm : Blk w pm 9 #[.string main]) (bn : Blk w pn 25 #[vn0]) (hne : pl ≠ pn ∧ pm ≠ pn) :
    Calls Try.prog 20 #[.pointer (some ⟨pl, 0, none⟩), .pointer (some ⟨pm, 0, none⟩), .pointer (some ⟨pn, 0, none⟩)] w (C2P w pn (orderP (l.map needOf) main)) := by
  obtain ⟨A, c, rfl, l1, l2⟩ := SlObjs.form h
  obtain ⟨a, ha⟩ : ∃ a, orderP (l.map needOf) main = a := ⟨_, rfl⟩
  rw [ha]
  have hnd : ∀ W, Wr [] w W → Calls Try.prog 11 #[.slice A l.length c] W fun e w' => ∃ vo, e = .returned vo ∧ Wr [] W w' ∧ SlNeeds w' (fun b => W.heap.size ≤ b) vo (l.map needOf) := fun W r => lneeds_any l _ _ W ((h.wr0 hw).wr0 r) hlen hus
  have hor : ∀ (W : World) (vo : Value) (P : Nat → Prop), SlNeeds W P vo (l.map needOf) → Calls Try.prog 21 #[vo, .string main] W (OrdP W a) := fun W vo P hs => by
    rw [← ha]
    exact order_any _ vo main P W hs (by rw [List.length_map]; exact hlen)
  have x0 := bl.cell 0
  have x1 := bm.cell 0
  have x2 := bn.cell 0
  simp only [List.getElem?_toArray, List.getElem?_cons_zero] at x0 x1 x2
  have f2 := bn.frozen 0
  have HND := Lib.hid hnd
  have HOR := Lib.hid hor
  have BN := Lib.hid bn
  have hlt := bn.lt
  obtain ⟨n1, n2⟩ := hne
  have n3 : pn ≠ pl := fun e => n1 e.symm
  have n4 : pn ≠ pm := fun e => n2 e.symm
  clear h hlen hus ha hnd hor bl bm bn hw l1 l2
  go_enter Try.func20, Try.ntmps20
  go_wp2_with fail
  go_region_held3 (fun w' => w'.cell? ⟨pl, 0, none⟩ = some (.slice A l.length c) ∧ w'.cell? ⟨pm, 0, none⟩ = some (.string main)) (go_keep)
    (first
      | (go_at_call 11; refine (HND.out _ (Wr.drew (Wr.refl [] w))).mono ?_; rintro e w1 ⟨vo, rfl, r1, s1⟩; obtain ⟨An, cn, hv, _, _⟩ := s1.form; rw [List.length_map] at hv; subst hv
         have y0 := r1.cellOf (p := ⟨pl, 0, none⟩) x0 (by simp); have y1 := r1.cellOf (p := ⟨pm, 0, none⟩) x1 (by simp); have S1 := Lib.hid s1; have R1 := Lib.hid r1; clear s1 r1)
      | (go_at_call 21; refine (HOR.out _ _ _ S1.out).mono ?_; rintro e w2 ⟨vr, rfl, r2, s2⟩; obtain ⟨Ar, cr, rfl, _, _⟩ := Sl.form s2
         have z0 := r2.cellOf y0 (by simp); have z1 := r2.cellOf y1 (by simp)
         have R2 := Lib.hid ((R1.out.trans r2)); have S2 := Lib.hid s2
         have B2 := Lib.hid (((BN.out.drew).wr0 R1.out).wr0 r2)
         have z2 := B2.out.cell 0
         simp only [List.getElem?_toArray, List.getElem?_cons_zero] at z2
         have f3 := B2.out.frozen 0
         clear s2 r2))
  all_goals
    go_wp2_with fail
    go_ret2
    have hst : Wr [pn] w2 (w2.setCell ⟨pn, 0, none⟩ (.slice Ar a.1.length cr)) := (Wr.refl [pn] w2).setOn (by simp) _
    have hz : w.heap.size ≤ w1.heap.size := R1.out.size
    have hr2 : Wr [] w w2 := (Wr.drew (Wr.refl [] w)).trans R2.out
    refine ⟨hr2.nil.trans hst, rfl, _, by simpa using B2.out.set_ 0 (.slice Ar a.1.length cr), ?_⟩
    exact Sl.mono (Sl.keep S2.out hst (fun b hb hx => by simp at hx; omega)) (fun b hb => by omega)
end Go.Proofs.Ytfeeeogkkajefaa
