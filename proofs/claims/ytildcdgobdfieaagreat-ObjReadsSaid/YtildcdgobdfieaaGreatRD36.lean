/- Canon's loops: how they begin, how a round goes on. No conditions. -/
import Derived.Test.YtildcdgobdfieaaGreatRD35
import Derived.Test.YtildcdgobdfieaaGreatRD16
set_option linter.unusedVariables false
set_option linter.unusedSimpArgs false
set_option maxRecDepth 100000
set_option maxHeartbeats 32000000
namespace Go.Proofs.YtildcdgobdfieaaGreat
open Go.RowKit
section
variable {c : CP} {j i z : Nat} {t : Ty} {cs : Array Value} {vt' : Value} {xs' : List Value} {w w' : World} {e : Ending} {n : Int}
theorem TyV.forms {S : Nat} {lab : Nat → Nat × Nat} {xs : List Value} (h : TyV w S lab xs i t) : (∃ A k, gV xs (i * 12 + 7) = .slice A t.names.length k) ∧ (∃ A k, gV xs (i * 12 + 8) = .slice A t.fields.length k ∧ t.fields.length ≤ k ∧ k ≤ maxLen) ∧ (∃ A k, gV xs (i * 12 + 9) = .slice A t.arms.length k) ∧ ∃ A k, gV xs (i * 12 + 10) = .slice A t.params.length k ∧ t.params.length ≤ k ∧ k ≤ maxLen := by
 obtain ⟨a, b, ⟨ys, d1, d2, d3⟩, d⟩ := h
 obtain ⟨A1, k1, e1, _, _⟩ := Sl.form a
 obtain ⟨A2, k2, e2, l2, m2⟩ := own_form b.1
 obtain ⟨A3, k3, e3, _, _⟩ := own_form d1.1
 obtain ⟨A4, k4, e4, l4, m4⟩ := own_form d.1
 exact ⟨⟨A1, k1, e1⟩, ⟨A2, k2, e2, l2, m2⟩, ⟨A3, k3, e3⟩, A4, k4, e4, l4, m4⟩
theorem L3.own (h : L3 c j i z t cs vt' xs' w) {o : Nat} {u : Value} (hu : cs[o]? = some u) : Own w ⟨z, o, none⟩ u := ⟨by rw [h.2.2.2.1.cell]; exact hu, h.2.2.2.1.frozen o⟩
theorem row_own {B T size n : Nat} {v u : Value} {xs : List Value} {o : Nat} (h : w.ownsRow B T size v n xs) (hn : 0 < n) (hu : xs[o]? = some u) : ∃ g cap, v = .slice (some ⟨g, 0, none⟩) n cap ∧ v.ownBlock = some g ∧ Own w ⟨g, o, none⟩ u := by
 have h0 := h
 rcases h.2 with ⟨_, h1⟩ | ⟨g, cap, cur, rfl, hb, hh, rest⟩
 ·omega
 ·refine ⟨g, cap, rfl, rfl, ?_, Blk.frozen (show Blk w g T cur from hh) o⟩
  have := h0.cells (g := g) rfl o u hu
  rw [Addr.add_lit, Nat.zero_add] at this
  exact this
theorem L3.same {t2 : Ty} (h : L3 c j i z t cs vt' xs' w) (h1 : t2.names = t.names) (h2 : t2.fields = t.fields) (h3 : t2.arms = t.arms) (h4 : t2.params = t.params) : L3 c j i z t2 cs vt' xs' w := by
 obtain ⟨a1, a2, a3, a4⟩ := h
 exact ⟨a1, a2, TyO.same a3 h1 h2 h3 h4, a4⟩
theorem L3.append {v'' : Value} {W1 W2 : World} {ys : List Value} (hc : c.ok) (hn : c.ord[j]? = some n) (hi0 : 10 ≤ n) (htt : c.f.types[(n - 10).toNat]? = some t) (h : L3 c j (n - 10).toNat z (anewT c.ord t) cs vt' xs' w) (r1 : Wr [] w W1) (hys : ys = cellsV c.xs (n - 10).toNat (anewT c.ord t)) (hy1 : ∀ u ∈ ys, u.oneCell' = true)
  (hown : W2.ownsRow c.NB 129 12 v'' (j + 1) (xs' ++ ys)) (hg : W1.grownBy W2 vt'.ownBlock) : L2 c (j + 1) (W2.setCell ⟨c.pi, 2, none⟩ v'') := by
 obtain ⟨h1, h2, h3, h4, h5, h6⟩ := h
 have r2 : Wr (ownL vt') W1 W2 := Wr.ofGrownOwn hg
 have r3 : Wr [c.pi] W2 (W2.setCell ⟨c.pi, 2, none⟩ v'') := (Wr.refl _ _).setOn (by simp) _
 have p1 := hc.p1
 have p2 := hc.p2
 have p3 := hc.p3
 have p4 := hc.p4
 have p5 := hc.p5
 have n1 := hc.n1
 have n2 := hc.n2
 have g1 := hc.g1
 have g2 := hc.g2
 have hvb : ∀ b, b ∈ ownL vt' → c.NB ≤ b := fun b hb => (h1.nr.lt b (mem_ownL.1 hb)).1
 have lo : ∀ b, b < c.NB → b ∉ ownL vt' := fun b hb hm => by have := hvb b hm; omega
 have hne : ∀ b, b ≠ c.pi → b ∉ [c.pi] := fun b hb hm => hb (List.mem_singleton.1 hm)
 have kO : ∀ {B T z n v ys}, w.ownsRow B T z v n ys → (∀ a, v.ownBlock = some a → a < c.NB ∧ a ≠ c.pi) → (W2.setCell ⟨c.pi, 2, none⟩ v'').ownsRow B T z v n ys := fun o ha => own_keep (own_keep (own_keep o r1 (fun _ _ => by simp)) r2 (fun a hm => lo a (ha a hm).1)) r3 (fun a hm => hne a (ha a hm).2)
 have h1' := h1.wr0 hc r1
 have bi2 := (h1'.bi.wr r2 (lo _ (by omega))).set_ 2 v''
 simp at bi2
 have hkk := (List.getElem?_eq_some_iff.1 hn).1
 refine ⟨v'', xs' ++ ys, ⟨(h1'.acc.trans' r2 (fun x hx => .inr (by have := hvb x hx; omega))).trans' r3 (fun x hx => .inr (by rw [qmsq] at hx; omega)), bi2, (h1'.br.wr r2 (lo _ (by omega))).wr r3 (hne _ (by omega)), (h1'.bn.wr r2 (lo _ n2)).wr r3 (hne _ (by omega)), (h1'.mn.wr r2 (lo _ g2)).wr r3 (hne _ (by omega)),
  kO h1.od (fun a ha => ⟨(hc.o1 a ha).2, by have := (hc.o1 a ha).1; omega⟩), kO h1.tr (fun a ha => ⟨by have := (hc.t1 a ha).1; omega, by have := (h1.tr.lt a ha).1; omega⟩), kO h1.ur (fun a ha => ⟨by have := (hc.u1 a ha).1; omega, by have := (h1.ur.lt a ha).1; omega⟩), kO h1.ir (fun a ha => ⟨by have := hc.i1 a ha; omega, by have := (h1.ir.lt a ha).1; omega⟩),
  own_keep hown r3 (fun a ha => hne a (by have := (hown.lt a ha).1; omega)), h1.nt.next h1.nr.1 hn htt hys, fun u hu => ?_, ?_⟩, ?_⟩
 ·rcases List.mem_append.1 hu with h | h
  ·exact h1.one u h
  ·exact hy1 u h
 ·exact Nat.le_trans h1'.nb (Nat.le_trans r2.size r3.size)
 ·have k2 := ((h2.keep r1 (fun x hx => by cases hx)).keep r2 (fun x hx hs => .inl (hc.lb x (by have := hvb x hx; omega)))).keep r3 (fun x hx hs => by rw [qmsq] at hx; omega)
  have k3 := ((h3.keep r1 (fun x hx => by cases hx)).keep r2 (fun x hx hs => by have := hc.lb x (by have := hvb x hx; omega); have := (List.getElem?_eq_some_iff.1 htt).1; omega)).keep r3 (fun x hx hs => by rw [qmsq] at hx; omega)
  exact TysB.all hc.nd k2 hn (by omega) htt k3
def L5z (c : CP) (its : List ItmD) (w : World) : Prop := ∃ vt' xs', Core c c.ord.length vt' xs' its w ∧ TysD w c.S c.lab c.xs c.f.types c.ord c.ord.length
def L5b (c : CP) (its : List ItmD) (z : Nat) (cs : Array Value) (w : World) : Prop := ∃ vt' xs', Core c c.ord.length vt' xs' its w ∧ TysD w c.S c.lab c.xs c.f.types c.ord c.ord.length ∧ Blk w z 182 cs ∧ c.NB ≤ z ∧ vt'.ownBlock ≠ some z
theorem L5z.cells {its : List ItmD} {x : ItmD} (h : L5z c its w) (hx : its[j]? = some x) : ∃ g cap, c.vi = .slice (some ⟨g, 0, none⟩) its.length cap ∧ c.vi.ownBlock = some g ∧ ∀ J u, x.cells[J]? = some u → Own w ⟨g, j * 5 + J, none⟩ u := by
 obtain ⟨vt', xs', h1, h2⟩ := h
 have hlt := (List.getElem?_eq_some_iff.1 hx).1
 obtain ⟨g, cap, e1, e2, _⟩ := row_own (o := j * 5 + 0) (u := .string x.name) h1.ir (by omega) (by rw [flatF_at itm_len its j 0 x hx (by decide)]; rfl)
 refine ⟨g, cap, e1, e2, fun J u hu => ?_⟩
 obtain ⟨g', cap', e3, e4, ho⟩ := row_own (o := j * 5 + J) (u := u) h1.ir (by omega) (by rw [flatF_at itm_len its j J x hx (List.getElem?_eq_some_iff.1 hu).1]; exact hu)
 rw [e2] at e4
 injection e4 with e4
 subst e4
 exact ho
theorem L5z.set {its : List ItmD} {x y : ItmD} {J gi : Nat} {u : Value} {wd : World} (hc : c.ok) (h : L5z c its w) (hx : its[j]? = some x) (hJ : J < 5) (hy : x.cells.set J u = y.cells) (hg : c.vi.ownBlock = some gi) (r : Wr [] w wd) (hh : wd.heap = w.heap) (e : w' = wd.setCell ⟨gi, j * 5 + J, none⟩ u) : L5z c (its.set j y) w' := by
 obtain ⟨vt', xs', h1, h2⟩ := h
 have r1 := wr_set r e
 have hgi := hc.i1 gi hg
 exact ⟨vt', xs', h1.setItem hc hx hJ hy hg r hh e, h2.keep r1 (fun x hx hs => by rw [qmsq] at hx; omega)⟩
theorem L5z.box {its : List ItmD} (hc : c.ok) (h : L5z c its w) (cs : Array Value) (T : TypeId) (hT : T = 182) : L5b c its w.heap.size cs (w.alloc (.cells cs T)) := by
 subst hT
 obtain ⟨vt', xs', h1, h2⟩ := h
 have r : Wr [] w (w.alloc (.cells cs 182)) := (Wr.refl [] w).alloc _
 exact ⟨vt', xs', h1.wr0 hc r, h2.keep r (fun x hx => by cases hx), Blk.new _ _ _, h1.nb, fun e => by have := (h1.nr.lt _ e).2; omega⟩
theorem L5b.blk {its : List ItmD} (h : L5b c its z cs w) : Blk w z 182 cs := by
 obtain ⟨vt', xs', h1, h2, h3, _⟩ := h
 exact h3
end
theorem noFace_l (w : World) (P : Nat → Prop) : FaceL w P (.slice none 0 0) (.slice none 0 0) (.slice none 0 0) noFace := ⟨Sl.nil _ _ _, SlTys.nil _ _, Sl.nil _ _ _⟩
theorem flat_str (l : List ByteArray) : l.flatMap (fun s => [Value.string s]) = l.map Value.string := by
 induction l with
 | nil => rfl
 | cons x l ih => rw [qfcq, ih]; rfl
theorem typ_r (b g : Nat) (r : Rd) (w : World) (hb : WlkR w b r) (hg : g ≠ b) (hx : Blk w g 129 #[.int .u8 0, .string ⟨#[]⟩, .string ⟨#[]⟩, .int .i64 0, .int .i64 0, .int .i64 0, .int .i64 0, .slice none 0 0, .slice none 0 0, .slice none 0 0, .slice none 0 0, .int .i64 0]) :
  Calls Tryz.prog 111 #[.pointer (some ⟨b, 0, none⟩), .pointer (some ⟨g, 0, none⟩)] w fun e w' => e = .returned (.tuple #[]) ∧ Wr [b, g] w w' ∧ WlkR w' b (Rd.ty r).2 ∧ ∃ ys, Blk w' g 129 ys.toArray ∧ TyRel w' (fun bl => w.heap.size ≤ bl) ys (Rd.ty r).1 := by
 have hmf : ∀ (fn : Fn) (first cap : Array Value) (w : World), (Instr.makeFunc fn first cap).run Tryz.prog w = .ok (.func fn first cap) w := fun _ _ _ _ => rfl
 have hbl := Blk.lt hb
 have hgl := hx.lt
 unfold Rd.ty
 obtain ⟨p0, hp0⟩ : ∃ p, Rd.one r = p := ⟨_, rfl⟩
 obtain ⟨v0, r0⟩ := p0
 obtain ⟨p1, hp1⟩ : ∃ p, Rd.text r0 = p := ⟨_, rfl⟩
 obtain ⟨v1, r1⟩ := p1
 obtain ⟨p2, hp2⟩ : ∃ p, Rd.text r1 = p := ⟨_, rfl⟩
 obtain ⟨v2, r2⟩ := p2
 obtain ⟨p3, hp3⟩ : ∃ p, Rd.four r2 = p := ⟨_, rfl⟩
 obtain ⟨v3, r3⟩ := p3
 obtain ⟨p4, hp4⟩ : ∃ p, Rd.four r3 = p := ⟨_, rfl⟩
 obtain ⟨v4, r4⟩ := p4
 obtain ⟨p5, hp5⟩ : ∃ p, Rd.four r4 = p := ⟨_, rfl⟩
 obtain ⟨v5, r5⟩ := p5
 obtain ⟨p6, hp6⟩ : ∃ p, Rd.four r5 = p := ⟨_, rfl⟩
 obtain ⟨v6, r6⟩ := p6
 obtain ⟨p7, hp7⟩ : ∃ p, r6.lst Rd.text = p := ⟨_, rfl⟩
 obtain ⟨v7, r7⟩ := p7
 obtain ⟨p8, hp8⟩ : ∃ p, r7.lst Rd.fld = p := ⟨_, rfl⟩
 obtain ⟨v8, r8⟩ := p8
 obtain ⟨p9, hp9⟩ : ∃ p, r8.lst Rd.arm = p := ⟨_, rfl⟩
 obtain ⟨v9, r9⟩ := p9
 obtain ⟨p10, hp10⟩ : ∃ p, r9.lst Rd.par = p := ⟨_, rfl⟩
 obtain ⟨v10, r10⟩ := p10
 obtain ⟨p11, hp11⟩ : ∃ p, Rd.four r10 = p := ⟨_, rfl⟩
 obtain ⟨v11, r11⟩ := p11
 simp only [hp0, hp1, hp2, hp3, hp4, hp5, hp6, hp7, hp8, hp9, hp10, hp11]
 obtain ⟨w0, hw0⟩ : ∃ w0, w.alloc (.cells #[.pointer (some ⟨b, 0, none⟩)] 158) = w0 := ⟨_, rfl⟩
 obtain ⟨q, hqe⟩ : ∃ q, w.heap.size = q := ⟨_, rfl⟩
 have hq0 : w0.cell? ⟨q, 0, none⟩ = some (.pointer (some ⟨b, 0, none⟩)) := by
  rw [← hw0, ← hqe]
  exact (Blk.new w 158 #[.pointer (some ⟨b, 0, none⟩)]).cell 0
 have hql : q < w0.heap.size := by
  rw [← hw0, ← hqe]
  exact (Blk.new w 158 #[.pointer (some ⟨b, 0, none⟩)]).lt
 have hqb : q ≠ b := by omega
 have hqg : q ≠ g := by omega
 have ra : Wr [] w w0 := by rw [← hw0]; exact (Wr.refl _ _).alloc _
 have hs0 := ra.size
 replace hb : WlkR w0 b r := Blk.wr0 hb ra
 replace hx := hx.wr0 ra
 have h0 := fun W (hb' : WlkR W b r) (acc' : Wr [b, g] w0 W) (hc : Blk W g 129 #[.int .u8 0, .string ⟨#[]⟩, .string ⟨#[]⟩, .int .i64 0, .int .i64 0, .int .i64 0, .int .i64 0, .slice none 0 0, .slice none 0 0, .slice none 0 0, .slice none 0 0, .int .i64 0]) => (((byte_r b g 0 r W hb' hg 0 (hc.cell 0) (hc.frozen 0))).mono fun e w' h => PutL.toB hg h)
 rw [hp0] at h0
 have H0 := qh h0
 have h1 := fun W (hb' : WlkR W b r0) (acc' : Wr [b, g] w0 W) (hc : Blk W g 129 #[(.int .u8 v0), .string ⟨#[]⟩, .string ⟨#[]⟩, .int .i64 0, .int .i64 0, .int .i64 0, .int .i64 0, .slice none 0 0, .slice none 0 0, .slice none 0 0, .slice none 0 0, .int .i64 0]) => (text_r b g 1 r0 W hb' hg ⟨#[]⟩ (hc.cell 1) (hc.frozen 1))
 rw [hp1] at h1
 have H1 := qh h1
 have h2 := fun W (hb' : WlkR W b r1) (acc' : Wr [b, g] w0 W) (hc : Blk W g 129 #[(.int .u8 v0), (.string v1), .string ⟨#[]⟩, .int .i64 0, .int .i64 0, .int .i64 0, .int .i64 0, .slice none 0 0, .slice none 0 0, .slice none 0 0, .slice none 0 0, .int .i64 0]) => (text_r b g 2 r1 W hb' hg ⟨#[]⟩ (hc.cell 2) (hc.frozen 2))
 rw [hp2] at h2
 have H2 := qh h2
 have h3 := fun W (hb' : WlkR W b r2) (acc' : Wr [b, g] w0 W) (hc : Blk W g 129 #[(.int .u8 v0), (.string v1), (.string v2), .int .i64 0, .int .i64 0, .int .i64 0, .int .i64 0, .slice none 0 0, .slice none 0 0, .slice none 0 0, .slice none 0 0, .int .i64 0]) => (((place_r b g 3 r2 W hb' hg 0 (hc.cell 3) (hc.frozen 3))).mono fun e w' h => PutL.toB hg h)
 rw [hp3] at h3
 have H3 := qh h3
 have h4 := fun W (hb' : WlkR W b r3) (acc' : Wr [b, g] w0 W) (hc : Blk W g 129 #[(.int .u8 v0), (.string v1), (.string v2), (.int .i64 v3), .int .i64 0, .int .i64 0, .int .i64 0, .slice none 0 0, .slice none 0 0, .slice none 0 0, .slice none 0 0, .int .i64 0]) => (((place_r b g 4 r3 W hb' hg 0 (hc.cell 4) (hc.frozen 4))).mono fun e w' h => PutL.toB hg h)
 rw [hp4] at h4
 have H4 := qh h4
 have h5 := fun W (hb' : WlkR W b r4) (acc' : Wr [b, g] w0 W) (hc : Blk W g 129 #[(.int .u8 v0), (.string v1), (.string v2), (.int .i64 v3), (.int .i64 v4), .int .i64 0, .int .i64 0, .slice none 0 0, .slice none 0 0, .slice none 0 0, .slice none 0 0, .int .i64 0]) => (((number_r b g 5 r4 W hb' hg 0 (hc.cell 5) (hc.frozen 5))).mono fun e w' h => PutL.toB hg h)
 rw [hp5] at h5
 have H5 := qh h5
 have h6 := fun W (hb' : WlkR W b r5) (acc' : Wr [b, g] w0 W) (hc : Blk W g 129 #[(.int .u8 v0), (.string v1), (.string v2), (.int .i64 v3), (.int .i64 v4), (.int .i64 v5), .int .i64 0, .slice none 0 0, .slice none 0 0, .slice none 0 0, .slice none 0 0, .int .i64 0]) => (((number_r b g 6 r5 W hb' hg 0 (hc.cell 6) (hc.frozen 6))).mono fun e w' h => PutL.toB hg h)
 rw [hp6] at h6
 have H6 := qh h6
 have h7 := fun W (hb' : WlkR W b r6) (acc' : Wr [b, g] w0 W) (hc : Blk W g 129 #[(.int .u8 v0), (.string v1), (.string v2), (.int .i64 v3), (.int .i64 v4), (.int .i64 v5), (.int .i64 v6), .slice none 0 0, .slice none 0 0, .slice none 0 0, .slice none 0 0, .int .i64 0]) => (lr_Str b 0 g 7 129 _ none 0 0 r6 W hb' hg hc rfl (fun W' r' gx rW hb'' hgx hx => (text_r b gx 0 r' W' hb'' (by have := Blk.lt hb'; omega) ⟨#[]⟩ (hx.cell 0) (hx.frozen 0)).mono fun e W'' h => ⟨h.1, h.2.1, h.2.2.1, h.2.2.2 _ _ hx⟩))
 rw [hp7] at h7
 have H7 := qh h7
 have h8 := fun (A7 : Option Addr) (c7 : Nat) W (hb' : WlkR W b r7) (acc' : Wr [b, g] w0 W) (hc : Blk W g 129 #[(.int .u8 v0), (.string v1), (.string v2), (.int .i64 v3), (.int .i64 v4), (.int .i64 v5), (.int .i64 v6), (.slice A7 v7.length c7), .slice none 0 0, .slice none 0 0, .slice none 0 0, .int .i64 0]) => (lr_Field b q g 8 129 _ none 0 0 r7 W hb' hg hc rfl (fun W' r' gx rW hb'' hgx hx => fld_r b q gx r' W' hb'' ((acc'.trans rW).cellOf hq0 (by simp [hqb, hqg])) hqb (by have := acc'.size; omega) (by have := Blk.lt hb'; omega) hx))
 rw [hp8] at h8
 have H8 := qh h8
 have h9 := fun (A7 : Option Addr) (c7 : Nat) (A8 : Option Addr) (c8 : Nat) W (hb' : WlkR W b r8) (acc' : Wr [b, g] w0 W) (hc : Blk W g 129 #[(.int .u8 v0), (.string v1), (.string v2), (.int .i64 v3), (.int .i64 v4), (.int .i64 v5), (.int .i64 v6), (.slice A7 v7.length c7), (.slice A8 v8.length c8), .slice none 0 0, .slice none 0 0, .int .i64 0]) => (lr_Arm b 0 g 9 129 _ none 0 0 r8 W hb' hg hc rfl (fun W' r' gx hb'' hgx hx => (arm_r b gx r' W' hb'' hgx hx).mono fun e W'' h => by
  obtain ⟨h1, h2, h3, Af, cf, At, ct, h4, h5, h6⟩ := h
  exact ⟨h1, h2, h3, _, h4, _, _, rfl, h5, h6⟩))
 rw [hp9] at h9
 have H9 := qh h9
 have h10 := fun (A7 : Option Addr) (c7 : Nat) (A8 : Option Addr) (c8 : Nat) (A9 : Option Addr) (c9 : Nat) W (hb' : WlkR W b r9) (acc' : Wr [b, g] w0 W) (hc : Blk W g 129 #[(.int .u8 v0), (.string v1), (.string v2), (.int .i64 v3), (.int .i64 v4), (.int .i64 v5), (.int .i64 v6), (.slice A7 v7.length c7), (.slice A8 v8.length c8), (.slice A9 v9.length c9), .slice none 0 0, .int .i64 0]) => (lr_Param b q g 10 129 _ none 0 0 r9 W hb' hg hc rfl (fun W' r' gx rW hb'' hgx hx => par_r b q gx r' W' hb'' ((acc'.trans rW).cellOf hq0 (by simp [hqb, hqg])) hqb (by have := acc'.size; omega) (by have := Blk.lt hb'; omega) hx))
 rw [hp10] at h10
 have H10 := qh h10
 have h11 := fun (A7 : Option Addr) (c7 : Nat) (A8 : Option Addr) (c8 : Nat) (A9 : Option Addr) (c9 : Nat) (A10 : Option Addr) (c10 : Nat) W (hb' : WlkR W b r10) (acc' : Wr [b, g] w0 W) (hc : Blk W g 129 #[(.int .u8 v0), (.string v1), (.string v2), (.int .i64 v3), (.int .i64 v4), (.int .i64 v5), (.int .i64 v6), (.slice A7 v7.length c7), (.slice A8 v8.length c8), (.slice A9 v9.length c9), (.slice A10 v10.length c10), .int .i64 0]) => (((place_r b g 11 r10 W hb' hg 0 (hc.cell 11) (hc.frozen 11))).mono fun e w' h => PutL.toB hg h)
 rw [hp11] at h11
 have H11 := qh h11
 have RA := qh ra
 have CH := qh hq0
 have HW0 := qh hw0
 have HQ := qh hqe
 have acc : Wr [b, g] w0 w0 := Wr.refl _ _
 clear ra hq0 hw0 hqe h0 hp0 h1 hp1 h2 hp2 h3 hp3 h4 hp4 h5 hp5 h6 hp6 h7 hp7 h8 hp8 h9 hp9 h10 hp10 h11 hp11
 go_in
 go_upto_region 1 with (fail)
 rw [HW0.out, HQ.out]
 have ch := acc.cellOf CH.out (by simp [hqb, hqg])
 go_still_tail 4, (by kernel_rfl)
 change wpList _ _ _ _ _ w0.drew
 replace acc := acc.drew
 replace hb := Blk.drew hb
 replace hx := Blk.drew hx
 clear ch
 generalize w0.drew = wa0 at *
 go_wp2_with fail
 refine (H0.out _ hb acc hx).mono ?_
 rintro e w1 ⟨rfl, k1, hb1, hx1⟩
 replace hx1 := hx1 _ _ hx
 replace acc := acc.trans k1
 simp only [qsaq, qszq, qssq] at hx1
 clear hb hx k1
 rename WlkR w1 b _ => hb
 rename Blk w1 g _ _ => hx
 go_wp2_with fail
 have ch := acc.cellOf CH.out (by simp [hqb, hqg])
 go_still_tail 4, (by kernel_rfl)
 change wpList _ _ _ _ _ w1.drew
 replace acc := acc.drew
 replace hb := Blk.drew hb
 replace hx := Blk.drew hx
 clear ch
 generalize w1.drew = wa1 at *
 go_wp2_with fail
 refine (H1.out _ hb acc hx).mono ?_
 rintro e w2 ⟨rfl, k2, hb2, hx2⟩
 replace hx2 := hx2 _ _ hx
 replace acc := acc.trans k2
 simp only [qsaq, qszq, qssq] at hx2
 clear hb hx k2
 rename WlkR w2 b _ => hb
 rename Blk w2 g _ _ => hx
 go_wp2_with fail
 have ch := acc.cellOf CH.out (by simp [hqb, hqg])
 go_still_tail 4, (by kernel_rfl)
 change wpList _ _ _ _ _ w2.drew
 replace acc := acc.drew
 replace hb := Blk.drew hb
 replace hx := Blk.drew hx
 clear ch
 generalize w2.drew = wa2 at *
 go_wp2_with fail
 refine (H2.out _ hb acc hx).mono ?_
 rintro e w3 ⟨rfl, k3, hb3, hx3⟩
 replace hx3 := hx3 _ _ hx
 replace acc := acc.trans k3
 simp only [qsaq, qszq, qssq] at hx3
 clear hb hx k3
 rename WlkR w3 b _ => hb
 rename Blk w3 g _ _ => hx
 go_wp2_with fail
 have ch := acc.cellOf CH.out (by simp [hqb, hqg])
 go_still_tail 4, (by kernel_rfl)
 change wpList _ _ _ _ _ w3.drew
 replace acc := acc.drew
 replace hb := Blk.drew hb
 replace hx := Blk.drew hx
 clear ch
 generalize w3.drew = wa3 at *
 go_wp2_with fail
 refine (H3.out _ hb acc hx).mono ?_
 rintro e w4 ⟨rfl, k4, hb4, hx4⟩
 replace hx4 := hx4 _ _ hx
 replace acc := acc.trans k4
 simp only [qsaq, qszq, qssq] at hx4
 clear hb hx k4
 rename WlkR w4 b _ => hb
 rename Blk w4 g _ _ => hx
 go_wp2_with fail
 have ch := acc.cellOf CH.out (by simp [hqb, hqg])
 go_still_tail 4, (by kernel_rfl)
 change wpList _ _ _ _ _ w4.drew
 replace acc := acc.drew
 replace hb := Blk.drew hb
 replace hx := Blk.drew hx
 clear ch
 generalize w4.drew = wa4 at *
 go_wp2_with fail
 refine (H4.out _ hb acc hx).mono ?_
 rintro e w5 ⟨rfl, k5, hb5, hx5⟩
 replace hx5 := hx5 _ _ hx
 replace acc := acc.trans k5
 simp only [qsaq, qszq, qssq] at hx5
 clear hb hx k5
 rename WlkR w5 b _ => hb
 rename Blk w5 g _ _ => hx
 go_wp2_with fail
 have ch := acc.cellOf CH.out (by simp [hqb, hqg])
 go_still_tail 4, (by kernel_rfl)
 change wpList _ _ _ _ _ w5.drew
 replace acc := acc.drew
 replace hb := Blk.drew hb
 replace hx := Blk.drew hx
 clear ch
 generalize w5.drew = wa5 at *
 go_wp2_with fail
 refine (H5.out _ hb acc hx).mono ?_
 rintro e w6 ⟨rfl, k6, hb6, hx6⟩
 replace hx6 := hx6 _ _ hx
 replace acc := acc.trans k6
 simp only [qsaq, qszq, qssq] at hx6
 clear hb hx k6
 rename WlkR w6 b _ => hb
 rename Blk w6 g _ _ => hx
 go_wp2_with fail
 have ch := acc.cellOf CH.out (by simp [hqb, hqg])
 go_still_tail 4, (by kernel_rfl)
 change wpList _ _ _ _ _ w6.drew
 replace acc := acc.drew
 replace hb := Blk.drew hb
 replace hx := Blk.drew hx
 clear ch
 generalize w6.drew = wa6 at *
 go_wp2_with fail
 refine (H6.out _ hb acc hx).mono ?_
 rintro e w7 ⟨rfl, k7, hb7, hx7⟩
 replace hx7 := hx7 _ _ hx
 replace acc := acc.trans k7
 simp only [qsaq, qszq, qssq] at hx7
 clear hb hx k7
 rename WlkR w7 b _ => hb
 rename Blk w7 g _ _ => hx
 go_wp2_with fail
 have ch := acc.cellOf CH.out (by simp [hqb, hqg])
 go_still_tail 6, (by kernel_rfl)
 change wpList _ _ _ _ _ w7.drew
 replace acc := acc.drew
 replace hb := Blk.drew hb
 replace hx := Blk.drew hx
 clear ch
 generalize w7.drew = wa7 at *
 go_wp2_with fail
 refine (H7.out _ hb acc hx).mono ?_
 rintro e w8 ⟨rfl, A7, c7, k8, hb8, hx8, sn7⟩
 have sl7 : SlStrs w8 (fun bl => w.heap.size ≤ bl) (.slice A7 v7.length c7) v7 := (by have := sn7; rw [flat_str] at this; exact Sl.mono this (fun bl hb => by have := acc.size; omega))
 clear sn7
 replace acc := acc.trans k8
 simp only [qsaq, qszq, qssq] at hx8
 clear hb hx k8
 rename WlkR w8 b _ => hb
 rename Blk w8 g _ _ => hx
 go_wp2_with fail
 have ch := acc.cellOf CH.out (by simp [hqb, hqg])
 go_still_tail 5, (by kernel_rfl)
 change wpList _ _ _ _ _ w8.drew
 replace acc := acc.drew
 replace hb := Blk.drew hb
 replace hx := Blk.drew hx
 replace sl7 := Sl.wr0 sl7 (Wr.refl _ _).drew
 clear ch
 generalize w8.drew = wa8 at *
 go_wp2_with fail
 refine (H8.out _ _ _ hb acc hx).mono ?_
 rintro e w9 ⟨rfl, A8, c8, k9, hb9, hx9, sn8⟩
 replace sl7 := Sl.keep sl7 k9 (fun bl hb hm => by simp only [qmcq, qnnq, or_false] at hm; omega)
 have sl8 : SlFlds w9 (fun bl => w.heap.size ≤ bl) (.slice A8 v8.length c8) v8 := (Sl.mono sn8 (fun bl hb => by have := acc.size; omega))
 clear sn8
 replace acc := acc.trans k9
 simp only [qsaq, qszq, qssq] at hx9
 clear hb hx k9
 rename WlkR w9 b _ => hb
 rename Blk w9 g _ _ => hx
 go_wp2_with fail
 have ch := acc.cellOf CH.out (by simp [hqb, hqg])
 go_still_tail 6, (by kernel_rfl)
 change wpList _ _ _ _ _ w9.drew
 replace acc := acc.drew
 replace hb := Blk.drew hb
 replace hx := Blk.drew hx
 replace sl7 := Sl.wr0 sl7 (Wr.refl _ _).drew
 replace sl8 := Sl.wr0 sl8 (Wr.refl _ _).drew
 clear ch
 generalize w9.drew = wa9 at *
 go_wp2_with fail
 refine (H9.out _ _ _ _ _ hb acc hx).mono ?_
 rintro e w10 ⟨rfl, A9, c9, k10, hb10, hx10, sn9⟩
 replace sl7 := Sl.keep sl7 k10 (fun bl hb hm => by simp only [qmcq, qnnq, or_false] at hm; omega)
 replace sl8 := Sl.keep sl8 k10 (fun bl hb hm => by simp only [qmcq, qnnq, or_false] at hm; omega)
 have sl9 : SlArms w10 (fun bl => w.heap.size ≤ bl) (.slice A9 v9.length c9) v9 := (SlArms.into (SlRel.arms sn9) (fun bl hb _ => by have := acc.size; omega))
 clear sn9
 replace acc := acc.trans k10
 simp only [qsaq, qszq, qssq] at hx10
 clear hb hx k10
 rename WlkR w10 b _ => hb
 rename Blk w10 g _ _ => hx
 go_wp2_with fail
 have ch := acc.cellOf CH.out (by simp [hqb, hqg])
 go_still_tail 5, (by kernel_rfl)
 change wpList _ _ _ _ _ w10.drew
 replace acc := acc.drew
 replace hb := Blk.drew hb
 replace hx := Blk.drew hx
 replace sl7 := Sl.wr0 sl7 (Wr.refl _ _).drew
 replace sl8 := Sl.wr0 sl8 (Wr.refl _ _).drew
 replace sl9 := SlArms.keep sl9 (Wr.refl [] _).drew (fun _ _ => by simp)
 clear ch
 generalize w10.drew = wa10 at *
 go_wp2_with fail
 refine (H10.out _ _ _ _ _ _ _ hb acc hx).mono ?_
 rintro e w11 ⟨rfl, A10, c10, k11, hb11, hx11, sn10⟩
 replace sl7 := Sl.keep sl7 k11 (fun bl hb hm => by simp only [qmcq, qnnq, or_false] at hm; omega)
 replace sl8 := Sl.keep sl8 k11 (fun bl hb hm => by simp only [qmcq, qnnq, or_false] at hm; omega)
 replace sl9 := SlArms.keep sl9 k11 (fun bl hb hm => by simp only [qmcq, qnnq, or_false] at hm; omega)
 have sl10 : SlPars w11 (fun bl => w.heap.size ≤ bl) (.slice A10 v10.length c10) v10 := (Sl.mono sn10 (fun bl hb => by have := acc.size; omega))
 clear sn10
 replace acc := acc.trans k11
 simp only [qsaq, qszq, qssq] at hx11
 clear hb hx k11
 rename WlkR w11 b _ => hb
 rename Blk w11 g _ _ => hx
 go_wp2_with fail
 have ch := acc.cellOf CH.out (by simp [hqb, hqg])
 go_still_tail 4, (by kernel_rfl)
 change wpList _ _ _ _ _ w11.drew
 replace acc := acc.drew
 replace hb := Blk.drew hb
 replace hx := Blk.drew hx
 replace sl7 := Sl.wr0 sl7 (Wr.refl _ _).drew
 replace sl8 := Sl.wr0 sl8 (Wr.refl _ _).drew
 replace sl9 := SlArms.keep sl9 (Wr.refl [] _).drew (fun _ _ => by simp)
 replace sl10 := Sl.wr0 sl10 (Wr.refl _ _).drew
 clear ch
 generalize w11.drew = wa11 at *
 go_wp2_with fail
 refine (H11.out _ _ _ _ _ _ _ _ _ hb acc hx).mono ?_
 rintro e w12 ⟨rfl, k12, hb12, hx12⟩
 replace hx12 := hx12 _ _ hx
 replace sl7 := Sl.keep sl7 k12 (fun bl hb hm => by simp only [qmcq, qnnq, or_false] at hm; omega)
 replace sl8 := Sl.keep sl8 k12 (fun bl hb hm => by simp only [qmcq, qnnq, or_false] at hm; omega)
 replace sl9 := SlArms.keep sl9 k12 (fun bl hb hm => by simp only [qmcq, qnnq, or_false] at hm; omega)
 replace sl10 := Sl.keep sl10 k12 (fun bl hb hm => by simp only [qmcq, qnnq, or_false] at hm; omega)
 replace acc := acc.trans k12
 simp only [qsaq, qszq, qssq] at hx12
 clear hb hx k12
 rename WlkR w12 b _ => hb
 rename Blk w12 g _ _ => hx
 go_wp2_with fail
 refine bodyPost_end (results_none Tryz.results111 _ _ _) rfl ?_
 exact ⟨rfl, RA.out.nil.trans acc, hb, _, hx, _, _, _, _, rfl, ⟨sl7, sl8, sl9, sl10⟩⟩
end Go.Proofs.YtildcdgobdfieaaGreat
