/- Canon's loops: how they begin, how a round goes on. No conditions. -/
import Derived.Test.YtjanbpchedgoiaaGreatKT32
set_option linter.unusedVariables false
set_option linter.unusedSimpArgs false
set_option maxRecDepth 100000
set_option maxHeartbeats 32000000
namespace Go.Proofs.YtjanbpchedgoiaaGreat
open Go.RowKit
theorem core_start {w w1 w3 wr : World} {f : FaceD} {g k S NB : Nat} {B0 B1 B2 : Option Addr} {b0 b1 b2 : Nat} {vo : Value} {xs : List Value} {lab : Nat → Nat × Nat} {cc : CC}
  (hm : mayP f = 0) (hg : w.heap.size = g) (hgr : g + 1 < w1.heap.size) (hS1 : w1.heap.size ≤ S) (hS3 : S ≤ w3.heap.size) (hk : w3.heap.size = k) (hcc : cc.B = k ∧ cc.pn = k + 1 + 1 ∧ cc.gn = k)
  (acc : Wr [] w w3) (bi : Blk w3 g 35 #[.string f.module, .slice B0 f.uses.length b0, .slice B1 f.types.length b1, .slice B2 f.items.length b2]) (br : Blk w3 (g + 1) 35 #[.string ⟨#[]⟩, .slice none 0 0, .slice none 0 0, .slice none 0 0])
  (nu : ∀ a, (Value.slice B0 f.uses.length b0).ownBlock = some a → a < S ∧ (Value.slice B1 f.types.length b1).ownBlock ≠ some a ∧ (Value.slice B2 f.items.length b2).ownBlock ≠ some a)
  (nt : ∀ a, (Value.slice B1 f.types.length b1).ownBlock = some a → a < S ∧ (Value.slice B2 f.items.length b2).ownBlock ≠ some a) (ni : ∀ a, (Value.slice B2 f.items.length b2).ownBlock = some a → a < S)
  (ou : w3.ownsRow w1.heap.size 45 2 (.slice B0 f.uses.length b0) f.uses.length (f.uses.flatMap UseD.cellsF)) (ot : w3.ownsRow w1.heap.size 52 12 (.slice B1 f.types.length b1) f.types.length xs) (oi : w3.ownsRow w1.heap.size 59 5 (.slice B2 f.items.length b2) f.items.length (f.items.flatMap ItmD.cells))
  (ty : TysTo w3 S lab xs f.types f.types.length) (he : CEnv cc w3 f.types.length (ordOf f) vo wr) (hNB : wr.heap.size = NB) :
  (cpA w f g k w1.heap.size S NB (.slice B0 f.uses.length b0) (.slice B1 f.types.length b1) (.slice B2 f.items.length b2) vo xs lab).ok ∧
  L2 (cpA w f g k w1.heap.size S NB (.slice B0 f.uses.length b0) (.slice B1 f.types.length b1) (.slice B2 f.items.length b2) vo xs lab) 0 (wr.setCell ⟨g, 2, none⟩ (.slice none 0 0)) := by
 obtain ⟨q1, q2, q3⟩ := hcc
 have hbel := he.bel
 rw [q1, ← hk] at hbel
 have rW : Wr [] w3 wr := Wr.ofBelow hbel
 have hgk : g < k := by rw [← hk]; exact bi.lt
 have hkN : k ≤ NB := by rw [← hNB, ← hk]; exact rW.size
 have hbn := he.bn
 have hmn := he.mn
 have hown := he.own
 rw [q2, q3] at hbn
 rw [q3] at hmn
 rw [q1] at hown
 have r2 : Wr [g] wr (wr.setCell ⟨g, 2, none⟩ (.slice none 0 0)) := (Wr.refl [g] wr).setOn (by simp) _
 have rA : Wr [] w (wr.setCell ⟨g, 2, none⟩ (.slice none 0 0)) := (acc.trans rW).trans' r2 (fun x hx => .inr (by rw [qmsq] at hx; omega))
 have hne : ∀ b, b ≠ g → b ∉ [g] := fun b hb hm => hb (List.mem_singleton.1 hm)
 have kp : ∀ {T z n v ys}, w3.ownsRow w1.heap.size T z v n ys → (wr.setCell ⟨g, 2, none⟩ (.slice none 0 0)).ownsRow w1.heap.size T z v n ys := fun o => own_keep (own_keep o rW (fun _ _ => by simp)) r2 (fun a ha => hne a (by have := (o.lt a ha).1; omega))
 have hlab : ∀ b, b < w3.heap.size → (fun b => if b < k then lab b else (f.types.length, 0)) b = lab b := fun b hb => by rw [hk] at hb; exact if_pos hb
 have ty' := ((ty.relab hlab).keep rW (fun x hx => by cases hx)).keep r2 (fun x hx hs => by rw [qmsq] at hx; omega)
 refine ⟨⟨by show w.heap.size ≤ g; omega, hgr, hS1, by show S ≤ k; omega, hkN, by show k ≤ k + 1 + 1; omega, by show k + 1 + 1 < NB; rw [← hNB]; exact hbn.lt, Nat.le_refl k, by show k < NB; rw [← hNB]; exact hmn.lt, by show k + 1 + 1 ≠ k; omega, fun b hb => ?_, nu, nt, ni, fun b hb => ?_, he.nodup, he.sub, fun i t ht => ?_⟩, .slice none 0 0, [], ⟨rA, ?_, (br.wr0 rW).wr r2 (hne _ (by omega)), hbn.wr r2 (hne _ (by omega)), hmn.wr r2 (hne _ (by omega)), own_keep hown r2 (fun a ha => hne a (by have := (hown.lt a ha).1; omega)), kp ot, kp ou, kp oi, World.ownsRow_nil _ _ _ _, fun j n hj => absurd hj (by omega), (fun u hu => by cases hu), ?_⟩, fun i t ht => ?_⟩
 ·have := hown.lt b hb
  rw [hNB] at this
  exact this
 ·show f.types.length ≤ (if b < k then lab b else (f.types.length, 0)).1
  rw [if_neg (by have : k ≤ b := hb; omega)]
  exact Nat.le_refl _
 ·exact (tysTo_cells ty (List.getElem?_eq_some_iff.1 ht).1 ht).1
 ·have := (bi.wr0 rW).set_ 2 (.slice none 0 0)
  simp at this
  exact this
 ·show NB ≤ _
  rw [World.size_setCell, hNB]
  exact Nat.le_refl _
 ·have := (tysTo_cells ty' (List.getElem?_eq_some_iff.1 ht).1 ht).2
  unfold tyK
  rw [if_neg (by simp)]
  exact this
section
variable {c : CP} {j i z : Nat} {t : Ty} {cs : Array Value} {vt' : Value} {xs' : List Value} {w w' : World} {e : Ending} {n : Int}
theorem l2_open (hc : c.ok) (h : Core c j vt' xs' c.f.items w) (ht : TysD w c.S c.lab c.xs c.f.types c.ord j) (hn : c.ord[j]? = some n) : ∃ t, c.f.types[(n - 10).toNat]? = some t ∧ 10 ≤ n ∧ n < 10 + (c.f.types.length : Int) ∧ TyV w c.S c.lab c.xs (n - 10).toNat t ∧
  (∃ b off cv, c.vo = .slice (some ⟨b, off, none⟩) c.ord.length cv ∧ w.cell? ⟨b, off + j, none⟩ = some (.int .i64 n)) ∧ ∃ b off cv, c.vt = .slice (some ⟨b, off, none⟩) c.f.types.length cv ∧ ∀ jj u, (cellsV c.xs (n - 10).toNat t)[jj]? = some u → w.cell? ⟨b, off + (n - 10).toNat * 12 + jj, none⟩ = some u := by
 have hm := hc.sb n (List.mem_of_getElem? hn)
 have hr := nums_iff.1 hm.1
 have hil : (n - 10).toNat < c.f.types.length := by omega
 obtain ⟨t, htt⟩ : ∃ t, c.f.types[(n - 10).toNat]? = some t := ⟨_, qgeq hil⟩
 refine ⟨t, htt, hm.2, hr.2, ?_, ?_, ?_⟩
 ·have := ht _ t htt
  unfold tyK at this
  rw [if_neg (by rw [show 10 + (((n - 10).toNat : Nat) : Int) = n by omega]; exact not_taken hc.nd hn)] at this
  exact this
 ·obtain ⟨b, off, cv, e, _, _, _, hcell⟩ := Sl.at_ (Sl.ofOwn h.od (P := fun _ => True) (fun _ _ => trivial)) (j := j) (u := .int .i64 n) (by rw [qgmq, hn]; rfl)
  exact ⟨b, off, cv, e, hcell⟩
 ·obtain ⟨b, off, cv, e, _, _, _, hcell⟩ := Sl.thing (Sl.ofOwn h.tr (P := fun _ => True) (fun _ _ => trivial)) (by decide) hil
  refine ⟨b, off, cv, e, fun jj u hu => ?_⟩
  rw [Nat.add_assoc]
  exact hcell jj u (List.getElem?_eq_some_iff.1 hu).1 (hc.cl _ t htt jj u hu)
theorem TyV.forms {S : Nat} {lab : Nat → Nat × Nat} {xs : List Value} (h : TyV w S lab xs i t) : (∃ A k, gV xs (i * 12 + 7) = .slice A t.names.length k) ∧ (∃ A k, gV xs (i * 12 + 8) = .slice A t.fields.length k ∧ t.fields.length ≤ k ∧ k ≤ maxLen) ∧ (∃ A k, gV xs (i * 12 + 9) = .slice A t.arms.length k) ∧ ∃ A k, gV xs (i * 12 + 10) = .slice A t.params.length k ∧ t.params.length ≤ k ∧ k ≤ maxLen := by
 obtain ⟨a, b, ⟨ys, d1, d2, d3⟩, d⟩ := h
 obtain ⟨A1, k1, e1, _, _⟩ := Sl.form a
 obtain ⟨A2, k2, e2, l2, m2⟩ := own_form b.1
 obtain ⟨A3, k3, e3, _, _⟩ := own_form d1.1
 obtain ⟨A4, k4, e4, l4, m4⟩ := own_form d.1
 exact ⟨⟨A1, k1, e1⟩, ⟨A2, k2, e2, l2, m2⟩, ⟨A3, k3, e3⟩, A4, k4, e4, l4, m4⟩
theorem l3_box (hc : c.ok) (h : Core c j vt' xs' c.f.items w) (ht : TysD w c.S c.lab c.xs c.f.types c.ord j) (hv : TyV w c.S c.lab c.xs i t) (cs : Array Value) (T : TypeId) (hT : T = 52) : L3 c j i w.heap.size t cs vt' xs' (w.alloc (.cells cs T)) := by
 subst hT
 have r : Wr [] w (w.alloc (.cells cs 52)) := (Wr.refl [] w).alloc _
 exact ⟨h.wr0 hc r, (ht.keep r (fun x hx => by cases hx)).but, hv.keep r (fun x hx => by cases hx), Blk.new _ _ _, h.nb, fun e => by have := (h.nr.lt _ e).2; omega⟩
theorem L3.setZ {o : Nat} (hc : c.ok) (hi : i < c.f.types.length) (h : L3 c j i z t cs vt' xs' w) (ha : AnewR c.ord n z o w e w') : e = .returned (.tuple #[]) ∧ L3 c j i z t (cs.setIfInBounds o (.int .i64 (anewN c.ord n))) vt' xs' w' := by
 obtain ⟨h1, h2, h3, h4, h5, h6⟩ := h
 obtain ⟨he, wd, r, hh, hw⟩ := ha
 have r1 := wr_set r hw
 have hl := hc.lb z (Nat.le_trans hc.p5 h5)
 exact ⟨he, h1.keepNew hc r1 h5 h6, h2.keep r1 (fun x hx hs => by rw [qmsq] at hx; subst hx; exact .inl hl), h3.keep r1 (fun x hx hs => by rw [qmsq] at hx; subst hx; omega), blk_set' h4 hh hw, h5, h6⟩
theorem L3.own (h : L3 c j i z t cs vt' xs' w) {o : Nat} {u : Value} (hu : cs[o]? = some u) : Own w ⟨z, o, none⟩ u := ⟨by rw [h.2.2.2.1.cell]; exact hu, h.2.2.2.1.frozen o⟩
theorem row_own {B T size n : Nat} {v u : Value} {xs : List Value} {o : Nat} (h : w.ownsRow B T size v n xs) (hn : 0 < n) (hu : xs[o]? = some u) : ∃ g cap, v = .slice (some ⟨g, 0, none⟩) n cap ∧ v.ownBlock = some g ∧ Own w ⟨g, o, none⟩ u := by
 have h0 := h
 rcases h.2 with ⟨_, h1⟩ | ⟨g, cap, cur, rfl, hb, hh, rest⟩
 ·omega
 ·refine ⟨g, cap, rfl, rfl, ?_, Blk.frozen (show Blk w g T cur from hh) o⟩
  have := h0.cells (g := g) rfl o u hu
  rw [Addr.add_lit, Nat.zero_add] at this
  exact this
theorem L3.field {k : Nat} {y : Fld} (hc : c.ok) (hi : i < c.f.types.length) (hy : t.fields[k]? = some y) (h : L3 c j i z { t with fields := stage (anewF c.ord) k t.fields } cs vt' xs' w) :
  ∃ g cap, gV c.xs (i * 12 + 8) = .slice (some ⟨g, 0, none⟩) t.fields.length cap ∧ Own w ⟨g, k * 3 + 1, none⟩ (.int .i64 y.type) ∧ ∀ e w', AnewR c.ord y.type g (k * 3 + 1) w e w' → e = .returned (.tuple #[]) ∧ L3 c j i z { t with fields := stage (anewF c.ord) (k + 1) t.fields } cs vt' xs' w' := by
 obtain ⟨h1, h2, h3, h4, h5, h6⟩ := h
 have hkl := (List.getElem?_eq_some_iff.1 hy).1
 have hst : (stage (anewF c.ord) k t.fields)[k]? = some y := stage_at hy
 have hf := h3.fields
 obtain ⟨g, cap, e1, e2, ho⟩ := row_own (o := k * 3 + 1) (u := .int .i64 y.type) hf.1 (by show 0 < (stage (anewF c.ord) k t.fields).length; rw [stage_len]; omega) (by
  show ((stage (anewF c.ord) k t.fields).flatMap Fld.cells)[k * 3 + 1]? = _
  rw [flatF_at (g := Fld.cells) (size := 3) (fun _ => rfl) _ k 1 y hst (by decide)]
  rfl)
 have e3 : gV c.xs (i * 12 + 8) = .slice (some ⟨g, 0, none⟩) t.fields.length cap := by
  rw [e1]
  show Value.slice _ (stage (anewF c.ord) k t.fields).length cap = _
  rw [stage_len]
 have hlb := hf.2 g e2
 have hgS := (hf.1.lt g e2).1
 have hgB : g < c.B := by
  rcases Nat.lt_or_ge g c.B with h | h
  ·exact h
  ·have := hc.lb g h
   rw [hlb] at this
   exact absurd this (by show ¬ _ ≤ i; omega)
 refine ⟨g, cap, e3, ho, fun e w' ha => ?_⟩
 obtain ⟨he, wd, r, hh, hw⟩ := ha
 have r1 := wr_set r hw
 have hz : z ≠ g := by have := hc.p5; omega
 refine ⟨he, h1.keepMid hc r1 hgS hgB, h2.keep r1 (fun x hx hs => by rw [qmsq] at hx; subst hx; rw [hlb]; exact .inr rfl), ?_, h4.wr r1 (fun hm => hz (List.mem_singleton.1 hm)), h5, h6⟩
 have := TyO.setField (v := anewN c.ord y.type) h3 hst e2 r hh hw
 have e4 : (stage (anewF c.ord) k t.fields).set k { y with type := anewN c.ord y.type } = stage (anewF c.ord) (k + 1) t.fields := stage_set (g := anewF c.ord) hy
 exact TyO.same this rfl e4.symm rfl rfl
theorem L3.param {k : Nat} {y : Par} (hc : c.ok) (hi : i < c.f.types.length) (hy : t.params[k]? = some y) (h : L3 c j i z { t with params := stage (anewP c.ord) k t.params } cs vt' xs' w) :
  ∃ g cap, gV c.xs (i * 12 + 10) = .slice (some ⟨g, 0, none⟩) t.params.length cap ∧ Own w ⟨g, k * 2 + 1, none⟩ (.int .i64 y.type) ∧ ∀ e w', AnewR c.ord y.type g (k * 2 + 1) w e w' → e = .returned (.tuple #[]) ∧ L3 c j i z { t with params := stage (anewP c.ord) (k + 1) t.params } cs vt' xs' w' := by
 obtain ⟨h1, h2, h3, h4, h5, h6⟩ := h
 have hkl := (List.getElem?_eq_some_iff.1 hy).1
 have hst : (stage (anewP c.ord) k t.params)[k]? = some y := stage_at hy
 have hf := h3.params
 obtain ⟨g, cap, e1, e2, ho⟩ := row_own (o := k * 2 + 1) (u := .int .i64 y.type) hf.1 (by show 0 < (stage (anewP c.ord) k t.params).length; rw [stage_len]; omega) (by
  show ((stage (anewP c.ord) k t.params).flatMap Par.cells)[k * 2 + 1]? = _
  rw [flatF_at (g := Par.cells) (size := 2) (fun _ => rfl) _ k 1 y hst (by decide)]
  rfl)
 have e3 : gV c.xs (i * 12 + 10) = .slice (some ⟨g, 0, none⟩) t.params.length cap := by
  rw [e1]
  show Value.slice _ (stage (anewP c.ord) k t.params).length cap = _
  rw [stage_len]
 have hlb := hf.2 g e2
 have hgS := (hf.1.lt g e2).1
 have hgB : g < c.B := by
  rcases Nat.lt_or_ge g c.B with h | h
  ·exact h
  ·have := hc.lb g h
   rw [hlb] at this
   exact absurd this (by show ¬ _ ≤ i; omega)
 refine ⟨g, cap, e3, ho, fun e w' ha => ?_⟩
 obtain ⟨he, wd, r, hh, hw⟩ := ha
 have r1 := wr_set r hw
 have hz : z ≠ g := by have := hc.p5; omega
 refine ⟨he, h1.keepMid hc r1 hgS hgB, h2.keep r1 (fun x hx hs => by rw [qmsq] at hx; subst hx; rw [hlb]; exact .inr rfl), ?_, h4.wr r1 (fun hm => hz (List.mem_singleton.1 hm)), h5, h6⟩
 have := TyO.setParam (v := anewN c.ord y.type) h3 hst e2 r hh hw
 have e4 : (stage (anewP c.ord) k t.params).set k { y with type := anewN c.ord y.type } = stage (anewP c.ord) (k + 1) t.params := stage_set (g := anewP c.ord) hy
 exact TyO.same this rfl rfl rfl e4.symm
theorem L3.same {t2 : Ty} (h : L3 c j i z t cs vt' xs' w) (h1 : t2.names = t.names) (h2 : t2.fields = t.fields) (h3 : t2.arms = t.arms) (h4 : t2.params = t.params) : L3 c j i z t2 cs vt' xs' w := by
 obtain ⟨a1, a2, a3, a4⟩ := h
 exact ⟨a1, a2, TyO.same a3 h1 h2 h3 h4, a4⟩
theorem L3.append {v'' : Value} {W1 W2 : World} {ys : List Value} (hc : c.ok) (hn : c.ord[j]? = some n) (hi0 : 10 ≤ n) (htt : c.f.types[(n - 10).toNat]? = some t) (h : L3 c j (n - 10).toNat z (anewT c.ord t) cs vt' xs' w) (r1 : Wr [] w W1) (hys : ys = cellsV c.xs (n - 10).toNat (anewT c.ord t)) (hy1 : ∀ u ∈ ys, u.oneCell' = true)
  (hown : W2.ownsRow c.NB 52 12 v'' (j + 1) (xs' ++ ys)) (hg : W1.grownBy W2 vt'.ownBlock) : L2 c (j + 1) (W2.setCell ⟨c.pi, 2, none⟩ v'') := by
 obtain ⟨h1, h2, h3, h4, h5, h6⟩ := h
 have r2 : Wr (ownL vt') W1 W2 := Wr.ofGrownOwn hg
 have r3 : Wr [c.pi] W2 (W2.setCell ⟨c.pi, 2, none⟩ v'') := (Wr.refl _ _).setOn (by simp) _
 have p1 := hc.p1
 have p2 := hc.p2
 have p3 := hc.p3
 have p4 := hc.p4
 have p5 := hc.p5
 have n1 := hc.n1
 have n2 := hc.n2
 have g1 := hc.g1
 have g2 := hc.g2
 have hvb : ∀ b, b ∈ ownL vt' → c.NB ≤ b := fun b hb => (h1.nr.lt b (mem_ownL.1 hb)).1
 have lo : ∀ b, b < c.NB → b ∉ ownL vt' := fun b hb hm => by have := hvb b hm; omega
 have hne : ∀ b, b ≠ c.pi → b ∉ [c.pi] := fun b hb hm => hb (List.mem_singleton.1 hm)
 have kO : ∀ {B T z n v ys}, w.ownsRow B T z v n ys → (∀ a, v.ownBlock = some a → a < c.NB ∧ a ≠ c.pi) → (W2.setCell ⟨c.pi, 2, none⟩ v'').ownsRow B T z v n ys := fun o ha => own_keep (own_keep (own_keep o r1 (fun _ _ => by simp)) r2 (fun a hm => lo a (ha a hm).1)) r3 (fun a hm => hne a (ha a hm).2)
 have h1' := h1.wr0 hc r1
 have bi2 := (h1'.bi.wr r2 (lo _ (by omega))).set_ 2 v''
 simp at bi2
 have hkk := (List.getElem?_eq_some_iff.1 hn).1
 refine ⟨v'', xs' ++ ys, ⟨(h1'.acc.trans' r2 (fun x hx => .inr (by have := hvb x hx; omega))).trans' r3 (fun x hx => .inr (by rw [qmsq] at hx; omega)), bi2, (h1'.br.wr r2 (lo _ (by omega))).wr r3 (hne _ (by omega)), (h1'.bn.wr r2 (lo _ n2)).wr r3 (hne _ (by omega)), (h1'.mn.wr r2 (lo _ g2)).wr r3 (hne _ (by omega)),
  kO h1.od (fun a ha => ⟨(hc.o1 a ha).2, by have := (hc.o1 a ha).1; omega⟩), kO h1.tr (fun a ha => ⟨by have := (hc.t1 a ha).1; omega, by have := (h1.tr.lt a ha).1; omega⟩), kO h1.ur (fun a ha => ⟨by have := (hc.u1 a ha).1; omega, by have := (h1.ur.lt a ha).1; omega⟩), kO h1.ir (fun a ha => ⟨by have := hc.i1 a ha; omega, by have := (h1.ir.lt a ha).1; omega⟩),
  own_keep hown r3 (fun a ha => hne a (by have := (hown.lt a ha).1; omega)), h1.nt.next h1.nr.1 hn htt hys, fun u hu => ?_, ?_⟩, ?_⟩
 ·rcases List.mem_append.1 hu with h | h
  ·exact h1.one u h
  ·exact hy1 u h
 ·exact Nat.le_trans h1'.nb (Nat.le_trans r2.size r3.size)
 ·have k2 := ((h2.keep r1 (fun x hx => by cases hx)).keep r2 (fun x hx hs => .inl (hc.lb x (by have := hvb x hx; omega)))).keep r3 (fun x hx hs => by rw [qmsq] at hx; omega)
  have k3 := ((h3.keep r1 (fun x hx => by cases hx)).keep r2 (fun x hx hs => by have := hc.lb x (by have := hvb x hx; omega); have := (List.getElem?_eq_some_iff.1 htt).1; omega)).keep r3 (fun x hx hs => by rw [qmsq] at hx; omega)
  exact TysB.all hc.nd k2 hn (by omega) htt k3
def L5z (c : CP) (its : List ItmD) (w : World) : Prop := ∃ vt' xs', Core c c.ord.length vt' xs' its w ∧ TysD w c.S c.lab c.xs c.f.types c.ord c.ord.length
def L5b (c : CP) (its : List ItmD) (z : Nat) (cs : Array Value) (w : World) : Prop := ∃ vt' xs', Core c c.ord.length vt' xs' its w ∧ TysD w c.S c.lab c.xs c.f.types c.ord c.ord.length ∧ Blk w z 86 cs ∧ c.NB ≤ z ∧ vt'.ownBlock ≠ some z
theorem L5z.cells {its : List ItmD} {x : ItmD} (h : L5z c its w) (hx : its[j]? = some x) : ∃ g cap, c.vi = .slice (some ⟨g, 0, none⟩) its.length cap ∧ c.vi.ownBlock = some g ∧ ∀ J u, x.cells[J]? = some u → Own w ⟨g, j * 5 + J, none⟩ u := by
 obtain ⟨vt', xs', h1, h2⟩ := h
 have hlt := (List.getElem?_eq_some_iff.1 hx).1
 obtain ⟨g, cap, e1, e2, _⟩ := row_own (o := j * 5 + 0) (u := .string x.name) h1.ir (by omega) (by rw [flatF_at itm_len its j 0 x hx (by decide)]; rfl)
 refine ⟨g, cap, e1, e2, fun J u hu => ?_⟩
 obtain ⟨g', cap', e3, e4, ho⟩ := row_own (o := j * 5 + J) (u := u) h1.ir (by omega) (by rw [flatF_at itm_len its j J x hx (List.getElem?_eq_some_iff.1 hu).1]; exact hu)
 rw [e2] at e4
 injection e4 with e4
 subst e4
 exact ho
theorem L5z.set {its : List ItmD} {x y : ItmD} {J gi : Nat} {u : Value} {wd : World} (hc : c.ok) (h : L5z c its w) (hx : its[j]? = some x) (hJ : J < 5) (hy : x.cells.set J u = y.cells) (hg : c.vi.ownBlock = some gi) (r : Wr [] w wd) (hh : wd.heap = w.heap) (e : w' = wd.setCell ⟨gi, j * 5 + J, none⟩ u) : L5z c (its.set j y) w' := by
 obtain ⟨vt', xs', h1, h2⟩ := h
 have r1 := wr_set r e
 have hgi := hc.i1 gi hg
 exact ⟨vt', xs', h1.setItem hc hx hJ hy hg r hh e, h2.keep r1 (fun x hx hs => by rw [qmsq] at hx; omega)⟩
theorem L5z.box {its : List ItmD} (hc : c.ok) (h : L5z c its w) (cs : Array Value) (T : TypeId) (hT : T = 86) : L5b c its w.heap.size cs (w.alloc (.cells cs T)) := by
 subst hT
 obtain ⟨vt', xs', h1, h2⟩ := h
 have r : Wr [] w (w.alloc (.cells cs 86)) := (Wr.refl [] w).alloc _
 exact ⟨vt', xs', h1.wr0 hc r, h2.keep r (fun x hx => by cases hx), Blk.new _ _ _, h1.nb, fun e => by have := (h1.nr.lt _ e).2; omega⟩
theorem L5b.setZ {its : List ItmD} {o : Nat} (hc : c.ok) (h : L5b c its z cs w) (ha : AnewR c.ord n z o w e w') : e = .returned (.tuple #[]) ∧ L5b c its z (cs.setIfInBounds o (.int .i64 (anewN c.ord n))) w' := by
 obtain ⟨vt', xs', h1, h2, h3, h4, h5⟩ := h
 obtain ⟨he, wd, r, hh, hw⟩ := ha
 have r1 := wr_set r hw
 exact ⟨he, vt', xs', h1.keepNew hc r1 h4 h5, h2.keep r1 (fun x hx hs => by rw [qmsq] at hx; subst hx; exact hc.lb x (Nat.le_trans hc.p5 h4)), blk_set' h3 hh hw, h4, h5⟩
theorem L5b.toz {its : List ItmD} (h : L5b c its z cs w) : L5z c its w := by
 obtain ⟨vt', xs', h1, h2, _⟩ := h
 exact ⟨vt', xs', h1, h2⟩
theorem L5b.blk {its : List ItmD} (h : L5b c its z cs w) : Blk w z 86 cs := by
 obtain ⟨vt', xs', h1, h2, h3, _⟩ := h
 exact h3
end
end Go.Proofs.YtjanbpchedgoiaaGreat
