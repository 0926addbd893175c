/- What holds while Canon numbers types and items anew. No conditions. -/
import Derived.Test.YtjanbpchedgoiaaGreatKT31
import Derived.Test.YtjanbpchedgoiaaGreatKT29
set_option linter.unusedVariables false
set_option linter.unusedSimpArgs false
set_option maxRecDepth 100000
set_option maxHeartbeats 32000000
namespace Go.Proofs.YtjanbpchedgoiaaGreat
open Go.RowKit
def stage {α : Type} (g : α → α) (k : Nat) (l : List α) : List α := (l.take k).map g ++ l.drop k
section
variable {α : Type} {g : α → α} {k : Nat} {l : List α} {x : α}
theorem stage_zero : stage g 0 l = l := by simp [stage]
theorem stage_all : stage g l.length l = l.map g := by simp [stage]
theorem stage_len : (stage g k l).length = l.length := by
 unfold stage
 rw [qlaq, qlmq, List.length_take, List.length_drop]
 omega
theorem stage_at (h : l[k]? = some x) : (stage g k l)[k]? = some x := by
 have hk := (List.getElem?_eq_some_iff.1 h).1
 have hl : ((l.take k).map g).length = k := by rw [qlmq, List.length_take]; omega
 unfold stage
 rw [qgrq (by omega), hl, Nat.sub_self, List.getElem?_drop, Nat.add_zero]
 exact h
theorem stage_set (h : l[k]? = some x) : (stage g k l).set k (g x) = stage g (k + 1) l := by
 have hk := (List.getElem?_eq_some_iff.1 h).1
 have e := (List.getElem?_eq_some_iff.1 h).2
 have hl : ((l.take k).map g).length = k := by rw [qlmq, List.length_take]; omega
 unfold stage
 rw [List.set_append_right _ _ (by omega), hl, Nat.sub_self, List.drop_eq_getElem_cons hk, qszq, List.take_succ_eq_append_getElem hk, List.map_append, e]
 simp
end
theorem flat_set {α : Type} {g : α → List Value} {size : Nat} (hg : ∀ x, (g x).length = size) : ∀ (l : List α) (k j : Nat) (x y : α) (u : Value), l[k]? = some x → j < size → (g x).set j u = g y → (l.flatMap g).set (k * size + j) u = (l.set k y).flatMap g
 | [], k, j, x, y, u, h, _, _ => by simp at h
 | z :: l, 0, j, x, y, u, h, hj, e => by
  simp only [qgzq, Option.some.injEq] at h
  subst h
  rw [qfcq, Nat.zero_mul, Nat.zero_add, List.set_append_left _ _ (by rw [hg]; exact hj), e, qszq, qfcq]
 | z :: l, k + 1, j, x, y, u, h, hj, e => by
  rw [qgsq] at h
  rw [qfcq, List.set_append_right _ _ (by rw [hg, Nat.succ_mul]; omega), hg, show (k + 1) * size + j - size = k * size + j by rw [Nat.succ_mul]; omega, flat_set hg l k j x y u h hj e, qssq, qfcq]
def anewF (ord : List Int) (x : Fld) : Fld := { x with type := anewN ord x.type }
def anewP (ord : List Int) (x : Par) : Par := { x with type := anewN ord x.type }
def gV (xs : List Value) (j : Nat) : Value := (xs[j]?).getD undef
theorem gV_eq {xs : List Value} {j : Nat} {u : Value} (h : xs[j]? = some u) : gV xs j = u := by
 unfold gV
 rw [h]
 rfl
def tyK (ord : List Int) (k i : Nat) (t : Ty) : Ty := if (10 + (i : Int)) ∈ ord.take k then anewT ord t else t
def TyV (w : World) (S : Nat) (lab : Nat → Nat × Nat) (xs : List Value) (i : Nat) (t : Ty) : Prop := TyO w S lab i (gV xs (i * 12 + 7)) (gV xs (i * 12 + 8)) (gV xs (i * 12 + 9)) (gV xs (i * 12 + 10)) t
def cellsV (xs : List Value) (i : Nat) (t : Ty) : List Value := t.cells (gV xs (i * 12 + 7)) (gV xs (i * 12 + 8)) (gV xs (i * 12 + 9)) (gV xs (i * 12 + 10))
def TysD (w : World) (S : Nat) (lab : Nat → Nat × Nat) (xs : List Value) (ts : List Ty) (ord : List Int) (k : Nat) : Prop := ∀ i t, ts[i]? = some t → TyV w S lab xs i (tyK ord k i t)
def NewTys (xs xs' : List Value) (ts : List Ty) (ord : List Int) (k : Nat) : Prop := ∀ j n, j < k → ord[j]? = some n → ∃ t, ts[(n - 10).toNat]? = some t ∧ ∀ jj u, (cellsV xs (n - 10).toNat (anewT ord t))[jj]? = some u → xs'[j * 12 + jj]? = some u
theorem tysTo_cells {w : World} {S k : Nat} {lab : Nat → Nat × Nat} {xs : List Value} {l : List Ty} (h : TysTo w S lab xs l k) {i : Nat} {t : Ty} (hi : i < k) (ht : l[i]? = some t) : (∀ j u, (cellsV xs i t)[j]? = some u → xs[i * 12 + j]? = some u) ∧ TyV w S lab xs i t := by
 obtain ⟨vn, vf, va, vp, e, o⟩ := h i t hi ht
 have e7 := gV_eq (e 7 vn rfl)
 have e8 := gV_eq (e 8 vf rfl)
 have e9 := gV_eq (e 9 va rfl)
 have e10 := gV_eq (e 10 vp rfl)
 unfold cellsV TyV
 rw [e7, e8, e9, e10]
 exact ⟨e, o⟩
theorem TyO.same {w : World} {S i : Nat} {lab : Nat → Nat × Nat} {vn vf va vp : Value} {t t' : Ty} (h : TyO w S lab i vn vf va vp t) (h1 : t'.names = t.names) (h2 : t'.fields = t.fields) (h3 : t'.arms = t.arms) (h4 : t'.params = t.params) : TyO w S lab i vn vf va vp t' := by
 obtain ⟨a, b, c, d⟩ := h
 exact ⟨by rw [h1]; exact a, by rw [h2]; exact b, by rw [h3]; exact c, by rw [h4]; exact d⟩
theorem TyO.setField {w wd w' : World} {S i g k : Nat} {lab : Nat → Nat × Nat} {vn vf va vp : Value} {t : Ty} {x : Fld} {v : Int} (h : TyO w S lab i vn vf va vp t) (hx : t.fields[k]? = some x) (hg : vf.ownBlock = some g) (r : Wr [] w wd) (hh : wd.heap = w.heap) (e : w' = wd.setCell ⟨g, k * 3 + 1, none⟩ (.int .i64 v)) :
  TyO w' S lab i vn vf va vp { t with fields := t.fields.set k { x with type := v } } := by
 have r1 := wr_set r e
 have hlg := h.fields.2 g hg
 have hb : ∀ c b, Lb S lab i c b → c ≠ 1 → b ∉ [g] := fun c b hb hc hm => by
  rw [qmsq] at hm
  subst hm
  rw [hb.2] at hlg
  exact hc (congrArg Prod.snd hlg)
 refine ⟨Sl.keep h.names r1 (fun b hb' => hb 0 b hb' (by decide)), ⟨?_, h.fields.2⟩, ?_, h.params.keep r1 (fun x hx hs el => ?_)⟩
 ·have := row_set h.fields.1 hg hh e
  rw [flat_set (g := Fld.cells) (size := 3) (fun _ => rfl) t.fields k 1 x { x with type := v } (.int .i64 v) hx (by decide) rfl] at this
  rw [List.length_set]
  exact this
 ·obtain ⟨xs, h1, h2, h3⟩ := h.arms
  exact ⟨xs, h1.keep r1 (fun x hx hs el => by rw [qmsq] at hx; subst hx; rw [hlg] at el; simp at el), h2, fun j y hy => (h3 j y hy).keep r1 (fun x hx hs el => by rw [qmsq] at hx; subst hx; rw [hlg] at el; simp at el)⟩
 ·rw [qmsq] at hx
  subst hx
  rw [hlg] at el
  simp at el
theorem TyO.setParam {w wd w' : World} {S i g k : Nat} {lab : Nat → Nat × Nat} {vn vf va vp : Value} {t : Ty} {x : Par} {v : Int} (h : TyO w S lab i vn vf va vp t) (hx : t.params[k]? = some x) (hg : vp.ownBlock = some g) (r : Wr [] w wd) (hh : wd.heap = w.heap) (e : w' = wd.setCell ⟨g, k * 2 + 1, none⟩ (.int .i64 v)) :
  TyO w' S lab i vn vf va vp { t with params := t.params.set k { x with type := v } } := by
 have r1 := wr_set r e
 have hlg := h.params.2 g hg
 have hb : ∀ c b, Lb S lab i c b → c ≠ 3 → b ∉ [g] := fun c b hb hc hm => by
  rw [qmsq] at hm
  subst hm
  rw [hb.2] at hlg
  exact hc (congrArg Prod.snd hlg)
 refine ⟨Sl.keep h.names r1 (fun b hb' => hb 0 b hb' (by decide)), h.fields.keep r1 (fun x hx hs el => ?_), ?_, ⟨?_, h.params.2⟩⟩
 ·rw [qmsq] at hx
  subst hx
  rw [hlg] at el
  simp at el
 ·obtain ⟨xs, h1, h2, h3⟩ := h.arms
  exact ⟨xs, h1.keep r1 (fun x hx hs el => by rw [qmsq] at hx; subst hx; rw [hlg] at el; simp at el), h2, fun j y hy => (h3 j y hy).keep r1 (fun x hx hs el => by rw [qmsq] at hx; subst hx; rw [hlg] at el; simp at el)⟩
 ·have := row_set h.params.1 hg hh e
  rw [flat_set (g := Par.cells) (size := 2) (fun _ => rfl) t.params k 1 x { x with type := v } (.int .i64 v) hx (by decide) rfl] at this
  rw [List.length_set]
  exact this
structure CP where
 w00 : World
 f : FaceD
 ord : List Int
 pi : Nat
 pn : Nat
 gn : Nat
 b0 : Nat
 S : Nat
 B : Nat
 NB : Nat
 vu : Value
 vt : Value
 vi : Value
 vo : Value
 xs : List Value
 lab : Nat → Nat × Nat
structure CP.ok (c : CP) : Prop where
 p1 : c.w00.heap.size ≤ c.pi
 p2 : c.pi + 1 < c.b0
 p3 : c.b0 ≤ c.S
 p4 : c.S ≤ c.B
 p5 : c.B ≤ c.NB
 n1 : c.B ≤ c.pn
 n2 : c.pn < c.NB
 g1 : c.B ≤ c.gn
 g2 : c.gn < c.NB
 ng : c.pn ≠ c.gn
 o1 : ∀ b, c.vo.ownBlock = some b → c.B ≤ b ∧ b < c.NB
 u1 : ∀ b, c.vu.ownBlock = some b → b < c.S ∧ c.vt.ownBlock ≠ some b ∧ c.vi.ownBlock ≠ some b
 t1 : ∀ b, c.vt.ownBlock = some b → b < c.S ∧ c.vi.ownBlock ≠ some b
 i1 : ∀ b, c.vi.ownBlock = some b → b < c.S
 lb : ∀ b, c.B ≤ b → c.f.types.length ≤ (c.lab b).1
 nd : c.ord.Nodup
 sb : ∀ x ∈ c.ord, x ∈ nums c.f.types.length ∧ 10 ≤ x
 cl : ∀ i t, c.f.types[i]? = some t → ∀ j u, (cellsV c.xs i t)[j]? = some u → c.xs[i * 12 + j]? = some u
structure Core (c : CP) (k : Nat) (vt' : Value) (xs' : List Value) (its : List ItmD) (w : World) : Prop where
 acc : Wr [] c.w00 w
 bi : Blk w c.pi 35 #[.string c.f.module, c.vu, vt', c.vi]
 br : Blk w (c.pi + 1) 35 #[.string ⟨#[]⟩, .slice none 0 0, .slice none 0 0, .slice none 0 0]
 bn : Blk w c.pn 79 #[.map (some c.gn)]
 mn : MapI w c.gn (numsOf c.ord)
 od : w.ownsRow c.B 3 1 c.vo c.ord.length (c.ord.map (Value.int .i64))
 tr : w.ownsRow c.b0 52 12 c.vt c.f.types.length c.xs
 ur : w.ownsRow c.b0 45 2 c.vu c.f.uses.length (c.f.uses.flatMap UseD.cellsF)
 ir : w.ownsRow c.b0 59 5 c.vi its.length (its.flatMap ItmD.cells)
 nr : w.ownsRow c.NB 52 12 vt' k xs'
 nt : NewTys c.xs xs' c.f.types c.ord k
 one : ∀ u ∈ xs', u.oneCell' = true
 nb : c.NB ≤ w.heap.size
section
variable {c : CP} {k : Nat} {vt' : Value} {xs' : List Value} {its : List ItmD} {w w' wd : World} {ls : List Nat}
theorem Core.keep (hc : c.ok) (h : Core c k vt' xs' its w) (r : Wr ls w w') (hl : ∀ x ∈ ls, c.w00.heap.size ≤ x ∧ ((c.S ≤ x ∧ x < c.B) ∨ (c.NB ≤ x ∧ vt'.ownBlock ≠ some x))) : Core c k vt' xs' its w' := by
 have low : ∀ b, b < c.S → b ∉ ls := fun b hb hm => by have := (hl b hm).2; have := hc.p4; have := hc.p5; omega
 have mid : ∀ b, c.B ≤ b → b < c.NB → b ∉ ls := fun b h1 h2 hm => by have := (hl b hm).2; omega
 have hpi : c.pi ∉ ls := low _ (by have := hc.p2; have := hc.p3; omega)
 have hpi1 : c.pi + 1 ∉ ls := low _ (by have := hc.p2; have := hc.p3; omega)
 refine ⟨h.acc.trans' r (fun x hx => .inr (hl x hx).1), h.bi.wr r hpi, h.br.wr r hpi1, h.bn.wr r (mid _ hc.n1 hc.n2), h.mn.wr r (mid _ hc.g1 hc.g2), own_keep h.od r (fun g hg => mid g (hc.o1 g hg).1 (hc.o1 g hg).2), own_keep h.tr r (fun g hg => low g (hc.t1 g hg).1), own_keep h.ur r (fun g hg => low g (hc.u1 g hg).1), own_keep h.ir r (fun g hg => low g (hc.i1 g hg)), own_keep h.nr r (fun g hg hm => ?_), h.nt, h.one, Nat.le_trans h.nb r.size⟩
 rcases (hl g hm).2 with h1 | h1
 ·have := (h.nr.lt g hg).1
  have := hc.p5
  omega
 ·exact h1.2 hg
theorem Core.wr0 (hc : c.ok) (h : Core c k vt' xs' its w) (r : Wr [] w w') : Core c k vt' xs' its w' := h.keep hc r (fun x hx => by cases hx)
theorem Core.keepNew {z : Nat} (hc : c.ok) (h : Core c k vt' xs' its w) (r : Wr [z] w w') (hz : c.NB ≤ z) (hv : vt'.ownBlock ≠ some z) : Core c k vt' xs' its w' :=
 h.keep hc r (fun x hx => by rw [qmsq] at hx; subst hx; exact ⟨by have := hc.p1; have := hc.p2; have := hc.p3; have := hc.p4; have := hc.p5; omega, .inr ⟨hz, hv⟩⟩)
theorem Core.keepMid {g : Nat} (hc : c.ok) (h : Core c k vt' xs' its w) (r : Wr [g] w w') (h1 : c.S ≤ g) (h2 : g < c.B) : Core c k vt' xs' its w' :=
 h.keep hc r (fun x hx => by rw [qmsq] at hx; subst hx; exact ⟨by have := hc.p1; have := hc.p2; have := hc.p3; omega, .inl ⟨h1, h2⟩⟩)
theorem TyV.keep {S i : Nat} {lab : Nat → Nat × Nat} {xs : List Value} {t : Ty} (h : TyV w S lab xs i t) (r : Wr ls w w') (hl : ∀ x ∈ ls, S ≤ x → (lab x).1 ≠ i) : TyV w' S lab xs i t := TyO.keep h r hl
theorem TysD.keep {S : Nat} {lab : Nat → Nat × Nat} {xs : List Value} {ts : List Ty} {ord : List Int} (h : TysD w S lab xs ts ord k) (r : Wr ls w w') (hl : ∀ x ∈ ls, S ≤ x → ts.length ≤ (lab x).1) : TysD w' S lab xs ts ord k := fun i t ht =>
 (h i t ht).keep r (fun x hx hs e => by have := hl x hx hs; have := (List.getElem?_eq_some_iff.1 ht).1; omega)
def TysB (w : World) (S : Nat) (lab : Nat → Nat × Nat) (xs : List Value) (ts : List Ty) (ord : List Int) (k i0 : Nat) : Prop := ∀ i t, i ≠ i0 → ts[i]? = some t → TyV w S lab xs i (tyK ord k i t)
theorem TysB.keep {S i0 : Nat} {lab : Nat → Nat × Nat} {xs : List Value} {ts : List Ty} {ord : List Int} (h : TysB w S lab xs ts ord k i0) (r : Wr ls w w') (hl : ∀ x ∈ ls, S ≤ x → ts.length ≤ (lab x).1 ∨ (lab x).1 = i0) : TysB w' S lab xs ts ord k i0 := fun i t hi ht =>
 (h i t hi ht).keep r (fun x hx hs e => by have := hl x hx hs; have := (List.getElem?_eq_some_iff.1 ht).1; omega)
theorem TysB.all {S i0 : Nat} {lab : Nat → Nat × Nat} {xs : List Value} {ts : List Ty} {ord : List Int} (hn : ord.Nodup) {n : Int} {t : Ty} (h : TysB w S lab xs ts ord k i0) (hk : ord[k]? = some n) (h0 : 10 + (i0 : Int) = n) (ht : ts[i0]? = some t) (hv : TyV w S lab xs i0 (anewT ord t)) : TysD w S lab xs ts ord (k + 1) := fun i t' ht' => by
 have hkl := (List.getElem?_eq_some_iff.1 hk).1
 have e : ord.take (k + 1) = ord.take k ++ [n] := by rw [List.take_succ_eq_append_getElem hkl, (List.getElem?_eq_some_iff.1 hk).2]
 by_cases hi : i = i0
 ·subst hi
  rw [ht] at ht'
  injection ht' with ht'
  subst ht'
  unfold tyK
  rw [if_pos (by rw [e, h0]; simp)]
  exact hv
 ·have := h i t' hi ht'
  unfold tyK at this ⊢
  have hne : (10 + (i : Int)) ≠ n := by omega
  by_cases hm : (10 + (i : Int)) ∈ ord.take k
  ·rw [if_pos hm] at this
   rw [if_pos (by rw [e]; exact List.mem_append_left _ hm)]
   exact this
  ·rw [if_neg hm] at this
   rw [if_neg (by rw [e]; simp [hm, hne])]
   exact this
theorem TysD.but {S i0 : Nat} {lab : Nat → Nat × Nat} {xs : List Value} {ts : List Ty} {ord : List Int} (h : TysD w S lab xs ts ord k) : TysB w S lab xs ts ord k i0 := fun i t _ ht => h i t ht
theorem not_taken {ord : List Int} (hn : ord.Nodup) {n : Int} (hk : ord[k]? = some n) : n ∉ ord.take k := fun hm => by
 obtain ⟨j, hj⟩ := List.getElem?_of_mem hm
 have hjl := (List.getElem?_eq_some_iff.1 hj).1
 rw [List.length_take] at hjl
 rw [List.getElem?_take_of_lt (by omega)] at hj
 have := nodup_idx hn hj hk
 omega
theorem NewTys.next {xs ys : List Value} {ts : List Ty} {ord : List Int} {n : Int} {t : Ty} (h : NewTys xs xs' ts ord k) (hl : xs'.length = k * 12) (hk : ord[k]? = some n) (ht : ts[(n - 10).toNat]? = some t) (hy : ys = cellsV xs (n - 10).toNat (anewT ord t)) : NewTys xs (xs' ++ ys) ts ord (k + 1) := fun j m hj hm => by
 have h12 : ys.length = 12 := by rw [hy]; rfl
 rcases Nat.lt_or_ge j k with hjk | hjk
 ·obtain ⟨t', ht', hc⟩ := h j m hjk hm
  refine ⟨t', ht', fun jj u hu => ?_⟩
  have hj12 : jj < 12 := (List.getElem?_eq_some_iff.1 hu).1
  rw [qglq (by omega)]
  exact hc jj u hu
 ·obtain rfl : j = k := by omega
  rw [hk] at hm
  injection hm with hm
  subst hm
  refine ⟨t, ht, fun jj u hu => ?_⟩
  rw [qgrq (by omega), hl, Nat.add_sub_cancel_left, hy]
  exact hu
end
theorem Core.setItem {c : CP} {k j J gi : Nat} {vt' u : Value} {xs' : List Value} {its : List ItmD} {x y : ItmD} {w wd w' : World} (hc : c.ok) (h : Core c k vt' xs' its w) (hx : its[j]? = some x) (hJ : J < 5) (hy : x.cells.set J u = y.cells) (hg : c.vi.ownBlock = some gi) (r : Wr [] w wd) (hh : wd.heap = w.heap) (e : w' = wd.setCell ⟨gi, j * 5 + J, none⟩ u) : Core c k vt' xs' (its.set j y) w' := by
 have r1 := wr_set r e
 have hgi := hc.i1 gi hg
 have hgb := (h.ir.lt gi hg).1
 have off : ∀ b, b ≠ gi → b ∉ [gi] := fun b hb hm => hb (List.mem_singleton.1 hm)
 have h2 := hc.p2
 have h3 := hc.p3
 have h4 := hc.p4
 have h5 := hc.p5
 have h6 := hc.n1
 have h7 := hc.g1
 refine ⟨h.acc.trans' r1 (fun x hx => .inr ?_), h.bi.wr r1 (off _ (by omega)), h.br.wr r1 (off _ (by omega)), h.bn.wr r1 (off _ (by omega)), h.mn.wr r1 (off _ (by omega)), own_keep h.od r1 (fun g hg' => off _ (by have := (hc.o1 g hg').1; omega)), own_keep h.tr r1 (fun g hg' => off _ (fun e => (hc.t1 g hg').2 (by rw [e]; exact hg))), own_keep h.ur r1 (fun g hg' => off _ (fun e => (hc.u1 g hg').2.2 (by rw [e]; exact hg))), ?_, own_keep h.nr r1 (fun g hg' => off _ (by have := (h.nr.lt g hg').1; omega)), h.nt, h.one, Nat.le_trans h.nb r1.size⟩
 ·rw [qmsq] at hx
  subst hx
  have := hc.p1
  omega
 ·have := row_set h.ir hg hh e
  rw [flat_set (g := ItmD.cells) (size := 5) itm_len its j J x y u hx hJ hy] at this
  rw [List.length_set]
  exact this
theorem Core.fin {c : CP} {vt' : Value} {xs' : List Value} {w : World} (hc : c.ok) (hord : c.ord = ordOf c.f) (h : Core c c.ord.length vt' xs' (c.f.items.map (anewI c.ord)) w) (ht : TysD w c.S c.lab c.xs c.f.types c.ord c.ord.length) : FaceL w (fun b => c.b0 ≤ b) c.vu vt' c.vi (canonF c.f) := by
 refine ⟨Sl.ofOwn h.ur (fun b hbk => (h.ur.lt b hbk).1), ⟨xs', ?_, h.one, fun i t' hi => ?_⟩, ?_⟩
 ·have := Sl.ofOwn h.nr (P := fun b => c.b0 ≤ b) (fun b hbk => by have := (h.nr.lt b hbk).1; have := hc.p3; have := hc.p4; have := hc.p5; omega)
  unfold canonF
  rw [qlmq, ← hord]
  exact this
 ·unfold canonF at hi
  rw [← hord, qgmq] at hi
  cases hn : c.ord[i]? with
  | none => rw [hn] at hi; cases hi
  | some n =>
   rw [hn] at hi
   obtain ⟨t, htt, hcell⟩ := h.nt i n (List.getElem?_eq_some_iff.1 hn).1 hn
   simp only [Option.map_some, Option.some.injEq, htt, Option.getD_some] at hi
   subst hi
   refine ⟨_, _, _, _, hcell, ?_⟩
   have := ht _ t htt
   unfold tyK at this
   have hm := List.mem_of_getElem? hn
   have h10 := (hc.sb n hm).2
   rw [List.take_length, if_pos (by rw [show 10 + (((n - 10).toNat : Nat) : Int) = n by omega]; exact hm)] at this
   exact (TyO.lists this).into (fun b hb' _ => by have := hc.p3; omega)
 ·have := Sl.ofOwn h.ir (P := fun b => c.b0 ≤ b) (fun b hbk => (h.ir.lt b hbk).1)
  show SlItms w _ c.vi (c.f.items.map (anewI (ordOf c.f)))
  rw [← hord]
  exact this
theorem anewV_other {ord : List Int} {v : AnyD} (h : (v.sort == 6) = false) : anewV ord v = v := by cases v <;> first | rfl | cases h
theorem anyItem {v : AnyD} (h : (v.sort == 6) = true) : v = .item v.itemT v.itemN := by cases v <;> first | rfl | cases h
def cpA (w : World) (f : FaceD) (g k b0 S NB : Nat) (vu vt vi vo : Value) (xs : List Value) (lab : Nat → Nat × Nat) : CP :=
 ⟨w, f, ordOf f, g, k + 1 + 1, k, b0, S, k, NB, vu, vt, vi, vo, xs, fun b => if b < k then lab b else (f.types.length, 0)⟩
def L2 (c : CP) (j : Nat) (w : World) : Prop := ∃ vt' xs', Core c j vt' xs' c.f.items w ∧ TysD w c.S c.lab c.xs c.f.types c.ord j
def L5 (c : CP) (j : Nat) (w : World) : Prop := ∃ vt' xs', Core c c.ord.length vt' xs' (stage (anewI c.ord) j c.f.items) w ∧ TysD w c.S c.lab c.xs c.f.types c.ord c.ord.length
def L3 (c : CP) (j i z : Nat) (t : Ty) (cs : Array Value) (vt' : Value) (xs' : List Value) (w : World) : Prop :=
 Core c j vt' xs' c.f.items w ∧ TysB w c.S c.lab c.xs c.f.types c.ord j i ∧ TyV w c.S c.lab c.xs i t ∧ Blk w z 52 cs ∧ c.NB ≤ z ∧ vt'.ownBlock ≠ some z
def RCanR (q : FaceD × Int) (w : World) (e : Ending) (w' : World) : Prop :=
 ∃ vu vt vi, e = .returned (.tuple #[.agg #[.string q.1.module, vu, vt, vi], .int .i64 q.2]) ∧ Wr [] w w' ∧ FacePL w' (fun _ => True) vu vt vi (facePl q.1)
theorem noFacePL (w : World) (P : Nat → Prop) : FacePL w P (.slice none 0 0) (.slice none 0 0) (.slice none 0 0) (facePl noFace) := ⟨Sl.nil _ _ _, ⟨[], Sl.nil _ _ _, by simp, fun i x h => by simp [noFace, facePl] at h⟩, Sl.nil _ _ _⟩
structure CStart (w2 : World) (c : Nat) (f : FaceD) (vu : Value) (wx : World) : Prop where
 cb : Blk wx c 27 #[.string f.module, vu, .slice none 0 0, .slice none 0 0]
 us : SlUsesF wx (fun b => b ≠ c ∧ w2.heap.size ≤ b) vu f.uses
 lo : w2.heap.size ≤ c
 wr : Wr [] w2 wx
theorem one_uses (l : List UseD) : ∀ u ∈ l.flatMap UseD.cellsF, u.oneCell' = true := by
 intro u hu
 simp only [List.mem_flatMap, UseD.cellsF] at hu
 obtain ⟨x, _, hx⟩ := hu
 simp at hx
 rcases hx with rfl | rfl <;> rfl
theorem uses_copy {w : World} {q : Nat} (hq : Blk w q 45 #[]) {P : Nat → Prop} {u : Value} {us : List UseD} (hu : SlUsesF w P u us) (hn : us.length ≤ 64) :
  ∃ v' w', (Builtin.append_ #[23, 23] 23 #[.slice (some ⟨q, 0, none⟩) 0 0, u]).run Tryz.prog w = .ok v' w' ∧ Wr [q] w w' ∧ (∃ e, w'.ownsRow q e 2 v' us.length (us.flatMap UseD.cellsF)) ∧ ∀ z, z < w.heap.size → z ≠ q → z ∉ ownL v' := by
 obtain ⟨i0, hi, hz0, hz1, hz2⟩ := info_parts info_use
 have h0 : w.ownsRow q 45 2 (.slice (some ⟨q, 0, none⟩) 0 0) 0 [] := ⟨rfl, .inr ⟨q, 0, #[], rfl, Nat.le_refl _, hq, Nat.le_refl _, Nat.zero_le _, rfl, rfl⟩⟩
 obtain ⟨v', w', hrun, hown, hgrow, hbk⟩ := run_append_sl (P := Tryz.prog) w q 23 23 45 i0 _ 2 24 Tryz.underlying23 hi hz0 hz1 hz2 rfl (by decide) _ 0 _ h0 P u us.length _ hu (one_uses us) (by unfold maxLen; omega) (by omega) (Nat.le_of_lt hq.lt)
 refine ⟨v', w', hrun, (Wr.ofGrownOwn hgrow).more (by intro x hx; simpa [ownL, Value.ownBlock] using hx), ⟨_, by simpa using hown⟩, fun z hz hne hm => ?_⟩
 have hm' := mem_ownL.1 hm
 rcases hbk with h1 | h1
 ·rw [h1] at hm'
  simp [Value.ownBlock] at hm'
  exact hne hm'.symm
 ·rw [h1] at hm'
  injection hm' with hm'
  omega
theorem blk_set4 {w : World} {c : Nat} {T : TypeId} {a0 a1 a2 a3 b0 b1 b2 b3 : Value} (h : Blk w c T #[a0, a1, a2, a3]) : Blk ((((w.setCell ⟨c, 0, none⟩ b0).setCell ⟨c, 1, none⟩ b1).setCell ⟨c, 2, none⟩ b2).setCell ⟨c, 3, none⟩ b3) c T #[b0, b1, b2, b3] := by
 have := (((h.set_ 0 b0).set_ 1 b1).set_ 2 b2).set_ 3 b3
 simpa using this
theorem wr_set4 {w0 w : World} {c : Nat} {b0 b1 b2 b3 : Value} (h : Wr [] w0 w) (hc : w0.heap.size ≤ c) : Wr [] w0 ((((w.setCell ⟨c, 0, none⟩ b0).setCell ⟨c, 1, none⟩ b1).setCell ⟨c, 2, none⟩ b2).setCell ⟨c, 3, none⟩ b3) :=
 (((h.setNew hc _).setNew hc _).setNew hc _).setNew hc _
theorem wr_set4c {w : World} {c : Nat} {b0 b1 b2 b3 : Value} : Wr [c] w ((((w.setCell ⟨c, 0, none⟩ b0).setCell ⟨c, 1, none⟩ b1).setCell ⟨c, 2, none⟩ b2).setCell ⟨c, 3, none⟩ b3) :=
 ((((Wr.refl [c] w).setOn (by simp) _).setOn (by simp) _).setOn (by simp) _).setOn (by simp) _
theorem use_fin {w : World} {B q : Nat} {e : TypeId} {v : Value} {us : List UseD} {c : Nat} {b0 b1 b2 b3 : Value} (h : w.ownsRow q e 2 v us.length (us.flatMap UseD.cellsF)) (hz : c ∉ ownL v) (hq : B ≤ q) :
  SlUsesF ((((w.setCell ⟨c, 0, none⟩ b0).setCell ⟨c, 1, none⟩ b1).setCell ⟨c, 2, none⟩ b2).setCell ⟨c, 3, none⟩ b3) (fun b => b ≠ c ∧ B ≤ b) v us :=
 Sl.keep (Sl.ofOwn h (P := fun b => b ≠ c ∧ B ≤ b) (fun b hb => ⟨fun e => hz (mem_ownL.2 (e ▸ hb)), Nat.le_trans hq (h.lt b hb).1⟩)) wr_set4c (fun b hb => by simpa using hb.1)
section
variable {P : Program} {md : Region.Mode} {ops : Array Oper} {Q : Exit → Act → World → Prop} {S : Array Bool → World → Prop}
theorem twL {i j : Nat} {oi oj : Oper} {fuel : Nat} {listed : Array Bool} {a : Act} {w : World} (hi' : ops.toList[i]? = some oi) (hj' : ops.toList[j]? = some oj) (hr : Region.ready md ops listed = [i, j])
  (h1 : ∀ K : Act → World → Prop, (∀ a' w', S (listed.setIfInBounds i true) w' → GoL P md ops Q S fuel (listed.setIfInBounds i true) a' w' → K a' w') → if Region.wanted oi (yielded ops a.tmps) = true then Oper.wp P oi a w K Q else K (a.put oi.dst undef) w)
  (h2 : ∀ K : Act → World → Prop, (∀ a' w', S (listed.setIfInBounds j true) w' → GoL P md ops Q S fuel (listed.setIfInBounds j true) a' w' → K a' w') → if Region.wanted oj (yielded ops a.tmps) = true then Oper.wp P oj a w K Q else K (a.put oj.dst undef) w) : GoL P md ops Q S (fuel + 1) listed a w := by
 intro hc hS
 refine ⟨fun h0 => absurd (h0.symm.trans hr) (by simp), fun k hk => ?_⟩
 have key : ∀ (i : Nat) (oi : Oper), ops[i]? = some oi → i ∈ Region.ready md ops listed → (∀ K : Act → World → Prop, (∀ a' w', S (listed.setIfInBounds i true) w' → GoL P md ops Q S fuel (listed.setIfInBounds i true) a' w' → K a' w') → if Region.wanted oi (yielded ops a.tmps) = true then Oper.wp P oi a w K Q else K (a.put oi.dst undef) w) → wpOp P ops Q i (fun a' w' => S (listed.setIfInBounds i true) w' ∧ wpAnyL P md ops Q S fuel (listed.setIfInBounds i true) a' w') a w := by
  intro i oi hi hm h
  unfold wpOp
  simp only [hi]
  have := h (fun a' w' => S (listed.setIfInBounds i true) w' ∧ wpAnyL P md ops Q S fuel (listed.setIfInBounds i true) a' w') (fun a' w' h1 h2 => ⟨h1, h2 (hc.set hm) h1⟩)
  by_cases hw : Region.wanted oi (yielded ops a.tmps) = true
  ·rw [if_pos hw] at this ⊢
   exact .inl this
  ·rw [if_neg hw] at this ⊢
   exact this
 have hk2 := hk
 rw [hr] at hk2
 simp only [qmcq, qnnq, or_false] at hk2
 rcases hk2 with rfl | rfl
 ·exact key _ _ (op_at hi') hk h1
 ·exact key _ _ (op_at hj') hk h2
end
def anewAt (f : FaceD) (n : Int) : Ty := anewT (ordOf f) ((f.types[(n - 10).toNat]?).getD zeroTy)
structure T1 (w5 : World) (f : FaceD) (c y : Nat) (vu : Value) (ord : List Int) (k : Nat) (wr : World) : Prop where
 ex : ∃ vt, Blk wr c 27 #[.string f.module, vu, vt, .slice none 0 0] ∧ RowG TyRel (fun b => b ≠ c ∧ b ≠ y) 12 w5.heap.size 52 vt ((ord.take k).map (anewAt f)) wr
 wr : Wr [c] w5 wr
theorem mapT_snoc {α β : Type} (f : α → β) {l : List α} {k : Nat} {x : α} (h : l[k]? = some x) : (l.take (k + 1)).map f = (l.take k).map f ++ [f x] := by
 rw [List.take_add_one, h, List.map_append]
 rfl
theorem T1.next {w5 wr Wf : World} {f : FaceD} {c y k : Nat} {vu : Value} {ord : List Int} {At : Option Addr} {ct : Nat} {n : Int} {ys : List Value} (hcb : Blk wr c 27 #[.string f.module, vu, .slice At k ct, .slice none 0 0])
  (hrow : RowG TyRel (fun b => b ≠ c ∧ b ≠ y) 12 w5.heap.size 52 (.slice At k ct) ((ord.take k).map (anewAt f)) wr) (hwr : Wr [c] w5 wr) (hc : c < w5.heap.size) (hvl : ∀ q, q ∈ ownL (.slice At k ct) → w5.heap.size ≤ q ∧ q < wr.heap.size)
  (K : Wr [] wr Wf) (hk : k ≤ 1024) (hn : ord[k]? = some n) (hys : ys.length = 12) (h1 : ∀ u ∈ ys, u.oneCell' = true) (hx : TyRel (Wf.alloc (.cells ys.toArray 52)) (fun bl => (bl ≠ c ∧ bl ≠ y) ∧ (Value.slice At k ct).ownBlock ≠ some bl) ys (anewAt f n)) :
  ∃ A' c' W7, (Builtin.append_ #[24, 24] 24 #[.slice At k ct, .slice (some ⟨Wf.heap.size, 0, none⟩) 1 1]).run Tryz.prog (Wf.alloc (.cells ys.toArray 52)) = .ok (.slice A' (k + 1) c') W7 ∧ Blk W7 c 27 #[.string f.module, vu, .slice At k ct, .slice none 0 0] ∧
   T1 w5 f c y vu ord (k + 1) (W7.setCell ⟨c, 2, none⟩ (.slice A' (k + 1) c')) := by
 obtain ⟨i0, hi, hz0, hz1, hz2⟩ := info_parts info_typ
 have hl : ((ord.take k).map (anewAt f)).length = k := by
  have := (List.getElem?_eq_some_iff.1 hn).1
  rw [qlmq, List.length_take]
  omega
 have K2 : Wr [] wr (Wf.alloc (.cells ys.toArray 52)) := K.alloc _
 have hr2 := hrow.keep tyOk K2 (fun q hq => by cases hq)
 have hs : w5.heap.size ≤ (Wf.alloc (.cells ys.toArray 52)).heap.size := Nat.le_trans hwr.size K2.size
 obtain ⟨A', c', W7, hrun, hrow7, r7⟩ := hr2.push tyOk (t := 24) Tryz.underlying24 hi hz0 hz1 hz2 rfl (by decide) (Blk.new Wf 52 ys.toArray) hys h1 hx (by rw [hl]; omega) (by decide) hs
 rw [hl] at hrun hrow7
 have hcn : c ∉ ownL (.slice At k ct) := fun h => by have := (hvl c h).1; omega
 have b7 := (hcb.wr0 K2).wr r7 hcn
 refine ⟨A', c', W7, hrun, b7, ⟨_, by have := b7.set_ 2 (.slice A' (k + 1) c'); simpa using this, ?_⟩, ?_⟩
 ·rw [mapT_snoc (anewAt f) hn]
  exact hrow7.keep tyOk (show Wr [c] W7 (W7.setCell ⟨c, 2, none⟩ (.slice A' (k + 1) c')) from (Wr.refl [c] W7).setOn (by simp) _) (fun q hq => by rw [qmsq] at hq; subst hq; exact .inl ⟨hc, fun h => h.1 rfl⟩)
 ·exact ((hwr.trans0 K2).trans' r7 (fun q hq => .inr (hvl q hq).1)).setOn (by simp) _
structure T2 (w6 : World) (f : FaceD) (c : Nat) (vu vt : Value) (its : List PItm) (wr : World) : Prop where
 ex : ∃ vi, Blk wr c 27 #[.string f.module, vu, vt, vi] ∧ wr.ownsRow w6.heap.size 56 8 vi its.length (its.flatMap PItm.cells)
 wr : Wr [c] w6 wr
theorem T2.next {w6 wr Wf : World} {f : FaceD} {c k : Nat} {vu vt : Value} {its : List PItm} {Ai : Option Addr} {ci : Nat} {x : PItm} (hcb : Blk wr c 27 #[.string f.module, vu, vt, .slice Ai k ci])
  (hown : wr.ownsRow w6.heap.size 56 8 (.slice Ai k ci) k (its.flatMap PItm.cells)) (hl : its.length = k) (hwr : Wr [c] w6 wr) (hc : c < w6.heap.size) (K : Wr [] wr Wf) (hk : k ≤ 1024) :
  ∃ A' c' W7, (Builtin.append_ #[25, 25] 25 #[.slice Ai k ci, .slice (some ⟨Wf.heap.size, 0, none⟩) 1 1]).run Tryz.prog (Wf.alloc (.cells x.cells.toArray 56)) = .ok (.slice A' (k + 1) c') W7 ∧ Blk W7 c 27 #[.string f.module, vu, vt, .slice Ai k ci] ∧
   T2 w6 f c vu vt (its ++ [x]) (W7.setCell ⟨c, 3, none⟩ (.slice A' (k + 1) c')) := by
 obtain ⟨i0, hi, hz0, hz1, hz2⟩ := info_parts info_ritm
 have K2 : Wr [] wr (Wf.alloc (.cells x.cells.toArray 56)) := K.alloc _
 have ho := own_wr0 hown K2
 have hs : w6.heap.size ≤ (Wf.alloc (.cells x.cells.toArray 56)).heap.size := Nat.le_trans hwr.size K2.size
 have hB := Blk.new Wf 56 x.cells.toArray
 obtain ⟨v', W7, hrun, hown7, hgrow, _, hbk⟩ := run_append_own_at (P := Tryz.prog) _ w6.heap.size 25 25 56 i0 _ 8 80 Tryz.underlying25 hi hz0 hz1 hz2 rfl (by decide) _ k _ ho ⟨Wf.heap.size, 0, none⟩ 1 1 x.cells rfl (fun jj u hu => by
  rw [Addr.add_lit, Nat.zero_add, hB.cell, qgaq]
  exact hu) (fun u hu => by simp only [PItm.cells, qmcq, qnnq, or_false] at hu; rcases hu with rfl | rfl | rfl | rfl | rfl | rfl | rfl | rfl <;> rfl) (by unfold maxLen; omega) (by omega) hs
 obtain ⟨A7, c7, hv7⟩ : ∃ A c, v' = .slice A (k + 1) c := by
  rcases hown7.2 with ⟨_, h0⟩ | ⟨gg, cap, cur, e, _⟩
  ·omega
  ·exact ⟨_, _, e⟩
 subst hv7
 have r7 := Wr.ofGrownOwn hgrow
 have hcn : c ∉ ownL (.slice Ai k ci) := fun h => by have := (ho.lt c (mem_ownL.1 h)).1; omega
 have b7 := (hcb.wr0 K2).wr r7 hcn
 refine ⟨A7, c7, W7, hrun, b7, ⟨_, by have := b7.set_ 3 (.slice A7 (k + 1) c7); simpa using this, ?_⟩, ?_⟩
 ·rw [qlaq, qfaq, hl]
  have hn : c ∉ ownL (.slice A7 (k + 1) c7) := fun h => by have := (hown7.lt c (mem_ownL.1 h)).1; omega
  refine own_keep (by simpa using hown7) (show Wr [c] W7 (W7.setCell ⟨c, 3, none⟩ (.slice A7 (k + 1) c7)) from (Wr.refl [c] W7).setOn (by simp) _) (fun q hq hm => ?_)
  rw [qmsq] at hm
  subst hm
  exact hn (mem_ownL.2 hq)
 ·exact ((hwr.trans0 K2).trans' r7 (fun q hq => .inr (ho.lt q (mem_ownL.1 hq)).1)).setOn (by simp) _
def panew (ord : List Int) (x : PItm) : PItm := { x with type := anewN ord x.type, v := if x.v.sort = 6 then { x.v with type := anewN ord x.v.type } else x.v }
theorem panew_of (ord : List Int) (x : ItmD) : panew ord (pitmOf x) = pitmOf (anewI ord x) := by
 unfold panew pitmOf anewI
 cases x.v <;> simp [valOf, anewV]
theorem canon_items (f : FaceD) : (f.items.map pitmOf).map (panew (ordOf f)) = (facePl (canonF f)).items := by
 unfold facePl canonF
 simp only [List.map_map]
 congr 1
 funext x
 exact panew_of _ x
def GSt {α : Type} (T : TypeId) (size : Nat) (cells : α → List Value) (w0 : World) (v : Value) (l : List α) (wr : World) : Prop := wr.ownsRow w0.heap.size T size v l.length (l.flatMap cells) ∧ Wr [] w0 wr
section
variable {α : Type} {T : TypeId} {size : Nat} {cells : α → List Value} {w0 wr w1 : World} {v : Value} {l : List α}
theorem GSt.nil (w0 : World) : GSt T size cells w0 (.slice none 0 0) [] w0 := ⟨World.ownsRow_nil _ _ _ _, Wr.refl _ _⟩
theorem GSt.keep (h : GSt T size cells w0 v l wr) (r : Wr [] wr w1) : GSt T size cells w0 v l w1 := ⟨own_wr0 h.1 r, h.2.trans r⟩
theorem GSt.push {bytes : Nat} {t : TypeId} {i0 : TypeInfo} {z : Value} (hu : Tryz.prog.underlying t = some (.slice T)) (hi : Tryz.prog.info? T = some i0) (hz0 : i0.zero = some z) (hz1 : i0.size = size) (hz2 : i0.bytes = bytes) (hzs : z.cells.size = size) (hsz : 0 < size)
  (h : GSt T size cells w0 v l wr) (r : Wr [] wr w1) {q : Nat} {x : α} (hq : Blk w1 q T (cells x).toArray) (hc : (cells x).length = size) (h1 : ∀ u ∈ cells x, u.oneCell' = true) (hl : l.length ≤ 65535) (hby : bytes ≤ 1000) :
  ∃ v' w', (Builtin.append_ #[t, t] t #[v, .slice (some ⟨q, 0, none⟩) 1 1]).run Tryz.prog w1 = .ok v' w' ∧ GSt T size cells w0 v' (l ++ [x]) w' := by
 have hbb : (l.length + 1) * bytes ≤ 140737488355328 := by
  have : (l.length + 1) * bytes ≤ 65536 * 1000 := Nat.mul_le_mul (by omega) hby
  omega
 have hk := h.keep r
 obtain ⟨v', w', hrun, hown, hgrow, _, hbk⟩ := run_append_own_at (P := Tryz.prog) w1 w0.heap.size t t T i0 z size bytes hu hi hz0 hz1 hz2 hzs hsz v l.length _ hk.1 ⟨q, 0, none⟩ 1 1 (cells x) (by rw [hc]; omega) (fun jj u hu => by
  rw [Addr.add_lit, Nat.zero_add, hq.cell, qgaq]
  exact hu) h1 (by unfold maxLen; omega) hbb hk.2.size
 refine ⟨v', w', hrun, ⟨by rw [qlaq, qfaq, qfcq, List.flatMap_nil, List.append_nil]; exact hown, hk.2.trans' (Wr.ofGrownOwn hgrow) (fun x hx => .inr (hk.1.lt x (mem_ownL.1 hx)).1)⟩⟩
theorem GSt.form (h : GSt T size cells w0 v l wr) {N : Nat} (hN : l.length = N) : ∃ A c, v = .slice A N c := by
 obtain ⟨A, c, e, _⟩ := own_form h.1
 exact ⟨A, c, by rw [← hN]; exact e⟩
theorem GSt.sl (h : GSt T size cells w0 v l wr) : Sl wr (fun b => w0.heap.size ≤ b) size v l.length (l.flatMap cells) := Sl.ofOwn h.1 (fun b hb => (h.1.lt b hb).1)
end
end Go.Proofs.YtjanbpchedgoiaaGreat
