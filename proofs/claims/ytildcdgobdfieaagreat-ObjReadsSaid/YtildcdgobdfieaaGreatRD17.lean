/- A document's reader at work: a thing that is read field by field, and a loop that appends what it reads to one of its lists. No conditions. -/
import Derived.Test.YtildcdgobdfieaaGreatRD16
set_option linter.unusedVariables false
set_option linter.unusedSimpArgs false
set_option maxRecDepth 100000
set_option maxHeartbeats 32000000
namespace Go.Proofs.YtildcdgobdfieaaGreat
open Go.RowKit
def CRel {α : Type} (cells : α → List Value) (w : World) (P : Nat → Prop) (ys : List Value) (x : α) : Prop := ys = cells x
theorem cOk {α : Type} (cells : α → List Value) : RelOk (CRel cells) := ⟨fun h _ _ => h, fun h _ => h⟩
theorem flat_ext {α : Type} {cells : α → List Value} {size : Nat} (hs : 0 < size) (hc : ∀ x, (cells x).length = size) {l : List α} {xs : List Value} (hl : xs.length = l.length * size)
  (h : ∀ i x, l[i]? = some x → ∀ (j : Nat) u, (cells x)[j]? = some u → xs[i * size + j]? = some u) : xs = l.flatMap cells := by
 have hfl : ∀ l : List α, (l.flatMap cells).length = l.length * size := fun l => by
  induction l with
  | nil => simp
  | cons x l ih => rw [qfcq, qlaq, ih, hc, List.length_cons, Nat.succ_mul]; omega
 apply List.ext_getElem?
 intro m
 rcases Nat.lt_or_ge m (l.length * size) with hm | hm
 ·have hi : m / size < l.length := Nat.div_lt_of_lt_mul (by rw [Nat.mul_comm]; exact hm)
  have hj : m % size < size := Nat.mod_lt _ hs
  have e : m / size * size + m % size = m := by rw [Nat.mul_comm]; exact Nat.div_add_mod m size
  have k1 := flatF_at hc l (m / size) (m % size) _ (qgeq hi) hj
  have hu := qgeq (show m % size < (cells (l[m / size]'hi)).length by rw [hc]; exact hj)
  have k2 := h (m / size) _ (qgeq hi) (m % size) _ hu
  rw [e] at k1 k2
  rw [k1, k2, hu]
 ·rw [List.getElem?_eq_none (by omega), List.getElem?_eq_none (by rw [hfl]; exact hm)]
theorem SlRel.flat {α : Type} {cells : α → List Value} {size : Nat} (hs : 0 < size) (hc : ∀ x, (cells x).length = size) {w : World} {P : Nat → Prop} {v : Value} {l : List α} (h : SlRel (CRel cells) w P size v l) : Sl w P size v l.length (l.flatMap cells) := by
 obtain ⟨xs, h1, _, h3⟩ := h
 have := flat_ext hs hc h1.len (fun i x hi j u hj => by
  obtain ⟨ys, e, hr⟩ := h3 i x hi
  exact e j u (by rw [show ys = cells x from hr]; exact hj))
 rw [← this]
 exact h1
theorem SlRel.keepR {α : Type} {Rel : World → (Nat → Prop) → List Value → α → Prop} (ok : RelOk Rel) {size : Nat} {w w' : World} {P : Nat → Prop} {v : Value} {l : List α} {ls : List Nat} (h : SlRel Rel w P size v l) (k : Wr ls w w') (hP : ∀ b, P b → b ∉ ls) : SlRel Rel w' P size v l := by
 obtain ⟨xs, h1, h2, h3⟩ := h
 refine ⟨xs, h1.keep k hP, h2, fun i x hi => ?_⟩
 obtain ⟨ys, e, hr⟩ := h3 i x hi
 exact ⟨ys, e, ok.keep hr k hP⟩
theorem SlRel.mono {α : Type} {Rel : World → (Nat → Prop) → List Value → α → Prop} (ok : RelOk Rel) {size : Nat} {w : World} {P Q : Nat → Prop} {v : Value} {l : List α} (h : SlRel Rel w P size v l) (hP : ∀ b, P b → Q b) : SlRel Rel w Q size v l := by
 obtain ⟨xs, h1, h2, h3⟩ := h
 refine ⟨xs, h1.mono hP, h2, fun i x hi => ?_⟩
 obtain ⟨ys, e, hr⟩ := h3 i x hi
 exact ⟨ys, e, ok.into hr (fun b hb _ => hP b hb)⟩
structure RdOk (R : World → Rd → Prop) (b : Nat) : Prop where
 keep : ∀ {w w' : World} {l : List Nat} {r : Rd}, R w r → Wr l w w' → b ∉ l → R w' r
theorem rdgOk (b : Nat) : RdOk (fun w r => RdG w b r) b := ⟨fun h k hb => Blk.wr h k hb⟩
structure TgS (R : World → Rd → Prop) (T0 : TypeId) (b y z : Nat) (zs : Array Value) (w : World) (r : Rd) (cs : Array Value) (wr : World) : Prop where
 blk : Blk wr z T0 cs
 res : Blk wr y T0 zs
 rd : R wr r
 wr : Wr [b] w wr
section
variable {R : World → Rd → Prop} {T0 : TypeId} {b y z : Nat} {zs cs : Array Value} {w wr w' : World} {r r' : Rd}
theorem TgS.call (h : TgS R T0 b y z zs w r cs wr) (k : Wr [b] wr w') (hz : b < z) (hy : b ≠ y) (b' : R w' r') : TgS R T0 b y z zs w r' cs w' :=
 ⟨h.blk.wr k (by simp; omega), h.res.wr k (by simp; omega), b', h.wr.trans k⟩
theorem TgS.keep (ok : RdOk R b) (h : TgS R T0 b y z zs w r cs wr) {l : List Nat} (k : Wr l wr w') (hl : ∀ q ∈ l, z < q) (hbz : b < z) (hyz : y < z) (hw : w.heap.size ≤ z) : TgS R T0 b y z zs w r cs w' :=
 ⟨h.blk.wr k (fun hm => by have := hl z hm; omega), h.res.wr k (fun hm => by have := hl y hm; omega), ok.keep h.rd k (fun hm => by have := hl b hm; omega), h.wr.trans' k (fun q hq => .inr (by have := hl q hq; omega))⟩
theorem TgS.set (ok : RdOk R b) (h : TgS R T0 b y z zs w r cs wr) (hbz : b < z) (hyz : y < z) (hw : w.heap.size ≤ z) (i : Nat) (u : Value) : TgS R T0 b y z zs w r (cs.setIfInBounds i u) (wr.setCell ⟨z, i, none⟩ u) :=
 ⟨h.blk.set_ i u, h.res.far (by simp; omega) _, ok.keep h.rd ((Wr.refl [z] wr).setOn (by simp) u) (by simp; omega), h.wr.setNew hw _⟩
end
section
variable {α : Type} (R : World → Rd → Prop) (one : Rd → α × Rd) (Rel : World → (Nat → Prop) → List Value → α → Prop) (T T0 : TypeId) (size b y z j n : Nat) (zs cs0 : Array Value) (w W0 : World) (r0 : Rd)
def LgR (k : Nat) (wr : World) : Prop :=
 ∃ (acc : List α) (r' : Rd) (A : Option Addr) (c m : Nat), acc.length = k ∧ k + m = n ∧ Rd.list one n r0 = (acc ++ (Rd.list one m r').1, (Rd.list one m r').2) ∧ TgS R T0 b y z zs w r' (cs0.setIfInBounds j (.slice A k c)) wr ∧ RowAt Rel size W0.heap.size T (.slice A k c) acc wr ∧ Wr [b, z] W0 wr
end
theorem arr_same {cs : Array Value} {j : Nat} {v : Value} (h : cs[j]? = some v) : cs.setIfInBounds j v = cs := by
 apply Array.ext_getElem?
 intro i
 rw [Array.getElem?_setIfInBounds]
 split
 ·rename_i e
  subst e
  rw [h, if_pos (Array.getElem?_eq_some_iff.1 h).1]
 ·rfl
section
variable {α : Type} {R : World → Rd → Prop} {one : Rd → α × Rd} {Rel : World → (Nat → Prop) → List Value → α → Prop} {T T0 : TypeId} {size b y z j n : Nat} {zs cs0 : Array Value} {w W0 : World} {r0 : Rd}
theorem LgR.start (h : TgS R T0 b y z zs w r0 cs0 W0) (hj : cs0[j]? = some (.slice none 0 0)) : LgR R one Rel T T0 size b y z j n zs cs0 w W0 r0 0 W0 :=
 ⟨[], r0, none, 0, n, rfl, by omega, rfl, by rw [arr_same hj]; exact h, RowAt.nil _, Wr.refl _ _⟩
theorem lg_end {acc L : List α} {m : Nat} {r' r9 : Rd} (hl : Rd.list one n r0 = (acc ++ (Rd.list one m r').1, (Rd.list one m r').2)) (he : m = 0 ∨ r'.bad = true) (hL : Rd.list one n r0 = (L, r9)) : acc = L ∧ r' = r9 := by
 have : Rd.list one m r' = ([], r') := by
  rcases he with rfl | he
  ·rfl
  ·exact list_bad _ _ _ he
 rw [this, hL] at hl
 simp only [List.append_nil, Prod.mk.injEq] at hl
 exact ⟨hl.1.symm, hl.2.symm⟩
theorem lg_push (okR : RdOk R b) (ok : RelOk Rel) {bytes : Nat} {t : TypeId} {i0 : TypeInfo} {zv : Value} (hu : Tryz.prog.underlying t = some (.slice T)) (hi : Tryz.prog.info? T = some i0) (hz0 : i0.zero = some zv) (hz1 : i0.size = size) (hz2 : i0.bytes = bytes) (hzs : zv.cells.size = size) (hsz : 0 < size) (hby : bytes ≤ 1000)
  (hbz : b < z) (hyz : y < z) (hwz : w.heap.size ≤ z) (hzB : z < W0.heap.size) {k m : Nat} {acc : List α} {r' r2 : Rd} {A : Option Addr} {c : Nat} {x : α} (hk : acc.length = k) (hm : k + (m + 1) = n) (hn : n ≤ 65535)
  (hl : Rd.list one n r0 = (acc ++ (Rd.list one (m + 1) r').1, (Rd.list one (m + 1) r').2)) (hb : r'.bad = false) (hx : one r' = (x, r2))
  {w1 : World} (ht : TgS R T0 b y z zs w r2 (cs0.setIfInBounds j (.slice A k c)) w1) (ho : RowAt Rel size W0.heap.size T (.slice A k c) acc w1) (hw : Wr [b, z] W0 w1)
  {W6 : World} {q : Nat} {ys : List Value} (r6 : Wr [] w1 W6) (hq : Blk W6 q T ys.toArray) (hys : ys.length = size) (h1 : ∀ u ∈ ys, u.oneCell' = true) (hrel : Rel W6 (fun bl => W0.heap.size ≤ bl ∧ (Value.slice A k c).ownBlock ≠ some bl) ys x) :
  ∃ A' c' W7, (Builtin.append_ #[t, t] t #[.slice A k c, .slice (some ⟨q, 0, none⟩) 1 1]).run Tryz.prog W6 = .ok (.slice A' (k + 1) c') W7 ∧ Wr (ownL (.slice A k c)) W6 W7 ∧ (∀ p ∈ ownL (.slice A k c), W0.heap.size ≤ p ∧ p < w1.heap.size) ∧ Blk W7 z T0 (cs0.setIfInBounds j (.slice A k c)) ∧
   LgR R one Rel T T0 size b y z j n zs cs0 w W0 r0 (k + 1) (W7.setCell ⟨z, j, none⟩ (.slice A' (k + 1) c')) := by
 obtain ⟨_, _, _, hv⟩ := ho.form
 obtain ⟨A', c', W7, hrun, hrow, rA⟩ := RowAt.push ok hu hi hz0 hz1 hz2 hzs hsz (ho.keep ok r6 (fun _ h => by simp at h)) hq hys h1 hrel (by omega) hby (by have h2 := r6.size; have h3 := hw.size; omega)
 rw [hk] at hrun hrow
 have hvz : ∀ p ∈ ownL (.slice A k c), z < p := fun p hp => by have := (hv p hp).1; omega
 have t6 := ht.keep okR r6 (fun _ h => by simp at h) hbz hyz hwz
 have t7 := t6.keep okR rA hvz hbz hyz hwz
 have t8 := t7.set okR hbz hyz hwz j (.slice A' (k + 1) c')
 rw [Array.setIfInBounds_setIfInBounds] at t8
 have rS : Wr [z] W7 (W7.setCell ⟨z, j, none⟩ (.slice A' (k + 1) c')) := (Wr.refl _ _).setOn (by simp) _
 refine ⟨A', c', W7, hrun, rA, hv, t7.blk, acc ++ [x], r2, A', c', m, by rw [qlaq, hk]; rfl, by omega, ?_, t8, hrow.keep ok rS (fun q hq => .inl (by rw [qmsq] at hq; omega)), ?_⟩
 ·rw [hl, list_good _ _ _ hb, hx, qapq]
  rfl
 ·exact ((hw.trans0 r6).trans' rA (fun q hq => .inr (hv q hq).1)).trans (rS.more (by simp))
end
def setL (w : World) (g : Nat) : Nat → List Value → World
 | _, [] => w
 | i, u :: us => setL (w.setCell ⟨g, i, none⟩ u) g (i + 1) us
theorem setL_wr {g : Nat} : ∀ (us : List Value) (i : Nat) (w : World), Wr [g] w (setL w g i us)
 | [], _, w => Wr.refl _ _
 | u :: us, i, w => ((Wr.refl [g] w).setOn (by simp) u).trans (setL_wr us (i + 1) _)
theorem setL_blk {g : Nat} {T : TypeId} : ∀ (us xs pre : List Value) (w : World), us.length = xs.length → Blk w g T (pre ++ xs).toArray → Blk (setL w g pre.length us) g T (pre ++ us).toArray
 | [], [], pre, w, _, h => h
 | u :: us, x :: xs, pre, w, hl, h => by
  have h1 := h.set_ pre.length u
  rw [qsaq, List.set_append_right _ _ (Nat.le_refl _), Nat.sub_self, qszq] at h1
  have h2 := setL_blk us xs (pre ++ [u]) _ (by simpa using hl) (by rw [qapq]; exact h1)
  rw [qapq, qlaq] at h2
  exact h2
theorem Blk.setL {w : World} {g : Nat} {T : TypeId} {xs : List Value} (h : Blk w g T xs.toArray) (us : List Value) (hl : us.length = xs.length) : Blk (setL w g 0 us) g T us.toArray := setL_blk us xs [] w hl h
structure ItR (R : World → Rd → Prop) (Tf : TypeId) (b f : Nat) (w : World) (r : Rd) (cs : Array Value) (wr : World) : Prop where
 blk : Blk wr f Tf cs
 rd : R wr r
 wr : Wr [b] w wr
section
variable {R : World → Rd → Prop} {Tf : TypeId} {b f : Nat} {cs : Array Value} {w wr w' : World} {r r' : Rd}
theorem ItR.new (ok : RdOk R b) (hr : R wr r) (k : Wr [b] w wr) (hb : b < w.heap.size) (cs : Array Value) (w' : World) (hw : wr.alloc (.cells cs Tf) = w') (hf : wr.heap.size = f) : ItR R Tf b f w r cs w' ∧ b < f ∧ w.heap.size ≤ f := by
 subst hw hf
 have := k.size
 exact ⟨⟨Blk.new _ _ _, ok.keep hr ((Wr.refl [] wr).alloc _) (by simp), k.trans0 ((Wr.refl _ _).alloc _)⟩, by omega, by omega⟩
theorem ItR.setL (ok : RdOk R b) {xs us : List Value} {pre : List Value} (h : ItR R Tf b f w r (pre ++ xs).toArray wr) (hf : b < f) (hw : w.heap.size ≤ f) (hl : us.length = xs.length) : ItR R Tf b f w r (pre ++ us).toArray (Proofs.YtildcdgobdfieaaGreat.setL wr f pre.length us) :=
 ⟨setL_blk us xs pre wr hl h.blk, ok.keep h.rd (setL_wr us _ wr) (by simp; omega), h.wr.new (setL_wr us _ wr) hw⟩
theorem ItR.call (h : ItR R Tf b f w r cs wr) (k : Wr [b] wr w') (hf : b < f) (b' : R w' r') : ItR R Tf b f w r' cs w' := ⟨h.blk.wr k (by simp; omega), b', h.wr.trans k⟩
theorem ItR.set (ok : RdOk R b) (h : ItR R Tf b f w r cs wr) (hf : b < f) (hw : w.heap.size ≤ f) (i : Nat) (u : Value) : ItR R Tf b f w r (cs.setIfInBounds i u) (wr.setCell ⟨f, i, none⟩ u) :=
 ⟨h.blk.set_ i u, ok.keep h.rd ((Wr.refl [f] wr).setOn (by simp) u) (by simp; omega), h.wr.setNew hw _⟩
theorem TgS.step {T0 : TypeId} {y z : Nat} {zs cs' : Array Value} {w0 : World} {r0 : Rd} (h : TgS R T0 b y z zs w0 r0 cs' w) (k : Wr [b] w wr) (rd : R wr r) (hz : b < z) (hy : b ≠ y) : TgS R T0 b y z zs w0 r cs' wr := h.call k hz hy rd
end
structure TwoI (w : World) (B : Nat) (v1 v2 : Value) (k1 k2 : Nat) (x1 x2 : List Value) : Prop where
 a : w.ownsRow B 2 1 v1 k1 x1
 b : w.ownsRow B 2 1 v2 k2 x2
 ne : ∀ q, v1.ownBlock = some q → v2.ownBlock ≠ some q
 le : B ≤ w.heap.size
theorem TwoI.swap {w : World} {B : Nat} {v1 v2 : Value} {k1 k2 : Nat} {x1 x2 : List Value} (h : TwoI w B v1 v2 k1 k2 x1 x2) : TwoI w B v2 v1 k2 k1 x2 x1 := ⟨h.b, h.a, fun q h1 h2 => h.ne q h2 h1, h.le⟩
theorem TwoI.keep {w w' : World} {B : Nat} {v1 v2 : Value} {k1 k2 : Nat} {x1 x2 : List Value} {l : List Nat} (h : TwoI w B v1 v2 k1 k2 x1 x2) (k : Wr l w w') (hl : ∀ q ∈ l, q < B) : TwoI w' B v1 v2 k1 k2 x1 x2 :=
 ⟨own_keep h.a k (fun q hq hm => by have := (h.a.lt q hq).1; have := hl q hm; omega), own_keep h.b k (fun q hq hm => by have := (h.b.lt q hq).1; have := hl q hm; omega), h.ne, Nat.le_trans h.le k.size⟩
theorem TwoI.push {w : World} {B : Nat} {v1 v2 : Value} {k1 k2 : Nat} {x1 x2 : List Value} (h : TwoI w B v1 v2 k1 k2 x1 x2) {q : Nat} {u : Value} (hq : Blk w q 2 #[u]) (hu : u.oneCell' = true) (hk : k1 ≤ 65535) :
  ∃ A c w', (Builtin.append_ #[185, 185] 185 #[v1, .slice (some ⟨q, 0, none⟩) 1 1]).run Tryz.prog w = .ok (.slice A (k1 + 1) c) w' ∧ TwoI w' B (.slice A (k1 + 1) c) v2 (k1 + 1) k2 (x1 ++ [u]) x2 ∧ Wr (ownL v1) w w' ∧ ∀ p ∈ ownL v1, B ≤ p ∧ p < w.heap.size := by
 obtain ⟨i0, hi0, hz0, hz1, hz2⟩ := info_parts info_i64
 obtain ⟨A, c, w', hrun, hown, rA, hbk⟩ := push_obj (ys := [u]) Tryz.underlying185 hi0 hz0 hz1 hz2 rfl (by decide) h.a hq rfl (by simpa using hu) hk (by decide) h.le
 refine ⟨A, c, w', hrun, ⟨hown, own_keep h.b rA (fun p hp hm => h.ne p (mem_ownL.1 hm) hp), fun p hp => ?_, Nat.le_trans h.le rA.size⟩, rA, fun p hp => h.a.lt p (mem_ownL.1 hp)⟩
 rcases hbk with e | e
 ·rw [e] at hp
  exact h.ne p hp
 ·rw [e] at hp
  injection hp with hp
  subst hp
  intro e2
  have := (h.b.lt _ e2).2
  omega
def RdH (S : ByteArray) (w : World) (b : Nat) (r : Rd) : Prop := ∃ p : Nat, p ≤ S.size ∧ r.s = S.data.toList.drop p ∧ Blk w b 117 #[.string S, .int .i64 (p : Int), .bool r.bad]
theorem rdhOk (S : ByteArray) (b : Nat) : RdOk (fun w r => RdH S w b r) b := ⟨fun ⟨p, h1, h2, h3⟩ k hb => ⟨p, h1, h2, Blk.wr h3 k hb⟩⟩
theorem RdH.lt {S : ByteArray} {w : World} {b : Nat} {r : Rd} (h : RdH S w b r) : b < w.heap.size := by
 obtain ⟨p, _, _, h3⟩ := h
 exact h3.lt
theorem ext_drop (S : ByteArray) (p n : Nat) (h : p + n ≤ S.size) : S.extract p (p + n) = ansS ((S.data.toList.drop p).take n) := by
 apply ByteArray.ext
 rw [ByteArray.data_extract]
 apply Array.ext'
 simp only [ansS, Array.toList_extract]
 rw [List.extract_eq_take_drop]
 congr 1
 omega
theorem take_h (S : ByteArray) (b n : Nat) (r : Rd) (hn : n ≤ 1000000) (hS : S.size ≤ maxLen) (w : World) (hb : RdH S w b r) :
  Calls Tryz.prog 63 #[.pointer (some ⟨b, 0, none⟩), .int .i64 (n : Int)] w fun e w' => e = .returned (.string (ansS (r.raw n).1)) ∧ Wr [b] w w' ∧ RdH S w' b (r.raw n).2 := by
 obtain ⟨l, bad⟩ := r
 obtain ⟨p, hp, hl, hb'⟩ := hb
 simp only at hl hb'
 have hll : l.length = S.size - p := by rw [hl, List.length_drop]; rfl
 unfold maxLen at hS
 obtain ⟨c0, c1, c2⟩ := c3q hb'
 have z1 := hb'.frozen 1
 have z2 := hb'.frozen 2
 have HB := qh hb'
 have HL := qh hl
 have HP := qh hp
 cases bad with
 | true =>
  have hr : (Rd.mk l true).raw n = ([], ⟨l, true⟩) := by unfold Rd.raw; simp
  rw [hr]
  clear hb' hr hl hll
  go_in
  go_wp2_with fail
  go_quiet (fail)
  clear c0 c1 c2 z1 z2
  generalize hW : World.drewN w _ = wq
  have kq : Wr [] w wq := by rw [← hW]; exact (Wr.refl _ _).drewN _
  have bq := HB.out.wr0 kq
  obtain ⟨c0, c1, c2⟩ := c3q bq
  have z1 := bq.frozen 1
  have z2 := bq.frozen 2
  have BQ := qh bq
  have KQ := qh kq
  clear hW kq bq HB
  go_wp2_with fail
  go_ret
  exact ⟨rfl, KQ.out.nil.setOn (by simp) _, p, HP.out, HL.out, BQ.out.set_ 2 (.bool true)⟩
 | false =>
  by_cases hlt : l.length < n
  ·have hr : (Rd.mk l false).raw n = ([], ⟨l, true⟩) := by unfold Rd.raw; simp [hlt]
   rw [hr]
   have e2 : (S.size : Int) - (p : Int) < (n : Int) := by omega
   clear hb' hr hl hll hlt
   go_in
   go_wp2_with fail
   go_quiet (fail)
   clear c0 c1 c2 z1 z2
   generalize hW : World.drewN w _ = wq
   have kq : Wr [] w wq := by rw [← hW]; exact (Wr.refl _ _).drewN _
   have bq := HB.out.wr0 kq
   obtain ⟨c0, c1, c2⟩ := c3q bq
   have z1 := bq.frozen 1
   have z2 := bq.frozen 2
   have BQ := qh bq
   have KQ := qh kq
   clear hW kq bq HB
   go_wp2_with fail
   go_ret
   exact ⟨rfl, KQ.out.nil.setOn (by simp) _, p, HP.out, HL.out, BQ.out.set_ 2 (.bool true)⟩
  ·have hr : (Rd.mk l false).raw n = (l.take n, ⟨l.drop n, false⟩) := by unfold Rd.raw; simp [hlt]
   rw [hr]
   have e2 : ¬ (S.size : Int) - (p : Int) < (n : Int) := by omega
   have hx := ext_drop S p n (by omega)
   have hd : l.drop n = S.data.toList.drop (p + n) := by rw [hl, List.drop_drop]
   rw [← hl] at hx
   obtain ⟨q, hq⟩ : ∃ q : Nat, p + n = q := ⟨_, rfl⟩
   rw [hq] at hx hd
   have q1 : (p : Int) + (n : Int) = (q : Int) := by omega
   have q2 : (q : Int) - (n : Int) = (p : Int) := by omega
   have q3 : (0 : Int) ≤ (p : Int) := by omega
   have q4 : (p : Int) ≤ (q : Int) := by omega
   have q5 : (q : Int) ≤ (S.size : Int) := by omega
   have q6 : q ≤ S.size := by omega
   have q7 : p ≤ q := by omega
   have HX := qh hx
   have HD := qh hd
   have Q1 := qh q1
   have hw1 : wrap64 ((p : Int) + (n : Int)) = (p : Int) + (n : Int) := by unfold wrap64; omega
   clear hb' hr hl hll hlt hx hd hq q1
   go_in
   go_wp2_with fail
   go_quiet (fail)
   clear c0 c1 c2 z1 z2
   generalize hW : World.drewN w _ = wq
   have kq : Wr [] w wq := by rw [← hW]; exact (Wr.refl _ _).drewN _
   have bq := HB.out.wr0 kq
   obtain ⟨c0, c1, c2⟩ := c3q bq
   have z1 := bq.frozen 1
   have z2 := bq.frozen 2
   have BQ := qh bq
   have KQ := qh kq
   clear hW kq bq HB
   go_upto_region 5 with (fail)
   rw [Q1.out]
   clear c0 c1 c2 z1 z2
   generalize hW2 : wq.setCell ⟨b, 1, none⟩ (.int .i64 (q : Int)) = w2
   have b2 : Blk w2 b 117 #[.string S, .int .i64 (q : Int), .bool false] := by rw [← hW2]; exact BQ.out.set_ 1 _
   have k2 : Wr [b] w w2 := by rw [← hW2]; exact KQ.out.nil.setOn (by simp) _
   obtain ⟨c0, c1⟩ := c2q b2
   have B2 := qh b2
   have K2 := qh k2
   clear hW2 b2 k2 hw1
   go_quiet (fail)
   go_wp2_with fail
   go_ret
   exact ⟨by rw [← HX.out]; rfl, K2.out.drewN _, q, q6, HD.out, B2.out.drewN _⟩
theorem num_h (S : ByteArray) (b size : Nat) (r : Rd) (hs : size ≤ 8) (hS : S.size ≤ maxLen) (w : World) (hb : RdH S w b r) :
  Calls Tryz.prog 62 #[.pointer (some ⟨b, 0, none⟩), .int .i64 (size : Int)] w fun e w' => e = .returned (.int .u64 ((r.num size).1 : Int)) ∧ Wr [b] w w' ∧ RdH S w' b (r.num size).2 := by
 have h := take_h S b size r (by omega) hS w hb
 have hl := raw_len r size
 unfold Rd.num
 generalize r.raw size = rr at *
 obtain ⟨l, r'⟩ := rr
 simp only at h hl ⊢
 obtain ⟨T, hT⟩ : ∃ T, ansS l = T := ⟨_, rfl⟩
 have hsz : T.size = l.length := by rw [← hT]; exact ansS_size l
 rw [hT] at h
 have H := qh h
 have HSZ := qh hsz
 have HT := qh hT
 clear h hb hsz hT hS
 go_in
 go_wp2_with fail
 refine H.out.mono ?_
 rintro e w1 ⟨rfl, r1, b1⟩
 have R1 := qh r1
 have B1 := qh b1
 clear r1 b1
 go_wp2_with fail
 go_loopw [6, 7] (fun v i wr => ∃ k N : Nat, k ≤ T.size ∧ i = .int .i64 k ∧ v = .int .u64 (N : Int) ∧ valN (l.take k) = N ∧ w1 = wr) (fun _ i _ => T.size - (intOf i).toNat)
 case atStart => exact ⟨0, 0, by omega, rfl, rfl, rfl, rfl⟩
 case round =>
  obtain ⟨k, N, hk, rfl, rfl, hN, rfl⟩ := hrel
  by_cases hkS : k < T.size
  ·have hi0 : (0 : Int) ≤ (k : Int) := by omega
   have hi1 : (k : Int) < (T.size : Int) := by omega
   have hkl2 : k < l.length := by have := HSZ.out; omega
   have hel : T[k]'hkS = l[k]'hkl2 := by have := HT.out; subst this; rfl
   have hv : valN (l.take (k + 1)) = 256 * N + (T[k]'hkS).toNat := by
    rw [List.take_succ_eq_append_getElem hkl2, valN_snoc, hN, hel]
   have hn : N < 72057594037927936 := by
    have h1 := valN_lt (l.take k)
    have h2 : 256 ^ (l.take k).length ≤ 256 ^ 7 := Nat.pow_le_pow_right (by decide) (by rw [List.length_take]; omega)
    have h3 : (256 : Nat) ^ 7 = 72057594037927936 := by decide
    omega
   have hc8 := (T[k]'hkS).toNat_lt
   have hm : IntKind.u64.wrap (256 * (N : Int)) = 256 * (N : Int) := by rw [IntKind.wrap_u64]; omega
   have hcw : IntKind.u64.wrap ((T[k]'hkS).toNat : Int) = ((T[k]'hkS).toNat : Int) := by rw [IntKind.wrap_u64]; omega
   have ha : IntKind.u64.wrap (256 * (N : Int) + ((T[k]'hkS).toNat : Int)) = 256 * (N : Int) + ((T[k]'hkS).toNat : Int) := by rw [IntKind.wrap_u64]; omega
   have HVV := qh hv
   clear hv hN hel
   go_wp2_with fail
   go_roundw
   case rel => exact ⟨k + 1, 256 * N + (T[k]'hkS).toNat, by omega, by go_num, by push_cast; rfl, HVV.out, trivial⟩
   case measure => simp [intOf]; omega
  ·have hks : k = l.length := by have := HSZ.out; omega
   have hi1 : ¬ (k : Int) < (T.size : Int) := by omega
   rw [hks, List.take_length] at hN
   have HN := qh hN
   clear hN hks
   go_wp2_with fail
   go_ret
   exact ⟨by rw [HN.out]; rfl, R1.out, B1.out⟩
theorem truth_h (S : ByteArray) (b : Nat) (r : Rd) (hS : S.size ≤ maxLen) (w : World) (hb : RdH S w b r) :
  Calls Tryz.prog 64 #[.pointer (some ⟨b, 0, none⟩)] w fun e w' => e = .returned (.bool r.truth.1) ∧ Wr [b] w w' ∧ RdH S w' b r.truth.2 := by
 have h := num_h S b 1 r (by decide) hS w hb
 unfold Rd.truth
 generalize r.num 1 = rr at *
 obtain ⟨v, l, bad⟩ := rr
 simp only at h ⊢
 have e1 : ((v : Int) == 1) = decide (v = 1) := by rw [Bool.eq_iff_iff]; simp only [beq_iff_eq, decide_eq_true_eq]; omega
 obtain ⟨d1, hd1⟩ : ∃ q, decide (v = 1) = q := ⟨_, rfl⟩
 rw [hd1] at e1
 rw [hd1]
 have H := qh h
 clear hb h hd1 hS
 by_cases hv : 1 < v
 ·have e4 : (1 : Int) < (v : Int) := by omega
  have e5 : (bad || decide (1 < v)) = true := by simp [hv]
  rw [e5]
  clear e5 hv
  go_in
  go_wp2_with fail
  refine H.out.mono ?_
  rintro e w1 ⟨rfl, r1, p, hp, hl, b1⟩
  have c1 := b1.cell 2
  have z1 := b1.frozen 2
  simp only [qgaq, qgzq, qgsq] at c1
  have B1 := qh b1
  clear b1
  go_wp2_with fail
  go_ret
  exact ⟨rfl, r1.setOn (by simp) _, p, hp, hl, B1.out.set_ 2 _⟩
 ·have e4 : ¬ (1 : Int) < (v : Int) := by omega
  have e5 : (bad || decide (1 < v)) = bad := by simp [hv]
  rw [e5]
  clear e5 hv
  go_in
  go_wp2_with fail
  refine H.out.mono ?_
  rintro e w1 ⟨rfl, r1, b1⟩
  go_wp2_with fail
  go_ret
  exact ⟨rfl, r1, b1⟩
end Go.Proofs.YtildcdgobdfieaaGreat
