/- iface's list, reading: walked, where the things have lists of their own. Conditions: each is read as its reader says. -/
import Derived.Test.YtildcdgobdfieaaGreatRD15
set_option linter.unusedVariables false
set_option linter.unusedSimpArgs false
set_option maxRecDepth 100000
set_option maxHeartbeats 32000000
namespace Go.Proofs.YtildcdgobdfieaaGreat
open Go.RowKit
structure RelOk {α : Type} (Rel : World → (Nat → Prop) → List Value → α → Prop) : Prop where
 keep : ∀ {w w' : World} {P : Nat → Prop} {l : List Nat} {ys : List Value} {x : α}, Rel w P ys x → Wr l w w' → (∀ b, P b → b ∉ l) → Rel w' P ys x
 into : ∀ {w : World} {P Q : Nat → Prop} {ys : List Value} {x : α}, Rel w P ys x → (∀ b, P b → b < w.heap.size → Q b) → Rel w Q ys x
theorem RelOk.keep' {α : Type} {Rel : World → (Nat → Prop) → List Value → α → Prop} (h : RelOk Rel) {w w' : World} {P : Nat → Prop} {l : List Nat} {ys : List Value} {x : α} (hr : Rel w P ys x) (r : Wr l w w') (hl : ∀ b, P b → b < w.heap.size → b ∉ l) : Rel w' P ys x :=
 h.into (h.keep (h.into hr (Q := fun b => P b ∧ b < w.heap.size) (fun b h1 h2 => ⟨h1, h2⟩)) r (fun b hb => hl b hb.1 hb.2)) (fun b hb _ => hb.1)
def ArmRel (w : World) (P : Nat → Prop) (ys : List Value) (x : ArmD) : Prop := ∃ va vb, ys = [va, vb, .bool x.els] ∧ SlInts w P va x.frm ∧ SlInts w P vb x.to
def TyRel (w : World) (P : Nat → Prop) (ys : List Value) (x : Ty) : Prop := ∃ vn vf va vp, ys = x.cells vn vf va vp ∧ Lists w P vn vf va vp x
theorem armOk : RelOk ArmRel where
 keep := fun ⟨va, vb, h, k1, k2⟩ r hl => ⟨va, vb, h, Sl.keep k1 r hl, Sl.keep k2 r hl⟩
 into := fun ⟨va, vb, h, k1, k2⟩ hP => ⟨va, vb, h, Sl.into k1 hP, Sl.into k2 hP⟩
theorem tyOk : RelOk TyRel where
 keep := fun ⟨va, vb, vc, vd, h, k1⟩ r hl => ⟨va, vb, vc, vd, h, k1.keep r hl⟩
 into := fun ⟨va, vb, vc, vd, h, k1⟩ hP => ⟨va, vb, vc, vd, h, k1.into hP⟩
def RowAt {α : Type} (Rel : World → (Nat → Prop) → List Value → α → Prop) (size base : Nat) (T : TypeId) (v : Value) (acc : List α) (w : World) : Prop :=
 ∃ xs, w.ownsRow base T size v acc.length xs ∧ (∀ u ∈ xs, u.oneCell' = true) ∧ ∀ i x, acc[i]? = some x → ∃ ys, ys.length = size ∧ (∀ (j : Nat) u, ys[j]? = some u → xs[i * size + j]? = some u) ∧ Rel w (fun bl => base ≤ bl ∧ v.ownBlock ≠ some bl) ys x
def SlRel {α : Type} (Rel : World → (Nat → Prop) → List Value → α → Prop) (w : World) (P : Nat → Prop) (size : Nat) (v : Value) (l : List α) : Prop :=
 ∃ xs, Sl w P size v l.length xs ∧ (∀ u ∈ xs, u.oneCell' = true) ∧ ∀ i x, l[i]? = some x → ∃ ys, (∀ (j : Nat) u, ys[j]? = some u → xs[i * size + j]? = some u) ∧ Rel w P ys x
section
variable {α : Type} {Rel : World → (Nat → Prop) → List Value → α → Prop} (ok : RelOk Rel) {size base : Nat} {T : TypeId} {v : Value} {acc : List α} {w w' : World}
theorem RowAt.nil (w : World) : RowAt Rel size base T (.slice none 0 0) [] w := ⟨[], World.ownsRow_nil _ _ _ _, by simp, fun i x h => by simp at h⟩
include ok
theorem RowAt.keep (h : RowAt Rel size base T v acc w) {l : List Nat} (r : Wr l w w') (hl : ∀ q ∈ l, q < base ∨ w.heap.size ≤ q) : RowAt Rel size base T v acc w' := by
 obtain ⟨xs, ho, h1, h2⟩ := h
 refine ⟨xs, own_keep ho r (fun q hq hm => ?_), h1, fun i x hi => ?_⟩
 ·have := ho.lt q hq
  have := hl q hm
  omega
 ·obtain ⟨ys, e1, e2, e3⟩ := h2 i x hi
  exact ⟨ys, e1, e2, ok.keep' e3 r (fun q hq hlt hm => by have := hl q hm; have := hq.1; omega)⟩
theorem RowAt.out (h : RowAt Rel size base T v acc w) : SlRel Rel w (fun bl => base ≤ bl) size v acc := by
 obtain ⟨xs, ho, h1, h2⟩ := h
 refine ⟨xs, Sl.ofOwn ho (fun b hb => (ho.lt b hb).1), h1, fun i x hi => ?_⟩
 obtain ⟨ys, e1, e2, e3⟩ := h2 i x hi
 exact ⟨ys, e2, ok.into e3 (fun b hb _ => hb.1)⟩
theorem RowAt.push {bytes : Nat} {t : TypeId} {i0 : TypeInfo} {z : Value} (hu : Tryz.prog.underlying t = some (.slice T)) (hi : Tryz.prog.info? T = some i0) (hz0 : i0.zero = some z) (hz1 : i0.size = size) (hz2 : i0.bytes = bytes) (hzs : z.cells.size = size) (hsz : 0 < size)
  (h : RowAt Rel size base T v acc w) {B : Nat} {ys : List Value} (hB : Blk w B T ys.toArray) (hys : ys.length = size) (h1 : ∀ u ∈ ys, u.oneCell' = true) {x : α} (hx : Rel w (fun bl => base ≤ bl ∧ v.ownBlock ≠ some bl) ys x) (hk : acc.length ≤ 65535) (hby : bytes ≤ 1000) (hbase : base ≤ w.heap.size) :
  ∃ A c w', (Builtin.append_ #[t, t] t #[v, .slice (some ⟨B, 0, none⟩) 1 1]).run Tryz.prog w = .ok (.slice A (acc.length + 1) c) w' ∧ RowAt Rel size base T (.slice A (acc.length + 1) c) (acc ++ [x]) w' ∧ Wr (ownL v) w w' := by
 obtain ⟨xs, ho, h2, h3⟩ := h
 have hbb : (acc.length + 1) * bytes ≤ 140737488355328 := by
  have : (acc.length + 1) * bytes ≤ 65536 * 1000 := Nat.mul_le_mul (by omega) hby
  omega
 obtain ⟨v', w', hrun, hown, hgrow, _, hbk⟩ := run_append_own_at (P := Tryz.prog) w base t t T i0 z size bytes hu hi hz0 hz1 hz2 hzs hsz v acc.length _ ho ⟨B, 0, none⟩ 1 1 ys (by rw [hys]; omega) (fun jj u hu => by
  rw [Addr.add_lit, Nat.zero_add, hB.cell, qgaq]
  exact hu) h1 (by unfold maxLen; omega) hbb hbase
 obtain ⟨A7, c7, hv7⟩ : ∃ A c, v' = .slice A (acc.length + 1) c := by
  rcases hown.2 with ⟨_, h0⟩ | ⟨gg, cap, cur, e, _⟩
  ·omega
  ·exact ⟨_, _, e⟩
 subst hv7
 have rA : Wr (ownL v) w w' := Wr.ofGrownOwn hgrow
 have hnew : ∀ {ys : List Value} {x : α}, Rel w (fun bl => base ≤ bl ∧ v.ownBlock ≠ some bl) ys x → Rel w' (fun bl => base ≤ bl ∧ (Value.slice A7 (acc.length + 1) c7).ownBlock ≠ some bl) ys x := by
  intro ys x hr
  refine ok.into (ok.keep (ok.into hr (Q := fun bl => (base ≤ bl ∧ v.ownBlock ≠ some bl) ∧ bl < w.heap.size) (fun b h1 h2 => ⟨h1, h2⟩)) rA (fun b hb hm => hb.1.2 (mem_ownL.1 hm))) (fun b hb _ => ⟨hb.1.1, fun e => ?_⟩)
  rcases hbk with h | h
  ·exact hb.1.2 (h ▸ e)
  ·rw [h] at e
   injection e with e
   have := hb.2
   omega
 refine ⟨A7, c7, w', hrun, ⟨xs ++ ys, by rw [qlaq]; exact hown, fun u hu => ?_, fun i y hy => ?_⟩, rA⟩
 ·rcases List.mem_append.1 hu with h | h
  ·exact h2 u h
  ·exact h1 u h
 ·by_cases hi : i < acc.length
  ·rw [qglq hi] at hy
   obtain ⟨zs, e1, e2, e3⟩ := h3 i y hy
   refine ⟨zs, e1, fun j u hj => ?_, hnew e3⟩
   have := e2 j u hj
   rw [qglq (List.getElem?_eq_some_iff.1 this).1]
   exact this
  ·have hil := (List.getElem?_eq_some_iff.1 hy).1
   rw [qlaq, List.length_singleton] at hil
   obtain rfl : i = acc.length := by omega
   rw [qgrq (Nat.le_refl _), Nat.sub_self, qgzq] at hy
   obtain rfl : x = y := by simpa using hy
   refine ⟨ys, hys, fun j u hj => ?_, hnew hx⟩
   rw [qgrq (by rw [ho.1]; omega), ho.1, Nat.add_sub_cancel_left]
   exact hj
end
theorem SlRel.arms {w : World} {P : Nat → Prop} {v : Value} {l : List ArmD} (h : SlRel ArmRel w P 3 v l) : SlArms w P v l := by
 obtain ⟨xs, h1, h2, h3⟩ := h
 refine ⟨xs, h1, h2, fun i x hi => ?_⟩
 obtain ⟨ys, e, va, vb, rfl, ka, kb⟩ := h3 i x hi
 exact ⟨va, vb, by simpa using e 0 va rfl, e 1 vb rfl, e 2 _ rfl, ka, kb⟩
theorem SlRel.tys {w : World} {P : Nat → Prop} {v : Value} {l : List Ty} (h : SlRel TyRel w P 12 v l) : SlTys w P v l := by
 obtain ⟨xs, h1, h2, h3⟩ := h
 refine ⟨xs, h1, h2, fun i x hi => ?_⟩
 obtain ⟨ys, e, vn, vf, va, vp, rfl, kl⟩ := h3 i x hi
 exact ⟨vn, vf, va, vp, e, kl⟩
def LrAtG {α : Type} (one : Rd → α × Rd) (Rel : World → (Nat → Prop) → List Value → α → Prop) (T : TypeId) (size : Nat) (w : World) (b g j : Nat) (t0 : TypeId) (cs0 : Array Value) (n : Nat) (r0 : Rd) (m : Nat) (wr : World) : Prop :=
 ∃ (acc : List α) (r' : Rd) (v : Value), acc.length + m = n ∧ Rd.list one n r0 = (acc ++ (Rd.list one m r').1, (Rd.list one m r').2) ∧ WlkR wr b r' ∧ Blk wr g t0 (cs0.setIfInBounds j v) ∧ RowAt Rel size w.heap.size T v acc wr ∧ Wr [b, g] w wr
theorem RowAt.form {α : Type} {Rel : World → (Nat → Prop) → List Value → α → Prop} {size base : Nat} {T : TypeId} {v : Value} {acc : List α} {w : World} (h : RowAt Rel size base T v acc w) : ∃ A c, v = .slice A acc.length c ∧ ∀ q, q ∈ ownL v → base ≤ q ∧ q < w.heap.size := by
 obtain ⟨xs, ho, _⟩ := h
 obtain ⟨A, c, e, _, _⟩ := own_form ho
 exact ⟨A, c, e, fun q hq => ho.lt q (mem_ownL.1 hq)⟩
theorem lr_Arm (b q g j : Nat) (t0 : TypeId) (cs0 : Array Value) (A0 : Option Addr) (n0 c0 : Nat) (r : Rd) (w : World) (hb : WlkR w b r) (hg : g ≠ b) (hl : Blk w g t0 cs0) (hj : cs0[j]? = some (.slice A0 n0 c0))
  (hE : ∀ W r' gx, WlkR W b r' → gx ≠ b → Blk W gx 187 #[.slice none 0 0, .slice none 0 0, .bool false] → Calls Tryz.prog 147 #[.pointer (some ⟨b, 0, none⟩), .pointer (some ⟨gx, 0, none⟩)] W fun e W' => e = .returned (.tuple #[]) ∧ Wr [b, gx] W W' ∧ WlkR W' b (Rd.arm r').2 ∧ ∃ ys, Blk W' gx 187 ys.toArray ∧ ArmRel W' (fun bl => W.heap.size ≤ bl) ys (Rd.arm r').1) :
  Calls Tryz.prog 146 #[.pointer (some ⟨b, 0, none⟩), .pointer (some ⟨g, j, none⟩), .func (.func 147) #[.pointer (some ⟨b, 0, none⟩)] #[]] w fun e w' => e = .returned (.tuple #[]) ∧ ∃ A c, Wr [b, g] w w' ∧ WlkR w' b (r.lst Rd.arm).2 ∧ Blk w' g t0 (cs0.setIfInBounds j (.slice A (r.lst Rd.arm).1.length c)) ∧ SlRel ArmRel w' (fun bl => w.heap.size ≤ bl) 3 (.slice A (r.lst Rd.arm).1.length c) (r.lst Rd.arm).1 := by
 have hgl := hl.lt
 have hbl := hb.lt
 obtain ⟨i0, hi0, hz0, hz1, hz2⟩ := info_parts info_arm
 have h := fun m => count_r b r w hb m
 have hlt := num_lt (k := 2) (by omega) r
 unfold Rd.lst
 generalize r.num 2 = rr at *
 obtain ⟨n, r1⟩ := rr
 simp only at hlt h ⊢
 obtain ⟨LL, hLL⟩ : ∃ LL, Rd.list Rd.arm n r1 = LL := ⟨_, rfl⟩
 rw [hLL]
 obtain ⟨L1, L2⟩ := LL
 simp only
 have HLL := qh hLL
 clear hLL
 have hjl : j < cs0.size := (Array.getElem?_eq_some_iff.1 hj).1
 have lc := (hl.cell j).trans hj
 have H := qh h
 have HE := qh hE
 have HL := qh hl
 clear hb h hE hl
 go_in
 go_wp2_with fail
 refine (H.out _).mono ?_
 rintro e w1 ⟨rfl, rw1, b1⟩
 clear lc
 have hl1 := HL.out.wr rw1 (by simpa using hg)
 have lc := (hl1.cell j).trans hj
 have lz := hl1.frozen j
 have d1 := b1.cell 1
 simp only [qgaq, qgzq, qgsq] at d1
 obtain ⟨w2, hw2⟩ : ∃ q, w1.setCell ⟨g, j, none⟩ (.slice none 0 0) = q := ⟨_, rfl⟩
 have r2 : Wr [b, g] w w2 := by rw [← hw2]; exact (rw1.more (by simp)).setOn (by simp) _
 have b2 : WlkR w2 b r1 := by rw [← hw2]; exact Blk.far b1 (fun e => hg e.symm) _
 have l2 : Blk w2 g t0 (cs0.setIfInBounds j (.slice none 0 0)) := by rw [← hw2]; exact hl1.set_ j _
 have hat : LrAtG Rd.arm ArmRel 187 3 w b g j t0 cs0 n r1 n w2 := ⟨[], r1, .slice none 0 0, by simp, by simp, b2, l2, RowAt.nil _, r2⟩
 have HAT := qh hat
 have HW2 := qh hw2
 clear b1 hl1 r2 b2 l2 hat hw2 rw1
 go_upto_region 3 with (fail)
 rw [HW2.out]
 clear lc lz d1
 go_loopw [6] (fun s6 wr => ∃ m : Nat, s6 = .int .i64 m ∧ LrAtG Rd.arm ArmRel 187 3 w b g j t0 cs0 n r1 m wr) (fun s6 _ => (intOf s6).toNat)
 case atStart => exact ⟨n, rfl, HAT.out⟩
 case round =>
  obtain ⟨m, rfl, acc, r', v, hlen, hlist, bk, lk, ow, rk⟩ := hrel
  obtain ⟨l, bad⟩ := r'
  have d2 := bk.cell 2
  simp only [qgaq, qgzq, qgsq] at d2
  by_cases hgo : 0 < m ∧ bad = false
  ·obtain ⟨hm0, rfl⟩ := hgo
   obtain ⟨m, rfl⟩ : ∃ m', m = m' + 1 := ⟨m - 1, by omega⟩
   rw [list_good _ _ _ rfl] at hlist
   obtain ⟨Av, cv, hv, hnv0⟩ := ow.form
   subst hv
   obtain ⟨k, hk⟩ : ∃ k, acc.length = k := ⟨_, rfl⟩
   rw [hk] at lk ow hlen hnv0
   have hk6 : k < 65536 := by omega
   obtain ⟨wz0, hwz⟩ : ∃ q, wr.alloc (.cells #[.slice none 0 0, .slice none 0 0, .bool false] 187) = q := ⟨_, rfl⟩
   obtain ⟨z, hz⟩ : ∃ z, wr.heap.size = z := ⟨_, rfl⟩
   have qz : Wr [] wr wz0 := by rw [← hwz]; exact (Wr.refl _ _).alloc _
   have bz : Blk wz0 z 187 #[.slice none 0 0, .slice none 0 0, .bool false] := by rw [← hwz, ← hz]; exact Blk.new _ _ _
   have hgz : g < z := by rw [← hz]; exact lk.lt
   have hbz : b < z := by rw [← hz]; exact Blk.lt bk
   have hwz' : w.heap.size ≤ z := by rw [← hz]; exact rk.size
   have hnv : ∀ q, q ∈ ownL (.slice Av k cv) → w.heap.size ≤ q ∧ q < z := fun q hq => by rw [← hz]; exact hnv0 q hq
   have hzlt : z < wz0.heap.size := bz.lt
   have hcall := HE.out wz0 ⟨l, false⟩ z (Blk.wr0 bk qz) (by omega) bz
   have HCALL := qh hcall
   have BK := qh (Blk.wr0 bk qz)
   have LK := qh (lk.wr0 qz)
   have OW := qh ow
   have QZ := qh qz
   have RK := qh (rk.trans0 qz)
   have HWZ := qh hwz
   have HZ := qh hz
   have HLIST := qh hlist
   have HNV := qh hnv
   have HK := qh hk
   have hm1 : (0 : Int) < ((m + 1 : Nat) : Int) := by omega
   have hm2 : ((m : Int) + 1) - 1 = (m : Int) := by omega
   clear hcall bk lk ow rk qz bz hwz hz hlist hnv hk hnv0
   go_upto_region 6 with (fail)
   rw [HWZ.out, HZ.out]
   clear d2
   go_wp2_with fail
   refine HCALL.out.mono ?_
   rintro e wz ⟨rfl, rz, bz, ys, xz, hrel⟩
   obtain ⟨x, hx⟩ : ∃ x, (Rd.arm ⟨l, false⟩).1 = x := ⟨_, rfl⟩
   rw [hx] at hrel
   obtain ⟨va, vb, rfl, ka, kb⟩ := hrel
   obtain ⟨Aa, ca, rfl, _, _⟩ := Sl.form ka
   obtain ⟨Ab, cb, rfl, _, _⟩ := Sl.form kb
   have hrel : ArmRel wz (fun bl => wz0.heap.size ≤ bl) [.slice Aa x.frm.length ca, .slice Ab x.to.length cb, .bool x.els] x := ⟨_, _, rfl, ka, kb⟩
   clear ka kb
   replace xz : Blk wz z 187 #[.slice Aa x.frm.length ca, .slice Ab x.to.length cb, .bool x.els] := xz
   have hown : RowAt ArmRel 3 w.heap.size 187 (.slice Av k cv) acc wz := OW.out.keep armOk (QZ.out.nil.trans rz) (fun q hq => by
    simp only [qmcq, qnnq, or_false] at hq
    rcases hq with e | e
    ·exact .inl (by omega)
    ·exact .inr (by have := HZ.out; omega))
   have lz := LK.out.wr rz (by simp; omega)
   have rkz : Wr [b, g] w wz := RK.out.trans' rz (fun q hq => by
    simp only [qmcq, qnnq, or_false] at hq
    rcases hq with e | e
    ·subst e
     exact .inl (by simp)
    ·rw [e]
     exact .inr hwz')
   have hn1 : g ∉ ownL (.slice Av k cv) := fun hm => by have := (HNV.out _ hm).1; omega
   have hn2 : z ∉ ownL (.slice Av k cv) := fun hm => by have := (HNV.out _ hm).2; omega
   have hnb : b ∉ ownL (.slice Av k cv) := fun hm => by have := (HNV.out _ hm).1; omega
   obtain ⟨W6, hW6⟩ : ∃ q, (wz.alloc (.cells #[.slice Aa x.frm.length ca, .slice Ab x.to.length cb, .bool x.els] 187)).drew = q := ⟨_, rfl⟩
   have r6 : Wr [] wz W6 := by rw [← hW6]; exact ((Wr.refl [] wz).alloc _).drew
   have n6 : Blk W6 wz.heap.size 187 #[.slice Aa x.frm.length ca, .slice Ab x.to.length cb, .bool x.els] := by rw [← hW6]; exact (Blk.new _ _ _).drew
   have ho1 : ∀ u ∈ ([.slice Aa x.frm.length ca, .slice Ab x.to.length cb, .bool x.els] : List Value), u.oneCell' = true := by
    intro u hu
    simp only [qmcq, qnnq, or_false] at hu
    rcases hu with rfl | rfl | rfl
    ·rfl
    ·rfl
    ·rfl
   have hrel6 : ArmRel W6 (fun bl => w.heap.size ≤ bl ∧ (Value.slice Av k cv).ownBlock ≠ some bl) [.slice Aa x.frm.length ca, .slice Ab x.to.length cb, .bool x.els] x := armOk.into (armOk.keep hrel r6 (fun _ _ => by simp)) (fun bl hb _ => ⟨by omega, fun e => by have := (HNV.out bl (mem_ownL.2 e)).2; omega⟩)
   obtain ⟨A7, c7, W7, hrun, hown7, rA⟩ := RowAt.push armOk (t := 126) Tryz.underlying126 hi0 hz0 hz1 hz2 rfl (by decide) (hown.keep armOk r6 (fun _ h => by simp at h)) n6 rfl ho1 hrel6 (by rw [HK.out]; omega) (by omega) (by have h2 := r6.size; have h3 := rkz.size; omega)
   rw [HK.out] at hrun hown7
   have b7 := (lz.wr0 r6).wr rA hn1
   have f7 := b7.frozen j
   have c7' : W7.cell? ⟨g, j, none⟩ = some (.slice Av k cv) := (b7.cell j).trans (by simp [hjl])
   have l0 : wz.cell? ⟨g, j, none⟩ = some (.slice Av k cv) := (lz.cell j).trans (by simp [hjl])
   have hfin : LrAtG Rd.arm ArmRel 187 3 w b g j t0 cs0 n r1 m (W7.setCell ⟨g, j, none⟩ (.slice A7 (k + 1) c7)) := by
    have rS : Wr [g] W7 (W7.setCell ⟨g, j, none⟩ (.slice A7 (k + 1) c7)) := (Wr.refl _ _).setOn (by simp) _
    have hkl : (acc ++ [x]).length = k + 1 := by rw [qlaq, HK.out]; rfl
    refine ⟨acc ++ [x], (Rd.arm ⟨l, false⟩).2, .slice A7 (k + 1) c7, by rw [hkl]; omega, ?_, ?_, ?_, hown7.keep armOk rS (fun q hq => .inl (by rw [qmsq] at hq; omega)), ?_⟩
    ·rw [HLIST.out, hx, qapq]
     rfl
    ·exact Blk.far ((Blk.wr0 bz r6).wr rA hnb) (fun e => hg e.symm) _
    ·have := b7.set_ j (.slice A7 (k + 1) c7)
     rw [Array.setIfInBounds_setIfInBounds] at this
     exact this
    ·exact ((rkz.trans0 r6).trans' rA (fun q hq => .inr (HNV.out q hq).1)).trans (rS.more (by simp))
   have HRUN := qh hrun
   have RA := qh rA
   have HFIN := qh hfin
   have HN1 := qh hn1
   have HN2 := qh hn2
   have R6 := qh r6
   have HW6 := qh hW6
   obtain ⟨y0, y1, y2⟩ := c3q xz
   clear hrun rA hfin hn1 hn2 r6 hW6 n6 b7 lz hown hown7 xz bz rz hnb ho1 hrel hrel6
   go_upto_region 7 with (fail)
   refine begin1 8 (ownL (.slice Av k cv)) (fun w' => w'.cell? ⟨g, j, none⟩ = some (.slice Av k cv) ∧ w'.cell? ⟨z, 0, none⟩ = some (.slice Aa x.frm.length ca) ∧ w'.cell? ⟨z, 1, none⟩ = some (.slice Ab x.to.length cb) ∧ w'.cell? ⟨z, 2, none⟩ = some (.bool x.els)) (by kernel_rfl) (fun W hW => ⟨hW.cellOf l0 HN1.out, hW.cellOf y0 HN2.out, hW.cellOf y1 HN2.out, hW.cellOf y2 HN2.out⟩) fun HC hcl hS => ?_
   refine mvu 0 (by rfl) (by kernel_rfl) (by rfl) (fun w' hS => by (try go_split_ands); go_simp; try rfl) hcl hS fun hcl1 hS1 => ?_
   clear hcl hS
   try simp only [Act.put, qsaq, qszq, qssq]
   refine mvu 1 (by rfl) (by kernel_rfl) (by rfl) (fun w' hS => by (try go_split_ands); go_simp; try rfl) hcl1 hS1 fun hcl2 hS2 => ?_
   clear hcl1 hS1
   try simp only [Act.put, qsaq, qszq, qssq]
   refine mvu 2 (by rfl) (by kernel_rfl) (by rfl) (fun w' hS => by (try go_split_ands); go_simp; try rfl) hcl2 hS2 fun hcl3 hS3 => ?_
   clear hcl2 hS2
   try simp only [Act.put, qsaq, qszq, qssq]
   refine mvu 3 (by rfl) (by kernel_rfl) (by rfl) (fun w' hS => by (try go_split_ands); go_simp; try rfl) hcl3 hS3 fun hcl4 hS4 => ?_
   clear hcl3 hS3
   try simp only [Act.put, qsaq, qszq, qssq]
   refine mvu 4 (by rfl) (by kernel_rfl) (by rfl) (fun w' hS => by (try go_split_ands); go_simp; try rfl) hcl4 hS4 fun hcl5 hS5 => ?_
   clear hcl4 hS4
   try simp only [Act.put, qsaq, qszq, qssq]
   refine st0 5 (by rfl) (by kernel_rfl) hcl5 fun K hK => ?_
   go_simp
   try rw [HW6.out]
   refine hK _ _ (fun _ => HC.out _ (R6.out.nil)) (fun hcl6 => ?_)
   clear hK K hcl5 hS5
   try simp only [Act.put, qsaq, qszq, qssq]
   refine st0 6 (by rfl) (by kernel_rfl) hcl6 fun K hK => ?_
   refine step_append_run (by rfl) _ _ _ (by rfl) _ _ (by rfl) (by rfl) _ _ HRUN.out ?_
   refine hK _ _ (fun _ => HC.out _ (R6.out.nil.trans RA.out)) (fun hcl7 => ?_)
   clear hK K hcl6
   try simp only [Act.put, qsaq, qszq, qssq]
   refine st0 7 (by rfl) (by kernel_rfl) hcl7 fun K hK => ?_
   go_simp
   refine hK _ _ (fun _ => HC.out _ (R6.out.nil.trans RA.out)) (fun hcl8 => ?_)
   clear hK K hcl7
   try simp only [Act.put, qsaq, qszq, qssq]
   refine st0 8 (by rfl) (by kernel_rfl) hcl8 fun K hK => ?_
   go_simp
   refine hK _ _ (fun hb => absurd hb (by decide)) (fun hcl999 => ?_)
   clear hK K hcl8
   refine wpAnyL_done (by kernel_rfl) (NoPanic.normal ?_) _
   try simp only [Act.put, qsaq, qszq, qssq]
   go_wp2_with fail
   go_roundw
   case rel => exact ⟨m, by first | rfl | (go_num), HFIN.out⟩
   case measure => first | (simp [intOf]; done) | (simp [intOf]; omega)
  ·have hend : Rd.list Rd.arm m ⟨l, bad⟩ = ([], ⟨l, bad⟩) := by
    by_cases hb : bad = true
    ·exact list_bad _ _ _ hb
    ·obtain rfl : m = 0 := by
      have : bad = false := by cases bad <;> simp_all
      have h0 : ¬ 0 < m := fun h => hgo ⟨h, this⟩
      omega
     rfl
   rw [hend] at hlist
   simp only [List.append_nil] at hlist
   have hLL := HLL.out
   rw [hlist] at hLL
   injection hLL with hL1 hL2
   subst hL1 hL2
   obtain ⟨Av, cv, hv, _⟩ := ow.form
   subst hv
   have hpost := ow.out armOk
   have HP := qh (show Wr [b, g] w wr ∧ WlkR wr b ⟨l, bad⟩ ∧ Blk wr g t0 (cs0.setIfInBounds j (.slice Av acc.length cv)) ∧ SlRel ArmRel wr (fun bl => w.heap.size ≤ bl) 3 (.slice Av acc.length cv) acc from ⟨rk, bk, lk, hpost⟩)
   have h0 : m = 0 ∨ (0 < m ∧ bad = true) := by
    rcases Nat.eq_zero_or_pos m with h | h
    ·exact .inl h
    ·refine .inr ⟨h, ?_⟩
     cases bad with
     | true => rfl
     | false => exact absurd ⟨h, rfl⟩ hgo
   clear rk bk lk hpost ow hgo hlist hend
   rcases h0 with rfl | ⟨hm, rfl⟩
   ·go_wp2_with fail
    refine bodyPost_ret (results_none Tryz.results146 _ _ _) rfl ?_
    exact ⟨rfl, _, _, HP.out⟩
   ·have hmi : (0 : Int) < (m : Int) := by omega
    go_wp2_with fail
    refine bodyPost_ret (results_none Tryz.results146 _ _ _) rfl ?_
    exact ⟨rfl, _, _, HP.out⟩
theorem lr_Type (b q g j : Nat) (t0 : TypeId) (cs0 : Array Value) (A0 : Option Addr) (n0 c0 : Nat) (r : Rd) (w : World) (hb : WlkR w b r) (hg : g ≠ b) (hl : Blk w g t0 cs0) (hj : cs0[j]? = some (.slice A0 n0 c0))
  (hE : ∀ W r' gx, WlkR W b r' → gx ≠ b → Blk W gx 129 #[.int .u8 0, .string ⟨#[]⟩, .string ⟨#[]⟩, .int .i64 0, .int .i64 0, .int .i64 0, .int .i64 0, .slice none 0 0, .slice none 0 0, .slice none 0 0, .slice none 0 0, .int .i64 0] → Calls Tryz.prog 111 #[.pointer (some ⟨b, 0, none⟩), .pointer (some ⟨gx, 0, none⟩)] W fun e W' => e = .returned (.tuple #[]) ∧ Wr [b, gx] W W' ∧ WlkR W' b (Rd.ty r').2 ∧ ∃ ys, Blk W' gx 129 ys.toArray ∧ TyRel W' (fun bl => W.heap.size ≤ bl) ys (Rd.ty r').1) :
  Calls Tryz.prog 110 #[.pointer (some ⟨b, 0, none⟩), .pointer (some ⟨g, j, none⟩), .func (.func 111) #[.pointer (some ⟨b, 0, none⟩)] #[]] w fun e w' => e = .returned (.tuple #[]) ∧ ∃ A c, Wr [b, g] w w' ∧ WlkR w' b (r.lst Rd.ty).2 ∧ Blk w' g t0 (cs0.setIfInBounds j (.slice A (r.lst Rd.ty).1.length c)) ∧ SlRel TyRel w' (fun bl => w.heap.size ≤ bl) 12 (.slice A (r.lst Rd.ty).1.length c) (r.lst Rd.ty).1 := by
 have hgl := hl.lt
 have hbl := hb.lt
 obtain ⟨i0, hi0, hz0, hz1, hz2⟩ := info_parts info_typ
 have h := fun m => count_r b r w hb m
 have hlt := num_lt (k := 2) (by omega) r
 unfold Rd.lst
 generalize r.num 2 = rr at *
 obtain ⟨n, r1⟩ := rr
 simp only at hlt h ⊢
 obtain ⟨LL, hLL⟩ : ∃ LL, Rd.list Rd.ty n r1 = LL := ⟨_, rfl⟩
 rw [hLL]
 obtain ⟨L1, L2⟩ := LL
 simp only
 have HLL := qh hLL
 clear hLL
 have hjl : j < cs0.size := (Array.getElem?_eq_some_iff.1 hj).1
 have lc := (hl.cell j).trans hj
 have H := qh h
 have HE := qh hE
 have HL := qh hl
 clear hb h hE hl
 go_in
 go_wp2_with fail
 refine (H.out _).mono ?_
 rintro e w1 ⟨rfl, rw1, b1⟩
 clear lc
 have hl1 := HL.out.wr rw1 (by simpa using hg)
 have lc := (hl1.cell j).trans hj
 have lz := hl1.frozen j
 have d1 := b1.cell 1
 simp only [qgaq, qgzq, qgsq] at d1
 obtain ⟨w2, hw2⟩ : ∃ q, w1.setCell ⟨g, j, none⟩ (.slice none 0 0) = q := ⟨_, rfl⟩
 have r2 : Wr [b, g] w w2 := by rw [← hw2]; exact (rw1.more (by simp)).setOn (by simp) _
 have b2 : WlkR w2 b r1 := by rw [← hw2]; exact Blk.far b1 (fun e => hg e.symm) _
 have l2 : Blk w2 g t0 (cs0.setIfInBounds j (.slice none 0 0)) := by rw [← hw2]; exact hl1.set_ j _
 have hat : LrAtG Rd.ty TyRel 129 12 w b g j t0 cs0 n r1 n w2 := ⟨[], r1, .slice none 0 0, by simp, by simp, b2, l2, RowAt.nil _, r2⟩
 have HAT := qh hat
 have HW2 := qh hw2
 clear b1 hl1 r2 b2 l2 hat hw2 rw1
 go_upto_region 3 with (fail)
 rw [HW2.out]
 clear lc lz d1
 go_loopw [6] (fun s6 wr => ∃ m : Nat, s6 = .int .i64 m ∧ LrAtG Rd.ty TyRel 129 12 w b g j t0 cs0 n r1 m wr) (fun s6 _ => (intOf s6).toNat)
 case atStart => exact ⟨n, rfl, HAT.out⟩
 case round =>
  obtain ⟨m, rfl, acc, r', v, hlen, hlist, bk, lk, ow, rk⟩ := hrel
  obtain ⟨l, bad⟩ := r'
  have d2 := bk.cell 2
  simp only [qgaq, qgzq, qgsq] at d2
  by_cases hgo : 0 < m ∧ bad = false
  ·obtain ⟨hm0, rfl⟩ := hgo
   obtain ⟨m, rfl⟩ : ∃ m', m = m' + 1 := ⟨m - 1, by omega⟩
   rw [list_good _ _ _ rfl] at hlist
   obtain ⟨Av, cv, hv, hnv0⟩ := ow.form
   subst hv
   obtain ⟨k, hk⟩ : ∃ k, acc.length = k := ⟨_, rfl⟩
   rw [hk] at lk ow hlen hnv0
   have hk6 : k < 65536 := by omega
   obtain ⟨wz0, hwz⟩ : ∃ q, wr.alloc (.cells #[.int .u8 0, .string ⟨#[]⟩, .string ⟨#[]⟩, .int .i64 0, .int .i64 0, .int .i64 0, .int .i64 0, .slice none 0 0, .slice none 0 0, .slice none 0 0, .slice none 0 0, .int .i64 0] 129) = q := ⟨_, rfl⟩
   obtain ⟨z, hz⟩ : ∃ z, wr.heap.size = z := ⟨_, rfl⟩
   have qz : Wr [] wr wz0 := by rw [← hwz]; exact (Wr.refl _ _).alloc _
   have bz : Blk wz0 z 129 #[.int .u8 0, .string ⟨#[]⟩, .string ⟨#[]⟩, .int .i64 0, .int .i64 0, .int .i64 0, .int .i64 0, .slice none 0 0, .slice none 0 0, .slice none 0 0, .slice none 0 0, .int .i64 0] := by rw [← hwz, ← hz]; exact Blk.new _ _ _
   have hgz : g < z := by rw [← hz]; exact lk.lt
   have hbz : b < z := by rw [← hz]; exact Blk.lt bk
   have hwz' : w.heap.size ≤ z := by rw [← hz]; exact rk.size
   have hnv : ∀ q, q ∈ ownL (.slice Av k cv) → w.heap.size ≤ q ∧ q < z := fun q hq => by rw [← hz]; exact hnv0 q hq
   have hzlt : z < wz0.heap.size := bz.lt
   have hcall := HE.out wz0 ⟨l, false⟩ z (Blk.wr0 bk qz) (by omega) bz
   have HCALL := qh hcall
   have BK := qh (Blk.wr0 bk qz)
   have LK := qh (lk.wr0 qz)
   have OW := qh ow
   have QZ := qh qz
   have RK := qh (rk.trans0 qz)
   have HWZ := qh hwz
   have HZ := qh hz
   have HLIST := qh hlist
   have HNV := qh hnv
   have HK := qh hk
   have hm1 : (0 : Int) < ((m + 1 : Nat) : Int) := by omega
   have hm2 : ((m : Int) + 1) - 1 = (m : Int) := by omega
   clear hcall bk lk ow rk qz bz hwz hz hlist hnv hk hnv0
   go_upto_region 6 with (fail)
   rw [HWZ.out, HZ.out]
   clear d2
   go_wp2_with fail
   refine HCALL.out.mono ?_
   rintro e wz ⟨rfl, rz, bz, ys, xz, hrel⟩
   obtain ⟨x, hx⟩ : ∃ x, (Rd.ty ⟨l, false⟩).1 = x := ⟨_, rfl⟩
   rw [hx] at hrel
   obtain ⟨va, vb, vc, vd, rfl, kl⟩ := hrel
   obtain ⟨Aa, ca, rfl, _, _⟩ := Sl.form kl.names
   obtain ⟨Ab, cb, rfl, _, _⟩ := Sl.form kl.fields
   obtain ⟨Ac, cc, rfl, _, _⟩ : ∃ A c, vc = .slice A x.arms.length c ∧ x.arms.length ≤ c ∧ c ≤ maxLen := by
    obtain ⟨xs, hs, _⟩ := kl.arms
    exact hs.form
   obtain ⟨Ad, cd, rfl, _, _⟩ := Sl.form kl.params
   have hrel : TyRel wz (fun bl => wz0.heap.size ≤ bl) [.int .u8 x.kind, .string x.module, .string x.name, .int .i64 x.base, .int .i64 x.index, .int .i64 x.low, .int .i64 x.high, .slice Aa x.names.length ca, .slice Ab x.fields.length cb, .slice Ac x.arms.length cc, .slice Ad x.params.length cd, .int .i64 x.result] x := ⟨_, _, _, _, rfl, kl⟩
   change Blk wz z _ #[.int .u8 x.kind, .string x.module, .string x.name, .int .i64 x.base, .int .i64 x.index, .int .i64 x.low, .int .i64 x.high, .slice Aa x.names.length ca, .slice Ab x.fields.length cb, .slice Ac x.arms.length cc, .slice Ad x.params.length cd, .int .i64 x.result] at xz
   clear kl
   replace xz : Blk wz z 129 #[.int .u8 x.kind, .string x.module, .string x.name, .int .i64 x.base, .int .i64 x.index, .int .i64 x.low, .int .i64 x.high, .slice Aa x.names.length ca, .slice Ab x.fields.length cb, .slice Ac x.arms.length cc, .slice Ad x.params.length cd, .int .i64 x.result] := xz
   have hown : RowAt TyRel 12 w.heap.size 129 (.slice Av k cv) acc wz := OW.out.keep tyOk (QZ.out.nil.trans rz) (fun q hq => by
    simp only [qmcq, qnnq, or_false] at hq
    rcases hq with e | e
    ·exact .inl (by omega)
    ·exact .inr (by have := HZ.out; omega))
   have lz := LK.out.wr rz (by simp; omega)
   have rkz : Wr [b, g] w wz := RK.out.trans' rz (fun q hq => by
    simp only [qmcq, qnnq, or_false] at hq
    rcases hq with e | e
    ·subst e
     exact .inl (by simp)
    ·rw [e]
     exact .inr hwz')
   have hn1 : g ∉ ownL (.slice Av k cv) := fun hm => by have := (HNV.out _ hm).1; omega
   have hn2 : z ∉ ownL (.slice Av k cv) := fun hm => by have := (HNV.out _ hm).2; omega
   have hnb : b ∉ ownL (.slice Av k cv) := fun hm => by have := (HNV.out _ hm).1; omega
   obtain ⟨W6, hW6⟩ : ∃ q, (wz.alloc (.cells #[.int .u8 x.kind, .string x.module, .string x.name, .int .i64 x.base, .int .i64 x.index, .int .i64 x.low, .int .i64 x.high, .slice Aa x.names.length ca, .slice Ab x.fields.length cb, .slice Ac x.arms.length cc, .slice Ad x.params.length cd, .int .i64 x.result] 129)).drew = q := ⟨_, rfl⟩
   have r6 : Wr [] wz W6 := by rw [← hW6]; exact ((Wr.refl [] wz).alloc _).drew
   have n6 : Blk W6 wz.heap.size 129 #[.int .u8 x.kind, .string x.module, .string x.name, .int .i64 x.base, .int .i64 x.index, .int .i64 x.low, .int .i64 x.high, .slice Aa x.names.length ca, .slice Ab x.fields.length cb, .slice Ac x.arms.length cc, .slice Ad x.params.length cd, .int .i64 x.result] := by rw [← hW6]; exact (Blk.new _ _ _).drew
   have ho1 : ∀ u ∈ ([.int .u8 x.kind, .string x.module, .string x.name, .int .i64 x.base, .int .i64 x.index, .int .i64 x.low, .int .i64 x.high, .slice Aa x.names.length ca, .slice Ab x.fields.length cb, .slice Ac x.arms.length cc, .slice Ad x.params.length cd, .int .i64 x.result] : List Value), u.oneCell' = true := by
    intro u hu
    simp only [qmcq, qnnq, or_false] at hu
    rcases hu with rfl | rfl | rfl | rfl | rfl | rfl | rfl | rfl | rfl | rfl | rfl | rfl
    ·rfl
    ·rfl
    ·rfl
    ·rfl
    ·rfl
    ·rfl
    ·rfl
    ·rfl
    ·rfl
    ·rfl
    ·rfl
    ·rfl
   have hrel6 : TyRel W6 (fun bl => w.heap.size ≤ bl ∧ (Value.slice Av k cv).ownBlock ≠ some bl) [.int .u8 x.kind, .string x.module, .string x.name, .int .i64 x.base, .int .i64 x.index, .int .i64 x.low, .int .i64 x.high, .slice Aa x.names.length ca, .slice Ab x.fields.length cb, .slice Ac x.arms.length cc, .slice Ad x.params.length cd, .int .i64 x.result] x := tyOk.into (tyOk.keep hrel r6 (fun _ _ => by simp)) (fun bl hb _ => ⟨by omega, fun e => by have := (HNV.out bl (mem_ownL.2 e)).2; omega⟩)
   obtain ⟨A7, c7, W7, hrun, hown7, rA⟩ := RowAt.push tyOk (t := 52) Tryz.underlying52 hi0 hz0 hz1 hz2 rfl (by decide) (hown.keep tyOk r6 (fun _ h => by simp at h)) n6 rfl ho1 hrel6 (by rw [HK.out]; omega) (by omega) (by have h2 := r6.size; have h3 := rkz.size; omega)
   rw [HK.out] at hrun hown7
   have b7 := (lz.wr0 r6).wr rA hn1
   have f7 := b7.frozen j
   have c7' : W7.cell? ⟨g, j, none⟩ = some (.slice Av k cv) := (b7.cell j).trans (by simp [hjl])
   have l0 : wz.cell? ⟨g, j, none⟩ = some (.slice Av k cv) := (lz.cell j).trans (by simp [hjl])
   have hfin : LrAtG Rd.ty TyRel 129 12 w b g j t0 cs0 n r1 m (W7.setCell ⟨g, j, none⟩ (.slice A7 (k + 1) c7)) := by
    have rS : Wr [g] W7 (W7.setCell ⟨g, j, none⟩ (.slice A7 (k + 1) c7)) := (Wr.refl _ _).setOn (by simp) _
    have hkl : (acc ++ [x]).length = k + 1 := by rw [qlaq, HK.out]; rfl
    refine ⟨acc ++ [x], (Rd.ty ⟨l, false⟩).2, .slice A7 (k + 1) c7, by rw [hkl]; omega, ?_, ?_, ?_, hown7.keep tyOk rS (fun q hq => .inl (by rw [qmsq] at hq; omega)), ?_⟩
    ·rw [HLIST.out, hx, qapq]
     rfl
    ·exact Blk.far ((Blk.wr0 bz r6).wr rA hnb) (fun e => hg e.symm) _
    ·have := b7.set_ j (.slice A7 (k + 1) c7)
     rw [Array.setIfInBounds_setIfInBounds] at this
     exact this
    ·exact ((rkz.trans0 r6).trans' rA (fun q hq => .inr (HNV.out q hq).1)).trans (rS.more (by simp))
   have HRUN := qh hrun
   have RA := qh rA
   have HFIN := qh hfin
   have HN1 := qh hn1
   have HN2 := qh hn2
   have R6 := qh r6
   have HW6 := qh hW6
   obtain ⟨y0, y1, y2, y3, y4, y5, y6, y7, y8, y9, y10, y11⟩ := c12q xz
   clear hrun rA hfin hn1 hn2 r6 hW6 n6 b7 lz hown hown7 xz bz rz hnb ho1 hrel hrel6
   go_upto_region 7 with (fail)
   refine begin1 8 (ownL (.slice Av k cv)) (fun w' => w'.cell? ⟨g, j, none⟩ = some (.slice Av k cv) ∧ w'.cell? ⟨z, 0, none⟩ = some (.int .u8 x.kind) ∧ w'.cell? ⟨z, 1, none⟩ = some (.string x.module) ∧ w'.cell? ⟨z, 2, none⟩ = some (.string x.name) ∧ w'.cell? ⟨z, 3, none⟩ = some (.int .i64 x.base) ∧ w'.cell? ⟨z, 4, none⟩ = some (.int .i64 x.index) ∧ w'.cell? ⟨z, 5, none⟩ = some (.int .i64 x.low) ∧ w'.cell? ⟨z, 6, none⟩ = some (.int .i64 x.high) ∧ w'.cell? ⟨z, 7, none⟩ = some (.slice Aa x.names.length ca) ∧ w'.cell? ⟨z, 8, none⟩ = some (.slice Ab x.fields.length cb) ∧ w'.cell? ⟨z, 9, none⟩ = some (.slice Ac x.arms.length cc) ∧ w'.cell? ⟨z, 10, none⟩ = some (.slice Ad x.params.length cd) ∧ w'.cell? ⟨z, 11, none⟩ = some (.int .i64 x.result)) (by kernel_rfl) (fun W hW => ⟨hW.cellOf l0 HN1.out, hW.cellOf y0 HN2.out, hW.cellOf y1 HN2.out, hW.cellOf y2 HN2.out, hW.cellOf y3 HN2.out, hW.cellOf y4 HN2.out, hW.cellOf y5 HN2.out, hW.cellOf y6 HN2.out, hW.cellOf y7 HN2.out, hW.cellOf y8 HN2.out, hW.cellOf y9 HN2.out, hW.cellOf y10 HN2.out, hW.cellOf y11 HN2.out⟩) fun HC hcl hS => ?_
   refine mvu 0 (by rfl) (by kernel_rfl) (by rfl) (fun w' hS => by (try go_split_ands); go_simp; try rfl) hcl hS fun hcl1 hS1 => ?_
   clear hcl hS
   try simp only [Act.put, qsaq, qszq, qssq]
   refine mvu 1 (by rfl) (by kernel_rfl) (by rfl) (fun w' hS => by (try go_split_ands); go_simp; try rfl) hcl1 hS1 fun hcl2 hS2 => ?_
   clear hcl1 hS1
   try simp only [Act.put, qsaq, qszq, qssq]
   refine mvu 2 (by rfl) (by kernel_rfl) (by rfl) (fun w' hS => by (try go_split_ands); go_simp; try rfl) hcl2 hS2 fun hcl3 hS3 => ?_
   clear hcl2 hS2
   try simp only [Act.put, qsaq, qszq, qssq]
   refine mvu 3 (by rfl) (by kernel_rfl) (by rfl) (fun w' hS => by (try go_split_ands); go_simp; try rfl) hcl3 hS3 fun hcl4 hS4 => ?_
   clear hcl3 hS3
   try simp only [Act.put, qsaq, qszq, qssq]
   refine mvu 4 (by rfl) (by kernel_rfl) (by rfl) (fun w' hS => by (try go_split_ands); go_simp; try rfl) hcl4 hS4 fun hcl5 hS5 => ?_
   clear hcl4 hS4
   try simp only [Act.put, qsaq, qszq, qssq]
   refine st0 5 (by rfl) (by kernel_rfl) hcl5 fun K hK => ?_
   go_simp
   try rw [HW6.out]
   refine hK _ _ (fun _ => HC.out _ (R6.out.nil)) (fun hcl6 => ?_)
   clear hK K hcl5 hS5
   try simp only [Act.put, qsaq, qszq, qssq]
   refine st0 6 (by rfl) (by kernel_rfl) hcl6 fun K hK => ?_
   refine step_append_run (by rfl) _ _ _ (by rfl) _ _ (by rfl) (by rfl) _ _ HRUN.out ?_
   refine hK _ _ (fun _ => HC.out _ (R6.out.nil.trans RA.out)) (fun hcl7 => ?_)
   clear hK K hcl6
   try simp only [Act.put, qsaq, qszq, qssq]
   refine st0 7 (by rfl) (by kernel_rfl) hcl7 fun K hK => ?_
   go_simp
   refine hK _ _ (fun _ => HC.out _ (R6.out.nil.trans RA.out)) (fun hcl8 => ?_)
   clear hK K hcl7
   try simp only [Act.put, qsaq, qszq, qssq]
   refine st0 8 (by rfl) (by kernel_rfl) hcl8 fun K hK => ?_
   go_simp
   refine hK _ _ (fun hb => absurd hb (by decide)) (fun hcl999 => ?_)
   clear hK K hcl8
   refine wpAnyL_done (by kernel_rfl) (NoPanic.normal ?_) _
   try simp only [Act.put, qsaq, qszq, qssq]
   go_wp2_with fail
   go_roundw
   case rel => exact ⟨m, by first | rfl | (go_num), HFIN.out⟩
   case measure => first | (simp [intOf]; done) | (simp [intOf]; omega)
  ·have hend : Rd.list Rd.ty m ⟨l, bad⟩ = ([], ⟨l, bad⟩) := by
    by_cases hb : bad = true
    ·exact list_bad _ _ _ hb
    ·obtain rfl : m = 0 := by
      have : bad = false := by cases bad <;> simp_all
      have h0 : ¬ 0 < m := fun h => hgo ⟨h, this⟩
      omega
     rfl
   rw [hend] at hlist
   simp only [List.append_nil] at hlist
   have hLL := HLL.out
   rw [hlist] at hLL
   injection hLL with hL1 hL2
   subst hL1 hL2
   obtain ⟨Av, cv, hv, _⟩ := ow.form
   subst hv
   have hpost := ow.out tyOk
   have HP := qh (show Wr [b, g] w wr ∧ WlkR wr b ⟨l, bad⟩ ∧ Blk wr g t0 (cs0.setIfInBounds j (.slice Av acc.length cv)) ∧ SlRel TyRel wr (fun bl => w.heap.size ≤ bl) 12 (.slice Av acc.length cv) acc from ⟨rk, bk, lk, hpost⟩)
   have h0 : m = 0 ∨ (0 < m ∧ bad = true) := by
    rcases Nat.eq_zero_or_pos m with h | h
    ·exact .inl h
    ·refine .inr ⟨h, ?_⟩
     cases bad with
     | true => rfl
     | false => exact absurd ⟨h, rfl⟩ hgo
   clear rk bk lk hpost ow hgo hlist hend
   rcases h0 with rfl | ⟨hm, rfl⟩
   ·go_wp2_with fail
    refine bodyPost_ret (results_none Tryz.results110 _ _ _) rfl ?_
    exact ⟨rfl, _, _, HP.out⟩
   ·have hmi : (0 : Int) < (m : Int) := by omega
    go_wp2_with fail
    refine bodyPost_ret (results_none Tryz.results110 _ _ _) rfl ?_
    exact ⟨rfl, _, _, HP.out⟩
end Go.Proofs.YtildcdgobdfieaaGreat
