/- A region that draws its order, whose last store hits a cell that it loads: the loads may be taken first, under a condition on the world that is owed until that store alone. No conditions. -/
import Derived.Test.YtildcdgobdfieaaGreatOT01
import Derived.OrdersHeld
import Derived.Tactics
import Derived.Test.YtildcdgobdfieaaGreatOT02
import Derived.Test.YtildcdgobdfieaaGreatOT04
set_option linter.unusedVariables false
set_option linter.unusedSimpArgs false
set_option maxRecDepth 100000
set_option maxHeartbeats 32000000
namespace Go.Proofs.YtildcdgobdfieaaGreat
open Go
section
variable {P : Program} {ops : Array Oper} {Q : Exit → Act → World → Prop} {md : Region.Mode} {S : Array Bool → World → Prop}
def ClosedL (md : Region.Mode) (ops : Array Oper) (listed : Array Bool) : Prop :=
 ∀ j oj, ops[j]? = some oj → listed.getD j false = true → ∀ e ∈ oj.after, Region.binds md e = true → listed.getD e.on false = true
theorem ClosedL.set {listed : Array Bool} (h : ClosedL md ops listed) {i : Nat} (hi : i ∈ Region.ready md ops listed) : ClosedL md ops (listed.setIfInBounds i true) := by
 obtain ⟨_, oi, hoi, hall⟩ := mem_ready.1 hi
 intro j oj hj hl e he hb
 by_cases hij : i = j
 ·subst hij
  have : oj = oi := Option.some.inj (hj.symm.trans hoi)
  subst this
  exact getD_set_true (hall e he hb)
 ·rw [getD_set_ne false hij] at hl
  exact getD_set_true (h j oj hj hl e he hb)
theorem ClosedL.start (n : Nat) : ClosedL md ops (Array.replicate n false) := by
 intro j oj _ hl
 have : (Array.replicate n false).getD j false = false := by
  rcases Nat.lt_or_ge j n with h | h
  ·simp [h]
  ·simp [h]
 rw [this] at hl
 cases hl
def YieldsL (P : Program) (md : Region.Mode) (ops : Array Oper) (S : Array Bool → World → Prop) (i : Nat) (o : Oper) (v : Value) (a : Act) : Prop :=
 (Region.wanted o (yielded ops a.tmps) = true ∧ ∀ l w, ClosedL md ops l → l.getD i true = false → S l w → (execOp a.eval o).run P w = .ok (.value v) w) ∨
 (Region.wanted o (yielded ops a.tmps) = false ∧ v = undef)
def wpAnyL (P : Program) (md : Region.Mode) (ops : Array Oper) (Q : Exit → Act → World → Prop) (S : Array Bool → World → Prop) : Nat → Array Bool → Act → World → Prop
 | 0, listed, a, w => Region.ready md ops listed = [] ∧ Q .normal a w
 | fuel + 1, listed, a, w =>
  (Region.ready md ops listed = [] → Q .normal a w) ∧
  ∀ i ∈ Region.ready md ops listed, wpOp P ops Q i (fun a' w' => S (listed.setIfInBounds i true) w' ∧ wpAnyL P md ops Q S fuel (listed.setIfInBounds i true) a' w') a w
theorem wpAny_of_L : ∀ (fuel : Nat) (listed : Array Bool) (a : Act) (w : World), wpAnyL P md ops Q S fuel listed a w → wpAny P md ops Q fuel listed a w
 | 0, _, _, _, h => h
 | fuel + 1, _, _, _, h => ⟨h.1, fun i hi => wpOp_mono (fun a' w' h' => wpAny_of_L fuel _ a' w' h'.2) (h.2 i hi)⟩
theorem wpAnyL_first {i : Nat} {oi : Oper} {v : Value} (hi : ops[i]? = some oi) (hsel : ∀ (j : Nat) (o : Oper) cs b, ops[j]? = some o → o.op ≠ .select cs b)
  (hQ : ∀ c a w, Q (.panic c) (a.put oi.dst v) w → Q (.panic c) a w)
  (hSi : ∀ l w, S (l.setIfInBounds i true) w ↔ S l w) :
  ∀ (fuel : Nat) (listed : Array Bool) (a : Act) (w : World),
   (∀ j oj, ops[j]? = some oj → j ≠ i → listed.getD j true = false → (∀ e ∈ oj.after, Region.binds md e = true → e.on ≠ i) → oi.apart ops oj = true) →
   i ∈ Region.ready md ops listed → YieldsL P md ops S i oi v a → ClosedL md ops listed → S listed w →
   wpAnyL P md ops Q S fuel (listed.setIfInBounds i true) (a.put oi.dst v) w → wpAnyL P md ops Q S (fuel + 1) listed a w := by
 -- what it yields now, in this world and with these listed
 have now : ∀ {listed : Array Bool} {a : Act} {w : World}, i ∈ Region.ready md ops listed → YieldsL P md ops S i oi v a → ClosedL md ops listed → S listed w →
   ∀ {K : Act → World → Prop}, K (a.put oi.dst v) w → wpOp P ops Q i K a w := by
  intro listed a w hr hy hc hS K h
  have hun := (mem_ready.1 hr).1
  unfold Go.wpOp
  simp only [hi]
  rcases hy with ⟨hw, hv⟩ | ⟨hw, rfl⟩
  ·simp only [hw, if_true, Oper.wp, hv listed w hc hun hS, Oper.upon]; exact .inl h
  ·simp only [hw, Bool.false_eq_true, if_false]; exact h
 intro fuel
 induction fuel with
 | zero =>
  intro listed a w _ hr hy hc hS H
  refine ⟨fun h => (by rw [h] at hr; cases hr), fun j hj => ?_⟩
  by_cases hji : j = i
  ·subst hji; exact now hj hy hc hS ⟨(hSi listed w).2 hS, H⟩
  ·have := ready_mono hj hji
   rw [H.1] at this
   cases this
 | succ fuel ih =>
  intro listed a w hfree hr hy hc hS H
  refine ⟨fun h => (by rw [h] at hr; cases hr), fun j hj => ?_⟩
  by_cases hji : j = i
  ·subst hji; exact now hj hy hc hS ⟨(hSi listed w).2 hS, H⟩
  ·have h1 := H.2 j (ready_mono hj hji)
   obtain ⟨hjun, oj, hoj, hall⟩ := mem_ready.1 hj
   have hnot : ∀ e ∈ oj.after, Region.binds md e = true → e.on ≠ i := fun e he hb heq => by
    have h1 := hall e he hb
    have h0 := (mem_ready.1 hr).1
    rw [heq] at h1
    rcases Nat.lt_or_ge i listed.size with h' | h'
    ·simp [h'] at h0 h1; rw [h0] at h1; cases h1
    ·simp [Array.getElem?_eq_none h'] at h1
   -- the frame apart: by the elder law, under a condition that says nothing of the world
   have hap := hfree j oj hoj hji hjun hnot
   obtain ⟨p1, p2, p3⟩ := Oper.apart_spec hap
   have hsi := fun cs b => hsel i oi cs b hi
   have hsj := fun cs b => hsel j oj cs b hoj
   have hy0 : YieldsIf P ops (fun w => ∃ l, ClosedL md ops l ∧ l.getD i true = false ∧ S l w) oi v a := hy.imp (fun ⟨hw, hv⟩ => ⟨hw, fun w ⟨l, c1, c2, c3⟩ => hv l w c1 c2 c3⟩) id
   have h2 := wpOp_putIf hoj hap hsi hsj hQ hy0 h1
   have hfree' : ∀ k ok, ops[k]? = some ok → k ≠ i → (listed.setIfInBounds j true).getD k true = false →
     (∀ e ∈ ok.after, Region.binds md e = true → e.on ≠ i) → oi.apart ops ok = true := fun k ok hk hki hun hno => by
    refine hfree k ok hk hki ?_ hno
    by_cases hjk : j = k
    ·subst hjk; exact hjun
    ·rw [getD_set_ne true hjk] at hun; exact hun
   refine wpOp_mono (fun a' w' h3 => ?_) h2
   have hcomm : (listed.setIfInBounds i true).setIfInBounds j true = (listed.setIfInBounds j true).setIfInBounds i true := Array.setIfInBounds_comm _ _ (fun e => hji e.symm)
   have h32 := h3.2.1
   have h33 := h3.2.2
   rw [hcomm] at h32 h33
   have hS' := (hSi _ w').1 h32
   have hy' : YieldsL P md ops S i oi v a' := h3.1.imp (fun ⟨hw, hv⟩ => ⟨hw, fun l w c1 c2 c3 => hv w ⟨l, c1, c2, c3⟩⟩) id
   exact ⟨hS', ih (listed.setIfInBounds j true) a' w' hfree' (ready_mono hr (fun e => hji e.symm)) hy' (hc.set hj) hS' h33⟩
theorem wpAnyL_take {i : Nat} {oi : Oper} {v : Value} {fuel : Nat} {listed : Array Bool} {a : Act} {w : World} (hi : ops[i]? = some oi)
  (hs : Region.noSelect ops = true) (hf : Region.free md ops listed i = true) (hr : (Region.ready md ops listed).contains i = true)
  (hQ : ∀ c a w, Q (.panic c) (a.put oi.dst v) w → Q (.panic c) a w) (hSi : ∀ l w, S (l.setIfInBounds i true) w ↔ S l w) (hy : YieldsL P md ops S i oi v a) (hc : ClosedL md ops listed) (hS : S listed w)
  (h : ClosedL md ops (listed.setIfInBounds i true) → S (listed.setIfInBounds i true) w → wpAnyL P md ops Q S fuel (listed.setIfInBounds i true) (a.put oi.dst v) w) : wpAnyL P md ops Q S (fuel + 1) listed a w :=
 wpAnyL_first hi (Region.noSelect_spec hs) hQ hSi fuel listed a w (Region.free_spec hi hf) (by simpa using hr) hy hc hS (h (hc.set (by simpa using hr)) ((hSi _ _).2 hS))
theorem wpAnyL_one {i : Nat} {fuel : Nat} {listed : Array Bool} {a : Act} {w : World} (hr : Region.ready md ops listed = [i]) (hc : ClosedL md ops listed)
  (h : wpOp P ops Q i (fun a' w' => S (listed.setIfInBounds i true) w' ∧ (ClosedL md ops (listed.setIfInBounds i true) → wpAnyL P md ops Q S fuel (listed.setIfInBounds i true) a' w')) a w) : wpAnyL P md ops Q S (fuel + 1) listed a w := by
 have hm : i ∈ Region.ready md ops listed := by rw [hr]; simp
 refine ⟨fun h0 => absurd (h0.symm.trans hr) (by simp), fun j hj => ?_⟩
 rw [hr] at hj
 obtain rfl : j = i := by simpa using hj
 exact wpOp_mono (fun a' w' h3 => ⟨h3.1, h3.2 (hc.set hm)⟩) h
theorem wpAnyL_step {i : Nat} {o : Oper} {fuel : Nat} {listed : Array Bool} {a : Act} {w : World} (hi : ops[i]? = some o) (hr : Region.ready md ops listed = [i]) (hc : ClosedL md ops listed)
  (h : ∀ K : Act → World → Prop, (∀ a' w', S (listed.setIfInBounds i true) w' → (ClosedL md ops (listed.setIfInBounds i true) → wpAnyL P md ops Q S fuel (listed.setIfInBounds i true) a' w') → K a' w') → if Region.wanted o (yielded ops a.tmps) = true then Oper.wp P o a w K Q else K (a.put o.dst undef) w) : wpAnyL P md ops Q S (fuel + 1) listed a w := by
 refine wpAnyL_one hr hc ?_
 unfold wpOp
 simp only [hi]
 have := h (fun a' w' => S (listed.setIfInBounds i true) w' ∧ (ClosedL md ops (listed.setIfInBounds i true) → wpAnyL P md ops Q S fuel (listed.setIfInBounds i true) a' w')) (fun a' w' h1 h2 => ⟨h1, h2⟩)
 by_cases hw : Region.wanted o (yielded ops a.tmps) = true
 ·rw [if_pos hw] at this ⊢
  exact .inl this
 ·rw [if_neg hw] at this ⊢
  exact this
theorem wpAnyL_done {listed : Array Bool} {a : Act} {w : World} (hr : Region.ready md ops listed = []) (h : Q .normal a w) : ∀ fuel, wpAnyL P md ops Q S fuel listed a w
 | 0 => ⟨hr, h⟩
 | _ + 1 => ⟨fun _ => h, by rw [hr]; simp⟩
theorem wp_region_L {id : Nat} {a : Act} {w : World} (S : Array Bool → World → Prop) (hm : P.follows .mixedOrders = true)
  (h : ClosedL .any ops (Array.replicate ops.size false) → wpAnyL P .any ops Q S ops.size (Array.replicate ops.size false) a { w with drawn := w.drawn + 1 }) : (Code.region id ops true).wp P Q a w :=
 wp_region_any hm (wpAny_of_L _ _ _ _ (h (ClosedL.start _)))
def Until (t : Nat) (C : World → Prop) : Array Bool → World → Prop := fun l w => l.getD t false = false → C w
theorem until_take (t : Nat) (C : World → Prop) {i : Nat} (hne : i ≠ t) (l : Array Bool) (w : World) : Until t C (l.setIfInBounds i true) w ↔ Until t C l w := by
 unfold Until
 rw [getD_set_ne false hne]
theorem yields_until {t : Nat} {C : World → Prop} {i : Nat} {o : Oper} {v : Value} {a : Act} (hb : (match ops[t]? with | some ot => ot.after.any fun e => Region.binds md e && e.on == i | none => false) = true)
  (h : (Region.wanted o (yielded ops a.tmps) = true ∧ ∀ w, C w → (execOp a.eval o).run P w = .ok (.value v) w) ∨ (Region.wanted o (yielded ops a.tmps) = false ∧ v = undef)) : YieldsL P md ops (Until t C) i o v a := by
 refine h.imp (fun ⟨hw, hv⟩ => ⟨hw, fun l w hc hun hS => hv w (hS ?_)⟩) id
 cases hlt : l.getD t false with
 | false => rfl
 | true =>
  exfalso
  cases hot : ops[t]? with
  | none => rw [hot] at hb; cases hb
  | some ot =>
   rw [hot] at hb
   obtain ⟨e, he, hb⟩ := Array.any_eq_true'.1 hb
   simp only [Bool.and_eq_true, beq_iff_eq] at hb
   have h2 := hc t ot hot hlt e he hb.1
   rw [hb.2] at h2
   rcases Nat.lt_or_ge i l.size with h' | h'
   ·simp [h'] at hun h2; rw [hun] at h2; cases h2
   ·simp [Array.getElem?_eq_none h'] at h2
end
end Go.Proofs.YtildcdgobdfieaaGreat

namespace Go.Proofs.YtildcdgobdfieaaGreat
open Go.RowKit
def Bld (b : Nat) (l : List UInt8) (w : World) : Prop := Lib.IsBuilder 92 5 b b (Lib.byteCells l) w
section
variable {b : Nat} {l : List UInt8} {w w' : World}
theorem Bld.lt (h : Bld b l w) : b < w.heap.size := by
 rcases h with h | h <;> exact h.lt
theorem Bld.new (w : World) : Bld w.heap.size [] (w.alloc (.cells #[.pointer none, .slice none 0 0] 92)) := Lib.fresh_isBuilder 92 5 w
theorem bldAt_keep {p : Value} {bs : List Value} (h : Lib.BuilderAt 92 5 b b p bs w) (r : Wr [] w w') : Lib.BuilderAt 92 5 b b p bs w' := by
 have hl := h.lt
 obtain ⟨h1, v, h2, h3, h4⟩ := h
 exact ⟨h1, v, (r.block b hl (by simp)).trans h2, own_wr0 h3 r, h4⟩
theorem Bld.keep (h : Bld b l w) (r : Wr [] w w') : Bld b l w' := h.imp (fun h => bldAt_keep h r) (fun h => bldAt_keep h r)
theorem bel_cell {p : Addr} {v : Value} (hw : Below b w w') (hc : w.cell? p = some v) (hp : p.block < b) : w'.cell? p = some v := (hw.cell hp).trans hc
theorem wr_bel (r : Wr [] w w') (hb : b ≤ w.heap.size) : Below b w w' := r.below hb (fun _ hx => by cases hx)
theorem bel_wr {w0 : World} (r : Wr [] w0 w) (hb : w0.heap.size ≤ b) (h : Below b w w') : Wr [] w0 w' :=
 ⟨h.os.trans r.os, h.tape.trans r.tape, h.output.trans r.output, Nat.le_trans r.size h.size, fun k hk hn => (h.block k (by omega)).trans (r.block k hk hn)⟩
def WrtR (b : Nat) (l : List UInt8) (s : ByteArray) (w : World) (e : Ending) (w' : World) : Prop := ∃ n : Int, e = .returned (.tuple #[.int .i64 n, .nilIface]) ∧ Bld b (l ++ s.data.toList) w' ∧ Below b w w'
theorem write_b (b : Nat) (l : List UInt8) (s : ByteArray) (w : World) (h : Bld b l w) (hl : l.length ≤ 10000000) (hs : s.size ≤ 10000000) :
  Calls Tryz.prog 44 #[.pointer (some ⟨b, 0, none⟩), .string s] w (WrtR b l s w) := by
 refine (writeString_any b b (Lib.byteCells l) s w h (by rw [Lib.byteCells_length]; omega) (Nat.le_of_lt h.lt)).mono ?_
 rintro e w' ⟨rfl, h1, h2⟩
 refine ⟨_, rfl, ?_, h2⟩
 rw [Lib.strCells_eq, ← Lib.byteCells_append] at h1
 exact Or.inr h1
theorem string_b (b : Nat) (l : List UInt8) (w : World) (h : Bld b l w) :
  Calls Tryz.prog 46 #[.pointer (some ⟨b, 0, none⟩)] w fun e w' => e = .returned (.string ⟨l.toArray⟩) ∧ Below b w w' := string_any b b l w h (Nat.le_of_lt h.lt)
end
section
variable {P : Program} {ops : Array Oper} {md : Region.Mode}
def AlwO (C : World → Prop) : Array Bool → World → Prop := fun _ w => C w
theorem alwO_take (C : World → Prop) {i : Nat} (l : Array Bool) (w : World) : AlwO C (l.setIfInBounds i true) w ↔ AlwO C l w := Iff.rfl
theorem yields_alwO {C : World → Prop} {i : Nat} {o : Oper} {v : Value} {a : Act}
  (h : (Region.wanted o (yielded ops a.tmps) = true ∧ ∀ w, C w → (execOp a.eval o).run P w = .ok (.value v) w) ∨ (Region.wanted o (yielded ops a.tmps) = false ∧ v = undef)) : YieldsL P md ops (AlwO C) i o v a :=
 h.imp (fun ⟨hw, hv⟩ => ⟨hw, fun l w hc hun hS => hv w hS⟩) id
end
def waitsO (md : Region.Mode) (ops : Array Oper) : Nat → Nat → Nat → Bool
 | 0, t, i => t == i
 | k + 1, t, i => t == i || (match ops[t]? with | some ot => ot.after.any fun e => Region.binds md e && waitsO md ops k e.on i | none => false)
theorem waitsO_un {md : Region.Mode} {ops : Array Oper} {l : Array Bool} (hc : ClosedL md ops l) {i : Nat} (hi : l.getD i true = false) : ∀ k t, waitsO md ops k t i = true → l.getD t false = false
 | 0, t, h => by
  unfold waitsO at h
  rw [beq_iff_eq] at h
  subst h
  rcases Nat.lt_or_ge t l.size with h' | h'
  ·simp [h'] at hi ⊢
   exact hi
  ·simp [Array.getElem?_eq_none h']
 | k + 1, t, h => by
  unfold waitsO at h
  rw [Bool.or_eq_true] at h
  rcases h with h | h
  ·exact waitsO_un hc hi 0 t h
  ·cases hlt : l.getD t false with
   | false => rfl
   | true =>
    exfalso
    cases hot : ops[t]? with
    | none => rw [hot] at h; cases h
    | some ot =>
     rw [hot] at h
     obtain ⟨e, he, hb⟩ := Array.any_eq_true'.1 h
     simp only [Bool.and_eq_true] at hb
     have h2 := hc t ot hot hlt e he hb.1
     have h3 := waitsO_un hc hi k e.on hb.2
     rw [h2] at h3
     cases h3
theorem yields_waitsO {P : Program} {md : Region.Mode} {ops : Array Oper} (k : Nat) {t : Nat} {C : World → Prop} {i : Nat} {o : Oper} {v : Value} {a : Act} (hb : waitsO md ops k t i = true)
  (h : (Region.wanted o (yielded ops a.tmps) = true ∧ ∀ w, C w → (execOp a.eval o).run P w = .ok (.value v) w) ∨ (Region.wanted o (yielded ops a.tmps) = false ∧ v = undef)) : YieldsL P md ops (Until t C) i o v a :=
 h.imp (fun ⟨hw, hv⟩ => ⟨hw, fun l w hc hun hS => hv w (hS (waitsO_un hc hun k t hb))⟩) id
theorem u16_at {w : World} {P : Nat → Prop} {v : Value} {l : List Int} (h : SlU16 w P v l) {i : Nat} {x : Int} (hi : l[i]? = some x) : ∃ b off c, v = .slice (some ⟨b, off, none⟩) l.length c ∧ l.length ≤ c ∧ c ≤ maxLen ∧ w.cell? ⟨b, off + i, none⟩ = some (.int .u16 x) := by
 obtain ⟨b, off, c, e, h1, h2, _, hc⟩ := Sl.at_ h (j := i) (u := .int .u16 x) (by rw [List.getElem?_map, hi]; rfl)
 exact ⟨b, off, c, e, h1, h2, hc⟩
structure PrcOk (p : PrcD) : Prop where
 a : 0 ≤ p.at_ ∧ p.at_ ≤ 65535
 b : 0 ≤ p.params ∧ p.params ≤ 65535
 c : 0 ≤ p.locals ∧ p.locals ≤ 65535
 d : 0 ≤ p.depth ∧ p.depth ≤ 65535
 e : 0 ≤ p.level ∧ p.level ≤ 16
structure ModOk (m : ModD) : Prop where
 code : m.code.size ≤ 65535
 procs : m.procs.length ≤ 1024
 prc : ∀ p ∈ m.procs, PrcOk p
 imports : m.imports.length ≤ 255
 imp : ∀ i ∈ m.imports, 0 ≤ i ∧ i ≤ 63
 data : 0 ≤ m.data ∧ m.data ≤ 65535
 init : m.init.length ≤ 65535
theorem mod_ok {m : ModD} (h : omodB m = true) : ModOk m := by
 unfold omodB modB at h
 simp only [Bool.and_eq_true, decide_eq_true_eq, List.all_eq_true, inBi] at h
 obtain ⟨⟨a1, a2⟩, ⟨⟨⟨⟨⟨⟨⟨b1, b2⟩, b3⟩, b4⟩, b5⟩, b6⟩, b7⟩, b8⟩⟩ := h
 refine ⟨b1, b3, fun p hp => ?_, a1, a2, ⟨by omega, b5.2⟩, by have := b5.1; have := b5.2; omega⟩
 have q := b6 p hp
 unfold prcB at q
 simp only [Bool.and_eq_true, inBi] at q
 obtain ⟨⟨⟨⟨h1, h2⟩, h3⟩, h4⟩, h5⟩ := q
 exact ⟨⟨h4.1, by omega⟩, h1, h2, h3, ⟨by omega, h5.2⟩⟩
theorem numI (x : Int) (size : Nat) (h0 : 0 ≤ x) (h1 : x ≤ 65535) (hs : 1 ≤ size) (h8 : size ≤ 8) (w : World) :
  Calls Tryz.prog 37 #[.int .i64 x, .int .i64 (size : Int)] w fun e w' => e = .returned (.string (numS x.toNat size)) ∧ Wr [] w w' := by
 have := number_int x.toNat size (by omega) hs h8 w
 rw [Int.toNat_of_nonneg h0] at this
 exact this
theorem numW (x : Int) (size : Nat) (h0 : 0 ≤ x) (h1 : x ≤ 65535) (hs : 1 ≤ size) (h8 : size ≤ 8) (w : World) :
  Calls Tryz.prog 45 #[.int .u16 x, .int .i64 (size : Int)] w fun e w' => e = .returned (.string (numS x.toNat size)) ∧ Wr [] w w' := by
 have := number_uint16 x.toNat size (by omega) hs h8 w
 rw [Int.toNat_of_nonneg h0] at this
 exact this
theorem truS_size (b : Bool) : (truS b).size = 1 := by cases b <;> rfl
theorem prcL_len (p : PrcD) : (prcL p).length = 10 := by
 unfold prcL
 simp only [List.length_append, numL_len]
 cases p.func <;> rfl
theorem flat_const {α : Type} (f : α → List UInt8) (c : Nat) (h : ∀ x, (f x).length = c) : ∀ l : List α, (l.flatMap f).length = l.length * c
 | [] => by simp
 | x :: l => by rw [List.flatMap_cons, List.length_append, h, flat_const f c h l, List.length_cons, Nat.succ_mul]; omega
def packA (m : ModD) : List UInt8 := numL m.code.size 2 ++ m.code.data.toList ++ numL m.procs.length 2
def packB (m : ModD) : List UInt8 := packA m ++ m.procs.flatMap prcL
def packC (m : ModD) : List UInt8 := packB m ++ numL m.imports.length 1
def packD (m : ModD) : List UInt8 := packC m ++ m.imports.flatMap (fun i => numL i.toNat 1)
def packE (m : ModD) : List UInt8 := packD m ++ (numL m.data.toNat 2 ++ numL m.init.length 2)
theorem pack_eq (m : ModD) : packL m = packE m ++ m.init.flatMap (fun i => numL i.toNat 2) := by
 unfold packL packE packD packC packB packA
 simp only [List.append_assoc]
theorem packA_len {m : ModD} (h : ModOk m) : (packA m).length ≤ 70000 := by
 have e : m.code.data.toList.length = m.code.size := rfl
 have := h.code
 unfold packA
 simp only [List.length_append, numL_len, e]
 omega
theorem packB_len {m : ModD} (h : ModOk m) : (packB m).length ≤ 90000 := by
 have := packA_len h
 have := h.procs
 unfold packB
 rw [List.length_append, flat_const prcL 10 prcL_len]
 omega
theorem packC_len {m : ModD} (h : ModOk m) : (packC m).length ≤ 90001 := by
 have := packB_len h
 unfold packC
 rw [List.length_append, numL_len]
 omega
theorem packD_len {m : ModD} (h : ModOk m) : (packD m).length ≤ 90300 := by
 have := packC_len h
 have := h.imports
 unfold packD
 rw [List.length_append, flat_const _ 1 (fun i => numL_len _ _)]
 omega
theorem packE_len {m : ModD} (h : ModOk m) : (packE m).length ≤ 90304 := by
 have := packD_len h
 unfold packE
 simp only [List.length_append, numL_len]
 omega
theorem flat_take_len {α : Type} (f : α → List UInt8) (c n : Nat) (h : ∀ x, (f x).length = c) (l : List α) (k : Nat) (hk : k ≤ n) : ((l.take k).flatMap f).length ≤ n * c := by
 rw [flat_const f c h]
 exact Nat.mul_le_mul (by rw [List.length_take]; omega) (Nat.le_refl c)
theorem flat_take_succ {α : Type} (f : α → List UInt8) {l : List α} {k : Nat} {x : α} (h : l[k]? = some x) : (l.take (k + 1)).flatMap f = (l.take k).flatMap f ++ f x := by
 rw [List.take_add_one, h, List.flatMap_append]
 simp
theorem bytes_app (a b : ByteArray) : (a ++ b).data.toList = a.data.toList ++ b.data.toList := by
 rw [ByteArray.data_append, Array.toList_append]
theorem numS_list (n k : Nat) : (numS n k).data.toList = numL n k := rfl
theorem truS_list (b : Bool) : (truS b).data.toList = truL b := rfl
theorem bytesA (m : ModD) : [] ++ (numS m.code.size 2 ++ m.code ++ numS m.procs.length 2).data.toList = packA m := by
 rw [bytes_app, bytes_app]
 rfl
theorem bytesP (p : PrcD) : (numS p.at_.toNat 2 ++ numS p.params.toNat 2 ++ numS p.locals.toNat 2 ++ numS p.depth.toNat 2 ++ numS p.level.toNat 1 ++ truS p.func).data.toList = prcL p := by
 simp only [bytes_app, numS_list, truS_list]
 rfl
theorem bytesE (m : ModD) : packD m ++ (numS m.data.toNat 2 ++ numS m.init.length 2).data.toList = packE m := by
 rw [bytes_app]
 rfl
def PkAt (b : Nat) (wb : World) (l : List UInt8) (wr : World) : Prop := Below b wb wr ∧ Bld b l wr
end Go.Proofs.YtildcdgobdfieaaGreat
