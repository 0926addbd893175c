/- ref 14's reader: text, four, truth: walked. No conditions. -/
import Derived.Test.YtildcdgobdfieaaGreatRD03
import Derived.OrdersHeld
import Derived.Tactics
import Derived.Deep.RegionHeld3
import Derived.Laws.Bits64
set_option linter.unusedVariables false
set_option linter.unusedSimpArgs false
set_option maxRecDepth 100000
set_option maxHeartbeats 32000000
namespace Go.Proofs.YtildcdgobdfieaaGreat
open Go.RowKit
theorem text_g (b : Nat) (r : Rd) (w : World) (hb : RdG w b r) :
  Calls Tryz.prog 91 #[.pointer (some ⟨b, 0, none⟩)] w fun e w' => e = .returned (.string r.text.1) ∧ Wr [b] w w' ∧ RdG w' b r.text.2 := by
 have h := number_g b 1 r (by decide) w hb
 have hl := num_ltO (k := 1) (by omega) r
 unfold Rd.text
 generalize r.num 1 = rr at *
 obtain ⟨v, r'⟩ := rr
 simp only at hl h ⊢
 have h2 := fun W hW => raw_g b v r' (by omega) W hW
 have e1 : IntKind.i64.wrap (v : Int) = (v : Int) := by rw [IntKind.wrap_i64]; omega
 have e2 : wrap64 (v : Int) = (v : Int) := by unfold wrap64; omega
 generalize r'.raw v = qq at *
 obtain ⟨T, r''⟩ := qq
 simp only at h2 ⊢
 have H := qh h
 have H2 := qh h2
 clear hb h h2
 go_in
 go_wp2_with fail
 refine H.out.mono ?_
 rintro e w1 ⟨rfl, r1, b1⟩
 have h3 := H2.out _ b1
 have H3 := qh h3
 clear h3
 go_wp2_with fail
 refine H3.out.mono ?_
 rintro e w2 ⟨rfl, r2, b2⟩
 go_wp2_with fail
 go_ret
 exact ⟨rfl, r1.trans r2, b2⟩
theorem four_g (b : Nat) (r : Rd) (w : World) (hb : RdG w b r) :
  Calls Tryz.prog 94 #[.pointer (some ⟨b, 0, none⟩)] w fun e w' => e = .returned (.int .i64 r.four.1) ∧ Wr [b] w w' ∧ RdG w' b r.four.2 := by
 have h := number_g b 4 r (by decide) w hb
 have hl := num_ltO (k := 4) (by omega) r
 unfold Rd.four
 generalize r.num 4 = rr at *
 obtain ⟨v, r'⟩ := rr
 simp only at hl h ⊢
 have e1 : IntKind.i64.wrap (v : Int) = (v : Int) := by rw [IntKind.wrap_i64]; omega
 have e2 : wrap64 (v : Int) = (v : Int) := by unfold wrap64; omega
 have H := qh h
 clear hb h
 by_cases hv : v < 2147483648
 ·have e3 : decide ((v : Int) ≥ 2147483648) = false := qdfq (by omega)
  have e4 : signN v = (v : Int) := if_pos hv
  have e5 : ¬ (2147483648 : Int) ≤ (v : Int) := by omega
  rw [e4]
  clear e4
  go_in
  go_wp2_with fail
  refine H.out.mono ?_
  rintro e w1 ⟨rfl, r1, b1⟩
  go_wp2_with fail
  go_ret
  exact ⟨rfl, r1, b1⟩
 ·have e3 : decide ((v : Int) ≥ 2147483648) = true := qdtq (by omega)
  have e5 : (2147483648 : Int) ≤ (v : Int) := by omega
  have e4 : signN v = (v : Int) - 4294967296 := if_neg hv
  have e6 : wrap64 ((v : Int) - 4294967296) = (v : Int) - 4294967296 := by unfold wrap64; omega
  rw [e4]
  clear e4
  go_in
  go_wp2_with fail
  refine H.out.mono ?_
  rintro e w1 ⟨rfl, r1, b1⟩
  go_wp2_with fail
  go_ret
  exact ⟨rfl, r1, b1⟩
theorem truth_g (b : Nat) (r : Rd) (w : World) (hb : RdG w b r) :
  Calls Tryz.prog 124 #[.pointer (some ⟨b, 0, none⟩)] w fun e w' => e = .returned (.bool r.truth.1) ∧ Wr [b] w w' ∧ RdG w' b r.truth.2 := by
 have h := number_g b 1 r (by decide) w hb
 unfold Rd.truth
 generalize r.num 1 = rr at *
 obtain ⟨v, l, bad⟩ := rr
 simp only at h ⊢
 have e1 : ((v : Int) == 1) = decide (v = 1) := by rw [Bool.eq_iff_iff]; simp only [beq_iff_eq, decide_eq_true_eq]; omega
 have e2 : decide ((v : Int) > 1) = decide (1 < v) := decide_eq_decide.2 (by omega)
 obtain ⟨d1, hd1⟩ : ∃ q, decide (v = 1) = q := ⟨_, rfl⟩
 obtain ⟨d2, hd2⟩ : ∃ q, decide (1 < v) = q := ⟨_, rfl⟩
 rw [hd1] at e1
 rw [hd2] at e2
 rw [hd1, hd2]
 have H := qh h
 clear hb h
 cases bad with
 | true =>
  rw [Bool.true_or]
  clear hd1 hd2 e2
  go_in
  go_wp2_with fail
  refine H.out.mono ?_
  rintro e w1 ⟨rfl, r1, b1⟩
  have c1 := b1.cell 1
  have z1 := b1.frozen 1
  simp only [qgaq, qgzq, qgsq] at c1
  have B1 := qh b1
  clear b1
  go_wp2_with fail
  go_ret
  exact ⟨rfl, r1.setOn (by simp) _, B1.out.set_ 1 _⟩
 | false =>
  rw [Bool.false_or]
  cases d2 with
  | true =>
   have e4 : 1 < v := of_decide_eq_true hd2
   clear hd1 hd2
   go_in
   go_wp2_with fail
   refine H.out.mono ?_
   rintro e w1 ⟨rfl, r1, b1⟩
   have c1 := b1.cell 1
   have z1 := b1.frozen 1
   simp only [qgaq, qgzq, qgsq] at c1
   have B1 := qh b1
   clear b1
   go_wp2_with fail
   go_ret
   exact ⟨rfl, r1.setOn (by simp) _, B1.out.set_ 1 _⟩
  | false =>
   have e4 : ¬ 1 < v := of_decide_eq_false hd2
   clear hd1 hd2
   go_in
   go_wp2_with fail
   refine H.out.mono ?_
   rintro e w1 ⟨rfl, r1, b1⟩
   have c1 := b1.cell 1
   have z1 := b1.frozen 1
   simp only [qgaq, qgzq, qgsq] at c1
   have B1 := qh b1
   clear b1
   go_wp2_with fail
   go_ret
   exact ⟨rfl, r1.setOn (by simp) _, B1.out.set_ 1 _⟩
end Go.Proofs.YtildcdgobdfieaaGreat
namespace Go.Proofs.YtildcdgobdfieaaGreat
open Go
section
variable {P : Program} {ops : Array Oper} {Q : Exit → Act → World → Prop} {md : Region.Mode} {S : Array Bool → World → Prop}
def ClosedL (md : Region.Mode) (ops : Array Oper) (listed : Array Bool) : Prop :=
 ∀ j oj, ops[j]? = some oj → listed.getD j false = true → ∀ e ∈ oj.after, Region.binds md e = true → listed.getD e.on false = true
theorem ClosedL.set {listed : Array Bool} (h : ClosedL md ops listed) {i : Nat} (hi : i ∈ Region.ready md ops listed) : ClosedL md ops (listed.setIfInBounds i true) := by
 obtain ⟨_, oi, hoi, hall⟩ := mem_ready.1 hi
 intro j oj hj hl e he hb
 by_cases hij : i = j
 ·subst hij
  have : oj = oi := Option.some.inj (hj.symm.trans hoi)
  subst this
  exact getD_set_true (hall e he hb)
 ·rw [getD_set_ne false hij] at hl
  exact getD_set_true (h j oj hj hl e he hb)
theorem ClosedL.start (n : Nat) : ClosedL md ops (Array.replicate n false) := by
 intro j oj _ hl
 have : (Array.replicate n false).getD j false = false := by
  rcases Nat.lt_or_ge j n with h | h
  ·simp [h]
  ·simp [h]
 rw [this] at hl
 cases hl
def YieldsL (P : Program) (md : Region.Mode) (ops : Array Oper) (S : Array Bool → World → Prop) (i : Nat) (o : Oper) (v : Value) (a : Act) : Prop :=
 (Region.wanted o (yielded ops a.tmps) = true ∧ ∀ l w, ClosedL md ops l → l.getD i true = false → S l w → (execOp a.eval o).run P w = .ok (.value v) w) ∨
 (Region.wanted o (yielded ops a.tmps) = false ∧ v = undef)
def wpAnyL (P : Program) (md : Region.Mode) (ops : Array Oper) (Q : Exit → Act → World → Prop) (S : Array Bool → World → Prop) : Nat → Array Bool → Act → World → Prop
 | 0, listed, a, w => Region.ready md ops listed = [] ∧ Q .normal a w
 | fuel + 1, listed, a, w =>
  (Region.ready md ops listed = [] → Q .normal a w) ∧
  ∀ i ∈ Region.ready md ops listed, wpOp P ops Q i (fun a' w' => S (listed.setIfInBounds i true) w' ∧ wpAnyL P md ops Q S fuel (listed.setIfInBounds i true) a' w') a w
theorem wpAny_of_L : ∀ (fuel : Nat) (listed : Array Bool) (a : Act) (w : World), wpAnyL P md ops Q S fuel listed a w → wpAny P md ops Q fuel listed a w
 | 0, _, _, _, h => h
 | fuel + 1, _, _, _, h => ⟨h.1, fun i hi => wpOp_mono (fun a' w' h' => wpAny_of_L fuel _ a' w' h'.2) (h.2 i hi)⟩
theorem wpAnyL_first {i : Nat} {oi : Oper} {v : Value} (hi : ops[i]? = some oi) (hsel : ∀ (j : Nat) (o : Oper) cs b, ops[j]? = some o → o.op ≠ .select cs b)
  (hQ : ∀ c a w, Q (.panic c) (a.put oi.dst v) w → Q (.panic c) a w)
  (hSi : ∀ l w, S (l.setIfInBounds i true) w ↔ S l w) :
  ∀ (fuel : Nat) (listed : Array Bool) (a : Act) (w : World),
   (∀ j oj, ops[j]? = some oj → j ≠ i → listed.getD j true = false → (∀ e ∈ oj.after, Region.binds md e = true → e.on ≠ i) → oi.apart ops oj = true) →
   i ∈ Region.ready md ops listed → YieldsL P md ops S i oi v a → ClosedL md ops listed → S listed w →
   wpAnyL P md ops Q S fuel (listed.setIfInBounds i true) (a.put oi.dst v) w → wpAnyL P md ops Q S (fuel + 1) listed a w := by
 -- what it yields now, in this world and with these listed
 have now : ∀ {listed : Array Bool} {a : Act} {w : World}, i ∈ Region.ready md ops listed → YieldsL P md ops S i oi v a → ClosedL md ops listed → S listed w →
   ∀ {K : Act → World → Prop}, K (a.put oi.dst v) w → wpOp P ops Q i K a w := by
  intro listed a w hr hy hc hS K h
  have hun := (mem_ready.1 hr).1
  unfold Go.wpOp
  simp only [hi]
  rcases hy with ⟨hw, hv⟩ | ⟨hw, rfl⟩
  ·simp only [hw, if_true, Oper.wp, hv listed w hc hun hS, Oper.upon]; exact .inl h
  ·simp only [hw, Bool.false_eq_true, if_false]; exact h
 intro fuel
 induction fuel with
 | zero =>
  intro listed a w _ hr hy hc hS H
  refine ⟨fun h => (by rw [h] at hr; cases hr), fun j hj => ?_⟩
  by_cases hji : j = i
  ·subst hji; exact now hj hy hc hS ⟨(hSi listed w).2 hS, H⟩
  ·have := ready_mono hj hji
   rw [H.1] at this
   cases this
 | succ fuel ih =>
  intro listed a w hfree hr hy hc hS H
  refine ⟨fun h => (by rw [h] at hr; cases hr), fun j hj => ?_⟩
  by_cases hji : j = i
  ·subst hji; exact now hj hy hc hS ⟨(hSi listed w).2 hS, H⟩
  ·have h1 := H.2 j (ready_mono hj hji)
   obtain ⟨hjun, oj, hoj, hall⟩ := mem_ready.1 hj
   have hnot : ∀ e ∈ oj.after, Region.binds md e = true → e.on ≠ i := fun e he hb heq => by
    have h1 := hall e he hb
    have h0 := (mem_ready.1 hr).1
    rw [heq] at h1
    rcases Nat.lt_or_ge i listed.size with h' | h'
    ·simp [h'] at h0 h1; rw [h0] at h1; cases h1
    ·simp [Array.getElem?_eq_none h'] at h1
   -- the frame apart: by the elder law, under a condition that says nothing of the world
   have hap := hfree j oj hoj hji hjun hnot
   obtain ⟨p1, p2, p3⟩ := Oper.apart_spec hap
   have hsi := fun cs b => hsel i oi cs b hi
   have hsj := fun cs b => hsel j oj cs b hoj
   have hy0 : YieldsIf P ops (fun w => ∃ l, ClosedL md ops l ∧ l.getD i true = false ∧ S l w) oi v a := hy.imp (fun ⟨hw, hv⟩ => ⟨hw, fun w ⟨l, c1, c2, c3⟩ => hv l w c1 c2 c3⟩) id
   have h2 := wpOp_putIf hoj hap hsi hsj hQ hy0 h1
   have hfree' : ∀ k ok, ops[k]? = some ok → k ≠ i → (listed.setIfInBounds j true).getD k true = false →
     (∀ e ∈ ok.after, Region.binds md e = true → e.on ≠ i) → oi.apart ops ok = true := fun k ok hk hki hun hno => by
    refine hfree k ok hk hki ?_ hno
    by_cases hjk : j = k
    ·subst hjk; exact hjun
    ·rw [getD_set_ne true hjk] at hun; exact hun
   refine wpOp_mono (fun a' w' h3 => ?_) h2
   have hcomm : (listed.setIfInBounds i true).setIfInBounds j true = (listed.setIfInBounds j true).setIfInBounds i true := Array.setIfInBounds_comm _ _ (fun e => hji e.symm)
   have h32 := h3.2.1
   have h33 := h3.2.2
   rw [hcomm] at h32 h33
   have hS' := (hSi _ w').1 h32
   have hy' : YieldsL P md ops S i oi v a' := h3.1.imp (fun ⟨hw, hv⟩ => ⟨hw, fun l w c1 c2 c3 => hv w ⟨l, c1, c2, c3⟩⟩) id
   exact ⟨hS', ih (listed.setIfInBounds j true) a' w' hfree' (ready_mono hr (fun e => hji e.symm)) hy' (hc.set hj) hS' h33⟩
theorem wpAnyL_take {i : Nat} {oi : Oper} {v : Value} {fuel : Nat} {listed : Array Bool} {a : Act} {w : World} (hi : ops[i]? = some oi)
  (hs : Region.noSelect ops = true) (hf : Region.free md ops listed i = true) (hr : (Region.ready md ops listed).contains i = true)
  (hQ : ∀ c a w, Q (.panic c) (a.put oi.dst v) w → Q (.panic c) a w) (hSi : ∀ l w, S (l.setIfInBounds i true) w ↔ S l w) (hy : YieldsL P md ops S i oi v a) (hc : ClosedL md ops listed) (hS : S listed w)
  (h : ClosedL md ops (listed.setIfInBounds i true) → S (listed.setIfInBounds i true) w → wpAnyL P md ops Q S fuel (listed.setIfInBounds i true) (a.put oi.dst v) w) : wpAnyL P md ops Q S (fuel + 1) listed a w :=
 wpAnyL_first hi (Region.noSelect_spec hs) hQ hSi fuel listed a w (Region.free_spec hi hf) (by simpa using hr) hy hc hS (h (hc.set (by simpa using hr)) ((hSi _ _).2 hS))
theorem wpAnyL_one {i : Nat} {fuel : Nat} {listed : Array Bool} {a : Act} {w : World} (hr : Region.ready md ops listed = [i]) (hc : ClosedL md ops listed)
  (h : wpOp P ops Q i (fun a' w' => S (listed.setIfInBounds i true) w' ∧ (ClosedL md ops (listed.setIfInBounds i true) → wpAnyL P md ops Q S fuel (listed.setIfInBounds i true) a' w')) a w) : wpAnyL P md ops Q S (fuel + 1) listed a w := by
 have hm : i ∈ Region.ready md ops listed := by rw [hr]; simp
 refine ⟨fun h0 => absurd (h0.symm.trans hr) (by simp), fun j hj => ?_⟩
 rw [hr] at hj
 obtain rfl : j = i := by simpa using hj
 exact wpOp_mono (fun a' w' h3 => ⟨h3.1, h3.2 (hc.set hm)⟩) h
theorem wpAnyL_step {i : Nat} {o : Oper} {fuel : Nat} {listed : Array Bool} {a : Act} {w : World} (hi : ops[i]? = some o) (hr : Region.ready md ops listed = [i]) (hc : ClosedL md ops listed)
  (h : ∀ K : Act → World → Prop, (∀ a' w', S (listed.setIfInBounds i true) w' → (ClosedL md ops (listed.setIfInBounds i true) → wpAnyL P md ops Q S fuel (listed.setIfInBounds i true) a' w') → K a' w') → if Region.wanted o (yielded ops a.tmps) = true then Oper.wp P o a w K Q else K (a.put o.dst undef) w) : wpAnyL P md ops Q S (fuel + 1) listed a w := by
 refine wpAnyL_one hr hc ?_
 unfold wpOp
 simp only [hi]
 have := h (fun a' w' => S (listed.setIfInBounds i true) w' ∧ (ClosedL md ops (listed.setIfInBounds i true) → wpAnyL P md ops Q S fuel (listed.setIfInBounds i true) a' w')) (fun a' w' h1 h2 => ⟨h1, h2⟩)
 by_cases hw : Region.wanted o (yielded ops a.tmps) = true
 ·rw [if_pos hw] at this ⊢
  exact .inl this
 ·rw [if_neg hw] at this ⊢
  exact this
theorem wpAnyL_done {listed : Array Bool} {a : Act} {w : World} (hr : Region.ready md ops listed = []) (h : Q .normal a w) : ∀ fuel, wpAnyL P md ops Q S fuel listed a w
 | 0 => ⟨hr, h⟩
 | _ + 1 => ⟨fun _ => h, by rw [hr]; simp⟩
theorem wp_region_L {id : Nat} {a : Act} {w : World} (S : Array Bool → World → Prop) (hm : P.follows .mixedOrders = true)
  (h : ClosedL .any ops (Array.replicate ops.size false) → wpAnyL P .any ops Q S ops.size (Array.replicate ops.size false) a { w with drawn := w.drawn + 1 }) : (Code.region id ops true).wp P Q a w :=
 wp_region_any hm (wpAny_of_L _ _ _ _ (h (ClosedL.start _)))
def Until (t : Nat) (C : World → Prop) : Array Bool → World → Prop := fun l w => l.getD t false = false → C w
theorem until_take (t : Nat) (C : World → Prop) {i : Nat} (hne : i ≠ t) (l : Array Bool) (w : World) : Until t C (l.setIfInBounds i true) w ↔ Until t C l w := by
 unfold Until
 rw [getD_set_ne false hne]
theorem yields_until {t : Nat} {C : World → Prop} {i : Nat} {o : Oper} {v : Value} {a : Act} (hb : (match ops[t]? with | some ot => ot.after.any fun e => Region.binds md e && e.on == i | none => false) = true)
  (h : (Region.wanted o (yielded ops a.tmps) = true ∧ ∀ w, C w → (execOp a.eval o).run P w = .ok (.value v) w) ∨ (Region.wanted o (yielded ops a.tmps) = false ∧ v = undef)) : YieldsL P md ops (Until t C) i o v a := by
 refine h.imp (fun ⟨hw, hv⟩ => ⟨hw, fun l w hc hun hS => hv w (hS ?_)⟩) id
 cases hlt : l.getD t false with
 | false => rfl
 | true =>
  exfalso
  cases hot : ops[t]? with
  | none => rw [hot] at hb; cases hb
  | some ot =>
   rw [hot] at hb
   obtain ⟨e, he, hb⟩ := Array.any_eq_true'.1 hb
   simp only [Bool.and_eq_true, beq_iff_eq] at hb
   have h2 := hc t ot hot hlt e he hb.1
   rw [hb.2] at h2
   rcases Nat.lt_or_ge i l.size with h' | h'
   ·simp [h'] at hun h2; rw [hun] at h2; cases h2
   ·simp [Array.getElem?_eq_none h'] at h2
end
open Go
section
variable {P : Program} {ops : Array Oper} {md : Region.Mode}
def AlwO (C : World → Prop) : Array Bool → World → Prop := fun _ w => C w
theorem alwO_take (C : World → Prop) {i : Nat} (l : Array Bool) (w : World) : AlwO C (l.setIfInBounds i true) w ↔ AlwO C l w := Iff.rfl
theorem yields_alwO {C : World → Prop} {i : Nat} {o : Oper} {v : Value} {a : Act}
  (h : (Region.wanted o (yielded ops a.tmps) = true ∧ ∀ w, C w → (execOp a.eval o).run P w = .ok (.value v) w) ∨ (Region.wanted o (yielded ops a.tmps) = false ∧ v = undef)) : YieldsL P md ops (AlwO C) i o v a :=
 h.imp (fun ⟨hw, hv⟩ => ⟨hw, fun l w hc hun hS => hv w hS⟩) id
end
def waitsO (md : Region.Mode) (ops : Array Oper) : Nat → Nat → Nat → Bool
 | 0, t, i => t == i
 | k + 1, t, i => t == i || (match ops[t]? with | some ot => ot.after.any fun e => Region.binds md e && waitsO md ops k e.on i | none => false)
theorem waitsO_un {md : Region.Mode} {ops : Array Oper} {l : Array Bool} (hc : ClosedL md ops l) {i : Nat} (hi : l.getD i true = false) : ∀ k t, waitsO md ops k t i = true → l.getD t false = false
 | 0, t, h => by
  unfold waitsO at h
  rw [beq_iff_eq] at h
  subst h
  rcases Nat.lt_or_ge t l.size with h' | h'
  ·simp [h'] at hi ⊢
   exact hi
  ·simp [Array.getElem?_eq_none h']
 | k + 1, t, h => by
  unfold waitsO at h
  rw [Bool.or_eq_true] at h
  rcases h with h | h
  ·exact waitsO_un hc hi 0 t h
  ·cases hlt : l.getD t false with
   | false => rfl
   | true =>
    exfalso
    cases hot : ops[t]? with
    | none => rw [hot] at h; cases h
    | some ot =>
     rw [hot] at h
     obtain ⟨e, he, hb⟩ := Array.any_eq_true'.1 h
     simp only [Bool.and_eq_true] at hb
     have h2 := hc t ot hot hlt e he hb.1
     have h3 := waitsO_un hc hi k e.on hb.2
     rw [h2] at h3
     cases h3
theorem yields_waitsO {P : Program} {md : Region.Mode} {ops : Array Oper} (k : Nat) {t : Nat} {C : World → Prop} {i : Nat} {o : Oper} {v : Value} {a : Act} (hb : waitsO md ops k t i = true)
  (h : (Region.wanted o (yielded ops a.tmps) = true ∧ ∀ w, C w → (execOp a.eval o).run P w = .ok (.value v) w) ∨ (Region.wanted o (yielded ops a.tmps) = false ∧ v = undef)) : YieldsL P md ops (Until t C) i o v a :=
 h.imp (fun ⟨hw, hv⟩ => ⟨hw, fun l w hc hun hS => hv w (hS (waitsO_un hc hun k t hb))⟩) id
section
variable {P : Program} {ops : Array Oper} {Q : Exit → Act → World → Prop} {md : Region.Mode} {S : Array Bool → World → Prop}
def Cs (w : World) : List (Nat × Nat × Value) → Prop
 | [] => True
 | c :: l => w.cell? ⟨c.1, c.2.1, none⟩ = some c.2.2 ∧ Cs w l
theorem Cs.app {w : World} : ∀ {l l' : List (Nat × Nat × Value)}, Cs w l → Cs w l' → Cs w (l ++ l')
 | [], _, _, k => k
 | _ :: _, _, h, k => ⟨h.1, Cs.app h.2 k⟩
theorem Cs.wr {l : List Nat} {w w' : World} (k : Wr l w w') : ∀ {cs : List (Nat × Nat × Value)}, (∀ c ∈ cs, c.1 ∉ l) → Cs w cs → Cs w' cs
 | [], _, _ => trivial
 | _ :: _, hl, h => ⟨k.cellOf h.1 (hl _ (List.mem_cons_self ..)), Cs.wr k (fun c hc => hl c (List.mem_cons_of_mem _ hc)) h.2⟩
def GoL (P : Program) (md : Region.Mode) (ops : Array Oper) (Q : Exit → Act → World → Prop) (S : Array Bool → World → Prop) (fuel : Nat) (listed : Array Bool) (a : Act) (w : World) : Prop :=
 ClosedL md ops listed → S listed w → wpAnyL P md ops Q S fuel listed a w
theorem beginL {id : Nat} {a : Act} {w : World} (S : Array Bool → World → Prop) (hm : P.follows .mixedOrders = true) (hS : S (Array.replicate ops.size false) w.drew)
  (h : GoL P .any ops (NoPanic Q) S ops.size (Array.replicate ops.size false) a w.drew) : (Code.region id ops true).wp P Q a w :=
 wp_region_noPanic (wp_region_L S hm (fun hcl => h hcl hS))
theorem beginA {id : Nat} {a : Act} {w : World} (l : List Nat) (cs : List (Nat × Nat × Value)) (hm : P.follows .mixedOrders = true) (h0 : Cs w cs) (hl : ∀ c ∈ cs, c.1 ∉ l)
  (h : RowKit.Hid (∀ W, Wr l w W → Cs W cs) → GoL P .any ops (NoPanic Q) (AlwO fun w' => Cs w' cs) ops.size (Array.replicate ops.size false) a w.drew) : (Code.region id ops true).wp P Q a w :=
 have hc : ∀ W, Wr l w W → Cs W cs := fun W hW => Cs.wr hW hl h0
 beginL _ hm (hc _ (Wr.refl _ _).drew) (h (qh hc))
theorem op_at {i : Nat} {oi : Oper} (h : ops.toList[i]? = some oi) : ops[i]? = some oi := by rw [← Array.getElem?_toList]; exact h
def mvA (md : Region.Mode) (ops : Array Oper) (listed : Array Bool) (i : Nat) : Bool := Region.noSelect ops && Region.free md ops listed i && (Region.ready md ops listed).contains i
def mvU (md : Region.Mode) (ops : Array Oper) (listed : Array Bool) (t i : Nat) : Bool := mvA md ops listed i && i != t && waitsO md ops 30 t i
theorem st0 (i : Nat) {o : Oper} {fuel : Nat} {listed : Array Bool} {a : Act} {w : World} (hi' : ops.toList[i]? = some o) (hr : Region.ready md ops listed = [i]) (hc : ClosedL md ops listed)
  (h : ∀ K : Act → World → Prop, (∀ a' w', S (listed.setIfInBounds i true) w' → (ClosedL md ops (listed.setIfInBounds i true) → wpAnyL P md ops Q S fuel (listed.setIfInBounds i true) a' w') → K a' w') → if Region.wanted o (yielded ops a.tmps) = true then Oper.wp P o a w K Q else K (a.put o.dst undef) w) : wpAnyL P md ops Q S (fuel + 1) listed a w :=
 wpAnyL_step (op_at hi') hr hc h
theorem mvL (i : Nat) {oi : Oper} {v : Value} {fuel : Nat} {listed : Array Bool} {a : Act} {w : World} {t : Nat} {C : World → Prop} (hi' : ops.toList[i]? = some oi) (hk : mvU md ops listed t i = true)
  (hw : Region.wanted oi (yielded ops a.tmps) = true) (hy : ∀ w, C w → (execOp a.eval oi).run P w = .ok (.value v) w)
  (h : GoL P md ops (NoPanic Q) (Until t C) fuel (listed.setIfInBounds i true) (a.put oi.dst v) w) : GoL P md ops (NoPanic Q) (Until t C) (fuel + 1) listed a w := by
 unfold mvU mvA at hk
 simp only [Bool.and_eq_true, bne_iff_ne] at hk
 exact fun hc hS => wpAnyL_take (op_at hi') hk.1.1.1.1 hk.1.1.1.2 hk.1.1.2 (fun _ _ _ h => h) (until_take t C hk.1.2) (yields_waitsO 30 hk.2 (.inl ⟨hw, hy⟩)) hc hS h
theorem mvB (i : Nat) {oi : Oper} {v : Value} {fuel : Nat} {listed : Array Bool} {a : Act} {w : World} {C : World → Prop} (hi' : ops.toList[i]? = some oi) (hk : mvA md ops listed i = true)
  (hw : Region.wanted oi (yielded ops a.tmps) = true) (hy : ∀ w, C w → (execOp a.eval oi).run P w = .ok (.value v) w)
  (h : GoL P md ops (NoPanic Q) (AlwO C) fuel (listed.setIfInBounds i true) (a.put oi.dst v) w) : GoL P md ops (NoPanic Q) (AlwO C) (fuel + 1) listed a w := by
 unfold mvA at hk
 simp only [Bool.and_eq_true] at hk
 exact fun hc hS => wpAnyL_take (op_at hi') hk.1.1 hk.1.2 hk.2 (fun _ _ _ h => h) (alwO_take C) (yields_alwO (.inl ⟨hw, hy⟩)) hc hS (fun h1 h2 => h h1 h2)
theorem skB (i : Nat) {oi : Oper} {fuel : Nat} {listed : Array Bool} {a : Act} {w : World} {C : World → Prop} (hi' : ops.toList[i]? = some oi) (hk : mvA md ops listed i = true)
  (hw : Region.wanted oi (yielded ops a.tmps) = false)
  (h : GoL P md ops (NoPanic Q) (AlwO C) fuel (listed.setIfInBounds i true) (a.put oi.dst undef) w) : GoL P md ops (NoPanic Q) (AlwO C) (fuel + 1) listed a w := by
 unfold mvA at hk
 simp only [Bool.and_eq_true] at hk
 exact fun hc hS => wpAnyL_take (op_at hi') hk.1.1 hk.1.2 hk.2 (fun _ _ _ h => h) (alwO_take C) (yields_alwO (.inr ⟨hw, rfl⟩)) hc hS (fun h1 h2 => h h1 h2)
theorem stL (i : Nat) {o : Oper} {fuel : Nat} {listed : Array Bool} {a : Act} {w : World} (hi' : ops.toList[i]? = some o) (hr : Region.ready md ops listed = [i])
  (h : ∀ K : Act → World → Prop, (∀ a' w', S (listed.setIfInBounds i true) w' → GoL P md ops Q S fuel (listed.setIfInBounds i true) a' w' → K a' w') → if Region.wanted o (yielded ops a.tmps) = true then Oper.wp P o a w K Q else K (a.put o.dst undef) w) : GoL P md ops Q S (fuel + 1) listed a w :=
 fun hc _ => wpAnyL_step (op_at hi') hr hc (fun K hK => h K (fun a' w' h1 h2 => hK a' w' h1 (fun h3 => h2 h3 h1)))
theorem endL {listed : Array Bool} {a : Act} {w : World} {fuel : Nat} (hr : Region.ready md ops listed = []) (h : Q .normal a w) : GoL P md ops (NoPanic Q) S fuel listed a w :=
 fun _ _ => wpAnyL_done hr (NoPanic.normal h) _
theorem begin1 {id : Nat} {a : Act} {w : World} (t : Nat) (l : List Nat) (C : World → Prop) (hm : P.follows .mixedOrders = true) (hC : ∀ W, Wr l w W → C W)
  (h : RowKit.Hid (∀ W, Wr l w W → C W) → ClosedL .any ops (Array.replicate ops.size false) → Until t C (Array.replicate ops.size false) w.drew → wpAnyL P .any ops (NoPanic Q) (Until t C) ops.size (Array.replicate ops.size false) a w.drew) : (Code.region id ops true).wp P Q a w :=
 wp_region_noPanic (wp_region_L _ hm (fun hcl => h (qh hC) hcl (fun _ => hC _ (Wr.refl _ _).drew)))
theorem begin2 {id : Nat} {a : Act} {w : World} (l : List Nat) (C : World → Prop) (hm : P.follows .mixedOrders = true) (hC : ∀ W, Wr l w W → C W)
  (h : RowKit.Hid (∀ W, Wr l w W → C W) → ClosedL .any ops (Array.replicate ops.size false) → AlwO C (Array.replicate ops.size false) w.drew → wpAnyL P .any ops (NoPanic Q) (AlwO C) ops.size (Array.replicate ops.size false) a w.drew) : (Code.region id ops true).wp P Q a w :=
 wp_region_noPanic (wp_region_L _ hm (fun hcl => h (qh hC) hcl (hC _ (Wr.refl _ _).drew)))
theorem mvu (i : Nat) {oi : Oper} {v : Value} {fuel : Nat} {listed : Array Bool} {a : Act} {w : World} {t : Nat} {C : World → Prop} (hi' : ops.toList[i]? = some oi) (hk : mvU md ops listed t i = true)
  (hw : Region.wanted oi (yielded ops a.tmps) = true) (hy : ∀ w, C w → (execOp a.eval oi).run P w = .ok (.value v) w) (hc : ClosedL md ops listed) (hS : Until t C listed w)
  (h : ClosedL md ops (listed.setIfInBounds i true) → Until t C (listed.setIfInBounds i true) w → wpAnyL P md ops (NoPanic Q) (Until t C) fuel (listed.setIfInBounds i true) (a.put oi.dst v) w) : wpAnyL P md ops (NoPanic Q) (Until t C) (fuel + 1) listed a w :=
 mvL i hi' hk hw hy h hc hS
theorem mva (i : Nat) {oi : Oper} {v : Value} {fuel : Nat} {listed : Array Bool} {a : Act} {w : World} {C : World → Prop} (hi' : ops.toList[i]? = some oi) (hk : mvA md ops listed i = true)
  (hw : Region.wanted oi (yielded ops a.tmps) = true) (hy : ∀ w, C w → (execOp a.eval oi).run P w = .ok (.value v) w) (hc : ClosedL md ops listed) (hS : AlwO C listed w)
  (h : ClosedL md ops (listed.setIfInBounds i true) → AlwO C (listed.setIfInBounds i true) w → wpAnyL P md ops (NoPanic Q) (AlwO C) fuel (listed.setIfInBounds i true) (a.put oi.dst v) w) : wpAnyL P md ops (NoPanic Q) (AlwO C) (fuel + 1) listed a w :=
 mvB i hi' hk hw hy h hc hS
theorem ska (i : Nat) {oi : Oper} {fuel : Nat} {listed : Array Bool} {a : Act} {w : World} {C : World → Prop} (hi' : ops.toList[i]? = some oi) (hk : mvA md ops listed i = true)
  (hw : Region.wanted oi (yielded ops a.tmps) = false) (hc : ClosedL md ops listed) (hS : AlwO C listed w)
  (h : ClosedL md ops (listed.setIfInBounds i true) → AlwO C (listed.setIfInBounds i true) w → wpAnyL P md ops (NoPanic Q) (AlwO C) fuel (listed.setIfInBounds i true) (a.put oi.dst undef) w) : wpAnyL P md ops (NoPanic Q) (AlwO C) (fuel + 1) listed a w :=
 skB i hi' hk hw h hc hS
end
end Go.Proofs.YtildcdgobdfieaaGreat
namespace Go.Proofs.YtildcdgobdfieaaGreat
open Go.RowKit
def natsOf (s : ByteArray) : List Nat := s.data.toList.map UInt8.toNat
theorem natsOf_len (s : ByteArray) : (natsOf s).length = s.size := by
 unfold natsOf
 rw [qlmq, Array.length_toList]
 rfl
theorem natsOf_take (s : ByteArray) (k : Nat) (hk : k < s.size) : (natsOf s).take (k + 1) = (natsOf s).take k ++ [(s[k]'hk).toNat] := by
 have hl : k < (natsOf s).length := by rw [natsOf_len]; exact hk
 rw [List.take_add_one, qgeq hl]
 have : (natsOf s)[k] = (s[k]'hk).toNat := by
  simp only [natsOf, List.getElem_map, Array.getElem_toList]
  rfl
 rw [this]
 rfl
theorem moreN_one (h c : Nat) : moreN h [c] = stepN h c := by
 unfold moreN
 rw [List.foldl_cons, List.foldl_nil]
theorem moreN_snoc (h : Nat) (l : List Nat) (c : Nat) : moreN h (l ++ [c]) = stepN (moreN h l) c := by
 rw [moreN_append, moreN_one]
theorem step_eq (a c : Nat) (ha : a < 18446744073709551616) (hc : c < 256) : IntKind.u64.wrap (bits .xor .u64 (a : Int) (c : Int) * 1099511628211) = ((stepN a c : Nat) : Int) := by
 rw [Go.bits_xor_u64_nat a c ha (by omega)]
 rw [IntKind.wrap_u64]
 unfold stepN
 generalize a ^^^ c = x
 omega
end Go.Proofs.YtildcdgobdfieaaGreat
