/- iface's clone, of an interface of one type without lists: walked. No conditions. -/
import Derived.Test.YtildcdgobdfieaaGreatRD07
import Derived.Test.YtildcdgobdfieaaGreatRD11
set_option linter.unusedVariables false
set_option linter.unusedSimpArgs false
set_option maxRecDepth 100000
set_option maxHeartbeats 32000000
namespace Go.Proofs.YtildcdgobdfieaaGreat
open Go.RowKit
def recL : List Value := [.int .u8 12, .string ⟨#[]⟩, .string ⟨#[]⟩, .int .i64 0, .int .i64 0, .int .i64 0, .int .i64 0, .slice none 0 0, .slice none 0 0, .slice none 0 0, .slice none 0 0, .int .i64 0]
def cjV (q g : Nat) : Nat → Value
 | 0 => .pointer (some ⟨g, 1, none⟩)
 | 3 => .pointer (some ⟨g, 2, none⟩)
 | 6 => .pointer (some ⟨g, 3, none⟩)
 | 9 => .pointer (some ⟨g, 1, none⟩)
 | 11 => .pointer (some ⟨g, 2, none⟩)
 | 13 => .pointer (some ⟨g, 3, none⟩)
 | 10 => undef
 | 12 => undef
 | 14 => undef
 | 4 => .slice (some ⟨q, 0, none⟩) 1 1
 | _ => .slice none 0 0
def cjB (q : Nat) (σ : Nat → Value) (l : Array Bool) : Value := if lst l 12 = true then σ 5 else .slice (some ⟨q, 0, none⟩) 1 1
structure CjI (m : ByteArray) (q : Nat) (wd : World) (g : Nat) (σ : Nat → Value) (l : Array Bool) (w' : World) : Prop where
 v : ∀ j, j ≠ 5 → lst l j = true → σ j = cjV q g j
 o : lst l 12 = true → lst l 5 = true
 o4 : lst l 5 = true → lst l 4 = true
 t : lst l 5 = true → w'.ownsRow wd.heap.size 129 12 (σ 5) 1 recL
 s : Blk w' q 129 recL.toArray
 b : Blk w' g 55 #[.string m, .slice none 0 0, cjB q σ l, .slice none 0 0]
 acc : Wr [g] wd w'
section
variable {m : ByteArray} {q : Nat} {wd : World} {g : Nat} {σ : Nat → Value} {l : Array Bool} {w1 w2 : World}
theorem own_wr {b : Nat} {T : TypeId} {z n : Nat} {v : Value} {xs : List Value} {ls : List Nat} (h : w1.ownsRow b T z v n xs) (r : Wr ls w1 w2) (hl : ∀ x ∈ ls, x < b) : w2.ownsRow b T z v n xs := by
 refine ⟨h.1, ?_⟩
 rcases h.2 with hn | ⟨g, cap, cur, rfl, hb, hgg, rest⟩
 ·exact .inl hn
 ·exact .inr ⟨g, cap, cur, rfl, hb, Blk.wr (show Blk w1 g T cur from hgg) r (fun h => by have := hl g h; omega), rest⟩
theorem own_base {b b' : Nat} {T : TypeId} {z n : Nat} {v : Value} {xs : List Value} (h : w1.ownsRow b T z v n xs) (hb : b' ≤ b) : w1.ownsRow b' T z v n xs := by
 refine ⟨h.1, ?_⟩
 rcases h.2 with hn | ⟨g, cap, cur, rfl, hb', rest⟩
 ·exact .inl hn
 ·exact .inr ⟨g, cap, cur, rfl, by omega, rest⟩
theorem CjI.store (h : CjI m q wd g σ l w1) (hz : l.size = 15) (i : Nat) (hi : i ≠ 5 ∧ i ≠ 12 ∧ i ≠ 4) (k : Nat) (hk : k = 1 ∨ k = 3) (hgw : g < wd.heap.size) (hqg : q ≠ g) (hu : cjV q g i = undef) : CjI m q wd g (upd σ i undef) (l.setIfInBounds i true) (w1.setCell ⟨g, k, none⟩ (.slice none 0 0)) := by
 have r : Wr [g] w1 (w1.setCell ⟨g, k, none⟩ (.slice none 0 0)) := (Wr.refl [g] _).setOn (by simp) _
 have e5 : lst (l.setIfInBounds i true) 5 = lst l 5 := lst_ne (fun e => hi.1 e.symm)
 have e12 : lst (l.setIfInBounds i true) 12 = lst l 12 := lst_ne (fun e => hi.2.1 e.symm)
 have e4 : lst (l.setIfInBounds i true) 4 = lst l 4 := lst_ne (fun e => hi.2.2 e.symm)
 have u5 : upd σ i undef 5 = σ 5 := upd_ne σ _ (fun e => hi.1 e.symm)
 refine ⟨fun j h5 hj => ?_, fun h12 => ?_, fun h5 => ?_, fun h5 => ?_, h.s.wr r (by simpa using hqg), ?_, h.acc.trans r⟩
 ·by_cases hji : j = i
  ·subst hji
   rw [upd_same, hu]
  ·rw [upd_ne σ _ hji]
   rw [lst_ne hji] at hj
   exact h.v j h5 hj
 ·rw [e5]; rw [e12] at h12; exact h.o h12
 ·rw [e4]; rw [e5] at h5; exact h.o4 h5
 ·rw [u5]; rw [e5] at h5; exact own_wr (h.t h5) r (by simpa using hgw)
 ·have := h.b.set_ k (.slice none 0 0)
  unfold cjB at this ⊢
  rw [e12, u5]
  rcases hk with rfl | rfl <;> simpa using this
theorem CjI.stored (h : CjI m q wd g σ l w1) (hz : l.size = 15) (h5l : lst l 5 = true) (hgw : g < wd.heap.size) (hqg : q ≠ g) : CjI m q wd g (upd σ 12 undef) (l.setIfInBounds 12 true) (w1.setCell ⟨g, 2, none⟩ (σ 5)) := by
 have r : Wr [g] w1 (w1.setCell ⟨g, 2, none⟩ (σ 5)) := (Wr.refl [g] _).setOn (by simp) _
 have u5 : upd σ 12 undef 5 = σ 5 := upd_ne σ _ (by decide)
 refine ⟨fun j h5 hj => ?_, fun _ => ?_, fun h5 => ?_, fun h5 => ?_, h.s.wr r (by simpa using hqg), ?_, h.acc.trans r⟩
 ·by_cases hji : j = 12
  ·subst hji
   rw [upd_same]
   rfl
  ·rw [upd_ne σ _ hji]
   rw [lst_ne hji] at hj
   exact h.v j h5 hj
 ·rw [lst_ne (by decide)]; exact h5l
 ·rw [lst_ne (by decide)]; exact h.o4 h5l
 ·rw [u5]; exact own_wr (h.t h5l) r (by simpa using hgw)
 ·have := h.b.set_ 2 (σ 5)
  unfold cjB at this ⊢
  rw [lst_same (by omega), if_pos rfl, u5]
  simpa using this
end
def ckV (g : Nat) : Nat → Value
 | 0 => .pointer (some ⟨g, 0, none⟩)
 | 1 => .pointer (some ⟨g, 0, none⟩)
 | 2 => .pointer (some ⟨g, 0, none⟩)
 | 3 => .pointer (some ⟨g, 0, none⟩)
 | 4 => .pointer (some ⟨g, 0, none⟩)
 | 5 => .pointer (some ⟨g, 0, none⟩)
 | 9 => .pointer (some ⟨g, 0, none⟩)
 | 10 => .pointer (some ⟨g, 0, none⟩)
 | 14 => .pointer (some ⟨g, 0, none⟩)
 | 15 => .pointer (some ⟨g, 0, none⟩)
 | 19 => .pointer (some ⟨g, 0, none⟩)
 | 20 => .pointer (some ⟨g, 0, none⟩)
 | 24 => .pointer (some ⟨g, 0, none⟩)
 | 27 => .pointer (some ⟨g, 0, none⟩)
 | 30 => .pointer (some ⟨g, 0, none⟩)
 | 33 => .pointer (some ⟨g, 0, none⟩)
 | 6 => .pointer (some ⟨g, 7, none⟩)
 | 25 => .pointer (some ⟨g, 7, none⟩)
 | 11 => .pointer (some ⟨g, 8, none⟩)
 | 28 => .pointer (some ⟨g, 8, none⟩)
 | 16 => .pointer (some ⟨g, 9, none⟩)
 | 31 => .pointer (some ⟨g, 9, none⟩)
 | 21 => .pointer (some ⟨g, 10, none⟩)
 | 34 => .pointer (some ⟨g, 10, none⟩)
 | 26 => undef
 | 29 => undef
 | 32 => undef
 | 35 => undef
 | _ => .slice none 0 0
structure CkI (cap base : Nat) (wd : World) (g : Nat) (σ : Nat → Value) (l : Array Bool) (w' : World) : Prop where
 v : ∀ j, lst l j = true → σ j = ckV g j
 t : w'.ownsRow base 129 12 (.slice (some ⟨g, 0, none⟩) 1 cap) 1 recL
 acc : Wr [g] wd w'
theorem CkI.step {cap base : Nat} {wd : World} {g : Nat} {σ : Nat → Value} {l : Array Bool} {w1 w2 : World} (h : CkI cap base wd g σ l w1) (i : Nat) (ht : w2.ownsRow base 129 12 (.slice (some ⟨g, 0, none⟩) 1 cap) 1 recL) (r : Wr [g] w1 w2) : CkI cap base wd g (upd σ i (ckV g i)) (l.setIfInBounds i true) w2 := by
 refine ⟨fun j hj => ?_, ht, h.acc.trans r⟩
 by_cases hji : j = i
 ·subst hji
  exact upd_same _ _ _
 ·rw [upd_ne σ _ hji]
  rw [lst_ne hji] at hj
  exact h.v j hj
def Lb (S : Nat) (lab : Nat → Nat × Nat) (i c : Nat) (b : Nat) : Prop := S ≤ b ∧ lab b = (i, c)
def OwnL (w : World) (S : Nat) (lab : Nat → Nat × Nat) (i c : Nat) (T : TypeId) (size : Nat) (v : Value) (n : Nat) (xs : List Value) : Prop :=
 w.ownsRow S T size v n xs ∧ ∀ g, v.ownBlock = some g → lab g = (i, c)
def Lba (S : Nat) (lab : Nat → Nat × Nat) (i : Nat) (b : Nat) : Prop := S ≤ b ∧ (lab b = (i, 2) ∨ lab b = (i, 4))
def ArmO (w : World) (S : Nat) (lab : Nat → Nat × Nat) (i : Nat) (xs : List Value) (j : Nat) (x : ArmD) : Prop :=
 ∃ va vb, xs[j * 3]? = some va ∧ xs[j * 3 + 1]? = some vb ∧ xs[j * 3 + 2]? = some (.bool x.els) ∧ OwnL w S lab i 4 2 1 va x.frm.length (x.frm.map (Value.int .i64)) ∧ OwnL w S lab i 4 2 1 vb x.to.length (x.to.map (Value.int .i64))
def ArmsO (w : World) (S : Nat) (lab : Nat → Nat × Nat) (i : Nat) (v : Value) (l : List ArmD) : Prop :=
 ∃ xs, OwnL w S lab i 2 187 3 v l.length xs ∧ (∀ u ∈ xs, u.oneCell' = true) ∧ ∀ j x, l[j]? = some x → ArmO w S lab i xs j x
structure TyO (w : World) (S : Nat) (lab : Nat → Nat × Nat) (i : Nat) (vn vf va vp : Value) (t : Ty) : Prop where
 names : SlStrs w (Lb S lab i 0) vn t.names
 fields : OwnL w S lab i 1 173 3 vf t.fields.length (t.fields.flatMap Fld.cells)
 arms : ArmsO w S lab i va t.arms
 params : OwnL w S lab i 3 175 2 vp t.params.length (t.params.flatMap Par.cells)
section
variable {w w' : World} {S i c : Nat} {lab lab' : Nat → Nat × Nat} {T : TypeId} {size n : Nat} {v vn vf va vp : Value} {xs : List Value} {t : Ty} {ls : List Nat}
theorem own_keep {b : Nat} (h : w.ownsRow b T size v n xs) (r : Wr ls w w') (hl : ∀ g, v.ownBlock = some g → g ∉ ls) : w'.ownsRow b T size v n xs := by
 refine ⟨h.1, ?_⟩
 rcases h.2 with hn | ⟨g, cap, cur, rfl, hb, hgg, rest⟩
 ·exact .inl hn
 ·exact .inr ⟨g, cap, cur, rfl, hb, Blk.wr (show Blk w g T cur from hgg) r (hl g rfl), rest⟩
theorem OwnL.keep (h : OwnL w S lab i c T size v n xs) (r : Wr ls w w') (hl : ∀ x ∈ ls, S ≤ x → lab x ≠ (i, c)) : OwnL w' S lab i c T size v n xs :=
 ⟨own_keep h.1 r (fun g hg hm => hl g hm (h.1.lt g hg).1 (h.2 g hg)), h.2⟩
theorem OwnL.sl (h : OwnL w S lab i c T size v n xs) : Sl w (Lb S lab i c) size v n xs := Sl.ofOwn h.1 fun b hb => ⟨(h.1.lt b hb).1, h.2 b hb⟩
theorem OwnL.low (h : OwnL w S lab i c T size v n xs) {S' : Nat} (hs : S' ≤ S) : OwnL w S' lab i c T size v n xs := ⟨own_base h.1 hs, h.2⟩
theorem ArmO.keep {xs : List Value} {j : Nat} {x : ArmD} (h : ArmO w S lab i xs j x) (r : Wr ls w w') (hl : ∀ y ∈ ls, S ≤ y → lab y ≠ (i, 4)) : ArmO w' S lab i xs j x := by
 obtain ⟨va, vb, e1, e2, e3, ka, kb⟩ := h
 exact ⟨va, vb, e1, e2, e3, ka.keep r hl, kb.keep r hl⟩
theorem ArmsO.keep {l : List ArmD} (h : ArmsO w S lab i v l) (r : Wr ls w w') (hl : ∀ y ∈ ls, S ≤ y → (lab y).1 ≠ i) : ArmsO w' S lab i v l := by
 obtain ⟨xs, h1, h2, h3⟩ := h
 exact ⟨xs, h1.keep r (fun x hx hs e => hl x hx hs (by rw [e])), h2, fun j x hx => (h3 j x hx).keep r (fun x hx hs e => hl x hx hs (by rw [e]))⟩
theorem ArmsO.low {l : List ArmD} (h : ArmsO w S lab i v l) {S' : Nat} (hs : S' ≤ S) : ArmsO w S' lab i v l := by
 obtain ⟨xs, h1, h2, h3⟩ := h
 exact ⟨xs, h1.low hs, h2, fun j x hx => by
  obtain ⟨va, vb, e1, e2, e3, ka, kb⟩ := h3 j x hx
  exact ⟨va, vb, e1, e2, e3, ka.low hs, kb.low hs⟩⟩
theorem ArmsO.arms {l : List ArmD} (h : ArmsO w S lab i v l) : SlArms w (Lba S lab i) v l := by
 obtain ⟨xs, h1, h2, h3⟩ := h
 exact ⟨xs, Sl.mono h1.sl (fun b hb => ⟨hb.1, .inl hb.2⟩), h2, fun j x hx => by
  obtain ⟨va, vb, e1, e2, e3, ka, kb⟩ := h3 j x hx
  exact ⟨va, vb, e1, e2, e3, Sl.mono ka.sl (fun b hb => ⟨hb.1, .inr hb.2⟩), Sl.mono kb.sl (fun b hb => ⟨hb.1, .inr hb.2⟩)⟩⟩
theorem TyO.keep (h : TyO w S lab i vn vf va vp t) (r : Wr ls w w') (hl : ∀ x ∈ ls, S ≤ x → (lab x).1 ≠ i) : TyO w' S lab i vn vf va vp t := by
 have hb : ∀ c b, Lb S lab i c b → b ∉ ls := fun c b hb hm => hl b hm hb.1 (by rw [hb.2])
 exact ⟨Sl.keep h.names r (hb 0), h.fields.keep r (fun x hx hs e => hl x hx hs (by rw [e])), h.arms.keep r hl, h.params.keep r (fun x hx hs e => hl x hx hs (by rw [e]))⟩
theorem TyO.lists (h : TyO w S lab i vn vf va vp t) : Lists w (fun b => S ≤ b) vn vf va vp t :=
 ⟨Sl.mono h.names (fun b hb => hb.1), Sl.mono h.fields.sl (fun b hb => hb.1), h.arms.arms.into (fun b hb _ => hb.1), Sl.mono h.params.sl (fun b hb => hb.1)⟩
theorem TyO.low {vn vf va vp : Value} (h : TyO w S lab i vn vf va vp t) {S' : Nat} (hs : S' ≤ S) : TyO w S' lab i vn vf va vp t := by
 have hb : ∀ c b, Lb S lab i c b → Lb S' lab i c b := fun c b hb => ⟨Nat.le_trans hs hb.1, hb.2⟩
 exact ⟨Sl.mono h.names (hb 0), ⟨own_base h.fields.1 hs, h.fields.2⟩, h.arms.low hs, ⟨own_base h.params.1 hs, h.params.2⟩⟩
end
def CopR (S : Nat) (t : Ty) (xa : List Value) (i : Nat) (lab : Nat → Nat × Nat) : Nat → World → Value → Prop
 | 0, w, u => SlStrs w (Lb S lab i 0) u t.names
 | 1, w, u => OwnL w S lab i 1 173 3 u t.fields.length (t.fields.flatMap Fld.cells)
 | 2, w, u => OwnL w S lab i 2 187 3 u t.arms.length xa
 | _, w, u => OwnL w S lab i 3 175 2 u t.params.length (t.params.flatMap Par.cells)
section
variable {S i : Nat} {t : Ty} {xa : List Value} {lab lab' : Nat → Nat × Nat} {w w' : World} {u : Value} {ls : List Nat}
theorem CopR.keep {c : Nat} (h : CopR S t xa i lab c w u) (r : Wr ls w w') (hl : ∀ x ∈ ls, x < S) : CopR S t xa i lab c w' u := by
 have hb : ∀ c b, Lb S lab i c b → b ∉ ls := fun c b hb hm => by have := hl b hm; have := hb.1; omega
 have hx : ∀ c, ∀ x ∈ ls, S ≤ x → lab x ≠ (i, c) := fun c x hx hs => by have := hl x hx; omega
 match c, h with
 | 0, h => exact Sl.keep (h : SlStrs w (Lb S lab i 0) u t.names) r (hb 0)
 | 1, h => exact OwnL.keep (show OwnL w S lab i 1 _ 3 u _ _ from h) r (hx 1)
 | 2, h => exact OwnL.keep (show OwnL w S lab i 2 _ 3 u _ _ from h) r (hx 2)
 | _ + 3, h => exact OwnL.keep (show OwnL w S lab i 3 _ 2 u _ _ from h) r (hx 3)
end
def coC : Nat → Nat | 0 => 8 | 1 => 13 | 2 => 18 | _ => 23
def coS : Nat → Nat | 0 => 26 | 1 => 29 | 2 => 32 | _ => 35
def coU (src : Nat → Value) (σ : Nat → Value) (l : Array Bool) (c : Nat) : Value := if lst l (coS c) = true then σ (coC c) else src c
def coX (ys : List Value) (o : Nat) (f : Nat → Value) : List Value := (((ys.set (o + 7) (f 0)).set (o + 8) (f 1)).set (o + 9) (f 2)).set (o + 10) (f 3)
theorem coX_set (ys : List Value) (o : Nat) (f f' : Nat → Value) (c : Nat) (hc : c < 4) (hf : ∀ c', c' < 4 → c' ≠ c → f' c' = f c') : (coX ys o f).set (o + 7 + c) (f' c) = coX ys o f' := by
 unfold coX
 have n1 : ∀ a b : Nat, a ≠ b → o + a ≠ o + b := fun a b h => by omega
 match c, hc with
 | 0, _ =>
  rw [hf 1 (by decide) (by decide), hf 2 (by decide) (by decide), hf 3 (by decide) (by decide), Nat.add_zero, List.set_comm _ _ (n1 10 7 (by decide)), List.set_comm _ _ (n1 9 7 (by decide)), List.set_comm _ _ (n1 8 7 (by decide)), List.set_set]
 | 1, _ =>
  rw [hf 0 (by decide) (by decide), hf 2 (by decide) (by decide), hf 3 (by decide) (by decide), show o + 7 + 1 = o + 8 from rfl, List.set_comm _ _ (n1 10 8 (by decide)), List.set_comm _ _ (n1 9 8 (by decide)), List.set_set]
 | 2, _ =>
  rw [hf 0 (by decide) (by decide), hf 1 (by decide) (by decide), hf 3 (by decide) (by decide), show o + 7 + 2 = o + 9 from rfl, List.set_comm _ _ (n1 10 9 (by decide)), List.set_set]
 | 3, _ =>
  rw [hf 0 (by decide) (by decide), hf 1 (by decide) (by decide), hf 2 (by decide) (by decide), show o + 7 + 3 = o + 10 from rfl, List.set_set]
structure CoI (cnV : Nat → Value) (src : Nat → Value) (ys : List Value) (n cap B g o S : Nat) (t : Ty) (xa : List Value) (i : Nat) (lab0 : Nat → Nat × Nat) (wd : World) (σ : Nat → Value) (l : Array Bool) (w' : World) : Prop where
 v : ∀ j, (∀ c, c < 4 → j ≠ coC c) → lst l j = true → σ j = cnV j
 od : ∀ c, c < 4 → lst l (coS c) = true → lst l (coC c) = true
 ol : ∀ c, c < 4 → lst l (coC c) = true → lst l (coC c - 1) = true
 row : w'.ownsRow B 129 12 (.slice (some ⟨g, 0, none⟩) n cap) n (coX ys o (coU src σ l))
 lb : ∃ lab, (∀ b, b < wd.heap.size → lab b = lab0 b) ∧ ∀ c, c < 4 → lst l (coC c) = true → CopR S t xa i lab c w' (σ (coC c))
 acc : Wr [g] wd w'
theorem coCS : ∀ c, c < 4 → ∀ c', c' < 4 → coC c ≠ coS c' := by decide
theorem coC_1 : ∀ c, c < 4 → ∀ c', c' < 4 → coC c' - 1 ≠ coC c ∧ coC c' - 1 ≠ coS c := by decide
theorem coS_ne : ∀ c, c < 4 → ∀ c', c' < 4 → c ≠ c' → coS c ≠ coS c' := by decide
section
variable {cnV src : Nat → Value} {ys : List Value} {n cap B g o S : Nat} {t : Ty} {xa : List Value} {i : Nat} {lab0 : Nat → Nat × Nat} {wd : World} {σ : Nat → Value} {l : Array Bool} {w1 w2 : World}
theorem CoI.stored (h : CoI cnV src ys n cap B g o S t xa i lab0 wd σ l w1) (c : Nat) (hc : c < 4) (hz : l.size = 36) (hl : lst l (coC c) = true) (hgS : g < S) (hv : cnV (coS c) = undef) :
  CoI cnV src ys n cap B g o S t xa i lab0 wd (upd σ (coS c) undef) (l.setIfInBounds (coS c) true) (w1.setCell ⟨g, o + 7 + c, none⟩ (σ (coC c))) := by
 have r : Wr [g] w1 (w1.setCell ⟨g, o + 7 + c, none⟩ (σ (coC c))) := (Wr.refl [g] _).setOn (by simp) _
 have eC : ∀ c', c' < 4 → lst (l.setIfInBounds (coS c) true) (coC c') = lst l (coC c') := fun c' hc' => lst_ne (coCS c' hc' c hc)
 have uC : ∀ c', c' < 4 → upd σ (coS c) undef (coC c') = σ (coC c') := fun c' hc' => upd_ne σ _ (coCS c' hc' c hc)
 have hs36 : coS c < l.size := by
  rw [hz]
  exact (by decide : ∀ c, c < 4 → coS c < 36) c hc
 refine ⟨fun k hk hl' => ?_, fun c' hc' hs => ?_, fun c' hc' hs => ?_, ?_, ?_, h.acc.trans r⟩
 ·by_cases hkj : k = coS c
  ·subst hkj
   rw [upd_same, hv]
  ·rw [upd_ne σ _ hkj]
   rw [lst_ne hkj] at hl'
   exact h.v k hk hl'
 ·rw [eC c' hc']
  by_cases e : c' = c
  ·subst e
   exact hl
  ·rw [lst_ne (coS_ne c' hc' c hc e)] at hs
   exact h.od c' hc' hs
 ·rw [lst_ne (coC_1 c hc c' hc').2]
  rw [eC c' hc'] at hs
  exact h.ol c' hc' hs
 ·have := (h.row.stored (o + 7 + c) (σ (coC c))).1
  have e1 : coU src (upd σ (coS c) undef) (l.setIfInBounds (coS c) true) c = σ (coC c) := by
   unfold coU
   rw [lst_same hs36, if_pos rfl, uC c hc]
  rw [← e1, coX_set ys o (coU src σ l) (coU src (upd σ (coS c) undef) (l.setIfInBounds (coS c) true)) c hc (fun c' hc' hne => by unfold coU; rw [lst_ne (coS_ne c' hc' c hc hne), uC c' hc'])] at this
  rw [e1] at this
  exact this
 ·obtain ⟨lab, h1, h2⟩ := h.lb
  exact ⟨lab, h1, fun c' hc' hs => by rw [uC c' hc']; rw [eC c' hc'] at hs; exact (h2 c' hc' hs).keep r (by simpa using hgS)⟩
end
def CapR (S : Nat) (x : ArmD) (i : Nat) (lab : Nat → Nat × Nat) : Nat → World → Value → Prop
 | 0, w, u => OwnL w S lab i 4 2 1 u x.frm.length (x.frm.map (Value.int .i64))
 | _, w, u => OwnL w S lab i 4 2 1 u x.to.length (x.to.map (Value.int .i64))
section
variable {S i : Nat} {x : ArmD} {lab lab' : Nat → Nat × Nat} {w w' : World} {u : Value} {ls : List Nat}
theorem CapR.keep {c : Nat} (h : CapR S x i lab c w u) (r : Wr ls w w') (hl : ∀ y ∈ ls, S ≤ y → lab y ≠ (i, 4)) : CapR S x i lab c w' u := by
 match c, h with
 | 0, h => exact OwnL.keep (show OwnL w S lab i 4 2 1 u x.frm.length (x.frm.map (Value.int .i64)) from h) r hl
 | _ + 1, h => exact OwnL.keep (show OwnL w S lab i 4 2 1 u x.to.length (x.to.map (Value.int .i64)) from h) r hl
end
def caC : Nat → Nat | 0 => 18 | _ => 27
def caS : Nat → Nat | 0 => 30 | _ => 33
def caU (src : Nat → Value) (σ : Nat → Value) (l : Array Bool) (c : Nat) : Value := if lst l (caS c) = true then σ (caC c) else src c
def caX (ys : List Value) (o : Nat) (f : Nat → Value) : List Value := (ys.set o (f 0)).set (o + 1) (f 1)
theorem caX_set (ys : List Value) (o : Nat) (f f' : Nat → Value) (c : Nat) (hc : c < 2) (hf : ∀ c', c' < 2 → c' ≠ c → f' c' = f c') : (caX ys o f).set (o + c) (f' c) = caX ys o f' := by
 unfold caX
 match c, hc with
 | 0, _ => rw [hf 1 (by decide) (by decide), show o + 0 = o from rfl, List.set_comm _ _ (show o + 1 ≠ o by omega), List.set_set]
 | 1, _ => rw [hf 0 (by decide) (by decide), List.set_set]
structure CaI (cnV : Nat → Value) (src : Nat → Value) (ys : List Value) (n cap B g o S : Nat) (x : ArmD) (i : Nat) (lab0 : Nat → Nat × Nat) (wd : World) (σ : Nat → Value) (l : Array Bool) (w' : World) : Prop where
 v : ∀ j, (∀ c, c < 2 → j ≠ caC c) → lst l j = true → σ j = cnV j
 od : ∀ c, c < 2 → lst l (caS c) = true → lst l (caC c) = true
 ol : ∀ c, c < 2 → lst l (caC c) = true → lst l (caC c - 1) = true
 row : w'.ownsRow B 187 3 (.slice (some ⟨g, 0, none⟩) n cap) n (caX ys o (caU src σ l))
 lb : ∃ lab, (∀ b, b < wd.heap.size → lab b = lab0 b) ∧ ∀ c, c < 2 → lst l (caC c) = true → CapR S x i lab c w' (σ (caC c))
 acc : Wr [g] wd w'
theorem caCS : ∀ c, c < 2 → ∀ c', c' < 2 → caC c ≠ caS c' := by decide
theorem caC_1 : ∀ c, c < 2 → ∀ c', c' < 2 → caC c' - 1 ≠ caC c ∧ caC c' - 1 ≠ caS c := by decide
theorem caS_ne : ∀ c, c < 2 → ∀ c', c' < 2 → c ≠ c' → caS c ≠ caS c' := by decide
section
variable {cnV src : Nat → Value} {ys : List Value} {n cap B g o S : Nat} {x : ArmD} {i : Nat} {lab0 : Nat → Nat × Nat} {wd : World} {σ : Nat → Value} {l : Array Bool} {w1 w2 : World}
theorem CaI.stored (h : CaI cnV src ys n cap B g o S x i lab0 wd σ l w1) (c : Nat) (hc : c < 2) (hz : l.size = 34) (hl : lst l (caC c) = true) (hgL : ∀ lab : Nat → Nat × Nat, (∀ b, b < wd.heap.size → lab b = lab0 b) → lab g ≠ (i, 4)) (hv : cnV (caS c) = undef) :
  CaI cnV src ys n cap B g o S x i lab0 wd (upd σ (caS c) undef) (l.setIfInBounds (caS c) true) (w1.setCell ⟨g, o + c, none⟩ (σ (caC c))) := by
 have r : Wr [g] w1 (w1.setCell ⟨g, o + c, none⟩ (σ (caC c))) := (Wr.refl [g] _).setOn (by simp) _
 have eC : ∀ c', c' < 2 → lst (l.setIfInBounds (caS c) true) (caC c') = lst l (caC c') := fun c' hc' => lst_ne (caCS c' hc' c hc)
 have uC : ∀ c', c' < 2 → upd σ (caS c) undef (caC c') = σ (caC c') := fun c' hc' => upd_ne σ _ (caCS c' hc' c hc)
 have hs34 : caS c < l.size := by
  rw [hz]
  exact (by decide : ∀ c, c < 2 → caS c < 34) c hc
 refine ⟨fun k hk hl' => ?_, fun c' hc' hs => ?_, fun c' hc' hs => ?_, ?_, ?_, h.acc.trans r⟩
 ·by_cases hkj : k = caS c
  ·subst hkj
   rw [upd_same, hv]
  ·rw [upd_ne σ _ hkj]
   rw [lst_ne hkj] at hl'
   exact h.v k hk hl'
 ·rw [eC c' hc']
  by_cases e : c' = c
  ·subst e
   exact hl
  ·rw [lst_ne (caS_ne c' hc' c hc e)] at hs
   exact h.od c' hc' hs
 ·rw [lst_ne (caC_1 c hc c' hc').2]
  rw [eC c' hc'] at hs
  exact h.ol c' hc' hs
 ·have := (h.row.stored (o + c) (σ (caC c))).1
  have e1 : caU src (upd σ (caS c) undef) (l.setIfInBounds (caS c) true) c = σ (caC c) := by
   unfold caU
   rw [lst_same hs34, if_pos rfl, uC c hc]
  rw [← e1, caX_set ys o (caU src σ l) (caU src (upd σ (caS c) undef) (l.setIfInBounds (caS c) true)) c hc (fun c' hc' hne => by unfold caU; rw [lst_ne (caS_ne c' hc' c hc hne), uC c' hc'])] at this
  rw [e1] at this
  exact this
 ·obtain ⟨lab, h1, h2⟩ := h.lb
  exact ⟨lab, h1, fun c' hc' hs => by rw [uC c' hc']; rw [eC c' hc'] at hs; exact (h2 c' hc' hs).keep r (fun y hy _ => by rw [List.mem_singleton.1 hy]; exact hgL lab h1)⟩
end
end Go.Proofs.YtildcdgobdfieaaGreat
namespace Go.Proofs.YtildcdgobdfieaaGreat
open Go
section
variable {P : Program} {md : Region.Mode} {ops : Array Oper} {Q : Exit → Act → World → Prop} {S : Array Bool → World → Prop}
end
end Go.Proofs.YtildcdgobdfieaaGreat
namespace Go.Proofs.YtildcdgobdfieaaGreat
open Go.RowKit
def CbpR (B : Nat) (f : FaceD) (xt : List Value) : Nat → World → Value → Prop
 | 0, w, u => w.ownsRow B 72 2 u f.uses.length (f.uses.flatMap UseD.cellsF)
 | 1, w, u => w.ownsRow B 129 12 u f.types.length xt
 | _, w, u => w.ownsRow B 136 5 u f.items.length (f.items.flatMap ItmD.cells)
section
variable {B : Nat} {f : FaceD} {xt : List Value} {w w' : World} {u : Value} {ls : List Nat}
theorem CbpR.keep {c : Nat} (h : CbpR B f xt c w u) (r : Wr ls w w') (hl : ∀ x ∈ ls, x < B) : CbpR B f xt c w' u := by
 match c, h with
 | 0, h => exact own_wr (show w.ownsRow B _ 2 u _ _ from h) r hl
 | 1, h => exact own_wr (show w.ownsRow B _ 12 u _ _ from h) r hl
 | _ + 2, h => exact own_wr (show w.ownsRow B _ 5 u _ _ from h) r hl
theorem CbpR.low {B' : Nat} {c : Nat} (h : CbpR B f xt c w u) (hb : B' ≤ B) : CbpR B' f xt c w u := by
 match c, h with
 | 0, h => exact own_base (show w.ownsRow B _ 2 u _ _ from h) hb
 | 1, h => exact own_base (show w.ownsRow B _ 12 u _ _ from h) hb
 | _ + 2, h => exact own_base (show w.ownsRow B _ 5 u _ _ from h) hb
theorem CbpR.lt {c : Nat} (h : CbpR B f xt c w u) : ∀ k, u.ownBlock = some k → B ≤ k ∧ k < w.heap.size := by
 match c, h with
 | 0, h => exact World.ownsRow.lt (show w.ownsRow B _ 2 u _ _ from h)
 | 1, h => exact World.ownsRow.lt (show w.ownsRow B _ 12 u _ _ from h)
 | _ + 2, h => exact World.ownsRow.lt (show w.ownsRow B _ 5 u _ _ from h)
end
def cbC : Nat → Nat | 0 => 2 | 1 => 5 | _ => 8
def cbS : Nat → Nat | 0 => 10 | 1 => 12 | _ => 14
def cbU (src : Nat → Value) (σ : Nat → Value) (l : Array Bool) (c : Nat) : Value := if lst l (cbS c) = true then σ (cbC c) else src c
def cbX (m : ByteArray) (f : Nat → Value) : Array Value := #[.string m, f 0, f 1, f 2]
structure CbI (cnV : Nat → Value) (src : Nat → Value) (g : Nat) (f : FaceD) (xt : List Value) (wd : World) (σ : Nat → Value) (l : Array Bool) (w' : World) : Prop where
 v : ∀ j, (∀ c, c < 3 → j ≠ cbC c) → lst l j = true → σ j = cnV j
 od : ∀ c, c < 3 → lst l (cbS c) = true → lst l (cbC c) = true
 ol : ∀ c, c < 3 → lst l (cbC c) = true → lst l (cbC c - 1) = true
 box : Blk w' g 55 (cbX f.module (cbU src σ l))
 rw_ : ∀ c, c < 3 → lst l (cbC c) = true → CbpR wd.heap.size f xt c w' (σ (cbC c))
 ne : ∀ c, c < 3 → ∀ c', c' < 3 → c ≠ c' → lst l (cbC c) = true → lst l (cbC c') = true → ∀ a, (σ (cbC c)).ownBlock = some a → (σ (cbC c')).ownBlock ≠ some a
 acc : Wr [g] wd w'
theorem cbCS : ∀ c, c < 3 → ∀ c', c' < 3 → cbC c ≠ cbS c' := by decide
theorem cbC_1 : ∀ c, c < 3 → ∀ c', c' < 3 → cbC c' - 1 ≠ cbC c ∧ cbC c' - 1 ≠ cbS c := by decide
theorem cbS_ne : ∀ c, c < 3 → ∀ c', c' < 3 → c ≠ c' → cbS c ≠ cbS c' := by decide
section
variable {cnV src : Nat → Value} {g : Nat} {f : FaceD} {xt : List Value} {wd : World} {σ : Nat → Value} {l : Array Bool} {w1 w2 : World}
theorem CbI.stored (h : CbI cnV src g f xt wd σ l w1) (c : Nat) (hc : c < 3) (hz : l.size = 15) (hl : lst l (cbC c) = true) (hgw : g < wd.heap.size) (hv : cnV (cbS c) = undef) :
  CbI cnV src g f xt wd (upd σ (cbS c) undef) (l.setIfInBounds (cbS c) true) (w1.setCell ⟨g, 1 + c, none⟩ (σ (cbC c))) := by
 have r : Wr [g] w1 (w1.setCell ⟨g, 1 + c, none⟩ (σ (cbC c))) := (Wr.refl [g] _).setOn (by simp) _
 have eC : ∀ c', c' < 3 → lst (l.setIfInBounds (cbS c) true) (cbC c') = lst l (cbC c') := fun c' hc' => lst_ne (cbCS c' hc' c hc)
 have uC : ∀ c', c' < 3 → upd σ (cbS c) undef (cbC c') = σ (cbC c') := fun c' hc' => upd_ne σ _ (cbCS c' hc' c hc)
 have hs15 : cbS c < l.size := by
  rw [hz]
  exact (by decide : ∀ c, c < 3 → cbS c < 15) c hc
 refine ⟨fun k hk hl' => ?_, fun c' hc' hs => ?_, fun c' hc' hs => ?_, ?_, fun c' hc' hs => ?_, fun c1 hc1 c2 hc2 hne h1 h2 => ?_, h.acc.trans r⟩
 ·by_cases hkj : k = cbS c
  ·subst hkj
   rw [upd_same, hv]
  ·rw [upd_ne σ _ hkj]
   rw [lst_ne hkj] at hl'
   exact h.v k hk hl'
 ·rw [eC c' hc']
  by_cases e : c' = c
  ·subst e
   exact hl
  ·rw [lst_ne (cbS_ne c' hc' c hc e)] at hs
   exact h.od c' hc' hs
 ·rw [lst_ne (cbC_1 c hc c' hc').2]
  rw [eC c' hc'] at hs
  exact h.ol c' hc' hs
 ·have := h.box.set_ (1 + c) (σ (cbC c))
  have e1 : cbU src (upd σ (cbS c) undef) (l.setIfInBounds (cbS c) true) c = σ (cbC c) := by
   unfold cbU
   rw [lst_same hs15, if_pos rfl, uC c hc]
  have e2 : ∀ c', c' < 3 → c' ≠ c → cbU src (upd σ (cbS c) undef) (l.setIfInBounds (cbS c) true) c' = cbU src σ l c' := fun c' hc' hne => by
   unfold cbU
   rw [lst_ne (cbS_ne c' hc' c hc hne), uC c' hc']
  unfold cbX at this ⊢
  match c, hc with
  | 0, _ =>
   rw [e1, e2 1 (by decide) (by decide), e2 2 (by decide) (by decide)]
   simpa using this
  | 1, _ =>
   rw [e1, e2 0 (by decide) (by decide), e2 2 (by decide) (by decide)]
   simpa using this
  | 2, _ =>
   rw [e1, e2 0 (by decide) (by decide), e2 1 (by decide) (by decide)]
   simpa using this
 ·rw [uC c' hc']
  rw [eC c' hc'] at hs
  exact (h.rw_ c' hc' hs).keep r (by simpa using hgw)
 ·rw [uC c1 hc1, uC c2 hc2]
  rw [eC c1 hc1] at h1
  rw [eC c2 hc2] at h2
  exact h.ne c1 hc1 c2 hc2 hne h1 h2
end
def TysTo (w : World) (S : Nat) (lab : Nat → Nat × Nat) (xs : List Value) (l : List Ty) (k : Nat) : Prop :=
 ∀ (i : Nat) (t : Ty), i < k → l[i]? = some t → ∃ vn vf va vp, (∀ j u, (t.cells vn vf va vp)[j]? = some u → xs[i * 12 + j]? = some u) ∧ TyO w S lab i vn vf va vp t
def ArmsTo (w : World) (S : Nat) (lab : Nat → Nat × Nat) (i : Nat) (xs : List Value) (l : List ArmD) (k : Nat) : Prop :=
 ∀ (j : Nat) (x : ArmD), j < k → l[j]? = some x → ArmO w S lab i xs j x
section
variable {w w' : World} {S i k : Nat} {lab lab' : Nat → Nat × Nat} {xs xs' : List Value} {l : List Ty} {al : List ArmD} {ls : List Nat}
theorem TysTo.keep (h : TysTo w S lab xs l k) (r : Wr ls w w') (hl : ∀ x ∈ ls, S ≤ x → k ≤ (lab x).1) : TysTo w' S lab xs l k := fun i t hi ht => by
 obtain ⟨vn, vf, va, vp, e, o⟩ := h i t hi ht
 exact ⟨vn, vf, va, vp, e, o.keep r (fun x hx hs => by have := hl x hx hs; omega)⟩
theorem TysTo.row (h : TysTo w S lab xs l k) (hx : ∀ j, j < k * 12 → xs'[j]? = xs[j]?) : TysTo w S lab xs' l k := fun i t hi ht => by
 obtain ⟨vn, vf, va, vp, e, o⟩ := h i t hi ht
 refine ⟨vn, vf, va, vp, fun j u hu => ?_, o⟩
 have hj : j < 12 := (List.getElem?_eq_some_iff.1 hu).1
 rw [hx (i * 12 + j) (by omega)]
 exact e j u hu
theorem TysTo.zero : TysTo w S lab xs l 0 := fun i t hi => absurd hi (by omega)
theorem TysTo.next (h : TysTo w S lab xs l k) {t : Ty} (ht : l[k]? = some t) {vn vf va vp : Value} (e : ∀ j u, (t.cells vn vf va vp)[j]? = some u → xs[k * 12 + j]? = some u) (o : TyO w S lab k vn vf va vp t) : TysTo w S lab xs l (k + 1) := fun i t' hi ht' => by
 rcases Nat.lt_or_ge i k with hik | hik
 ·exact h i t' hik ht'
 ·obtain rfl : i = k := by omega
  rw [ht] at ht'
  injection ht' with ht'
  subst ht'
  exact ⟨vn, vf, va, vp, e, o⟩
theorem ArmsTo.keep (h : ArmsTo w S lab i xs al k) (r : Wr ls w w') (hl : ∀ x ∈ ls, S ≤ x → lab x ≠ (i, 4)) : ArmsTo w' S lab i xs al k := fun j x hj hx => (h j x hj hx).keep r hl
theorem ArmsTo.row (h : ArmsTo w S lab i xs al k) (hx : ∀ j, j < k * 3 → xs'[j]? = xs[j]?) : ArmsTo w S lab i xs' al k := fun j x hj hjx => by
 obtain ⟨va, vb, e1, e2, e3, ka, kb⟩ := h j x hj hjx
 exact ⟨va, vb, by rw [hx _ (by omega)]; exact e1, by rw [hx _ (by omega)]; exact e2, by rw [hx _ (by omega)]; exact e3, ka, kb⟩
theorem ArmsTo.zero : ArmsTo w S lab i xs al 0 := fun j x hj => absurd hj (by omega)
theorem ArmsTo.next (h : ArmsTo w S lab i xs al k) {x : ArmD} (hx : al[k]? = some x) (ha : ArmO w S lab i xs k x) : ArmsTo w S lab i xs al (k + 1) := fun j y hj hy => by
 rcases Nat.lt_or_ge j k with hjk | hjk
 ·exact h j y hjk hy
 ·obtain rfl : j = k := by omega
  rw [hx] at hy
  injection hy with hy
  subst hy
  exact ha
theorem ArmsTo.all {v : Value} (h : ArmsTo w S lab i xs al al.length) (ho : OwnL w S lab i 2 187 3 v al.length xs) (h1 : ∀ u ∈ xs, u.oneCell' = true) : ArmsO w S lab i v al :=
 ⟨xs, ho, h1, fun j x hx => h j x (List.getElem?_eq_some_iff.1 hx).1 hx⟩
end
theorem CopR.form {S : Nat} {t : Ty} {xa : List Value} {i : Nat} {lab : Nat → Nat × Nat} {c : Nat} {w : World} {u : Value} (h : CopR S t xa i lab c w u) : ∃ A n k, u = .slice A n k ∧ k ≤ maxLen := by
 match c, h with
 | 0, h =>
  obtain ⟨A, k, e, _, hk⟩ := Sl.form (show SlStrs w (Lb S lab i 0) u t.names from h)
  exact ⟨A, _, k, e, hk⟩
 | 1, h =>
  obtain ⟨A, k, e, _, hk⟩ := (OwnL.sl (show OwnL w S lab i 1 _ 3 u _ _ from h)).form
  exact ⟨A, _, k, e, hk⟩
 | 2, h =>
  obtain ⟨A, k, e, _, hk⟩ := (OwnL.sl (show OwnL w S lab i 2 _ 3 u _ _ from h)).form
  exact ⟨A, _, k, e, hk⟩
 | _ + 3, h =>
  obtain ⟨A, k, e, _, hk⟩ := (OwnL.sl (show OwnL w S lab i 3 _ 2 u _ _ from h)).form
  exact ⟨A, _, k, e, hk⟩
theorem CapR.form {S : Nat} {x : ArmD} {i : Nat} {lab : Nat → Nat × Nat} {c : Nat} {w : World} {u : Value} (h : CapR S x i lab c w u) : ∃ A n k, u = .slice A n k ∧ k ≤ maxLen := by
 match c, h with
 | 0, h =>
  obtain ⟨A, k, e, _, hk⟩ := (OwnL.sl (show OwnL w S lab i 4 2 1 u x.frm.length (x.frm.map (Value.int .i64)) from h)).form
  exact ⟨A, _, k, e, hk⟩
 | _ + 1, h =>
  obtain ⟨A, k, e, _, hk⟩ := (OwnL.sl (show OwnL w S lab i 4 2 1 u x.to.length (x.to.map (Value.int .i64)) from h)).form
  exact ⟨A, _, k, e, hk⟩
theorem own_form {w : World} {B : Nat} {T : TypeId} {z n : Nat} {v : Value} {xs : List Value} (h : w.ownsRow B T z v n xs) : ∃ A c, v = .slice A n c ∧ n ≤ c ∧ c ≤ maxLen := by
 rcases h.2 with ⟨rfl, rfl⟩ | ⟨g, cap, cur, rfl, _, _, h1, h2, _⟩
 ·exact ⟨none, 0, rfl, Nat.le_refl _, Nat.zero_le _⟩
 ·exact ⟨_, cap, rfl, h1, h2⟩
end Go.Proofs.YtildcdgobdfieaaGreat
