/- Alike's closure: what holds in its first region, whatever order is drawn. No conditions. -/
import Derived.Test.YtcpgkeceefoljaaTyPb
import Derived.Test.YtcpgkeceefoljaaTyZ
import Derived.Test.YtcpgkeceefoljaaGridJ
import Derived.Deep.DrawnRows
import Derived.Deep.Cut
import Derived.Deep.DeepCutAuto
namespace Go.Proofs.Ytcpgkeceefoljaa
open Go.RowKit
set_option linter.unusedVariables false
set_option linter.unusedSimpArgs false

def zeroT : Array Value := #[.int .u8 0, .string ⟨#[]⟩, .string ⟨#[]⟩, .int .i64 0, .int .i64 0, .int .i64 0, .int .i64 0, .slice none 0 0, .slice none 0 0, .slice none 0 0, .slice none 0 0, .int .i64 0]
/-- What 'of' answers of a type, its parameters in blocks that Q lets in. -/
def OfX (Q : Nat → Prop) (ty : Ty) (v : Value) (w' : World) : Prop := ∃ (A1 : Option Addr) (c1 : Nat) (A2 : Option Addr) (c2 : Nat) (A3 : Option Addr) (c3 : Nat) (A4 : Option Addr) (c4 : Nat), v = .agg #[.int .u8 ty.kind, .string ty.module, .string ty.name, .int .i64 ty.base, .int .i64 ty.index, .int .i64 ty.low, .int .i64 ty.high, .slice A1 ty.names.length c1, .slice A2 ty.fields.length c2, .slice A3 ty.arms.length c3, .slice A4 ty.params.length c4, .int .i64 ty.result] ∧
  SlPars w' (fun b => b < w'.heap.size ∧ Q b) (.slice A4 ty.params.length c4) ty.params
theorem OfX.keep {Q Q' : Nat → Prop} {ty : Ty} {v : Value} {w1 w2 : World} {bs : List Nat} (h : OfX Q ty v w1) (r : Wr bs w1 w2) (hq : ∀ b, b < w1.heap.size → Q b → b ∉ bs ∧ Q' b) : OfX Q' ty v w2 := by
  obtain ⟨A1, c1, A2, c2, A3, c3, A4, c4, e, s⟩ := h
  refine ⟨A1, c1, A2, c2, A3, c3, A4, c4, e, (Sl.keep s r (fun b hb => (hq b hb.1 hb.2).1)).mono (fun b hb => ⟨Nat.lt_of_lt_of_le hb.1 r.size, (hq b hb.1 hb.2).2⟩)⟩
/-- What is known of 'of' in a world W that came of w: its parameters lie in no block made between. -/
def OfQ (w W : World) (ty : Ty) (e : Ending) (w' : World) : Prop := ∃ (A1 : Option Addr) (c1 : Nat) (A2 : Option Addr) (c2 : Nat) (A3 : Option Addr) (c3 : Nat) (A4 : Option Addr) (c4 : Nat), e = .returned (.agg #[.int .u8 ty.kind, .string ty.module, .string ty.name, .int .i64 ty.base, .int .i64 ty.index, .int .i64 ty.low, .int .i64 ty.high, .slice A1 ty.names.length c1, .slice A2 ty.fields.length c2, .slice A3 ty.arms.length c3, .slice A4 ty.params.length c4, .int .i64 ty.result]) ∧ Wr [] W w' ∧
  SlPars w' (fun b => (b < w.heap.size ∨ W.heap.size ≤ b) ∧ b < w'.heap.size) (.slice A4 ty.params.length c4) ty.params
theorem of_q {w W : World} {t : Nat} {v : Value} {L : List Nat} {base : Nat} {tys : List Ty} (h : Tab 71 w t v L base tys) (r : Wr [] w W) (k : Int) : Calls Try.prog 30 #[.pointer (some ⟨t, 0, none⟩), .int .i64 k] W (OfQ w W (tyOf tys k)) := by
  have hz := r.size
  have h' : Tab 71 W t v (L ++ (List.range W.heap.size).filter (fun b => decide (w.heap.size ≤ b))) base tys := h.step r (by simp) (by simp) (by simp) (fun x hx => List.mem_append_left _ hx) (fun x hx => by
      rcases List.mem_append.1 hx with e | e
      · exact .inl e
      · exact .inr (by simpa using (List.mem_filter.1 e).2)) (fun x hx => by
      rcases List.mem_append.1 hx with e | e
      · exact Nat.lt_of_lt_of_le (h.lin x e) hz
      · exact List.mem_range.1 (List.mem_filter.1 e).1)
  refine (of_any W t v _ base tys h' k).mono ?_
  rintro e w1 ⟨vn, vf, va, vp, rfl, r1, hl⟩
  obtain ⟨⟨A1, c1, rfl⟩, ⟨A2, c2, rfl⟩, ⟨A3, c3, rfl⟩, ⟨A4, c4, rfl⟩⟩ := hl.forms
  refine ⟨A1, c1, A2, c2, A3, c3, A4, c4, rfl, r1, Sl.into hl.params (fun b hb hlt => ⟨?_, hlt⟩)⟩
  by_cases h1 : b < w.heap.size
  · exact .inl h1
  · by_cases h2 : W.heap.size ≤ b
    · exact .inr h2
    · exact absurd (List.mem_append_right _ (List.mem_filter.2 ⟨List.mem_range.2 (by omega), by simp; omega⟩)) hb

def alkQ (σ : Nat → Value) (l : Array Bool) (b : Nat) : Prop := (lst l 6 = true → σ 6 ≠ .pointer (some ⟨b, 0, none⟩)) ∧ (lst l 7 = true → σ 7 ≠ .pointer (some ⟨b, 0, none⟩))
theorem alkQ_ne {σ : Nat → Value} {l : Array Bool} {i b : Nat} {v : Value} (h6 : i ≠ 6) (h7 : i ≠ 7) : alkQ (upd σ i v) (l.setIfInBounds i true) b ↔ alkQ σ l b := by
  unfold alkQ
  rw [lst_ne (fun e => h6 e.symm), lst_ne (fun e => h7 e.symm), upd_ne σ v (fun e => h6 e.symm), upd_ne σ v (fun e => h7 e.symm)]
def alkX (x y : Ty) (σ : Nat → Value) (l : Array Bool) (w' : World) : Prop := (lst l 2 = true → OfX (alkQ σ l) x (σ 2) w') ∧ (lst l 5 = true → OfX (alkQ σ l) y (σ 5) w')
section
variable {x y : Ty} {σ : Nat → Value} {l : Array Bool} {w1 w2 : World} {v : Value}
theorem alkX.quiet (h : alkX x y σ l w1) (r : Wr [] w1 w2) {i : Nat} (h2 : i ≠ 2) (h5 : i ≠ 5) (h6 : i ≠ 6) (h7 : i ≠ 7) : alkX x y (upd σ i v) (l.setIfInBounds i true) w2 := by
  refine ⟨fun k => ?_, fun k => ?_⟩
  · rw [lst_ne (fun e => h2 e.symm)] at k
    rw [upd_ne σ v (fun e => h2 e.symm)]
    exact (h.1 k).keep r (fun b _ hb => ⟨by simp, (alkQ_ne h6 h7).2 hb⟩)
  · rw [lst_ne (fun e => h5 e.symm)] at k
    rw [upd_ne σ v (fun e => h5 e.symm)]
    exact (h.2 k).keep r (fun b _ hb => ⟨by simp, (alkQ_ne h6 h7).2 hb⟩)
theorem OfX.same {Q Q' : Nat → Prop} {ty : Ty} (h : OfX Q ty v w1) (hq : ∀ b, Q b → Q' b) : OfX Q' ty v w1 := h.keep (Wr.refl [] w1) (fun b _ hb => ⟨by simp, hq b hb⟩)
theorem alkX.two (h : alkX x y σ l w1) (r : Wr [] w1 w2) (ho : OfX (alkQ σ l) x v w2) : alkX x y (upd σ 2 v) (l.setIfInBounds 2 true) w2 := by
  refine ⟨fun _ => ?_, fun k => ?_⟩
  · rw [upd_same]
    exact ho.same (fun b hb => (alkQ_ne (by decide) (by decide)).2 hb)
  · rw [lst_ne (by decide)] at k
    rw [upd_ne σ v (by decide)]
    exact (h.2 k).keep r (fun b _ hb => ⟨by simp, (alkQ_ne (by decide) (by decide)).2 hb⟩)
theorem alkX.five (h : alkX x y σ l w1) (r : Wr [] w1 w2) (ho : OfX (alkQ σ l) y v w2) : alkX x y (upd σ 5 v) (l.setIfInBounds 5 true) w2 := by
  refine ⟨fun k => ?_, fun _ => ?_⟩
  · rw [lst_ne (by decide)] at k
    rw [upd_ne σ v (by decide)]
    exact (h.1 k).keep r (fun b _ hb => ⟨by simp, (alkQ_ne (by decide) (by decide)).2 hb⟩)
  · rw [upd_same]
    exact ho.same (fun b hb => (alkQ_ne (by decide) (by decide)).2 hb)
theorem alkX.alloc (h : alkX x y σ l w1) {i : Nat} (hi : i = 6 ∨ i = 7) (o : Obj) : alkX x y (upd σ i (.pointer (some ⟨w1.heap.size, 0, none⟩))) (l.setIfInBounds i true) (w1.alloc o) := by
  have key : ∀ b, b < w1.heap.size → alkQ σ l b → alkQ (upd σ i (.pointer (some ⟨w1.heap.size, 0, none⟩))) (l.setIfInBounds i true) b := by
    intro b hb hq
    rcases hi with rfl | rfl
    · refine ⟨fun _ => ?_, fun k => ?_⟩
      · rw [upd_same]
        intro he
        simp only [Value.pointer.injEq, Option.some.injEq, Addr.mk.injEq, and_true] at he
        omega
      · rw [lst_ne (by decide)] at k
        rw [upd_ne σ _ (by decide)]
        exact hq.2 k
    · refine ⟨fun k => ?_, fun _ => ?_⟩
      · rw [lst_ne (by decide)] at k
        rw [upd_ne σ _ (by decide)]
        exact hq.1 k
      · rw [upd_same]
        intro he
        simp only [Value.pointer.injEq, Option.some.injEq, Addr.mk.injEq, and_true] at he
        omega
  have n2 : 2 ≠ i := by omega
  have n5 : 5 ≠ i := by omega
  refine ⟨fun k => ?_, fun k => ?_⟩
  · rw [lst_ne n2] at k
    rw [upd_ne σ _ n2]
    exact (h.1 k).keep ((Wr.refl [] w1).alloc o) (fun b hb hq => ⟨by simp, key b hb hq⟩)
  · rw [lst_ne n5] at k
    rw [upd_ne σ _ n5]
    exact (h.2 k).keep ((Wr.refl [] w1).alloc o) (fun b hb hq => ⟨by simp, key b hb hq⟩)
theorem alkX.store (h : alkX x y σ l w1) {i k b : Nat} (hi : i = 8 ∨ i = 9) (hk : k = 6 ∨ k = 7) (hl : lst l k = true) (hb : σ k = .pointer (some ⟨b, 0, none⟩)) (r : Wr [b] w1 w2) : alkX x y (upd σ i v) (l.setIfInBounds i true) w2 := by
  have key : ∀ b', alkQ σ l b' → b' ∉ [b] ∧ alkQ (upd σ i v) (l.setIfInBounds i true) b' := by
    intro b' hq
    refine ⟨?_, (alkQ_ne (by omega) (by omega)).2 hq⟩
    rw [List.mem_singleton]
    rintro rfl
    rcases hk with rfl | rfl
    · exact hq.1 hl hb
    · exact hq.2 hl hb
  have n2 : 2 ≠ i := by omega
  have n5 : 5 ≠ i := by omega
  refine ⟨fun k => ?_, fun k => ?_⟩
  · rw [lst_ne n2] at k
    rw [upd_ne σ v n2]
    exact (h.1 k).keep r (fun b _ hq => key b hq)
  · rw [lst_ne n5] at k
    rw [upd_ne σ v n5]
    exact (h.2 k).keep r (fun b _ hq => key b hq)
end
def alkVal (t : Nat) (i j : Int) : Nat → Value
  | 0 => .pointer (some ⟨t, 0, none⟩)
  | 1 => .int .i64 i
  | 3 => .pointer (some ⟨t, 0, none⟩)
  | _ => .int .i64 j
def alkV (j : Nat) : Prop := j = 0 ∨ j = 1 ∨ j = 3 ∨ j = 4
instance (j : Nat) : Decidable (alkV j) := inferInstanceAs (Decidable (j = 0 ∨ j = 1 ∨ j = 3 ∨ j = 4))
def alkAl : List MadeJ := [⟨6, 8, 2, 31, zeroT⟩, ⟨7, 9, 5, 31, zeroT⟩]
theorem alkNa (i : Nat) (h : i ≤ 5) : ∀ a ∈ alkAl, a.i ≠ i ∧ a.s ≠ i := by
  intro a ha
  simp [alkAl] at ha
  rcases ha with rfl | rfl <;> simp <;> omega
theorem alkApart : ApartJ alkAl alkV := by
  refine ⟨?_, ?_, ?_, ?_, ?_⟩
  · intro a ha a' ha'
    simp [alkAl] at ha ha'
    rcases ha with rfl | rfl <;> rcases ha' with rfl | rfl <;> simp
  · intro a ha a' ha'
    simp [alkAl] at ha ha'
    rcases ha with rfl | rfl <;> rcases ha' with rfl | rfl <;> simp
  · intro a ha a' ha'
    simp [alkAl] at ha ha'
    rcases ha with rfl | rfl <;> rcases ha' with rfl | rfl <;> simp
  · intro a ha
    simp [alkAl] at ha
    rcases ha with rfl | rfl <;> simp [alkV]
  · intro a ha
    simp [alkAl] at ha
    rcases ha with rfl | rfl <;> simp [alkV]
theorem alk_q {w w1 W : World} {x y : Ty} {t : Nat} {i j : Int} {σ : Nat → Value} {l : Array Bool} (h : GridJ W (alkVal t i j) alkV alkAl (alkX x y) σ l w1) (hw : Wr [] w W) (b : Nat) (hb : b < w.heap.size ∨ w1.heap.size ≤ b) : alkQ σ l b := by
  have own : ∀ a ∈ alkAl, lst l a.i = true → σ a.i ≠ .pointer (some ⟨b, 0, none⟩) := by
    intro a ha hl he
    obtain ⟨b', e, hb', f, g⟩ := h.b a ha hl
    rw [e] at he
    simp only [Value.pointer.injEq, Option.some.injEq, Addr.mk.injEq, and_true] at he
    subst he
    have h1 := hw.size
    have h2 : b' < w1.heap.size := by
      cases hc : lst l a.s with
      | false => exact (f hc).lt
      | true =>
        obtain ⟨_, _, e2⟩ := g hc
        exact e2.lt
    omega
  exact ⟨own ⟨6, 8, 2, 31, zeroT⟩ (by simp [alkAl]), own ⟨7, 9, 5, 31, zeroT⟩ (by simp [alkAl])⟩
/-- Behind the two 'of'. -/
def AlkCut (w : World) (x y : Ty) (s8 s9 : Value) (wx : World) : Prop := ∃ (b8 b9 : Nat) (A1 : Option Addr) (c1 : Nat) (A2 : Option Addr) (c2 : Nat) (A3 : Option Addr) (c3 : Nat) (A4 : Option Addr) (c4 : Nat) (B1 : Option Addr) (d1 : Nat) (B2 : Option Addr) (d2 : Nat) (B3 : Option Addr) (d3 : Nat) (B4 : Option Addr) (d4 : Nat),
  s8 = .pointer (some ⟨b8, 0, none⟩) ∧ s9 = .pointer (some ⟨b9, 0, none⟩) ∧ Wr [] w wx ∧ Blk wx b8 31 #[.int .u8 x.kind, .string x.module, .string x.name, .int .i64 x.base, .int .i64 x.index, .int .i64 x.low, .int .i64 x.high, .slice A1 x.names.length c1, .slice A2 x.fields.length c2, .slice A3 x.arms.length c3, .slice A4 x.params.length c4, .int .i64 x.result] ∧ Blk wx b9 31 #[.int .u8 y.kind, .string y.module, .string y.name, .int .i64 y.base, .int .i64 y.index, .int .i64 y.low, .int .i64 y.high, .slice B1 y.names.length d1, .slice B2 y.fields.length d2, .slice B3 y.arms.length d3, .slice B4 y.params.length d4, .int .i64 y.result] ∧
  SlPars wx (fun _ => True) (.slice A4 x.params.length c4) x.params ∧ SlPars wx (fun _ => True) (.slice B4 y.params.length d4) y.params
end Go.Proofs.Ytcpgkeceefoljaa
