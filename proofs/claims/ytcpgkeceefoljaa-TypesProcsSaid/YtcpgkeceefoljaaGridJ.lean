/- What holds of what is listed, in a region of calls, allocs and stores into them: what is stored is what an operation yielded. No conditions. -/
import Derived.Test.YtcpgkeceefoljaaGrid
namespace Go.Proofs.Ytcpgkeceefoljaa
open Go

/-- A block that a region makes: the alloc's number, the store's number, the number of what is stored, its type, its cells before the store. -/
structure MadeJ where
  i : Nat
  s : Nat
  d : Nat
  t : TypeId
  z : Array Value

structure GridJ (w : World) (val : Nat → Value) (isV : Nat → Prop) (al : List MadeJ) (X : (Nat → Value) → Array Bool → World → Prop) (σ : Nat → Value) (l : Array Bool) (w' : World) : Prop where
  acc : Wr [] w w'
  v : ∀ j, isV j → lst l j = true → σ j = val j
  c : ∀ a ∈ al, lst l a.s = true → lst l a.i = true
  b : ∀ a ∈ al, lst l a.i = true → ∃ b : Nat, σ a.i = .pointer (some ⟨b, 0, none⟩) ∧ w.heap.size ≤ b ∧ (lst l a.s = false → Blk w' b a.t a.z) ∧ (lst l a.s = true → ∃ cs, σ a.d = .agg cs ∧ Blk w' b a.t cs)
  cd : ∀ a ∈ al, lst l a.s = true → lst l a.d = true
  ne : ∀ a ∈ al, ∀ a' ∈ al, a.i ≠ a'.i → lst l a.i = true → lst l a'.i = true → ∀ b b' : Nat, σ a.i = .pointer (some ⟨b, 0, none⟩) → σ a'.i = .pointer (some ⟨b', 0, none⟩) → b ≠ b'
  x : X σ l w'

section
variable {w w1 w2 : World} {val : Nat → Value} {isV : Nat → Prop} {al : List MadeJ} {X : (Nat → Value) → Array Bool → World → Prop} {σ : Nat → Value} {l : Array Bool} {i : Nat} {v : Value}

theorem off {l : Array Bool} {i j : Nat} (h : lst l j = true) (k : lst l i = false) : j ≠ i := fun e => by subst e; rw [h] at k; cases k
theorem GridJ.start (acc : Wr [] w w1) (n : Nat) (hX : X σ (Array.replicate n false) w1) : GridJ w val isV al X σ (Array.replicate n false) w1 := by
  refine ⟨acc, fun j _ h => ?_, fun a _ h => ?_, fun a _ h => ?_, fun a _ h => ?_, fun a _ a' _ _ h => ?_, hX⟩ <;> rw [lst_start] at h <;> cases h

theorem GridJ.quiet (h : GridJ w val isV al X σ l w1) (hli : lst l i = false) (r : Wr [] w1 w2) (hna : ∀ a ∈ al, a.i ≠ i ∧ a.s ≠ i) (hv : isV i → v = val i) (hX : X (upd σ i v) (l.setIfInBounds i true) w2) :
    GridJ w val isV al X (upd σ i v) (l.setIfInBounds i true) w2 := by
  refine ⟨h.acc.trans r, fun j hj hl => ?_, fun a ha hl => ?_, fun a ha hl => ?_, fun a ha hl => ?_, fun a ha a' ha' hne h1 h2 => ?_, hX⟩
  · by_cases hji : j = i
    · subst hji
      rw [upd_same]
      exact hv hj
    · rw [upd_ne σ v hji]
      rw [lst_ne hji] at hl
      exact h.v j hj hl
  · rw [lst_ne (hna a ha).2] at hl
    rw [lst_ne (hna a ha).1]
    exact h.c a ha hl
  · rw [lst_ne (hna a ha).1] at hl
    obtain ⟨b, e, hb, f, t⟩ := h.b a ha hl
    rw [upd_ne σ v (hna a ha).1, lst_ne (hna a ha).2]
    exact ⟨b, e, hb, fun k => (f k).wr0 r, fun k => by
      obtain ⟨cs, e1, e2⟩ := t k
      exact ⟨cs, by rw [upd_ne σ v (off (h.cd a ha k) hli)]; exact e1, e2.wr0 r⟩⟩
  · rw [lst_ne (hna a ha).2] at hl
    rw [lst_ne (off (h.cd a ha hl) hli)]
    exact h.cd a ha hl
  · rw [lst_ne (hna a ha).1] at h1
    rw [lst_ne (hna a' ha').1] at h2
    rw [upd_ne σ v (hna a ha).1, upd_ne σ v (hna a' ha').1]
    exact h.ne a ha a' ha' hne h1 h2

/-- The numbers of these blocks are all unlike. -/
structure ApartJ (al : List MadeJ) (isV : Nat → Prop) : Prop where
  i : ∀ a ∈ al, ∀ a' ∈ al, a.i = a'.i → a = a'
  s : ∀ a ∈ al, ∀ a' ∈ al, a.s = a'.s → a = a'
  is : ∀ a ∈ al, ∀ a' ∈ al, a.i ≠ a'.s
  vi : ∀ a ∈ al, ¬isV a.i
  vs : ∀ a ∈ al, ¬isV a.s

theorem GridJ.alloc (h : GridJ w val isV al X σ l w1) (ap : ApartJ al isV) (a : MadeJ) (ha : a ∈ al) (hl : lst l a.i = false)
    (hX : X (upd σ a.i (.pointer (some ⟨w1.heap.size, 0, none⟩))) (l.setIfInBounds a.i true) (w1.alloc (.cells a.z a.t))) :
    GridJ w val isV al X (upd σ a.i (.pointer (some ⟨w1.heap.size, 0, none⟩))) (l.setIfInBounds a.i true) (w1.alloc (.cells a.z a.t)) := by
  have r : Wr [] w1 (w1.alloc (.cells a.z a.t)) := (Wr.refl [] w1).alloc _
  have hs : lst l a.s = false := by
    cases hc : lst l a.s with
    | false => rfl
    | true => rw [h.c a ha hc] at hl; cases hl
  have own : ∀ a' ∈ al, a'.i ≠ a.i → ∀ b : Nat, lst l a'.i = true → σ a'.i = .pointer (some ⟨b, 0, none⟩) → b < w1.heap.size := by
    intro a' ha' hne b hb he
    obtain ⟨b', e, _, f, t⟩ := h.b a' ha' hb
    rw [e] at he
    simp only [Value.pointer.injEq, Option.some.injEq, Addr.mk.injEq, and_true] at he
    subst he
    cases hc : lst l a'.s with
    | false => exact (f hc).lt
    | true => obtain ⟨_, _, e2⟩ := t hc; exact e2.lt
  refine ⟨h.acc.trans r, fun j hj hl' => ?_, fun a' ha' hl' => ?_, fun a' ha' hl' => ?_, fun a' ha' hl' => ?_, fun a' ha' a'' ha'' hne h1 h2 => ?_, hX⟩
  · have hji : j ≠ a.i := fun e => ap.vi a ha (e ▸ hj)
    rw [upd_ne σ _ hji]
    rw [lst_ne hji] at hl'
    exact h.v j hj hl'
  · rw [lst_ne (fun e => ap.is a ha a' ha' e.symm)] at hl'
    by_cases hia : a'.i = a.i
    · have := ap.i a' ha' a ha hia
      subst this
      rw [hs] at hl'
      cases hl'
    · rw [lst_ne hia]
      exact h.c a' ha' hl'
  · rw [lst_ne (fun e => ap.is a ha a' ha' e.symm)]
    by_cases hia : a'.i = a.i
    · have := ap.i a' ha' a ha hia
      subst this
      rw [upd_same]
      exact ⟨_, rfl, h.acc.size, fun _ => Blk.new w1 _ _, fun k => by rw [hs] at k; cases k⟩
    · rw [lst_ne hia] at hl'
      rw [upd_ne σ _ hia]
      obtain ⟨b, e, hb, f, t⟩ := h.b a' ha' hl'
      exact ⟨b, e, hb, fun k => (f k).wr0 r, fun k => by
        obtain ⟨cs, e1, e2⟩ := t k
        exact ⟨cs, by rw [upd_ne σ _ (off (h.cd a' ha' k) hl)]; exact e1, e2.wr0 r⟩⟩
  · rw [lst_ne (fun e => ap.is a ha a' ha' e.symm)] at hl'
    rw [lst_ne (off (h.cd a' ha' hl') hl)]
    exact h.cd a' ha' hl'
  · intro b b' e1 e2
    by_cases hia : a'.i = a.i
    · have hib : a''.i ≠ a.i := fun e => hne (hia.trans e.symm)
      rw [hia, upd_same] at e1
      rw [upd_ne σ _ hib] at e2
      rw [lst_ne hib] at h2
      have := own a'' ha'' hib b' h2 e2
      simp only [Value.pointer.injEq, Option.some.injEq, Addr.mk.injEq, and_true] at e1
      omega
    · rw [upd_ne σ _ hia] at e1
      rw [lst_ne hia] at h1
      by_cases hib : a''.i = a.i
      · rw [hib, upd_same] at e2
        have := own a' ha' hia b h1 e1
        simp only [Value.pointer.injEq, Option.some.injEq, Addr.mk.injEq, and_true] at e2
        omega
      · rw [upd_ne σ _ hib] at e2
        rw [lst_ne hib] at h2
        exact h.ne a' ha' a'' ha'' hne h1 h2 b b' e1 e2

theorem GridJ.store (h : GridJ w val isV al X σ l w1) (ap : ApartJ al isV) (a : MadeJ) (ha : a ∈ al) (hsz : a.s < l.size) (hls : lst l a.s = false) (hl : lst l a.i = true) (hld : lst l a.d = true) {b : Nat} (hb : σ a.i = .pointer (some ⟨b, 0, none⟩))
    (hwb : w.heap.size ≤ b) (r : Wr [b] w1 w2) {cs : Array Value} (hcs : σ a.d = .agg cs) (hn : Blk w2 b a.t cs) (hX : X (upd σ a.s v) (l.setIfInBounds a.s true) w2) :
    GridJ w val isV al X (upd σ a.s v) (l.setIfInBounds a.s true) w2 := by
  have ni : ∀ a' ∈ al, a'.i ≠ a.s := fun a' ha' => ap.is a' ha' a ha
  refine ⟨h.acc.new r hwb, fun j hj hl' => ?_, fun a' ha' hl' => ?_, fun a' ha' hl' => ?_, fun a' ha' hl' => ?_, fun a' ha' a'' ha'' hne h1 h2 => ?_, hX⟩
  · have hji : j ≠ a.s := fun e => ap.vs a ha (e ▸ hj)
    rw [upd_ne σ _ hji]
    rw [lst_ne hji] at hl'
    exact h.v j hj hl'
  · rw [lst_ne (ni a' ha')]
    by_cases hs : a'.s = a.s
    · have := ap.s a' ha' a ha hs
      subst this
      exact hl
    · rw [lst_ne hs] at hl'
      exact h.c a' ha' hl'
  · rw [lst_ne (ni a' ha')] at hl'
    rw [upd_ne σ _ (ni a' ha')]
    by_cases hs : a'.s = a.s
    · have := ap.s a' ha' a ha hs
      subst this
      rw [lst_same hsz]
      exact ⟨b, hb, hwb, fun k => (by cases k), fun _ => ⟨cs, by rw [upd_ne σ v (off hld hls)]; exact hcs, hn⟩⟩
    · rw [lst_ne hs]
      obtain ⟨b', e, hb', f, t⟩ := h.b a' ha' hl'
      have hia : a'.i ≠ a.i := fun e' => hs (by rw [ap.i a' ha' a ha e'])
      have hbb : b' ≠ b := h.ne a' ha' a ha hia hl' hl b' b e hb
      exact ⟨b', e, hb', fun k => (f k).wr r (by simp [hbb]), fun k => by
        obtain ⟨cs', e1, e2⟩ := t k
        exact ⟨cs', by rw [upd_ne σ v (off (h.cd a' ha' k) hls)]; exact e1, e2.wr r (by simp [hbb])⟩⟩
  · by_cases hs : a'.s = a.s
    · have := ap.s a' ha' a ha hs
      subst this
      rw [lst_ne (off hld hls)]
      exact hld
    · rw [lst_ne hs] at hl'
      rw [lst_ne (off (h.cd a' ha' hl') hls)]
      exact h.cd a' ha' hl'
  · rw [lst_ne (ni a' ha')] at h1
    rw [lst_ne (ni a'' ha'')] at h2
    rw [upd_ne σ _ (ni a' ha'), upd_ne σ _ (ni a'' ha'')]
    exact h.ne a' ha' a'' ha'' hne h1 h2
end
end Go.Proofs.Ytcpgkeceefoljaa
