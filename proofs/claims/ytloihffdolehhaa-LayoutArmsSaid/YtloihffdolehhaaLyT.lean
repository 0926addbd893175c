/- Rec.Type, walked. Conditions: its fields are such as Go has; it stands behind some types; not too many labels. -/
import Derived.Test.YtloihffdolehhaaLyS
import Derived.Test.YtloihffdolehhaaLyR
namespace Go.Proofs.Ytloihffdolehhaa
open Go.RowKit
set_option linter.unusedVariables false
set_option linter.unusedSimpArgs false
attribute [local go_sem ↓] Go.wp_at_zero Go.wp_at_succ

/-- What a record is made of. -/
structure RecD where
  ts : List Int
  ars : List Int
  fs : List Int
  tos : List Int
def nmOf (i : Nat) : ByteArray := ⟨#[UInt8.ofNat (97 + i)]⟩
def RecD.fld (m : RecD) (n : Int) (i : Nat) : Fld := ⟨nmOf i, m.ts.getD i 0 % n, if i < m.ars.length then m.ars.getD i 0 % 5 else 0⟩
def RecD.flds (m : RecD) (n : Int) (k : Nat) : List Fld := (List.range k).map (m.fld n)
/-- How many labels an arm has. -/
def RecD.cnt (m : RecD) (i : Nat) : Nat := (min m.fs.length m.tos.length - i + 2) / 3
def pickL (l : List Int) (i c : Nat) : List Int := (List.range c).map fun j => l.getD (i + 3 * j) 0
def RecD.arm (m : RecD) (i : Nat) : ArmD := ⟨pickL m.fs i (m.cnt i), pickL m.tos i (m.cnt i), i == 2⟩
def RecD.arms (m : RecD) (k : Nat) : List ArmD := (List.range k).map m.arm
def RecD.ty (m : RecD) (n : Int) : Ty := ⟨12, ⟨#[]⟩, ⟨#[]⟩, 0, 0, 0, 0, [], m.flds n (min m.ts.length 8), m.arms 3, [], 0⟩
theorem flds_succ (m : RecD) (n : Int) (k : Nat) : m.flds n (k + 1) = m.flds n k ++ [m.fld n k] := by simp [RecD.flds, List.range_succ]
theorem arms_succ (m : RecD) (k : Nat) : m.arms (k + 1) = m.arms k ++ [m.arm k] := by simp [RecD.arms, List.range_succ]
theorem pick_succ (l : List Int) (i c : Nat) : pickL l i (c + 1) = pickL l i c ++ [l.getD (i + 3 * c) 0] := by simp [pickL, List.range_succ]

/-- A slice of integers of kind k. -/
def IntsAt (w : World) (k : IntKind) (A : Option Addr) (c : Nat) (l : List Int) : Prop := l.length ≤ c ∧ c ≤ maxLen ∧ (∀ i, i < l.length → (Lit.int k (l.getD i 0)).wf = true) ∧ ∀ i, i < l.length → ∃ b off, A = some ⟨b, off, none⟩ ∧ w.cell? ⟨b, off + i, none⟩ = some (.int k (l.getD i 0))
theorem IntsAt.wr0 {w w' : World} {k : IntKind} {A : Option Addr} {c : Nat} {l : List Int} (h : IntsAt w k A c l) (hw : Wr [] w w') : IntsAt w' k A c l := by
  refine ⟨h.1, h.2.1, h.2.2.1, fun i hi => ?_⟩
  obtain ⟨b, off, e, hc⟩ := h.2.2.2 i hi
  exact ⟨b, off, e, hw.cellOf hc (by simp)⟩
/-- .. kept by what leaves the blocks of a world. -/
theorem IntsAt.wr {w w0 w' : World} {l0 : List Nat} {k : IntKind} {A : Option Addr} {c : Nat} {l : List Int} (h : IntsAt w k A c l) (h0 : Wr [] w w0) (hw : Wr l0 w0 w') (hl : ∀ x ∈ l0, w.heap.size ≤ x) : IntsAt w' k A c l := by
  refine ⟨h.1, h.2.1, h.2.2.1, fun i hi => ?_⟩
  obtain ⟨b, off, e, hc⟩ := h.2.2.2 i hi
  exact ⟨b, off, e, hw.cellOf (h0.cellOf hc (by simp)) (fun hm => by
    have := hl b hm
    have := World.block_lt_of_cell? w _ hc
    simp at this
    omega)⟩

/-- A row of arms that the call itself made. -/
structure ArmsOk (w : World) (base : Nat) (P : Nat → Prop) (va : Value) (xs : List Value) (arms : List ArmD) : Prop where
  row : w.ownsRow base 54 3 va arms.length xs
  one : ∀ u ∈ xs, u.oneCell' = true
  all : ∀ i x, arms[i]? = some x → ArmAt w P xs i x
theorem ArmAt.into {w : World} {P Q : Nat → Prop} {xs : List Value} {i : Nat} {x : ArmD} (h : ArmAt w P xs i x) (hP : ∀ b, P b → b < w.heap.size → Q b) : ArmAt w Q xs i x := by
  obtain ⟨va, vb, e1, e2, e3, ka, kb⟩ := h
  exact ⟨va, vb, e1, e2, e3, Sl.into ka hP, Sl.into kb hP⟩
theorem ArmAt.keep {w w' : World} {P : Nat → Prop} {xs : List Value} {i : Nat} {x : ArmD} {l : List Nat} (h : ArmAt w P xs i x) (hw : Wr l w w') (hP : ∀ b, P b → b ∉ l) : ArmAt w' P xs i x := by
  obtain ⟨va, vb, e1, e2, e3, ka, kb⟩ := h
  exact ⟨va, vb, e1, e2, e3, Sl.keep ka hw hP, Sl.keep kb hw hP⟩
theorem ArmAt.app {w : World} {P : Nat → Prop} {xs ys : List Value} {i : Nat} {x : ArmD} (h : ArmAt w P xs i x) : ArmAt w P (xs ++ ys) i x := by
  obtain ⟨va, vb, e1, e2, e3, ka, kb⟩ := h
  have f : ∀ (j : Nat) (u : Value), xs[j]? = some u → (xs ++ ys)[j]? = some u := fun j u h => by
    rw [List.getElem?_append_left (List.getElem?_eq_some_iff.1 h).1]
    exact h
  exact ⟨va, vb, f _ _ e1, f _ _ e2, f _ _ e3, ka, kb⟩
/-- One arm behind those that are there. -/
theorem arms_snoc {w w' : World} {base : Nat} {P Q : Nat → Prop} {va va' : Value} {xs : List Value} {arms : List ArmD} {x : ArmD} {vF vT : Value} {l : List Nat} (h : ArmsOk w base P va xs arms) (hw : Wr l w w') (hl : ∀ b, P b → b ∉ l) (hPQ : ∀ b, P b → b < w'.heap.size → Q b)
    (ho : w'.ownsRow base 54 3 va' (arms.length + 1) (xs ++ [vF, vT, .bool x.els])) (hF : SlInts w' Q vF x.frm) (hT : SlInts w' Q vT x.to) : ArmsOk w' base Q va' (xs ++ [vF, vT, .bool x.els]) (arms ++ [x]) := by
  have hlen := h.row.1
  refine ⟨by rw [List.length_append]; exact ho, fun u hu => ?_, fun i y hi => ?_⟩
  · rcases List.mem_append.1 hu with h1 | h1
    · exact h.one u h1
    · obtain ⟨A1, c1, e1, _, _⟩ := Sl.form hF
      obtain ⟨A2, c2, e2, _, _⟩ := Sl.form hT
      simp only [List.mem_cons, List.not_mem_nil, or_false] at h1
      rcases h1 with rfl | rfl | rfl
      · rw [e1]; rfl
      · rw [e2]; rfl
      · rfl
  · by_cases hlt : i < arms.length
    · rw [List.getElem?_append_left hlt] at hi
      exact ((h.all i y hi).keep hw hl |>.into hPQ).app
    · rw [List.getElem?_append_right (by omega)] at hi
      have hi0 : i - arms.length = 0 := by
        have := (List.getElem?_eq_some_iff.1 hi).1
        simp at this
        omega
      rw [hi0] at hi
      simp only [List.getElem?_cons_zero, Option.some.injEq] at hi
      subst hi
      have hil : i = arms.length := by omega
      subst hil
      refine ⟨vF, vT, ?_, ?_, ?_, hF, hT⟩
      · rw [List.getElem?_append_right (by omega), show arms.length * 3 - xs.length = 0 by omega]; rfl
      · rw [List.getElem?_append_right (by omega), show arms.length * 3 + 1 - xs.length = 1 by omega]; rfl
      · rw [List.getElem?_append_right (by omega), show arms.length * 3 + 2 - xs.length = 2 by omega]; rfl
theorem append_arm (base : Nat) (v : Value) (n : Nat) (xs : List Value) (W : World) (ho : W.ownsRow base 54 3 v n xs) (A1 : Option Addr) (n1 c1 : Nat) (A2 : Option Addr) (n2 c2 : Nat) (b : Bool) (hn : n < 1099511627776) (hb : base ≤ W.heap.size) :
    ∃ v' w', (Builtin.append_ #[35, 35] 35 #[v, .slice (some ⟨W.heap.size, 0, none⟩) 1 1]).run Try.prog (W.alloc (.cells #[.slice A1 n1 c1, .slice A2 n2 c2, .bool b] 54)) = .ok v' w' ∧
      w'.ownsRow base 54 3 v' (n + 1) (xs ++ [.slice A1 n1 c1, .slice A2 n2 c2, .bool b]) ∧ Wr (ownL v) W w' ∧ (v'.ownBlock = v.ownBlock ∨ ∃ k, v'.ownBlock = some k ∧ W.heap.size ≤ k) := by
  obtain ⟨i0, hi0, hz0, hz1, hz2⟩ := info_parts info_arm
  have hs : Sl (W.alloc (.cells #[.slice A1 n1 c1, .slice A2 n2 c2, .bool b] 54)) (fun _ => True) 3 (.slice (some ⟨W.heap.size, 0, none⟩) 1 1) 1 [.slice A1 n1 c1, .slice A2 n2 c2, .bool b] :=
    Sl.ofOwn (World.ownsRow_lit W #[.slice A1 n1 c1, .slice A2 n2 c2, .bool b] 1 (Nat.le_refl _) (by simp only [maxLen]; omega) rfl) (fun _ _ => trivial)
  obtain ⟨v', w', hrun, hown, hg, hat⟩ := run_append_sl (P := Try.prog) (W.alloc (.cells #[.slice A1 n1 c1, .slice A2 n2 c2, .bool b] 54)) base 35 35 54 i0 _ 3 56 Try.underlying35 hi0 hz0 hz1 hz2 rfl (by omega)
    v n xs (ho.alloc _) (fun _ => True) _ 1 _ hs (by intro u hu; simp only [List.mem_cons, List.not_mem_nil, or_false] at hu; rcases hu with rfl | rfl | rfl <;> rfl) (by simp only [maxLen]; omega) (by omega) (by simp; omega)
  refine ⟨v', w', hrun, hown, ((Wr.refl _ W).alloc _).trans (Wr.ofGrownOwn hg), ?_⟩
  rcases hat with e | e
  · exact .inl e
  · exact .inr ⟨_, e, by simp⟩
theorem append_i64 (base : Nat) (v : Value) (out : List Int) (W : World) (ho : W.ownsRow base 2 1 v out.length (out.map (Value.int .i64))) (x : Int) (hn : out.length < 1099511627776) (hb : base ≤ W.heap.size) :
    ∃ v' w', (Builtin.append_ #[52, 52] 52 #[v, .slice (some ⟨W.heap.size, 0, none⟩) 1 1]).run Try.prog (W.alloc (.cells #[.int .i64 x] 2)) = .ok v' w' ∧
      w'.ownsRow base 2 1 v' (out ++ [x]).length ((out ++ [x]).map (Value.int .i64)) ∧ Wr (ownL v) W w' ∧ (v'.ownBlock = v.ownBlock ∨ ∃ k, v'.ownBlock = some k ∧ W.heap.size ≤ k) := by
  obtain ⟨i0, hi0, hz0, hz1, hz2⟩ := info_parts info_i64
  have hs : Sl (W.alloc (.cells #[.int .i64 x] 2)) (fun _ => True) 1 (.slice (some ⟨W.heap.size, 0, none⟩) 1 1) 1 [.int .i64 x] :=
    Sl.ofOwn (World.ownsRow_lit W #[.int .i64 x] 1 (Nat.le_refl _) (by simp only [maxLen]; omega) rfl) (fun _ _ => trivial)
  obtain ⟨v', w', hrun, hown, hg, hat⟩ := run_append_sl (P := Try.prog) (W.alloc (.cells #[.int .i64 x] 2)) base 52 52 2 i0 _ 1 8 Try.underlying52 hi0 hz0 hz1 hz2 rfl (by omega)
    v _ _ (ho.alloc _) (fun _ => True) _ 1 _ hs (by simp [Value.oneCell']) (by simp only [maxLen]; omega) (by omega) (by simp; omega)
  refine ⟨v', w', hrun, ?_, ((Wr.refl _ W).alloc _).trans (Wr.ofGrownOwn hg), ?_⟩
  · rw [List.map_append, List.length_append]
    exact hown
  · rcases hat with e | e
    · exact .inl e
    · exact .inr ⟨_, e, by simp⟩
end Go.Proofs.Ytloihffdolehhaa
