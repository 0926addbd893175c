/- Blocks that are not frozen; slices.Clone into such. Conditions: what is copied takes no more room than an address can reach. -/
import Derived.Test.YtcpgkeceefoljaaTyW
import Derived.Deep.DrawnRows
import Derived.Deep.RegionWith
namespace Go.Proofs.Ytcpgkeceefoljaa
open Go.RowKit
set_option linter.unusedVariables false
set_option linter.unusedSimpArgs false
attribute [local go_sem ↓] Go.wp_at_zero Go.wp_at_succ

/-- No cell of this block is frozen. -/
def SoftB (w : World) (b : Nat) : Prop := ∃ cs T, w.heap[b]? = some (.cells cs T (0, 0))
def NewB (B : Nat) (w : World) : Nat → Prop := fun b => B ≤ b ∧ SoftB w b
section
variable {w w' : World} {b B B' : Nat} {l : List Nat}
theorem SoftB.wr (h : SoftB w b) (hw : Wr l w w') (hb : b ∉ l) : SoftB w' b := by
  obtain ⟨cs, T, h⟩ := h
  exact ⟨cs, T, Blk.wr (show Blk w b T cs from h) hw hb⟩
theorem SoftB.frozen (h : SoftB w b) (j : Nat) : w.frozen? ⟨b, j, none⟩ = false := by
  obtain ⟨cs, T, h⟩ := h
  exact Blk.frozen (show Blk w b T cs from h) j
theorem NewB.wr (h : NewB B w b) (hw : Wr l w w') (hl : ∀ b, B ≤ b → b ∉ l) (hB : B' ≤ B) : NewB B' w' b := ⟨Nat.le_trans hB h.1, h.2.wr hw (hl b h.1)⟩
variable {size n : Nat} {v : Value} {xs : List Value}
theorem Sl.soft (h : Sl w (NewB B w) size v n xs) (hw : Wr l w w') (hl : ∀ b, B ≤ b → b ∉ l) (hB : B' ≤ B) : Sl w' (NewB B' w') size v n xs :=
  (h.keep hw (fun b hb => hl b hb.1)).mono (fun b hb => hb.wr hw hl hB)
theorem SlArms.soft {ams : List ArmD} (h : SlArms w (NewB B w) v ams) (hw : Wr l w w') (hl : ∀ b, B ≤ b → b ∉ l) (hB : B' ≤ B) : SlArms w' (NewB B' w') v ams := by
  obtain ⟨xs, hs, h1, ha⟩ := h
  refine ⟨xs, hs.soft hw hl hB, h1, fun i x hi => ?_⟩
  obtain ⟨va, vb, e1, e2, e3, ka, kb⟩ := ha i x hi
  exact ⟨va, vb, e1, e2, e3, Sl.soft ka hw hl hB, Sl.soft kb hw hl hB⟩
theorem Lists.soft {vn vf va vp : Value} {t : Ty} (h : Lists w (NewB B w) vn vf va vp t) (hw : Wr l w w') (hl : ∀ b, B ≤ b → b ∉ l) (hB : B' ≤ B) : Lists w' (NewB B' w') vn vf va vp t :=
  ⟨Sl.soft h.names hw hl hB, Sl.soft h.fields hw hl hB, SlArms.soft h.arms hw hl hB, Sl.soft h.params hw hl hB⟩
theorem Sl.ofOwnS {e : TypeId} (h : w.ownsRow B e size v n xs) : Sl w (NewB B w) size v n xs := by
  refine Sl.ofOwn h (fun b hb => ⟨(h.lt b hb).1, ?_⟩)
  rcases h.2 with ⟨rfl, _⟩ | ⟨g, cap, cur, rfl, _, hh, _⟩
  · simp [Value.ownBlock] at hb
  · injection hb with hb
    subst hb
    exact ⟨cur, e, hh⟩
end
/-- A copy, in memory of its own that is not frozen. -/
def CloneS (w : World) (size n : Nat) (xs : List Value) (e : Ending) (w' : World) : Prop := ∃ v', e = .returned v' ∧ Wr [] w w' ∧ Sl w' (NewB w.heap.size w') size v' n xs
theorem CloneO.toS {w w' : World} {t : TypeId} {size n : Nat} {xs : List Value} {e : Ending} (h : CloneO w t size n xs e w') : CloneS w size n xs e w' := by
  obtain ⟨v', he, r, ho⟩ := h
  exact ⟨v', he, r, Sl.ofOwnS ho⟩
theorem cloneS_str (w : World) (P : Nat → Prop) (v : Value) (n : Nat) (xs : List Value) (h : Sl w P 1 v n xs) (h1 : ∀ u ∈ xs, u.oneCell' = true) (hb : n * 16 ≤ 140737488355328) :
    Calls Try.prog 41 #[v] w (CloneS w 1 n xs) := (cloneO_str w P v n xs h h1 hb).mono fun _ _ k => k.toS
theorem cloneS_fld (w : World) (P : Nat → Prop) (v : Value) (n : Nat) (xs : List Value) (h : Sl w P 3 v n xs) (h1 : ∀ u ∈ xs, u.oneCell' = true) (hb : n * 32 ≤ 140737488355328) :
    Calls Try.prog 42 #[v] w (CloneS w 3 n xs) := (cloneO_fld w P v n xs h h1 hb).mono fun _ _ k => k.toS
theorem cloneS_par (w : World) (P : Nat → Prop) (v : Value) (n : Nat) (xs : List Value) (h : Sl w P 2 v n xs) (h1 : ∀ u ∈ xs, u.oneCell' = true) (hb : n * 16 ≤ 140737488355328) :
    Calls Try.prog 43 #[v] w (CloneS w 2 n xs) := (cloneO_par w P v n xs h h1 hb).mono fun _ _ k => k.toS
theorem cloneS_i64 (w : World) (P : Nat → Prop) (v : Value) (n : Nat) (xs : List Value) (h : Sl w P 1 v n xs) (h1 : ∀ u ∈ xs, u.oneCell' = true) (hb : n * 8 ≤ 140737488355328) :
    Calls Try.prog 46 #[v] w (CloneS w 1 n xs) := (cloneO_i64 w P v n xs h h1 hb).mono fun _ _ k => k.toS
end Go.Proofs.Ytcpgkeceefoljaa
