/- LayoutArms: which labels an arm has, which arm a tag is of: plain. No conditions. -/
import Derived.Test.YtloihffdolehhaaLyT
namespace Go.Proofs.Ytloihffdolehhaa
open Go.RowKit
set_option linter.unusedVariables false

/-- The numbers below k that are of arm r. -/
def labs (zs : List Int) (r k : Nat) : List Int := ((List.range k).filter fun i => zs.getD i 0 % 4 == (r : Int)).map fun (i : Nat) => (i : Int)
theorem labs_succ (zs : List Int) (r k : Nat) : labs zs r (k + 1) = if zs.getD k 0 % 4 = (r : Int) then labs zs r k ++ [(k : Int)] else labs zs r k := by
  unfold labs
  rw [List.range_succ, List.filter_append, List.map_append]
  by_cases h : zs.getD k 0 % 4 = (r : Int)
  · rw [if_pos h]
    simp only [List.filter_cons, List.filter_nil, h, beq_self_eq_true, if_true, List.map_cons, List.map_nil]
  · rw [if_neg h]
    have : (zs.getD k 0 % 4 == (r : Int)) = false := by rw [beq_eq_false_iff_ne]; exact h
    simp only [List.filter_cons, List.filter_nil, this, Bool.false_eq_true, if_false, List.map_nil, List.append_nil]
theorem labs_len (zs : List Int) (r k : Nat) : (labs zs r k).length ≤ k := by
  unfold labs
  rw [List.length_map]
  exact Nat.le_trans (List.length_filter_le _ _) (by simp)
theorem mem_labs (zs : List Int) (r k : Nat) (tag : Int) : tag ∈ labs zs r k ↔ ∃ i : Nat, i < k ∧ zs.getD i 0 % 4 = (r : Int) ∧ tag = i := by
  unfold labs
  simp only [List.mem_map, List.mem_filter, List.mem_range, beq_iff_eq]
  constructor
  · rintro ⟨i, ⟨h1, h2⟩, h3⟩
    exact ⟨i, h1, h2, h3.symm⟩
  · rintro ⟨i, h1, h2, h3⟩
    exact ⟨i, ⟨h1, h2⟩, h3.symm⟩
theorem hit_zip (l : List Int) (tag : Int) : hitB (l.zip l) tag = true ↔ tag ∈ l := by
  unfold hitB
  rw [List.any_eq_true]
  constructor
  · rintro ⟨p, hp, h⟩
    simp only [Bool.and_eq_true, decide_eq_true_eq] at h
    have : ∀ l : List Int, p ∈ l.zip l → p.1 = p.2 ∧ p.1 ∈ l := by
      intro l
      induction l with
      | nil => intro h; simp at h
      | cons a l ih =>
        intro h
        rw [List.zip_cons_cons] at h
        rcases List.mem_cons.1 h with e | e
        · rw [e]; exact ⟨rfl, .head _⟩
        · exact ⟨(ih e).1, .tail _ (ih e).2⟩
    obtain ⟨e1, e2⟩ := this l hp
    have : tag = p.1 := by omega
    rw [this]
    exact e2
  · intro h
    have : ∀ l : List Int, tag ∈ l → (tag, tag) ∈ l.zip l := by
      intro l
      induction l with
      | nil => intro h; cases h
      | cons a l ih =>
        intro h
        rw [List.zip_cons_cons]
        rcases List.mem_cons.1 h with e | e
        · rw [e]; exact .head _
        · exact .tail _ (ih e)
    exact ⟨(tag, tag), this l h, by simp⟩
def armOne (zs : List Int) (r : Nat) : ArmD := ⟨labs zs r zs.length, labs zs r zs.length, false⟩
def armElse : ArmD := ⟨[], [], true⟩
def armsT (zs : List Int) (other : Bool) : List ArmD := [armOne zs 0, armOne zs 1, armOne zs 2, armOne zs 3] ++ (if other = true then [armElse] else [])
def tyT (zs : List Int) (other : Bool) : Ty := ⟨12, ⟨#[]⟩, ⟨#[]⟩, 0, 0, 0, 0, [], [⟨⟨#[116]⟩, 2, 1⟩], armsT zs other, [], 0⟩
theorem hit_one (zs : List Int) (r : Nat) (tag : Nat) : hitB ((armOne zs r).frm.zip (armOne zs r).to) tag = decide (tag < zs.length ∧ zs.getD tag 0 % 4 = (r : Int)) := by
  rw [Bool.eq_iff_iff]
  show hitB ((labs zs r zs.length).zip (labs zs r zs.length)) tag = true ↔ _
  rw [hit_zip, mem_labs, decide_eq_true_eq]
  constructor
  · rintro ⟨i, h1, h2, h3⟩
    obtain rfl : tag = i := by omega
    exact ⟨h1, h2⟩
  · rintro ⟨h1, h2⟩
    exact ⟨tag, h1, h2, rfl⟩
theorem armK_T (zs : List Int) (other : Bool) (hz : ∀ i, i < zs.length → 0 ≤ zs.getD i 0) (tag : Nat) :
    armK tag (armsT zs other) 0 0 false = if tag < zs.length then (2 + zs.getD tag 0 % 4, true) else if other = true then (6, true) else (0, false) := by
  have e1 : ∀ r, (armOne zs r).els = false := fun _ => rfl
  have e2 : armElse.els = true := rfl
  have e3 : hitB (armElse.frm.zip armElse.to) tag = false := rfl
  have hz0 : tag < zs.length → 0 ≤ zs.getD tag 0 := hz tag
  have h1 : ∀ r : Nat, hitB ((armOne zs r).frm.zip (armOne zs r).to) tag = decide (tag < zs.length ∧ zs.getD tag 0 % 4 = (r : Int)) := fun r => hit_one zs r tag
  generalize zs.getD tag 0 = z at *
  by_cases h : tag < zs.length
  · have h0 := hz0 h
    have hr : z % 4 = 0 ∨ z % 4 = 1 ∨ z % 4 = 2 ∨ z % 4 = 3 := by omega
    rw [if_pos h]
    cases other with
    | true =>
      have ea : armsT zs true = [armOne zs 0, armOne zs 1, armOne zs 2, armOne zs 3, armElse] := rfl
      rw [ea]
      rcases hr with e | e | e | e <;> simp [armK, h1, e1, h, e]
    | false =>
      have ea : armsT zs false = [armOne zs 0, armOne zs 1, armOne zs 2, armOne zs 3] := rfl
      rw [ea]
      rcases hr with e | e | e | e <;> simp [armK, h1, e1, h, e]
  · rw [if_neg h]
    cases other with
    | true =>
      have ea : armsT zs true = [armOne zs 0, armOne zs 1, armOne zs 2, armOne zs 3, armElse] := rfl
      rw [ea]
      simp [armK, h1, e1, e2, e3, h]
    | false =>
      have ea : armsT zs false = [armOne zs 0, armOne zs 1, armOne zs 2, armOne zs 3] := rfl
      rw [ea]
      simp [armK, h1, e1, h]
end Go.Proofs.Ytloihffdolehhaa
