/- iface's short, few, small: walked. Conditions: the lists are there. -/
import Derived.Test.YtjanbpchedgoiaaIfA
namespace Go.Proofs.Ytjanbpchedgoiaa
open Go.RowKit
set_option linter.unusedVariables false
set_option linter.unusedSimpArgs false

theorem shortQ (s : ByteArray) (w : World) : Calls Try.prog 75 #[.string s] w fun e w' => e = .returned (.bool (decide ((s.size : Int) > 255))) ∧ Wr [] w w' := by
  go_enter Try.func75, Try.ntmps75
  go_wp2_with fail
  go_ret
  exact ⟨rfl, Wr.refl [] w⟩
theorem fewQ (n : Int) (w : World) : Calls Try.prog 78 #[.int .i64 n] w fun e w' => e = .returned (.bool (decide (n > 65535))) ∧ Wr [] w w' := by
  go_enter Try.func78, Try.ntmps78
  go_wp2_with fail
  go_ret
  exact ⟨rfl, Wr.refl [] w⟩
def smallN (n : Int) : Bool := decide (n < -2147483648) || decide (n > 2147483647)
theorem smallQ (n : Int) (w : World) : Calls Try.prog 81 #[.int .i64 n] w fun e w' => e = .returned (.bool (smallN n)) ∧ Wr [] w w' := by
  unfold smallN
  by_cases h : n < -2147483648
  · go_enter Try.func81, Try.ntmps81
    go_wp2_with fail
    go_ret
    exact ⟨by simp [h], Wr.refl [] w⟩
  · go_enter Try.func81, Try.ntmps81
    go_wp2_with fail
    go_ret
    exact ⟨by rw [show decide (n < -2147483648) = false from decide_eq_false (by omega), Bool.false_or]; try rfl, Wr.refl [] w⟩
theorem short_any (w : World) (A : Option Addr) (n c : Nat) (ev : Nat → ByteArray) (hcc : n ≤ c ∧ c ≤ maxLen) (hc : CellsAt w A n (fun i => .string (ev i))) :
    Calls Try.prog 54 #[.slice A n c] w fun e w' => e = .returned (.bool (!anyB n fun i => decide (((ev i).size : Int) > 255))) ∧ Wr [] w w' := by
  have h := has_short w A n c ev hcc hc (fun i => decide (((ev i).size : Int) > 255)) (fun i _ W _ => shortQ (ev i) W)
  go_enter Try.func54, Try.ntmps54
  go_wp2_with fail
  refine h.mono ?_
  rintro e w1 ⟨rfl, r1⟩
  go_wp2_with fail
  go_ret
  exact ⟨rfl, r1⟩
theorem few_any (w : World) (A : Option Addr) (n c : Nat) (ev : Nat → Int) (hcc : n ≤ c ∧ c ≤ maxLen) (hc : CellsAt w A n (fun i => .int .i64 (ev i))) :
    Calls Try.prog 56 #[.slice A n c] w fun e w' => e = .returned (.bool (!anyB n fun i => decide (ev i > 65535))) ∧ Wr [] w w' := by
  have h := has_few w A n c ev hcc hc (fun i => decide (ev i > 65535)) (fun i _ W _ => fewQ (ev i) W)
  go_enter Try.func56, Try.ntmps56
  go_wp2_with fail
  refine h.mono ?_
  rintro e w1 ⟨rfl, r1⟩
  go_wp2_with fail
  go_ret
  exact ⟨rfl, r1⟩
theorem small_any (w : World) (A : Option Addr) (n c : Nat) (ev : Nat → Int) (hcc : n ≤ c ∧ c ≤ maxLen) (hc : CellsAt w A n (fun i => .int .i64 (ev i))) :
    Calls Try.prog 60 #[.slice A n c] w fun e w' => e = .returned (.bool (!anyB n fun i => smallN (ev i))) ∧ Wr [] w w' := by
  have h := has_small w A n c ev hcc hc (fun i => smallN (ev i)) (fun i _ W _ => smallQ (ev i) W)
  go_enter Try.func60, Try.ntmps60
  go_wp2_with fail
  refine h.mono ?_
  rintro e w1 ⟨rfl, r1⟩
  go_wp2_with fail
  go_ret
  exact ⟨rfl, r1⟩
/-- Is it no number of a type, where so many stand behind those of the language? -/
def typN (nt : Nat) (n : Int) : Bool := decide (n < 0) || decide (n ≥ 10 + (nt : Int))
theorem typQ (n : Int) (pi : Nat) (A : Option Addr) (nt c : Nat) (hcc : nt ≤ c ∧ c ≤ maxLen) (w : World) (hc : w.cell? ⟨pi, 2, none⟩ = some (.slice A nt c)) (h63 : nt ≤ 1000000) :
    Calls Try.prog 59 #[.int .i64 n, .pointer (some ⟨pi, 0, none⟩)] w fun e w' => e = .returned (.bool (typN nt n)) ∧ Wr [] w w' := by
  unfold typN
  unfold maxLen at hcc
  have hw : wrap64 (10 + (nt : Int)) = 10 + (nt : Int) := by unfold wrap64; omega
  have hw2 : IntKind.i64.wrap (10 + (nt : Int)) = 10 + (nt : Int) := by rw [IntKind.wrap_i64]; omega
  by_cases h : n < 0
  · go_enter Try.func59, Try.ntmps59
    go_wp2_with fail
    go_ret
    exact ⟨by simp [h], Wr.refl [] w⟩
  · go_enter Try.func59, Try.ntmps59
    go_wp2_with fail
    go_ret
    exact ⟨by rw [show decide (n < 0) = false from decide_eq_false (by omega), Bool.false_or]; try rfl, Wr.refl [] w⟩
theorem typ_any (w : World) (A : Option Addr) (n c : Nat) (ev : Nat → Int) (hcc : n ≤ c ∧ c ≤ maxLen) (hc : CellsAt w A n (fun i => .int .i64 (ev i))) (pi : Nat) (At : Option Addr) (nt ct : Nat) (htt : nt ≤ ct ∧ ct ≤ maxLen) (hct : w.cell? ⟨pi, 2, none⟩ = some (.slice At nt ct)) (h63 : nt ≤ 1000000) :
    Calls Try.prog 57 #[.slice A n c, .pointer (some ⟨pi, 0, none⟩)] w fun e w' => e = .returned (.bool (!anyB n fun i => typN nt (ev i))) ∧ Wr [] w w' := by
  have h := has_typ w A n c ev hcc hc (fun i => typN nt (ev i)) pi (fun i _ W r => typQ (ev i) pi At nt ct htt W (r.cellOf hct (by simp)) h63)
  have hmf : ∀ (fn : Fn) (first cap : Array Value) (w : World), (Instr.makeFunc fn first cap).run Try.prog w = .ok (.func fn first cap) w := fun _ _ _ _ => rfl
  go_enter Try.func57, Try.ntmps57
  go_wp2_with fail
  refine h.mono ?_
  rintro e w1 ⟨rfl, r1⟩
  go_wp2_with fail
  go_ret
  exact ⟨rfl, r1⟩
end Go.Proofs.Ytjanbpchedgoiaa
