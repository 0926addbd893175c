/- The memory's struct: its zero value, word by word, told by the kernel; what 'build' makes of it. No conditions. -/
import Derived.Test.YtofkjcdpnkfcnaaCom
namespace Go.Proofs.Ytofkjcdpnkfcnaa
open Go.RowKit
set_option linter.unusedVariables false

def isZero16 : Value → Bool
  | .int .u16 n => n == 0
  | _ => false

/-- What is left of a list behind n zero words. -/
def stripZeros (n : Nat) (l : List Value) : Option (List Value) :=
  Nat.rec (motive := fun _ => List Value → Option (List Value)) (fun l => some l) (fun _ ih l => match l with | [] => none | v :: r => bif isZero16 v then ih r else none) n l

theorem stripZeros_eq : ∀ (n : Nat) (l r : List Value), stripZeros n l = some r → l = List.replicate n (.int .u16 0) ++ r
  | 0, l, r, h => by
    have h' : some l = some r := h
    simpa using h'
  | n + 1, [], r, h => by
    have h' : (none : Option (List Value)) = some r := h
    cases h'
  | n + 1, v :: l, r, h => by
    have h' : (bif isZero16 v then stripZeros n l else none) = some r := h
    cases hz : isZero16 v with
    | false => rw [hz] at h'; cases h'
    | true =>
      rw [hz] at h'
      have ih := stripZeros_eq n l r h'
      have hv : v = .int .u16 0 := by
        unfold isZero16 at hz
        split at hz
        · rw [beq_iff_eq] at hz; rw [hz]
        · cases hz
      rw [hv, ih]; rfl

def zeroList (i : TypeInfo) : List Value := match i.zero with | some v => v.cells.toList | none => []
theorem mem_zero : stripZeros 65535 (zeroList Try.t52) = some [.int .i64 0, .bool false] := by kernel_rfl
end Go.Proofs.Ytofkjcdpnkfcnaa
