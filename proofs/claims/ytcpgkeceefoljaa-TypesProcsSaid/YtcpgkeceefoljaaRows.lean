/-
  No cell of these rows narrows 'for every input' (looked for: loops, veiled, ifaces, maps, wideKeys, modest, calm, conditions, laid).
  DERIVED. THE GIVEN ROWS OF THIS SEAT. 3 by the template 'for every input the law returns true; each argument reads behind the call as it read before'; 0 by the template 'total and deterministic' (their statements: YtcpgkeceefoljaaTotals.lean).
  GIVEN WITH THE SEED: the statements are not yours to turn. If you find one false, say at which input.
  Laid BY PROGRAM, IN A SANDBOX (cutbox-rows.mjs): the forced cells as the released guide's own fill.sh prints them over the translation bdd80224b7389b07… (all of the seat's roots in one cut). By AI agents, Wed Nov 11 2026. No macro, syntax, notation, axiom, sorry.
-/
import Derived.Test.YtcpgkeceefoljaaChecked
import GoSem.Claim
import GoSem.ClaimJoined
import GoSem.ClaimMapViews
import Derived.JoinedTies
import Derived.KernelRfl
namespace Go.Proofs.Ytcpgkeceefoljaa
/- THE CELL 'sum', in the pinned program and in every row, IS THE sha256 OF THE DUMP (.gsa) THAT YtcpgkeceefoljaaProg.lean LOADS. Nothing in Lean hashes anything: it is a label: what it is worth is what the hold of that sum in a sandbox is worth. -/
noncomputable def Try.pinned : Pinned := { name := "ytcpgkeceefoljaa", sum := "bdd80224b7389b07ea773b2c51a0ce224175351f6705cc9bfc60117a0d3626d1", checked := Try.checked }
namespace Rows
def none {H : Type} : Left H := { results := [], args := [] }

/-- 'separatumlaw11.TypesProcs': WHATEVER THE INPUT: true; the input reads as it did. -/
def typesProcsSpec : ChangeSpec := { name := "typesProcs", fn := fun _ => fun
  | [d1, d2, d3] => { results := [.lit (.bool true)], args := [d1, d2, d3] }
  | _ => none }
def typesProcsRow : OpenClaim := { program := "ytcpgkeceefoljaa", sum := "bdd80224b7389b07ea773b2c51a0ce224175351f6705cc9bfc60117a0d3626d1", func := "separatum/separatumlaw11.TypesProcs", spec := "typesProcs", unfollowed := true, recurses := true, plainKeys := false, apart := false }
def TypesProcsSaid : Prop := typesProcsRow.holds Try.pinned (OpenSpec.ofChange typesProcsSpec)

/-- ITS FALSE NEIGHBOUR: 'it returns false'. Refute it at one input. -/
def typesProcsWrong : ChangeSpec := { name := "typesProcs", fn := fun _ => fun
  | [d1, d2, d3] => { results := [.lit (.bool false)], args := [d1, d2, d3] }
  | _ => none }
def TypesProcsWrongFalsely : Prop := typesProcsRow.holds Try.pinned (OpenSpec.ofChange typesProcsWrong)

/-- 'separatumlaw11.TypesTell': WHATEVER THE INPUT: true; the input reads as it did. -/
def typesTellSpec : ChangeSpec := { name := "typesTell", fn := fun _ => fun
  | [d1, d2] => { results := [.lit (.bool true)], args := [d1, d2] }
  | _ => none }
def typesTellRow : OpenClaim := { program := "ytcpgkeceefoljaa", sum := "bdd80224b7389b07ea773b2c51a0ce224175351f6705cc9bfc60117a0d3626d1", func := "separatum/separatumlaw11.TypesTell", spec := "typesTell", unfollowed := true, recurses := true, plainKeys := false, apart := false }
def TypesTellSaid : Prop := typesTellRow.holds Try.pinned (OpenSpec.ofChange typesTellSpec)

/-- ITS FALSE NEIGHBOUR: 'it returns false'. Refute it at one input. -/
def typesTellWrong : ChangeSpec := { name := "typesTell", fn := fun _ => fun
  | [d1, d2] => { results := [.lit (.bool false)], args := [d1, d2] }
  | _ => none }
def TypesTellWrongFalsely : Prop := typesTellRow.holds Try.pinned (OpenSpec.ofChange typesTellWrong)

/-- 'separatumlaw11.TypesCopies': WHATEVER THE INPUT: true; the input reads as it did. -/
def typesCopiesSpec : ChangeSpec := { name := "typesCopies", fn := fun _ => fun
  | [d1, d2] => { results := [.lit (.bool true)], args := [d1, d2] }
  | _ => none }
def typesCopiesRow : OpenClaim := { program := "ytcpgkeceefoljaa", sum := "bdd80224b7389b07ea773b2c51a0ce224175351f6705cc9bfc60117a0d3626d1", func := "separatum/separatumlaw11.TypesCopies", spec := "typesCopies", unfollowed := true, recurses := true, plainKeys := false, apart := false }
def TypesCopiesSaid : Prop := typesCopiesRow.holds Try.pinned (OpenSpec.ofChange typesCopiesSpec)

/-- ITS FALSE NEIGHBOUR: 'it returns false'. Refute it at one input. -/
def typesCopiesWrong : ChangeSpec := { name := "typesCopies", fn := fun _ => fun
  | [d1, d2] => { results := [.lit (.bool false)], args := [d1, d2] }
  | _ => none }
def TypesCopiesWrongFalsely : Prop := typesCopiesRow.holds Try.pinned (OpenSpec.ofChange typesCopiesWrong)

/- THE SECOND FORM. 'bulk': how many values and letters a reading holds, each counted each time it is reached (what is shared counts as often as it is met; a slice's spare places count too). A statement '..UptoSaid' is the law's where the arguments, and the package variables that the reading takes, are together of bulk at most 1048576: NARROWER than '..Said'. Prove '..Said' where nothing that the law and all that it calls make is longer than what came in: it says more and counts as full. Else prove '..UptoSaid'. A law counts once. -/
mutual
def uptoBulk {H : Type} : DataW H → Nat
  | .lit (.string bytes) => bytes.length + 1
  | .lit _ => 1
  | .nil => 1
  | .ptr d => uptoBulk d + 1
  | .slice elems spare => uptoBulkAll elems + uptoBulkAll spare + 1
  | .agg parts => uptoBulkAll parts + 1
  | .iface _ d => uptoBulk d + 1
  | .map entries => uptoBulkEntries entries + 1
  | .held _ => 1
def uptoBulkAll {H : Type} : List (DataW H) → Nat
  | [] => 0
  | d :: r => uptoBulk d + uptoBulkAll r
def uptoBulkEntries {H : Type} : List (Lit × DataW H) → Nat
  | [] => 0
  | x :: r => uptoBulkEntry x + uptoBulkEntries r
def uptoBulkEntry {H : Type} : Lit × DataW H → Nat
  | (.string bytes, d) => bytes.length + uptoBulk d + 1
  | (_, d) => uptoBulk d + 1
 end
def uptoSmall : (H : Type) → List (DataW H) → Bool := fun _ ds => decide (uptoBulkAll ds ≤ 1048576)
def OpenSpec.upto (s : _root_.Go.ChangeSpec) : _root_.Go.OpenSpec := { _root_.Go.OpenSpec.ofChange s with cond := some uptoSmall }

/-- 'separatumlaw11.TypesProcs', WHERE WHAT IT READS IS OF BULK AT MOST 1048576: true; the input reads as it did. -/
def typesProcsUptoRow : OpenClaim := { program := "ytcpgkeceefoljaa", sum := "bdd80224b7389b07ea773b2c51a0ce224175351f6705cc9bfc60117a0d3626d1", func := "separatum/separatumlaw11.TypesProcs", spec := "typesProcs", unfollowed := true, recurses := true, plainKeys := false, apart := false, narrowed := true }
def TypesProcsUptoSaid : Prop := typesProcsUptoRow.holds Try.pinned (OpenSpec.upto typesProcsSpec)

/-- 'separatumlaw11.TypesTell', WHERE WHAT IT READS IS OF BULK AT MOST 1048576: true; the input reads as it did. -/
def typesTellUptoRow : OpenClaim := { program := "ytcpgkeceefoljaa", sum := "bdd80224b7389b07ea773b2c51a0ce224175351f6705cc9bfc60117a0d3626d1", func := "separatum/separatumlaw11.TypesTell", spec := "typesTell", unfollowed := true, recurses := true, plainKeys := false, apart := false, narrowed := true }
def TypesTellUptoSaid : Prop := typesTellUptoRow.holds Try.pinned (OpenSpec.upto typesTellSpec)

/-- 'separatumlaw11.TypesCopies', WHERE WHAT IT READS IS OF BULK AT MOST 1048576: true; the input reads as it did. -/
def typesCopiesUptoRow : OpenClaim := { program := "ytcpgkeceefoljaa", sum := "bdd80224b7389b07ea773b2c51a0ce224175351f6705cc9bfc60117a0d3626d1", func := "separatum/separatumlaw11.TypesCopies", spec := "typesCopies", unfollowed := true, recurses := true, plainKeys := false, apart := false, narrowed := true }
def TypesCopiesUptoSaid : Prop := typesCopiesUptoRow.holds Try.pinned (OpenSpec.upto typesCopiesSpec)

end Rows
end Go.Proofs.Ytcpgkeceefoljaa
