/-
  No cell of these rows narrows 'for every input' (looked for: loops, veiled, ifaces, maps, wideKeys, modest, calm, conditions, laid).
  DERIVED. THE GIVEN ROWS OF THIS SEAT. 5 by the template 'for every input the law returns true; each argument reads behind the call as it read before'; 0 by the template 'total and deterministic' (their statements: YtpfidbpbomamjaaTotals.lean).
  GIVEN WITH THE SEED: the statements are not yours to turn. If you find one false, say at which input.
  Laid BY PROGRAM, IN A SANDBOX (cutbox-rows.mjs): the forced cells as the released guide's own fill.sh prints them over the translation 62cd4fc0c624e9a4… (all of the seat's roots in one cut). By AI agents, Wed Nov 11 2026. No macro, syntax, notation, axiom, sorry.
-/
import Derived.Test.YtpfidbpbomamjaaChecked
import GoSem.Claim
import GoSem.ClaimJoined
import GoSem.ClaimMapViews
import Derived.JoinedTies
import Derived.KernelRfl
namespace Go.Proofs.Ytpfidbpbomamjaa
/- THE CELL 'sum', in the pinned program and in every row, IS THE sha256 OF THE DUMP (.gsa) THAT YtpfidbpbomamjaaProg.lean LOADS. Nothing in Lean hashes anything: it is a label: what it is worth is what the hold of that sum in a sandbox is worth. -/
noncomputable def Try.pinned : Pinned := { name := "ytpfidbpbomamjaa", sum := "62cd4fc0c624e9a42d523678c6b8f9d1a288f319e49ed5a2688d58c1ba9407f5", checked := Try.checked }
namespace Rows
def none {H : Type} : Left H := { results := [], args := [] }

/-- 'separatumlaw10.KonstOrder': WHATEVER THE INPUT: true; the input reads as it did. -/
def konstOrderSpec : ChangeSpec := { name := "konstOrder", fn := fun _ => fun
  | [d1, d2] => { results := [.lit (.bool true)], args := [d1, d2] }
  | _ => none }
def konstOrderRow : OpenClaim := { program := "ytpfidbpbomamjaa", sum := "62cd4fc0c624e9a42d523678c6b8f9d1a288f319e49ed5a2688d58c1ba9407f5", func := "separatum/separatumlaw10.KonstOrder", spec := "konstOrder", unfollowed := true, recurses := true, apart := false }
def KonstOrderSaid : Prop := konstOrderRow.holds Try.pinned (OpenSpec.ofChange konstOrderSpec)

/-- ITS FALSE NEIGHBOUR: 'it returns false'. Refute it at one input. -/
def konstOrderWrong : ChangeSpec := { name := "konstOrder", fn := fun _ => fun
  | [d1, d2] => { results := [.lit (.bool false)], args := [d1, d2] }
  | _ => none }
def KonstOrderWrongFalsely : Prop := konstOrderRow.holds Try.pinned (OpenSpec.ofChange konstOrderWrong)

/-- 'separatumlaw10.KonstBack': WHATEVER THE INPUT: true; the input reads as it did. -/
def konstBackSpec : ChangeSpec := { name := "konstBack", fn := fun _ => fun
  | [d1, d2, d3, d4] => { results := [.lit (.bool true)], args := [d1, d2, d3, d4] }
  | _ => none }
def konstBackRow : OpenClaim := { program := "ytpfidbpbomamjaa", sum := "62cd4fc0c624e9a42d523678c6b8f9d1a288f319e49ed5a2688d58c1ba9407f5", func := "separatum/separatumlaw10.KonstBack", spec := "konstBack", unfollowed := true, recurses := true, apart := false }
def KonstBackSaid : Prop := konstBackRow.holds Try.pinned (OpenSpec.ofChange konstBackSpec)

/-- ITS FALSE NEIGHBOUR: 'it returns false'. Refute it at one input. -/
def konstBackWrong : ChangeSpec := { name := "konstBack", fn := fun _ => fun
  | [d1, d2, d3, d4] => { results := [.lit (.bool false)], args := [d1, d2, d3, d4] }
  | _ => none }
def KonstBackWrongFalsely : Prop := konstBackRow.holds Try.pinned (OpenSpec.ofChange konstBackWrong)

/-- 'separatumlaw10.KonstIn': WHATEVER THE INPUT: true; the input reads as it did. -/
def konstInSpec : ChangeSpec := { name := "konstIn", fn := fun _ => fun
  | [d1, d2] => { results := [.lit (.bool true)], args := [d1, d2] }
  | _ => none }
def konstInRow : OpenClaim := { program := "ytpfidbpbomamjaa", sum := "62cd4fc0c624e9a42d523678c6b8f9d1a288f319e49ed5a2688d58c1ba9407f5", func := "separatum/separatumlaw10.KonstIn", spec := "konstIn", unfollowed := true, recurses := true, apart := false }
def KonstInSaid : Prop := konstInRow.holds Try.pinned (OpenSpec.ofChange konstInSpec)

/-- ITS FALSE NEIGHBOUR: 'it returns false'. Refute it at one input. -/
def konstInWrong : ChangeSpec := { name := "konstIn", fn := fun _ => fun
  | [d1, d2] => { results := [.lit (.bool false)], args := [d1, d2] }
  | _ => none }
def KonstInWrongFalsely : Prop := konstInRow.holds Try.pinned (OpenSpec.ofChange konstInWrong)

/-- 'separatumlaw10.KonstSets': WHATEVER THE INPUT: true; the input reads as it did. -/
def konstSetsSpec : ChangeSpec := { name := "konstSets", fn := fun _ => fun
  | [d1, d2, d3] => { results := [.lit (.bool true)], args := [d1, d2, d3] }
  | _ => none }
def konstSetsRow : OpenClaim := { program := "ytpfidbpbomamjaa", sum := "62cd4fc0c624e9a42d523678c6b8f9d1a288f319e49ed5a2688d58c1ba9407f5", func := "separatum/separatumlaw10.KonstSets", spec := "konstSets", unfollowed := true, recurses := true, apart := false }
def KonstSetsSaid : Prop := konstSetsRow.holds Try.pinned (OpenSpec.ofChange konstSetsSpec)

/-- ITS FALSE NEIGHBOUR: 'it returns false'. Refute it at one input. -/
def konstSetsWrong : ChangeSpec := { name := "konstSets", fn := fun _ => fun
  | [d1, d2, d3] => { results := [.lit (.bool false)], args := [d1, d2, d3] }
  | _ => none }
def KonstSetsWrongFalsely : Prop := konstSetsRow.holds Try.pinned (OpenSpec.ofChange konstSetsWrong)

/-- 'separatumlaw10.KonstDoes': WHATEVER THE INPUT: true; the input reads as it did. -/
def konstDoesSpec : ChangeSpec := { name := "konstDoes", fn := fun _ => fun
  | [d1, d2, d3] => { results := [.lit (.bool true)], args := [d1, d2, d3] }
  | _ => none }
def konstDoesRow : OpenClaim := { program := "ytpfidbpbomamjaa", sum := "62cd4fc0c624e9a42d523678c6b8f9d1a288f319e49ed5a2688d58c1ba9407f5", func := "separatum/separatumlaw10.KonstDoes", spec := "konstDoes", unfollowed := true, recurses := true, apart := false }
def KonstDoesSaid : Prop := konstDoesRow.holds Try.pinned (OpenSpec.ofChange konstDoesSpec)

/-- ITS FALSE NEIGHBOUR: 'it returns false'. Refute it at one input. -/
def konstDoesWrong : ChangeSpec := { name := "konstDoes", fn := fun _ => fun
  | [d1, d2, d3] => { results := [.lit (.bool false)], args := [d1, d2, d3] }
  | _ => none }
def KonstDoesWrongFalsely : Prop := konstDoesRow.holds Try.pinned (OpenSpec.ofChange konstDoesWrong)

/- THE SECOND FORM. 'bulk': how many values and letters a reading holds, each counted each time it is reached (what is shared counts as often as it is met; a slice's spare places count too). A statement '..UptoSaid' is the law's where the arguments, and the package variables that the reading takes, are together of bulk at most 1048576: NARROWER than '..Said'. Prove '..Said' where nothing that the law and all that it calls make is longer than what came in: it says more and counts as full. Else prove '..UptoSaid'. A law counts once. -/
mutual
def uptoBulk {H : Type} : DataW H → Nat
  | .lit (.string bytes) => bytes.length + 1
  | .lit _ => 1
  | .nil => 1
  | .ptr d => uptoBulk d + 1
  | .slice elems spare => uptoBulkAll elems + uptoBulkAll spare + 1
  | .agg parts => uptoBulkAll parts + 1
  | .iface _ d => uptoBulk d + 1
  | .map entries => uptoBulkEntries entries + 1
  | .held _ => 1
def uptoBulkAll {H : Type} : List (DataW H) → Nat
  | [] => 0
  | d :: r => uptoBulk d + uptoBulkAll r
def uptoBulkEntries {H : Type} : List (Lit × DataW H) → Nat
  | [] => 0
  | x :: r => uptoBulkEntry x + uptoBulkEntries r
def uptoBulkEntry {H : Type} : Lit × DataW H → Nat
  | (.string bytes, d) => bytes.length + uptoBulk d + 1
  | (_, d) => uptoBulk d + 1
 end
def uptoSmall : (H : Type) → List (DataW H) → Bool := fun _ ds => decide (uptoBulkAll ds ≤ 1048576)
def OpenSpec.upto (s : _root_.Go.ChangeSpec) : _root_.Go.OpenSpec := { _root_.Go.OpenSpec.ofChange s with cond := some uptoSmall }

/-- 'separatumlaw10.KonstOrder', WHERE WHAT IT READS IS OF BULK AT MOST 1048576: true; the input reads as it did. -/
def konstOrderUptoRow : OpenClaim := { program := "ytpfidbpbomamjaa", sum := "62cd4fc0c624e9a42d523678c6b8f9d1a288f319e49ed5a2688d58c1ba9407f5", func := "separatum/separatumlaw10.KonstOrder", spec := "konstOrder", unfollowed := true, recurses := true, apart := false, narrowed := true }
def KonstOrderUptoSaid : Prop := konstOrderUptoRow.holds Try.pinned (OpenSpec.upto konstOrderSpec)

/-- 'separatumlaw10.KonstBack', WHERE WHAT IT READS IS OF BULK AT MOST 1048576: true; the input reads as it did. -/
def konstBackUptoRow : OpenClaim := { program := "ytpfidbpbomamjaa", sum := "62cd4fc0c624e9a42d523678c6b8f9d1a288f319e49ed5a2688d58c1ba9407f5", func := "separatum/separatumlaw10.KonstBack", spec := "konstBack", unfollowed := true, recurses := true, apart := false, narrowed := true }
def KonstBackUptoSaid : Prop := konstBackUptoRow.holds Try.pinned (OpenSpec.upto konstBackSpec)

/-- 'separatumlaw10.KonstIn', WHERE WHAT IT READS IS OF BULK AT MOST 1048576: true; the input reads as it did. -/
def konstInUptoRow : OpenClaim := { program := "ytpfidbpbomamjaa", sum := "62cd4fc0c624e9a42d523678c6b8f9d1a288f319e49ed5a2688d58c1ba9407f5", func := "separatum/separatumlaw10.KonstIn", spec := "konstIn", unfollowed := true, recurses := true, apart := false, narrowed := true }
def KonstInUptoSaid : Prop := konstInUptoRow.holds Try.pinned (OpenSpec.upto konstInSpec)

/-- 'separatumlaw10.KonstSets', WHERE WHAT IT READS IS OF BULK AT MOST 1048576: true; the input reads as it did. -/
def konstSetsUptoRow : OpenClaim := { program := "ytpfidbpbomamjaa", sum := "62cd4fc0c624e9a42d523678c6b8f9d1a288f319e49ed5a2688d58c1ba9407f5", func := "separatum/separatumlaw10.KonstSets", spec := "konstSets", unfollowed := true, recurses := true, apart := false, narrowed := true }
def KonstSetsUptoSaid : Prop := konstSetsUptoRow.holds Try.pinned (OpenSpec.upto konstSetsSpec)

/-- 'separatumlaw10.KonstDoes', WHERE WHAT IT READS IS OF BULK AT MOST 1048576: true; the input reads as it did. -/
def konstDoesUptoRow : OpenClaim := { program := "ytpfidbpbomamjaa", sum := "62cd4fc0c624e9a42d523678c6b8f9d1a288f319e49ed5a2688d58c1ba9407f5", func := "separatum/separatumlaw10.KonstDoes", spec := "konstDoes", unfollowed := true, recurses := true, apart := false, narrowed := true }
def KonstDoesUptoSaid : Prop := konstDoesUptoRow.holds Try.pinned (OpenSpec.upto konstDoesSpec)

end Rows
end Go.Proofs.Ytpfidbpbomamjaa
