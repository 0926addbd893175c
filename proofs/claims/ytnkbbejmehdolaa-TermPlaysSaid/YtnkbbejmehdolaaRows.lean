/-
  No cell of these rows narrows 'for every input' (looked for: loops, veiled, ifaces, maps, wideKeys, modest, calm, conditions, laid).
  DERIVED. THE GIVEN ROWS OF THIS SEAT. 4 by the template 'for every input the law returns true; each argument reads behind the call as it read before'; 0 by the template 'total and deterministic' (their statements: YtnkbbejmehdolaaTotals.lean).
  GIVEN WITH THE SEED: the statements are not yours to turn. If you find one false, say at which input.
  Laid BY PROGRAM, IN A SANDBOX (cutbox-rows.mjs): the forced cells as the released guide's own fill.sh prints them over the translation 4b079ef2f3ec9b59… (all of the seat's roots in one cut). By AI agents, Wed Nov 11 2026. No macro, syntax, notation, axiom, sorry.
-/
import Derived.Test.YtnkbbejmehdolaaChecked
import GoSem.Claim
import GoSem.ClaimJoined
import GoSem.ClaimMapViews
import Derived.JoinedTies
import Derived.KernelRfl
namespace Go.Proofs.Ytnkbbejmehdolaa
/- THE CELL 'sum', in the pinned program and in every row, IS THE sha256 OF THE DUMP (.gsa) THAT YtnkbbejmehdolaaProg.lean LOADS. Nothing in Lean hashes anything: it is a label: what it is worth is what the hold of that sum in a sandbox is worth. -/
noncomputable def Try.pinned : Pinned := { name := "ytnkbbejmehdolaa", sum := "4b079ef2f3ec9b5983547b75ca486ef839673c239454b627a6aa21df2c84ab35", checked := Try.checked }
namespace Rows
def none {H : Type} : Left H := { results := [], args := [] }

/-- 'separatumlaw19.TermPlays': WHATEVER THE INPUT: true; the input reads as it did. -/
def termPlaysSpec : ChangeSpec := { name := "termPlays", fn := fun _ => fun
  | [d1, d2, d3] => { results := [.lit (.bool true)], args := [d1, d2, d3] }
  | _ => none }
def termPlaysRow : OpenClaim := { program := "ytnkbbejmehdolaa", sum := "4b079ef2f3ec9b5983547b75ca486ef839673c239454b627a6aa21df2c84ab35", func := "separatum/separatumlaw19.TermPlays", spec := "termPlays", apart := false }
def TermPlaysSaid : Prop := termPlaysRow.holds Try.pinned (OpenSpec.ofChange termPlaysSpec)

/-- ITS FALSE NEIGHBOUR: 'it returns false'. Refute it at one input. -/
def termPlaysWrong : ChangeSpec := { name := "termPlays", fn := fun _ => fun
  | [d1, d2, d3] => { results := [.lit (.bool false)], args := [d1, d2, d3] }
  | _ => none }
def TermPlaysWrongFalsely : Prop := termPlaysRow.holds Try.pinned (OpenSpec.ofChange termPlaysWrong)

/-- 'separatumlaw19.TermPieces': WHATEVER THE INPUT: true; the input reads as it did. -/
def termPiecesSpec : ChangeSpec := { name := "termPieces", fn := fun _ => fun
  | [d1, d2] => { results := [.lit (.bool true)], args := [d1, d2] }
  | _ => none }
def termPiecesRow : OpenClaim := { program := "ytnkbbejmehdolaa", sum := "4b079ef2f3ec9b5983547b75ca486ef839673c239454b627a6aa21df2c84ab35", func := "separatum/separatumlaw19.TermPieces", spec := "termPieces", apart := false }
def TermPiecesSaid : Prop := termPiecesRow.holds Try.pinned (OpenSpec.ofChange termPiecesSpec)

/-- ITS FALSE NEIGHBOUR: 'it returns false'. Refute it at one input. -/
def termPiecesWrong : ChangeSpec := { name := "termPieces", fn := fun _ => fun
  | [d1, d2] => { results := [.lit (.bool false)], args := [d1, d2] }
  | _ => none }
def TermPiecesWrongFalsely : Prop := termPiecesRow.holds Try.pinned (OpenSpec.ofChange termPiecesWrong)

/-- 'separatumlaw19.TermEnds': WHATEVER THE INPUT: true; the input reads as it did. -/
def termEndsSpec : ChangeSpec := { name := "termEnds", fn := fun _ => fun
  | [d] => { results := [.lit (.bool true)], args := [d] }
  | _ => none }
def termEndsRow : OpenClaim := { program := "ytnkbbejmehdolaa", sum := "4b079ef2f3ec9b5983547b75ca486ef839673c239454b627a6aa21df2c84ab35", func := "separatum/separatumlaw19.TermEnds", spec := "termEnds", apart := false }
def TermEndsSaid : Prop := termEndsRow.holds Try.pinned (OpenSpec.ofChange termEndsSpec)

/-- ITS FALSE NEIGHBOUR: 'it returns false'. Refute it at one input. -/
def termEndsWrong : ChangeSpec := { name := "termEnds", fn := fun _ => fun
  | [d] => { results := [.lit (.bool false)], args := [d] }
  | _ => none }
def TermEndsWrongFalsely : Prop := termEndsRow.holds Try.pinned (OpenSpec.ofChange termEndsWrong)

/-- 'separatumlaw19.TermNil': WHATEVER THE INPUT: true; the input reads as it did. -/
def termNilSpec : ChangeSpec := { name := "termNil", fn := fun _ => fun
  | [d] => { results := [.lit (.bool true)], args := [d] }
  | _ => none }
def termNilRow : OpenClaim := { program := "ytnkbbejmehdolaa", sum := "4b079ef2f3ec9b5983547b75ca486ef839673c239454b627a6aa21df2c84ab35", func := "separatum/separatumlaw19.TermNil", spec := "termNil", apart := false }
def TermNilSaid : Prop := termNilRow.holds Try.pinned (OpenSpec.ofChange termNilSpec)

/-- ITS FALSE NEIGHBOUR: 'it returns false'. Refute it at one input. -/
def termNilWrong : ChangeSpec := { name := "termNil", fn := fun _ => fun
  | [d] => { results := [.lit (.bool false)], args := [d] }
  | _ => none }
def TermNilWrongFalsely : Prop := termNilRow.holds Try.pinned (OpenSpec.ofChange termNilWrong)

/- THE SECOND FORM. 'bulk': how many values and letters a reading holds, each counted each time it is reached (what is shared counts as often as it is met; a slice's spare places count too). A statement '..UptoSaid' is the law's where the arguments, and the package variables that the reading takes, are together of bulk at most 1048576: NARROWER than '..Said'. Prove '..Said' where nothing that the law and all that it calls make is longer than what came in: it says more and counts as full. Else prove '..UptoSaid'. A law counts once. -/
mutual
def uptoBulk {H : Type} : DataW H → Nat
  | .lit (.string bytes) => bytes.length + 1
  | .lit _ => 1
  | .nil => 1
  | .ptr d => uptoBulk d + 1
  | .slice elems spare => uptoBulkAll elems + uptoBulkAll spare + 1
  | .agg parts => uptoBulkAll parts + 1
  | .iface _ d => uptoBulk d + 1
  | .map entries => uptoBulkEntries entries + 1
  | .held _ => 1
def uptoBulkAll {H : Type} : List (DataW H) → Nat
  | [] => 0
  | d :: r => uptoBulk d + uptoBulkAll r
def uptoBulkEntries {H : Type} : List (Lit × DataW H) → Nat
  | [] => 0
  | x :: r => uptoBulkEntry x + uptoBulkEntries r
def uptoBulkEntry {H : Type} : Lit × DataW H → Nat
  | (.string bytes, d) => bytes.length + uptoBulk d + 1
  | (_, d) => uptoBulk d + 1
 end
def uptoSmall : (H : Type) → List (DataW H) → Bool := fun _ ds => decide (uptoBulkAll ds ≤ 1048576)
def OpenSpec.upto (s : _root_.Go.ChangeSpec) : _root_.Go.OpenSpec := { _root_.Go.OpenSpec.ofChange s with cond := some uptoSmall }

/-- 'separatumlaw19.TermPlays', WHERE WHAT IT READS IS OF BULK AT MOST 1048576: true; the input reads as it did. -/
def termPlaysUptoRow : OpenClaim := { program := "ytnkbbejmehdolaa", sum := "4b079ef2f3ec9b5983547b75ca486ef839673c239454b627a6aa21df2c84ab35", func := "separatum/separatumlaw19.TermPlays", spec := "termPlays", apart := false, narrowed := true }
def TermPlaysUptoSaid : Prop := termPlaysUptoRow.holds Try.pinned (OpenSpec.upto termPlaysSpec)

/-- 'separatumlaw19.TermPieces', WHERE WHAT IT READS IS OF BULK AT MOST 1048576: true; the input reads as it did. -/
def termPiecesUptoRow : OpenClaim := { program := "ytnkbbejmehdolaa", sum := "4b079ef2f3ec9b5983547b75ca486ef839673c239454b627a6aa21df2c84ab35", func := "separatum/separatumlaw19.TermPieces", spec := "termPieces", apart := false, narrowed := true }
def TermPiecesUptoSaid : Prop := termPiecesUptoRow.holds Try.pinned (OpenSpec.upto termPiecesSpec)

/-- 'separatumlaw19.TermEnds', WHERE WHAT IT READS IS OF BULK AT MOST 1048576: true; the input reads as it did. -/
def termEndsUptoRow : OpenClaim := { program := "ytnkbbejmehdolaa", sum := "4b079ef2f3ec9b5983547b75ca486ef839673c239454b627a6aa21df2c84ab35", func := "separatum/separatumlaw19.TermEnds", spec := "termEnds", apart := false, narrowed := true }
def TermEndsUptoSaid : Prop := termEndsUptoRow.holds Try.pinned (OpenSpec.upto termEndsSpec)

/-- 'separatumlaw19.TermNil', WHERE WHAT IT READS IS OF BULK AT MOST 1048576: true; the input reads as it did. -/
def termNilUptoRow : OpenClaim := { program := "ytnkbbejmehdolaa", sum := "4b079ef2f3ec9b5983547b75ca486ef839673c239454b627a6aa21df2c84ab35", func := "separatum/separatumlaw19.TermNil", spec := "termNil", apart := false, narrowed := true }
def TermNilUptoSaid : Prop := termNilUptoRow.holds Try.pinned (OpenSpec.upto termNilSpec)

end Rows
end Go.Proofs.Ytnkbbejmehdolaa
