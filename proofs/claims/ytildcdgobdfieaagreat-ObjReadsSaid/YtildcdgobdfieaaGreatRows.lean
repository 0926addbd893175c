/-
  No cell of these rows narrows 'for every input' (looked for: loops, veiled, ifaces, maps, wideKeys, modest, calm, conditions, laid).
  DERIVED. THE GIVEN ROWS OF THIS SEAT. 5 by the template 'for every input the law returns true; each argument reads behind the call as it read before'; 0 by the template 'total and deterministic' (their statements: YtildcdgobdfieaaGreatTotals.lean).
  GIVEN WITH THE SEED: the statements are not yours to turn. If you find one false, say at which input.
  Laid BY PROGRAM, IN A SANDBOX (cutbox-rows.mjs): the forced cells as the released guide's own fill.sh prints them over the translation ca44133ff254dd25… (all of the seat's roots in one cut). By AI agents, Wed Nov 11 2026. No macro, syntax, notation, axiom, sorry.
-/
import Derived.Test.YtildcdgobdfieaaGreatChecked
import GoSem.Claim
import GoSem.ClaimJoined
import GoSem.ClaimMapViews
import Derived.JoinedTies
import Derived.KernelRfl
namespace Go.Proofs.YtildcdgobdfieaaGreat
/- THE CELL 'sum', in the pinned program and in every row, IS THE sha256 OF THE DUMP (.gsa) THAT YtildcdgobdfieaaGreatProg.lean LOADS. Nothing in Lean hashes anything: it is a label: what it is worth is what the hold of that sum in a sandbox is worth. -/
noncomputable def Tryz.pinned : Pinned := { name := "ytildcdgobdfieaagreat", sum := "ca44133ff254dd254ea7c785ab6a0d6cf77bb273f88c3a2b660b73e56220a458", checked := Tryz.checked }
namespace Rows
def none {H : Type} : Left H := { results := [], args := [] }

/-- 'separatumlaw21.ObjTells': WHATEVER THE INPUT: true; the input reads as it did. -/
def objTellsSpec : ChangeSpec := { name := "objTells", fn := fun _ => fun
  | [d1, d2] => { results := [.lit (.bool true)], args := [d1, d2] }
  | _ => none }
def objTellsRow : OpenClaim := { program := "ytildcdgobdfieaagreat", sum := "ca44133ff254dd254ea7c785ab6a0d6cf77bb273f88c3a2b660b73e56220a458", func := "separatum/separatumlaw21.ObjTells", spec := "objTells", inPlace := ["internal/abi.NoEscape"], unfollowed := true, recurses := true, apart := false }
def ObjTellsSaid : Prop := objTellsRow.holds Tryz.pinned (OpenSpec.ofChange objTellsSpec)

/-- ITS FALSE NEIGHBOUR: 'it returns false'. Refute it at one input. -/
def objTellsWrong : ChangeSpec := { name := "objTells", fn := fun _ => fun
  | [d1, d2] => { results := [.lit (.bool false)], args := [d1, d2] }
  | _ => none }
def ObjTellsWrongFalsely : Prop := objTellsRow.holds Tryz.pinned (OpenSpec.ofChange objTellsWrong)

/-- 'separatumlaw21.ObjReads': WHATEVER THE INPUT: true; the input reads as it did. -/
def objReadsSpec : ChangeSpec := { name := "objReads", fn := fun _ => fun
  | [d1, d2] => { results := [.lit (.bool true)], args := [d1, d2] }
  | _ => none }
def objReadsRow : OpenClaim := { program := "ytildcdgobdfieaagreat", sum := "ca44133ff254dd254ea7c785ab6a0d6cf77bb273f88c3a2b660b73e56220a458", func := "separatum/separatumlaw21.ObjReads", spec := "objReads", inPlace := ["internal/abi.NoEscape"], unfollowed := true, recurses := true, apart := false }
def ObjReadsSaid : Prop := objReadsRow.holds Tryz.pinned (OpenSpec.ofChange objReadsSpec)

/-- ITS FALSE NEIGHBOUR: 'it returns false'. Refute it at one input. -/
def objReadsWrong : ChangeSpec := { name := "objReads", fn := fun _ => fun
  | [d1, d2] => { results := [.lit (.bool false)], args := [d1, d2] }
  | _ => none }
def ObjReadsWrongFalsely : Prop := objReadsRow.holds Tryz.pinned (OpenSpec.ofChange objReadsWrong)

/-- 'separatumlaw21.ObjBack': WHATEVER THE INPUT: true; the input reads as it did. -/
def objBackSpec : ChangeSpec := { name := "objBack", fn := fun _ => fun
  | [d1, d2, d3, d4, d5] => { results := [.lit (.bool true)], args := [d1, d2, d3, d4, d5] }
  | _ => none }
def objBackRow : OpenClaim := { program := "ytildcdgobdfieaagreat", sum := "ca44133ff254dd254ea7c785ab6a0d6cf77bb273f88c3a2b660b73e56220a458", func := "separatum/separatumlaw21.ObjBack", spec := "objBack", inPlace := ["internal/abi.NoEscape"], unfollowed := true, recurses := true, apart := false }
def ObjBackSaid : Prop := objBackRow.holds Tryz.pinned (OpenSpec.ofChange objBackSpec)

/-- ITS FALSE NEIGHBOUR: 'it returns false'. Refute it at one input. -/
def objBackWrong : ChangeSpec := { name := "objBack", fn := fun _ => fun
  | [d1, d2, d3, d4, d5] => { results := [.lit (.bool false)], args := [d1, d2, d3, d4, d5] }
  | _ => none }
def ObjBackWrongFalsely : Prop := objBackRow.holds Tryz.pinned (OpenSpec.ofChange objBackWrong)

/-- 'separatumlaw21.ObjLong': WHATEVER THE INPUT: true; the input reads as it did. -/
def objLongSpec : ChangeSpec := { name := "objLong", fn := fun _ => fun
  | [d] => { results := [.lit (.bool true)], args := [d] }
  | _ => none }
def objLongRow : OpenClaim := { program := "ytildcdgobdfieaagreat", sum := "ca44133ff254dd254ea7c785ab6a0d6cf77bb273f88c3a2b660b73e56220a458", func := "separatum/separatumlaw21.ObjLong", spec := "objLong", inPlace := ["internal/abi.NoEscape"], unfollowed := true, recurses := true, apart := false }
def ObjLongSaid : Prop := objLongRow.holds Tryz.pinned (OpenSpec.ofChange objLongSpec)

/-- ITS FALSE NEIGHBOUR: 'it returns false'. Refute it at one input. -/
def objLongWrong : ChangeSpec := { name := "objLong", fn := fun _ => fun
  | [d] => { results := [.lit (.bool false)], args := [d] }
  | _ => none }
def ObjLongWrongFalsely : Prop := objLongRow.holds Tryz.pinned (OpenSpec.ofChange objLongWrong)

/-- 'separatumlaw21.ObjSymbols': WHATEVER THE INPUT: true; the input reads as it did. -/
def objSymbolsSpec : ChangeSpec := { name := "objSymbols", fn := fun _ => fun
  | [d1, d2, d3] => { results := [.lit (.bool true)], args := [d1, d2, d3] }
  | _ => none }
def objSymbolsRow : OpenClaim := { program := "ytildcdgobdfieaagreat", sum := "ca44133ff254dd254ea7c785ab6a0d6cf77bb273f88c3a2b660b73e56220a458", func := "separatum/separatumlaw21.ObjSymbols", spec := "objSymbols", inPlace := ["internal/abi.NoEscape"], unfollowed := true, recurses := true, apart := false }
def ObjSymbolsSaid : Prop := objSymbolsRow.holds Tryz.pinned (OpenSpec.ofChange objSymbolsSpec)

/-- ITS FALSE NEIGHBOUR: 'it returns false'. Refute it at one input. -/
def objSymbolsWrong : ChangeSpec := { name := "objSymbols", fn := fun _ => fun
  | [d1, d2, d3] => { results := [.lit (.bool false)], args := [d1, d2, d3] }
  | _ => none }
def ObjSymbolsWrongFalsely : Prop := objSymbolsRow.holds Tryz.pinned (OpenSpec.ofChange objSymbolsWrong)

/- THE SECOND FORM. 'bulk': how many values and letters a reading holds, each counted each time it is reached (what is shared counts as often as it is met; a slice's spare places count too). A statement '..UptoSaid' is the law's where the arguments, and the package variables that the reading takes, are together of bulk at most 1048576: NARROWER than '..Said'. Prove '..Said' where nothing that the law and all that it calls make is longer than what came in: it says more and counts as full. Else prove '..UptoSaid'. A law counts once. -/
mutual
def uptoBulk {H : Type} : DataW H → Nat
  | .lit (.string bytes) => bytes.length + 1
  | .lit _ => 1
  | .nil => 1
  | .ptr d => uptoBulk d + 1
  | .slice elems spare => uptoBulkAll elems + uptoBulkAll spare + 1
  | .agg parts => uptoBulkAll parts + 1
  | .iface _ d => uptoBulk d + 1
  | .map entries => uptoBulkEntries entries + 1
  | .held _ => 1
def uptoBulkAll {H : Type} : List (DataW H) → Nat
  | [] => 0
  | d :: r => uptoBulk d + uptoBulkAll r
def uptoBulkEntries {H : Type} : List (Lit × DataW H) → Nat
  | [] => 0
  | x :: r => uptoBulkEntry x + uptoBulkEntries r
def uptoBulkEntry {H : Type} : Lit × DataW H → Nat
  | (.string bytes, d) => bytes.length + uptoBulk d + 1
  | (_, d) => uptoBulk d + 1
 end
def uptoSmall : (H : Type) → List (DataW H) → Bool := fun _ ds => decide (uptoBulkAll ds ≤ 1048576)
def OpenSpec.upto (s : _root_.Go.ChangeSpec) : _root_.Go.OpenSpec := { _root_.Go.OpenSpec.ofChange s with cond := some uptoSmall }

/-- 'separatumlaw21.ObjTells', WHERE WHAT IT READS IS OF BULK AT MOST 1048576: true; the input reads as it did. -/
def objTellsUptoRow : OpenClaim := { program := "ytildcdgobdfieaagreat", sum := "ca44133ff254dd254ea7c785ab6a0d6cf77bb273f88c3a2b660b73e56220a458", func := "separatum/separatumlaw21.ObjTells", spec := "objTells", inPlace := ["internal/abi.NoEscape"], unfollowed := true, recurses := true, apart := false, narrowed := true }
def ObjTellsUptoSaid : Prop := objTellsUptoRow.holds Tryz.pinned (OpenSpec.upto objTellsSpec)

/-- 'separatumlaw21.ObjReads', WHERE WHAT IT READS IS OF BULK AT MOST 1048576: true; the input reads as it did. -/
def objReadsUptoRow : OpenClaim := { program := "ytildcdgobdfieaagreat", sum := "ca44133ff254dd254ea7c785ab6a0d6cf77bb273f88c3a2b660b73e56220a458", func := "separatum/separatumlaw21.ObjReads", spec := "objReads", inPlace := ["internal/abi.NoEscape"], unfollowed := true, recurses := true, apart := false, narrowed := true }
def ObjReadsUptoSaid : Prop := objReadsUptoRow.holds Tryz.pinned (OpenSpec.upto objReadsSpec)

/-- 'separatumlaw21.ObjBack', WHERE WHAT IT READS IS OF BULK AT MOST 1048576: true; the input reads as it did. -/
def objBackUptoRow : OpenClaim := { program := "ytildcdgobdfieaagreat", sum := "ca44133ff254dd254ea7c785ab6a0d6cf77bb273f88c3a2b660b73e56220a458", func := "separatum/separatumlaw21.ObjBack", spec := "objBack", inPlace := ["internal/abi.NoEscape"], unfollowed := true, recurses := true, apart := false, narrowed := true }
def ObjBackUptoSaid : Prop := objBackUptoRow.holds Tryz.pinned (OpenSpec.upto objBackSpec)

/-- 'separatumlaw21.ObjLong', WHERE WHAT IT READS IS OF BULK AT MOST 1048576: true; the input reads as it did. -/
def objLongUptoRow : OpenClaim := { program := "ytildcdgobdfieaagreat", sum := "ca44133ff254dd254ea7c785ab6a0d6cf77bb273f88c3a2b660b73e56220a458", func := "separatum/separatumlaw21.ObjLong", spec := "objLong", inPlace := ["internal/abi.NoEscape"], unfollowed := true, recurses := true, apart := false, narrowed := true }
def ObjLongUptoSaid : Prop := objLongUptoRow.holds Tryz.pinned (OpenSpec.upto objLongSpec)

/-- 'separatumlaw21.ObjSymbols', WHERE WHAT IT READS IS OF BULK AT MOST 1048576: true; the input reads as it did. -/
def objSymbolsUptoRow : OpenClaim := { program := "ytildcdgobdfieaagreat", sum := "ca44133ff254dd254ea7c785ab6a0d6cf77bb273f88c3a2b660b73e56220a458", func := "separatum/separatumlaw21.ObjSymbols", spec := "objSymbols", inPlace := ["internal/abi.NoEscape"], unfollowed := true, recurses := true, apart := false, narrowed := true }
def ObjSymbolsUptoSaid : Prop := objSymbolsUptoRow.holds Tryz.pinned (OpenSpec.upto objSymbolsSpec)

end Rows
end Go.Proofs.YtildcdgobdfieaaGreat
