/-
  No cell of these rows narrows 'for every input' (looked for: loops, veiled, ifaces, maps, wideKeys, modest, calm, conditions, laid).
  DERIVED. THE GIVEN ROWS OF THIS SEAT. 4 by the template 'for every input the law returns true; each argument reads behind the call as it read before'; 0 by the template 'total and deterministic' (their statements: YtfeeeogkkajefaaTotals.lean).
  GIVEN WITH THE SEED: the statements are not yours to turn. If you find one false, say at which input.
  Laid BY PROGRAM, IN A SANDBOX (cutbox-rows.mjs): the forced cells as the released guide's own fill.sh prints them over the translation d5fd1ac57a54b207… (all of the seat's roots in one cut). By AI agents, Wed Nov 11 2026. No macro, syntax, notation, axiom, sorry.
-/
import Derived.Test.YtfeeeogkkajefaaChecked
import GoSem.Claim
import GoSem.ClaimJoined
import GoSem.ClaimMapViews
import Derived.JoinedTies
import Derived.KernelRfl
namespace Go.Proofs.Ytfeeeogkkajefaa
/- THE CELL 'sum', in the pinned program and in every row, IS THE sha256 OF THE DUMP (.gsa) THAT YtfeeeogkkajefaaProg.lean LOADS. Nothing in Lean hashes anything: it is a label: what it is worth is what the hold of that sum in a sandbox is worth. -/
noncomputable def Try.pinned : Pinned := { name := "ytfeeeogkkajefaa", sum := "d5fd1ac57a54b2073a77a28490c348876de1b27ae0985bf4fac23323a4073b41", checked := Try.checked }
namespace Rows
def none {H : Type} : Left H := { results := [], args := [] }

/-- 'separatumlaw23.LinkTells': WHATEVER THE INPUT: true; the input reads as it did. -/
def linkTellsSpec : ChangeSpec := { name := "linkTells", fn := fun _ => fun
  | [d1, d2] => { results := [.lit (.bool true)], args := [d1, d2] }
  | _ => none }
def linkTellsRow : OpenClaim := { program := "ytfeeeogkkajefaa", sum := "d5fd1ac57a54b2073a77a28490c348876de1b27ae0985bf4fac23323a4073b41", func := "separatum/separatumlaw23.LinkTells", spec := "linkTells", unfollowed := true, recurses := true, apart := false }
def LinkTellsSaid : Prop := linkTellsRow.holds Try.pinned (OpenSpec.ofChange linkTellsSpec)

/-- ITS FALSE NEIGHBOUR: 'it returns false'. Refute it at one input. -/
def linkTellsWrong : ChangeSpec := { name := "linkTells", fn := fun _ => fun
  | [d1, d2] => { results := [.lit (.bool false)], args := [d1, d2] }
  | _ => none }
def LinkTellsWrongFalsely : Prop := linkTellsRow.holds Try.pinned (OpenSpec.ofChange linkTellsWrong)

/-- 'separatumlaw23.LinkMay': WHATEVER THE INPUT: true; the input reads as it did. -/
def linkMaySpec : ChangeSpec := { name := "linkMay", fn := fun _ => fun
  | [d1, d2] => { results := [.lit (.bool true)], args := [d1, d2] }
  | _ => none }
def linkMayRow : OpenClaim := { program := "ytfeeeogkkajefaa", sum := "d5fd1ac57a54b2073a77a28490c348876de1b27ae0985bf4fac23323a4073b41", func := "separatum/separatumlaw23.LinkMay", spec := "linkMay", unfollowed := true, recurses := true, apart := false }
def LinkMaySaid : Prop := linkMayRow.holds Try.pinned (OpenSpec.ofChange linkMaySpec)

/-- ITS FALSE NEIGHBOUR: 'it returns false'. Refute it at one input. -/
def linkMayWrong : ChangeSpec := { name := "linkMay", fn := fun _ => fun
  | [d1, d2] => { results := [.lit (.bool false)], args := [d1, d2] }
  | _ => none }
def LinkMayWrongFalsely : Prop := linkMayRow.holds Try.pinned (OpenSpec.ofChange linkMayWrong)

/-- 'separatumlaw23.LinkKeys': WHATEVER THE INPUT: true; the input reads as it did. -/
def linkKeysSpec : ChangeSpec := { name := "linkKeys", fn := fun _ => fun
  | [d1, d2, d3, d4] => { results := [.lit (.bool true)], args := [d1, d2, d3, d4] }
  | _ => none }
def linkKeysRow : OpenClaim := { program := "ytfeeeogkkajefaa", sum := "d5fd1ac57a54b2073a77a28490c348876de1b27ae0985bf4fac23323a4073b41", func := "separatum/separatumlaw23.LinkKeys", spec := "linkKeys", unfollowed := true, recurses := true, apart := false }
def LinkKeysSaid : Prop := linkKeysRow.holds Try.pinned (OpenSpec.ofChange linkKeysSpec)

/-- ITS FALSE NEIGHBOUR: 'it returns false'. Refute it at one input. -/
def linkKeysWrong : ChangeSpec := { name := "linkKeys", fn := fun _ => fun
  | [d1, d2, d3, d4] => { results := [.lit (.bool false)], args := [d1, d2, d3, d4] }
  | _ => none }
def LinkKeysWrongFalsely : Prop := linkKeysRow.holds Try.pinned (OpenSpec.ofChange linkKeysWrong)

/-- 'separatumlaw23.LinkLong': WHATEVER THE INPUT: true; the input reads as it did. -/
def linkLongSpec : ChangeSpec := { name := "linkLong", fn := fun _ => fun
  | [d] => { results := [.lit (.bool true)], args := [d] }
  | _ => none }
def linkLongRow : OpenClaim := { program := "ytfeeeogkkajefaa", sum := "d5fd1ac57a54b2073a77a28490c348876de1b27ae0985bf4fac23323a4073b41", func := "separatum/separatumlaw23.LinkLong", spec := "linkLong", unfollowed := true, recurses := true, apart := false }
def LinkLongSaid : Prop := linkLongRow.holds Try.pinned (OpenSpec.ofChange linkLongSpec)

/-- ITS FALSE NEIGHBOUR: 'it returns false'. Refute it at one input. -/
def linkLongWrong : ChangeSpec := { name := "linkLong", fn := fun _ => fun
  | [d] => { results := [.lit (.bool false)], args := [d] }
  | _ => none }
def LinkLongWrongFalsely : Prop := linkLongRow.holds Try.pinned (OpenSpec.ofChange linkLongWrong)

/- THE SECOND FORM. 'bulk': how many values and letters a reading holds, each counted each time it is reached (what is shared counts as often as it is met; a slice's spare places count too). A statement '..UptoSaid' is the law's where the arguments, and the package variables that the reading takes, are together of bulk at most 1048576: NARROWER than '..Said'. Prove '..Said' where nothing that the law and all that it calls make is longer than what came in: it says more and counts as full. Else prove '..UptoSaid'. A law counts once. -/
mutual
def uptoBulk {H : Type} : DataW H → Nat
  | .lit (.string bytes) => bytes.length + 1
  | .lit _ => 1
  | .nil => 1
  | .ptr d => uptoBulk d + 1
  | .slice elems spare => uptoBulkAll elems + uptoBulkAll spare + 1
  | .agg parts => uptoBulkAll parts + 1
  | .iface _ d => uptoBulk d + 1
  | .map entries => uptoBulkEntries entries + 1
  | .held _ => 1
def uptoBulkAll {H : Type} : List (DataW H) → Nat
  | [] => 0
  | d :: r => uptoBulk d + uptoBulkAll r
def uptoBulkEntries {H : Type} : List (Lit × DataW H) → Nat
  | [] => 0
  | x :: r => uptoBulkEntry x + uptoBulkEntries r
def uptoBulkEntry {H : Type} : Lit × DataW H → Nat
  | (.string bytes, d) => bytes.length + uptoBulk d + 1
  | (_, d) => uptoBulk d + 1
 end
def uptoSmall : (H : Type) → List (DataW H) → Bool := fun _ ds => decide (uptoBulkAll ds ≤ 1048576)
def OpenSpec.upto (s : _root_.Go.ChangeSpec) : _root_.Go.OpenSpec := { _root_.Go.OpenSpec.ofChange s with cond := some uptoSmall }

/-- 'separatumlaw23.LinkTells', WHERE WHAT IT READS IS OF BULK AT MOST 1048576: true; the input reads as it did. -/
def linkTellsUptoRow : OpenClaim := { program := "ytfeeeogkkajefaa", sum := "d5fd1ac57a54b2073a77a28490c348876de1b27ae0985bf4fac23323a4073b41", func := "separatum/separatumlaw23.LinkTells", spec := "linkTells", unfollowed := true, recurses := true, apart := false, narrowed := true }
def LinkTellsUptoSaid : Prop := linkTellsUptoRow.holds Try.pinned (OpenSpec.upto linkTellsSpec)

/-- 'separatumlaw23.LinkMay', WHERE WHAT IT READS IS OF BULK AT MOST 1048576: true; the input reads as it did. -/
def linkMayUptoRow : OpenClaim := { program := "ytfeeeogkkajefaa", sum := "d5fd1ac57a54b2073a77a28490c348876de1b27ae0985bf4fac23323a4073b41", func := "separatum/separatumlaw23.LinkMay", spec := "linkMay", unfollowed := true, recurses := true, apart := false, narrowed := true }
def LinkMayUptoSaid : Prop := linkMayUptoRow.holds Try.pinned (OpenSpec.upto linkMaySpec)

/-- 'separatumlaw23.LinkKeys', WHERE WHAT IT READS IS OF BULK AT MOST 1048576: true; the input reads as it did. -/
def linkKeysUptoRow : OpenClaim := { program := "ytfeeeogkkajefaa", sum := "d5fd1ac57a54b2073a77a28490c348876de1b27ae0985bf4fac23323a4073b41", func := "separatum/separatumlaw23.LinkKeys", spec := "linkKeys", unfollowed := true, recurses := true, apart := false, narrowed := true }
def LinkKeysUptoSaid : Prop := linkKeysUptoRow.holds Try.pinned (OpenSpec.upto linkKeysSpec)

/-- 'separatumlaw23.LinkLong', WHERE WHAT IT READS IS OF BULK AT MOST 1048576: true; the input reads as it did. -/
def linkLongUptoRow : OpenClaim := { program := "ytfeeeogkkajefaa", sum := "d5fd1ac57a54b2073a77a28490c348876de1b27ae0985bf4fac23323a4073b41", func := "separatum/separatumlaw23.LinkLong", spec := "linkLong", unfollowed := true, recurses := true, apart := false, narrowed := true }
def LinkLongUptoSaid : Prop := linkLongUptoRow.holds Try.pinned (OpenSpec.upto linkLongSpec)

end Rows
end Go.Proofs.Ytfeeeogkkajefaa
