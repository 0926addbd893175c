/-
  No cell of these rows narrows 'for every input' (looked for: loops, veiled, ifaces, maps, wideKeys, modest, calm, conditions, laid).
  DERIVED. THE GIVEN ROWS OF THIS SEAT. 5 by the template 'for every input the law returns true; each argument reads behind the call as it read before'; 0 by the template 'total and deterministic' (their statements: YtloihffdolehhaaTotals.lean).
  GIVEN WITH THE SEED: the statements are not yours to turn. If you find one false, say at which input.
  Laid BY PROGRAM, IN A SANDBOX (cutbox-rows.mjs): the forced cells as the released guide's own fill.sh prints them over the translation 8f383c73f68bd1e0… (all of the seat's roots in one cut). By AI agents, Wed Nov 11 2026. No macro, syntax, notation, axiom, sorry.
-/
import Derived.Test.YtloihffdolehhaaChecked
import GoSem.Claim
import GoSem.ClaimJoined
import GoSem.ClaimMapViews
import Derived.JoinedTies
import Derived.KernelRfl
namespace Go.Proofs.Ytloihffdolehhaa
/- THE CELL 'sum', in the pinned program and in every row, IS THE sha256 OF THE DUMP (.gsa) THAT YtloihffdolehhaaProg.lean LOADS. Nothing in Lean hashes anything: it is a label: what it is worth is what the hold of that sum in a sandbox is worth. -/
noncomputable def Try.pinned : Pinned := { name := "ytloihffdolehhaa", sum := "8f383c73f68bd1e0c59ac5642adcfbcc1fedfbd52ce396625b8b27f53be2b051", checked := Try.checked }
namespace Rows
def none {H : Type} : Left H := { results := [], args := [] }

/-- 'separatumlaw12.LayoutApart': WHATEVER THE INPUT: true; the input reads as it did. -/
def layoutApartSpec : ChangeSpec := { name := "layoutApart", fn := fun _ => fun
  | [d1, d2, d3] => { results := [.lit (.bool true)], args := [d1, d2, d3] }
  | _ => none }
def layoutApartRow : OpenClaim := { program := "ytloihffdolehhaa", sum := "8f383c73f68bd1e0c59ac5642adcfbcc1fedfbd52ce396625b8b27f53be2b051", func := "separatum/separatumlaw12.LayoutApart", spec := "layoutApart", unfollowed := true, recurses := true, apart := false }
def LayoutApartSaid : Prop := layoutApartRow.holds Try.pinned (OpenSpec.ofChange layoutApartSpec)

/-- ITS FALSE NEIGHBOUR: 'it returns false'. Refute it at one input. -/
def layoutApartWrong : ChangeSpec := { name := "layoutApart", fn := fun _ => fun
  | [d1, d2, d3] => { results := [.lit (.bool false)], args := [d1, d2, d3] }
  | _ => none }
def LayoutApartWrongFalsely : Prop := layoutApartRow.holds Try.pinned (OpenSpec.ofChange layoutApartWrong)

/-- 'separatumlaw12.LayoutArrays': WHATEVER THE INPUT: true; the input reads as it did. -/
def layoutArraysSpec : ChangeSpec := { name := "layoutArrays", fn := fun _ => fun
  | [d1, d2, d3] => { results := [.lit (.bool true)], args := [d1, d2, d3] }
  | _ => none }
def layoutArraysRow : OpenClaim := { program := "ytloihffdolehhaa", sum := "8f383c73f68bd1e0c59ac5642adcfbcc1fedfbd52ce396625b8b27f53be2b051", func := "separatum/separatumlaw12.LayoutArrays", spec := "layoutArrays", unfollowed := true, recurses := true, apart := false }
def LayoutArraysSaid : Prop := layoutArraysRow.holds Try.pinned (OpenSpec.ofChange layoutArraysSpec)

/-- ITS FALSE NEIGHBOUR: 'it returns false'. Refute it at one input. -/
def layoutArraysWrong : ChangeSpec := { name := "layoutArrays", fn := fun _ => fun
  | [d1, d2, d3] => { results := [.lit (.bool false)], args := [d1, d2, d3] }
  | _ => none }
def LayoutArraysWrongFalsely : Prop := layoutArraysRow.holds Try.pinned (OpenSpec.ofChange layoutArraysWrong)

/-- 'separatumlaw12.LayoutArms': WHATEVER THE INPUT: true; the input reads as it did. -/
def layoutArmsSpec : ChangeSpec := { name := "layoutArms", fn := fun _ => fun
  | [d1, d2, d3] => { results := [.lit (.bool true)], args := [d1, d2, d3] }
  | _ => none }
def layoutArmsRow : OpenClaim := { program := "ytloihffdolehhaa", sum := "8f383c73f68bd1e0c59ac5642adcfbcc1fedfbd52ce396625b8b27f53be2b051", func := "separatum/separatumlaw12.LayoutArms", spec := "layoutArms", unfollowed := true, recurses := true, apart := false }
def LayoutArmsSaid : Prop := layoutArmsRow.holds Try.pinned (OpenSpec.ofChange layoutArmsSpec)

/-- ITS FALSE NEIGHBOUR: 'it returns false'. Refute it at one input. -/
def layoutArmsWrong : ChangeSpec := { name := "layoutArms", fn := fun _ => fun
  | [d1, d2, d3] => { results := [.lit (.bool false)], args := [d1, d2, d3] }
  | _ => none }
def LayoutArmsWrongFalsely : Prop := layoutArmsRow.holds Try.pinned (OpenSpec.ofChange layoutArmsWrong)

/-- 'separatumlaw12.LayoutPlaces': WHATEVER THE INPUT: true; the input reads as it did. -/
def layoutPlacesSpec : ChangeSpec := { name := "layoutPlaces", fn := fun _ => fun
  | [d1, d2] => { results := [.lit (.bool true)], args := [d1, d2] }
  | _ => none }
def layoutPlacesRow : OpenClaim := { program := "ytloihffdolehhaa", sum := "8f383c73f68bd1e0c59ac5642adcfbcc1fedfbd52ce396625b8b27f53be2b051", func := "separatum/separatumlaw12.LayoutPlaces", spec := "layoutPlaces", unfollowed := true, recurses := true, apart := false }
def LayoutPlacesSaid : Prop := layoutPlacesRow.holds Try.pinned (OpenSpec.ofChange layoutPlacesSpec)

/-- ITS FALSE NEIGHBOUR: 'it returns false'. Refute it at one input. -/
def layoutPlacesWrong : ChangeSpec := { name := "layoutPlaces", fn := fun _ => fun
  | [d1, d2] => { results := [.lit (.bool false)], args := [d1, d2] }
  | _ => none }
def LayoutPlacesWrongFalsely : Prop := layoutPlacesRow.holds Try.pinned (OpenSpec.ofChange layoutPlacesWrong)

/-- 'separatumlaw12.LayoutNone': WHATEVER THE INPUT: true; the input reads as it did. -/
def layoutNoneSpec : ChangeSpec := { name := "layoutNone", fn := fun _ => fun
  | [d1, d2] => { results := [.lit (.bool true)], args := [d1, d2] }
  | _ => none }
def layoutNoneRow : OpenClaim := { program := "ytloihffdolehhaa", sum := "8f383c73f68bd1e0c59ac5642adcfbcc1fedfbd52ce396625b8b27f53be2b051", func := "separatum/separatumlaw12.LayoutNone", spec := "layoutNone", unfollowed := true, recurses := true, apart := false }
def LayoutNoneSaid : Prop := layoutNoneRow.holds Try.pinned (OpenSpec.ofChange layoutNoneSpec)

/-- ITS FALSE NEIGHBOUR: 'it returns false'. Refute it at one input. -/
def layoutNoneWrong : ChangeSpec := { name := "layoutNone", fn := fun _ => fun
  | [d1, d2] => { results := [.lit (.bool false)], args := [d1, d2] }
  | _ => none }
def LayoutNoneWrongFalsely : Prop := layoutNoneRow.holds Try.pinned (OpenSpec.ofChange layoutNoneWrong)

/- THE SECOND FORM. 'bulk': how many values and letters a reading holds, each counted each time it is reached (what is shared counts as often as it is met; a slice's spare places count too). A statement '..UptoSaid' is the law's where the arguments, and the package variables that the reading takes, are together of bulk at most 1048576: NARROWER than '..Said'. Prove '..Said' where nothing that the law and all that it calls make is longer than what came in: it says more and counts as full. Else prove '..UptoSaid'. A law counts once. -/
mutual
def uptoBulk {H : Type} : DataW H → Nat
  | .lit (.string bytes) => bytes.length + 1
  | .lit _ => 1
  | .nil => 1
  | .ptr d => uptoBulk d + 1
  | .slice elems spare => uptoBulkAll elems + uptoBulkAll spare + 1
  | .agg parts => uptoBulkAll parts + 1
  | .iface _ d => uptoBulk d + 1
  | .map entries => uptoBulkEntries entries + 1
  | .held _ => 1
def uptoBulkAll {H : Type} : List (DataW H) → Nat
  | [] => 0
  | d :: r => uptoBulk d + uptoBulkAll r
def uptoBulkEntries {H : Type} : List (Lit × DataW H) → Nat
  | [] => 0
  | x :: r => uptoBulkEntry x + uptoBulkEntries r
def uptoBulkEntry {H : Type} : Lit × DataW H → Nat
  | (.string bytes, d) => bytes.length + uptoBulk d + 1
  | (_, d) => uptoBulk d + 1
 end
def uptoSmall : (H : Type) → List (DataW H) → Bool := fun _ ds => decide (uptoBulkAll ds ≤ 1048576)
def OpenSpec.upto (s : _root_.Go.ChangeSpec) : _root_.Go.OpenSpec := { _root_.Go.OpenSpec.ofChange s with cond := some uptoSmall }

/-- 'separatumlaw12.LayoutApart', WHERE WHAT IT READS IS OF BULK AT MOST 1048576: true; the input reads as it did. -/
def layoutApartUptoRow : OpenClaim := { program := "ytloihffdolehhaa", sum := "8f383c73f68bd1e0c59ac5642adcfbcc1fedfbd52ce396625b8b27f53be2b051", func := "separatum/separatumlaw12.LayoutApart", spec := "layoutApart", unfollowed := true, recurses := true, apart := false, narrowed := true }
def LayoutApartUptoSaid : Prop := layoutApartUptoRow.holds Try.pinned (OpenSpec.upto layoutApartSpec)

/-- 'separatumlaw12.LayoutArrays', WHERE WHAT IT READS IS OF BULK AT MOST 1048576: true; the input reads as it did. -/
def layoutArraysUptoRow : OpenClaim := { program := "ytloihffdolehhaa", sum := "8f383c73f68bd1e0c59ac5642adcfbcc1fedfbd52ce396625b8b27f53be2b051", func := "separatum/separatumlaw12.LayoutArrays", spec := "layoutArrays", unfollowed := true, recurses := true, apart := false, narrowed := true }
def LayoutArraysUptoSaid : Prop := layoutArraysUptoRow.holds Try.pinned (OpenSpec.upto layoutArraysSpec)

/-- 'separatumlaw12.LayoutArms', WHERE WHAT IT READS IS OF BULK AT MOST 1048576: true; the input reads as it did. -/
def layoutArmsUptoRow : OpenClaim := { program := "ytloihffdolehhaa", sum := "8f383c73f68bd1e0c59ac5642adcfbcc1fedfbd52ce396625b8b27f53be2b051", func := "separatum/separatumlaw12.LayoutArms", spec := "layoutArms", unfollowed := true, recurses := true, apart := false, narrowed := true }
def LayoutArmsUptoSaid : Prop := layoutArmsUptoRow.holds Try.pinned (OpenSpec.upto layoutArmsSpec)

/-- 'separatumlaw12.LayoutPlaces', WHERE WHAT IT READS IS OF BULK AT MOST 1048576: true; the input reads as it did. -/
def layoutPlacesUptoRow : OpenClaim := { program := "ytloihffdolehhaa", sum := "8f383c73f68bd1e0c59ac5642adcfbcc1fedfbd52ce396625b8b27f53be2b051", func := "separatum/separatumlaw12.LayoutPlaces", spec := "layoutPlaces", unfollowed := true, recurses := true, apart := false, narrowed := true }
def LayoutPlacesUptoSaid : Prop := layoutPlacesUptoRow.holds Try.pinned (OpenSpec.upto layoutPlacesSpec)

/-- 'separatumlaw12.LayoutNone', WHERE WHAT IT READS IS OF BULK AT MOST 1048576: true; the input reads as it did. -/
def layoutNoneUptoRow : OpenClaim := { program := "ytloihffdolehhaa", sum := "8f383c73f68bd1e0c59ac5642adcfbcc1fedfbd52ce396625b8b27f53be2b051", func := "separatum/separatumlaw12.LayoutNone", spec := "layoutNone", unfollowed := true, recurses := true, apart := false, narrowed := true }
def LayoutNoneUptoSaid : Prop := layoutNoneUptoRow.holds Try.pinned (OpenSpec.upto layoutNoneSpec)

end Rows
end Go.Proofs.Ytloihffdolehhaa
