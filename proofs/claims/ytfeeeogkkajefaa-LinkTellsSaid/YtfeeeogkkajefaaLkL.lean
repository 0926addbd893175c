/- Linking next to its bounds: the plain law of LinkLong. No conditions. -/
import Derived.Test.YtfeeeogkkajefaaLkB
namespace Go.Proofs.Ytfeeeogkkajefaa
set_option linter.unusedVariables false

def bodyM : ModD := ⟨⟨#[]⟩, [⟨0, 0, 0, 0, 1, false⟩], [], 0, []⟩
def nameO (i : Nat) : ByteArray := ⟨#[109, UInt8.ofNat (48 + i % 10), UInt8.ofNat (48 + i / 10)]⟩
def starO (i : Nat) : ObjD := ⟨nameO i, false, 0, [], bodyM⟩
def starM (n : Nat) : ObjD := ⟨⟨#[77]⟩, true, 0, (List.range' 1 n).map fun i => ⟨nameO i, 0⟩, bodyM⟩
def starL (n : Nat) : List ObjD := (List.range' 1 n).map starO ++ [starM n]
/-- How linking ends: who, and which error. -/
def endP (l : List ObjD) (main : ByteArray) : ByteArray × Int := (linkP l main).2
def twoD (k : Int) (d e : Int) : List ObjD := [⟨⟨#[77]⟩, true, 0, [⟨⟨#[83]⟩, 7⟩], { bodyM with data := d }⟩, ⟨⟨#[83]⟩, false, k, [], { bodyM with data := e }⟩]
set_option maxRecDepth 100000 in
theorem star_ends : ∀ k : Fin 17, endP (starL (55 + k.val)) ⟨#[77]⟩ = if 55 + k.val + 1 ≤ 64 then (⟨#[]⟩, 0) else (⟨#[77]⟩, 5) := by decide +kernel
set_option maxRecDepth 100000 in
theorem two_ends : ∀ k : Fin 17, endP (twoD 7 65435 (92 + (k.val : Int))) ⟨#[77]⟩ = if 92 + k.val ≤ 100 then (⟨#[]⟩, 0) else (⟨#[77]⟩, 5) := by decide +kernel
end Go.Proofs.Ytfeeeogkkajefaa
