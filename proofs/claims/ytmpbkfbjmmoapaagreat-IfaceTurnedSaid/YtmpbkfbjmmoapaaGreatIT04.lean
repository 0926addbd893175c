/- Bytes as numbers, and one step of a key: plain. No conditions. -/
import Derived.Test.YtmpbkfbjmmoapaaGreatIT01
import Derived.Laws.Bits64
import Derived.Deep.Cut
import Derived.Deep.DeepCutAuto
import Derived.Test.YtmpbkfbjmmoapaaGreatIT02
import Derived.ProofKit
import Derived.OpenShut
import Derived.Deep.Slices
import Derived.Deep.Fields
import Derived.ChangeSame
namespace Go.Proofs.YtmpbkfbjmmoapaaGreat
open Go.RowKit
set_option linter.unusedVariables false
set_option linter.unusedSimpArgs false
end Go.Proofs.YtmpbkfbjmmoapaaGreat

/- slices.ContainsFunc of texts and of numbers, over what its question answers; iface's short, few, small: walked. Conditions: the list is there. -/
namespace Go.Proofs.YtmpbkfbjmmoapaaGreat
open Go.RowKit
set_option linter.unusedVariables false
set_option linter.unusedSimpArgs false
def anyB (n : Nat) (p : Nat → Bool) : Bool := (List.range n).any p
theorem anyB_yes {n : Nat} {p : Nat → Bool} {k : Nat} (hk : k < n) (h : p k = true) : anyB n p = true := List.any_eq_true.2 ⟨k, List.mem_range.2 hk, h⟩
theorem anyB_no {n : Nat} {p : Nat → Bool} (h : ∀ j, j < n → p j = false) : anyB n p = false := by
 unfold anyB
 rw [List.any_eq_false]
 intro j hj
 rw [h j (List.mem_range.1 hj)]
 simp
def CellsAt (w : World) (A : Option Addr) (n : Nat) (ev : Nat → Value) : Prop := ∀ i, i < n → ∃ b off, A = some ⟨b, off, none⟩ ∧ w.cell? ⟨b, off + i, none⟩ = some (ev i)
def IdxP (w : World) (n : Nat) (p : Nat → Bool) (e : Ending) (w' : World) : Prop := ∃ r : Int, e = .returned (.int .i64 r) ∧ Wr [] w w' ∧ decide (r ≥ 0) = anyB n p
set_option maxRecDepth 100000 in
set_option maxHeartbeats 2000000 in
theorem idx_short (w : World) (A : Option Addr) (n c : Nat) (ev : Nat → ByteArray) (hcc : n ≤ c ∧ c ≤ maxLen) (hc : CellsAt w A n (fun i => .string (ev i))) (p : Nat → Bool)
  (hf : ∀ i, i < n → ∀ W, Wr [] w W → Calls Tryz.prog 94 #[.string (ev i)] W fun e w' => e = .returned (.bool (p i)) ∧ Wr [] W w') :
  Calls Tryz.prog 102 #[.slice A n c, .func (.func 94) #[] #[]] w (IdxP w n p) := by
 unfold maxLen at hcc
 have hen : ∀ args w, (callFunc 94 args).run Tryz.prog w = .ok (.enter 94 args) w := fun args w => rfl
 go_enter Tryz.func102, Tryz.ntmps102
 go_wp2_with fail
 go_loopw [8] (fun i wr => ∃ k : Nat, k ≤ n ∧ i = .int .i64 k ∧ Wr [] w wr ∧ ∀ j, j < k → p j = false) (fun i _ => n - (intOf i).toNat)
 case atStart => exact ⟨0, by omega, rfl, Wr.refl _ _, fun j h => absurd h (by omega)⟩
 case round =>
  obtain ⟨k, hk, rfl, hw, hno⟩ := hrel
  by_cases hlt : k < n
  ·obtain ⟨b, off, rfl, hcell⟩ := hc k hlt
   replace hcell := hw.cellOf hcell (by simp)
   have hfk := hf k hlt _ hw
   have h0 : (0 : Int) ≤ (k : Int) := by omega
   have h1 : (k : Int) < (n : Int) := by omega
   have HNO := Lib.hid hno
   have HW := Lib.hid hw
   clear hf hno hw
   cases hp : p k with
   | true =>
    rw [hp] at hfk
    have hv := anyB_yes hlt hp
    clear hp
    go_wp2_with fail
    refine hfk.mono ?_
    rintro e w1 ⟨rfl, r1⟩
    go_wp2_with fail
    go_ret
    exact ⟨k, rfl, HW.out.trans r1, by rw [hv]; simp⟩
   | false =>
    rw [hp] at hfk
    have hno' : ∀ j, j < k + 1 → p j = false := fun j hj => by
     by_cases hjk : j = k
     ·subst hjk; exact hp
     ·exact HNO.out j (by omega)
    have HNO' := Lib.hid hno'
    clear hp hno'
    go_wp2_with fail
    refine hfk.mono ?_
    rintro e w1 ⟨rfl, r1⟩
    go_wp2_with fail
    go_roundw
    case rel => exact ⟨k + 1, by omega, by go_num, HW.out.trans r1, HNO'.out⟩
    case measure => simp [intOf]; omega
  ·have hkn : k = n := by omega
   subst hkn
   have hv := anyB_no hno
   clear hno hc hf
   go_wp2_with fail
   go_ret
   exact ⟨-1, rfl, hw, by rw [hv]; decide⟩
theorem has_short (w : World) (A : Option Addr) (n c : Nat) (ev : Nat → ByteArray) (hcc : n ≤ c ∧ c ≤ maxLen) (hc : CellsAt w A n (fun i => .string (ev i))) (p : Nat → Bool)
  (hf : ∀ i, i < n → ∀ W, Wr [] w W → Calls Tryz.prog 94 #[.string (ev i)] W fun e w' => e = .returned (.bool (p i)) ∧ Wr [] W w') :
  Calls Tryz.prog 93 #[.slice A n c, .func (.func 94) #[] #[]] w fun e w' => e = .returned (.bool (anyB n p)) ∧ Wr [] w w' := by
 have h := idx_short w A n c ev hcc hc p hf
 go_enter Tryz.func93, Tryz.ntmps93
 go_wp2_with fail
 refine h.mono ?_
 rintro e w1 ⟨r, rfl, r1, hr⟩
 go_wp2_with fail
 go_ret
 exact ⟨by rw [← hr]; rfl, r1⟩
set_option maxRecDepth 100000 in
set_option maxHeartbeats 2000000 in
theorem idx_few (w : World) (A : Option Addr) (n c : Nat) (ev : Nat → Int) (hcc : n ≤ c ∧ c ≤ maxLen) (hc : CellsAt w A n (fun i => .int .i64 (ev i))) (p : Nat → Bool)
  (hf : ∀ i, i < n → ∀ W, Wr [] w W → Calls Tryz.prog 97 #[.int .i64 (ev i)] W fun e w' => e = .returned (.bool (p i)) ∧ Wr [] W w') :
  Calls Tryz.prog 98 #[.slice A n c, .func (.func 97) #[] #[]] w (IdxP w n p) := by
 unfold maxLen at hcc
 have hen : ∀ args w, (callFunc 97 args).run Tryz.prog w = .ok (.enter 97 args) w := fun args w => rfl
 go_enter Tryz.func98, Tryz.ntmps98
 go_wp2_with fail
 go_loopw [8] (fun i wr => ∃ k : Nat, k ≤ n ∧ i = .int .i64 k ∧ Wr [] w wr ∧ ∀ j, j < k → p j = false) (fun i _ => n - (intOf i).toNat)
 case atStart => exact ⟨0, by omega, rfl, Wr.refl _ _, fun j h => absurd h (by omega)⟩
 case round =>
  obtain ⟨k, hk, rfl, hw, hno⟩ := hrel
  by_cases hlt : k < n
  ·obtain ⟨b, off, rfl, hcell⟩ := hc k hlt
   replace hcell := hw.cellOf hcell (by simp)
   have hfk := hf k hlt _ hw
   have h0 : (0 : Int) ≤ (k : Int) := by omega
   have h1 : (k : Int) < (n : Int) := by omega
   have HNO := Lib.hid hno
   have HW := Lib.hid hw
   clear hf hno hw
   cases hp : p k with
   | true =>
    rw [hp] at hfk
    have hv := anyB_yes hlt hp
    clear hp
    go_wp2_with fail
    refine hfk.mono ?_
    rintro e w1 ⟨rfl, r1⟩
    go_wp2_with fail
    go_ret
    exact ⟨k, rfl, HW.out.trans r1, by rw [hv]; simp⟩
   | false =>
    rw [hp] at hfk
    have hno' : ∀ j, j < k + 1 → p j = false := fun j hj => by
     by_cases hjk : j = k
     ·subst hjk; exact hp
     ·exact HNO.out j (by omega)
    have HNO' := Lib.hid hno'
    clear hp hno'
    go_wp2_with fail
    refine hfk.mono ?_
    rintro e w1 ⟨rfl, r1⟩
    go_wp2_with fail
    go_roundw
    case rel => exact ⟨k + 1, by omega, by go_num, HW.out.trans r1, HNO'.out⟩
    case measure => simp [intOf]; omega
  ·have hkn : k = n := by omega
   subst hkn
   have hv := anyB_no hno
   clear hno hc hf
   go_wp2_with fail
   go_ret
   exact ⟨-1, rfl, hw, by rw [hv]; decide⟩
theorem has_few (w : World) (A : Option Addr) (n c : Nat) (ev : Nat → Int) (hcc : n ≤ c ∧ c ≤ maxLen) (hc : CellsAt w A n (fun i => .int .i64 (ev i))) (p : Nat → Bool)
  (hf : ∀ i, i < n → ∀ W, Wr [] w W → Calls Tryz.prog 97 #[.int .i64 (ev i)] W fun e w' => e = .returned (.bool (p i)) ∧ Wr [] W w') :
  Calls Tryz.prog 70 #[.slice A n c, .func (.func 97) #[] #[]] w fun e w' => e = .returned (.bool (anyB n p)) ∧ Wr [] w w' := by
 have h := idx_few w A n c ev hcc hc p hf
 go_enter Tryz.func70, Tryz.ntmps70
 go_wp2_with fail
 refine h.mono ?_
 rintro e w1 ⟨r, rfl, r1, hr⟩
 go_wp2_with fail
 go_ret
 exact ⟨by rw [← hr]; rfl, r1⟩
set_option maxRecDepth 100000 in
set_option maxHeartbeats 2000000 in
theorem idx_small (w : World) (A : Option Addr) (n c : Nat) (ev : Nat → Int) (hcc : n ≤ c ∧ c ≤ maxLen) (hc : CellsAt w A n (fun i => .int .i64 (ev i))) (p : Nat → Bool)
  (hf : ∀ i, i < n → ∀ W, Wr [] w W → Calls Tryz.prog 100 #[.int .i64 (ev i)] W fun e w' => e = .returned (.bool (p i)) ∧ Wr [] W w') :
  Calls Tryz.prog 104 #[.slice A n c, .func (.func 100) #[] #[]] w (IdxP w n p) := by
 unfold maxLen at hcc
 have hen : ∀ args w, (callFunc 100 args).run Tryz.prog w = .ok (.enter 100 args) w := fun args w => rfl
 go_enter Tryz.func104, Tryz.ntmps104
 go_wp2_with fail
 go_loopw [8] (fun i wr => ∃ k : Nat, k ≤ n ∧ i = .int .i64 k ∧ Wr [] w wr ∧ ∀ j, j < k → p j = false) (fun i _ => n - (intOf i).toNat)
 case atStart => exact ⟨0, by omega, rfl, Wr.refl _ _, fun j h => absurd h (by omega)⟩
 case round =>
  obtain ⟨k, hk, rfl, hw, hno⟩ := hrel
  by_cases hlt : k < n
  ·obtain ⟨b, off, rfl, hcell⟩ := hc k hlt
   replace hcell := hw.cellOf hcell (by simp)
   have hfk := hf k hlt _ hw
   have h0 : (0 : Int) ≤ (k : Int) := by omega
   have h1 : (k : Int) < (n : Int) := by omega
   have HNO := Lib.hid hno
   have HW := Lib.hid hw
   clear hf hno hw
   cases hp : p k with
   | true =>
    rw [hp] at hfk
    have hv := anyB_yes hlt hp
    clear hp
    go_wp2_with fail
    refine hfk.mono ?_
    rintro e w1 ⟨rfl, r1⟩
    go_wp2_with fail
    go_ret
    exact ⟨k, rfl, HW.out.trans r1, by rw [hv]; simp⟩
   | false =>
    rw [hp] at hfk
    have hno' : ∀ j, j < k + 1 → p j = false := fun j hj => by
     by_cases hjk : j = k
     ·subst hjk; exact hp
     ·exact HNO.out j (by omega)
    have HNO' := Lib.hid hno'
    clear hp hno'
    go_wp2_with fail
    refine hfk.mono ?_
    rintro e w1 ⟨rfl, r1⟩
    go_wp2_with fail
    go_roundw
    case rel => exact ⟨k + 1, by omega, by go_num, HW.out.trans r1, HNO'.out⟩
    case measure => simp [intOf]; omega
  ·have hkn : k = n := by omega
   subst hkn
   have hv := anyB_no hno
   clear hno hc hf
   go_wp2_with fail
   go_ret
   exact ⟨-1, rfl, hw, by rw [hv]; decide⟩
theorem has_small (w : World) (A : Option Addr) (n c : Nat) (ev : Nat → Int) (hcc : n ≤ c ∧ c ≤ maxLen) (hc : CellsAt w A n (fun i => .int .i64 (ev i))) (p : Nat → Bool)
  (hf : ∀ i, i < n → ∀ W, Wr [] w W → Calls Tryz.prog 100 #[.int .i64 (ev i)] W fun e w' => e = .returned (.bool (p i)) ∧ Wr [] W w') :
  Calls Tryz.prog 99 #[.slice A n c, .func (.func 100) #[] #[]] w fun e w' => e = .returned (.bool (anyB n p)) ∧ Wr [] w w' := by
 have h := idx_small w A n c ev hcc hc p hf
 go_enter Tryz.func99, Tryz.ntmps99
 go_wp2_with fail
 refine h.mono ?_
 rintro e w1 ⟨r, rfl, r1, hr⟩
 go_wp2_with fail
 go_ret
 exact ⟨by rw [← hr]; rfl, r1⟩
set_option maxRecDepth 100000 in
set_option maxHeartbeats 2000000 in
theorem idx_typ (w : World) (A : Option Addr) (n c : Nat) (ev : Nat → Int) (hcc : n ≤ c ∧ c ≤ maxLen) (hc : CellsAt w A n (fun i => .int .i64 (ev i))) (p : Nat → Bool) (pi : Nat)
  (hf : ∀ i, i < n → ∀ W, Wr [] w W → Calls Tryz.prog 71 #[.int .i64 (ev i), .pointer (some ⟨pi, 0, none⟩)] W fun e w' => e = .returned (.bool (p i)) ∧ Wr [] W w') :
  Calls Tryz.prog 98 #[.slice A n c, .func (.func 71) #[] #[.pointer (some ⟨pi, 0, none⟩)]] w (IdxP w n p) := by
 unfold maxLen at hcc
 have hen : ∀ args w, (callFunc 71 args).run Tryz.prog w = .ok (.enter 71 args) w := fun args w => rfl
 go_enter Tryz.func98, Tryz.ntmps98
 go_wp2_with fail
 go_loopw [8] (fun i wr => ∃ k : Nat, k ≤ n ∧ i = .int .i64 k ∧ Wr [] w wr ∧ ∀ j, j < k → p j = false) (fun i _ => n - (intOf i).toNat)
 case atStart => exact ⟨0, by omega, rfl, Wr.refl _ _, fun j h => absurd h (by omega)⟩
 case round =>
  obtain ⟨k, hk, rfl, hw, hno⟩ := hrel
  by_cases hlt : k < n
  ·obtain ⟨b, off, rfl, hcell⟩ := hc k hlt
   replace hcell := hw.cellOf hcell (by simp)
   have hfk := hf k hlt _ hw
   have h0 : (0 : Int) ≤ (k : Int) := by omega
   have h1 : (k : Int) < (n : Int) := by omega
   have HNO := Lib.hid hno
   have HW := Lib.hid hw
   clear hf hno hw
   cases hp : p k with
   | true =>
    rw [hp] at hfk
    have hv := anyB_yes hlt hp
    clear hp
    go_wp2_with fail
    refine hfk.mono ?_
    rintro e w1 ⟨rfl, r1⟩
    go_wp2_with fail
    go_ret
    exact ⟨k, rfl, HW.out.trans r1, by rw [hv]; simp⟩
   | false =>
    rw [hp] at hfk
    have hno' : ∀ j, j < k + 1 → p j = false := fun j hj => by
     by_cases hjk : j = k
     ·subst hjk; exact hp
     ·exact HNO.out j (by omega)
    have HNO' := Lib.hid hno'
    clear hp hno'
    go_wp2_with fail
    refine hfk.mono ?_
    rintro e w1 ⟨rfl, r1⟩
    go_wp2_with fail
    go_roundw
    case rel => exact ⟨k + 1, by omega, by go_num, HW.out.trans r1, HNO'.out⟩
    case measure => simp [intOf]; omega
  ·have hkn : k = n := by omega
   subst hkn
   have hv := anyB_no hno
   clear hno hc hf
   go_wp2_with fail
   go_ret
   exact ⟨-1, rfl, hw, by rw [hv]; decide⟩
theorem has_typ (w : World) (A : Option Addr) (n c : Nat) (ev : Nat → Int) (hcc : n ≤ c ∧ c ≤ maxLen) (hc : CellsAt w A n (fun i => .int .i64 (ev i))) (p : Nat → Bool) (pi : Nat)
  (hf : ∀ i, i < n → ∀ W, Wr [] w W → Calls Tryz.prog 71 #[.int .i64 (ev i), .pointer (some ⟨pi, 0, none⟩)] W fun e w' => e = .returned (.bool (p i)) ∧ Wr [] W w') :
  Calls Tryz.prog 70 #[.slice A n c, .func (.func 71) #[] #[.pointer (some ⟨pi, 0, none⟩)]] w fun e w' => e = .returned (.bool (anyB n p)) ∧ Wr [] w w' := by
 have h := idx_typ w A n c ev hcc hc p pi hf
 go_enter Tryz.func70, Tryz.ntmps70
 go_wp2_with fail
 refine h.mono ?_
 rintro e w1 ⟨r, rfl, r1, hr⟩
 go_wp2_with fail
 go_ret
 exact ⟨by rw [← hr]; rfl, r1⟩
end Go.Proofs.YtmpbkfbjmmoapaaGreat

/- iface's short, few, small: walked. Conditions: the lists are there. -/
namespace Go.Proofs.YtmpbkfbjmmoapaaGreat
open Go.RowKit
set_option linter.unusedVariables false
set_option linter.unusedSimpArgs false
theorem shortQ (s : ByteArray) (w : World) : Calls Tryz.prog 94 #[.string s] w fun e w' => e = .returned (.bool (decide ((s.size : Int) > 255))) ∧ Wr [] w w' := by
 go_enter Tryz.func94, Tryz.ntmps94
 go_wp2_with fail
 go_ret
 exact ⟨rfl, Wr.refl [] w⟩
theorem fewQ (n : Int) (w : World) : Calls Tryz.prog 97 #[.int .i64 n] w fun e w' => e = .returned (.bool (decide (n > 65535))) ∧ Wr [] w w' := by
 go_enter Tryz.func97, Tryz.ntmps97
 go_wp2_with fail
 go_ret
 exact ⟨rfl, Wr.refl [] w⟩
def smallN (n : Int) : Bool := decide (n < -2147483648) || decide (n > 2147483647)
theorem smallQ (n : Int) (w : World) : Calls Tryz.prog 100 #[.int .i64 n] w fun e w' => e = .returned (.bool (smallN n)) ∧ Wr [] w w' := by
 unfold smallN
 by_cases h : n < -2147483648
 ·go_enter Tryz.func100, Tryz.ntmps100
  go_wp2_with fail
  go_ret
  exact ⟨by simp [h], Wr.refl [] w⟩
 ·go_enter Tryz.func100, Tryz.ntmps100
  go_wp2_with fail
  go_ret
  exact ⟨by rw [show decide (n < -2147483648) = false from decide_eq_false (by omega), Bool.false_or]; try rfl, Wr.refl [] w⟩
theorem short_any (w : World) (A : Option Addr) (n c : Nat) (ev : Nat → ByteArray) (hcc : n ≤ c ∧ c ≤ maxLen) (hc : CellsAt w A n (fun i => .string (ev i))) :
  Calls Tryz.prog 66 #[.slice A n c] w fun e w' => e = .returned (.bool (!anyB n fun i => decide (((ev i).size : Int) > 255))) ∧ Wr [] w w' := by
 have h := has_short w A n c ev hcc hc (fun i => decide (((ev i).size : Int) > 255)) (fun i _ W _ => shortQ (ev i) W)
 go_enter Tryz.func66, Tryz.ntmps66
 go_wp2_with fail
 refine h.mono ?_
 rintro e w1 ⟨rfl, r1⟩
 go_wp2_with fail
 go_ret
 exact ⟨rfl, r1⟩
theorem few_any (w : World) (A : Option Addr) (n c : Nat) (ev : Nat → Int) (hcc : n ≤ c ∧ c ≤ maxLen) (hc : CellsAt w A n (fun i => .int .i64 (ev i))) :
  Calls Tryz.prog 68 #[.slice A n c] w fun e w' => e = .returned (.bool (!anyB n fun i => decide (ev i > 65535))) ∧ Wr [] w w' := by
 have h := has_few w A n c ev hcc hc (fun i => decide (ev i > 65535)) (fun i _ W _ => fewQ (ev i) W)
 go_enter Tryz.func68, Tryz.ntmps68
 go_wp2_with fail
 refine h.mono ?_
 rintro e w1 ⟨rfl, r1⟩
 go_wp2_with fail
 go_ret
 exact ⟨rfl, r1⟩
theorem small_any (w : World) (A : Option Addr) (n c : Nat) (ev : Nat → Int) (hcc : n ≤ c ∧ c ≤ maxLen) (hc : CellsAt w A n (fun i => .int .i64 (ev i))) :
  Calls Tryz.prog 72 #[.slice A n c] w fun e w' => e = .returned (.bool (!anyB n fun i => smallN (ev i))) ∧ Wr [] w w' := by
 have h := has_small w A n c ev hcc hc (fun i => smallN (ev i)) (fun i _ W _ => smallQ (ev i) W)
 go_enter Tryz.func72, Tryz.ntmps72
 go_wp2_with fail
 refine h.mono ?_
 rintro e w1 ⟨rfl, r1⟩
 go_wp2_with fail
 go_ret
 exact ⟨rfl, r1⟩
def typN (nt : Nat) (n : Int) : Bool := decide (n < 0) || decide (n ≥ 10 + (nt : Int))
theorem typQ (n : Int) (pi : Nat) (A : Option Addr) (nt c : Nat) (hcc : nt ≤ c ∧ c ≤ maxLen) (w : World) (hc : w.cell? ⟨pi, 2, none⟩ = some (.slice A nt c)) (h63 : nt ≤ 1000000) :
  Calls Tryz.prog 71 #[.int .i64 n, .pointer (some ⟨pi, 0, none⟩)] w fun e w' => e = .returned (.bool (typN nt n)) ∧ Wr [] w w' := by
 unfold typN
 unfold maxLen at hcc
 have hw : wrap64 (10 + (nt : Int)) = 10 + (nt : Int) := by unfold wrap64; omega
 have hw2 : IntKind.i64.wrap (10 + (nt : Int)) = 10 + (nt : Int) := by rw [IntKind.wrap_i64]; omega
 by_cases h : n < 0
 ·go_enter Tryz.func71, Tryz.ntmps71
  go_wp2_with fail
  go_ret
  exact ⟨by simp [h], Wr.refl [] w⟩
 ·go_enter Tryz.func71, Tryz.ntmps71
  go_wp2_with fail
  go_ret
  exact ⟨by rw [show decide (n < 0) = false from decide_eq_false (by omega), Bool.false_or]; try rfl, Wr.refl [] w⟩
theorem typ_any (w : World) (A : Option Addr) (n c : Nat) (ev : Nat → Int) (hcc : n ≤ c ∧ c ≤ maxLen) (hc : CellsAt w A n (fun i => .int .i64 (ev i))) (pi : Nat) (At : Option Addr) (nt ct : Nat) (htt : nt ≤ ct ∧ ct ≤ maxLen) (hct : w.cell? ⟨pi, 2, none⟩ = some (.slice At nt ct)) (h63 : nt ≤ 1000000) :
  Calls Tryz.prog 69 #[.slice A n c, .pointer (some ⟨pi, 0, none⟩)] w fun e w' => e = .returned (.bool (!anyB n fun i => typN nt (ev i))) ∧ Wr [] w w' := by
 have h := has_typ w A n c ev hcc hc (fun i => typN nt (ev i)) pi (fun i _ W r => typQ (ev i) pi At nt ct htt W (r.cellOf hct (by simp)) h63)
 have hmf : ∀ (fn : Fn) (first cap : Array Value) (w : World), (Instr.makeFunc fn first cap).run Tryz.prog w = .ok (.func fn first cap) w := fun _ _ _ _ => rfl
 go_enter Tryz.func69, Tryz.ntmps69
 go_wp2_with fail
 refine h.mono ?_
 rintro e w1 ⟨rfl, r1⟩
 go_wp2_with fail
 go_ret
 exact ⟨rfl, r1⟩
end Go.Proofs.YtmpbkfbjmmoapaaGreat

/- The values of constants: as what lies in an interface value; what a type assertion says of each. No conditions. -/
namespace Go.Proofs.YtmpbkfbjmmoapaaGreat
open Go.RowKit
set_option linter.unusedVariables false
set_option linter.unusedSimpArgs false
structure KV where
 sort : Nat
 n : Int
 t : Int
 s : ByteArray
def KV.is (x : KV) (k : Nat) : Bool := x.sort == k
def KV.num (x : KV) (k : Nat) : Int := if x.sort = k then x.n else 0
def KV.str (x : KV) : ByteArray := if x.sort = 5 then x.s else ⟨#[]⟩
def KV.val (x : KV) : Value :=
 if x.sort = 1 then .iface 110 (.int .i64 x.n) else if x.sort = 2 then .iface 111 (.int .u8 x.n) else if x.sort = 3 then .iface 112 (.bool (x.n == 1))
 else if x.sort = 4 then .iface 114 (.int .u16 x.n) else if x.sort = 5 then .iface 115 (.string x.s) else if x.sort = 6 then .iface 73 (.agg #[.int .i64 x.t, .int .i64 x.n])
 else if x.sort = 7 then .iface 117 (.agg #[]) else if x.sort = 8 then .iface 2 (.int .i64 x.n) else .nilIface
theorem as_self {T xT : TypeId} {u : TypeDesc} (hu : Tryz.prog.underlying T = some u) (hi : (match u with | .interface _ => true | _ => false) = false) (v : Value) (w : World) :
  (Instr.typeAssert (.iface T v) xT T true).run Tryz.prog w = .ok (.tuple #[v, .bool true]) w := by
 cases u <;> first | (cases hi; done) | simp [Instr.typeAssert, run_underlying hu]
theorem as_other {T xT t : TypeId} {u : TypeDesc} {z : Value} (hu : Tryz.prog.underlying T = some u) (hi : (match u with | .interface _ => true | _ => false) = false) (hz : ∀ w, (zeroValue T).run Tryz.prog w = .ok z w) (ht : t ≠ T) (v : Value) (w : World) :
  (Instr.typeAssert (.iface t v) xT T true).run Tryz.prog w = .ok (.tuple #[z, .bool false]) w := by
 cases u <;> first | (cases hi; done) | simp [Instr.typeAssert, run_underlying hu, ht, hz]
theorem as_nil {T xT : TypeId} {u : TypeDesc} {z : Value} (hu : Tryz.prog.underlying T = some u) (hi : (match u with | .interface _ => true | _ => false) = false) (hz : ∀ w, (zeroValue T).run Tryz.prog w = .ok z w) (w : World) :
  (Instr.typeAssert .nilIface xT T true).run Tryz.prog w = .ok (.tuple #[z, .bool false]) w := by
 cases u <;> first | (cases hi; done) | simp [Instr.typeAssert, run_underlying hu, hz]
end Go.Proofs.YtmpbkfbjmmoapaaGreat

/- Interfaces as they lie in memory: values, items, types, the whole. No conditions. -/
namespace Go.Proofs.YtmpbkfbjmmoapaaGreat
open Go.RowKit
set_option linter.unusedVariables false
set_option linter.unusedSimpArgs false
theorem flatF_at {α : Type} {g : α → List Value} {size : Nat} (hg : ∀ x, (g x).length = size) : ∀ (l : List α) (i j : Nat) (x : α), l[i]? = some x → j < size → (l.flatMap g)[i * size + j]? = (g x)[j]?
 | [], i, j, x, h, _ => by simp at h
 | y :: l, 0, j, x, h, hj => by
  simp only [qgzq, Option.some.injEq] at h
  subst h
  rw [List.flatMap_cons, Nat.zero_mul, Nat.zero_add, List.getElem?_append_left (by rw [hg]; exact hj)]
 | y :: l, i + 1, j, x, h, hj => by
  rw [qgsq] at h
  rw [List.flatMap_cons, List.getElem?_append_right (by rw [hg, Nat.succ_mul]; omega), hg, show (i + 1) * size + j - size = i * size + j by rw [Nat.succ_mul]; omega]
  exact flatF_at hg l i j x h hj
def AnyD.val : AnyD → Value
 | .nil => .nilIface
 | .whole n => .iface 110 (.int .i64 n)
 | .letter n => .iface 111 (.int .u8 n)
 | .truth b => .iface 112 (.bool b)
 | .bits n => .iface 114 (.int .u16 n)
 | .str s => .iface 115 (.string s)
 | .item t n => .iface 73 (.agg #[.int .i64 t, .int .i64 n])
 | .null => .iface 117 (.agg #[])
 | .other => .iface 9 (.string ⟨#[110, 111, 110, 101]⟩)
def AnyD.sort : AnyD → Nat
 | .nil => 0 | .whole _ => 1 | .letter _ => 2 | .truth _ => 3 | .bits _ => 4 | .str _ => 5 | .item _ _ => 6 | .null => 7 | .other => 8
def AnyD.wholeV : AnyD → Int | .whole n => n | _ => 0
def AnyD.letterV : AnyD → Int | .letter n => n | _ => 0
def AnyD.truthV : AnyD → Bool | .truth b => b | _ => false
def AnyD.bitsV : AnyD → Int | .bits n => n | _ => 0
def AnyD.strV : AnyD → ByteArray | .str s => s | _ => ⟨#[]⟩
def AnyD.itemT : AnyD → Int | .item t _ => t | _ => 0
def AnyD.itemN : AnyD → Int | .item _ n => n | _ => 0
theorem AnyD.val_one (v : AnyD) : v.val.oneCell' = true := by cases v <;> rfl
section
variable (v : AnyD) (w : World)
set_option maxRecDepth 100000 in
theorem anyAs_whole : (Instr.typeAssert v.val 20 110 true).run Tryz.prog w = .ok (.tuple #[.int .i64 v.wholeV, .bool (v.sort == 1)]) w := by
 cases v <;> simp only [AnyD.val, AnyD.wholeV, AnyD.sort] <;> first
  | (rw [as_self Tryz.underlying110 rfl]; rfl)
  | (rw [as_nil Tryz.underlying110 rfl Tryz.zeroValue110]; rfl)
  | (rw [as_other Tryz.underlying110 rfl Tryz.zeroValue110 (by decide)]; rfl)
set_option maxRecDepth 100000 in
theorem anyAs_letter : (Instr.typeAssert v.val 20 111 true).run Tryz.prog w = .ok (.tuple #[.int .u8 v.letterV, .bool (v.sort == 2)]) w := by
 cases v <;> simp only [AnyD.val, AnyD.letterV, AnyD.sort] <;> first
  | (rw [as_self Tryz.underlying111 rfl]; rfl)
  | (rw [as_nil Tryz.underlying111 rfl Tryz.zeroValue111]; rfl)
  | (rw [as_other Tryz.underlying111 rfl Tryz.zeroValue111 (by decide)]; rfl)
set_option maxRecDepth 100000 in
theorem anyAs_truth : (Instr.typeAssert v.val 20 112 true).run Tryz.prog w = .ok (.tuple #[.bool v.truthV, .bool (v.sort == 3)]) w := by
 cases v <;> simp only [AnyD.val, AnyD.truthV, AnyD.sort] <;> first
  | (rw [as_self Tryz.underlying112 rfl]; rfl)
  | (rw [as_nil Tryz.underlying112 rfl Tryz.zeroValue112]; rfl)
  | (rw [as_other Tryz.underlying112 rfl Tryz.zeroValue112 (by decide)]; rfl)
set_option maxRecDepth 100000 in
theorem anyAs_bits : (Instr.typeAssert v.val 20 114 true).run Tryz.prog w = .ok (.tuple #[.int .u16 v.bitsV, .bool (v.sort == 4)]) w := by
 cases v <;> simp only [AnyD.val, AnyD.bitsV, AnyD.sort] <;> first
  | (rw [as_self Tryz.underlying114 rfl]; rfl)
  | (rw [as_nil Tryz.underlying114 rfl Tryz.zeroValue114]; rfl)
  | (rw [as_other Tryz.underlying114 rfl Tryz.zeroValue114 (by decide)]; rfl)
set_option maxRecDepth 100000 in
theorem anyAs_string : (Instr.typeAssert v.val 20 115 true).run Tryz.prog w = .ok (.tuple #[.string v.strV, .bool (v.sort == 5)]) w := by
 cases v <;> simp only [AnyD.val, AnyD.strV, AnyD.sort] <;> first
  | (rw [as_self Tryz.underlying115 rfl]; rfl)
  | (rw [as_nil Tryz.underlying115 rfl Tryz.zeroValue115]; rfl)
  | (rw [as_other Tryz.underlying115 rfl Tryz.zeroValue115 (by decide)]; rfl)
set_option maxRecDepth 100000 in
theorem anyAs_item : (Instr.typeAssert v.val 20 73 true).run Tryz.prog w = .ok (.tuple #[.agg #[.int .i64 v.itemT, .int .i64 v.itemN], .bool (v.sort == 6)]) w := by
 cases v <;> simp only [AnyD.val, AnyD.itemT, AnyD.itemN, AnyD.sort] <;> first
  | (rw [as_self Tryz.underlying73 rfl]; rfl)
  | (rw [as_nil Tryz.underlying73 rfl Tryz.zeroValue73]; rfl)
  | (rw [as_other Tryz.underlying73 rfl Tryz.zeroValue73 (by decide)]; rfl)
set_option maxRecDepth 100000 in
theorem anyAs_null : (Instr.typeAssert v.val 20 117 true).run Tryz.prog w = .ok (.tuple #[.agg #[], .bool (v.sort == 7)]) w := by
 cases v <;> simp only [AnyD.val, AnyD.sort, AnyD.sort] <;> first
  | (rw [as_self Tryz.underlying117 rfl]; rfl)
  | (rw [as_nil Tryz.underlying117 rfl Tryz.zeroValue117]; rfl)
  | (rw [as_other Tryz.underlying117 rfl Tryz.zeroValue117 (by decide)]; rfl)
end
def ItmD.cells (x : ItmD) : List Value := [.string x.name, .int .u8 x.kind, .int .i64 x.type, x.v.val, .int .i64 x.at_]
theorem itm_len (x : ItmD) : x.cells.length = 5 := rfl
def UseD.cellsF (u : UseD) : List Value := [.string u.module, .int .u64 u.key]
theorem useF_len (x : UseD) : x.cellsF.length = 2 := rfl
def SlItms (w : World) (P : Nat → Prop) (v : Value) (l : List ItmD) : Prop := Sl w P 5 v l.length (l.flatMap ItmD.cells)
def SlUsesF (w : World) (P : Nat → Prop) (v : Value) (l : List UseD) : Prop := Sl w P 2 v l.length (l.flatMap UseD.cellsF)
def SlTys (w : World) (P : Nat → Prop) (v : Value) (l : List Ty) : Prop :=
 ∃ xs, Sl w P 12 v l.length xs ∧ (∀ u ∈ xs, u.oneCell' = true) ∧ ∀ i t, l[i]? = some t → ∃ vn vf va vp, (∀ j u, (t.cells vn vf va vp)[j]? = some u → xs[i * 12 + j]? = some u) ∧ Lists w P vn vf va vp t
structure FaceL (w : World) (P : Nat → Prop) (vu vt vi : Value) (f : FaceD) : Prop where
 uses : SlUsesF w P vu f.uses
 types : SlTys w P vt f.types
 items : SlItms w P vi f.items
def FaceD.val (f : FaceD) (vu vt vi : Value) : Value := .agg #[.string f.module, vu, vt, vi]
section
variable {w w' : World} {P Q : Nat → Prop} {v vu vt vi : Value}
theorem SlTys.keep {ls : List Nat} {l : List Ty} (h : SlTys w P v l) (hw : Wr ls w w') (hP : ∀ b, P b → b ∉ ls) : SlTys w' P v l := by
 obtain ⟨xs, h1, h2, h3⟩ := h
 refine ⟨xs, h1.keep hw hP, h2, fun i o hi => ?_⟩
 obtain ⟨vn, vf, va, vp, e1, e2⟩ := h3 i o hi
 exact ⟨vn, vf, va, vp, e1, e2.keep hw hP⟩
theorem SlTys.wr0 {l : List Ty} (h : SlTys w P v l) (hw : Wr [] w w') : SlTys w' P v l := h.keep hw (fun _ _ => by simp)
theorem SlTys.into {l : List Ty} (h : SlTys w P v l) (hP : ∀ b, P b → b < w.heap.size → Q b) : SlTys w Q v l := by
 obtain ⟨xs, h1, h2, h3⟩ := h
 refine ⟨xs, h1.into hP, h2, fun i o hi => ?_⟩
 obtain ⟨vn, vf, va, vp, e1, e2⟩ := h3 i o hi
 exact ⟨vn, vf, va, vp, e1, e2.into hP⟩
theorem SlTys.form {l : List Ty} (h : SlTys w P v l) : ∃ A c, v = .slice A l.length c ∧ l.length ≤ c ∧ c ≤ maxLen := by
 obtain ⟨xs, h1, h2, h3⟩ := h
 exact h1.form
theorem SlTys.nil (w : World) (P : Nat → Prop) : SlTys w P (.slice none 0 0) [] := ⟨[], Sl.nil _ _ _, by simp, fun i t h => by simp at h⟩
theorem ty_at {l : List Ty} (h : SlTys w P v l) {i : Nat} {t : Ty} (hi : l[i]? = some t) : ∃ b off c vn vf va vp, v = .slice (some ⟨b, off, none⟩) l.length c ∧ P b ∧ (∀ j u, (t.cells vn vf va vp)[j]? = some u → w.cell? ⟨b, off + i * 12 + j, none⟩ = some u) ∧ Lists w P vn vf va vp t := by
 obtain ⟨xs, h1, h2, h3⟩ := h
 obtain ⟨vn, vf, va, vp, e1, e2⟩ := h3 i t hi
 obtain ⟨b, off, c, e, _, _, hP, h4⟩ := Sl.thing h1 (by decide) (List.getElem?_eq_some_iff.1 hi).1
 refine ⟨b, off, c, vn, vf, va, vp, e, hP, fun j u hj => ?_, e2⟩
 have hj9 : j < 12 := (List.getElem?_eq_some_iff.1 hj).1
 rw [Nat.add_assoc]
 exact h4 j u hj9 (e1 j u hj)
theorem itm_at {l : List ItmD} (h : SlItms w P v l) {i : Nat} {x : ItmD} (hi : l[i]? = some x) : ∃ b off c, v = .slice (some ⟨b, off, none⟩) l.length c ∧ P b ∧ ∀ j u, x.cells[j]? = some u → w.cell? ⟨b, off + i * 5 + j, none⟩ = some u := by
 obtain ⟨b, off, c, e, _, _, hP, h4⟩ := Sl.thing h (by decide) (List.getElem?_eq_some_iff.1 hi).1
 refine ⟨b, off, c, e, hP, fun j u hj => ?_⟩
 have hj5 : j < 5 := (List.getElem?_eq_some_iff.1 hj).1
 rw [Nat.add_assoc]
 exact h4 j u hj5 (by rw [flatF_at itm_len l i j x hi hj5]; exact hj)
theorem useF_at {l : List UseD} (h : SlUsesF w P v l) {i : Nat} {x : UseD} (hi : l[i]? = some x) : ∃ b off c, v = .slice (some ⟨b, off, none⟩) l.length c ∧ P b ∧ ∀ j u, x.cellsF[j]? = some u → w.cell? ⟨b, off + i * 2 + j, none⟩ = some u := by
 obtain ⟨b, off, c, e, _, _, hP, h4⟩ := Sl.thing h (by decide) (List.getElem?_eq_some_iff.1 hi).1
 refine ⟨b, off, c, e, hP, fun j u hj => ?_⟩
 have hj5 : j < 2 := (List.getElem?_eq_some_iff.1 hj).1
 rw [Nat.add_assoc]
 exact h4 j u hj5 (by rw [flatF_at useF_len l i j x hi hj5]; exact hj)
theorem FaceL.keep {ls : List Nat} {f : FaceD} (h : FaceL w P vu vt vi f) (hw : Wr ls w w') (hP : ∀ b, P b → b ∉ ls) : FaceL w' P vu vt vi f := ⟨Sl.keep h.uses hw hP, h.types.keep hw hP, Sl.keep h.items hw hP⟩
theorem FaceL.wr0 {f : FaceD} (h : FaceL w P vu vt vi f) (hw : Wr [] w w') : FaceL w' P vu vt vi f := h.keep hw (fun _ _ => by simp)
theorem FaceL.into {f : FaceD} (h : FaceL w P vu vt vi f) (hP : ∀ b, P b → b < w.heap.size → Q b) : FaceL w Q vu vt vi f := ⟨Sl.into h.uses hP, h.types.into hP, Sl.into h.items hP⟩
end
theorem short_list {l : List ByteArray} {ev : Nat → ByteArray} (h : ∀ (i : Nat) (s : ByteArray), l[i]? = some s → ev i = s) : (!anyB l.length fun i => decide (((ev i).size : Int) > 255)) = l.all shB := by
 unfold anyB shB
 rw [Bool.eq_iff_iff]
 simp only [Bool.not_eq_true', List.any_eq_false, List.all_eq_true, List.mem_range, decide_eq_true_eq]
 constructor
 ·intro h1 s hs
  obtain ⟨i, hi⟩ := List.getElem?_of_mem hs
  have := h1 i (List.getElem?_eq_some_iff.1 hi).1
  rw [h i s hi] at this
  omega
 ·intro h1 i hi
  have := h1 _ (List.getElem_mem hi)
  rw [h i _ (List.getElem?_eq_getElem hi)]
  omega
theorem SlStrs.cellsAt {w : World} {P : Nat → Prop} {A : Option Addr} {c : Nat} {l : List ByteArray} (h : SlStrs w P (.slice A l.length c) l) : CellsAt w A l.length (fun i => .string ((l[i]?).getD ⟨#[]⟩)) := by
 intro i hi
 obtain ⟨b, off, c', e, _, _, _, hc⟩ := Sl.at_ h (j := i) (u := .string l[i]) (by rw [List.getElem?_map, List.getElem?_eq_getElem hi]; rfl)
 injection e with e1 _ _
 exact ⟨b, off, e1, by rw [hc]; simp [List.getElem?_eq_getElem hi]⟩
theorem SlInts.cellsAt {w : World} {P : Nat → Prop} {A : Option Addr} {c : Nat} {l : List Int} (h : SlInts w P (.slice A l.length c) l) : CellsAt w A l.length (fun i => .int .i64 ((l[i]?).getD 0)) := by
 intro i hi
 obtain ⟨b, off, c', e, _, _, _, hc⟩ := Sl.at_ h (j := i) (u := .int .i64 l[i]) (by rw [List.getElem?_map, List.getElem?_eq_getElem hi]; rfl)
 injection e with e1 _ _
 exact ⟨b, off, e1, by rw [hc]; simp [List.getElem?_eq_getElem hi]⟩
theorem blk_cells {w : World} {g : Nat} {t : TypeId} {cs : Array Value} {n : Nat} {ev : Nat → Value} (h : Blk w g t cs) (hn : ∀ i, i < n → cs[i]? = some (ev i)) : CellsAt w (some ⟨g, 0, none⟩) n ev := fun i hi => ⟨g, 0, rfl, by rw [Nat.zero_add, h.cell]; exact hn i hi⟩
end Go.Proofs.YtmpbkfbjmmoapaaGreat

/- Arguments opened: a slice of integers, as a list. No conditions. -/
namespace Go.Proofs.YtmpbkfbjmmoapaaGreat
open Go.ChangeShapes Go.WideShapes Go.ChangeAt Go.RowKit
set_option linter.unusedVariables false
def IsInts (k : IntKind) (w : World) (v : Value) : Prop :=
 ∃ (a : Option Addr) (len cap : Nat) (zs : List Int), v = .slice a len cap ∧ len ≤ cap ∧ cap ≤ maxLen ∧ zs.length = len ∧ (∀ i, i < len → (Lit.int k (zs.getD i 0)).wf = true) ∧
  ∀ i, i < len → ∃ b off, a = some ⟨b, off, none⟩ ∧ w.cell? ⟨b, off + i, none⟩ = some (.int k (zs.getD i 0))
theorem open_ints_arg {H : Type} {enc : TypeId × Value → H} {P : Program} {W : World} {r : Reach} {b0 : Nat} {t e : TypeId} {k : IntKind} {v : Value} {d : DataW H} {p : List MemPlace}
  (ht : P.underlying t = some (.slice e)) (he : P.underlying e = some (.int k)) (hC : P.cellsOf e = 1)
  (hv : Value.okWide P W r b0 t v) (h : DataW.Trod enc P W 0 (fun _ => true) true t v d p) : IsInts k W v := by
 obtain ⟨a, len, cap, rfl⟩ := okWide_slice ht hv
 obtain ⟨fuel, hf⟩ := h
 rcases open_ints ht he hC hf with ⟨hcs, _⟩ | ⟨x, l, c, zs, hcs, _, hl, hm, hz, _, hcell, hwz⟩
 ·simp [Value.cells] at hcs
  obtain ⟨rfl, rfl, rfl⟩ := hcs
  exact ⟨_, _, _, [], rfl, by omega, by simp, rfl, fun i hi => absurd hi (by omega), fun i hi => absurd hi (by omega)⟩
 ·simp [Value.cells] at hcs
  obtain ⟨rfl, rfl, rfl⟩ := hcs
  have hzl : zs.length = cap := by simpa using hz
  refine ⟨_, _, _, zs.take len, rfl, hl, hm, by rw [List.length_take]; omega, fun i hi => ?_, fun i hi => ?_⟩
  ·have : (zs.take len).getD i 0 = zs[i]'(by omega) := by simp [List.getD, hi, List.getElem?_eq_getElem (show i < zs.length by omega)]
   rw [this]
   exact hwz _ (List.getElem_mem _)
  ·have hc := hcell i (by omega)
   obtain ⟨b, off, spot⟩ := x
   have hc0 := hcell 0 (by omega)
   have hspot : spot = none := by simpa [Addr.add] using World.cell?_spot hc0
   subst hspot
   refine ⟨b, off, rfl, ?_⟩
   have : (zs.take len).getD i 0 = zs.getD i 0 := by simp [List.getD, hi]
   rw [this]
   simpa [Addr.add_lit] using hc
end Go.Proofs.YtmpbkfbjmmoapaaGreat

/- Arguments opened: a slice of structs of one-cell fields, cell by cell. No conditions. -/
namespace Go.Proofs.YtmpbkfbjmmoapaaGreat
open Go.ChangeShapes Go.WideShapes Go.ChangeAt Go.RowKit Go.Deep
set_option linter.unusedVariables false
section
variable {H : Type} {enc : TypeId × Value → H} {P : Program} {w : World} {base : Nat} {spare : Nat → Bool} {held : Bool}
end
end Go.Proofs.YtmpbkfbjmmoapaaGreat
