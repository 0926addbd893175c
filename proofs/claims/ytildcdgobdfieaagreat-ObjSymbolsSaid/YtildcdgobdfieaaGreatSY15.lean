/- slices.ContainsFunc of texts and of numbers, over what its question answers; iface's short, few, small: walked. Conditions: the list is there. -/
import Derived.Test.YtildcdgobdfieaaGreatSY01
import Derived.Test.YtildcdgobdfieaaGreatSY07
import Derived.Deep.Cut
import Derived.Deep.DeepCutAuto
import Derived.Test.YtildcdgobdfieaaGreatSY14
import Derived.Test.YtildcdgobdfieaaGreatSY05
import Derived.Deep.DrawnRows
import Derived.Laws.EntriesVeiled
set_option linter.unusedVariables false
set_option linter.unusedSimpArgs false
set_option maxRecDepth 100000
set_option maxHeartbeats 32000000
namespace Go.Proofs.YtildcdgobdfieaaGreat
open Go.RowKit
def anyB (n : Nat) (p : Nat → Bool) : Bool := (List.range n).any p
theorem anyB_yes {n : Nat} {p : Nat → Bool} {k : Nat} (hk : k < n) (h : p k = true) : anyB n p = true := List.any_eq_true.2 ⟨k, List.mem_range.2 hk, h⟩
theorem anyB_no {n : Nat} {p : Nat → Bool} (h : ∀ j, j < n → p j = false) : anyB n p = false := by
 unfold anyB
 rw [List.any_eq_false]
 intro j hj
 rw [h j (List.mem_range.1 hj)]
 simp
def CellsAt (w : World) (A : Option Addr) (n : Nat) (ev : Nat → Value) : Prop := ∀ i, i < n → ∃ b off, A = some ⟨b, off, none⟩ ∧ w.cell? ⟨b, off + i, none⟩ = some (ev i)
def IdxP (w : World) (n : Nat) (p : Nat → Bool) (e : Ending) (w' : World) : Prop := ∃ r : Int, e = .returned (.int .i64 r) ∧ Wr [] w w' ∧ decide (r ≥ 0) = anyB n p
theorem idx_short (w : World) (A : Option Addr) (n c : Nat) (ev : Nat → ByteArray) (hcc : n ≤ c ∧ c ≤ maxLen) (hc : CellsAt w A n (fun i => .string (ev i))) (p : Nat → Bool)
  (hf : ∀ i, i < n → ∀ W, Wr [] w W → Calls Tryz.prog 171 #[.string (ev i)] W fun e w' => e = .returned (.bool (p i)) ∧ Wr [] W w') :
  Calls Tryz.prog 178 #[.slice A n c, .func (.func 171) #[] #[]] w (IdxP w n p) := by
 unfold maxLen at hcc
 have hen : ∀ args w, (callFunc 171 args).run Tryz.prog w = .ok (.enter 171 args) w := fun args w => rfl
 go_enter Tryz.func178, Tryz.ntmps178
 go_wp2_with fail
 go_loopw [8] (fun i wr => ∃ k : Nat, k ≤ n ∧ i = .int .i64 k ∧ Wr [] w wr ∧ ∀ j, j < k → p j = false) (fun i _ => n - (intOf i).toNat)
 case atStart => exact ⟨0, by omega, rfl, Wr.refl _ _, fun j h => absurd h (by omega)⟩
 case round =>
  obtain ⟨k, hk, rfl, hw, hno⟩ := hrel
  by_cases hlt : k < n
  ·obtain ⟨b, off, rfl, hcell⟩ := hc k hlt
   replace hcell := hw.cellOf hcell (by simp)
   have hfk := hf k hlt _ hw
   have h0 : (0 : Int) ≤ (k : Int) := by omega
   have h1 : (k : Int) < (n : Int) := by omega
   have HNO := qh hno
   have HW := qh hw
   clear hf hno hw
   cases hp : p k with
   | true =>
    rw [hp] at hfk
    have hv := anyB_yes hlt hp
    clear hp
    go_wp2_with fail
    refine hfk.mono ?_
    rintro e w1 ⟨rfl, r1⟩
    go_wp2_with fail
    go_ret
    exact ⟨k, rfl, HW.out.trans r1, by rw [hv]; simp⟩
   | false =>
    rw [hp] at hfk
    have hno' : ∀ j, j < k + 1 → p j = false := fun j hj => by
     by_cases hjk : j = k
     ·subst hjk; exact hp
     ·exact HNO.out j (by omega)
    have HNO' := qh hno'
    clear hp hno'
    go_wp2_with fail
    refine hfk.mono ?_
    rintro e w1 ⟨rfl, r1⟩
    go_wp2_with fail
    go_roundw
    case rel => exact ⟨k + 1, by omega, by go_num, HW.out.trans r1, HNO'.out⟩
    case measure => simp [intOf]; omega
  ·have hkn : k = n := by omega
   subst hkn
   have hv := anyB_no hno
   clear hno hc hf
   go_wp2_with fail
   go_ret
   exact ⟨-1, rfl, hw, by rw [hv]; decide⟩
theorem has_short (w : World) (A : Option Addr) (n c : Nat) (ev : Nat → ByteArray) (hcc : n ≤ c ∧ c ≤ maxLen) (hc : CellsAt w A n (fun i => .string (ev i))) (p : Nat → Bool)
  (hf : ∀ i, i < n → ∀ W, Wr [] w W → Calls Tryz.prog 171 #[.string (ev i)] W fun e w' => e = .returned (.bool (p i)) ∧ Wr [] W w') :
  Calls Tryz.prog 170 #[.slice A n c, .func (.func 171) #[] #[]] w fun e w' => e = .returned (.bool (anyB n p)) ∧ Wr [] w w' := by
 have h := idx_short w A n c ev hcc hc p hf
 go_enter Tryz.func170, Tryz.ntmps170
 go_wp2_with fail
 refine h.mono ?_
 rintro e w1 ⟨r, rfl, r1, hr⟩
 go_wp2_with fail
 go_ret
 exact ⟨by rw [← hr]; rfl, r1⟩
theorem idx_few (w : World) (A : Option Addr) (n c : Nat) (ev : Nat → Int) (hcc : n ≤ c ∧ c ≤ maxLen) (hc : CellsAt w A n (fun i => .int .i64 (ev i))) (p : Nat → Bool)
  (hf : ∀ i, i < n → ∀ W, Wr [] w W → Calls Tryz.prog 174 #[.int .i64 (ev i)] W fun e w' => e = .returned (.bool (p i)) ∧ Wr [] W w') :
  Calls Tryz.prog 175 #[.slice A n c, .func (.func 174) #[] #[]] w (IdxP w n p) := by
 unfold maxLen at hcc
 have hen : ∀ args w, (callFunc 174 args).run Tryz.prog w = .ok (.enter 174 args) w := fun args w => rfl
 go_enter Tryz.func175, Tryz.ntmps175
 go_wp2_with fail
 go_loopw [8] (fun i wr => ∃ k : Nat, k ≤ n ∧ i = .int .i64 k ∧ Wr [] w wr ∧ ∀ j, j < k → p j = false) (fun i _ => n - (intOf i).toNat)
 case atStart => exact ⟨0, by omega, rfl, Wr.refl _ _, fun j h => absurd h (by omega)⟩
 case round =>
  obtain ⟨k, hk, rfl, hw, hno⟩ := hrel
  by_cases hlt : k < n
  ·obtain ⟨b, off, rfl, hcell⟩ := hc k hlt
   replace hcell := hw.cellOf hcell (by simp)
   have hfk := hf k hlt _ hw
   have h0 : (0 : Int) ≤ (k : Int) := by omega
   have h1 : (k : Int) < (n : Int) := by omega
   have HNO := qh hno
   have HW := qh hw
   clear hf hno hw
   cases hp : p k with
   | true =>
    rw [hp] at hfk
    have hv := anyB_yes hlt hp
    clear hp
    go_wp2_with fail
    refine hfk.mono ?_
    rintro e w1 ⟨rfl, r1⟩
    go_wp2_with fail
    go_ret
    exact ⟨k, rfl, HW.out.trans r1, by rw [hv]; simp⟩
   | false =>
    rw [hp] at hfk
    have hno' : ∀ j, j < k + 1 → p j = false := fun j hj => by
     by_cases hjk : j = k
     ·subst hjk; exact hp
     ·exact HNO.out j (by omega)
    have HNO' := qh hno'
    clear hp hno'
    go_wp2_with fail
    refine hfk.mono ?_
    rintro e w1 ⟨rfl, r1⟩
    go_wp2_with fail
    go_roundw
    case rel => exact ⟨k + 1, by omega, by go_num, HW.out.trans r1, HNO'.out⟩
    case measure => simp [intOf]; omega
  ·have hkn : k = n := by omega
   subst hkn
   have hv := anyB_no hno
   clear hno hc hf
   go_wp2_with fail
   go_ret
   exact ⟨-1, rfl, hw, by rw [hv]; decide⟩
theorem has_few (w : World) (A : Option Addr) (n c : Nat) (ev : Nat → Int) (hcc : n ≤ c ∧ c ≤ maxLen) (hc : CellsAt w A n (fun i => .int .i64 (ev i))) (p : Nat → Bool)
  (hf : ∀ i, i < n → ∀ W, Wr [] w W → Calls Tryz.prog 174 #[.int .i64 (ev i)] W fun e w' => e = .returned (.bool (p i)) ∧ Wr [] W w') :
  Calls Tryz.prog 156 #[.slice A n c, .func (.func 174) #[] #[]] w fun e w' => e = .returned (.bool (anyB n p)) ∧ Wr [] w w' := by
 have h := idx_few w A n c ev hcc hc p hf
 go_enter Tryz.func156, Tryz.ntmps156
 go_wp2_with fail
 refine h.mono ?_
 rintro e w1 ⟨r, rfl, r1, hr⟩
 go_wp2_with fail
 go_ret
 exact ⟨by rw [← hr]; rfl, r1⟩
theorem idx_small (w : World) (A : Option Addr) (n c : Nat) (ev : Nat → Int) (hcc : n ≤ c ∧ c ≤ maxLen) (hc : CellsAt w A n (fun i => .int .i64 (ev i))) (p : Nat → Bool)
  (hf : ∀ i, i < n → ∀ W, Wr [] w W → Calls Tryz.prog 177 #[.int .i64 (ev i)] W fun e w' => e = .returned (.bool (p i)) ∧ Wr [] W w') :
  Calls Tryz.prog 180 #[.slice A n c, .func (.func 177) #[] #[]] w (IdxP w n p) := by
 unfold maxLen at hcc
 have hen : ∀ args w, (callFunc 177 args).run Tryz.prog w = .ok (.enter 177 args) w := fun args w => rfl
 go_enter Tryz.func180, Tryz.ntmps180
 go_wp2_with fail
 go_loopw [8] (fun i wr => ∃ k : Nat, k ≤ n ∧ i = .int .i64 k ∧ Wr [] w wr ∧ ∀ j, j < k → p j = false) (fun i _ => n - (intOf i).toNat)
 case atStart => exact ⟨0, by omega, rfl, Wr.refl _ _, fun j h => absurd h (by omega)⟩
 case round =>
  obtain ⟨k, hk, rfl, hw, hno⟩ := hrel
  by_cases hlt : k < n
  ·obtain ⟨b, off, rfl, hcell⟩ := hc k hlt
   replace hcell := hw.cellOf hcell (by simp)
   have hfk := hf k hlt _ hw
   have h0 : (0 : Int) ≤ (k : Int) := by omega
   have h1 : (k : Int) < (n : Int) := by omega
   have HNO := qh hno
   have HW := qh hw
   clear hf hno hw
   cases hp : p k with
   | true =>
    rw [hp] at hfk
    have hv := anyB_yes hlt hp
    clear hp
    go_wp2_with fail
    refine hfk.mono ?_
    rintro e w1 ⟨rfl, r1⟩
    go_wp2_with fail
    go_ret
    exact ⟨k, rfl, HW.out.trans r1, by rw [hv]; simp⟩
   | false =>
    rw [hp] at hfk
    have hno' : ∀ j, j < k + 1 → p j = false := fun j hj => by
     by_cases hjk : j = k
     ·subst hjk; exact hp
     ·exact HNO.out j (by omega)
    have HNO' := qh hno'
    clear hp hno'
    go_wp2_with fail
    refine hfk.mono ?_
    rintro e w1 ⟨rfl, r1⟩
    go_wp2_with fail
    go_roundw
    case rel => exact ⟨k + 1, by omega, by go_num, HW.out.trans r1, HNO'.out⟩
    case measure => simp [intOf]; omega
  ·have hkn : k = n := by omega
   subst hkn
   have hv := anyB_no hno
   clear hno hc hf
   go_wp2_with fail
   go_ret
   exact ⟨-1, rfl, hw, by rw [hv]; decide⟩
theorem has_small (w : World) (A : Option Addr) (n c : Nat) (ev : Nat → Int) (hcc : n ≤ c ∧ c ≤ maxLen) (hc : CellsAt w A n (fun i => .int .i64 (ev i))) (p : Nat → Bool)
  (hf : ∀ i, i < n → ∀ W, Wr [] w W → Calls Tryz.prog 177 #[.int .i64 (ev i)] W fun e w' => e = .returned (.bool (p i)) ∧ Wr [] W w') :
  Calls Tryz.prog 176 #[.slice A n c, .func (.func 177) #[] #[]] w fun e w' => e = .returned (.bool (anyB n p)) ∧ Wr [] w w' := by
 have h := idx_small w A n c ev hcc hc p hf
 go_enter Tryz.func176, Tryz.ntmps176
 go_wp2_with fail
 refine h.mono ?_
 rintro e w1 ⟨r, rfl, r1, hr⟩
 go_wp2_with fail
 go_ret
 exact ⟨by rw [← hr]; rfl, r1⟩
theorem idx_typ (w : World) (A : Option Addr) (n c : Nat) (ev : Nat → Int) (hcc : n ≤ c ∧ c ≤ maxLen) (hc : CellsAt w A n (fun i => .int .i64 (ev i))) (p : Nat → Bool) (pi : Nat)
  (hf : ∀ i, i < n → ∀ W, Wr [] w W → Calls Tryz.prog 157 #[.int .i64 (ev i), .pointer (some ⟨pi, 0, none⟩)] W fun e w' => e = .returned (.bool (p i)) ∧ Wr [] W w') :
  Calls Tryz.prog 175 #[.slice A n c, .func (.func 157) #[] #[.pointer (some ⟨pi, 0, none⟩)]] w (IdxP w n p) := by
 unfold maxLen at hcc
 have hen : ∀ args w, (callFunc 157 args).run Tryz.prog w = .ok (.enter 157 args) w := fun args w => rfl
 go_enter Tryz.func175, Tryz.ntmps175
 go_wp2_with fail
 go_loopw [8] (fun i wr => ∃ k : Nat, k ≤ n ∧ i = .int .i64 k ∧ Wr [] w wr ∧ ∀ j, j < k → p j = false) (fun i _ => n - (intOf i).toNat)
 case atStart => exact ⟨0, by omega, rfl, Wr.refl _ _, fun j h => absurd h (by omega)⟩
 case round =>
  obtain ⟨k, hk, rfl, hw, hno⟩ := hrel
  by_cases hlt : k < n
  ·obtain ⟨b, off, rfl, hcell⟩ := hc k hlt
   replace hcell := hw.cellOf hcell (by simp)
   have hfk := hf k hlt _ hw
   have h0 : (0 : Int) ≤ (k : Int) := by omega
   have h1 : (k : Int) < (n : Int) := by omega
   have HNO := qh hno
   have HW := qh hw
   clear hf hno hw
   cases hp : p k with
   | true =>
    rw [hp] at hfk
    have hv := anyB_yes hlt hp
    clear hp
    go_wp2_with fail
    refine hfk.mono ?_
    rintro e w1 ⟨rfl, r1⟩
    go_wp2_with fail
    go_ret
    exact ⟨k, rfl, HW.out.trans r1, by rw [hv]; simp⟩
   | false =>
    rw [hp] at hfk
    have hno' : ∀ j, j < k + 1 → p j = false := fun j hj => by
     by_cases hjk : j = k
     ·subst hjk; exact hp
     ·exact HNO.out j (by omega)
    have HNO' := qh hno'
    clear hp hno'
    go_wp2_with fail
    refine hfk.mono ?_
    rintro e w1 ⟨rfl, r1⟩
    go_wp2_with fail
    go_roundw
    case rel => exact ⟨k + 1, by omega, by go_num, HW.out.trans r1, HNO'.out⟩
    case measure => simp [intOf]; omega
  ·have hkn : k = n := by omega
   subst hkn
   have hv := anyB_no hno
   clear hno hc hf
   go_wp2_with fail
   go_ret
   exact ⟨-1, rfl, hw, by rw [hv]; decide⟩
theorem has_typ (w : World) (A : Option Addr) (n c : Nat) (ev : Nat → Int) (hcc : n ≤ c ∧ c ≤ maxLen) (hc : CellsAt w A n (fun i => .int .i64 (ev i))) (p : Nat → Bool) (pi : Nat)
  (hf : ∀ i, i < n → ∀ W, Wr [] w W → Calls Tryz.prog 157 #[.int .i64 (ev i), .pointer (some ⟨pi, 0, none⟩)] W fun e w' => e = .returned (.bool (p i)) ∧ Wr [] W w') :
  Calls Tryz.prog 156 #[.slice A n c, .func (.func 157) #[] #[.pointer (some ⟨pi, 0, none⟩)]] w fun e w' => e = .returned (.bool (anyB n p)) ∧ Wr [] w w' := by
 have h := idx_typ w A n c ev hcc hc p pi hf
 go_enter Tryz.func156, Tryz.ntmps156
 go_wp2_with fail
 refine h.mono ?_
 rintro e w1 ⟨r, rfl, r1, hr⟩
 go_wp2_with fail
 go_ret
 exact ⟨by rw [← hr]; rfl, r1⟩
end Go.Proofs.YtildcdgobdfieaaGreat

namespace Go.Proofs.YtildcdgobdfieaaGreat
open Go.RowKit
theorem shortQ (s : ByteArray) (w : World) : Calls Tryz.prog 171 #[.string s] w fun e w' => e = .returned (.bool (decide ((s.size : Int) > 255))) ∧ Wr [] w w' := by
 go_enter Tryz.func171, Tryz.ntmps171
 go_wp2_with fail
 go_ret
 exact ⟨rfl, Wr.refl [] w⟩
theorem fewQ (n : Int) (w : World) : Calls Tryz.prog 174 #[.int .i64 n] w fun e w' => e = .returned (.bool (decide (n > 65535))) ∧ Wr [] w w' := by
 go_enter Tryz.func174, Tryz.ntmps174
 go_wp2_with fail
 go_ret
 exact ⟨rfl, Wr.refl [] w⟩
def smallN (n : Int) : Bool := decide (n < -2147483648) || decide (n > 2147483647)
theorem smallQ (n : Int) (w : World) : Calls Tryz.prog 177 #[.int .i64 n] w fun e w' => e = .returned (.bool (smallN n)) ∧ Wr [] w w' := by
 unfold smallN
 by_cases h : n < -2147483648
 ·go_enter Tryz.func177, Tryz.ntmps177
  go_wp2_with fail
  go_ret
  exact ⟨by simp [h], Wr.refl [] w⟩
 ·go_enter Tryz.func177, Tryz.ntmps177
  go_wp2_with fail
  go_ret
  exact ⟨by rw [show decide (n < -2147483648) = false from decide_eq_false (by omega), Bool.false_or]; try rfl, Wr.refl [] w⟩
theorem short_any (w : World) (A : Option Addr) (n c : Nat) (ev : Nat → ByteArray) (hcc : n ≤ c ∧ c ≤ maxLen) (hc : CellsAt w A n (fun i => .string (ev i))) :
  Calls Tryz.prog 152 #[.slice A n c] w fun e w' => e = .returned (.bool (!anyB n fun i => decide (((ev i).size : Int) > 255))) ∧ Wr [] w w' := by
 have h := has_short w A n c ev hcc hc (fun i => decide (((ev i).size : Int) > 255)) (fun i _ W _ => shortQ (ev i) W)
 go_enter Tryz.func152, Tryz.ntmps152
 go_wp2_with fail
 refine h.mono ?_
 rintro e w1 ⟨rfl, r1⟩
 go_wp2_with fail
 go_ret
 exact ⟨rfl, r1⟩
theorem few_any (w : World) (A : Option Addr) (n c : Nat) (ev : Nat → Int) (hcc : n ≤ c ∧ c ≤ maxLen) (hc : CellsAt w A n (fun i => .int .i64 (ev i))) :
  Calls Tryz.prog 154 #[.slice A n c] w fun e w' => e = .returned (.bool (!anyB n fun i => decide (ev i > 65535))) ∧ Wr [] w w' := by
 have h := has_few w A n c ev hcc hc (fun i => decide (ev i > 65535)) (fun i _ W _ => fewQ (ev i) W)
 go_enter Tryz.func154, Tryz.ntmps154
 go_wp2_with fail
 refine h.mono ?_
 rintro e w1 ⟨rfl, r1⟩
 go_wp2_with fail
 go_ret
 exact ⟨rfl, r1⟩
theorem small_any (w : World) (A : Option Addr) (n c : Nat) (ev : Nat → Int) (hcc : n ≤ c ∧ c ≤ maxLen) (hc : CellsAt w A n (fun i => .int .i64 (ev i))) :
  Calls Tryz.prog 158 #[.slice A n c] w fun e w' => e = .returned (.bool (!anyB n fun i => smallN (ev i))) ∧ Wr [] w w' := by
 have h := has_small w A n c ev hcc hc (fun i => smallN (ev i)) (fun i _ W _ => smallQ (ev i) W)
 go_enter Tryz.func158, Tryz.ntmps158
 go_wp2_with fail
 refine h.mono ?_
 rintro e w1 ⟨rfl, r1⟩
 go_wp2_with fail
 go_ret
 exact ⟨rfl, r1⟩
def typN (nt : Nat) (n : Int) : Bool := decide (n < 0) || decide (n ≥ 10 + (nt : Int))
theorem typQ (n : Int) (pi : Nat) (A : Option Addr) (nt c : Nat) (hcc : nt ≤ c ∧ c ≤ maxLen) (w : World) (hc : w.cell? ⟨pi, 2, none⟩ = some (.slice A nt c)) (h63 : nt ≤ 1000000) :
  Calls Tryz.prog 157 #[.int .i64 n, .pointer (some ⟨pi, 0, none⟩)] w fun e w' => e = .returned (.bool (typN nt n)) ∧ Wr [] w w' := by
 unfold typN
 unfold maxLen at hcc
 have hw : wrap64 (10 + (nt : Int)) = 10 + (nt : Int) := by unfold wrap64; omega
 have hw2 : IntKind.i64.wrap (10 + (nt : Int)) = 10 + (nt : Int) := by rw [IntKind.wrap_i64]; omega
 by_cases h : n < 0
 ·go_enter Tryz.func157, Tryz.ntmps157
  go_wp2_with fail
  go_ret
  exact ⟨by simp [h], Wr.refl [] w⟩
 ·go_enter Tryz.func157, Tryz.ntmps157
  go_wp2_with fail
  go_ret
  exact ⟨by rw [show decide (n < 0) = false from decide_eq_false (by omega), Bool.false_or]; try rfl, Wr.refl [] w⟩
theorem typ_any (w : World) (A : Option Addr) (n c : Nat) (ev : Nat → Int) (hcc : n ≤ c ∧ c ≤ maxLen) (hc : CellsAt w A n (fun i => .int .i64 (ev i))) (pi : Nat) (At : Option Addr) (nt ct : Nat) (htt : nt ≤ ct ∧ ct ≤ maxLen) (hct : w.cell? ⟨pi, 2, none⟩ = some (.slice At nt ct)) (h63 : nt ≤ 1000000) :
  Calls Tryz.prog 155 #[.slice A n c, .pointer (some ⟨pi, 0, none⟩)] w fun e w' => e = .returned (.bool (!anyB n fun i => typN nt (ev i))) ∧ Wr [] w w' := by
 have h := has_typ w A n c ev hcc hc (fun i => typN nt (ev i)) pi (fun i _ W r => typQ (ev i) pi At nt ct htt W (r.cellOf hct (by simp)) h63)
 have hmf : ∀ (fn : Fn) (first cap : Array Value) (w : World), (Instr.makeFunc fn first cap).run Tryz.prog w = .ok (.func fn first cap) w := fun _ _ _ _ => rfl
 go_enter Tryz.func155, Tryz.ntmps155
 go_wp2_with fail
 refine h.mono ?_
 rintro e w1 ⟨rfl, r1⟩
 go_wp2_with fail
 go_ret
 exact ⟨rfl, r1⟩
end Go.Proofs.YtildcdgobdfieaaGreat

namespace Go.Proofs.YtildcdgobdfieaaGreat
open Go.RowKit
end Go.Proofs.YtildcdgobdfieaaGreat

namespace Go.Proofs.YtildcdgobdfieaaGreat
open Go
section
variable {P : Program} {ops : Array Oper} {Q : Exit → Act → World → Prop} {md : Region.Mode} {S : Array Bool → World → Prop}
def puts (ds : List (Nat × Nat)) (σ : Nat → Value) (a : Act) : Act := ds.foldl (fun a d => a.put (some d.2) (σ d.1)) a
def upd (σ : Nat → Value) (i : Nat) (v : Value) : Nat → Value := fun j => if j = i then v else σ j
theorem upd_same (σ : Nat → Value) (i : Nat) (v : Value) : upd σ i v i = v := if_pos rfl
theorem upd_ne (σ : Nat → Value) {i j : Nat} (v : Value) (h : j ≠ i) : upd σ i v j = σ j := if_neg h
theorem put_none (a : Act) (v : Value) : a.put none v = a := rfl
theorem put_comm (a : Act) {s t : Nat} (u v : Value) (h : s ≠ t) : (a.put (some s) u).put (some t) v = (a.put (some t) v).put (some s) u := by
 simp only [Act.put]
 rw [Array.setIfInBounds_comm _ _ h]
theorem put_again (a : Act) (s : Nat) (u v : Value) : (a.put (some s) u).put (some s) v = a.put (some s) v := by
 simp [Act.put]
theorem puts_far (σ : Nat → Value) {s : Nat} (v : Value) : ∀ (ds : List (Nat × Nat)) (a : Act), s ∉ ds.map (·.2) → (puts ds σ a).put (some s) v = puts ds σ (a.put (some s) v)
 | [], _, _ => rfl
 | (j, t) :: ds, a, h => by
  simp only [List.map_cons, List.mem_cons, not_or] at h
  have h1 := puts_far σ v ds (a.put (some t) (σ j)) h.2
  rw [put_comm a (σ j) v (fun e => h.1 e.symm)] at h1
  exact h1
theorem puts_upd (σ : Nat → Value) {i : Nat} (v : Value) : ∀ (ds : List (Nat × Nat)) (a : Act), i ∉ ds.map (·.1) → puts ds (upd σ i v) a = puts ds σ a
 | [], _, _ => rfl
 | (j, t) :: ds, a, h => by
  simp only [List.map_cons, List.mem_cons, not_or] at h
  have h1 := puts_upd σ v ds (a.put (some t) (upd σ i v j)) h.2
  rw [upd_ne σ v (fun e => h.1 e.symm)] at h1
  show puts ds (upd σ i v) (a.put (some t) (upd σ i v j)) = _
  rw [upd_ne σ v (fun e => h.1 e.symm)]
  exact h1
theorem puts_put (σ : Nat → Value) {i s : Nat} (v : Value) : ∀ (ds : List (Nat × Nat)) (a : Act), (ds.map (·.1)).Nodup → (ds.map (·.2)).Nodup → (i, s) ∈ ds → (puts ds σ a).put (some s) v = puts ds (upd σ i v) a
 | [], _, _, _, h => by cases h
 | (j, t) :: ds, a, n1, n2, h => by
  simp only [List.map_cons, List.nodup_cons] at n1 n2
  rcases List.mem_cons.1 h with h | h
  ·simp only [Prod.mk.injEq] at h
   obtain ⟨rfl, rfl⟩ := h
   show (puts ds σ (a.put (some s) (σ i))).put (some s) v = puts ds (upd σ i v) (a.put (some s) (upd σ i v i))
   rw [upd_same, puts_upd σ v ds _ n1.1, puts_far σ v ds _ n2.1, put_again]
  ·have hji : j ≠ i := fun e => n1.1 (by subst e; exact List.mem_map.2 ⟨(j, s), h, rfl⟩)
   show (puts ds σ (a.put (some t) (σ j))).put (some s) v = puts ds (upd σ i v) (a.put (some t) (upd σ i v j))
   rw [upd_ne σ v hji]
   exact puts_put σ v ds _ n1.2 n2.2 h
def fits (ops : Array Oper) (ds : List (Nat × Nat)) : Bool :=
 (List.range ops.size).all (fun i => match ops[i]? with | none => true | some o => match o.dst with | none => !(ds.map (·.1)).contains i | some s => ds.contains (i, s)) && decide (ds.map (·.1)).Nodup && decide (ds.map (·.2)).Nodup
theorem fits_put {ops : Array Oper} {ds : List (Nat × Nat)} (h : fits ops ds = true) (a0 : Act) (i : Nat) (hi : i < ops.size) (oi : Oper) (ho : ops[i]? = some oi) (σ : Nat → Value) (v : Value) :
  (puts ds σ a0).put oi.dst v = puts ds (upd σ i v) a0 := by
 unfold fits at h
 simp only [Bool.and_eq_true, decide_eq_true_eq] at h
 obtain ⟨⟨h1, h2⟩, h3⟩ := h
 have h4 := List.all_eq_true.1 h1 i (List.mem_range.2 hi)
 rw [ho] at h4
 cases hd : oi.dst with
 | none =>
  simp only [hd] at h4
  rw [put_none]
  exact (puts_upd σ v ds a0 (by simpa using h4)).symm
 | some s =>
  simp only [hd] at h4
  exact puts_put σ v ds a0 h2 h3 (by simpa using h4)
def waits (md : Region.Mode) (ops : Array Oper) (i : Nat) : List Nat := match ops[i]? with | none => [] | some o => (o.after.toList.filter (Region.binds md)).map (·.on)
def unl : Nat → Array Bool → Nat
 | 0, _ => 0
 | k + 1, l => unl k l + (if l.getD k true = true then 0 else 1)
theorem unl_far {l : Array Bool} {i : Nat} : ∀ k, k ≤ i → unl k (l.setIfInBounds i true) = unl k l
 | 0, _ => rfl
 | k + 1, h => by
  have : (l.setIfInBounds i true).getD k true = l.getD k true := getD_set_ne true (by omega)
  have h2 := unl_far (l := l) (i := i) k (by omega)
  simp only [unl, this, h2]
theorem unl_set {l : Array Bool} {i : Nat} (h : l.getD i true = false) : ∀ k, i < k → unl k (l.setIfInBounds i true) + 1 = unl k l
 | 0, hk => absurd hk (by omega)
 | k + 1, hk => by
  by_cases hik : i = k
  ·subst hik
   have hlt : i < l.size := by
    rcases Nat.lt_or_ge i l.size with h' | h'
    ·exact h'
    ·simp [h'] at h
   have h1 : (l.setIfInBounds i true).getD i true = true := by simp [hlt]
   simp only [unl, unl_far i (Nat.le_refl _), h, h1]
   simp
  ·have h1 : (l.setIfInBounds i true).getD k true = l.getD k true := getD_set_ne true hik
   have := unl_set h k (by omega)
   simp only [unl, h1]
   omega
theorem unl_zero {l : Array Bool} : ∀ k, unl k l = 0 → ∀ i, i < k → l.getD i true = true
 | 0, _, i, hi => absurd hi (by omega)
 | k + 1, h, i, hi => by
  simp only [unl] at h
  by_cases hik : i = k
  ·subst hik
   by_cases hl : l.getD i true = true
   ·exact hl
   ·simp [hl] at h
  ·exact unl_zero k (by omega) i (by omega)
theorem getD_both {l : Array Bool} {i : Nat} (hi : i < l.size) : l.getD i true = l.getD i false := by simp [hi]
def lst (l : Array Bool) (i : Nat) : Bool := l.getD i false
theorem lst_same {l : Array Bool} {i : Nat} (h : i < l.size) : lst (l.setIfInBounds i true) i = true := by simp [lst, h]
theorem lst_ne {l : Array Bool} {i j : Nat} (h : j ≠ i) : lst (l.setIfInBounds i true) j = lst l j := getD_set_ne false (fun e => h e.symm)
theorem lst_start (n i : Nat) : lst (Array.replicate n false) i = false := by
 unfold lst
 rcases Nat.lt_or_ge i n with h | h
 ·simp [h]
 ·simp [h]
def GridStep (P : Program) (md : Region.Mode) (ops : Array Oper) (Q : Exit → Act → World → Prop) (ds : List (Nat × Nat)) (a0 : Act) (I : (Nat → Value) → Array Bool → World → Prop) (i : Nat) : Prop :=
 ∀ oi, ops[i]? = some oi → ∀ σ l w, l.size = ops.size → lst l i = false → (∀ d ∈ waits md ops i, lst l d = true) → I σ l w →
  ∀ K : Act → World → Prop, (∀ v w', I (upd σ i v) (l.setIfInBounds i true) w' → K ((puts ds σ a0).put oi.dst v) w') →
   if Region.wanted oi (yielded ops (puts ds σ a0).tmps) = true then Oper.wp P oi (puts ds σ a0) w K Q else K ((puts ds σ a0).put oi.dst undef) w
theorem wpAnyL_grid (ds : List (Nat × Nat)) (core : List Nat) (I : (Nat → Value) → Array Bool → World → Prop) (a0 : Act)
  (hback : (List.range ops.size).all (fun i => (waits md ops i).all (fun d => decide (d < i))) = true)
  (hstep : ∀ i ∈ core, GridStep P md ops Q ds a0 I i)
  (hput : ∀ i ∈ core, ∀ oi, ops[i]? = some oi → ∀ σ v, (puts ds σ a0).put oi.dst v = puts ds (upd σ i v) a0)
  (hS : ∀ σ l w, I σ l w → S l w)
  (hend : ∀ σ l w, (∀ i, i < ops.size → lst l i = true) → I σ l w → Q .normal (puts ds σ a0) w) :
  ∀ (fuel : Nat) (l : Array Bool) (σ : Nat → Value) (w : World), l.size = ops.size → unl ops.size l ≤ fuel → (∀ j, j < ops.size → j ∉ core → l.getD j true = true) → I σ l w →
   wpAnyL P md ops Q S fuel l (puts ds σ a0) w := by
 -- nothing is ready: all is listed
 have all : ∀ l : Array Bool, Region.ready md ops l = [] → ∀ i, i < ops.size → l.getD i true = true := by
  intro l hr i
  induction i using Nat.strongRecOn with
  | _ i ih =>
   intro hi
   by_cases hl : l.getD i true = true
   ·exact hl
   ·exfalso
    have : i ∈ Region.ready md ops l := by
     rw [mem_ready]
     refine ⟨by simpa using hl, ops[i], by simp [hi], fun e he hb => ?_⟩
     have hd : e.on ∈ waits md ops i := by
      unfold waits
      simp only [hi, getElem?_pos]
      exact List.mem_map.2 ⟨e, List.mem_filter.2 ⟨by simpa using he, hb⟩, rfl⟩
     have hlt : e.on < i := by
      have := List.all_eq_true.1 (List.all_eq_true.1 hback i (by simp [hi])) _ hd
      simpa using this
     have h1 := ih e.on hlt (by omega)
     rcases Nat.lt_or_ge e.on l.size with h' | h'
     ·rw [getD_both h'] at h1; exact h1
     ·exfalso
      -- not within: then i is not within, either
      have : l.getD i true = true := by simp [show l.size ≤ i by omega]
      exact hl this
    rw [hr] at this
    cases this
 intro fuel
 induction fuel with
 | zero =>
  intro l σ w hsz hf hcov hI
  have ha : ∀ i, i < ops.size → l.getD i true = true := unl_zero _ (by omega)
  have hr : Region.ready md ops l = [] := by
   refine List.eq_nil_iff_forall_not_mem.2 fun i hi => ?_
   obtain ⟨h1, o, ho, _⟩ := mem_ready.1 hi
   have hlt : i < ops.size := by
    rcases Nat.lt_or_ge i ops.size with h' | h'
    ·exact h'
    ·simp [h'] at ho
   rw [ha i hlt] at h1
   cases h1
  exact ⟨hr, hend σ l w (fun i hi => by unfold lst; rw [← getD_both (by omega)]; exact ha i hi) hI⟩
 | succ fuel ih =>
  intro l σ w hsz hf hcov hI
  refine ⟨fun hr => hend σ l w (fun i hi => by unfold lst; rw [← getD_both (by omega)]; exact all l hr i hi) hI, fun i hi => ?_⟩
  obtain ⟨h1, o, ho, hdep⟩ := mem_ready.1 hi
  have hlt : i < ops.size := by
   rcases Nat.lt_or_ge i ops.size with h' | h'
   ·exact h'
   ·simp [h'] at ho
  have hcore : i ∈ core := by
   by_cases hc : i ∈ core
   ·exact hc
   ·rw [hcov i hlt hc] at h1
    cases h1
  have hl0 : l.getD i false = false := by rw [← getD_both (by omega)]; exact h1
  have hw : ∀ d ∈ waits md ops i, l.getD d false = true := by
   intro d hd
   unfold waits at hd
   rw [ho] at hd
   obtain ⟨e, he, rfl⟩ := List.mem_map.1 hd
   obtain ⟨he, hb⟩ := List.mem_filter.1 he
   exact hdep e (by simpa using he) hb
  have step := hstep i hcore o ho σ l w hsz hl0 hw hI (fun a' w' => S (l.setIfInBounds i true) w' ∧ wpAnyL P md ops Q S fuel (l.setIfInBounds i true) a' w') (fun v w' hI' => by
   refine ⟨hS _ _ _ hI', ?_⟩
   rw [hput i hcore o ho σ v]
   refine ih _ _ _ (by simp [hsz]) ?_ (fun j hj hjc => ?_) hI'
   ·have := unl_set h1 ops.size hlt
    omega
   ·have hji : i ≠ j := fun e => by subst e; exact hjc hcore
    rw [getD_set_ne true hji]
    exact hcov j hj hjc)
  unfold wpOp
  simp only [ho]
  by_cases hwn : Region.wanted o (yielded ops (puts ds σ a0).tmps) = true
  ·rw [if_pos hwn] at step ⊢
   exact .inl step
  ·rw [if_neg hwn] at step ⊢
   exact step
theorem unl_le (l : Array Bool) : ∀ k, unl k l ≤ k
 | 0 => Nat.le_refl _
 | k + 1 => by
  have := unl_le l k
  simp only [unl]
  split <;> omega
theorem wpAnyL_grid0 (ds : List (Nat × Nat)) (I : (Nat → Value) → Array Bool → World → Prop) {a0 : Act} {w : World}
  (hback : (List.range ops.size).all (fun i => (waits md ops i).all (fun d => decide (d < i))) = true)
  (hundef : puts ds (fun _ => undef) a0 = a0)
  (hstep : ∀ i, i < ops.size → GridStep P md ops Q ds a0 I i)
  (hput : fits ops ds = true)
  (hS : ∀ σ l w, I σ l w → S l w)
  (hend : ∀ σ l w, (∀ i, i < ops.size → lst l i = true) → I σ l w → Q .normal (puts ds σ a0) w)
  (h0 : I (fun _ => undef) (Array.replicate ops.size false) w) : wpAnyL P md ops Q S ops.size (Array.replicate ops.size false) a0 w := by
 have h := wpAnyL_grid (P := P) (md := md) (ops := ops) (Q := Q) (S := S) ds (List.range ops.size) I a0 hback (fun i hi => hstep i (List.mem_range.1 hi)) (fun i hi => fits_put hput a0 i (List.mem_range.1 hi)) hS hend
  ops.size (Array.replicate ops.size false) (fun _ => undef) w (by simp) (unl_le _ _) (fun j hj hc => absurd (List.mem_range.2 hj) hc) h0
 rwa [hundef] at h
end
end Go.Proofs.YtildcdgobdfieaaGreat

namespace Go.Proofs.YtildcdgobdfieaaGreat
open Go.RowKit
theorem wr4 (w : World) (g : Nat) (u0 u1 u2 u3 : Value) : Wr [g] w ((((w.setCell ⟨g, 0, none⟩ u0).setCell ⟨g, 1, none⟩ u1).setCell ⟨g, 2, none⟩ u2).setCell ⟨g, 3, none⟩ u3) :=
 ((((Wr.refl [g] w).setOn (by simp) u0).setOn (by simp) u1).setOn (by simp) u2).setOn (by simp) u3
theorem blk4 (w : World) (g : Nat) (T : TypeId) (x0 x1 x2 x3 u0 u1 u2 u3 : Value) (h : Blk w g T #[x0, x1, x2, x3]) : Blk ((((w.setCell ⟨g, 0, none⟩ u0).setCell ⟨g, 1, none⟩ u1).setCell ⟨g, 2, none⟩ u2).setCell ⟨g, 3, none⟩ u3) g T #[u0, u1, u2, u3] := by
 have := (((h.set_ 0 u0).set_ 1 u1).set_ 2 u2).set_ 3 u3
 simpa using this
def clV (g : Nat) : Nat → Value
 | 0 => .pointer (some ⟨g, 1, none⟩)
 | 3 => .pointer (some ⟨g, 2, none⟩)
 | 6 => .pointer (some ⟨g, 3, none⟩)
 | 9 => .pointer (some ⟨g, 1, none⟩)
 | 11 => .pointer (some ⟨g, 2, none⟩)
 | 13 => .pointer (some ⟨g, 3, none⟩)
 | 10 => undef
 | 12 => undef
 | 14 => undef
 | _ => .slice none 0 0
structure ClI (m : ByteArray) (wd : World) (g : Nat) (σ : Nat → Value) (l : Array Bool) (w' : World) : Prop where
 v : ∀ j, lst l j = true → σ j = clV g j
 b : Blk w' g 55 #[.string m, .slice none 0 0, .slice none 0 0, .slice none 0 0]
 acc : Wr [g] wd w'
theorem ClI.step {m : ByteArray} {wd : World} {g : Nat} {σ : Nat → Value} {l : Array Bool} {w1 w2 : World} (h : ClI m wd g σ l w1) (i : Nat) (hb : Blk w2 g 55 #[.string m, .slice none 0 0, .slice none 0 0, .slice none 0 0]) (r : Wr [g] w1 w2) : ClI m wd g (upd σ i (clV g i)) (l.setIfInBounds i true) w2 := by
 refine ⟨fun j hj => ?_, hb, h.acc.trans r⟩
 by_cases hji : j = i
 ·subst hji
  exact upd_same _ _ _
 ·rw [upd_ne σ _ hji]
  rw [lst_ne hji] at hj
  exact h.v j hj
end Go.Proofs.YtildcdgobdfieaaGreat

namespace Go.Proofs.YtildcdgobdfieaaGreat
open Go.RowKit
end Go.Proofs.YtildcdgobdfieaaGreat

namespace Go.Proofs.YtildcdgobdfieaaGreat
open Go.RowKit
structure KV where
 sort : Nat
 n : Int
 t : Int
 s : ByteArray
def KV.is (x : KV) (k : Nat) : Bool := x.sort == k
def KV.num (x : KV) (k : Nat) : Int := if x.sort = k then x.n else 0
def KV.str (x : KV) : ByteArray := if x.sort = 5 then x.s else ⟨#[]⟩
def KV.val (x : KV) : Value :=
 if x.sort = 1 then .iface 176 (.int .i64 x.n) else if x.sort = 2 then .iface 177 (.int .u8 x.n) else if x.sort = 3 then .iface 178 (.bool (x.n == 1))
 else if x.sort = 4 then .iface 179 (.int .u16 x.n) else if x.sort = 5 then .iface 180 (.string x.s) else if x.sort = 6 then .iface 182 (.agg #[.int .i64 x.t, .int .i64 x.n])
 else if x.sort = 7 then .iface 184 (.agg #[]) else if x.sort = 8 then .iface 2 (.int .i64 x.n) else .nilIface
theorem as_self {T xT : TypeId} {u : TypeDesc} (hu : Tryz.prog.underlying T = some u) (hi : (match u with | .interface _ => true | _ => false) = false) (v : Value) (w : World) :
  (Instr.typeAssert (.iface T v) xT T true).run Tryz.prog w = .ok (.tuple #[v, .bool true]) w := by
 cases u <;> first | (cases hi; done) | simp [Instr.typeAssert, run_underlying hu]
theorem as_other {T xT t : TypeId} {u : TypeDesc} {z : Value} (hu : Tryz.prog.underlying T = some u) (hi : (match u with | .interface _ => true | _ => false) = false) (hz : ∀ w, (zeroValue T).run Tryz.prog w = .ok z w) (ht : t ≠ T) (v : Value) (w : World) :
  (Instr.typeAssert (.iface t v) xT T true).run Tryz.prog w = .ok (.tuple #[z, .bool false]) w := by
 cases u <;> first | (cases hi; done) | simp [Instr.typeAssert, run_underlying hu, ht, hz]
theorem as_nil {T xT : TypeId} {u : TypeDesc} {z : Value} (hu : Tryz.prog.underlying T = some u) (hi : (match u with | .interface _ => true | _ => false) = false) (hz : ∀ w, (zeroValue T).run Tryz.prog w = .ok z w) (w : World) :
  (Instr.typeAssert .nilIface xT T true).run Tryz.prog w = .ok (.tuple #[z, .bool false]) w := by
 cases u <;> first | (cases hi; done) | simp [Instr.typeAssert, run_underlying hu, hz]
end Go.Proofs.YtildcdgobdfieaaGreat
