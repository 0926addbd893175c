/- slices.ContainsFunc of texts and of numbers, over what its question answers; iface's short, few, small: walked. Conditions: the list is there. -/
import Derived.Test.YtildcdgobdfieaaGreatRD04
import Derived.LoopN
set_option linter.unusedVariables false
set_option linter.unusedSimpArgs false
set_option maxRecDepth 100000
set_option maxHeartbeats 32000000
namespace Go.Proofs.YtildcdgobdfieaaGreat
open Go.RowKit
def anyB (n : Nat) (p : Nat → Bool) : Bool := (List.range n).any p
theorem anyB_yes {n : Nat} {p : Nat → Bool} {k : Nat} (hk : k < n) (h : p k = true) : anyB n p = true := List.any_eq_true.2 ⟨k, List.mem_range.2 hk, h⟩
theorem anyB_no {n : Nat} {p : Nat → Bool} (h : ∀ j, j < n → p j = false) : anyB n p = false := by
 unfold anyB
 rw [List.any_eq_false]
 intro j hj
 rw [h j (List.mem_range.1 hj)]
 simp
def CellsAt (w : World) (A : Option Addr) (n : Nat) (ev : Nat → Value) : Prop := ∀ i, i < n → ∃ b off, A = some ⟨b, off, none⟩ ∧ w.cell? ⟨b, off + i, none⟩ = some (ev i)
def IdxP (w : World) (n : Nat) (p : Nat → Bool) (e : Ending) (w' : World) : Prop := ∃ r : Int, e = .returned (.int .i64 r) ∧ Wr [] w w' ∧ decide (r ≥ 0) = anyB n p
theorem idx_short (w : World) (A : Option Addr) (n c : Nat) (ev : Nat → ByteArray) (hcc : n ≤ c ∧ c ≤ maxLen) (hc : CellsAt w A n (fun i => .string (ev i))) (p : Nat → Bool)
  (hf : ∀ i, i < n → ∀ W, Wr [] w W → Calls Tryz.prog 171 #[.string (ev i)] W fun e w' => e = .returned (.bool (p i)) ∧ Wr [] W w') :
  Calls Tryz.prog 178 #[.slice A n c, .func (.func 171) #[] #[]] w (IdxP w n p) := by
 unfold maxLen at hcc
 have hen : ∀ args w, (callFunc 171 args).run Tryz.prog w = .ok (.enter 171 args) w := fun args w => rfl
 go_in
 go_wp2_with fail
 go_loopw [8] (fun i wr => ∃ k : Nat, k ≤ n ∧ i = .int .i64 k ∧ Wr [] w wr ∧ ∀ j, j < k → p j = false) (fun i _ => n - (intOf i).toNat)
 case atStart => exact ⟨0, by omega, rfl, Wr.refl _ _, fun j h => absurd h (by omega)⟩
 case round =>
  obtain ⟨k, hk, rfl, hw, hno⟩ := hrel
  by_cases hlt : k < n
  ·obtain ⟨b, off, rfl, hcell⟩ := hc k hlt
   replace hcell := hw.cellOf hcell (by simp)
   have hfk := hf k hlt _ hw
   have h0 : (0 : Int) ≤ (k : Int) := by omega
   have h1 : (k : Int) < (n : Int) := by omega
   have HNO := qh hno
   have HW := qh hw
   clear hf hno hw
   cases hp : p k with
   | true =>
    rw [hp] at hfk
    have hv := anyB_yes hlt hp
    clear hp
    go_wp2_with fail
    refine hfk.mono ?_
    rintro e w1 ⟨rfl, r1⟩
    go_wp2_with fail
    go_ret
    exact ⟨k, rfl, HW.out.trans r1, by rw [hv]; simp⟩
   | false =>
    rw [hp] at hfk
    have hno' : ∀ j, j < k + 1 → p j = false := fun j hj => by
     by_cases hjk : j = k
     ·subst hjk; exact hp
     ·exact HNO.out j (by omega)
    have HNO' := qh hno'
    clear hp hno'
    go_wp2_with fail
    refine hfk.mono ?_
    rintro e w1 ⟨rfl, r1⟩
    go_wp2_with fail
    go_roundw
    case rel => exact ⟨k + 1, by omega, by go_num, HW.out.trans r1, HNO'.out⟩
    case measure => simp [intOf]; omega
  ·have hkn : k = n := by omega
   subst hkn
   have hv := anyB_no hno
   clear hno hc hf
   go_wp2_with fail
   go_ret
   exact ⟨-1, rfl, hw, by rw [hv]; decide⟩
theorem has_short (w : World) (A : Option Addr) (n c : Nat) (ev : Nat → ByteArray) (hcc : n ≤ c ∧ c ≤ maxLen) (hc : CellsAt w A n (fun i => .string (ev i))) (p : Nat → Bool)
  (hf : ∀ i, i < n → ∀ W, Wr [] w W → Calls Tryz.prog 171 #[.string (ev i)] W fun e w' => e = .returned (.bool (p i)) ∧ Wr [] W w') :
  Calls Tryz.prog 170 #[.slice A n c, .func (.func 171) #[] #[]] w fun e w' => e = .returned (.bool (anyB n p)) ∧ Wr [] w w' := by
 have h := idx_short w A n c ev hcc hc p hf
 go_in
 go_wp2_with fail
 refine h.mono ?_
 rintro e w1 ⟨r, rfl, r1, hr⟩
 go_wp2_with fail
 go_ret
 exact ⟨by rw [← hr]; rfl, r1⟩
theorem idx_few (w : World) (A : Option Addr) (n c : Nat) (ev : Nat → Int) (hcc : n ≤ c ∧ c ≤ maxLen) (hc : CellsAt w A n (fun i => .int .i64 (ev i))) (p : Nat → Bool)
  (hf : ∀ i, i < n → ∀ W, Wr [] w W → Calls Tryz.prog 174 #[.int .i64 (ev i)] W fun e w' => e = .returned (.bool (p i)) ∧ Wr [] W w') :
  Calls Tryz.prog 175 #[.slice A n c, .func (.func 174) #[] #[]] w (IdxP w n p) := by
 unfold maxLen at hcc
 have hen : ∀ args w, (callFunc 174 args).run Tryz.prog w = .ok (.enter 174 args) w := fun args w => rfl
 go_in
 go_wp2_with fail
 go_loopw [8] (fun i wr => ∃ k : Nat, k ≤ n ∧ i = .int .i64 k ∧ Wr [] w wr ∧ ∀ j, j < k → p j = false) (fun i _ => n - (intOf i).toNat)
 case atStart => exact ⟨0, by omega, rfl, Wr.refl _ _, fun j h => absurd h (by omega)⟩
 case round =>
  obtain ⟨k, hk, rfl, hw, hno⟩ := hrel
  by_cases hlt : k < n
  ·obtain ⟨b, off, rfl, hcell⟩ := hc k hlt
   replace hcell := hw.cellOf hcell (by simp)
   have hfk := hf k hlt _ hw
   have h0 : (0 : Int) ≤ (k : Int) := by omega
   have h1 : (k : Int) < (n : Int) := by omega
   have HNO := qh hno
   have HW := qh hw
   clear hf hno hw
   cases hp : p k with
   | true =>
    rw [hp] at hfk
    have hv := anyB_yes hlt hp
    clear hp
    go_wp2_with fail
    refine hfk.mono ?_
    rintro e w1 ⟨rfl, r1⟩
    go_wp2_with fail
    go_ret
    exact ⟨k, rfl, HW.out.trans r1, by rw [hv]; simp⟩
   | false =>
    rw [hp] at hfk
    have hno' : ∀ j, j < k + 1 → p j = false := fun j hj => by
     by_cases hjk : j = k
     ·subst hjk; exact hp
     ·exact HNO.out j (by omega)
    have HNO' := qh hno'
    clear hp hno'
    go_wp2_with fail
    refine hfk.mono ?_
    rintro e w1 ⟨rfl, r1⟩
    go_wp2_with fail
    go_roundw
    case rel => exact ⟨k + 1, by omega, by go_num, HW.out.trans r1, HNO'.out⟩
    case measure => simp [intOf]; omega
  ·have hkn : k = n := by omega
   subst hkn
   have hv := anyB_no hno
   clear hno hc hf
   go_wp2_with fail
   go_ret
   exact ⟨-1, rfl, hw, by rw [hv]; decide⟩
theorem has_few (w : World) (A : Option Addr) (n c : Nat) (ev : Nat → Int) (hcc : n ≤ c ∧ c ≤ maxLen) (hc : CellsAt w A n (fun i => .int .i64 (ev i))) (p : Nat → Bool)
  (hf : ∀ i, i < n → ∀ W, Wr [] w W → Calls Tryz.prog 174 #[.int .i64 (ev i)] W fun e w' => e = .returned (.bool (p i)) ∧ Wr [] W w') :
  Calls Tryz.prog 156 #[.slice A n c, .func (.func 174) #[] #[]] w fun e w' => e = .returned (.bool (anyB n p)) ∧ Wr [] w w' := by
 have h := idx_few w A n c ev hcc hc p hf
 go_in
 go_wp2_with fail
 refine h.mono ?_
 rintro e w1 ⟨r, rfl, r1, hr⟩
 go_wp2_with fail
 go_ret
 exact ⟨by rw [← hr]; rfl, r1⟩
theorem idx_small (w : World) (A : Option Addr) (n c : Nat) (ev : Nat → Int) (hcc : n ≤ c ∧ c ≤ maxLen) (hc : CellsAt w A n (fun i => .int .i64 (ev i))) (p : Nat → Bool)
  (hf : ∀ i, i < n → ∀ W, Wr [] w W → Calls Tryz.prog 177 #[.int .i64 (ev i)] W fun e w' => e = .returned (.bool (p i)) ∧ Wr [] W w') :
  Calls Tryz.prog 180 #[.slice A n c, .func (.func 177) #[] #[]] w (IdxP w n p) := by
 unfold maxLen at hcc
 have hen : ∀ args w, (callFunc 177 args).run Tryz.prog w = .ok (.enter 177 args) w := fun args w => rfl
 go_in
 go_wp2_with fail
 go_loopw [8] (fun i wr => ∃ k : Nat, k ≤ n ∧ i = .int .i64 k ∧ Wr [] w wr ∧ ∀ j, j < k → p j = false) (fun i _ => n - (intOf i).toNat)
 case atStart => exact ⟨0, by omega, rfl, Wr.refl _ _, fun j h => absurd h (by omega)⟩
 case round =>
  obtain ⟨k, hk, rfl, hw, hno⟩ := hrel
  by_cases hlt : k < n
  ·obtain ⟨b, off, rfl, hcell⟩ := hc k hlt
   replace hcell := hw.cellOf hcell (by simp)
   have hfk := hf k hlt _ hw
   have h0 : (0 : Int) ≤ (k : Int) := by omega
   have h1 : (k : Int) < (n : Int) := by omega
   have HNO := qh hno
   have HW := qh hw
   clear hf hno hw
   cases hp : p k with
   | true =>
    rw [hp] at hfk
    have hv := anyB_yes hlt hp
    clear hp
    go_wp2_with fail
    refine hfk.mono ?_
    rintro e w1 ⟨rfl, r1⟩
    go_wp2_with fail
    go_ret
    exact ⟨k, rfl, HW.out.trans r1, by rw [hv]; simp⟩
   | false =>
    rw [hp] at hfk
    have hno' : ∀ j, j < k + 1 → p j = false := fun j hj => by
     by_cases hjk : j = k
     ·subst hjk; exact hp
     ·exact HNO.out j (by omega)
    have HNO' := qh hno'
    clear hp hno'
    go_wp2_with fail
    refine hfk.mono ?_
    rintro e w1 ⟨rfl, r1⟩
    go_wp2_with fail
    go_roundw
    case rel => exact ⟨k + 1, by omega, by go_num, HW.out.trans r1, HNO'.out⟩
    case measure => simp [intOf]; omega
  ·have hkn : k = n := by omega
   subst hkn
   have hv := anyB_no hno
   clear hno hc hf
   go_wp2_with fail
   go_ret
   exact ⟨-1, rfl, hw, by rw [hv]; decide⟩
theorem has_small (w : World) (A : Option Addr) (n c : Nat) (ev : Nat → Int) (hcc : n ≤ c ∧ c ≤ maxLen) (hc : CellsAt w A n (fun i => .int .i64 (ev i))) (p : Nat → Bool)
  (hf : ∀ i, i < n → ∀ W, Wr [] w W → Calls Tryz.prog 177 #[.int .i64 (ev i)] W fun e w' => e = .returned (.bool (p i)) ∧ Wr [] W w') :
  Calls Tryz.prog 176 #[.slice A n c, .func (.func 177) #[] #[]] w fun e w' => e = .returned (.bool (anyB n p)) ∧ Wr [] w w' := by
 have h := idx_small w A n c ev hcc hc p hf
 go_in
 go_wp2_with fail
 refine h.mono ?_
 rintro e w1 ⟨r, rfl, r1, hr⟩
 go_wp2_with fail
 go_ret
 exact ⟨by rw [← hr]; rfl, r1⟩
theorem idx_typ (w : World) (A : Option Addr) (n c : Nat) (ev : Nat → Int) (hcc : n ≤ c ∧ c ≤ maxLen) (hc : CellsAt w A n (fun i => .int .i64 (ev i))) (p : Nat → Bool) (pi : Nat)
  (hf : ∀ i, i < n → ∀ W, Wr [] w W → Calls Tryz.prog 157 #[.int .i64 (ev i), .pointer (some ⟨pi, 0, none⟩)] W fun e w' => e = .returned (.bool (p i)) ∧ Wr [] W w') :
  Calls Tryz.prog 175 #[.slice A n c, .func (.func 157) #[] #[.pointer (some ⟨pi, 0, none⟩)]] w (IdxP w n p) := by
 unfold maxLen at hcc
 have hen : ∀ args w, (callFunc 157 args).run Tryz.prog w = .ok (.enter 157 args) w := fun args w => rfl
 go_in
 go_wp2_with fail
 go_loopw [8] (fun i wr => ∃ k : Nat, k ≤ n ∧ i = .int .i64 k ∧ Wr [] w wr ∧ ∀ j, j < k → p j = false) (fun i _ => n - (intOf i).toNat)
 case atStart => exact ⟨0, by omega, rfl, Wr.refl _ _, fun j h => absurd h (by omega)⟩
 case round =>
  obtain ⟨k, hk, rfl, hw, hno⟩ := hrel
  by_cases hlt : k < n
  ·obtain ⟨b, off, rfl, hcell⟩ := hc k hlt
   replace hcell := hw.cellOf hcell (by simp)
   have hfk := hf k hlt _ hw
   have h0 : (0 : Int) ≤ (k : Int) := by omega
   have h1 : (k : Int) < (n : Int) := by omega
   have HNO := qh hno
   have HW := qh hw
   clear hf hno hw
   cases hp : p k with
   | true =>
    rw [hp] at hfk
    have hv := anyB_yes hlt hp
    clear hp
    go_wp2_with fail
    refine hfk.mono ?_
    rintro e w1 ⟨rfl, r1⟩
    go_wp2_with fail
    go_ret
    exact ⟨k, rfl, HW.out.trans r1, by rw [hv]; simp⟩
   | false =>
    rw [hp] at hfk
    have hno' : ∀ j, j < k + 1 → p j = false := fun j hj => by
     by_cases hjk : j = k
     ·subst hjk; exact hp
     ·exact HNO.out j (by omega)
    have HNO' := qh hno'
    clear hp hno'
    go_wp2_with fail
    refine hfk.mono ?_
    rintro e w1 ⟨rfl, r1⟩
    go_wp2_with fail
    go_roundw
    case rel => exact ⟨k + 1, by omega, by go_num, HW.out.trans r1, HNO'.out⟩
    case measure => simp [intOf]; omega
  ·have hkn : k = n := by omega
   subst hkn
   have hv := anyB_no hno
   clear hno hc hf
   go_wp2_with fail
   go_ret
   exact ⟨-1, rfl, hw, by rw [hv]; decide⟩
theorem has_typ (w : World) (A : Option Addr) (n c : Nat) (ev : Nat → Int) (hcc : n ≤ c ∧ c ≤ maxLen) (hc : CellsAt w A n (fun i => .int .i64 (ev i))) (p : Nat → Bool) (pi : Nat)
  (hf : ∀ i, i < n → ∀ W, Wr [] w W → Calls Tryz.prog 157 #[.int .i64 (ev i), .pointer (some ⟨pi, 0, none⟩)] W fun e w' => e = .returned (.bool (p i)) ∧ Wr [] W w') :
  Calls Tryz.prog 156 #[.slice A n c, .func (.func 157) #[] #[.pointer (some ⟨pi, 0, none⟩)]] w fun e w' => e = .returned (.bool (anyB n p)) ∧ Wr [] w w' := by
 have h := idx_typ w A n c ev hcc hc p pi hf
 go_in
 go_wp2_with fail
 refine h.mono ?_
 rintro e w1 ⟨r, rfl, r1, hr⟩
 go_wp2_with fail
 go_ret
 exact ⟨by rw [← hr]; rfl, r1⟩
theorem shortQ (s : ByteArray) (w : World) : Calls Tryz.prog 171 #[.string s] w fun e w' => e = .returned (.bool (decide ((s.size : Int) > 255))) ∧ Wr [] w w' := by
 go_in
 go_wp2_with fail
 go_ret
 exact ⟨rfl, Wr.refl [] w⟩
theorem fewQ (n : Int) (w : World) : Calls Tryz.prog 174 #[.int .i64 n] w fun e w' => e = .returned (.bool (decide (n > 65535))) ∧ Wr [] w w' := by
 go_in
 go_wp2_with fail
 go_ret
 exact ⟨rfl, Wr.refl [] w⟩
def smallN (n : Int) : Bool := decide (n < -2147483648) || decide (n > 2147483647)
theorem smallQ (n : Int) (w : World) : Calls Tryz.prog 177 #[.int .i64 n] w fun e w' => e = .returned (.bool (smallN n)) ∧ Wr [] w w' := by
 unfold smallN
 by_cases h : n < -2147483648
 ·go_in
  go_wp2_with fail
  go_ret
  exact ⟨by simp [h], Wr.refl [] w⟩
 ·go_in
  go_wp2_with fail
  go_ret
  exact ⟨by rw [show decide (n < -2147483648) = false from qdfq (by omega), Bool.false_or]; try rfl, Wr.refl [] w⟩
theorem short_any (w : World) (A : Option Addr) (n c : Nat) (ev : Nat → ByteArray) (hcc : n ≤ c ∧ c ≤ maxLen) (hc : CellsAt w A n (fun i => .string (ev i))) :
  Calls Tryz.prog 152 #[.slice A n c] w fun e w' => e = .returned (.bool (!anyB n fun i => decide (((ev i).size : Int) > 255))) ∧ Wr [] w w' := by
 have h := has_short w A n c ev hcc hc (fun i => decide (((ev i).size : Int) > 255)) (fun i _ W _ => shortQ (ev i) W)
 go_in
 go_wp2_with fail
 refine h.mono ?_
 rintro e w1 ⟨rfl, r1⟩
 go_wp2_with fail
 go_ret
 exact ⟨rfl, r1⟩
theorem few_any (w : World) (A : Option Addr) (n c : Nat) (ev : Nat → Int) (hcc : n ≤ c ∧ c ≤ maxLen) (hc : CellsAt w A n (fun i => .int .i64 (ev i))) :
  Calls Tryz.prog 154 #[.slice A n c] w fun e w' => e = .returned (.bool (!anyB n fun i => decide (ev i > 65535))) ∧ Wr [] w w' := by
 have h := has_few w A n c ev hcc hc (fun i => decide (ev i > 65535)) (fun i _ W _ => fewQ (ev i) W)
 go_in
 go_wp2_with fail
 refine h.mono ?_
 rintro e w1 ⟨rfl, r1⟩
 go_wp2_with fail
 go_ret
 exact ⟨rfl, r1⟩
theorem small_any (w : World) (A : Option Addr) (n c : Nat) (ev : Nat → Int) (hcc : n ≤ c ∧ c ≤ maxLen) (hc : CellsAt w A n (fun i => .int .i64 (ev i))) :
  Calls Tryz.prog 158 #[.slice A n c] w fun e w' => e = .returned (.bool (!anyB n fun i => smallN (ev i))) ∧ Wr [] w w' := by
 have h := has_small w A n c ev hcc hc (fun i => smallN (ev i)) (fun i _ W _ => smallQ (ev i) W)
 go_in
 go_wp2_with fail
 refine h.mono ?_
 rintro e w1 ⟨rfl, r1⟩
 go_wp2_with fail
 go_ret
 exact ⟨rfl, r1⟩
def typN (nt : Nat) (n : Int) : Bool := decide (n < 0) || decide (n ≥ 10 + (nt : Int))
theorem typQ (n : Int) (pi : Nat) (A : Option Addr) (nt c : Nat) (hcc : nt ≤ c ∧ c ≤ maxLen) (w : World) (hc : w.cell? ⟨pi, 2, none⟩ = some (.slice A nt c)) (h63 : nt ≤ 1000000) :
  Calls Tryz.prog 157 #[.int .i64 n, .pointer (some ⟨pi, 0, none⟩)] w fun e w' => e = .returned (.bool (typN nt n)) ∧ Wr [] w w' := by
 unfold typN
 unfold maxLen at hcc
 have hw : wrap64 (10 + (nt : Int)) = 10 + (nt : Int) := by unfold wrap64; omega
 have hw2 : IntKind.i64.wrap (10 + (nt : Int)) = 10 + (nt : Int) := by rw [IntKind.wrap_i64]; omega
 by_cases h : n < 0
 ·go_in
  go_wp2_with fail
  go_ret
  exact ⟨by simp [h], Wr.refl [] w⟩
 ·go_in
  go_wp2_with fail
  go_ret
  exact ⟨by rw [show decide (n < 0) = false from qdfq (by omega), Bool.false_or]; try rfl, Wr.refl [] w⟩
theorem typ_any (w : World) (A : Option Addr) (n c : Nat) (ev : Nat → Int) (hcc : n ≤ c ∧ c ≤ maxLen) (hc : CellsAt w A n (fun i => .int .i64 (ev i))) (pi : Nat) (At : Option Addr) (nt ct : Nat) (htt : nt ≤ ct ∧ ct ≤ maxLen) (hct : w.cell? ⟨pi, 2, none⟩ = some (.slice At nt ct)) (h63 : nt ≤ 1000000) :
  Calls Tryz.prog 155 #[.slice A n c, .pointer (some ⟨pi, 0, none⟩)] w fun e w' => e = .returned (.bool (!anyB n fun i => typN nt (ev i))) ∧ Wr [] w w' := by
 have h := has_typ w A n c ev hcc hc (fun i => typN nt (ev i)) pi (fun i _ W r => typQ (ev i) pi At nt ct htt W (r.cellOf hct (by simp)) h63)
 have hmf : ∀ (fn : Fn) (first cap : Array Value) (w : World), (Instr.makeFunc fn first cap).run Tryz.prog w = .ok (.func fn first cap) w := fun _ _ _ _ => rfl
 go_in
 go_wp2_with fail
 refine h.mono ?_
 rintro e w1 ⟨rfl, r1⟩
 go_wp2_with fail
 go_ret
 exact ⟨rfl, r1⟩
structure KV where
 sort : Nat
 n : Int
 t : Int
 s : ByteArray
def KV.is (x : KV) (k : Nat) : Bool := x.sort == k
def KV.num (x : KV) (k : Nat) : Int := if x.sort = k then x.n else 0
def KV.str (x : KV) : ByteArray := if x.sort = 5 then x.s else ⟨#[]⟩
def KV.val (x : KV) : Value :=
 if x.sort = 1 then .iface 176 (.int .i64 x.n) else if x.sort = 2 then .iface 177 (.int .u8 x.n) else if x.sort = 3 then .iface 178 (.bool (x.n == 1))
 else if x.sort = 4 then .iface 179 (.int .u16 x.n) else if x.sort = 5 then .iface 180 (.string x.s) else if x.sort = 6 then .iface 182 (.agg #[.int .i64 x.t, .int .i64 x.n])
 else if x.sort = 7 then .iface 184 (.agg #[]) else if x.sort = 8 then .iface 2 (.int .i64 x.n) else .nilIface
theorem as_self {T xT : TypeId} {u : TypeDesc} (hu : Tryz.prog.underlying T = some u) (hi : (match u with | .interface _ => true | _ => false) = false) (v : Value) (w : World) :
  (Instr.typeAssert (.iface T v) xT T true).run Tryz.prog w = .ok (.tuple #[v, .bool true]) w := by
 cases u <;> first | (cases hi; done) | simp [Instr.typeAssert, run_underlying hu]
theorem as_other {T xT t : TypeId} {u : TypeDesc} {z : Value} (hu : Tryz.prog.underlying T = some u) (hi : (match u with | .interface _ => true | _ => false) = false) (hz : ∀ w, (zeroValue T).run Tryz.prog w = .ok z w) (ht : t ≠ T) (v : Value) (w : World) :
  (Instr.typeAssert (.iface t v) xT T true).run Tryz.prog w = .ok (.tuple #[z, .bool false]) w := by
 cases u <;> first | (cases hi; done) | simp [Instr.typeAssert, run_underlying hu, ht, hz]
theorem as_nil {T xT : TypeId} {u : TypeDesc} {z : Value} (hu : Tryz.prog.underlying T = some u) (hi : (match u with | .interface _ => true | _ => false) = false) (hz : ∀ w, (zeroValue T).run Tryz.prog w = .ok z w) (w : World) :
  (Instr.typeAssert .nilIface xT T true).run Tryz.prog w = .ok (.tuple #[z, .bool false]) w := by
 cases u <;> first | (cases hi; done) | simp [Instr.typeAssert, run_underlying hu, hz]
theorem flatF_at {α : Type} {g : α → List Value} {size : Nat} (hg : ∀ x, (g x).length = size) : ∀ (l : List α) (i j : Nat) (x : α), l[i]? = some x → j < size → (l.flatMap g)[i * size + j]? = (g x)[j]?
 | [], i, j, x, h, _ => by simp at h
 | y :: l, 0, j, x, h, hj => by
  simp only [qgzq, Option.some.injEq] at h
  subst h
  rw [qfcq, Nat.zero_mul, Nat.zero_add, qglq (by rw [hg]; exact hj)]
 | y :: l, i + 1, j, x, h, hj => by
  rw [qgsq] at h
  rw [qfcq, qgrq (by rw [hg, Nat.succ_mul]; omega), hg, show (i + 1) * size + j - size = i * size + j by rw [Nat.succ_mul]; omega]
  exact flatF_at hg l i j x h hj
def AnyD.val : AnyD → Value
 | .nil => .nilIface
 | .whole n => .iface 176 (.int .i64 n)
 | .letter n => .iface 177 (.int .u8 n)
 | .truth b => .iface 178 (.bool b)
 | .bits n => .iface 179 (.int .u16 n)
 | .str s => .iface 180 (.string s)
 | .item t n => .iface 182 (.agg #[.int .i64 t, .int .i64 n])
 | .null => .iface 184 (.agg #[])
 | .other => .iface 9 (.string ⟨#[110, 111, 110, 101]⟩)
def AnyD.sort : AnyD → Nat
 | .nil => 0 | .whole _ => 1 | .letter _ => 2 | .truth _ => 3 | .bits _ => 4 | .str _ => 5 | .item _ _ => 6 | .null => 7 | .other => 8
def AnyD.wholeV : AnyD → Int | .whole n => n | _ => 0
def AnyD.letterV : AnyD → Int | .letter n => n | _ => 0
def AnyD.truthV : AnyD → Bool | .truth b => b | _ => false
def AnyD.bitsV : AnyD → Int | .bits n => n | _ => 0
def AnyD.strV : AnyD → ByteArray | .str s => s | _ => ⟨#[]⟩
def AnyD.itemT : AnyD → Int | .item t _ => t | _ => 0
def AnyD.itemN : AnyD → Int | .item _ n => n | _ => 0
theorem AnyD.val_one (v : AnyD) : v.val.oneCell' = true := by cases v <;> rfl
section
variable (v : AnyD) (w : World)
theorem anyAs_whole : (Instr.typeAssert v.val 20 176 true).run Tryz.prog w = .ok (.tuple #[.int .i64 v.wholeV, .bool (v.sort == 1)]) w := by
 cases v <;> simp only [AnyD.val, AnyD.wholeV, AnyD.sort] <;> first
  | (rw [as_self Tryz.underlying176 rfl]; rfl)
  | (rw [as_nil Tryz.underlying176 rfl Tryz.zeroValue176]; rfl)
  | (rw [as_other Tryz.underlying176 rfl Tryz.zeroValue176 (by decide)]; rfl)
theorem anyAs_letter : (Instr.typeAssert v.val 20 177 true).run Tryz.prog w = .ok (.tuple #[.int .u8 v.letterV, .bool (v.sort == 2)]) w := by
 cases v <;> simp only [AnyD.val, AnyD.letterV, AnyD.sort] <;> first
  | (rw [as_self Tryz.underlying177 rfl]; rfl)
  | (rw [as_nil Tryz.underlying177 rfl Tryz.zeroValue177]; rfl)
  | (rw [as_other Tryz.underlying177 rfl Tryz.zeroValue177 (by decide)]; rfl)
theorem anyAs_truth : (Instr.typeAssert v.val 20 178 true).run Tryz.prog w = .ok (.tuple #[.bool v.truthV, .bool (v.sort == 3)]) w := by
 cases v <;> simp only [AnyD.val, AnyD.truthV, AnyD.sort] <;> first
  | (rw [as_self Tryz.underlying178 rfl]; rfl)
  | (rw [as_nil Tryz.underlying178 rfl Tryz.zeroValue178]; rfl)
  | (rw [as_other Tryz.underlying178 rfl Tryz.zeroValue178 (by decide)]; rfl)
theorem anyAs_bits : (Instr.typeAssert v.val 20 179 true).run Tryz.prog w = .ok (.tuple #[.int .u16 v.bitsV, .bool (v.sort == 4)]) w := by
 cases v <;> simp only [AnyD.val, AnyD.bitsV, AnyD.sort] <;> first
  | (rw [as_self Tryz.underlying179 rfl]; rfl)
  | (rw [as_nil Tryz.underlying179 rfl Tryz.zeroValue179]; rfl)
  | (rw [as_other Tryz.underlying179 rfl Tryz.zeroValue179 (by decide)]; rfl)
theorem anyAs_string : (Instr.typeAssert v.val 20 180 true).run Tryz.prog w = .ok (.tuple #[.string v.strV, .bool (v.sort == 5)]) w := by
 cases v <;> simp only [AnyD.val, AnyD.strV, AnyD.sort] <;> first
  | (rw [as_self Tryz.underlying180 rfl]; rfl)
  | (rw [as_nil Tryz.underlying180 rfl Tryz.zeroValue180]; rfl)
  | (rw [as_other Tryz.underlying180 rfl Tryz.zeroValue180 (by decide)]; rfl)
theorem anyAs_item : (Instr.typeAssert v.val 20 182 true).run Tryz.prog w = .ok (.tuple #[.agg #[.int .i64 v.itemT, .int .i64 v.itemN], .bool (v.sort == 6)]) w := by
 cases v <;> simp only [AnyD.val, AnyD.itemT, AnyD.itemN, AnyD.sort] <;> first
  | (rw [as_self Tryz.underlying182 rfl]; rfl)
  | (rw [as_nil Tryz.underlying182 rfl Tryz.zeroValue182]; rfl)
  | (rw [as_other Tryz.underlying182 rfl Tryz.zeroValue182 (by decide)]; rfl)
theorem anyAs_null : (Instr.typeAssert v.val 20 184 true).run Tryz.prog w = .ok (.tuple #[.agg #[], .bool (v.sort == 7)]) w := by
 cases v <;> simp only [AnyD.val, AnyD.sort, AnyD.sort] <;> first
  | (rw [as_self Tryz.underlying184 rfl]; rfl)
  | (rw [as_nil Tryz.underlying184 rfl Tryz.zeroValue184]; rfl)
  | (rw [as_other Tryz.underlying184 rfl Tryz.zeroValue184 (by decide)]; rfl)
end
def ItmD.cells (x : ItmD) : List Value := [.string x.name, .int .u8 x.kind, .int .i64 x.type, x.v.val, .int .i64 x.at_]
theorem itm_len (x : ItmD) : x.cells.length = 5 := rfl
def UseD.cellsF (u : UseD) : List Value := [.string u.module, .int .u64 u.key]
theorem useF_len (x : UseD) : x.cellsF.length = 2 := rfl
def SlItms (w : World) (P : Nat → Prop) (v : Value) (l : List ItmD) : Prop := Sl w P 5 v l.length (l.flatMap ItmD.cells)
def SlUsesF (w : World) (P : Nat → Prop) (v : Value) (l : List UseD) : Prop := Sl w P 2 v l.length (l.flatMap UseD.cellsF)
def SlTys (w : World) (P : Nat → Prop) (v : Value) (l : List Ty) : Prop :=
 ∃ xs, Sl w P 12 v l.length xs ∧ (∀ u ∈ xs, u.oneCell' = true) ∧ ∀ i t, l[i]? = some t → ∃ vn vf va vp, (∀ j u, (t.cells vn vf va vp)[j]? = some u → xs[i * 12 + j]? = some u) ∧ Lists w P vn vf va vp t
structure FaceL (w : World) (P : Nat → Prop) (vu vt vi : Value) (f : FaceD) : Prop where
 uses : SlUsesF w P vu f.uses
 types : SlTys w P vt f.types
 items : SlItms w P vi f.items
def FaceD.val (f : FaceD) (vu vt vi : Value) : Value := .agg #[.string f.module, vu, vt, vi]
section
variable {w w' : World} {P Q : Nat → Prop} {v vu vt vi : Value}
theorem SlTys.keep {ls : List Nat} {l : List Ty} (h : SlTys w P v l) (hw : Wr ls w w') (hP : ∀ b, P b → b ∉ ls) : SlTys w' P v l := by
 obtain ⟨xs, h1, h2, h3⟩ := h
 refine ⟨xs, h1.keep hw hP, h2, fun i o hi => ?_⟩
 obtain ⟨vn, vf, va, vp, e1, e2⟩ := h3 i o hi
 exact ⟨vn, vf, va, vp, e1, e2.keep hw hP⟩
theorem SlTys.wr0 {l : List Ty} (h : SlTys w P v l) (hw : Wr [] w w') : SlTys w' P v l := h.keep hw (fun _ _ => by simp)
theorem SlTys.into {l : List Ty} (h : SlTys w P v l) (hP : ∀ b, P b → b < w.heap.size → Q b) : SlTys w Q v l := by
 obtain ⟨xs, h1, h2, h3⟩ := h
 refine ⟨xs, h1.into hP, h2, fun i o hi => ?_⟩
 obtain ⟨vn, vf, va, vp, e1, e2⟩ := h3 i o hi
 exact ⟨vn, vf, va, vp, e1, e2.into hP⟩
theorem SlTys.form {l : List Ty} (h : SlTys w P v l) : ∃ A c, v = .slice A l.length c ∧ l.length ≤ c ∧ c ≤ maxLen := by
 obtain ⟨xs, h1, h2, h3⟩ := h
 exact h1.form
theorem SlTys.nil (w : World) (P : Nat → Prop) : SlTys w P (.slice none 0 0) [] := ⟨[], Sl.nil _ _ _, by simp, fun i t h => by simp at h⟩
theorem ty_at {l : List Ty} (h : SlTys w P v l) {i : Nat} {t : Ty} (hi : l[i]? = some t) : ∃ b off c vn vf va vp, v = .slice (some ⟨b, off, none⟩) l.length c ∧ P b ∧ (∀ j u, (t.cells vn vf va vp)[j]? = some u → w.cell? ⟨b, off + i * 12 + j, none⟩ = some u) ∧ Lists w P vn vf va vp t := by
 obtain ⟨xs, h1, h2, h3⟩ := h
 obtain ⟨vn, vf, va, vp, e1, e2⟩ := h3 i t hi
 obtain ⟨b, off, c, e, _, _, hP, h4⟩ := Sl.thing h1 (by decide) (List.getElem?_eq_some_iff.1 hi).1
 refine ⟨b, off, c, vn, vf, va, vp, e, hP, fun j u hj => ?_, e2⟩
 have hj9 : j < 12 := (List.getElem?_eq_some_iff.1 hj).1
 rw [Nat.add_assoc]
 exact h4 j u hj9 (e1 j u hj)
theorem itm_at {l : List ItmD} (h : SlItms w P v l) {i : Nat} {x : ItmD} (hi : l[i]? = some x) : ∃ b off c, v = .slice (some ⟨b, off, none⟩) l.length c ∧ P b ∧ ∀ j u, x.cells[j]? = some u → w.cell? ⟨b, off + i * 5 + j, none⟩ = some u := by
 obtain ⟨b, off, c, e, _, _, hP, h4⟩ := Sl.thing h (by decide) (List.getElem?_eq_some_iff.1 hi).1
 refine ⟨b, off, c, e, hP, fun j u hj => ?_⟩
 have hj5 : j < 5 := (List.getElem?_eq_some_iff.1 hj).1
 rw [Nat.add_assoc]
 exact h4 j u hj5 (by rw [flatF_at itm_len l i j x hi hj5]; exact hj)
theorem useF_at {l : List UseD} (h : SlUsesF w P v l) {i : Nat} {x : UseD} (hi : l[i]? = some x) : ∃ b off c, v = .slice (some ⟨b, off, none⟩) l.length c ∧ P b ∧ ∀ j u, x.cellsF[j]? = some u → w.cell? ⟨b, off + i * 2 + j, none⟩ = some u := by
 obtain ⟨b, off, c, e, _, _, hP, h4⟩ := Sl.thing h (by decide) (List.getElem?_eq_some_iff.1 hi).1
 refine ⟨b, off, c, e, hP, fun j u hj => ?_⟩
 have hj5 : j < 2 := (List.getElem?_eq_some_iff.1 hj).1
 rw [Nat.add_assoc]
 exact h4 j u hj5 (by rw [flatF_at useF_len l i j x hi hj5]; exact hj)
theorem FaceL.keep {ls : List Nat} {f : FaceD} (h : FaceL w P vu vt vi f) (hw : Wr ls w w') (hP : ∀ b, P b → b ∉ ls) : FaceL w' P vu vt vi f := ⟨Sl.keep h.uses hw hP, h.types.keep hw hP, Sl.keep h.items hw hP⟩
theorem FaceL.wr0 {f : FaceD} (h : FaceL w P vu vt vi f) (hw : Wr [] w w') : FaceL w' P vu vt vi f := h.keep hw (fun _ _ => by simp)
theorem FaceL.into {f : FaceD} (h : FaceL w P vu vt vi f) (hP : ∀ b, P b → b < w.heap.size → Q b) : FaceL w Q vu vt vi f := ⟨Sl.into h.uses hP, h.types.into hP, Sl.into h.items hP⟩
end
theorem short_list {l : List ByteArray} {ev : Nat → ByteArray} (h : ∀ (i : Nat) (s : ByteArray), l[i]? = some s → ev i = s) : (!anyB l.length fun i => decide (((ev i).size : Int) > 255)) = l.all shB := by
 unfold anyB shB
 rw [Bool.eq_iff_iff]
 simp only [Bool.not_eq_true', List.any_eq_false, List.all_eq_true, List.mem_range, decide_eq_true_eq]
 constructor
 ·intro h1 s hs
  obtain ⟨i, hi⟩ := List.getElem?_of_mem hs
  have := h1 i (List.getElem?_eq_some_iff.1 hi).1
  rw [h i s hi] at this
  omega
 ·intro h1 i hi
  have := h1 _ (List.getElem_mem hi)
  rw [h i _ (qgeq hi)]
  omega
theorem SlStrs.cellsAt {w : World} {P : Nat → Prop} {A : Option Addr} {c : Nat} {l : List ByteArray} (h : SlStrs w P (.slice A l.length c) l) : CellsAt w A l.length (fun i => .string ((l[i]?).getD ⟨#[]⟩)) := by
 intro i hi
 obtain ⟨b, off, c', e, _, _, _, hc⟩ := Sl.at_ h (j := i) (u := .string l[i]) (by rw [qgmq, qgeq hi]; rfl)
 injection e with e1 _ _
 exact ⟨b, off, e1, by rw [hc]; simp [qgeq hi]⟩
theorem SlInts.cellsAt {w : World} {P : Nat → Prop} {A : Option Addr} {c : Nat} {l : List Int} (h : SlInts w P (.slice A l.length c) l) : CellsAt w A l.length (fun i => .int .i64 ((l[i]?).getD 0)) := by
 intro i hi
 obtain ⟨b, off, c', e, _, _, _, hc⟩ := Sl.at_ h (j := i) (u := .int .i64 l[i]) (by rw [qgmq, qgeq hi]; rfl)
 injection e with e1 _ _
 exact ⟨b, off, e1, by rw [hc]; simp [qgeq hi]⟩
theorem blk_cells {w : World} {g : Nat} {t : TypeId} {cs : Array Value} {n : Nat} {ev : Nat → Value} (h : Blk w g t cs) (hn : ∀ i, i < n → cs[i]? = some (ev i)) : CellsAt w (some ⟨g, 0, none⟩) n ev := fun i hi => ⟨g, 0, rfl, by rw [Nat.zero_add, h.cell]; exact hn i hi⟩
def WlkR (w : World) (b : Nat) (r : Rd) : Prop := Blk w b 160 #[.string ⟨r.s.toArray⟩, .bool true, .bool r.bad]
theorem or_step (n c : Nat) (hn : n < 72057594037927936) (hc : c < 256) : bits .or .u64 (((256 * n : Nat) : Int)) (c : Int) = ((256 * n + c : Nat) : Int) := by
 rw [bits_or_u64_nat _ _ (by omega) (by omega)]
 congr 1
 rw [show 256 * n = n <<< 8 by rw [Nat.shiftLeft_eq]; omega]
 rw [← Nat.shiftLeft_add_eq_or_of_lt (show c < 2 ^ 8 from hc)]
theorem bytes_r (b size : Nat) (n : Int) (r : Rd) (hs : size ≤ 8) (w : World) (hb : WlkR w b r) :
  Calls Tryz.prog 109 #[.pointer (some ⟨b, 0, none⟩), .int .u64 n, .int .i64 (size : Int)] w fun e w' => e = .returned (.int .u64 ((r.num size).1 : Int)) ∧ Wr [b] w w' ∧ WlkR w' b (r.num size).2 := by
 obtain ⟨l, bad⟩ := r
 obtain ⟨S, hS⟩ : ∃ S : ByteArray, ⟨l.toArray⟩ = S := ⟨_, rfl⟩
 have hsz : S.size = l.length := by rw [← hS]; show l.toArray.size = _; simp
 have hb' : Blk w b 160 #[.string S, .bool true, .bool bad] := by rw [← hS]; exact hb
 obtain ⟨c0, c1, c2⟩ := c3q hb'
 have z0 := hb'.frozen 0
 have z2 := hb'.frozen 2
 cases bad with
 | true =>
  have hr : (Rd.mk l true).num size = (0, ⟨l, true⟩) := by unfold Rd.num Rd.raw; simp [valN]
  rw [hr]
  have HB := qh hb'
  clear hb hb' hr
  go_in
  go_wp2_with fail
  go_ret
  exact ⟨rfl, (Wr.refl _ _).setOn (by simp) _, by have := HB.out.set_ 2 (.bool true); rw [← hS] at this; exact this⟩
 | false =>
  by_cases hlt : l.length < size
  ·have hr : (Rd.mk l false).num size = (0, ⟨l, true⟩) := by unfold Rd.num Rd.raw; simp [valN, hlt]
   rw [hr]
   have HB := qh hb'
   have e0 : (S.size : Int) < (size : Int) := by omega
   clear hb hb' hr
   go_in
   go_wp2_with fail
   go_ret
   exact ⟨rfl, (Wr.refl _ _).setOn (by simp) _, by have := HB.out.set_ 2 (.bool true); rw [← hS] at this; exact this⟩
  ·have hr : (Rd.mk l false).num size = (valN (l.take size), ⟨l.drop size, false⟩) := by unfold Rd.num Rd.raw; simp [hlt]
   rw [hr]
   have HB := qh hb'
   have e0 : ¬ (S.size : Int) < (size : Int) := by omega
   clear hb hb' hr
   go_in
   have htl : (l.take size).length = size := by rw [List.length_take]; omega
   obtain ⟨T, hT⟩ : ∃ T : ByteArray, S.extract 0 size = T := ⟨_, rfl⟩
   have hTe : T = ⟨(l.take size).toArray⟩ := by
    rw [← hT, ← hS]
    apply ByteArray.ext
    rw [ByteArray.data_extract]
    simp
   have hTs : T.size = size := by rw [hTe]; show (l.take size).toArray.size = _; rw [List.size_toArray, htl]
   obtain ⟨w1, hw1⟩ : ∃ q, w.setCell ⟨b, 2, none⟩ (.bool false) = q := ⟨_, rfl⟩
   have b1 : Blk w1 b 160 #[.string S, .bool true, .bool false] := by rw [← hw1]; exact HB.out.set_ 2 (.bool false)
   have r1 : Wr [b] w w1 := by rw [← hw1]; exact (Wr.refl _ _).setOn (by simp) _
   have hconv := run_bytes_of_string (P := Tryz.prog) w1 9 42 5 T Tryz.underlying9 Tryz.underlying42 Tryz.underlying5
   obtain ⟨cap, hcap⟩ : ∃ cap, grownCap w1 T.size 0 5 = cap := ⟨_, rfl⟩
   rw [hcap] at hconv
   obtain ⟨w2, hw2⟩ : ∃ q, (w1.drew.alloc (.cells (bytesRow T cap) 5 ((bytesRow T cap).size, (bytesRow T cap).size + 1))) = q := ⟨_, rfl⟩
   rw [hw2] at hconv
   obtain ⟨g, hg⟩ : ∃ q, w1.heap.size = q := ⟨_, rfl⟩
   have hcell : ∀ j (hj : j < T.data.size), w2.cell? ⟨g, j, none⟩ = some (.int .u8 ((T.data[j]'hj).toNat : Int)) := fun j hj => by
    rw [← hw2, ← hg]
    exact (World.cell?_alloc_mark w1.drew _ _ _ j).trans (bytesRow_at T cap j hj)
   rw [hg] at hconv
   have r2 : Wr [] w1 w2 := by rw [← hw2]; exact ((Wr.refl [] w1).drew).alloc _
   have b2 := b1.wr0 r2
   have acc : Wr [b] w w2 := r1.trans r2.nil
   have y0 := b1.cell 0
   have y2 := b1.cell 2
   simp only [qgaq, qgzq, qgsq] at y0 y2
   have x0 := b2.cell 0
   have x1 := b2.frozen 0
   simp only [qgaq, qgzq] at x0
   have hsl : S.extract size l.length = ⟨(l.drop size).toArray⟩ := by
    rw [← hS]
    apply ByteArray.ext
    rw [ByteArray.data_extract]
    simp
    exact List.take_of_length_le (by simp)
   rw [hTs] at hconv
   have B2 := qh b2
   have HCELL := qh hcell
   have HTE := qh hTe
   have HTS := qh hTs
   have HSL := qh hsl
   have ACC := qh acc
   clear hcell hTe b2 b1 r1 r2 hw2 hsl acc HB hTs hS
   go_upto_region 13 with (fail)
   clear c0 c1 c2 z0 z2 y0 y2 hconv hw1
   go_loop [1, 66] (fun v i => ∃ k : Nat, k ≤ size ∧ i = .int .i64 k ∧ v = .int .u64 ((valN (l.take k) : Nat) : Int)) (fun _ i => size - (intOf i).toNat)
   case atStart => exact ⟨0, by omega, rfl, rfl⟩
   case round =>
    obtain ⟨k, hk, rfl, rfl⟩ := hrel
    by_cases hkl : k < size
    ·have hi0 : (0 : Int) ≤ (k : Int) := by omega
     have hi1 : (k : Int) < (size : Int) := by omega
     have hkl2 : k < l.length := by omega
     have hkT : k < T.data.size := by have := HTS.out; show k < T.size; omega
     have hc := HCELL.out k hkT
     have hb : T.data[k]'hkT = l[k]'hkl2 := by
      have e := HTE.out
      have e2 : T.data[k]? = l[k]? := by
       rw [e, qgaq, List.getElem?_take_of_lt hkl]
      rw [Array.getElem?_eq_getElem hkT, qgeq hkl2] at e2
      exact Option.some.inj e2
     rw [hb] at hc
     have hv : valN (l.take (k + 1)) = 256 * valN (l.take k) + (l[k]'hkl2).toNat := by
      rw [List.take_succ_eq_append_getElem hkl2, valN_snoc]
     have hn : valN (l.take k) < 72057594037927936 := by
      have h1 := (numL_valN k (l.take k) (by rw [List.length_take]; omega)).2
      have h2 : 256 ^ k ≤ 256 ^ 7 := Nat.pow_le_pow_right (by decide) (by omega)
      have h3 : (256 : Nat) ^ 7 = 72057594037927936 := by decide
      omega
     have hor := or_step _ _ hn (l[k]'hkl2).toNat_lt
     rw [← hv] at hor
     have hcw : IntKind.u64.wrap (((l[k]'hkl2).toNat : Nat) : Int) = (((l[k]'hkl2).toNat : Nat) : Int) := by have := (l[k]'hkl2).toNat_lt; rw [IntKind.wrap_u64]; omega
     generalize (l[k]'hkl2).toNat = c at *
     obtain ⟨N2, hN2⟩ : ∃ q, valN (l.take (k + 1)) = q := ⟨_, rfl⟩
     rw [hN2] at hor hv
     have HN2 := qh hN2
     clear hN2
     generalize valN (l.take k) = N1 at *
     rw [show ((256 * N1 : Nat) : Int) = (N1 : Int) * 256 by omega] at hor
     clear hb
     go_wp2_with fail
     refine ⟨⟨k + 1, by omega, by push_cast; rfl, ?_⟩, by simp only [intOf]; omega⟩
     rw [HN2.out]
     congr 1
     omega
    ·obtain rfl : k = size := by omega
     go_wp2_with fail
     go_ret
     refine ⟨rfl, ACC.out.trans ((Wr.refl _ _).setOn (by simp) _), ?_⟩
     have := B2.out.set_ 0 (.string (S.extract k l.length))
     rw [HSL.out] at this ⊢
     exact this
end Go.Proofs.YtildcdgobdfieaaGreat
