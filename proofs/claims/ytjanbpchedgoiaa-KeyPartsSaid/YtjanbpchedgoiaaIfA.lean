/- slices.ContainsFunc of texts and of numbers, over what its question answers; iface's short, few, small: walked. Conditions: the list is there. -/
import Derived.Test.YtjanbpchedgoiaaKeB
import Derived.Deep.Cut
import Derived.Deep.DeepCutAuto
namespace Go.Proofs.Ytjanbpchedgoiaa
open Go.RowKit
set_option linter.unusedVariables false
set_option linter.unusedSimpArgs false

/-- Is one of the first n such? -/
def anyB (n : Nat) (p : Nat → Bool) : Bool := (List.range n).any p
theorem anyB_yes {n : Nat} {p : Nat → Bool} {k : Nat} (hk : k < n) (h : p k = true) : anyB n p = true := List.any_eq_true.2 ⟨k, List.mem_range.2 hk, h⟩
theorem anyB_no {n : Nat} {p : Nat → Bool} (h : ∀ j, j < n → p j = false) : anyB n p = false := by
  unfold anyB
  rw [List.any_eq_false]
  intro j hj
  rw [h j (List.mem_range.1 hj)]
  simp
def CellsAt (w : World) (A : Option Addr) (n : Nat) (ev : Nat → Value) : Prop := ∀ i, i < n → ∃ b off, A = some ⟨b, off, none⟩ ∧ w.cell? ⟨b, off + i, none⟩ = some (ev i)
def IdxP (w : World) (n : Nat) (p : Nat → Bool) (e : Ending) (w' : World) : Prop := ∃ r : Int, e = .returned (.int .i64 r) ∧ Wr [] w w' ∧ decide (r ≥ 0) = anyB n p

set_option maxRecDepth 100000 in
set_option maxHeartbeats 2000000 in
theorem idx_short (w : World) (A : Option Addr) (n c : Nat) (ev : Nat → ByteArray) (hcc : n ≤ c ∧ c ≤ maxLen) (hc : CellsAt w A n (fun i => .string (ev i))) (p : Nat → Bool)
    (hf : ∀ i, i < n → ∀ W, Wr [] w W → Calls Try.prog 75 #[.string (ev i)] W fun e w' => e = .returned (.bool (p i)) ∧ Wr [] W w') :
    Calls Try.prog 91 #[.slice A n c, .func (.func 75) #[] #[]] w (IdxP w n p) := by
  unfold maxLen at hcc
  have hen : ∀ args w, (callFunc 75 args).run Try.prog w = .ok (.enter 75 args) w := fun args w => rfl
  go_enter Try.func91, Try.ntmps91
  go_wp2_with fail
  go_loopw [8] (fun i wr => ∃ k : Nat, k ≤ n ∧ i = .int .i64 k ∧ Wr [] w wr ∧ ∀ j, j < k → p j = false) (fun i _ => n - (intOf i).toNat)
  case atStart => exact ⟨0, by omega, rfl, Wr.refl _ _, fun j h => absurd h (by omega)⟩
  case round =>
    obtain ⟨k, hk, rfl, hw, hno⟩ := hrel
    by_cases hlt : k < n
    · obtain ⟨b, off, rfl, hcell⟩ := hc k hlt
      replace hcell := hw.cellOf hcell (by simp)
      have hfk := hf k hlt _ hw
      have h0 : (0 : Int) ≤ (k : Int) := by omega
      have h1 : (k : Int) < (n : Int) := by omega
      have HNO := Lib.hid hno
      have HW := Lib.hid hw
      clear hf hno hw
      cases hp : p k with
      | true =>
        rw [hp] at hfk
        have hv := anyB_yes hlt hp
        clear hp
        go_wp2_with fail
        refine hfk.mono ?_
        rintro e w1 ⟨rfl, r1⟩
        go_wp2_with fail
        go_ret
        exact ⟨k, rfl, HW.out.trans r1, by rw [hv]; simp⟩
      | false =>
        rw [hp] at hfk
        have hno' : ∀ j, j < k + 1 → p j = false := fun j hj => by
          by_cases hjk : j = k
          · subst hjk; exact hp
          · exact HNO.out j (by omega)
        have HNO' := Lib.hid hno'
        clear hp hno'
        go_wp2_with fail
        refine hfk.mono ?_
        rintro e w1 ⟨rfl, r1⟩
        go_wp2_with fail
        go_roundw
        case rel => exact ⟨k + 1, by omega, by go_num, HW.out.trans r1, HNO'.out⟩
        case measure => simp [intOf]; omega
    · have hkn : k = n := by omega
      subst hkn
      have hv := anyB_no hno
      clear hno hc hf
      go_wp2_with fail
      go_ret
      exact ⟨-1, rfl, hw, by rw [hv]; decide⟩
theorem has_short (w : World) (A : Option Addr) (n c : Nat) (ev : Nat → ByteArray) (hcc : n ≤ c ∧ c ≤ maxLen) (hc : CellsAt w A n (fun i => .string (ev i))) (p : Nat → Bool)
    (hf : ∀ i, i < n → ∀ W, Wr [] w W → Calls Try.prog 75 #[.string (ev i)] W fun e w' => e = .returned (.bool (p i)) ∧ Wr [] W w') :
    Calls Try.prog 74 #[.slice A n c, .func (.func 75) #[] #[]] w fun e w' => e = .returned (.bool (anyB n p)) ∧ Wr [] w w' := by
  have h := idx_short w A n c ev hcc hc p hf
  go_enter Try.func74, Try.ntmps74
  go_wp2_with fail
  refine h.mono ?_
  rintro e w1 ⟨r, rfl, r1, hr⟩
  go_wp2_with fail
  go_ret
  exact ⟨by rw [← hr]; rfl, r1⟩

set_option maxRecDepth 100000 in
set_option maxHeartbeats 2000000 in
theorem idx_few (w : World) (A : Option Addr) (n c : Nat) (ev : Nat → Int) (hcc : n ≤ c ∧ c ≤ maxLen) (hc : CellsAt w A n (fun i => .int .i64 (ev i))) (p : Nat → Bool)
    (hf : ∀ i, i < n → ∀ W, Wr [] w W → Calls Try.prog 78 #[.int .i64 (ev i)] W fun e w' => e = .returned (.bool (p i)) ∧ Wr [] W w') :
    Calls Try.prog 79 #[.slice A n c, .func (.func 78) #[] #[]] w (IdxP w n p) := by
  unfold maxLen at hcc
  have hen : ∀ args w, (callFunc 78 args).run Try.prog w = .ok (.enter 78 args) w := fun args w => rfl
  go_enter Try.func79, Try.ntmps79
  go_wp2_with fail
  go_loopw [8] (fun i wr => ∃ k : Nat, k ≤ n ∧ i = .int .i64 k ∧ Wr [] w wr ∧ ∀ j, j < k → p j = false) (fun i _ => n - (intOf i).toNat)
  case atStart => exact ⟨0, by omega, rfl, Wr.refl _ _, fun j h => absurd h (by omega)⟩
  case round =>
    obtain ⟨k, hk, rfl, hw, hno⟩ := hrel
    by_cases hlt : k < n
    · obtain ⟨b, off, rfl, hcell⟩ := hc k hlt
      replace hcell := hw.cellOf hcell (by simp)
      have hfk := hf k hlt _ hw
      have h0 : (0 : Int) ≤ (k : Int) := by omega
      have h1 : (k : Int) < (n : Int) := by omega
      have HNO := Lib.hid hno
      have HW := Lib.hid hw
      clear hf hno hw
      cases hp : p k with
      | true =>
        rw [hp] at hfk
        have hv := anyB_yes hlt hp
        clear hp
        go_wp2_with fail
        refine hfk.mono ?_
        rintro e w1 ⟨rfl, r1⟩
        go_wp2_with fail
        go_ret
        exact ⟨k, rfl, HW.out.trans r1, by rw [hv]; simp⟩
      | false =>
        rw [hp] at hfk
        have hno' : ∀ j, j < k + 1 → p j = false := fun j hj => by
          by_cases hjk : j = k
          · subst hjk; exact hp
          · exact HNO.out j (by omega)
        have HNO' := Lib.hid hno'
        clear hp hno'
        go_wp2_with fail
        refine hfk.mono ?_
        rintro e w1 ⟨rfl, r1⟩
        go_wp2_with fail
        go_roundw
        case rel => exact ⟨k + 1, by omega, by go_num, HW.out.trans r1, HNO'.out⟩
        case measure => simp [intOf]; omega
    · have hkn : k = n := by omega
      subst hkn
      have hv := anyB_no hno
      clear hno hc hf
      go_wp2_with fail
      go_ret
      exact ⟨-1, rfl, hw, by rw [hv]; decide⟩
theorem has_few (w : World) (A : Option Addr) (n c : Nat) (ev : Nat → Int) (hcc : n ≤ c ∧ c ≤ maxLen) (hc : CellsAt w A n (fun i => .int .i64 (ev i))) (p : Nat → Bool)
    (hf : ∀ i, i < n → ∀ W, Wr [] w W → Calls Try.prog 78 #[.int .i64 (ev i)] W fun e w' => e = .returned (.bool (p i)) ∧ Wr [] W w') :
    Calls Try.prog 58 #[.slice A n c, .func (.func 78) #[] #[]] w fun e w' => e = .returned (.bool (anyB n p)) ∧ Wr [] w w' := by
  have h := idx_few w A n c ev hcc hc p hf
  go_enter Try.func58, Try.ntmps58
  go_wp2_with fail
  refine h.mono ?_
  rintro e w1 ⟨r, rfl, r1, hr⟩
  go_wp2_with fail
  go_ret
  exact ⟨by rw [← hr]; rfl, r1⟩

set_option maxRecDepth 100000 in
set_option maxHeartbeats 2000000 in
theorem idx_small (w : World) (A : Option Addr) (n c : Nat) (ev : Nat → Int) (hcc : n ≤ c ∧ c ≤ maxLen) (hc : CellsAt w A n (fun i => .int .i64 (ev i))) (p : Nat → Bool)
    (hf : ∀ i, i < n → ∀ W, Wr [] w W → Calls Try.prog 81 #[.int .i64 (ev i)] W fun e w' => e = .returned (.bool (p i)) ∧ Wr [] W w') :
    Calls Try.prog 93 #[.slice A n c, .func (.func 81) #[] #[]] w (IdxP w n p) := by
  unfold maxLen at hcc
  have hen : ∀ args w, (callFunc 81 args).run Try.prog w = .ok (.enter 81 args) w := fun args w => rfl
  go_enter Try.func93, Try.ntmps93
  go_wp2_with fail
  go_loopw [8] (fun i wr => ∃ k : Nat, k ≤ n ∧ i = .int .i64 k ∧ Wr [] w wr ∧ ∀ j, j < k → p j = false) (fun i _ => n - (intOf i).toNat)
  case atStart => exact ⟨0, by omega, rfl, Wr.refl _ _, fun j h => absurd h (by omega)⟩
  case round =>
    obtain ⟨k, hk, rfl, hw, hno⟩ := hrel
    by_cases hlt : k < n
    · obtain ⟨b, off, rfl, hcell⟩ := hc k hlt
      replace hcell := hw.cellOf hcell (by simp)
      have hfk := hf k hlt _ hw
      have h0 : (0 : Int) ≤ (k : Int) := by omega
      have h1 : (k : Int) < (n : Int) := by omega
      have HNO := Lib.hid hno
      have HW := Lib.hid hw
      clear hf hno hw
      cases hp : p k with
      | true =>
        rw [hp] at hfk
        have hv := anyB_yes hlt hp
        clear hp
        go_wp2_with fail
        refine hfk.mono ?_
        rintro e w1 ⟨rfl, r1⟩
        go_wp2_with fail
        go_ret
        exact ⟨k, rfl, HW.out.trans r1, by rw [hv]; simp⟩
      | false =>
        rw [hp] at hfk
        have hno' : ∀ j, j < k + 1 → p j = false := fun j hj => by
          by_cases hjk : j = k
          · subst hjk; exact hp
          · exact HNO.out j (by omega)
        have HNO' := Lib.hid hno'
        clear hp hno'
        go_wp2_with fail
        refine hfk.mono ?_
        rintro e w1 ⟨rfl, r1⟩
        go_wp2_with fail
        go_roundw
        case rel => exact ⟨k + 1, by omega, by go_num, HW.out.trans r1, HNO'.out⟩
        case measure => simp [intOf]; omega
    · have hkn : k = n := by omega
      subst hkn
      have hv := anyB_no hno
      clear hno hc hf
      go_wp2_with fail
      go_ret
      exact ⟨-1, rfl, hw, by rw [hv]; decide⟩
theorem has_small (w : World) (A : Option Addr) (n c : Nat) (ev : Nat → Int) (hcc : n ≤ c ∧ c ≤ maxLen) (hc : CellsAt w A n (fun i => .int .i64 (ev i))) (p : Nat → Bool)
    (hf : ∀ i, i < n → ∀ W, Wr [] w W → Calls Try.prog 81 #[.int .i64 (ev i)] W fun e w' => e = .returned (.bool (p i)) ∧ Wr [] W w') :
    Calls Try.prog 80 #[.slice A n c, .func (.func 81) #[] #[]] w fun e w' => e = .returned (.bool (anyB n p)) ∧ Wr [] w w' := by
  have h := idx_small w A n c ev hcc hc p hf
  go_enter Try.func80, Try.ntmps80
  go_wp2_with fail
  refine h.mono ?_
  rintro e w1 ⟨r, rfl, r1, hr⟩
  go_wp2_with fail
  go_ret
  exact ⟨by rw [← hr]; rfl, r1⟩

set_option maxRecDepth 100000 in
set_option maxHeartbeats 2000000 in
theorem idx_typ (w : World) (A : Option Addr) (n c : Nat) (ev : Nat → Int) (hcc : n ≤ c ∧ c ≤ maxLen) (hc : CellsAt w A n (fun i => .int .i64 (ev i))) (p : Nat → Bool) (pi : Nat)
    (hf : ∀ i, i < n → ∀ W, Wr [] w W → Calls Try.prog 59 #[.int .i64 (ev i), .pointer (some ⟨pi, 0, none⟩)] W fun e w' => e = .returned (.bool (p i)) ∧ Wr [] W w') :
    Calls Try.prog 79 #[.slice A n c, .func (.func 59) #[] #[.pointer (some ⟨pi, 0, none⟩)]] w (IdxP w n p) := by
  unfold maxLen at hcc
  have hen : ∀ args w, (callFunc 59 args).run Try.prog w = .ok (.enter 59 args) w := fun args w => rfl
  go_enter Try.func79, Try.ntmps79
  go_wp2_with fail
  go_loopw [8] (fun i wr => ∃ k : Nat, k ≤ n ∧ i = .int .i64 k ∧ Wr [] w wr ∧ ∀ j, j < k → p j = false) (fun i _ => n - (intOf i).toNat)
  case atStart => exact ⟨0, by omega, rfl, Wr.refl _ _, fun j h => absurd h (by omega)⟩
  case round =>
    obtain ⟨k, hk, rfl, hw, hno⟩ := hrel
    by_cases hlt : k < n
    · obtain ⟨b, off, rfl, hcell⟩ := hc k hlt
      replace hcell := hw.cellOf hcell (by simp)
      have hfk := hf k hlt _ hw
      have h0 : (0 : Int) ≤ (k : Int) := by omega
      have h1 : (k : Int) < (n : Int) := by omega
      have HNO := Lib.hid hno
      have HW := Lib.hid hw
      clear hf hno hw
      cases hp : p k with
      | true =>
        rw [hp] at hfk
        have hv := anyB_yes hlt hp
        clear hp
        go_wp2_with fail
        refine hfk.mono ?_
        rintro e w1 ⟨rfl, r1⟩
        go_wp2_with fail
        go_ret
        exact ⟨k, rfl, HW.out.trans r1, by rw [hv]; simp⟩
      | false =>
        rw [hp] at hfk
        have hno' : ∀ j, j < k + 1 → p j = false := fun j hj => by
          by_cases hjk : j = k
          · subst hjk; exact hp
          · exact HNO.out j (by omega)
        have HNO' := Lib.hid hno'
        clear hp hno'
        go_wp2_with fail
        refine hfk.mono ?_
        rintro e w1 ⟨rfl, r1⟩
        go_wp2_with fail
        go_roundw
        case rel => exact ⟨k + 1, by omega, by go_num, HW.out.trans r1, HNO'.out⟩
        case measure => simp [intOf]; omega
    · have hkn : k = n := by omega
      subst hkn
      have hv := anyB_no hno
      clear hno hc hf
      go_wp2_with fail
      go_ret
      exact ⟨-1, rfl, hw, by rw [hv]; decide⟩
theorem has_typ (w : World) (A : Option Addr) (n c : Nat) (ev : Nat → Int) (hcc : n ≤ c ∧ c ≤ maxLen) (hc : CellsAt w A n (fun i => .int .i64 (ev i))) (p : Nat → Bool) (pi : Nat)
    (hf : ∀ i, i < n → ∀ W, Wr [] w W → Calls Try.prog 59 #[.int .i64 (ev i), .pointer (some ⟨pi, 0, none⟩)] W fun e w' => e = .returned (.bool (p i)) ∧ Wr [] W w') :
    Calls Try.prog 58 #[.slice A n c, .func (.func 59) #[] #[.pointer (some ⟨pi, 0, none⟩)]] w fun e w' => e = .returned (.bool (anyB n p)) ∧ Wr [] w w' := by
  have h := idx_typ w A n c ev hcc hc p pi hf
  go_enter Try.func58, Try.ntmps58
  go_wp2_with fail
  refine h.mono ?_
  rintro e w1 ⟨r, rfl, r1, hr⟩
  go_wp2_with fail
  go_ret
  exact ⟨by rw [← hr]; rfl, r1⟩

end Go.Proofs.Ytjanbpchedgoiaa
