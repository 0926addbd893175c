/- Bytes as numbers, and one step of a key: plain. No conditions. -/
import Derived.Test.YtjanbpchedgoiaaGreatKT01
import Derived.Laws.Bits64
import Derived.Laws.IdiomStrings
import Derived.Deep.Cut
import Derived.Deep.DeepCutAuto
import Derived.LoopN
import Derived.OrdersHeld
import Derived.Tactics
set_option linter.unusedVariables false
set_option linter.unusedSimpArgs false
set_option maxRecDepth 100000
set_option maxHeartbeats 32000000
namespace Go.Proofs.YtjanbpchedgoiaaGreat
open Go.RowKit
def natsOf (s : ByteArray) : List Nat := s.data.toList.map UInt8.toNat
theorem natsOf_len (s : ByteArray) : (natsOf s).length = s.size := by
 unfold natsOf
 rw [qlmq, Array.length_toList]
 rfl
theorem natsOf_take (s : ByteArray) (k : Nat) (hk : k < s.size) : (natsOf s).take (k + 1) = (natsOf s).take k ++ [(s[k]'hk).toNat] := by
 have hl : k < (natsOf s).length := by rw [natsOf_len]; exact hk
 rw [List.take_add_one, qgeq hl]
 have : (natsOf s)[k] = (s[k]'hk).toNat := by
  simp only [natsOf, List.getElem_map, Array.getElem_toList]
  rfl
 rw [this]
 rfl
theorem moreN_one (h c : Nat) : moreN h [c] = stepN h c := by
 unfold moreN
 rw [List.foldl_cons, List.foldl_nil]
theorem moreN_snoc (h : Nat) (l : List Nat) (c : Nat) : moreN h (l ++ [c]) = stepN (moreN h l) c := by
 rw [moreN_append, moreN_one]
theorem step_eq (a c : Nat) (ha : a < 18446744073709551616) (hc : c < 256) : IntKind.u64.wrap (bits .xor .u64 (a : Int) (c : Int) * 1099511628211) = ((stepN a c : Nat) : Int) := by
 rw [Go.bits_xor_u64_nat a c ha (by omega)]
 rw [IntKind.wrap_u64]
 unfold stepN
 generalize a ^^^ c = x
 omega
theorem cons_str (a : UInt8) (l : List UInt8) : (⟨#[a]⟩ : ByteArray) ++ ⟨l.toArray⟩ = ⟨(a :: l).toArray⟩ := by
 apply ByteArray.ext
 rw [ByteArray.data_append]
 simp
theorem short1_any (s : ByteArray) (hs : s.size ≤ 255) (w : World) : Calls Tryz.prog 94 #[.string s] w fun e w' => e = .returned (.bool false) ∧ w = w' := by
 have h : decide ((s.size : Int) > 255) = false := by simp; omega
 go_enter Tryz.func94, Tryz.ntmps94
 go_wp2_with fail
 go_ret
 exact ⟨rfl, rfl⟩
theorem index_one (g : Nat) (s : ByteArray) (hs : s.size ≤ 255) (w : World) (hc : w.cell? ⟨g, 0, none⟩ = some (.string s)) :
  Calls Tryz.prog 109 #[.slice (some ⟨g, 0, none⟩) 1 1, .func (.func 94) #[] #[]] w fun e w' => e = .returned (.int .i64 (-1)) ∧ w = w' := by
 have hf := fun w => short1_any s hs w
 have hen : ∀ args w, (callFunc 94 args).run Tryz.prog w = .ok (.enter 94 args) w := fun args w => rfl
 go_enter Tryz.func109, Tryz.ntmps109
 go_wp2_with fail
 refine wp_loop_rounds 2 ?_
 rw [rounds_succ]
 go_wp2_with fail
 refine (hf _).mono ?_
 rintro e w1 ⟨rfl, rfl⟩
 go_wp2_with fail
 rw [rounds_succ]
 go_wp2_with fail
 go_ret
 exact ⟨rfl, rfl⟩
theorem contains_one (g : Nat) (s : ByteArray) (hs : s.size ≤ 255) (w : World) (hc : w.cell? ⟨g, 0, none⟩ = some (.string s)) :
  Calls Tryz.prog 93 #[.slice (some ⟨g, 0, none⟩) 1 1, .func (.func 94) #[] #[]] w fun e w' => e = .returned (.bool false) ∧ w = w' := by
 have hf := index_one g s hs w hc
 go_enter Tryz.func93, Tryz.ntmps93
 go_wp2_with fail
 refine hf.mono ?_
 rintro e w1 ⟨rfl, rfl⟩
 go_wp2_with fail
 go_ret
 exact ⟨rfl, rfl⟩
theorem short_one (g : Nat) (s : ByteArray) (hs : s.size ≤ 255) (w : World) (hc : w.cell? ⟨g, 0, none⟩ = some (.string s)) :
  Calls Tryz.prog 71 #[.slice (some ⟨g, 0, none⟩) 1 1] w fun e w' => e = .returned (.bool true) ∧ w = w' := by
 have hf := contains_one g s hs w hc
 go_enter Tryz.func71, Tryz.ntmps71
 go_wp2_with fail
 refine hf.mono ?_
 rintro e w1 ⟨rfl, rfl⟩
 go_wp2_with fail
 go_ret
 exact ⟨rfl, rfl⟩
theorem onceU_nil (w : World) : Calls Tryz.prog 40 #[.slice none 0 0, .func (.func 41) #[] #[]] w fun e w' => e = .returned (.bool true) ∧ Wr [] w w' := by
 have hmm := @run_makeMap Tryz.prog
 go_enter Tryz.func40, Tryz.ntmps40
 go_wp2_with fail
 refine wp_loop_rounds 1 ?_
 rw [rounds_succ]
 go_wp2_with fail
 go_ret
 exact ⟨rfl, (Wr.refl [] w).alloc _⟩
theorem onceE_nil (w : World) : Calls Tryz.prog 42 #[.slice none 0 0, .func (.func 43) #[] #[]] w fun e w' => e = .returned (.bool true) ∧ Wr [] w w' := by
 have hmm := @run_makeMap Tryz.prog
 go_enter Tryz.func42, Tryz.ntmps42
 go_wp2_with fail
 refine wp_loop_rounds 1 ?_
 rw [rounds_succ]
 go_wp2_with fail
 go_ret
 exact ⟨rfl, (Wr.refl [] w).alloc _⟩
theorem fitting_bare (m : ByteArray) (hm : m.size ≤ 255) (w : World) : Calls Tryz.prog 39 #[.agg #[.string m, .slice none 0 0, .slice none 0 0, .slice none 0 0]] w fun e w' => e = .returned (.bool true) ∧ Wr [] w w' := by
 have hf := fun g w hc => short_one g m hm w hc
 go_enter Tryz.func39, Tryz.ntmps39
 go_wp2_with fail
 refine (hf _ _ (by simp [World.cell?_alloc_mark])).mono ?_
 rintro e w1 ⟨rfl, rfl⟩
 go_wp2_with fail
 refine wp_loop_rounds 1 ?_
 rw [rounds_succ]
 go_wp2_with fail
 refine wp_loop_rounds 1 ?_
 rw [rounds_succ]
 go_wp2_with fail
 refine wp_loop_rounds 1 ?_
 rw [rounds_succ]
 go_wp2_with fail
 go_ret
 exact ⟨rfl, ((Wr.refl [] w).alloc _).alloc _⟩
def anyB (n : Nat) (p : Nat → Bool) : Bool := (List.range n).any p
theorem anyB_yes {n : Nat} {p : Nat → Bool} {k : Nat} (hk : k < n) (h : p k = true) : anyB n p = true := List.any_eq_true.2 ⟨k, List.mem_range.2 hk, h⟩
theorem anyB_no {n : Nat} {p : Nat → Bool} (h : ∀ j, j < n → p j = false) : anyB n p = false := by
 unfold anyB
 rw [List.any_eq_false]
 intro j hj
 rw [h j (List.mem_range.1 hj)]
 simp
def CellsAt (w : World) (A : Option Addr) (n : Nat) (ev : Nat → Value) : Prop := ∀ i, i < n → ∃ b off, A = some ⟨b, off, none⟩ ∧ w.cell? ⟨b, off + i, none⟩ = some (ev i)
def IdxP (w : World) (n : Nat) (p : Nat → Bool) (e : Ending) (w' : World) : Prop := ∃ r : Int, e = .returned (.int .i64 r) ∧ Wr [] w w' ∧ decide (r ≥ 0) = anyB n p
theorem idx_short (w : World) (A : Option Addr) (n c : Nat) (ev : Nat → ByteArray) (hcc : n ≤ c ∧ c ≤ maxLen) (hc : CellsAt w A n (fun i => .string (ev i))) (p : Nat → Bool)
  (hf : ∀ i, i < n → ∀ W, Wr [] w W → Calls Tryz.prog 94 #[.string (ev i)] W fun e w' => e = .returned (.bool (p i)) ∧ Wr [] W w') :
  Calls Tryz.prog 109 #[.slice A n c, .func (.func 94) #[] #[]] w (IdxP w n p) := by
 unfold maxLen at hcc
 have hen : ∀ args w, (callFunc 94 args).run Tryz.prog w = .ok (.enter 94 args) w := fun args w => rfl
 go_enter Tryz.func109, Tryz.ntmps109
 go_wp2_with fail
 go_loopw [8] (fun i wr => ∃ k : Nat, k ≤ n ∧ i = .int .i64 k ∧ Wr [] w wr ∧ ∀ j, j < k → p j = false) (fun i _ => n - (intOf i).toNat)
 case atStart => exact ⟨0, by omega, rfl, Wr.refl _ _, fun j h => absurd h (by omega)⟩
 case round =>
  obtain ⟨k, hk, rfl, hw, hno⟩ := hrel
  by_cases hlt : k < n
  ·obtain ⟨b, off, rfl, hcell⟩ := hc k hlt
   replace hcell := hw.cellOf hcell (by simp)
   have hfk := hf k hlt _ hw
   have h0 : (0 : Int) ≤ (k : Int) := by omega
   have h1 : (k : Int) < (n : Int) := by omega
   have HNO := qh hno
   have HW := qh hw
   clear hf hno hw
   cases hp : p k with
   | true =>
    rw [hp] at hfk
    have hv := anyB_yes hlt hp
    clear hp
    go_wp2_with fail
    refine hfk.mono ?_
    rintro e w1 ⟨rfl, r1⟩
    go_wp2_with fail
    go_ret
    exact ⟨k, rfl, HW.out.trans r1, by rw [hv]; simp⟩
   | false =>
    rw [hp] at hfk
    have hno' : ∀ j, j < k + 1 → p j = false := fun j hj => by
     by_cases hjk : j = k
     ·subst hjk; exact hp
     ·exact HNO.out j (by omega)
    have HNO' := qh hno'
    clear hp hno'
    go_wp2_with fail
    refine hfk.mono ?_
    rintro e w1 ⟨rfl, r1⟩
    go_wp2_with fail
    go_roundw
    case rel => exact ⟨k + 1, by omega, by go_num, HW.out.trans r1, HNO'.out⟩
    case measure => simp [intOf]; omega
  ·have hkn : k = n := by omega
   subst hkn
   have hv := anyB_no hno
   clear hno hc hf
   go_wp2_with fail
   go_ret
   exact ⟨-1, rfl, hw, by rw [hv]; decide⟩
theorem has_short (w : World) (A : Option Addr) (n c : Nat) (ev : Nat → ByteArray) (hcc : n ≤ c ∧ c ≤ maxLen) (hc : CellsAt w A n (fun i => .string (ev i))) (p : Nat → Bool)
  (hf : ∀ i, i < n → ∀ W, Wr [] w W → Calls Tryz.prog 94 #[.string (ev i)] W fun e w' => e = .returned (.bool (p i)) ∧ Wr [] W w') :
  Calls Tryz.prog 93 #[.slice A n c, .func (.func 94) #[] #[]] w fun e w' => e = .returned (.bool (anyB n p)) ∧ Wr [] w w' := by
 have h := idx_short w A n c ev hcc hc p hf
 go_enter Tryz.func93, Tryz.ntmps93
 go_wp2_with fail
 refine h.mono ?_
 rintro e w1 ⟨r, rfl, r1, hr⟩
 go_wp2_with fail
 go_ret
 exact ⟨by rw [← hr]; rfl, r1⟩
theorem idx_few (w : World) (A : Option Addr) (n c : Nat) (ev : Nat → Int) (hcc : n ≤ c ∧ c ≤ maxLen) (hc : CellsAt w A n (fun i => .int .i64 (ev i))) (p : Nat → Bool)
  (hf : ∀ i, i < n → ∀ W, Wr [] w W → Calls Tryz.prog 97 #[.int .i64 (ev i)] W fun e w' => e = .returned (.bool (p i)) ∧ Wr [] W w') :
  Calls Tryz.prog 98 #[.slice A n c, .func (.func 97) #[] #[]] w (IdxP w n p) := by
 unfold maxLen at hcc
 have hen : ∀ args w, (callFunc 97 args).run Tryz.prog w = .ok (.enter 97 args) w := fun args w => rfl
 go_enter Tryz.func98, Tryz.ntmps98
 go_wp2_with fail
 go_loopw [8] (fun i wr => ∃ k : Nat, k ≤ n ∧ i = .int .i64 k ∧ Wr [] w wr ∧ ∀ j, j < k → p j = false) (fun i _ => n - (intOf i).toNat)
 case atStart => exact ⟨0, by omega, rfl, Wr.refl _ _, fun j h => absurd h (by omega)⟩
 case round =>
  obtain ⟨k, hk, rfl, hw, hno⟩ := hrel
  by_cases hlt : k < n
  ·obtain ⟨b, off, rfl, hcell⟩ := hc k hlt
   replace hcell := hw.cellOf hcell (by simp)
   have hfk := hf k hlt _ hw
   have h0 : (0 : Int) ≤ (k : Int) := by omega
   have h1 : (k : Int) < (n : Int) := by omega
   have HNO := qh hno
   have HW := qh hw
   clear hf hno hw
   cases hp : p k with
   | true =>
    rw [hp] at hfk
    have hv := anyB_yes hlt hp
    clear hp
    go_wp2_with fail
    refine hfk.mono ?_
    rintro e w1 ⟨rfl, r1⟩
    go_wp2_with fail
    go_ret
    exact ⟨k, rfl, HW.out.trans r1, by rw [hv]; simp⟩
   | false =>
    rw [hp] at hfk
    have hno' : ∀ j, j < k + 1 → p j = false := fun j hj => by
     by_cases hjk : j = k
     ·subst hjk; exact hp
     ·exact HNO.out j (by omega)
    have HNO' := qh hno'
    clear hp hno'
    go_wp2_with fail
    refine hfk.mono ?_
    rintro e w1 ⟨rfl, r1⟩
    go_wp2_with fail
    go_roundw
    case rel => exact ⟨k + 1, by omega, by go_num, HW.out.trans r1, HNO'.out⟩
    case measure => simp [intOf]; omega
  ·have hkn : k = n := by omega
   subst hkn
   have hv := anyB_no hno
   clear hno hc hf
   go_wp2_with fail
   go_ret
   exact ⟨-1, rfl, hw, by rw [hv]; decide⟩
theorem has_few (w : World) (A : Option Addr) (n c : Nat) (ev : Nat → Int) (hcc : n ≤ c ∧ c ≤ maxLen) (hc : CellsAt w A n (fun i => .int .i64 (ev i))) (p : Nat → Bool)
  (hf : ∀ i, i < n → ∀ W, Wr [] w W → Calls Tryz.prog 97 #[.int .i64 (ev i)] W fun e w' => e = .returned (.bool (p i)) ∧ Wr [] W w') :
  Calls Tryz.prog 75 #[.slice A n c, .func (.func 97) #[] #[]] w fun e w' => e = .returned (.bool (anyB n p)) ∧ Wr [] w w' := by
 have h := idx_few w A n c ev hcc hc p hf
 go_enter Tryz.func75, Tryz.ntmps75
 go_wp2_with fail
 refine h.mono ?_
 rintro e w1 ⟨r, rfl, r1, hr⟩
 go_wp2_with fail
 go_ret
 exact ⟨by rw [← hr]; rfl, r1⟩
theorem idx_small (w : World) (A : Option Addr) (n c : Nat) (ev : Nat → Int) (hcc : n ≤ c ∧ c ≤ maxLen) (hc : CellsAt w A n (fun i => .int .i64 (ev i))) (p : Nat → Bool)
  (hf : ∀ i, i < n → ∀ W, Wr [] w W → Calls Tryz.prog 100 #[.int .i64 (ev i)] W fun e w' => e = .returned (.bool (p i)) ∧ Wr [] W w') :
  Calls Tryz.prog 111 #[.slice A n c, .func (.func 100) #[] #[]] w (IdxP w n p) := by
 unfold maxLen at hcc
 have hen : ∀ args w, (callFunc 100 args).run Tryz.prog w = .ok (.enter 100 args) w := fun args w => rfl
 go_enter Tryz.func111, Tryz.ntmps111
 go_wp2_with fail
 go_loopw [8] (fun i wr => ∃ k : Nat, k ≤ n ∧ i = .int .i64 k ∧ Wr [] w wr ∧ ∀ j, j < k → p j = false) (fun i _ => n - (intOf i).toNat)
 case atStart => exact ⟨0, by omega, rfl, Wr.refl _ _, fun j h => absurd h (by omega)⟩
 case round =>
  obtain ⟨k, hk, rfl, hw, hno⟩ := hrel
  by_cases hlt : k < n
  ·obtain ⟨b, off, rfl, hcell⟩ := hc k hlt
   replace hcell := hw.cellOf hcell (by simp)
   have hfk := hf k hlt _ hw
   have h0 : (0 : Int) ≤ (k : Int) := by omega
   have h1 : (k : Int) < (n : Int) := by omega
   have HNO := qh hno
   have HW := qh hw
   clear hf hno hw
   cases hp : p k with
   | true =>
    rw [hp] at hfk
    have hv := anyB_yes hlt hp
    clear hp
    go_wp2_with fail
    refine hfk.mono ?_
    rintro e w1 ⟨rfl, r1⟩
    go_wp2_with fail
    go_ret
    exact ⟨k, rfl, HW.out.trans r1, by rw [hv]; simp⟩
   | false =>
    rw [hp] at hfk
    have hno' : ∀ j, j < k + 1 → p j = false := fun j hj => by
     by_cases hjk : j = k
     ·subst hjk; exact hp
     ·exact HNO.out j (by omega)
    have HNO' := qh hno'
    clear hp hno'
    go_wp2_with fail
    refine hfk.mono ?_
    rintro e w1 ⟨rfl, r1⟩
    go_wp2_with fail
    go_roundw
    case rel => exact ⟨k + 1, by omega, by go_num, HW.out.trans r1, HNO'.out⟩
    case measure => simp [intOf]; omega
  ·have hkn : k = n := by omega
   subst hkn
   have hv := anyB_no hno
   clear hno hc hf
   go_wp2_with fail
   go_ret
   exact ⟨-1, rfl, hw, by rw [hv]; decide⟩
theorem has_small (w : World) (A : Option Addr) (n c : Nat) (ev : Nat → Int) (hcc : n ≤ c ∧ c ≤ maxLen) (hc : CellsAt w A n (fun i => .int .i64 (ev i))) (p : Nat → Bool)
  (hf : ∀ i, i < n → ∀ W, Wr [] w W → Calls Tryz.prog 100 #[.int .i64 (ev i)] W fun e w' => e = .returned (.bool (p i)) ∧ Wr [] W w') :
  Calls Tryz.prog 99 #[.slice A n c, .func (.func 100) #[] #[]] w fun e w' => e = .returned (.bool (anyB n p)) ∧ Wr [] w w' := by
 have h := idx_small w A n c ev hcc hc p hf
 go_enter Tryz.func99, Tryz.ntmps99
 go_wp2_with fail
 refine h.mono ?_
 rintro e w1 ⟨r, rfl, r1, hr⟩
 go_wp2_with fail
 go_ret
 exact ⟨by rw [← hr]; rfl, r1⟩
theorem idx_typ (w : World) (A : Option Addr) (n c : Nat) (ev : Nat → Int) (hcc : n ≤ c ∧ c ≤ maxLen) (hc : CellsAt w A n (fun i => .int .i64 (ev i))) (p : Nat → Bool) (pi : Nat)
  (hf : ∀ i, i < n → ∀ W, Wr [] w W → Calls Tryz.prog 76 #[.int .i64 (ev i), .pointer (some ⟨pi, 0, none⟩)] W fun e w' => e = .returned (.bool (p i)) ∧ Wr [] W w') :
  Calls Tryz.prog 98 #[.slice A n c, .func (.func 76) #[] #[.pointer (some ⟨pi, 0, none⟩)]] w (IdxP w n p) := by
 unfold maxLen at hcc
 have hen : ∀ args w, (callFunc 76 args).run Tryz.prog w = .ok (.enter 76 args) w := fun args w => rfl
 go_enter Tryz.func98, Tryz.ntmps98
 go_wp2_with fail
 go_loopw [8] (fun i wr => ∃ k : Nat, k ≤ n ∧ i = .int .i64 k ∧ Wr [] w wr ∧ ∀ j, j < k → p j = false) (fun i _ => n - (intOf i).toNat)
 case atStart => exact ⟨0, by omega, rfl, Wr.refl _ _, fun j h => absurd h (by omega)⟩
 case round =>
  obtain ⟨k, hk, rfl, hw, hno⟩ := hrel
  by_cases hlt : k < n
  ·obtain ⟨b, off, rfl, hcell⟩ := hc k hlt
   replace hcell := hw.cellOf hcell (by simp)
   have hfk := hf k hlt _ hw
   have h0 : (0 : Int) ≤ (k : Int) := by omega
   have h1 : (k : Int) < (n : Int) := by omega
   have HNO := qh hno
   have HW := qh hw
   clear hf hno hw
   cases hp : p k with
   | true =>
    rw [hp] at hfk
    have hv := anyB_yes hlt hp
    clear hp
    go_wp2_with fail
    refine hfk.mono ?_
    rintro e w1 ⟨rfl, r1⟩
    go_wp2_with fail
    go_ret
    exact ⟨k, rfl, HW.out.trans r1, by rw [hv]; simp⟩
   | false =>
    rw [hp] at hfk
    have hno' : ∀ j, j < k + 1 → p j = false := fun j hj => by
     by_cases hjk : j = k
     ·subst hjk; exact hp
     ·exact HNO.out j (by omega)
    have HNO' := qh hno'
    clear hp hno'
    go_wp2_with fail
    refine hfk.mono ?_
    rintro e w1 ⟨rfl, r1⟩
    go_wp2_with fail
    go_roundw
    case rel => exact ⟨k + 1, by omega, by go_num, HW.out.trans r1, HNO'.out⟩
    case measure => simp [intOf]; omega
  ·have hkn : k = n := by omega
   subst hkn
   have hv := anyB_no hno
   clear hno hc hf
   go_wp2_with fail
   go_ret
   exact ⟨-1, rfl, hw, by rw [hv]; decide⟩
theorem has_typ (w : World) (A : Option Addr) (n c : Nat) (ev : Nat → Int) (hcc : n ≤ c ∧ c ≤ maxLen) (hc : CellsAt w A n (fun i => .int .i64 (ev i))) (p : Nat → Bool) (pi : Nat)
  (hf : ∀ i, i < n → ∀ W, Wr [] w W → Calls Tryz.prog 76 #[.int .i64 (ev i), .pointer (some ⟨pi, 0, none⟩)] W fun e w' => e = .returned (.bool (p i)) ∧ Wr [] W w') :
  Calls Tryz.prog 75 #[.slice A n c, .func (.func 76) #[] #[.pointer (some ⟨pi, 0, none⟩)]] w fun e w' => e = .returned (.bool (anyB n p)) ∧ Wr [] w w' := by
 have h := idx_typ w A n c ev hcc hc p pi hf
 go_enter Tryz.func75, Tryz.ntmps75
 go_wp2_with fail
 refine h.mono ?_
 rintro e w1 ⟨r, rfl, r1, hr⟩
 go_wp2_with fail
 go_ret
 exact ⟨by rw [← hr]; rfl, r1⟩
theorem shortQ (s : ByteArray) (w : World) : Calls Tryz.prog 94 #[.string s] w fun e w' => e = .returned (.bool (decide ((s.size : Int) > 255))) ∧ Wr [] w w' := by
 go_enter Tryz.func94, Tryz.ntmps94
 go_wp2_with fail
 go_ret
 exact ⟨rfl, Wr.refl [] w⟩
theorem fewQ (n : Int) (w : World) : Calls Tryz.prog 97 #[.int .i64 n] w fun e w' => e = .returned (.bool (decide (n > 65535))) ∧ Wr [] w w' := by
 go_enter Tryz.func97, Tryz.ntmps97
 go_wp2_with fail
 go_ret
 exact ⟨rfl, Wr.refl [] w⟩
def smallN (n : Int) : Bool := decide (n < -2147483648) || decide (n > 2147483647)
theorem smallQ (n : Int) (w : World) : Calls Tryz.prog 100 #[.int .i64 n] w fun e w' => e = .returned (.bool (smallN n)) ∧ Wr [] w w' := by
 unfold smallN
 by_cases h : n < -2147483648
 ·go_enter Tryz.func100, Tryz.ntmps100
  go_wp2_with fail
  go_ret
  exact ⟨by simp [h], Wr.refl [] w⟩
 ·go_enter Tryz.func100, Tryz.ntmps100
  go_wp2_with fail
  go_ret
  exact ⟨by rw [show decide (n < -2147483648) = false from qdfq (by omega), Bool.false_or]; try rfl, Wr.refl [] w⟩
theorem short_any (w : World) (A : Option Addr) (n c : Nat) (ev : Nat → ByteArray) (hcc : n ≤ c ∧ c ≤ maxLen) (hc : CellsAt w A n (fun i => .string (ev i))) :
  Calls Tryz.prog 71 #[.slice A n c] w fun e w' => e = .returned (.bool (!anyB n fun i => decide (((ev i).size : Int) > 255))) ∧ Wr [] w w' := by
 have h := has_short w A n c ev hcc hc (fun i => decide (((ev i).size : Int) > 255)) (fun i _ W _ => shortQ (ev i) W)
 go_enter Tryz.func71, Tryz.ntmps71
 go_wp2_with fail
 refine h.mono ?_
 rintro e w1 ⟨rfl, r1⟩
 go_wp2_with fail
 go_ret
 exact ⟨rfl, r1⟩
theorem few_any (w : World) (A : Option Addr) (n c : Nat) (ev : Nat → Int) (hcc : n ≤ c ∧ c ≤ maxLen) (hc : CellsAt w A n (fun i => .int .i64 (ev i))) :
  Calls Tryz.prog 73 #[.slice A n c] w fun e w' => e = .returned (.bool (!anyB n fun i => decide (ev i > 65535))) ∧ Wr [] w w' := by
 have h := has_few w A n c ev hcc hc (fun i => decide (ev i > 65535)) (fun i _ W _ => fewQ (ev i) W)
 go_enter Tryz.func73, Tryz.ntmps73
 go_wp2_with fail
 refine h.mono ?_
 rintro e w1 ⟨rfl, r1⟩
 go_wp2_with fail
 go_ret
 exact ⟨rfl, r1⟩
theorem small_any (w : World) (A : Option Addr) (n c : Nat) (ev : Nat → Int) (hcc : n ≤ c ∧ c ≤ maxLen) (hc : CellsAt w A n (fun i => .int .i64 (ev i))) :
  Calls Tryz.prog 77 #[.slice A n c] w fun e w' => e = .returned (.bool (!anyB n fun i => smallN (ev i))) ∧ Wr [] w w' := by
 have h := has_small w A n c ev hcc hc (fun i => smallN (ev i)) (fun i _ W _ => smallQ (ev i) W)
 go_enter Tryz.func77, Tryz.ntmps77
 go_wp2_with fail
 refine h.mono ?_
 rintro e w1 ⟨rfl, r1⟩
 go_wp2_with fail
 go_ret
 exact ⟨rfl, r1⟩
def typN (nt : Nat) (n : Int) : Bool := decide (n < 0) || decide (n ≥ 10 + (nt : Int))
theorem typQ (n : Int) (pi : Nat) (A : Option Addr) (nt c : Nat) (hcc : nt ≤ c ∧ c ≤ maxLen) (w : World) (hc : w.cell? ⟨pi, 2, none⟩ = some (.slice A nt c)) (h63 : nt ≤ 1000000) :
  Calls Tryz.prog 76 #[.int .i64 n, .pointer (some ⟨pi, 0, none⟩)] w fun e w' => e = .returned (.bool (typN nt n)) ∧ Wr [] w w' := by
 unfold typN
 unfold maxLen at hcc
 have hw : wrap64 (10 + (nt : Int)) = 10 + (nt : Int) := by unfold wrap64; omega
 have hw2 : IntKind.i64.wrap (10 + (nt : Int)) = 10 + (nt : Int) := by rw [IntKind.wrap_i64]; omega
 by_cases h : n < 0
 ·go_enter Tryz.func76, Tryz.ntmps76
  go_wp2_with fail
  go_ret
  exact ⟨by simp [h], Wr.refl [] w⟩
 ·go_enter Tryz.func76, Tryz.ntmps76
  go_wp2_with fail
  go_ret
  exact ⟨by rw [show decide (n < 0) = false from qdfq (by omega), Bool.false_or]; try rfl, Wr.refl [] w⟩
theorem typ_any (w : World) (A : Option Addr) (n c : Nat) (ev : Nat → Int) (hcc : n ≤ c ∧ c ≤ maxLen) (hc : CellsAt w A n (fun i => .int .i64 (ev i))) (pi : Nat) (At : Option Addr) (nt ct : Nat) (htt : nt ≤ ct ∧ ct ≤ maxLen) (hct : w.cell? ⟨pi, 2, none⟩ = some (.slice At nt ct)) (h63 : nt ≤ 1000000) :
  Calls Tryz.prog 74 #[.slice A n c, .pointer (some ⟨pi, 0, none⟩)] w fun e w' => e = .returned (.bool (!anyB n fun i => typN nt (ev i))) ∧ Wr [] w w' := by
 have h := has_typ w A n c ev hcc hc (fun i => typN nt (ev i)) pi (fun i _ W r => typQ (ev i) pi At nt ct htt W (r.cellOf hct (by simp)) h63)
 have hmf : ∀ (fn : Fn) (first cap : Array Value) (w : World), (Instr.makeFunc fn first cap).run Tryz.prog w = .ok (.func fn first cap) w := fun _ _ _ _ => rfl
 go_enter Tryz.func74, Tryz.ntmps74
 go_wp2_with fail
 refine h.mono ?_
 rintro e w1 ⟨rfl, r1⟩
 go_wp2_with fail
 go_ret
 exact ⟨rfl, r1⟩
theorem formed_bare (m : ByteArray) (w : World) : Calls Tryz.prog 44 #[.agg #[.string m, .slice none 0 0, .slice none 0 0, .slice none 0 0]] w fun e w' => e = .returned (.bool true) ∧ Wr [] w w' := by
 have hmf : ∀ (fn : Fn) (first cap : Array Value) (w : World), (Instr.makeFunc fn first cap).run Tryz.prog w = .ok (.func fn first cap) w := fun _ _ _ _ => rfl
 go_enter Tryz.func44, Tryz.ntmps44
 go_wp2_with fail
 refine wp_loop_rounds 1 ?_
 rw [rounds_succ]
 go_wp2_with fail
 refine wp_loop_rounds 1 ?_
 rw [rounds_succ]
 go_wp2_with fail
 go_ret
 exact ⟨rfl, (Wr.refl [] w).alloc _⟩
theorem may_bare (m : ByteArray) (hm : m.size ≤ 255) (w : World) : Calls Tryz.prog 25 #[.agg #[.string m, .slice none 0 0, .slice none 0 0, .slice none 0 0]] w fun e w' => e = .returned (.int .i64 0) ∧ Wr [] w w' := by
 have h1 := fun w => fitting_bare m hm w
 have h2 := fun w => onceU_nil w
 have h3 := fun w => onceE_nil w
 have h4 := fun w => formed_bare m w
 have bb := Blk.new w 35 #[.string m, .slice none 0 0, .slice none 0 0, .slice none 0 0]
 have r0 := (Wr.refl [] w).alloc (.cells #[.string m, .slice none 0 0, .slice none 0 0, .slice none 0 0] 35)
 go_enter Tryz.func25, Tryz.ntmps25
 go_wp2_with fail
 refine (h1 _).mono ?_
 rintro e w1 ⟨rfl, k1⟩
 replace bb := bb.wr0 k1
 replace r0 := r0.trans k1
 have c0 := bb.cell 0
 have c1 := bb.cell 1
 have c2 := bb.cell 2
 have c3 := bb.cell 3
 simp only [qgaq, qgzq, qgsq] at c0 c1 c2 c3
 go_wp2_with fail
 refine (h2 _).mono ?_
 rintro e w2 ⟨rfl, k2⟩
 replace bb := bb.wr0 k2
 replace r0 := r0.trans k2
 clear c0 c1 c2 c3
 have c0 := bb.cell 0
 have c1 := bb.cell 1
 have c2 := bb.cell 2
 have c3 := bb.cell 3
 simp only [qgaq, qgzq, qgsq] at c0 c1 c2 c3
 go_wp2_with fail
 refine (h3 _).mono ?_
 rintro e w3 ⟨rfl, k3⟩
 replace bb := bb.wr0 k3
 replace r0 := r0.trans k3
 clear c0 c1 c2 c3
 have c0 := bb.cell 0
 have c1 := bb.cell 1
 have c2 := bb.cell 2
 have c3 := bb.cell 3
 simp only [qgaq, qgzq, qgsq] at c0 c1 c2 c3
 go_wp2_with fail
 refine (h4 _).mono ?_
 rintro e w4 ⟨rfl, k4⟩
 go_wp2_with fail
 go_ret
 exact ⟨rfl, r0.trans k4⟩
end Go.Proofs.YtjanbpchedgoiaaGreat
namespace Go.Proofs.YtjanbpchedgoiaaGreat
open Go
section
variable {P : Program} {ops : Array Oper} {Q : Exit → Act → World → Prop} {md : Region.Mode} {S : Array Bool → World → Prop}
def ClosedL (md : Region.Mode) (ops : Array Oper) (listed : Array Bool) : Prop :=
 ∀ j oj, ops[j]? = some oj → listed.getD j false = true → ∀ e ∈ oj.after, Region.binds md e = true → listed.getD e.on false = true
theorem ClosedL.set {listed : Array Bool} (h : ClosedL md ops listed) {i : Nat} (hi : i ∈ Region.ready md ops listed) : ClosedL md ops (listed.setIfInBounds i true) := by
 obtain ⟨_, oi, hoi, hall⟩ := mem_ready.1 hi
 intro j oj hj hl e he hb
 by_cases hij : i = j
 ·subst hij
  have : oj = oi := Option.some.inj (hj.symm.trans hoi)
  subst this
  exact getD_set_true (hall e he hb)
 ·rw [getD_set_ne false hij] at hl
  exact getD_set_true (h j oj hj hl e he hb)
theorem ClosedL.start (n : Nat) : ClosedL md ops (Array.replicate n false) := by
 intro j oj _ hl
 have : (Array.replicate n false).getD j false = false := by
  rcases Nat.lt_or_ge j n with h | h
  ·simp [h]
  ·simp [h]
 rw [this] at hl
 cases hl
def YieldsL (P : Program) (md : Region.Mode) (ops : Array Oper) (S : Array Bool → World → Prop) (i : Nat) (o : Oper) (v : Value) (a : Act) : Prop :=
 (Region.wanted o (yielded ops a.tmps) = true ∧ ∀ l w, ClosedL md ops l → l.getD i true = false → S l w → (execOp a.eval o).run P w = .ok (.value v) w) ∨
 (Region.wanted o (yielded ops a.tmps) = false ∧ v = undef)
def wpAnyL (P : Program) (md : Region.Mode) (ops : Array Oper) (Q : Exit → Act → World → Prop) (S : Array Bool → World → Prop) : Nat → Array Bool → Act → World → Prop
 | 0, listed, a, w => Region.ready md ops listed = [] ∧ Q .normal a w
 | fuel + 1, listed, a, w =>
  (Region.ready md ops listed = [] → Q .normal a w) ∧
  ∀ i ∈ Region.ready md ops listed, wpOp P ops Q i (fun a' w' => S (listed.setIfInBounds i true) w' ∧ wpAnyL P md ops Q S fuel (listed.setIfInBounds i true) a' w') a w
theorem wpAny_of_L : ∀ (fuel : Nat) (listed : Array Bool) (a : Act) (w : World), wpAnyL P md ops Q S fuel listed a w → wpAny P md ops Q fuel listed a w
 | 0, _, _, _, h => h
 | fuel + 1, _, _, _, h => ⟨h.1, fun i hi => wpOp_mono (fun a' w' h' => wpAny_of_L fuel _ a' w' h'.2) (h.2 i hi)⟩
theorem wpAnyL_first {i : Nat} {oi : Oper} {v : Value} (hi : ops[i]? = some oi) (hsel : ∀ (j : Nat) (o : Oper) cs b, ops[j]? = some o → o.op ≠ .select cs b)
  (hQ : ∀ c a w, Q (.panic c) (a.put oi.dst v) w → Q (.panic c) a w)
  (hSi : ∀ l w, S (l.setIfInBounds i true) w ↔ S l w) :
  ∀ (fuel : Nat) (listed : Array Bool) (a : Act) (w : World),
   (∀ j oj, ops[j]? = some oj → j ≠ i → listed.getD j true = false → (∀ e ∈ oj.after, Region.binds md e = true → e.on ≠ i) → oi.apart ops oj = true) →
   i ∈ Region.ready md ops listed → YieldsL P md ops S i oi v a → ClosedL md ops listed → S listed w →
   wpAnyL P md ops Q S fuel (listed.setIfInBounds i true) (a.put oi.dst v) w → wpAnyL P md ops Q S (fuel + 1) listed a w := by
 -- what it yields now, in this world and with these listed
 have now : ∀ {listed : Array Bool} {a : Act} {w : World}, i ∈ Region.ready md ops listed → YieldsL P md ops S i oi v a → ClosedL md ops listed → S listed w →
   ∀ {K : Act → World → Prop}, K (a.put oi.dst v) w → wpOp P ops Q i K a w := by
  intro listed a w hr hy hc hS K h
  have hun := (mem_ready.1 hr).1
  unfold Go.wpOp
  simp only [hi]
  rcases hy with ⟨hw, hv⟩ | ⟨hw, rfl⟩
  ·simp only [hw, if_true, Oper.wp, hv listed w hc hun hS, Oper.upon]; exact .inl h
  ·simp only [hw, Bool.false_eq_true, if_false]; exact h
 intro fuel
 induction fuel with
 | zero =>
  intro listed a w _ hr hy hc hS H
  refine ⟨fun h => (by rw [h] at hr; cases hr), fun j hj => ?_⟩
  by_cases hji : j = i
  ·subst hji; exact now hj hy hc hS ⟨(hSi listed w).2 hS, H⟩
  ·have := ready_mono hj hji
   rw [H.1] at this
   cases this
 | succ fuel ih =>
  intro listed a w hfree hr hy hc hS H
  refine ⟨fun h => (by rw [h] at hr; cases hr), fun j hj => ?_⟩
  by_cases hji : j = i
  ·subst hji; exact now hj hy hc hS ⟨(hSi listed w).2 hS, H⟩
  ·have h1 := H.2 j (ready_mono hj hji)
   obtain ⟨hjun, oj, hoj, hall⟩ := mem_ready.1 hj
   have hnot : ∀ e ∈ oj.after, Region.binds md e = true → e.on ≠ i := fun e he hb heq => by
    have h1 := hall e he hb
    have h0 := (mem_ready.1 hr).1
    rw [heq] at h1
    rcases Nat.lt_or_ge i listed.size with h' | h'
    ·simp [h'] at h0 h1; rw [h0] at h1; cases h1
    ·simp [Array.getElem?_eq_none h'] at h1
   -- the frame apart: by the elder law, under a condition that says nothing of the world
   have hap := hfree j oj hoj hji hjun hnot
   obtain ⟨p1, p2, p3⟩ := Oper.apart_spec hap
   have hsi := fun cs b => hsel i oi cs b hi
   have hsj := fun cs b => hsel j oj cs b hoj
   have hy0 : YieldsIf P ops (fun w => ∃ l, ClosedL md ops l ∧ l.getD i true = false ∧ S l w) oi v a := hy.imp (fun ⟨hw, hv⟩ => ⟨hw, fun w ⟨l, c1, c2, c3⟩ => hv l w c1 c2 c3⟩) id
   have h2 := wpOp_putIf hoj hap hsi hsj hQ hy0 h1
   have hfree' : ∀ k ok, ops[k]? = some ok → k ≠ i → (listed.setIfInBounds j true).getD k true = false →
     (∀ e ∈ ok.after, Region.binds md e = true → e.on ≠ i) → oi.apart ops ok = true := fun k ok hk hki hun hno => by
    refine hfree k ok hk hki ?_ hno
    by_cases hjk : j = k
    ·subst hjk; exact hjun
    ·rw [getD_set_ne true hjk] at hun; exact hun
   refine wpOp_mono (fun a' w' h3 => ?_) h2
   have hcomm : (listed.setIfInBounds i true).setIfInBounds j true = (listed.setIfInBounds j true).setIfInBounds i true := Array.setIfInBounds_comm _ _ (fun e => hji e.symm)
   have h32 := h3.2.1
   have h33 := h3.2.2
   rw [hcomm] at h32 h33
   have hS' := (hSi _ w').1 h32
   have hy' : YieldsL P md ops S i oi v a' := h3.1.imp (fun ⟨hw, hv⟩ => ⟨hw, fun l w c1 c2 c3 => hv w ⟨l, c1, c2, c3⟩⟩) id
   exact ⟨hS', ih (listed.setIfInBounds j true) a' w' hfree' (ready_mono hr (fun e => hji e.symm)) hy' (hc.set hj) hS' h33⟩
theorem wpAnyL_take {i : Nat} {oi : Oper} {v : Value} {fuel : Nat} {listed : Array Bool} {a : Act} {w : World} (hi : ops[i]? = some oi)
  (hs : Region.noSelect ops = true) (hf : Region.free md ops listed i = true) (hr : (Region.ready md ops listed).contains i = true)
  (hQ : ∀ c a w, Q (.panic c) (a.put oi.dst v) w → Q (.panic c) a w) (hSi : ∀ l w, S (l.setIfInBounds i true) w ↔ S l w) (hy : YieldsL P md ops S i oi v a) (hc : ClosedL md ops listed) (hS : S listed w)
  (h : ClosedL md ops (listed.setIfInBounds i true) → S (listed.setIfInBounds i true) w → wpAnyL P md ops Q S fuel (listed.setIfInBounds i true) (a.put oi.dst v) w) : wpAnyL P md ops Q S (fuel + 1) listed a w :=
 wpAnyL_first hi (Region.noSelect_spec hs) hQ hSi fuel listed a w (Region.free_spec hi hf) (by simpa using hr) hy hc hS (h (hc.set (by simpa using hr)) ((hSi _ _).2 hS))
theorem wpAnyL_one {i : Nat} {fuel : Nat} {listed : Array Bool} {a : Act} {w : World} (hr : Region.ready md ops listed = [i]) (hc : ClosedL md ops listed)
  (h : wpOp P ops Q i (fun a' w' => S (listed.setIfInBounds i true) w' ∧ (ClosedL md ops (listed.setIfInBounds i true) → wpAnyL P md ops Q S fuel (listed.setIfInBounds i true) a' w')) a w) : wpAnyL P md ops Q S (fuel + 1) listed a w := by
 have hm : i ∈ Region.ready md ops listed := by rw [hr]; simp
 refine ⟨fun h0 => absurd (h0.symm.trans hr) (by simp), fun j hj => ?_⟩
 rw [hr] at hj
 obtain rfl : j = i := by simpa using hj
 exact wpOp_mono (fun a' w' h3 => ⟨h3.1, h3.2 (hc.set hm)⟩) h
theorem wpAnyL_step {i : Nat} {o : Oper} {fuel : Nat} {listed : Array Bool} {a : Act} {w : World} (hi : ops[i]? = some o) (hr : Region.ready md ops listed = [i]) (hc : ClosedL md ops listed)
  (h : ∀ K : Act → World → Prop, (∀ a' w', S (listed.setIfInBounds i true) w' → (ClosedL md ops (listed.setIfInBounds i true) → wpAnyL P md ops Q S fuel (listed.setIfInBounds i true) a' w') → K a' w') → if Region.wanted o (yielded ops a.tmps) = true then Oper.wp P o a w K Q else K (a.put o.dst undef) w) : wpAnyL P md ops Q S (fuel + 1) listed a w := by
 refine wpAnyL_one hr hc ?_
 unfold wpOp
 simp only [hi]
 have := h (fun a' w' => S (listed.setIfInBounds i true) w' ∧ (ClosedL md ops (listed.setIfInBounds i true) → wpAnyL P md ops Q S fuel (listed.setIfInBounds i true) a' w')) (fun a' w' h1 h2 => ⟨h1, h2⟩)
 by_cases hw : Region.wanted o (yielded ops a.tmps) = true
 ·rw [if_pos hw] at this ⊢
  exact .inl this
 ·rw [if_neg hw] at this ⊢
  exact this
theorem wpAnyL_done {listed : Array Bool} {a : Act} {w : World} (hr : Region.ready md ops listed = []) (h : Q .normal a w) : ∀ fuel, wpAnyL P md ops Q S fuel listed a w
 | 0 => ⟨hr, h⟩
 | _ + 1 => ⟨fun _ => h, by rw [hr]; simp⟩
theorem wp_region_L {id : Nat} {a : Act} {w : World} (S : Array Bool → World → Prop) (hm : P.follows .mixedOrders = true)
  (h : ClosedL .any ops (Array.replicate ops.size false) → wpAnyL P .any ops Q S ops.size (Array.replicate ops.size false) a { w with drawn := w.drawn + 1 }) : (Code.region id ops true).wp P Q a w :=
 wp_region_any hm (wpAny_of_L _ _ _ _ (h (ClosedL.start _)))
def Until (t : Nat) (C : World → Prop) : Array Bool → World → Prop := fun l w => l.getD t false = false → C w
theorem until_take (t : Nat) (C : World → Prop) {i : Nat} (hne : i ≠ t) (l : Array Bool) (w : World) : Until t C (l.setIfInBounds i true) w ↔ Until t C l w := by
 unfold Until
 rw [getD_set_ne false hne]
theorem yields_until {t : Nat} {C : World → Prop} {i : Nat} {o : Oper} {v : Value} {a : Act} (hb : (match ops[t]? with | some ot => ot.after.any fun e => Region.binds md e && e.on == i | none => false) = true)
  (h : (Region.wanted o (yielded ops a.tmps) = true ∧ ∀ w, C w → (execOp a.eval o).run P w = .ok (.value v) w) ∨ (Region.wanted o (yielded ops a.tmps) = false ∧ v = undef)) : YieldsL P md ops (Until t C) i o v a := by
 refine h.imp (fun ⟨hw, hv⟩ => ⟨hw, fun l w hc hun hS => hv w (hS ?_)⟩) id
 cases hlt : l.getD t false with
 | false => rfl
 | true =>
  exfalso
  cases hot : ops[t]? with
  | none => rw [hot] at hb; cases hb
  | some ot =>
   rw [hot] at hb
   obtain ⟨e, he, hb⟩ := Array.any_eq_true'.1 hb
   simp only [Bool.and_eq_true, beq_iff_eq] at hb
   have h2 := hc t ot hot hlt e he hb.1
   rw [hb.2] at h2
   rcases Nat.lt_or_ge i l.size with h' | h'
   ·simp [h'] at hun h2; rw [hun] at h2; cases h2
   ·simp [Array.getElem?_eq_none h'] at h2
end
end Go.Proofs.YtjanbpchedgoiaaGreat
