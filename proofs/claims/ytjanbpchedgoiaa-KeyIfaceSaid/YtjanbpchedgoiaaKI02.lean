/- key's Begin, More, Of, Text: walked. Conditions: the strings are no longer than memory. -/
import Derived.Test.YtjanbpchedgoiaaKI01
import Derived.Laws.Bits64
import Derived.Deep.Cut
import Derived.Deep.DeepCutAuto
namespace Go.Proofs.Ytjanbpchedgoiaa
open Go.RowKit
set_option linter.unusedVariables false
set_option linter.unusedSimpArgs false

def natsOf (s : ByteArray) : List Nat := s.data.toList.map UInt8.toNat
theorem natsOf_len (s : ByteArray) : (natsOf s).length = s.size := by
  unfold natsOf
  rw [List.length_map, Array.length_toList]
  rfl
theorem natsOf_lt (s : ByteArray) : ∀ c ∈ natsOf s, c < 256 := by
  intro c hc
  simp only [natsOf, List.mem_map] at hc
  obtain ⟨b, _, rfl⟩ := hc
  exact b.toNat_lt
theorem natsOf_take (s : ByteArray) (k : Nat) (hk : k < s.size) : (natsOf s).take (k + 1) = (natsOf s).take k ++ [(s[k]'hk).toNat] := by
  have hl : k < (natsOf s).length := by rw [natsOf_len]; exact hk
  rw [List.take_add_one, List.getElem?_eq_getElem hl]
  have : (natsOf s)[k] = (s[k]'hk).toNat := by
    simp only [natsOf, List.getElem_map, Array.getElem_toList]
    rfl
  rw [this]
  rfl
theorem begin_any (w : World) : Calls Try.prog 7 #[] w fun e w' => e = .returned (.int .u64 14695981039346656037) ∧ w = w' := by
  go_enter Try.func7, Try.ntmps7
  go_wp2_with fail
  go_ret
  exact ⟨rfl, rfl⟩
theorem moreN_one (h c : Nat) : moreN h [c] = stepN h c := by
  unfold moreN
  rw [List.foldl_cons, List.foldl_nil]
theorem moreN_snoc (h : Nat) (l : List Nat) (c : Nat) : moreN h (l ++ [c]) = stepN (moreN h l) c := by
  rw [moreN_append, moreN_one]
theorem step_eq (a c : Nat) (ha : a < 18446744073709551616) (hc : c < 256) : IntKind.u64.wrap (bits .xor .u64 (a : Int) (c : Int) * 1099511628211) = ((stepN a c : Nat) : Int) := by
  rw [Go.bits_xor_u64_nat a c ha (by omega)]
  rw [IntKind.wrap_u64]
  unfold stepN
  generalize a ^^^ c = x
  omega
set_option maxHeartbeats 1000000 in
theorem more_any (h : Nat) (hh : h < 18446744073709551616) (s : ByteArray) (hs : s.size ≤ maxLen) (w : World) :
    Calls Try.prog 6 #[.int .u64 (h : Int), .string s] w fun e w' => e = .returned (.int .u64 ((moreN h (natsOf s) : Nat) : Int)) ∧ w = w' := by
  unfold maxLen at hs
  go_enter Try.func6, Try.ntmps6
  go_wp2_with fail
  go_loop [0, 8] (fun t i => ∃ k : Nat, k ≤ s.size ∧ i = .int .i64 k ∧ t = .int .u64 ((moreN h ((natsOf s).take k) : Nat) : Int)) (fun _ i => s.size - (intOf i).toNat)
  case atStart => exact ⟨0, by omega, rfl, rfl⟩
  case round =>
    obtain ⟨k, hk, rfl, rfl⟩ := hrel
    by_cases hlt : k < s.size
    · have hlti : (k : Int) < (s.size : Int) := by omega
      have ha := moreN_lt hh ((natsOf s).take k)
      have hm : moreN h ((natsOf s).take (k + 1)) = stepN (moreN h ((natsOf s).take k)) (s[k]'hlt).toNat := by
        rw [natsOf_take s k hlt, moreN_snoc]
      have hst := step_eq (moreN h ((natsOf s).take k)) (s[k]'hlt).toNat ha (s[k]'hlt).toNat_lt
      rw [← hm] at hst
      generalize hma : moreN h ((natsOf s).take k) = a at *
      generalize hmb : moreN h ((natsOf s).take (k + 1)) = b at *
      have hc0 : (0 : Int) ≤ ((s[k]'hlt).toNat : Int) := by omega
      have hc1 : ((s[k]'hlt).toNat : Int) ≤ 255 := by have := (s[k]'hlt).toNat_lt; omega
      have hmb' := hmb
      clear hma hmb hm ha
      go_wp2_with fail
      exact ⟨⟨k + 1, by omega, rfl, by rw [hmb']⟩, by show s.size - ((k + 1 : Nat) : Int).toNat < s.size - (k : Int).toNat; omega⟩
    · have hks : k = s.size := by omega
      subst hks
      have hl : (natsOf s).take s.size = natsOf s := List.take_of_length_le (by rw [natsOf_len]; omega)
      rw [hl]
      go_wp2_with fail
      go_ret
      exact ⟨rfl, rfl⟩
set_option maxHeartbeats 1000000 in
theorem of_any (s : ByteArray) (hs : s.size ≤ maxLen) (w : World) :
    Calls Try.prog 9 #[.string s] w fun e w' => e = .returned (.int .u64 ((ofN (moreN 14695981039346656037 (natsOf s)) : Nat) : Int)) ∧ w = w' := by
  have hb := fun w => begin_any w
  have hm := fun w => more_any 14695981039346656037 (by decide) s hs w
  have hlt := moreN_lt (h := 14695981039346656037) (by decide) (natsOf s)
  generalize moreN 14695981039346656037 (natsOf s) = x at *
  go_enter Try.func9, Try.ntmps9
  go_wp2_with fail
  refine (hb _).mono ?_
  rintro e w1 ⟨rfl, rfl⟩
  go_wp2_with fail
  refine (hm _).mono ?_
  rintro e w1 ⟨rfl, rfl⟩
  have hx : bits .xor .u64 (x : Int) ((x : Int) / (4294967296 : Int)) = ((ofN x : Nat) : Int) := by
    have e : (x : Int) / (4294967296 : Int) = ((x >>> 32 : Nat) : Int) := by
      rw [Nat.shiftRight_eq_div_pow]
      omega
    rw [e, Go.bits_xor_u64_nat x (x >>> 32) hlt (by rw [Nat.shiftRight_eq_div_pow]; omega)]
    rfl
  go_wp2_with fail
  go_ret
  exact ⟨rfl, rfl⟩
theorem cons_str (a : UInt8) (l : List UInt8) : (⟨#[a]⟩ : ByteArray) ++ ⟨l.toArray⟩ = ⟨(a :: l).toArray⟩ := by
  apply ByteArray.ext
  rw [ByteArray.data_append]
  simp
def textS (k : Nat) : ByteArray := ⟨(textN k 16).toArray⟩
set_option maxHeartbeats 1000000 in
theorem digit_any (k : Nat) (hk : k < 18446744073709551616) (i : Nat) (hi : i < 16) (p : Nat) (w : World) (hc : w.cell? ⟨p, 0, none⟩ = some (.int .u64 (k : Int))) :
    Calls Try.prog 16 #[.int .i64 (i : Int), .pointer (some ⟨p, 0, none⟩)] w fun e w' => e = .returned (.string ⟨#[hexN (k / 16 ^ i % 16)]⟩) ∧ w = w' := by
  have hd : bits .and .u64 ((k : Int) / 2 ^ (4 * i)) 15 = ((k / 16 ^ i % 16 : Nat) : Int) := by
    have e1 : (2 : Nat) ^ (4 * i) = 16 ^ i := by rw [Nat.pow_mul]
    have e2 : (k : Int) / 2 ^ (4 * i) = ((k / 16 ^ i : Nat) : Int) := by
      rw [← e1, Int.natCast_ediv, Int.natCast_pow]
      try rfl
    have hq : k / 16 ^ i < 18446744073709551616 := Nat.lt_of_le_of_lt (Nat.div_le_self _ _) hk
    have e3 := Go.bits_and_u64_nat (k / 16 ^ i) 15 hq (by decide)
    rw [e2]
    refine Eq.trans e3 ?_
    have e4 := Nat.and_two_pow_sub_one_eq_mod (k / 16 ^ i) 4
    rw [show (15 : Nat) = 2 ^ 4 - 1 by decide, e4]
  have hd16 : k / 16 ^ i % 16 < 16 := Nat.mod_lt _ (by decide)
  have hs : ∀ d : Fin 16, ((⟨#[48, 49, 50, 51, 52, 53, 54, 55, 56, 57, 97, 98, 99, 100, 101, 102]⟩ : ByteArray).extract d 16).extract 0 1 = ⟨#[hexN d]⟩ := by decide +kernel
  generalize k / 16 ^ i % 16 = d at *
  have hs' := hs ⟨d, hd16⟩
  have d0 : (0 : Int) ≤ (d : Int) := by omega
  have d1 : (d : Int) ≤ 16 := by omega
  have d2 : (1 : Int) ≤ ((16 - d : Nat) : Int) := by omega
  clear hs
  go_enter Try.func16, Try.ntmps16
  go_wp2_with fail
  go_ret
  exact ⟨rfl, rfl⟩
set_option maxHeartbeats 1000000 in
theorem text_any (k : Nat) (hk : k < 18446744073709551616) (w : World) :
    Calls Try.prog 8 #[.int .u64 (k : Int)] w fun e w' => e = .returned (.string (textS k)) ∧ Wr [] w w' := by
  have hen : ∀ args w, (callFunc 16 args).run Try.prog w = .ok (.enter 16 args) w := fun args w => rfl
  have hmf : ∀ (fn : Fn) (first cap : Array Value) (w : World), (Instr.makeFunc fn first cap).run Try.prog w = .ok (.func fn first cap) w := fun _ _ _ _ => rfl
  have hc : (w.alloc (.cells #[.int .u64 (k : Int)] 23)).cell? ⟨w.heap.size, 0, none⟩ = some (.int .u64 (k : Int)) := (Blk.new w _ _).cell 0
  have hd := fun i hi => digit_any k hk i hi w.heap.size _ hc
  have acc := (Wr.refl [] w).alloc (.cells #[.int .u64 (k : Int)] 23)
  go_enter Try.func8, Try.ntmps8
  go_wp2_with fail
  generalize w.alloc (.cells #[.int .u64 (k : Int)] 23) = w0 at *
  go_loop [2, 6] (fun t i => ∃ n : Nat, n ≤ 16 ∧ i = .int .i64 n ∧ t = .string ⟨(textN k n).toArray⟩) (fun _ i => 16 - (intOf i).toNat)
  case atStart => exact ⟨0, by omega, rfl, rfl⟩
  case round =>
    obtain ⟨n, hn, rfl, rfl⟩ := hrel
    by_cases hlt : n < 16
    · have hdn := hd n hlt
      have hlti : (n : Int) < 16 := by omega
      have hl : (⟨(textN k n).toArray⟩ : ByteArray).size = n := by
        show (textN k n).toArray.size = n
        rw [List.size_toArray, textN_len]
      clear hd hc
      go_wp2_with fail
      refine (hdn).mono ?_
      rintro e w1 ⟨rfl, rfl⟩
      go_wp2_with fail
      exact ⟨⟨n + 1, by omega, rfl, by rw [cons_str]; rfl⟩, by show 16 - ((n + 1 : Nat) : Int).toNat < 16 - (n : Int).toNat; omega⟩
    · have hns : n = 16 := by omega
      subst hns
      go_wp2_with fail
      go_ret
      exact ⟨rfl, acc⟩
end Go.Proofs.Ytjanbpchedgoiaa

/- slices.ContainsFunc of texts and of numbers, over what its question answers; iface's short, few, small: walked. Conditions: the list is there. -/
namespace Go.Proofs.Ytjanbpchedgoiaa
open Go.RowKit
set_option linter.unusedVariables false
set_option linter.unusedSimpArgs false

/-- Is one of the first n such? -/
def anyB (n : Nat) (p : Nat → Bool) : Bool := (List.range n).any p
theorem anyB_yes {n : Nat} {p : Nat → Bool} {k : Nat} (hk : k < n) (h : p k = true) : anyB n p = true := List.any_eq_true.2 ⟨k, List.mem_range.2 hk, h⟩
theorem anyB_no {n : Nat} {p : Nat → Bool} (h : ∀ j, j < n → p j = false) : anyB n p = false := by
  unfold anyB
  rw [List.any_eq_false]
  intro j hj
  rw [h j (List.mem_range.1 hj)]
  simp
def CellsAt (w : World) (A : Option Addr) (n : Nat) (ev : Nat → Value) : Prop := ∀ i, i < n → ∃ b off, A = some ⟨b, off, none⟩ ∧ w.cell? ⟨b, off + i, none⟩ = some (ev i)
def IdxP (w : World) (n : Nat) (p : Nat → Bool) (e : Ending) (w' : World) : Prop := ∃ r : Int, e = .returned (.int .i64 r) ∧ Wr [] w w' ∧ decide (r ≥ 0) = anyB n p

set_option maxRecDepth 100000 in
set_option maxHeartbeats 2000000 in
theorem idx_short (w : World) (A : Option Addr) (n c : Nat) (ev : Nat → ByteArray) (hcc : n ≤ c ∧ c ≤ maxLen) (hc : CellsAt w A n (fun i => .string (ev i))) (p : Nat → Bool)
    (hf : ∀ i, i < n → ∀ W, Wr [] w W → Calls Try.prog 75 #[.string (ev i)] W fun e w' => e = .returned (.bool (p i)) ∧ Wr [] W w') :
    Calls Try.prog 91 #[.slice A n c, .func (.func 75) #[] #[]] w (IdxP w n p) := by
  unfold maxLen at hcc
  have hen : ∀ args w, (callFunc 75 args).run Try.prog w = .ok (.enter 75 args) w := fun args w => rfl
  go_enter Try.func91, Try.ntmps91
  go_wp2_with fail
  go_loopw [8] (fun i wr => ∃ k : Nat, k ≤ n ∧ i = .int .i64 k ∧ Wr [] w wr ∧ ∀ j, j < k → p j = false) (fun i _ => n - (intOf i).toNat)
  case atStart => exact ⟨0, by omega, rfl, Wr.refl _ _, fun j h => absurd h (by omega)⟩
  case round =>
    obtain ⟨k, hk, rfl, hw, hno⟩ := hrel
    by_cases hlt : k < n
    · obtain ⟨b, off, rfl, hcell⟩ := hc k hlt
      replace hcell := hw.cellOf hcell (by simp)
      have hfk := hf k hlt _ hw
      have h0 : (0 : Int) ≤ (k : Int) := by omega
      have h1 : (k : Int) < (n : Int) := by omega
      have HNO := Lib.hid hno
      have HW := Lib.hid hw
      clear hf hno hw
      cases hp : p k with
      | true =>
        rw [hp] at hfk
        have hv := anyB_yes hlt hp
        clear hp
        go_wp2_with fail
        refine hfk.mono ?_
        rintro e w1 ⟨rfl, r1⟩
        go_wp2_with fail
        go_ret
        exact ⟨k, rfl, HW.out.trans r1, by rw [hv]; simp⟩
      | false =>
        rw [hp] at hfk
        have hno' : ∀ j, j < k + 1 → p j = false := fun j hj => by
          by_cases hjk : j = k
          · subst hjk; exact hp
          · exact HNO.out j (by omega)
        have HNO' := Lib.hid hno'
        clear hp hno'
        go_wp2_with fail
        refine hfk.mono ?_
        rintro e w1 ⟨rfl, r1⟩
        go_wp2_with fail
        go_roundw
        case rel => exact ⟨k + 1, by omega, by go_num, HW.out.trans r1, HNO'.out⟩
        case measure => simp [intOf]; omega
    · have hkn : k = n := by omega
      subst hkn
      have hv := anyB_no hno
      clear hno hc hf
      go_wp2_with fail
      go_ret
      exact ⟨-1, rfl, hw, by rw [hv]; decide⟩
theorem has_short (w : World) (A : Option Addr) (n c : Nat) (ev : Nat → ByteArray) (hcc : n ≤ c ∧ c ≤ maxLen) (hc : CellsAt w A n (fun i => .string (ev i))) (p : Nat → Bool)
    (hf : ∀ i, i < n → ∀ W, Wr [] w W → Calls Try.prog 75 #[.string (ev i)] W fun e w' => e = .returned (.bool (p i)) ∧ Wr [] W w') :
    Calls Try.prog 74 #[.slice A n c, .func (.func 75) #[] #[]] w fun e w' => e = .returned (.bool (anyB n p)) ∧ Wr [] w w' := by
  have h := idx_short w A n c ev hcc hc p hf
  go_enter Try.func74, Try.ntmps74
  go_wp2_with fail
  refine h.mono ?_
  rintro e w1 ⟨r, rfl, r1, hr⟩
  go_wp2_with fail
  go_ret
  exact ⟨by rw [← hr]; rfl, r1⟩

set_option maxRecDepth 100000 in
set_option maxHeartbeats 2000000 in
theorem idx_few (w : World) (A : Option Addr) (n c : Nat) (ev : Nat → Int) (hcc : n ≤ c ∧ c ≤ maxLen) (hc : CellsAt w A n (fun i => .int .i64 (ev i))) (p : Nat → Bool)
    (hf : ∀ i, i < n → ∀ W, Wr [] w W → Calls Try.prog 78 #[.int .i64 (ev i)] W fun e w' => e = .returned (.bool (p i)) ∧ Wr [] W w') :
    Calls Try.prog 79 #[.slice A n c, .func (.func 78) #[] #[]] w (IdxP w n p) := by
  unfold maxLen at hcc
  have hen : ∀ args w, (callFunc 78 args).run Try.prog w = .ok (.enter 78 args) w := fun args w => rfl
  go_enter Try.func79, Try.ntmps79
  go_wp2_with fail
  go_loopw [8] (fun i wr => ∃ k : Nat, k ≤ n ∧ i = .int .i64 k ∧ Wr [] w wr ∧ ∀ j, j < k → p j = false) (fun i _ => n - (intOf i).toNat)
  case atStart => exact ⟨0, by omega, rfl, Wr.refl _ _, fun j h => absurd h (by omega)⟩
  case round =>
    obtain ⟨k, hk, rfl, hw, hno⟩ := hrel
    by_cases hlt : k < n
    · obtain ⟨b, off, rfl, hcell⟩ := hc k hlt
      replace hcell := hw.cellOf hcell (by simp)
      have hfk := hf k hlt _ hw
      have h0 : (0 : Int) ≤ (k : Int) := by omega
      have h1 : (k : Int) < (n : Int) := by omega
      have HNO := Lib.hid hno
      have HW := Lib.hid hw
      clear hf hno hw
      cases hp : p k with
      | true =>
        rw [hp] at hfk
        have hv := anyB_yes hlt hp
        clear hp
        go_wp2_with fail
        refine hfk.mono ?_
        rintro e w1 ⟨rfl, r1⟩
        go_wp2_with fail
        go_ret
        exact ⟨k, rfl, HW.out.trans r1, by rw [hv]; simp⟩
      | false =>
        rw [hp] at hfk
        have hno' : ∀ j, j < k + 1 → p j = false := fun j hj => by
          by_cases hjk : j = k
          · subst hjk; exact hp
          · exact HNO.out j (by omega)
        have HNO' := Lib.hid hno'
        clear hp hno'
        go_wp2_with fail
        refine hfk.mono ?_
        rintro e w1 ⟨rfl, r1⟩
        go_wp2_with fail
        go_roundw
        case rel => exact ⟨k + 1, by omega, by go_num, HW.out.trans r1, HNO'.out⟩
        case measure => simp [intOf]; omega
    · have hkn : k = n := by omega
      subst hkn
      have hv := anyB_no hno
      clear hno hc hf
      go_wp2_with fail
      go_ret
      exact ⟨-1, rfl, hw, by rw [hv]; decide⟩
theorem has_few (w : World) (A : Option Addr) (n c : Nat) (ev : Nat → Int) (hcc : n ≤ c ∧ c ≤ maxLen) (hc : CellsAt w A n (fun i => .int .i64 (ev i))) (p : Nat → Bool)
    (hf : ∀ i, i < n → ∀ W, Wr [] w W → Calls Try.prog 78 #[.int .i64 (ev i)] W fun e w' => e = .returned (.bool (p i)) ∧ Wr [] W w') :
    Calls Try.prog 58 #[.slice A n c, .func (.func 78) #[] #[]] w fun e w' => e = .returned (.bool (anyB n p)) ∧ Wr [] w w' := by
  have h := idx_few w A n c ev hcc hc p hf
  go_enter Try.func58, Try.ntmps58
  go_wp2_with fail
  refine h.mono ?_
  rintro e w1 ⟨r, rfl, r1, hr⟩
  go_wp2_with fail
  go_ret
  exact ⟨by rw [← hr]; rfl, r1⟩

set_option maxRecDepth 100000 in
set_option maxHeartbeats 2000000 in
theorem idx_small (w : World) (A : Option Addr) (n c : Nat) (ev : Nat → Int) (hcc : n ≤ c ∧ c ≤ maxLen) (hc : CellsAt w A n (fun i => .int .i64 (ev i))) (p : Nat → Bool)
    (hf : ∀ i, i < n → ∀ W, Wr [] w W → Calls Try.prog 81 #[.int .i64 (ev i)] W fun e w' => e = .returned (.bool (p i)) ∧ Wr [] W w') :
    Calls Try.prog 93 #[.slice A n c, .func (.func 81) #[] #[]] w (IdxP w n p) := by
  unfold maxLen at hcc
  have hen : ∀ args w, (callFunc 81 args).run Try.prog w = .ok (.enter 81 args) w := fun args w => rfl
  go_enter Try.func93, Try.ntmps93
  go_wp2_with fail
  go_loopw [8] (fun i wr => ∃ k : Nat, k ≤ n ∧ i = .int .i64 k ∧ Wr [] w wr ∧ ∀ j, j < k → p j = false) (fun i _ => n - (intOf i).toNat)
  case atStart => exact ⟨0, by omega, rfl, Wr.refl _ _, fun j h => absurd h (by omega)⟩
  case round =>
    obtain ⟨k, hk, rfl, hw, hno⟩ := hrel
    by_cases hlt : k < n
    · obtain ⟨b, off, rfl, hcell⟩ := hc k hlt
      replace hcell := hw.cellOf hcell (by simp)
      have hfk := hf k hlt _ hw
      have h0 : (0 : Int) ≤ (k : Int) := by omega
      have h1 : (k : Int) < (n : Int) := by omega
      have HNO := Lib.hid hno
      have HW := Lib.hid hw
      clear hf hno hw
      cases hp : p k with
      | true =>
        rw [hp] at hfk
        have hv := anyB_yes hlt hp
        clear hp
        go_wp2_with fail
        refine hfk.mono ?_
        rintro e w1 ⟨rfl, r1⟩
        go_wp2_with fail
        go_ret
        exact ⟨k, rfl, HW.out.trans r1, by rw [hv]; simp⟩
      | false =>
        rw [hp] at hfk
        have hno' : ∀ j, j < k + 1 → p j = false := fun j hj => by
          by_cases hjk : j = k
          · subst hjk; exact hp
          · exact HNO.out j (by omega)
        have HNO' := Lib.hid hno'
        clear hp hno'
        go_wp2_with fail
        refine hfk.mono ?_
        rintro e w1 ⟨rfl, r1⟩
        go_wp2_with fail
        go_roundw
        case rel => exact ⟨k + 1, by omega, by go_num, HW.out.trans r1, HNO'.out⟩
        case measure => simp [intOf]; omega
    · have hkn : k = n := by omega
      subst hkn
      have hv := anyB_no hno
      clear hno hc hf
      go_wp2_with fail
      go_ret
      exact ⟨-1, rfl, hw, by rw [hv]; decide⟩
theorem has_small (w : World) (A : Option Addr) (n c : Nat) (ev : Nat → Int) (hcc : n ≤ c ∧ c ≤ maxLen) (hc : CellsAt w A n (fun i => .int .i64 (ev i))) (p : Nat → Bool)
    (hf : ∀ i, i < n → ∀ W, Wr [] w W → Calls Try.prog 81 #[.int .i64 (ev i)] W fun e w' => e = .returned (.bool (p i)) ∧ Wr [] W w') :
    Calls Try.prog 80 #[.slice A n c, .func (.func 81) #[] #[]] w fun e w' => e = .returned (.bool (anyB n p)) ∧ Wr [] w w' := by
  have h := idx_small w A n c ev hcc hc p hf
  go_enter Try.func80, Try.ntmps80
  go_wp2_with fail
  refine h.mono ?_
  rintro e w1 ⟨r, rfl, r1, hr⟩
  go_wp2_with fail
  go_ret
  exact ⟨by rw [← hr]; rfl, r1⟩

set_option maxRecDepth 100000 in
set_option maxHeartbeats 2000000 in
theorem idx_typ (w : World) (A : Option Addr) (n c : Nat) (ev : Nat → Int) (hcc : n ≤ c ∧ c ≤ maxLen) (hc : CellsAt w A n (fun i => .int .i64 (ev i))) (p : Nat → Bool) (pi : Nat)
    (hf : ∀ i, i < n → ∀ W, Wr [] w W → Calls Try.prog 59 #[.int .i64 (ev i), .pointer (some ⟨pi, 0, none⟩)] W fun e w' => e = .returned (.bool (p i)) ∧ Wr [] W w') :
    Calls Try.prog 79 #[.slice A n c, .func (.func 59) #[] #[.pointer (some ⟨pi, 0, none⟩)]] w (IdxP w n p) := by
  unfold maxLen at hcc
  have hen : ∀ args w, (callFunc 59 args).run Try.prog w = .ok (.enter 59 args) w := fun args w => rfl
  go_enter Try.func79, Try.ntmps79
  go_wp2_with fail
  go_loopw [8] (fun i wr => ∃ k : Nat, k ≤ n ∧ i = .int .i64 k ∧ Wr [] w wr ∧ ∀ j, j < k → p j = false) (fun i _ => n - (intOf i).toNat)
  case atStart => exact ⟨0, by omega, rfl, Wr.refl _ _, fun j h => absurd h (by omega)⟩
  case round =>
    obtain ⟨k, hk, rfl, hw, hno⟩ := hrel
    by_cases hlt : k < n
    · obtain ⟨b, off, rfl, hcell⟩ := hc k hlt
      replace hcell := hw.cellOf hcell (by simp)
      have hfk := hf k hlt _ hw
      have h0 : (0 : Int) ≤ (k : Int) := by omega
      have h1 : (k : Int) < (n : Int) := by omega
      have HNO := Lib.hid hno
      have HW := Lib.hid hw
      clear hf hno hw
      cases hp : p k with
      | true =>
        rw [hp] at hfk
        have hv := anyB_yes hlt hp
        clear hp
        go_wp2_with fail
        refine hfk.mono ?_
        rintro e w1 ⟨rfl, r1⟩
        go_wp2_with fail
        go_ret
        exact ⟨k, rfl, HW.out.trans r1, by rw [hv]; simp⟩
      | false =>
        rw [hp] at hfk
        have hno' : ∀ j, j < k + 1 → p j = false := fun j hj => by
          by_cases hjk : j = k
          · subst hjk; exact hp
          · exact HNO.out j (by omega)
        have HNO' := Lib.hid hno'
        clear hp hno'
        go_wp2_with fail
        refine hfk.mono ?_
        rintro e w1 ⟨rfl, r1⟩
        go_wp2_with fail
        go_roundw
        case rel => exact ⟨k + 1, by omega, by go_num, HW.out.trans r1, HNO'.out⟩
        case measure => simp [intOf]; omega
    · have hkn : k = n := by omega
      subst hkn
      have hv := anyB_no hno
      clear hno hc hf
      go_wp2_with fail
      go_ret
      exact ⟨-1, rfl, hw, by rw [hv]; decide⟩
theorem has_typ (w : World) (A : Option Addr) (n c : Nat) (ev : Nat → Int) (hcc : n ≤ c ∧ c ≤ maxLen) (hc : CellsAt w A n (fun i => .int .i64 (ev i))) (p : Nat → Bool) (pi : Nat)
    (hf : ∀ i, i < n → ∀ W, Wr [] w W → Calls Try.prog 59 #[.int .i64 (ev i), .pointer (some ⟨pi, 0, none⟩)] W fun e w' => e = .returned (.bool (p i)) ∧ Wr [] W w') :
    Calls Try.prog 58 #[.slice A n c, .func (.func 59) #[] #[.pointer (some ⟨pi, 0, none⟩)]] w fun e w' => e = .returned (.bool (anyB n p)) ∧ Wr [] w w' := by
  have h := idx_typ w A n c ev hcc hc p pi hf
  go_enter Try.func58, Try.ntmps58
  go_wp2_with fail
  refine h.mono ?_
  rintro e w1 ⟨r, rfl, r1, hr⟩
  go_wp2_with fail
  go_ret
  exact ⟨by rw [← hr]; rfl, r1⟩

end Go.Proofs.Ytjanbpchedgoiaa

/- iface's short, few, small: walked. Conditions: the lists are there. -/
namespace Go.Proofs.Ytjanbpchedgoiaa
open Go.RowKit
set_option linter.unusedVariables false
set_option linter.unusedSimpArgs false

theorem shortQ (s : ByteArray) (w : World) : Calls Try.prog 75 #[.string s] w fun e w' => e = .returned (.bool (decide ((s.size : Int) > 255))) ∧ Wr [] w w' := by
  go_enter Try.func75, Try.ntmps75
  go_wp2_with fail
  go_ret
  exact ⟨rfl, Wr.refl [] w⟩
theorem fewQ (n : Int) (w : World) : Calls Try.prog 78 #[.int .i64 n] w fun e w' => e = .returned (.bool (decide (n > 65535))) ∧ Wr [] w w' := by
  go_enter Try.func78, Try.ntmps78
  go_wp2_with fail
  go_ret
  exact ⟨rfl, Wr.refl [] w⟩
def smallN (n : Int) : Bool := decide (n < -2147483648) || decide (n > 2147483647)
theorem smallQ (n : Int) (w : World) : Calls Try.prog 81 #[.int .i64 n] w fun e w' => e = .returned (.bool (smallN n)) ∧ Wr [] w w' := by
  unfold smallN
  by_cases h : n < -2147483648
  · go_enter Try.func81, Try.ntmps81
    go_wp2_with fail
    go_ret
    exact ⟨by simp [h], Wr.refl [] w⟩
  · go_enter Try.func81, Try.ntmps81
    go_wp2_with fail
    go_ret
    exact ⟨by rw [show decide (n < -2147483648) = false from decide_eq_false (by omega), Bool.false_or]; try rfl, Wr.refl [] w⟩
theorem short_any (w : World) (A : Option Addr) (n c : Nat) (ev : Nat → ByteArray) (hcc : n ≤ c ∧ c ≤ maxLen) (hc : CellsAt w A n (fun i => .string (ev i))) :
    Calls Try.prog 54 #[.slice A n c] w fun e w' => e = .returned (.bool (!anyB n fun i => decide (((ev i).size : Int) > 255))) ∧ Wr [] w w' := by
  have h := has_short w A n c ev hcc hc (fun i => decide (((ev i).size : Int) > 255)) (fun i _ W _ => shortQ (ev i) W)
  go_enter Try.func54, Try.ntmps54
  go_wp2_with fail
  refine h.mono ?_
  rintro e w1 ⟨rfl, r1⟩
  go_wp2_with fail
  go_ret
  exact ⟨rfl, r1⟩
theorem few_any (w : World) (A : Option Addr) (n c : Nat) (ev : Nat → Int) (hcc : n ≤ c ∧ c ≤ maxLen) (hc : CellsAt w A n (fun i => .int .i64 (ev i))) :
    Calls Try.prog 56 #[.slice A n c] w fun e w' => e = .returned (.bool (!anyB n fun i => decide (ev i > 65535))) ∧ Wr [] w w' := by
  have h := has_few w A n c ev hcc hc (fun i => decide (ev i > 65535)) (fun i _ W _ => fewQ (ev i) W)
  go_enter Try.func56, Try.ntmps56
  go_wp2_with fail
  refine h.mono ?_
  rintro e w1 ⟨rfl, r1⟩
  go_wp2_with fail
  go_ret
  exact ⟨rfl, r1⟩
theorem small_any (w : World) (A : Option Addr) (n c : Nat) (ev : Nat → Int) (hcc : n ≤ c ∧ c ≤ maxLen) (hc : CellsAt w A n (fun i => .int .i64 (ev i))) :
    Calls Try.prog 60 #[.slice A n c] w fun e w' => e = .returned (.bool (!anyB n fun i => smallN (ev i))) ∧ Wr [] w w' := by
  have h := has_small w A n c ev hcc hc (fun i => smallN (ev i)) (fun i _ W _ => smallQ (ev i) W)
  go_enter Try.func60, Try.ntmps60
  go_wp2_with fail
  refine h.mono ?_
  rintro e w1 ⟨rfl, r1⟩
  go_wp2_with fail
  go_ret
  exact ⟨rfl, r1⟩
/-- Is it no number of a type, where so many stand behind those of the language? -/
def typN (nt : Nat) (n : Int) : Bool := decide (n < 0) || decide (n ≥ 10 + (nt : Int))
theorem typQ (n : Int) (pi : Nat) (A : Option Addr) (nt c : Nat) (hcc : nt ≤ c ∧ c ≤ maxLen) (w : World) (hc : w.cell? ⟨pi, 2, none⟩ = some (.slice A nt c)) (h63 : nt ≤ 1000000) :
    Calls Try.prog 59 #[.int .i64 n, .pointer (some ⟨pi, 0, none⟩)] w fun e w' => e = .returned (.bool (typN nt n)) ∧ Wr [] w w' := by
  unfold typN
  unfold maxLen at hcc
  have hw : wrap64 (10 + (nt : Int)) = 10 + (nt : Int) := by unfold wrap64; omega
  have hw2 : IntKind.i64.wrap (10 + (nt : Int)) = 10 + (nt : Int) := by rw [IntKind.wrap_i64]; omega
  by_cases h : n < 0
  · go_enter Try.func59, Try.ntmps59
    go_wp2_with fail
    go_ret
    exact ⟨by simp [h], Wr.refl [] w⟩
  · go_enter Try.func59, Try.ntmps59
    go_wp2_with fail
    go_ret
    exact ⟨by rw [show decide (n < 0) = false from decide_eq_false (by omega), Bool.false_or]; try rfl, Wr.refl [] w⟩
theorem typ_any (w : World) (A : Option Addr) (n c : Nat) (ev : Nat → Int) (hcc : n ≤ c ∧ c ≤ maxLen) (hc : CellsAt w A n (fun i => .int .i64 (ev i))) (pi : Nat) (At : Option Addr) (nt ct : Nat) (htt : nt ≤ ct ∧ ct ≤ maxLen) (hct : w.cell? ⟨pi, 2, none⟩ = some (.slice At nt ct)) (h63 : nt ≤ 1000000) :
    Calls Try.prog 57 #[.slice A n c, .pointer (some ⟨pi, 0, none⟩)] w fun e w' => e = .returned (.bool (!anyB n fun i => typN nt (ev i))) ∧ Wr [] w w' := by
  have h := has_typ w A n c ev hcc hc (fun i => typN nt (ev i)) pi (fun i _ W r => typQ (ev i) pi At nt ct htt W (r.cellOf hct (by simp)) h63)
  have hmf : ∀ (fn : Fn) (first cap : Array Value) (w : World), (Instr.makeFunc fn first cap).run Try.prog w = .ok (.func fn first cap) w := fun _ _ _ _ => rfl
  go_enter Try.func57, Try.ntmps57
  go_wp2_with fail
  refine h.mono ?_
  rintro e w1 ⟨rfl, r1⟩
  go_wp2_with fail
  go_ret
  exact ⟨rfl, r1⟩
end Go.Proofs.Ytjanbpchedgoiaa

/- The values of constants: as what lies in an interface value; what a type assertion says of each. No conditions. -/
namespace Go.Proofs.Ytjanbpchedgoiaa
open Go.RowKit
set_option linter.unusedVariables false

/-- A value, by its sort: 1 a whole number, 2 a letter, 3 a truth (n: 1, or 0), 4 a set, 5 a string, 6 an item, 7 null, 8 a number that is no value; else none. -/
structure KV where
  sort : Nat
  n : Int
  t : Int
  s : ByteArray

def KV.is (x : KV) (k : Nat) : Bool := x.sort == k
def KV.num (x : KV) (k : Nat) : Int := if x.sort = k then x.n else 0
def KV.tru (x : KV) : Bool := x.sort == 3 && x.n == 1
def KV.str (x : KV) : ByteArray := if x.sort = 5 then x.s else ⟨#[]⟩
def KV.typ (x : KV) : Int := if x.sort = 6 then x.t else 0
def KV.val (x : KV) : Value :=
  if x.sort = 1 then .iface 94 (.int .i64 x.n) else if x.sort = 2 then .iface 95 (.int .u8 x.n) else if x.sort = 3 then .iface 96 (.bool (x.n == 1))
  else if x.sort = 4 then .iface 97 (.int .u16 x.n) else if x.sort = 5 then .iface 98 (.string x.s) else if x.sort = 6 then .iface 79 (.agg #[.int .i64 x.t, .int .i64 x.n])
  else if x.sort = 7 then .iface 100 (.agg #[]) else if x.sort = 8 then .iface 2 (.int .i64 x.n) else .nilIface

theorem KV.val_cases (x : KV) (Q : Value → Prop) (h1 : x.sort = 1 → Q (.iface 94 (.int .i64 x.n))) (h2 : x.sort = 2 → Q (.iface 95 (.int .u8 x.n))) (h3 : x.sort = 3 → Q (.iface 96 (.bool (x.n == 1))))
    (h4 : x.sort = 4 → Q (.iface 97 (.int .u16 x.n))) (h5 : x.sort = 5 → Q (.iface 98 (.string x.s))) (h6 : x.sort = 6 → Q (.iface 79 (.agg #[.int .i64 x.t, .int .i64 x.n])))
    (h7 : x.sort = 7 → Q (.iface 100 (.agg #[]))) (h8 : x.sort = 8 → Q (.iface 2 (.int .i64 x.n))) (h0 : x.sort = 0 ∨ 8 < x.sort → Q .nilIface) : Q x.val := by
  unfold KV.val
  by_cases c1 : x.sort = 1
  · rw [if_pos c1]; exact h1 c1
  by_cases c2 : x.sort = 2
  · rw [if_neg c1, if_pos c2]; exact h2 c2
  by_cases c3 : x.sort = 3
  · rw [if_neg c1, if_neg c2, if_pos c3]; exact h3 c3
  by_cases c4 : x.sort = 4
  · rw [if_neg c1, if_neg c2, if_neg c3, if_pos c4]; exact h4 c4
  by_cases c5 : x.sort = 5
  · rw [if_neg c1, if_neg c2, if_neg c3, if_neg c4, if_pos c5]; exact h5 c5
  by_cases c6 : x.sort = 6
  · rw [if_neg c1, if_neg c2, if_neg c3, if_neg c4, if_neg c5, if_pos c6]; exact h6 c6
  by_cases c7 : x.sort = 7
  · rw [if_neg c1, if_neg c2, if_neg c3, if_neg c4, if_neg c5, if_neg c6, if_pos c7]; exact h7 c7
  by_cases c8 : x.sort = 8
  · rw [if_neg c1, if_neg c2, if_neg c3, if_neg c4, if_neg c5, if_neg c6, if_neg c7, if_pos c8]; exact h8 c8
  rw [if_neg c1, if_neg c2, if_neg c3, if_neg c4, if_neg c5, if_neg c6, if_neg c7, if_neg c8]; exact h0 (by omega)

theorem as_self {T xT : TypeId} {u : TypeDesc} (hu : Try.prog.underlying T = some u) (hi : (match u with | .interface _ => true | _ => false) = false) (v : Value) (w : World) :
    (Instr.typeAssert (.iface T v) xT T true).run Try.prog w = .ok (.tuple #[v, .bool true]) w := by
  cases u <;> first | (cases hi; done) | simp [Instr.typeAssert, run_underlying hu]

theorem as_other {T xT t : TypeId} {u : TypeDesc} {z : Value} (hu : Try.prog.underlying T = some u) (hi : (match u with | .interface _ => true | _ => false) = false) (hz : ∀ w, (zeroValue T).run Try.prog w = .ok z w) (ht : t ≠ T) (v : Value) (w : World) :
    (Instr.typeAssert (.iface t v) xT T true).run Try.prog w = .ok (.tuple #[z, .bool false]) w := by
  cases u <;> first | (cases hi; done) | simp [Instr.typeAssert, run_underlying hu, ht, hz]

theorem as_nil {T xT : TypeId} {u : TypeDesc} {z : Value} (hu : Try.prog.underlying T = some u) (hi : (match u with | .interface _ => true | _ => false) = false) (hz : ∀ w, (zeroValue T).run Try.prog w = .ok z w) (w : World) :
    (Instr.typeAssert .nilIface xT T true).run Try.prog w = .ok (.tuple #[z, .bool false]) w := by
  cases u <;> first | (cases hi; done) | simp [Instr.typeAssert, run_underlying hu, hz]

theorem as_whole (x : KV) (w : World) : (Instr.typeAssert x.val 20 94 true).run Try.prog w = .ok (.tuple #[.int .i64 (x.num 1), .bool (x.is 1)]) w := by
  refine x.val_cases (fun V => (Instr.typeAssert V 20 94 true).run Try.prog w = .ok (.tuple #[.int .i64 (x.num 1), .bool (x.is 1)]) w) ?_ ?_ ?_ ?_ ?_ ?_ ?_ ?_ ?_ <;> intro h
  all_goals first
    | (rw [as_self Try.underlying94 rfl]; simp [KV.num, KV.is, h]; done)
    | (rw [as_other Try.underlying94 rfl Try.zeroValue94 (by decide)]; simp [KV.num, KV.is, h]; done)
    | (rw [as_nil Try.underlying94 rfl Try.zeroValue94]; have h1 : x.sort ≠ 1 := by omega
       simp [KV.num, KV.is, h1]; done)

theorem as_letter (x : KV) (w : World) : (Instr.typeAssert x.val 20 95 true).run Try.prog w = .ok (.tuple #[.int .u8 (x.num 2), .bool (x.is 2)]) w := by
  refine x.val_cases (fun V => (Instr.typeAssert V 20 95 true).run Try.prog w = .ok (.tuple #[.int .u8 (x.num 2), .bool (x.is 2)]) w) ?_ ?_ ?_ ?_ ?_ ?_ ?_ ?_ ?_ <;> intro h
  all_goals first
    | (rw [as_self Try.underlying95 rfl]; simp [KV.num, KV.is, h]; done)
    | (rw [as_other Try.underlying95 rfl Try.zeroValue95 (by decide)]; simp [KV.num, KV.is, h]; done)
    | (rw [as_nil Try.underlying95 rfl Try.zeroValue95]; have h1 : x.sort ≠ 2 := by omega
       simp [KV.num, KV.is, h1]; done)

theorem as_truth (x : KV) (w : World) : (Instr.typeAssert x.val 20 96 true).run Try.prog w = .ok (.tuple #[.bool x.tru, .bool (x.is 3)]) w := by
  refine x.val_cases (fun V => (Instr.typeAssert V 20 96 true).run Try.prog w = .ok (.tuple #[.bool x.tru, .bool (x.is 3)]) w) ?_ ?_ ?_ ?_ ?_ ?_ ?_ ?_ ?_ <;> intro h
  all_goals first
    | (rw [as_self Try.underlying96 rfl]; simp [KV.tru, KV.is, h]; done)
    | (rw [as_other Try.underlying96 rfl Try.zeroValue96 (by decide)]; simp [KV.tru, KV.is, h]; done)
    | (rw [as_nil Try.underlying96 rfl Try.zeroValue96]; have h1 : x.sort ≠ 3 := by omega
       simp [KV.tru, KV.is, h1]; done)

theorem as_bits (x : KV) (w : World) : (Instr.typeAssert x.val 20 97 true).run Try.prog w = .ok (.tuple #[.int .u16 (x.num 4), .bool (x.is 4)]) w := by
  refine x.val_cases (fun V => (Instr.typeAssert V 20 97 true).run Try.prog w = .ok (.tuple #[.int .u16 (x.num 4), .bool (x.is 4)]) w) ?_ ?_ ?_ ?_ ?_ ?_ ?_ ?_ ?_ <;> intro h
  all_goals first
    | (rw [as_self Try.underlying97 rfl]; simp [KV.num, KV.is, h]; done)
    | (rw [as_other Try.underlying97 rfl Try.zeroValue97 (by decide)]; simp [KV.num, KV.is, h]; done)
    | (rw [as_nil Try.underlying97 rfl Try.zeroValue97]; have h1 : x.sort ≠ 4 := by omega
       simp [KV.num, KV.is, h1]; done)

theorem as_string (x : KV) (w : World) : (Instr.typeAssert x.val 20 98 true).run Try.prog w = .ok (.tuple #[.string x.str, .bool (x.is 5)]) w := by
  refine x.val_cases (fun V => (Instr.typeAssert V 20 98 true).run Try.prog w = .ok (.tuple #[.string x.str, .bool (x.is 5)]) w) ?_ ?_ ?_ ?_ ?_ ?_ ?_ ?_ ?_ <;> intro h
  all_goals first
    | (rw [as_self Try.underlying98 rfl]; simp [KV.str, KV.is, h]; done)
    | (rw [as_other Try.underlying98 rfl Try.zeroValue98 (by decide)]; simp [KV.str, KV.is, h]; done)
    | (rw [as_nil Try.underlying98 rfl Try.zeroValue98]; have h1 : x.sort ≠ 5 := by omega
       simp [KV.str, KV.is, h1]; done)

theorem as_item (x : KV) (w : World) : (Instr.typeAssert x.val 20 79 true).run Try.prog w = .ok (.tuple #[.agg #[.int .i64 x.typ, .int .i64 (x.num 6)], .bool (x.is 6)]) w := by
  refine x.val_cases (fun V => (Instr.typeAssert V 20 79 true).run Try.prog w = .ok (.tuple #[.agg #[.int .i64 x.typ, .int .i64 (x.num 6)], .bool (x.is 6)]) w) ?_ ?_ ?_ ?_ ?_ ?_ ?_ ?_ ?_ <;> intro h
  all_goals first
    | (rw [as_self Try.underlying79 rfl]; simp [KV.num, KV.typ, KV.is, h]; done)
    | (rw [as_other Try.underlying79 rfl Try.zeroValue79 (by decide)]; simp [KV.num, KV.typ, KV.is, h]; done)
    | (rw [as_nil Try.underlying79 rfl Try.zeroValue79]; have h1 : x.sort ≠ 6 := by omega
       simp [KV.num, KV.typ, KV.is, h1]; done)

theorem as_null (x : KV) (w : World) : (Instr.typeAssert x.val 20 100 true).run Try.prog w = .ok (.tuple #[.agg #[], .bool (x.is 7)]) w := by
  refine x.val_cases (fun V => (Instr.typeAssert V 20 100 true).run Try.prog w = .ok (.tuple #[.agg #[], .bool (x.is 7)]) w) ?_ ?_ ?_ ?_ ?_ ?_ ?_ ?_ ?_ <;> intro h
  all_goals first
    | (rw [as_self Try.underlying100 rfl]; simp [KV.num, KV.is, h]; done)
    | (rw [as_other Try.underlying100 rfl Try.zeroValue100 (by decide)]; simp [KV.num, KV.is, h]; done)
    | (rw [as_nil Try.underlying100 rfl Try.zeroValue100]; have h1 : x.sort ≠ 7 := by omega
       simp [KV.num, KV.is, h1]; done)

end Go.Proofs.Ytjanbpchedgoiaa

/- Interfaces as they lie in memory: values, items, types, the whole. No conditions. -/
namespace Go.Proofs.Ytjanbpchedgoiaa
open Go.RowKit
set_option linter.unusedVariables false
set_option linter.unusedSimpArgs false

/-- The j-th cell of the i-th thing, in the list of all cells. -/
theorem flatF_at {α : Type} {g : α → List Value} {size : Nat} (hg : ∀ x, (g x).length = size) : ∀ (l : List α) (i j : Nat) (x : α), l[i]? = some x → j < size → (l.flatMap g)[i * size + j]? = (g x)[j]?
  | [], i, j, x, h, _ => by simp at h
  | y :: l, 0, j, x, h, hj => by
    simp only [List.getElem?_cons_zero, Option.some.injEq] at h
    subst h
    rw [List.flatMap_cons, Nat.zero_mul, Nat.zero_add, List.getElem?_append_left (by rw [hg]; exact hj)]
  | y :: l, i + 1, j, x, h, hj => by
    rw [List.getElem?_cons_succ] at h
    rw [List.flatMap_cons, List.getElem?_append_right (by rw [hg, Nat.succ_mul]; omega), hg, show (i + 1) * size + j - size = i * size + j by rw [Nat.succ_mul]; omega]
    exact flatF_at hg l i j x h hj
/-- A value, as what lies in an interface value. -/
def AnyD.val : AnyD → Value
  | .nil => .nilIface
  | .whole n => .iface 94 (.int .i64 n)
  | .letter n => .iface 95 (.int .u8 n)
  | .truth b => .iface 96 (.bool b)
  | .bits n => .iface 97 (.int .u16 n)
  | .str s => .iface 98 (.string s)
  | .item t n => .iface 79 (.agg #[.int .i64 t, .int .i64 n])
  | .null => .iface 100 (.agg #[])
  | .other => .iface 9 (.string ⟨#[110, 111, 110, 101]⟩)
def AnyD.sort : AnyD → Nat
  | .nil => 0 | .whole _ => 1 | .letter _ => 2 | .truth _ => 3 | .bits _ => 4 | .str _ => 5 | .item _ _ => 6 | .null => 7 | .other => 8
def AnyD.wholeV : AnyD → Int | .whole n => n | _ => 0
def AnyD.letterV : AnyD → Int | .letter n => n | _ => 0
def AnyD.truthV : AnyD → Bool | .truth b => b | _ => false
def AnyD.bitsV : AnyD → Int | .bits n => n | _ => 0
def AnyD.strV : AnyD → ByteArray | .str s => s | _ => ⟨#[]⟩
def AnyD.itemT : AnyD → Int | .item t _ => t | _ => 0
def AnyD.itemN : AnyD → Int | .item _ n => n | _ => 0
theorem AnyD.val_one (v : AnyD) : v.val.oneCell' = true := by cases v <;> rfl
section
variable (v : AnyD) (w : World)
set_option maxRecDepth 100000 in
theorem anyAs_whole : (Instr.typeAssert v.val 20 94 true).run Try.prog w = .ok (.tuple #[.int .i64 v.wholeV, .bool (v.sort == 1)]) w := by
  cases v <;> simp only [AnyD.val, AnyD.wholeV, AnyD.sort] <;> first
    | (rw [as_self Try.underlying94 rfl]; rfl)
    | (rw [as_nil Try.underlying94 rfl Try.zeroValue94]; rfl)
    | (rw [as_other Try.underlying94 rfl Try.zeroValue94 (by decide)]; rfl)
set_option maxRecDepth 100000 in
theorem anyAs_letter : (Instr.typeAssert v.val 20 95 true).run Try.prog w = .ok (.tuple #[.int .u8 v.letterV, .bool (v.sort == 2)]) w := by
  cases v <;> simp only [AnyD.val, AnyD.letterV, AnyD.sort] <;> first
    | (rw [as_self Try.underlying95 rfl]; rfl)
    | (rw [as_nil Try.underlying95 rfl Try.zeroValue95]; rfl)
    | (rw [as_other Try.underlying95 rfl Try.zeroValue95 (by decide)]; rfl)
set_option maxRecDepth 100000 in
theorem anyAs_truth : (Instr.typeAssert v.val 20 96 true).run Try.prog w = .ok (.tuple #[.bool v.truthV, .bool (v.sort == 3)]) w := by
  cases v <;> simp only [AnyD.val, AnyD.truthV, AnyD.sort] <;> first
    | (rw [as_self Try.underlying96 rfl]; rfl)
    | (rw [as_nil Try.underlying96 rfl Try.zeroValue96]; rfl)
    | (rw [as_other Try.underlying96 rfl Try.zeroValue96 (by decide)]; rfl)
set_option maxRecDepth 100000 in
theorem anyAs_bits : (Instr.typeAssert v.val 20 97 true).run Try.prog w = .ok (.tuple #[.int .u16 v.bitsV, .bool (v.sort == 4)]) w := by
  cases v <;> simp only [AnyD.val, AnyD.bitsV, AnyD.sort] <;> first
    | (rw [as_self Try.underlying97 rfl]; rfl)
    | (rw [as_nil Try.underlying97 rfl Try.zeroValue97]; rfl)
    | (rw [as_other Try.underlying97 rfl Try.zeroValue97 (by decide)]; rfl)
set_option maxRecDepth 100000 in
theorem anyAs_string : (Instr.typeAssert v.val 20 98 true).run Try.prog w = .ok (.tuple #[.string v.strV, .bool (v.sort == 5)]) w := by
  cases v <;> simp only [AnyD.val, AnyD.strV, AnyD.sort] <;> first
    | (rw [as_self Try.underlying98 rfl]; rfl)
    | (rw [as_nil Try.underlying98 rfl Try.zeroValue98]; rfl)
    | (rw [as_other Try.underlying98 rfl Try.zeroValue98 (by decide)]; rfl)
set_option maxRecDepth 100000 in
theorem anyAs_item : (Instr.typeAssert v.val 20 79 true).run Try.prog w = .ok (.tuple #[.agg #[.int .i64 v.itemT, .int .i64 v.itemN], .bool (v.sort == 6)]) w := by
  cases v <;> simp only [AnyD.val, AnyD.itemT, AnyD.itemN, AnyD.sort] <;> first
    | (rw [as_self Try.underlying79 rfl]; rfl)
    | (rw [as_nil Try.underlying79 rfl Try.zeroValue79]; rfl)
    | (rw [as_other Try.underlying79 rfl Try.zeroValue79 (by decide)]; rfl)
set_option maxRecDepth 100000 in
theorem anyAs_null : (Instr.typeAssert v.val 20 100 true).run Try.prog w = .ok (.tuple #[.agg #[], .bool (v.sort == 7)]) w := by
  cases v <;> simp only [AnyD.val, AnyD.sort, AnyD.sort] <;> first
    | (rw [as_self Try.underlying100 rfl]; rfl)
    | (rw [as_nil Try.underlying100 rfl Try.zeroValue100]; rfl)
    | (rw [as_other Try.underlying100 rfl Try.zeroValue100 (by decide)]; rfl)
end
def ItmD.cells (x : ItmD) : List Value := [.string x.name, .int .u8 x.kind, .int .i64 x.type, x.v.val, .int .i64 x.at_]
theorem itm_len (x : ItmD) : x.cells.length = 5 := rfl
def UseD.cellsF (u : UseD) : List Value := [.string u.module, .int .u64 u.key]
theorem useF_len (x : UseD) : x.cellsF.length = 2 := rfl
def SlItms (w : World) (P : Nat → Prop) (v : Value) (l : List ItmD) : Prop := Sl w P 5 v l.length (l.flatMap ItmD.cells)
def SlUsesF (w : World) (P : Nat → Prop) (v : Value) (l : List UseD) : Prop := Sl w P 2 v l.length (l.flatMap UseD.cellsF)
def SlTys (w : World) (P : Nat → Prop) (v : Value) (l : List Ty) : Prop :=
  ∃ xs, Sl w P 12 v l.length xs ∧ (∀ u ∈ xs, u.oneCell' = true) ∧ ∀ i t, l[i]? = some t → ∃ vn vf va vp, (∀ j u, (t.cells vn vf va vp)[j]? = some u → xs[i * 12 + j]? = some u) ∧ Lists w P vn vf va vp t
/-- An interface's three lists. -/
structure FaceL (w : World) (P : Nat → Prop) (vu vt vi : Value) (f : FaceD) : Prop where
  uses : SlUsesF w P vu f.uses
  types : SlTys w P vt f.types
  items : SlItms w P vi f.items
def FaceD.val (f : FaceD) (vu vt vi : Value) : Value := .agg #[.string f.module, vu, vt, vi]
section
variable {w w' : World} {P Q : Nat → Prop} {v vu vt vi : Value}
theorem SlTys.keep {ls : List Nat} {l : List Ty} (h : SlTys w P v l) (hw : Wr ls w w') (hP : ∀ b, P b → b ∉ ls) : SlTys w' P v l := by
  obtain ⟨xs, h1, h2, h3⟩ := h
  refine ⟨xs, h1.keep hw hP, h2, fun i o hi => ?_⟩
  obtain ⟨vn, vf, va, vp, e1, e2⟩ := h3 i o hi
  exact ⟨vn, vf, va, vp, e1, e2.keep hw hP⟩
theorem SlTys.wr0 {l : List Ty} (h : SlTys w P v l) (hw : Wr [] w w') : SlTys w' P v l := h.keep hw (fun _ _ => by simp)
theorem SlTys.into {l : List Ty} (h : SlTys w P v l) (hP : ∀ b, P b → b < w.heap.size → Q b) : SlTys w Q v l := by
  obtain ⟨xs, h1, h2, h3⟩ := h
  refine ⟨xs, h1.into hP, h2, fun i o hi => ?_⟩
  obtain ⟨vn, vf, va, vp, e1, e2⟩ := h3 i o hi
  exact ⟨vn, vf, va, vp, e1, e2.into hP⟩
theorem SlTys.form {l : List Ty} (h : SlTys w P v l) : ∃ A c, v = .slice A l.length c ∧ l.length ≤ c ∧ c ≤ maxLen := by
  obtain ⟨xs, h1, h2, h3⟩ := h
  exact h1.form
theorem SlTys.nil (w : World) (P : Nat → Prop) : SlTys w P (.slice none 0 0) [] := ⟨[], Sl.nil _ _ _, by simp, fun i t h => by simp at h⟩
theorem ty_at {l : List Ty} (h : SlTys w P v l) {i : Nat} {t : Ty} (hi : l[i]? = some t) : ∃ b off c vn vf va vp, v = .slice (some ⟨b, off, none⟩) l.length c ∧ P b ∧ (∀ j u, (t.cells vn vf va vp)[j]? = some u → w.cell? ⟨b, off + i * 12 + j, none⟩ = some u) ∧ Lists w P vn vf va vp t := by
  obtain ⟨xs, h1, h2, h3⟩ := h
  obtain ⟨vn, vf, va, vp, e1, e2⟩ := h3 i t hi
  obtain ⟨b, off, c, e, _, _, hP, h4⟩ := Sl.thing h1 (by decide) (List.getElem?_eq_some_iff.1 hi).1
  refine ⟨b, off, c, vn, vf, va, vp, e, hP, fun j u hj => ?_, e2⟩
  have hj9 : j < 12 := (List.getElem?_eq_some_iff.1 hj).1
  rw [Nat.add_assoc]
  exact h4 j u hj9 (e1 j u hj)
theorem itm_at {l : List ItmD} (h : SlItms w P v l) {i : Nat} {x : ItmD} (hi : l[i]? = some x) : ∃ b off c, v = .slice (some ⟨b, off, none⟩) l.length c ∧ P b ∧ ∀ j u, x.cells[j]? = some u → w.cell? ⟨b, off + i * 5 + j, none⟩ = some u := by
  obtain ⟨b, off, c, e, _, _, hP, h4⟩ := Sl.thing h (by decide) (List.getElem?_eq_some_iff.1 hi).1
  refine ⟨b, off, c, e, hP, fun j u hj => ?_⟩
  have hj5 : j < 5 := (List.getElem?_eq_some_iff.1 hj).1
  rw [Nat.add_assoc]
  exact h4 j u hj5 (by rw [flatF_at itm_len l i j x hi hj5]; exact hj)
theorem useF_at {l : List UseD} (h : SlUsesF w P v l) {i : Nat} {x : UseD} (hi : l[i]? = some x) : ∃ b off c, v = .slice (some ⟨b, off, none⟩) l.length c ∧ P b ∧ ∀ j u, x.cellsF[j]? = some u → w.cell? ⟨b, off + i * 2 + j, none⟩ = some u := by
  obtain ⟨b, off, c, e, _, _, hP, h4⟩ := Sl.thing h (by decide) (List.getElem?_eq_some_iff.1 hi).1
  refine ⟨b, off, c, e, hP, fun j u hj => ?_⟩
  have hj5 : j < 2 := (List.getElem?_eq_some_iff.1 hj).1
  rw [Nat.add_assoc]
  exact h4 j u hj5 (by rw [flatF_at useF_len l i j x hi hj5]; exact hj)
theorem FaceL.keep {ls : List Nat} {f : FaceD} (h : FaceL w P vu vt vi f) (hw : Wr ls w w') (hP : ∀ b, P b → b ∉ ls) : FaceL w' P vu vt vi f := ⟨Sl.keep h.uses hw hP, h.types.keep hw hP, Sl.keep h.items hw hP⟩
theorem FaceL.wr0 {f : FaceD} (h : FaceL w P vu vt vi f) (hw : Wr [] w w') : FaceL w' P vu vt vi f := h.keep hw (fun _ _ => by simp)
theorem FaceL.into {f : FaceD} (h : FaceL w P vu vt vi f) (hP : ∀ b, P b → b < w.heap.size → Q b) : FaceL w Q vu vt vi f := ⟨Sl.into h.uses hP, h.types.into hP, Sl.into h.items hP⟩
end
/-- What short answers of a list. -/
theorem short_list {l : List ByteArray} {ev : Nat → ByteArray} (h : ∀ (i : Nat) (s : ByteArray), l[i]? = some s → ev i = s) : (!anyB l.length fun i => decide (((ev i).size : Int) > 255)) = l.all shB := by
  unfold anyB shB
  rw [Bool.eq_iff_iff]
  simp only [Bool.not_eq_true', List.any_eq_false, List.all_eq_true, List.mem_range, decide_eq_true_eq]
  constructor
  · intro h1 s hs
    obtain ⟨i, hi⟩ := List.getElem?_of_mem hs
    have := h1 i (List.getElem?_eq_some_iff.1 hi).1
    rw [h i s hi] at this
    omega
  · intro h1 i hi
    have := h1 _ (List.getElem_mem hi)
    rw [h i _ (List.getElem?_eq_getElem hi)]
    omega
theorem SlStrs.cellsAt {w : World} {P : Nat → Prop} {A : Option Addr} {c : Nat} {l : List ByteArray} (h : SlStrs w P (.slice A l.length c) l) : CellsAt w A l.length (fun i => .string ((l[i]?).getD ⟨#[]⟩)) := by
  intro i hi
  obtain ⟨b, off, c', e, _, _, _, hc⟩ := Sl.at_ h (j := i) (u := .string l[i]) (by rw [List.getElem?_map, List.getElem?_eq_getElem hi]; rfl)
  injection e with e1 _ _
  exact ⟨b, off, e1, by rw [hc]; simp [List.getElem?_eq_getElem hi]⟩
theorem SlInts.cellsAt {w : World} {P : Nat → Prop} {A : Option Addr} {c : Nat} {l : List Int} (h : SlInts w P (.slice A l.length c) l) : CellsAt w A l.length (fun i => .int .i64 ((l[i]?).getD 0)) := by
  intro i hi
  obtain ⟨b, off, c', e, _, _, _, hc⟩ := Sl.at_ h (j := i) (u := .int .i64 l[i]) (by rw [List.getElem?_map, List.getElem?_eq_getElem hi]; rfl)
  injection e with e1 _ _
  exact ⟨b, off, e1, by rw [hc]; simp [List.getElem?_eq_getElem hi]⟩
/-- A block whose cells are known: what the questions on lists ask. -/
theorem blk_cells {w : World} {g : Nat} {t : TypeId} {cs : Array Value} {n : Nat} {ev : Nat → Value} (h : Blk w g t cs) (hn : ∀ i, i < n → cs[i]? = some (ev i)) : CellsAt w (some ⟨g, 0, none⟩) n ev := fun i hi => ⟨g, 0, rfl, by rw [Nat.zero_add, h.cell]; exact hn i hi⟩
end Go.Proofs.Ytjanbpchedgoiaa

/- The document's interfaces, whose values are plain: as data, in memory; a plain value as an any. No conditions. -/
namespace Go.Proofs.Ytjanbpchedgoiaa
open Go.RowKit
set_option linter.unusedVariables false
set_option linter.unusedSimpArgs false

/-- A plain value. -/
structure PVal where
  sort : Int
  n : Int
  type : Int
  text : ByteArray
/-- An item with a plain value. -/
structure PItm where
  name : ByteArray
  kind : Int
  type : Int
  at_ : Int
  v : PVal
/-- An interface with plain values. -/
structure FaceP where
  module : ByteArray
  uses : List UseD
  types : List Ty
  items : List PItm
def anyOf (v : PVal) : AnyD :=
  if v.sort = 0 then .nil else if v.sort = 1 then .whole v.n else if v.sort = 2 then .letter (v.n % 256) else if v.sort = 3 then .truth (decide (v.n % 2 ≠ 0)) else if v.sort = 4 then .bits (v.n % 65536) else if v.sort = 5 then .str v.text else if v.sort = 6 then .item v.type v.n else if v.sort = 7 then .null else .other
def itmOf (x : PItm) : ItmD := ⟨x.name, x.kind, x.type, x.at_, anyOf x.v⟩
def faceOf (f : FaceP) : FaceD := ⟨f.module, f.uses, f.types, f.items.map itmOf⟩
def valOf : AnyD → PVal
  | .nil => ⟨0, 0, 0, ⟨#[]⟩⟩
  | .whole n => ⟨1, n, 0, ⟨#[]⟩⟩
  | .letter n => ⟨2, n, 0, ⟨#[]⟩⟩
  | .truth b => ⟨3, if b then 1 else 0, 0, ⟨#[]⟩⟩
  | .bits n => ⟨4, n, 0, ⟨#[]⟩⟩
  | .str s => ⟨5, 0, 0, s⟩
  | .item t n => ⟨6, n, t, ⟨#[]⟩⟩
  | .null => ⟨7, 0, 0, ⟨#[]⟩⟩
  | .other => ⟨8, 0, 0, ⟨#[]⟩⟩
def pitmOf (x : ItmD) : PItm := ⟨x.name, x.kind, x.type, x.at_, valOf x.v⟩
def facePl (f : FaceD) : FaceP := ⟨f.module, f.uses, f.types, f.items.map pitmOf⟩
def PVal.cells (v : PVal) : List Value := [.int .u8 v.sort, .int .i64 v.n, .int .i64 v.type, .string v.text]
def PItm.cells (x : PItm) : List Value := [.string x.name, .int .u8 x.kind, .int .i64 x.type, .int .i64 x.at_, .int .u8 x.v.sort, .int .i64 x.v.n, .int .i64 x.v.type, .string x.v.text]
theorem pitm_len (x : PItm) : x.cells.length = 8 := rfl
def SlPItms (w : World) (P : Nat → Prop) (v : Value) (l : List PItm) : Prop := Sl w P 8 v l.length (l.flatMap PItm.cells)
structure FacePL (w : World) (P : Nat → Prop) (vu vt vi : Value) (f : FaceP) : Prop where
  uses : SlUsesF w P vu f.uses
  types : SlTys w P vt f.types
  items : SlPItms w P vi f.items
theorem pitm_at {w : World} {P : Nat → Prop} {v : Value} {l : List PItm} (h : SlPItms w P v l) {i : Nat} {x : PItm} (hi : l[i]? = some x) : ∃ b off c, v = .slice (some ⟨b, off, none⟩) l.length c ∧ P b ∧ ∀ j u, x.cells[j]? = some u → w.cell? ⟨b, off + i * 8 + j, none⟩ = some u := by
  obtain ⟨b, off, c, e, _, _, hP, h4⟩ := Sl.thing h (by decide) (List.getElem?_eq_some_iff.1 hi).1
  refine ⟨b, off, c, e, hP, fun j u hj => ?_⟩
  have hj5 : j < 8 := (List.getElem?_eq_some_iff.1 hj).1
  rw [Nat.add_assoc]
  exact h4 j u hj5 (by rw [flatF_at pitm_len l i j x hi hj5]; exact hj)
theorem FacePL.keep {w w' : World} {P : Nat → Prop} {vu vt vi : Value} {ls : List Nat} {f : FaceP} (h : FacePL w P vu vt vi f) (hw : Wr ls w w') (hP : ∀ b, P b → b ∉ ls) : FacePL w' P vu vt vi f := ⟨Sl.keep h.uses hw hP, h.types.keep hw hP, Sl.keep h.items hw hP⟩
theorem FacePL.wr0 {w w' : World} {P : Nat → Prop} {vu vt vi : Value} {f : FaceP} (h : FacePL w P vu vt vi f) (hw : Wr [] w w') : FacePL w' P vu vt vi f := h.keep hw (fun _ _ => by simp)
theorem FacePL.forms {w : World} {P : Nat → Prop} {vu vt vi : Value} {f : FaceP} (h : FacePL w P vu vt vi f) : (∃ A k, vu = .slice A f.uses.length k ∧ f.uses.length ≤ k ∧ k ≤ maxLen) ∧ (∃ A k, vt = .slice A f.types.length k ∧ f.types.length ≤ k ∧ k ≤ maxLen) ∧ ∃ A k, vi = .slice A f.items.length k ∧ f.items.length ≤ k ∧ k ≤ maxLen := ⟨Sl.form h.uses, h.types.form, Sl.form h.items⟩
set_option maxRecDepth 100000 in
set_option maxHeartbeats 1000000 in
theorem any_0 (n t : Int) (x : ByteArray) (w : World) : Calls Try.prog 18 #[.agg #[.int .u8 0, .int .i64 n, .int .i64 t, .string x]] w fun e w' => e = .returned (.nilIface) ∧ Wr [] w w' := by
  go_enter Try.func18, Try.ntmps18
  go_wp2_with fail
  go_ret
  exact ⟨rfl, (Wr.refl _ _).alloc _⟩
set_option maxRecDepth 100000 in
set_option maxHeartbeats 1000000 in
theorem any_1 (n t : Int) (x : ByteArray) (w : World) : Calls Try.prog 18 #[.agg #[.int .u8 1, .int .i64 n, .int .i64 t, .string x]] w fun e w' => e = .returned (.iface 94 (.int .i64 n)) ∧ Wr [] w w' := by
  go_enter Try.func18, Try.ntmps18
  go_wp2_with fail
  go_ret
  exact ⟨rfl, (Wr.refl _ _).alloc _⟩
set_option maxRecDepth 100000 in
set_option maxHeartbeats 1000000 in
theorem any_2 (n t : Int) (x : ByteArray) (w : World) : Calls Try.prog 18 #[.agg #[.int .u8 2, .int .i64 n, .int .i64 t, .string x]] w fun e w' => e = .returned (.iface 95 (.int .u8 (n % 256))) ∧ Wr [] w w' := by
  have e1 : IntKind.u8.wrap n = n % 256 := IntKind.wrap_u8 n
  go_enter Try.func18, Try.ntmps18
  go_wp2_with fail
  go_ret
  exact ⟨rfl, (Wr.refl _ _).alloc _⟩
set_option maxRecDepth 100000 in
set_option maxHeartbeats 1000000 in
theorem any_3 (n t : Int) (x : ByteArray) (w : World) : Calls Try.prog 18 #[.agg #[.int .u8 3, .int .i64 n, .int .i64 t, .string x]] w fun e w' => e = .returned (.iface 96 (.bool (decide (n % 2 ≠ 0)))) ∧ Wr [] w w' := by
  have e1 : (n.tmod 2 != 0) = decide (n % 2 ≠ 0) := by
    have k : n.tmod 2 = 0 ↔ n % 2 = 0 := ⟨fun h => Int.emod_eq_zero_of_dvd (Int.dvd_of_tmod_eq_zero h), fun h => Int.tmod_eq_zero_of_dvd (Int.dvd_of_emod_eq_zero h)⟩
    by_cases h : n % 2 = 0
    · simp [k.2 h, h]
    · have h2 : n.tmod 2 ≠ 0 := fun e => h (k.1 e)
      simp [h, h2]
  generalize decide (n % 2 ≠ 0) = tt at *
  go_enter Try.func18, Try.ntmps18
  go_wp2_with fail
  go_ret
  exact ⟨rfl, (Wr.refl _ _).alloc _⟩
set_option maxRecDepth 100000 in
set_option maxHeartbeats 1000000 in
theorem any_4 (n t : Int) (x : ByteArray) (w : World) : Calls Try.prog 18 #[.agg #[.int .u8 4, .int .i64 n, .int .i64 t, .string x]] w fun e w' => e = .returned (.iface 97 (.int .u16 (n % 65536))) ∧ Wr [] w w' := by
  have e1 : IntKind.u16.wrap n = n % 65536 := by simp [IntKind.wrap, IntKind.bits, IntKind.signed]
  go_enter Try.func18, Try.ntmps18
  go_wp2_with fail
  go_ret
  exact ⟨rfl, (Wr.refl _ _).alloc _⟩
set_option maxRecDepth 100000 in
set_option maxHeartbeats 1000000 in
theorem any_5 (n t : Int) (x : ByteArray) (w : World) : Calls Try.prog 18 #[.agg #[.int .u8 5, .int .i64 n, .int .i64 t, .string x]] w fun e w' => e = .returned (.iface 98 (.string x)) ∧ Wr [] w w' := by
  go_enter Try.func18, Try.ntmps18
  go_wp2_with fail
  go_ret
  exact ⟨rfl, (Wr.refl _ _).alloc _⟩
set_option maxRecDepth 100000 in
set_option maxHeartbeats 1000000 in
theorem any_6 (n t : Int) (x : ByteArray) (w : World) : Calls Try.prog 18 #[.agg #[.int .u8 6, .int .i64 n, .int .i64 t, .string x]] w fun e w' => e = .returned (.iface 79 (.agg #[.int .i64 t, .int .i64 n])) ∧ Wr [] w w' := by
  go_enter Try.func18, Try.ntmps18
  go_wp2_with fail
  go_ret
  exact ⟨rfl, (Wr.refl _ _).alloc _⟩
set_option maxRecDepth 100000 in
set_option maxHeartbeats 1000000 in
theorem any_7 (n t : Int) (x : ByteArray) (w : World) : Calls Try.prog 18 #[.agg #[.int .u8 7, .int .i64 n, .int .i64 t, .string x]] w fun e w' => e = .returned (.iface 100 (.agg #[])) ∧ Wr [] w w' := by
  go_enter Try.func18, Try.ntmps18
  go_wp2_with fail
  go_ret
  exact ⟨rfl, (Wr.refl _ _).alloc _⟩
set_option maxRecDepth 100000 in
set_option maxHeartbeats 1000000 in
theorem any_8 (s n t : Int) (x : ByteArray) (h0 : 8 ≤ s) (w : World) : Calls Try.prog 18 #[.agg #[.int .u8 s, .int .i64 n, .int .i64 t, .string x]] w fun e w' => e = .returned (.iface 9 (.string ⟨#[110, 111, 110, 101]⟩)) ∧ Wr [] w w' := by
  have d0 : (s == 0) = false := by simp; omega
  have d1 : (s == 1) = false := by simp; omega
  have d2 : (s == 2) = false := by simp; omega
  have d3 : (s == 3) = false := by simp; omega
  have d4 : (s == 4) = false := by simp; omega
  have d5 : (s == 5) = false := by simp; omega
  have d6 : (s == 6) = false := by simp; omega
  have d7 : (s == 7) = false := by simp; omega
  go_enter Try.func18, Try.ntmps18
  go_wp2_with fail
  go_ret
  exact ⟨rfl, (Wr.refl _ _).alloc _⟩
theorem any_any (v : PVal) (h0 : 0 ≤ v.sort) (w : World) : Calls Try.prog 18 #[.agg #[.int .u8 v.sort, .int .i64 v.n, .int .i64 v.type, .string v.text]] w fun e w' => e = .returned (anyOf v).val ∧ Wr [] w w' := by
  obtain ⟨s, n, t, x⟩ := v
  simp only at h0 ⊢
  rcases Int.lt_or_le s 8 with h | h
  · have : s = 0 ∨ s = 1 ∨ s = 2 ∨ s = 3 ∨ s = 4 ∨ s = 5 ∨ s = 6 ∨ s = 7 := by omega
    rcases this with rfl | rfl | rfl | rfl | rfl | rfl | rfl | rfl
    · exact any_0 n t x w
    · exact any_1 n t x w
    · exact any_2 n t x w
    · exact any_3 n t x w
    · exact any_4 n t x w
    · exact any_5 n t x w
    · exact any_6 n t x w
    · exact any_7 n t x w
  · have e : anyOf ⟨s, n, t, x⟩ = .other := by
      unfold anyOf
      simp only
      rw [if_neg (by omega), if_neg (by omega), if_neg (by omega), if_neg (by omega), if_neg (by omega), if_neg (by omega), if_neg (by omega), if_neg (by omega)]
    rw [e]
    exact any_8 s n t x h w
end Go.Proofs.Ytjanbpchedgoiaa
