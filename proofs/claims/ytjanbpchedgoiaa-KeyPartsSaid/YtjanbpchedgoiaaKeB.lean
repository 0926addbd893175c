/- key's Begin, More, Of, Text: walked. Conditions: the strings are no longer than memory. -/
import Derived.Test.YtjanbpchedgoiaaKeA
import Derived.Laws.Bits64
namespace Go.Proofs.Ytjanbpchedgoiaa
open Go.RowKit
set_option linter.unusedVariables false
set_option linter.unusedSimpArgs false

def natsOf (s : ByteArray) : List Nat := s.data.toList.map UInt8.toNat
theorem natsOf_len (s : ByteArray) : (natsOf s).length = s.size := by
  unfold natsOf
  rw [List.length_map, Array.length_toList]
  rfl
theorem natsOf_lt (s : ByteArray) : ∀ c ∈ natsOf s, c < 256 := by
  intro c hc
  simp only [natsOf, List.mem_map] at hc
  obtain ⟨b, _, rfl⟩ := hc
  exact b.toNat_lt
theorem natsOf_take (s : ByteArray) (k : Nat) (hk : k < s.size) : (natsOf s).take (k + 1) = (natsOf s).take k ++ [(s[k]'hk).toNat] := by
  have hl : k < (natsOf s).length := by rw [natsOf_len]; exact hk
  rw [List.take_add_one, List.getElem?_eq_getElem hl]
  have : (natsOf s)[k] = (s[k]'hk).toNat := by
    simp only [natsOf, List.getElem_map, Array.getElem_toList]
    rfl
  rw [this]
  rfl
theorem begin_any (w : World) : Calls Try.prog 7 #[] w fun e w' => e = .returned (.int .u64 14695981039346656037) ∧ w = w' := by
  go_enter Try.func7, Try.ntmps7
  go_wp2_with fail
  go_ret
  exact ⟨rfl, rfl⟩
theorem moreN_one (h c : Nat) : moreN h [c] = stepN h c := by
  unfold moreN
  rw [List.foldl_cons, List.foldl_nil]
theorem moreN_snoc (h : Nat) (l : List Nat) (c : Nat) : moreN h (l ++ [c]) = stepN (moreN h l) c := by
  rw [moreN_append, moreN_one]
theorem step_eq (a c : Nat) (ha : a < 18446744073709551616) (hc : c < 256) : IntKind.u64.wrap (bits .xor .u64 (a : Int) (c : Int) * 1099511628211) = ((stepN a c : Nat) : Int) := by
  rw [Go.bits_xor_u64_nat a c ha (by omega)]
  rw [IntKind.wrap_u64]
  unfold stepN
  generalize a ^^^ c = x
  omega
set_option maxHeartbeats 1000000 in
theorem more_any (h : Nat) (hh : h < 18446744073709551616) (s : ByteArray) (hs : s.size ≤ maxLen) (w : World) :
    Calls Try.prog 6 #[.int .u64 (h : Int), .string s] w fun e w' => e = .returned (.int .u64 ((moreN h (natsOf s) : Nat) : Int)) ∧ w = w' := by
  unfold maxLen at hs
  go_enter Try.func6, Try.ntmps6
  go_wp2_with fail
  go_loop [0, 8] (fun t i => ∃ k : Nat, k ≤ s.size ∧ i = .int .i64 k ∧ t = .int .u64 ((moreN h ((natsOf s).take k) : Nat) : Int)) (fun _ i => s.size - (intOf i).toNat)
  case atStart => exact ⟨0, by omega, rfl, rfl⟩
  case round =>
    obtain ⟨k, hk, rfl, rfl⟩ := hrel
    by_cases hlt : k < s.size
    · have hlti : (k : Int) < (s.size : Int) := by omega
      have ha := moreN_lt hh ((natsOf s).take k)
      have hm : moreN h ((natsOf s).take (k + 1)) = stepN (moreN h ((natsOf s).take k)) (s[k]'hlt).toNat := by
        rw [natsOf_take s k hlt, moreN_snoc]
      have hst := step_eq (moreN h ((natsOf s).take k)) (s[k]'hlt).toNat ha (s[k]'hlt).toNat_lt
      rw [← hm] at hst
      generalize hma : moreN h ((natsOf s).take k) = a at *
      generalize hmb : moreN h ((natsOf s).take (k + 1)) = b at *
      have hc0 : (0 : Int) ≤ ((s[k]'hlt).toNat : Int) := by omega
      have hc1 : ((s[k]'hlt).toNat : Int) ≤ 255 := by have := (s[k]'hlt).toNat_lt; omega
      have hmb' := hmb
      clear hma hmb hm ha
      go_wp2_with fail
      exact ⟨⟨k + 1, by omega, rfl, by rw [hmb']⟩, by show s.size - ((k + 1 : Nat) : Int).toNat < s.size - (k : Int).toNat; omega⟩
    · have hks : k = s.size := by omega
      subst hks
      have hl : (natsOf s).take s.size = natsOf s := List.take_of_length_le (by rw [natsOf_len]; omega)
      rw [hl]
      go_wp2_with fail
      go_ret
      exact ⟨rfl, rfl⟩
set_option maxHeartbeats 1000000 in
theorem of_any (s : ByteArray) (hs : s.size ≤ maxLen) (w : World) :
    Calls Try.prog 9 #[.string s] w fun e w' => e = .returned (.int .u64 ((ofN (moreN 14695981039346656037 (natsOf s)) : Nat) : Int)) ∧ w = w' := by
  have hb := fun w => begin_any w
  have hm := fun w => more_any 14695981039346656037 (by decide) s hs w
  have hlt := moreN_lt (h := 14695981039346656037) (by decide) (natsOf s)
  generalize moreN 14695981039346656037 (natsOf s) = x at *
  go_enter Try.func9, Try.ntmps9
  go_wp2_with fail
  refine (hb _).mono ?_
  rintro e w1 ⟨rfl, rfl⟩
  go_wp2_with fail
  refine (hm _).mono ?_
  rintro e w1 ⟨rfl, rfl⟩
  have hx : bits .xor .u64 (x : Int) ((x : Int) / (4294967296 : Int)) = ((ofN x : Nat) : Int) := by
    have e : (x : Int) / (4294967296 : Int) = ((x >>> 32 : Nat) : Int) := by
      rw [Nat.shiftRight_eq_div_pow]
      omega
    rw [e, Go.bits_xor_u64_nat x (x >>> 32) hlt (by rw [Nat.shiftRight_eq_div_pow]; omega)]
    rfl
  go_wp2_with fail
  go_ret
  exact ⟨rfl, rfl⟩
theorem cons_str (a : UInt8) (l : List UInt8) : (⟨#[a]⟩ : ByteArray) ++ ⟨l.toArray⟩ = ⟨(a :: l).toArray⟩ := by
  apply ByteArray.ext
  rw [ByteArray.data_append]
  simp
def textS (k : Nat) : ByteArray := ⟨(textN k 16).toArray⟩
set_option maxHeartbeats 1000000 in
theorem digit_any (k : Nat) (hk : k < 18446744073709551616) (i : Nat) (hi : i < 16) (p : Nat) (w : World) (hc : w.cell? ⟨p, 0, none⟩ = some (.int .u64 (k : Int))) :
    Calls Try.prog 16 #[.int .i64 (i : Int), .pointer (some ⟨p, 0, none⟩)] w fun e w' => e = .returned (.string ⟨#[hexN (k / 16 ^ i % 16)]⟩) ∧ w = w' := by
  have hd : bits .and .u64 ((k : Int) / 2 ^ (4 * i)) 15 = ((k / 16 ^ i % 16 : Nat) : Int) := by
    have e1 : (2 : Nat) ^ (4 * i) = 16 ^ i := by rw [Nat.pow_mul]
    have e2 : (k : Int) / 2 ^ (4 * i) = ((k / 16 ^ i : Nat) : Int) := by
      rw [← e1, Int.natCast_ediv, Int.natCast_pow]
      try rfl
    have hq : k / 16 ^ i < 18446744073709551616 := Nat.lt_of_le_of_lt (Nat.div_le_self _ _) hk
    have e3 := Go.bits_and_u64_nat (k / 16 ^ i) 15 hq (by decide)
    rw [e2]
    refine Eq.trans e3 ?_
    have e4 := Nat.and_two_pow_sub_one_eq_mod (k / 16 ^ i) 4
    rw [show (15 : Nat) = 2 ^ 4 - 1 by decide, e4]
  have hd16 : k / 16 ^ i % 16 < 16 := Nat.mod_lt _ (by decide)
  have hs : ∀ d : Fin 16, ((⟨#[48, 49, 50, 51, 52, 53, 54, 55, 56, 57, 97, 98, 99, 100, 101, 102]⟩ : ByteArray).extract d 16).extract 0 1 = ⟨#[hexN d]⟩ := by decide +kernel
  generalize k / 16 ^ i % 16 = d at *
  have hs' := hs ⟨d, hd16⟩
  have d0 : (0 : Int) ≤ (d : Int) := by omega
  have d1 : (d : Int) ≤ 16 := by omega
  have d2 : (1 : Int) ≤ ((16 - d : Nat) : Int) := by omega
  clear hs
  go_enter Try.func16, Try.ntmps16
  go_wp2_with fail
  go_ret
  exact ⟨rfl, rfl⟩
set_option maxHeartbeats 1000000 in
theorem text_any (k : Nat) (hk : k < 18446744073709551616) (w : World) :
    Calls Try.prog 8 #[.int .u64 (k : Int)] w fun e w' => e = .returned (.string (textS k)) ∧ Wr [] w w' := by
  have hen : ∀ args w, (callFunc 16 args).run Try.prog w = .ok (.enter 16 args) w := fun args w => rfl
  have hmf : ∀ (fn : Fn) (first cap : Array Value) (w : World), (Instr.makeFunc fn first cap).run Try.prog w = .ok (.func fn first cap) w := fun _ _ _ _ => rfl
  have hc : (w.alloc (.cells #[.int .u64 (k : Int)] 23)).cell? ⟨w.heap.size, 0, none⟩ = some (.int .u64 (k : Int)) := (Blk.new w _ _).cell 0
  have hd := fun i hi => digit_any k hk i hi w.heap.size _ hc
  have acc := (Wr.refl [] w).alloc (.cells #[.int .u64 (k : Int)] 23)
  go_enter Try.func8, Try.ntmps8
  go_wp2_with fail
  generalize w.alloc (.cells #[.int .u64 (k : Int)] 23) = w0 at *
  go_loop [2, 6] (fun t i => ∃ n : Nat, n ≤ 16 ∧ i = .int .i64 n ∧ t = .string ⟨(textN k n).toArray⟩) (fun _ i => 16 - (intOf i).toNat)
  case atStart => exact ⟨0, by omega, rfl, rfl⟩
  case round =>
    obtain ⟨n, hn, rfl, rfl⟩ := hrel
    by_cases hlt : n < 16
    · have hdn := hd n hlt
      have hlti : (n : Int) < 16 := by omega
      have hl : (⟨(textN k n).toArray⟩ : ByteArray).size = n := by
        show (textN k n).toArray.size = n
        rw [List.size_toArray, textN_len]
      clear hd hc
      go_wp2_with fail
      refine (hdn).mono ?_
      rintro e w1 ⟨rfl, rfl⟩
      go_wp2_with fail
      exact ⟨⟨n + 1, by omega, rfl, by rw [cons_str]; rfl⟩, by show 16 - ((n + 1 : Nat) : Int).toNat < 16 - (n : Int).toNat; omega⟩
    · have hns : n = 16 := by omega
      subst hns
      go_wp2_with fail
      go_ret
      exact ⟨rfl, acc⟩
end Go.Proofs.Ytjanbpchedgoiaa
