/- The plain law of KeyParts: sums, keys, and how keys are written. No conditions. -/
import Derived.Test.YtjanbpchedgoiaaCom
namespace Go.Proofs.Ytjanbpchedgoiaa
open Go

def stepN (h c : Nat) : Nat := ((h ^^^ c) * 1099511628211) % 18446744073709551616
def moreN (h : Nat) (l : List Nat) : Nat := l.foldl stepN h
def ofN (h : Nat) : Nat := h ^^^ (h >>> 32)

theorem stepN_lt (h c : Nat) : stepN h c < 18446744073709551616 := Nat.mod_lt _ (by decide)
theorem odd_inj {x y : Nat} (hx : x < 18446744073709551616) (hy : y < 18446744073709551616) (h : (x * 1099511628211) % 18446744073709551616 = (y * 1099511628211) % 18446744073709551616) : x = y := by
  have key : ∀ z, z < 18446744073709551616 → ((z * 1099511628211) % 18446744073709551616 * 14886173955864302971) % 18446744073709551616 = z := by
    intro z hz
    rw [Nat.mod_mul_mod, Nat.mul_assoc, show 1099511628211 * 14886173955864302971 = 1 + 887285111055 * 18446744073709551616 by decide +kernel, Nat.mul_add, Nat.mul_one, ← Nat.mul_assoc, Nat.add_mul_mod_self_right, Nat.mod_eq_of_lt hz]
  rw [← key x hx, ← key y hy, h]
theorem xor_inj_r {a b c : Nat} (h : a ^^^ c = b ^^^ c) : a = b := by
  have := congrArg (fun x => x ^^^ c) h
  simpa [Nat.xor_assoc] using this
theorem xor_inj_l {a b c : Nat} (h : c ^^^ a = c ^^^ b) : a = b := by
  rw [Nat.xor_comm c a, Nat.xor_comm c b] at h
  exact xor_inj_r h
theorem xor_lt {a c : Nat} (ha : a < 18446744073709551616) (hc : c < 256) : a ^^^ c < 18446744073709551616 :=
  Nat.xor_lt_two_pow (n := 64) ha (by omega)
theorem step_h {h h' c : Nat} (a : h < 18446744073709551616) (b : h' < 18446744073709551616) (hc : c < 256) (e : stepN h c = stepN h' c) : h = h' :=
  xor_inj_r (odd_inj (xor_lt a hc) (xor_lt b hc) e)
theorem step_c {h c c' : Nat} (a : h < 18446744073709551616) (hc : c < 256) (hc' : c' < 256) (e : stepN h c = stepN h c') : c = c' :=
  xor_inj_l (odd_inj (xor_lt a hc) (xor_lt a hc') e)
theorem moreN_lt {h : Nat} (hh : h < 18446744073709551616) (l : List Nat) : moreN h l < 18446744073709551616 := by
  induction l generalizing h with
  | nil => exact hh
  | cons c l ih => exact ih (stepN_lt h c)
theorem moreN_append (h : Nat) (l m : List Nat) : moreN h (l ++ m) = moreN (moreN h l) m := by simp [moreN, List.foldl_append]
theorem moreN_inj {l : List Nat} (hl : ∀ c ∈ l, c < 256) {h h' : Nat} (a : h < 18446744073709551616) (b : h' < 18446744073709551616) : moreN h l = moreN h' l ↔ h = h' := by
  constructor
  · induction l generalizing h h' with
    | nil => exact id
    | cons c l ih =>
      intro e
      exact step_h a b (hl c (by simp)) (ih (fun x hx => hl x (by simp [hx])) (stepN_lt h c) (stepN_lt h' c) e)
  · exact fun e => by rw [e]
/-- One byte that is another one. -/
theorem moreN_set {l : List Nat} (hl : ∀ c ∈ l, c < 256) {h : Nat} (a : h < 18446744073709551616) {k c : Nat} (hc : c < 256) (hk : k < l.length) : moreN h (l.set k c) = moreN h l ↔ c = l[k] := by
  induction l generalizing h k with
  | nil => exact absurd hk (by simp)
  | cons x l ih =>
    cases k with
    | zero =>
      rw [List.set_cons_zero]
      show moreN (stepN h c) l = moreN (stepN h x) l ↔ _
      rw [moreN_inj (fun y hy => hl y (by simp [hy])) (stepN_lt h c) (stepN_lt h x)]
      constructor
      · exact fun e => step_c a hc (hl x (by simp)) e
      · intro e
        have e' : c = x := e
        rw [e']
    | succ k =>
      rw [List.set_cons_succ]
      show moreN (stepN h x) (l.set k c) = moreN (stepN h x) l ↔ _
      have := ih (fun y hy => hl y (by simp [hy])) (stepN_lt h x) (by simpa using hk)
      simpa using this
theorem ofN_inj {a b : Nat} (ha : a < 18446744073709551616) (hb : b < 18446744073709551616) : ofN a = ofN b ↔ a = b := by
  have back : ∀ z, z < 18446744073709551616 → ofN z ^^^ (ofN z >>> 32) = z := by
    intro z hz
    have h64 : z >>> 32 >>> 32 = 0 := by
      rw [Nat.shiftRight_eq_div_pow, Nat.shiftRight_eq_div_pow]
      omega
    unfold ofN
    rw [Nat.shiftRight_xor_distrib, h64, Nat.xor_zero, Nat.xor_assoc, Nat.xor_self, Nat.xor_zero]
  constructor
  · intro e
    rw [← back a ha, ← back b hb, e]
  · exact fun e => by rw [e]

/-- A digit, as a byte. -/
def hexN (d : Nat) : UInt8 := if d < 10 then UInt8.ofNat (48 + d) else UInt8.ofNat (87 + d)
/-- A key, written: its last n digits. -/
def textN (k : Nat) : Nat → List UInt8
  | 0 => []
  | n + 1 => hexN (k / 16 ^ n % 16) :: textN k n
theorem textN_len (k : Nat) : ∀ n, (textN k n).length = n
  | 0 => rfl
  | n + 1 => by simp [textN, textN_len k n]
theorem hexN_inj : ∀ d e, d < 16 → e < 16 → hexN d = hexN e → d = e := by
  have : ∀ d e : Fin 16, hexN d = hexN e → d = e := by decide +kernel
  intro d e hd he h
  simpa using this ⟨d, hd⟩ ⟨e, he⟩ h
theorem textN_inj {a b : Nat} : ∀ n, textN a n = textN b n → a % 16 ^ n = b % 16 ^ n
  | 0, _ => by simp [Nat.mod_one]
  | n + 1, h => by
    simp only [textN, List.cons.injEq] at h
    have h1 := hexN_inj _ _ (Nat.mod_lt _ (by decide)) (Nat.mod_lt _ (by decide)) h.1
    have h2 := textN_inj n h.2
    rw [Nat.pow_succ, Nat.mod_mul, Nat.mod_mul, h1, h2]
theorem text_inj {a b : Nat} (ha : a < 18446744073709551616) (hb : b < 18446744073709551616) : textN a 16 = textN b 16 ↔ a = b := by
  constructor
  · intro h
    have := textN_inj 16 h
    rwa [show (16 : Nat) ^ 16 = 18446744073709551616 by decide +kernel, Nat.mod_eq_of_lt ha, Nat.mod_eq_of_lt hb] at this
  · exact fun e => by rw [e]
end Go.Proofs.Ytjanbpchedgoiaa
