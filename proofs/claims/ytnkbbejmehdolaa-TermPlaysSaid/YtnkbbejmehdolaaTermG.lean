/- The law TermPlays: its acts opened, and 'heavy', walked. No conditions. -/
import Derived.Test.YtnkbbejmehdolaaTermA
import Derived.Test.YtnkbbejmehdolaaArgsS
namespace Go.Proofs.Ytnkbbejmehdolaa
open Go.ChangeShapes Go.WideShapes Go.ChangeAt Go.RowKit Go.Deep
set_option linter.unusedVariables false

/-- A slice of acts: act i does d i with the string s i. -/
def IsActs (w : World) (v : Value) : Prop :=
  ∃ (a : Option Addr) (len cap : Nat) (D : Nat → Int) (S : Nat → ByteArray), v = .slice a len cap ∧ len ≤ cap ∧ cap ≤ maxLen ∧
    ∀ i, i < len → 0 ≤ D i ∧ D i ≤ 255 ∧ (S i).size ≤ maxLen ∧ ∃ b off, a = some ⟨b, off, none⟩ ∧ w.cell? ⟨b, off + i * 2, none⟩ = some (.int .u8 (D i)) ∧ w.cell? ⟨b, off + i * 2 + 1, none⟩ = some (.string (S i))

theorem open_acts {H : Type} {enc : TypeId × Value → H} {W : World} {r : Reach} {b0 : Nat} {v : Value} {d : DataW H} {p : List MemPlace}
    (hv : Value.okWide Try.prog W r b0 22 v) (h : DataW.Trod enc Try.prog W 0 (fun _ => true) true 22 v d p) : IsActs W v := by
  obtain ⟨a, len, cap, rfl⟩ := okWide_slice Try.underlying22 hv
  obtain ⟨fuel, hf⟩ := h
  rcases open_slice_fields Try.underlying22 Try.underlying30 (by kernel_rfl) (by kernel_rfl) hf with hcs | ⟨x, l, c, m, hcs, hl, hm, hmm, hi⟩
  · simp [Value.cells] at hcs
    obtain ⟨rfl, rfl, rfl⟩ := hcs
    exact ⟨_, _, _, fun _ => 0, fun _ => ⟨#[]⟩, rfl, by omega, by simp, fun i hi => absurd hi (by omega)⟩
  · simp [Value.cells] at hcs
    obtain ⟨rfl, rfl, rfl⟩ := hcs
    have hlm : len ≤ m := by rw [hmm]; split <;> omega
    have hh : ∀ i, i < len → ∃ (q : Int × ByteArray), 0 ≤ q.1 ∧ q.1 ≤ 255 ∧ q.2.size ≤ maxLen ∧ ∃ b off, some x = some ⟨b, off, none⟩ ∧ W.cell? ⟨b, off + i * 2, none⟩ = some (.int .u8 q.1) ∧ W.cell? ⟨b, off + i * 2 + 1, none⟩ = some (.string q.2) := by
      intro i hil
      obtain ⟨n, hf⟩ := hi i (by omega)
      obtain ⟨v0, y0, hc0, ht0⟩ := hf 0 _ rfl
      obtain ⟨v1, y1, hc1, ht1⟩ := hf 1 _ rfl
      obtain ⟨z, hz, _, hw⟩ := DataW.trod_int Try.underlying5 ht0
      obtain ⟨s, hs, _, hsl⟩ := DataW.trod_string Try.underlying9 ht1
      simp only [List.cons.injEq, and_true] at hz hs
      subst hz hs
      obtain ⟨z0, z1⟩ := Go.bounds_u8 hw
      obtain ⟨n', hf'⟩ := hi 0 (by omega)
      obtain ⟨b, off, spot⟩ := x
      have hspot : spot = none := by
        obtain ⟨v2, y2, hc2, _⟩ := hf' 0 _ rfl
        simpa [Addr.add] using World.cell?_spot hc2
      subst hspot
      refine ⟨(z, s), z0, z1, hsl, b, off, rfl, ?_, ?_⟩
      · simpa [Addr.add_lit] using hc0
      · simpa [Addr.add_lit, Nat.add_assoc] using hc1
    refine ⟨_, len, cap, fun i => if h : i < len then (Classical.choose (hh i h)).1 else 0, fun i => if h : i < len then (Classical.choose (hh i h)).2 else ⟨#[]⟩, rfl, hl, hm, fun i hil => ?_⟩
    have := Classical.choose_spec (hh i hil)
    simpa [hil] using this

/-- What 'heavy' says. -/
def HeavySays (s : ByteArray) (len : Nat) (S : Nat → ByteArray) (w : World) (e : Ending) (w' : World) : Prop :=
  w = w' ∧ (e = .returned (.bool true) ∨ (e = .returned (.bool false) ∧ s.size ≤ 8192 ∧ len ≤ 300 ∧ ∀ i, i < len → (S i).size ≤ 2048))

set_option maxHeartbeats 1000000 in
/-- 'heavy': whatever it answers; where it answers false, all is small. -/
theorem term_heavy (w : World) (s : ByteArray) (hs : s.size ≤ maxLen) (a : Option Addr) (len cap : Nat) (D : Nat → Int) (S : Nat → ByteArray) (hl : len ≤ cap) (hc : cap ≤ maxLen)
    (hx : ∀ i, i < len → (S i).size ≤ maxLen ∧ ∃ b off, a = some ⟨b, off, none⟩ ∧ w.cell? ⟨b, off + i * 2 + 1, none⟩ = some (.string (S i))) :
    Calls Try.prog 7 #[.string s, .slice a len cap] w (HeavySays s len S w) := by
  unfold maxLen at hs hc
  by_cases h1 : 8192 < s.size
  · go_enter Try.func7, Try.ntmps7
    go_wp2
    go_ret
    exact ⟨rfl, .inl rfl⟩
  by_cases h2 : 300 < len
  · go_enter Try.func7, Try.ntmps7
    go_wp2
    go_ret
    exact ⟨rfl, .inl rfl⟩
  go_enter Try.func7, Try.ntmps7
  go_wp2
  go_loop [5] (fun i => ∃ k : Nat, k ≤ len ∧ i = .int .i64 k ∧ ∀ j, j < k → (S j).size ≤ 2048) (fun i => len - (intOf i).toNat)
  case atStart => exact ⟨0, Nat.zero_le _, rfl, fun j hj => absurd hj (by omega)⟩
  case round =>
    obtain ⟨k, hk, rfl, hall⟩ := hrel
    have Hall := Lib.hid hall
    clear hall
    by_cases hlt : k < len
    · obtain ⟨hsz, b, off, rfl, hcell⟩ := hx k hlt
      unfold maxLen at hsz
      clear hx
      by_cases hbig : 2048 < (S k).size
      · go_wp2
        go_ret
        exact ⟨rfl, .inl rfl⟩
      · go_wp2
        go_round
        case rel => exact ⟨k + 1, by omega, by go_num, fun j hj => by
          by_cases hjk : j = k
          · subst hjk; omega
          · exact Hall.out j (by omega)⟩
        case measure => simp [intOf]; omega
    · go_wp2
      go_ret
      exact ⟨rfl, .inr ⟨rfl, by omega, by omega, fun i hi => Hall.out i (by omega)⟩⟩
end Go.Proofs.Ytnkbbejmehdolaa
