/- A slice of calls, opened. No conditions. -/
import Derived.Test.YtofkjcdpnkfcnaaMemE
import Derived.Test.YtofkjcdpnkfcnaaArgsS
namespace Go.Proofs.Ytofkjcdpnkfcnaa
open Go.ChangeShapes Go.WideShapes Go.ChangeAt Go.RowKit Go.Deep
set_option linter.unusedVariables false

/-- Does Move, or Clear, do anything? -/
def moveB (y x n m : Int) : Bool := decide (0 ≤ n) && (hasB y n m && hasB x n m)
def clearB (x n m : Int) : Bool := decide (0 ≤ n) && hasB x n m

theorem mem_move_any (w : World) (b : Nat) (m : Int) (f : Nat → Int) (h : MemAt w b m f) (m0 : 0 ≤ m) (m1 : m ≤ 65535) (y x n : Int) (hy : -9223372036854775808 ≤ y ∧ y ≤ 9223372036854775807) (hx : -9223372036854775808 ≤ x ∧ x ≤ 9223372036854775807) (q : Bool) (hq : moveB y x n m = q) :
    Calls Try.prog 16 #[.pointer (some ⟨b, 0, none⟩), .int .i64 y, .int .i64 x, .int .i64 n] w fun e w' => e = .returned (.bool q) ∧ Wr [b] w w' ∧ MemAt w' b m (bif q then upds f (y.toNat - 1) n.toNat (fun j => f (x.toNat - 1 + j)) else f) := by
  unfold moveB at hq
  by_cases hn : 0 ≤ n
  · rw [decide_eq_true hn, Bool.true_and] at hq
    cases q with
    | true => exact mem_move_ok w b m f h m0 m1 y x n hn hq
    | false => exact (mem_move_no w b m f h m0 m1 y x n hn hy.1 hy.2 hx.1 hx.2 hq).mono fun e w' ⟨he, hr⟩ => ⟨he, hr.nil, h.wr0 hr⟩
  · rw [decide_eq_false hn, Bool.false_and] at hq
    subst hq
    exact (mem_move_neg w b m f h y x n (by omega)).mono fun e w' ⟨he, hr⟩ => ⟨he, hr.nil, h.wr0 hr⟩

theorem mem_clear_any (w : World) (b : Nat) (m : Int) (f : Nat → Int) (h : MemAt w b m f) (m0 : 0 ≤ m) (m1 : m ≤ 65535) (x n : Int) (hx : -9223372036854775808 ≤ x ∧ x ≤ 9223372036854775807) (q : Bool) (hq : clearB x n m = q) :
    Calls Try.prog 17 #[.pointer (some ⟨b, 0, none⟩), .int .i64 x, .int .i64 n] w fun e w' => e = .returned (.bool q) ∧ Wr [b] w w' ∧ MemAt w' b m (bif q then upds f (x.toNat - 1) n.toNat (fun _ => 0) else f) := by
  unfold clearB at hq
  by_cases hn : 0 ≤ n
  · rw [decide_eq_true hn, Bool.true_and] at hq
    cases q with
    | true => exact mem_clear_ok w b m f h m0 m1 x n hn hq
    | false => exact (mem_clear_no w b m f h m0 m1 x n hn hx.1 hx.2 hq).mono fun e w' ⟨he, hr⟩ => ⟨he, hr.nil, h.wr0 hr⟩
  · rw [decide_eq_false hn, Bool.false_and] at hq
    subst hq
    exact (mem_clear_neg w b m f h x n (by omega)).mono fun e w' ⟨he, hr⟩ => ⟨he, hr.nil, h.wr0 hr⟩

theorem moveB_yes {y x n m : Int} (h : moveB y x n m = true) : 0 ≤ n ∧ 1 ≤ y ∧ y + n ≤ m + 1 ∧ 1 ≤ x ∧ x + n ≤ m + 1 := by
  simp [moveB, hasB] at h
  omega
theorem clearB_yes {x n m : Int} (h : clearB x n m = true) : 0 ≤ n ∧ 1 ≤ x ∧ x + n ≤ m + 1 := by
  simp [clearB, hasB] at h
  omega
theorem upds_in (f : Nat → Int) (o k : Nat) (g : Nat → Int) (j : Nat) (h1 : o ≤ j) (h2 : j < o + k) : upds f o k g j = g (j - o) := by unfold upds; rw [if_pos ⟨h1, h2⟩]
theorem upds_out (f : Nat → Int) (o k : Nat) (g : Nat → Int) (j : Nat) (h : j < o ∨ o + k ≤ j) : upds f o k g j = f j := by unfold upds; rw [if_neg (by omega)]
theorem upd_in (f : Nat → Int) (i : Nat) (v : Int) : upd f i v i = v := by simp [upd]
theorem upd_out (f : Nat → Int) (i j : Nat) (v : Int) (h : j ≠ i) : upd f i v j = f j := by simp [upd, h]

/-- One call: what it does, where, to where, how many, with which word. -/
structure CallOf where
  d : Int
  x : Int
  y : Int
  n : Int
  v : Int
def CallOf.ok (c : CallOf) : Prop := (0 ≤ c.d ∧ c.d ≤ 255) ∧ (-9223372036854775808 ≤ c.x ∧ c.x ≤ 9223372036854775807) ∧ (-9223372036854775808 ≤ c.y ∧ c.y ≤ 9223372036854775807) ∧ (-9223372036854775808 ≤ c.n ∧ c.n ≤ 9223372036854775807) ∧ (0 ≤ c.v ∧ c.v ≤ 65535)

/-- The five cells of a call, from an address on. -/
def CallAt (w : World) (b o : Nat) (c : CallOf) : Prop :=
  w.cell? ⟨b, o, none⟩ = some (.int .u8 c.d) ∧ w.cell? ⟨b, o + 1, none⟩ = some (.int .i64 c.x) ∧ w.cell? ⟨b, o + 2, none⟩ = some (.int .i64 c.y) ∧ w.cell? ⟨b, o + 3, none⟩ = some (.int .i64 c.n) ∧ w.cell? ⟨b, o + 4, none⟩ = some (.int .u16 c.v)

theorem CallAt.wr {w w' : World} {b o : Nat} {c : CallOf} {l : List Nat} (h : CallAt w b o c) (hw : Wr l w w') (hb : b ∉ l) : CallAt w' b o c :=
  ⟨hw.cellOf h.1 hb, hw.cellOf h.2.1 hb, hw.cellOf h.2.2.1 hb, hw.cellOf h.2.2.2.1 hb, hw.cellOf h.2.2.2.2 hb⟩
theorem CallAt.lt {w : World} {b o : Nat} {c : CallOf} (h : CallAt w b o c) : b < w.heap.size := World.block_lt_of_cell? w _ h.1

def IsCalls (w : World) (v : Value) : Prop :=
  ∃ (a : Option Addr) (len cap : Nat) (C : Nat → CallOf), v = .slice a len cap ∧ len ≤ cap ∧ cap ≤ maxLen ∧
    ∀ i, i < len → (C i).ok ∧ ∃ b off, a = some ⟨b, off, none⟩ ∧ CallAt w b (off + i * 5) (C i)

theorem open_calls {H : Type} {enc : TypeId × Value → H} {W : World} {r : Reach} {b0 : Nat} {v : Value} {d : DataW H} {p : List MemPlace}
    (hv : Value.okWide Try.prog W r b0 22 v) (h : DataW.Trod enc Try.prog W 0 (fun _ => true) true 22 v d p) : IsCalls W v := by
  obtain ⟨a, len, cap, rfl⟩ := okWide_slice Try.underlying22 hv
  obtain ⟨fuel, hf⟩ := h
  rcases open_slice_fields Try.underlying22 Try.underlying34 (by kernel_rfl) (by kernel_rfl) hf with hcs | ⟨x, l, c, m, hcs, hl, hm, hmm, hi⟩
  · simp [Value.cells] at hcs
    obtain ⟨rfl, rfl, rfl⟩ := hcs
    exact ⟨_, _, _, fun _ => ⟨0, 0, 0, 0, 0⟩, rfl, by omega, by simp, fun i hi => absurd hi (by omega)⟩
  · simp [Value.cells] at hcs
    obtain ⟨rfl, rfl, rfl⟩ := hcs
    have hlm : len ≤ m := by rw [hmm]; split <;> omega
    have hh : ∀ i, i < len → ∃ q : CallOf, q.ok ∧ ∃ b off, some x = some ⟨b, off, none⟩ ∧ CallAt W b (off + i * 5) q := by
      intro i hil
      obtain ⟨n, hf⟩ := hi i (by omega)
      obtain ⟨v0, y0, hc0, ht0⟩ := hf 0 _ rfl
      obtain ⟨v1, y1, hc1, ht1⟩ := hf 1 _ rfl
      obtain ⟨v2, y2, hc2, ht2⟩ := hf 2 _ rfl
      obtain ⟨v3, y3, hc3, ht3⟩ := hf 3 _ rfl
      obtain ⟨v4, y4, hc4, ht4⟩ := hf 4 _ rfl
      obtain ⟨z0, e0, _, w0⟩ := DataW.trod_int Try.underlying5 ht0
      obtain ⟨z1, e1, _, w1⟩ := DataW.trod_int Try.underlying3 ht1
      obtain ⟨z2, e2, _, w2⟩ := DataW.trod_int Try.underlying3 ht2
      obtain ⟨z3, e3, _, w3⟩ := DataW.trod_int Try.underlying3 ht3
      obtain ⟨z4, e4, _, w4⟩ := DataW.trod_int Try.underlying32 ht4
      simp only [List.cons.injEq, and_true] at e0 e1 e2 e3 e4
      subst e0 e1 e2 e3 e4
      obtain ⟨b, off, spot⟩ := x
      have hspot : spot = none := by
        obtain ⟨n', hf'⟩ := hi 0 (by omega)
        obtain ⟨v2, y2, hc2, _⟩ := hf' 0 _ rfl
        simpa [Addr.add] using World.cell?_spot hc2
      subst hspot
      refine ⟨⟨z0, z1, z2, z3, z4⟩, ⟨Go.bounds_u8 w0, Go.bounds_i64 w1, Go.bounds_i64 w2, Go.bounds_i64 w3, Go.bounds_u16 w4⟩, b, off, rfl, ?_, ?_, ?_, ?_, ?_⟩
      · simpa [Addr.add_lit, Nat.add_assoc] using hc0
      · simpa [Addr.add_lit, Nat.add_assoc] using hc1
      · simpa [Addr.add_lit, Nat.add_assoc] using hc2
      · simpa [Addr.add_lit, Nat.add_assoc] using hc3
      · simpa [Addr.add_lit, Nat.add_assoc] using hc4
    refine ⟨_, len, cap, fun i => if h : i < len then Classical.choose (hh i h) else ⟨0, 0, 0, 0, 0⟩, rfl, hl, hm, fun i hil => ?_⟩
    have := Classical.choose_spec (hh i hil)
    simpa [hil] using this
end Go.Proofs.Ytofkjcdpnkfcnaa
