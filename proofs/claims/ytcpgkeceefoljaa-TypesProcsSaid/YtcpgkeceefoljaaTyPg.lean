/- Procedure types, as plain data; their parameters, appended. No conditions. -/
import Derived.Test.YtcpgkeceefoljaaTyPf
import Derived.Test.YtcpgkeceefoljaaTyCw
namespace Go.Proofs.Ytcpgkeceefoljaa
open Go.RowKit
set_option linter.unusedVariables false
set_option linter.unusedSimpArgs false

def parU (n : Int) : Par := ⟨bits .and .u8 n 1 == 1, 1 + (n / 2) % 4⟩
def parsU (zs : List Int) (m : Nat) : List Par := (List.range m).map fun i => parU (zs.getD i 0)
theorem parsU_succ (zs : List Int) (m : Nat) : parsU zs (m + 1) = parsU zs m ++ [parU (zs.getD m 0)] := by
  simp [parsU, List.range_succ]
theorem parsU_len (zs : List Int) (m : Nat) : (parsU zs m).length = m := by simp [parsU]
def Par14 (l : List Par) : Prop := ∀ q ∈ l, 1 ≤ q.type ∧ q.type ≤ 4
theorem parsU_14 (zs : List Int) (m : Nat) : Par14 (parsU zs m) := by
  intro q hq
  simp only [parsU, List.mem_map] at hq
  obtain ⟨i, _, rfl⟩ := hq
  simp only [parU]
  omega
def tyQ (ps : List Par) (r : Int) : Ty := ⟨16, ⟨#[]⟩, ⟨#[]⟩, 0, 0, 0, 0, [], [], [], ps, r⟩
def tysQ (ps qs : List Par) (r : Int) : List Ty := tys0 ++ [tyQ ps 3] ++ [tyQ ps 3] ++ [tyQ qs r]
section
variable (ps qs : List Par) (r : Int)
theorem tysQ_10 : tyOf (tysQ ps qs r) 10 = tyQ ps 3 := rfl
theorem tysQ_11 : tyOf (tysQ ps qs r) 11 = tyQ ps 3 := rfl
theorem tysQ_12 : tyOf (tysQ ps qs r) 12 = tyQ qs r := rfl
theorem tysQ_low (k : Int) (h : 1 ≤ k ∧ k ≤ 4) : (tyOf (tysQ ps qs r) k).kind = k := by
  have : k = 1 ∨ k = 2 ∨ k = 3 ∨ k = 4 := by omega
  rcases this with h | h | h | h <;> subst h <;> rfl
theorem told_of {l m : List Par} (hl : Par14 l) (hm : Par14 m) : Told (tysQ ps qs r) l m := by
  intro a ha b hb
  rw [tysQ_low ps qs r _ (hl a ha), tysQ_low ps qs r _ (hm b hb)]
  have := hl a ha
  exact ⟨by omega, fun h => h⟩
theorem comp_of {a b : Int} (al : Bool) (hab : a ≠ b) (ha : (tyOf (tysQ ps qs r) a).kind = 16) (hb : (tyOf (tysQ ps qs r) b).kind = 16) : compB (tysQ ps qs r) al a b = al := by
  have b1 : baseOf (tysQ ps qs r) a = a := by simp [baseOf, ha]
  have b2 : baseOf (tysQ ps qs r) b = b := by simp [baseOf, hb]
  have k1 : kindOf (tysQ ps qs r) a = 16 := by simp [kindOf, b1, ha]
  have k2 : kindOf (tysQ ps qs r) b = 16 := by simp [kindOf, b2, hb]
  have hh : holdsK 16 16 16 = false := by decide
  simp [compB, holdsB, ha, hb, b1, b2, k1, k2, hh, hab]
end
/-- append([]Param(nil), l...). -/
theorem append_all (base : Nat) (P : Nat → Prop) (v : Value) (l : List Par) (W : World) (h : SlPars W P v l) (hn : l.length < 1099511627776) (hb : base ≤ W.heap.size) :
    ∃ v' w', (Builtin.append_ #[29, 29] 29 #[.slice none 0 0, v]).run Try.prog W = .ok v' w' ∧ w'.ownsRow base 33 2 v' l.length (l.flatMap Par.cells) ∧ Wr [] W w' ∧ (∀ k, v'.ownBlock = some k → W.heap.size ≤ k) := by
  obtain ⟨i0, hi0, hz0, hz1, hz2⟩ := info_parts info_par
  obtain ⟨v', w', hrun, hown, hg, hat⟩ := run_append_sl (P := Try.prog) W base 29 29 33 i0 _ 2 16 Try.underlying29 hi0 hz0 hz1 hz2 rfl (by omega)
    (.slice none 0 0) 0 [] (World.ownsRow_nil _ _ _ _) P v l.length _ h (one_pars l) (by simp only [maxLen]; omega) (by omega) hb
  rw [Nat.zero_add, List.nil_append] at hown
  refine ⟨v', w', hrun, hown, Wr.ofGrown hg (fun k hk => by cases hk), fun k hk => ?_⟩
  rcases hat with e | e
  · rw [e] at hk
    cases hk
  · rw [e] at hk
    cases hk
    exact Nat.le_refl _
theorem copy_pars (wr : World) (Ao : Option Addr) (co n : Nat) (ps : List Par) (hl : ps.length = n) (hn : n ≤ 1000) (b0 : Nat) (ox : wr.ownsRow b0 33 2 (.slice Ao n co) n (ps.flatMap Par.cells)) (C : Array Value) :
    ∃ (Ay : Option Addr) (cy : Nat) (W2 : World), (Builtin.append_ #[29, 29] 29 #[.slice none 0 0, .slice Ao n co]).run Try.prog (wr.alloc (.cells C 31)) = .ok (.slice Ay n cy) W2 ∧ Wr [] wr W2 ∧ Blk W2 wr.heap.size 31 C ∧
      W2.ownsRow (wr.heap.size + 1) 33 2 (.slice Ay n cy) n (ps.flatMap Par.cells) ∧ n ≤ cy ∧ cy ≤ maxLen := by
  have S0 : SlPars (wr.alloc (.cells C 31)) (fun _ => True) (.slice Ao n co) ps := by
    have := Sl.wr0 (Sl.ofOwn ox (fun _ _ => trivial) : Sl wr (fun _ => True) 2 _ n _) ((Wr.refl [] wr).alloc (.cells C 31))
    unfold SlPars
    rw [hl]
    exact this
  obtain ⟨vy, W2, hrun1, ho1, rr1, hk1⟩ := append_all (wr.heap.size + 1) (fun _ => True) (.slice Ao n co) ps (wr.alloc (.cells C 31)) S0 (by omega) (by simp)
  rw [hl] at ho1
  obtain ⟨Ay, cy, hvy, ly1, ly2⟩ := Sl.form (P := fun _ => True) (Sl.ofOwn ho1 (fun _ _ => trivial))
  subst hvy
  exact ⟨Ay, cy, W2, hrun1, ((Wr.refl [] wr).alloc _).trans rr1, (Blk.new wr 31 C).wr0 rr1, ho1, ly1, ly2⟩
/-- A cell of a block is set: what becomes of it, and of the rest. -/
theorem set_ten {w : World} {g : Nat} {v u : Value} {r : Int} (h : Blk w g 31 #[.int .u8 16, .string ⟨#[]⟩, .string ⟨#[]⟩, .int .i64 0, .int .i64 0, .int .i64 0, .int .i64 0, .slice none 0 0, .slice none 0 0, .slice none 0 0, u, .int .i64 r]) : Blk (w.setCell ⟨g, 10, none⟩ v) g 31 #[.int .u8 16, .string ⟨#[]⟩, .string ⟨#[]⟩, .int .i64 0, .int .i64 0, .int .i64 0, .int .i64 0, .slice none 0 0, .slice none 0 0, .slice none 0 0, v, .int .i64 r] := by
  have := h.set_ 10 v
  simpa using this
theorem Sl.put {w : World} {P : Nat → Prop} {size n g off c : Nat} {xs : List Value} (h : Sl w P size (.slice (some ⟨g, off, none⟩) n c) n xs) (i : Nat) (u : Value) (hi : i < xs.length) :
    Sl (w.setCell ⟨g, off + i, none⟩ u) P size (.slice (some ⟨g, off, none⟩) n c) n (xs.set i u) := by
  obtain ⟨A, k, hv, h1, h2, h3, h4⟩ := h
  simp only [Value.slice.injEq, true_and] at hv
  obtain ⟨rfl, rfl⟩ := hv
  refine ⟨_, _, rfl, h1, h2, by simp [h3], fun j u' hj => ?_⟩
  rw [List.getElem?_set] at hj
  by_cases hij : i = j
  · subst hij
    rw [if_pos rfl, if_pos hi] at hj
    cases hj
    obtain ⟨b, o, e, hP, hc⟩ := h4 i _ (List.getElem?_eq_getElem hi)
    simp only [Option.some.injEq, Addr.mk.injEq, and_true] at e
    obtain ⟨rfl, rfl⟩ := e
    exact ⟨_, _, rfl, hP, World.cell?_setCell_same' _ _ _ (by rw [hc]; rfl)⟩
  · rw [if_neg hij] at hj
    obtain ⟨b, o, e, hP, hc⟩ := h4 j u' hj
    simp only [Option.some.injEq, Addr.mk.injEq, and_true] at e
    obtain ⟨rfl, rfl⟩ := e
    refine ⟨_, _, rfl, hP, (World.cell?_setCell_other _ _ _ _ ?_).trans hc⟩
    simp only [ne_eq, Addr.mk.injEq, true_and, and_true]
    omega
theorem flat_set (q : Par) : ∀ (l : List Par) (k : Nat), k < l.length → (l.set k q).flatMap Par.cells = ((l.flatMap Par.cells).set (k * 2) (.bool q.var)).set (k * 2 + 1) (.int .i64 q.type)
  | [], _, h => absurd h (by simp)
  | x :: l, 0, _ => by simp [Par.cells]
  | x :: l, k + 1, h => by
    have ih := flat_set q l k (by simpa using h)
    have e1 : (k + 1) * 2 = k * 2 + 1 + 1 := by omega
    rw [List.set_cons_succ, List.flatMap_cons, List.flatMap_cons, ih, e1]
    simp [Par.cells]
theorem flat_at (l : List Par) (k : Nat) (q : Par) (h : l[k]? = some q) : (l.flatMap Par.cells)[k * 2]? = some (.bool q.var) ∧ (l.flatMap Par.cells)[k * 2 + 1]? = some (.int .i64 q.type) := by
  induction l generalizing k with
  | nil => simp at h
  | cons x l ih =>
    cases k with
    | zero =>
      simp at h
      subst h
      simp [Par.cells]
    | succ k =>
      have := ih k (by simpa using h)
      rw [List.flatMap_cons, show (k + 1) * 2 = k * 2 + 1 + 1 by omega]
      simpa [Par.cells] using this
theorem flat_len2 (l : List Par) : (l.flatMap Par.cells).length = l.length * 2 := by
  induction l with
  | nil => rfl
  | cons x l ih =>
    rw [List.flatMap_cons, List.length_append, ih]
    simp [Par.cells]
    omega
theorem own_soft {w : World} {base size n gz c : Nat} {e : TypeId} {v : Value} {xs : List Value} (h : w.ownsRow base e size v n xs) (hv : v = .slice (some ⟨gz, 0, none⟩) n c) (i : Nat) : w.frozen? ⟨gz, i, none⟩ = false := by
  subst hv
  rcases h.2 with ⟨h0, _⟩ | ⟨b, cap, cur, e1, e2, e3, _⟩
  · cases h0
  · simp only [Value.slice.injEq, Option.some.injEq, Addr.mk.injEq, and_true] at e1
    obtain ⟨rfl, _⟩ := e1
    simp [World.frozen?, e3]
/-- Behind the switch. -/
def PrCut (w1 : World) (ps : List Par) (j h g2 g3 : Nat) (vx vy : Value) (s11 : Value) (wx : World) : Prop := ∃ (zp : List Par) (zr : Int) (vz : Value) (zl : List Nat),
  s11 = .pointer (some ⟨g3, 0, none⟩) ∧ Wr [] w1 wx ∧ Blk wx h 31 #[.int .u8 16, .string ⟨#[]⟩, .string ⟨#[]⟩, .int .i64 0, .int .i64 0, .int .i64 0, .int .i64 0, .slice none 0 0, .slice none 0 0, .slice none 0 0, vx, .int .i64 3] ∧ Blk wx g2 31 #[.int .u8 16, .string ⟨#[]⟩, .string ⟨#[]⟩, .int .i64 0, .int .i64 0, .int .i64 0, .int .i64 0, .slice none 0 0, .slice none 0 0, .slice none 0 0, vy, .int .i64 3] ∧ Blk wx g3 31 #[.int .u8 16, .string ⟨#[]⟩, .string ⟨#[]⟩, .int .i64 0, .int .i64 0, .int .i64 0, .int .i64 0, .slice none 0 0, .slice none 0 0, .slice none 0 0, vz, .int .i64 zr] ∧
  wx.ownsRow (h + 1) 33 2 vx j (ps.flatMap Par.cells) ∧ (∀ k, vx.ownBlock = some k → k < g2) ∧ wx.ownsRow (g2 + 1) 33 2 vy j (ps.flatMap Par.cells) ∧ (∀ k, vy.ownBlock = some k → k < g3) ∧
  SlPars wx (fun b => b ∈ zl) vz zp ∧ (∀ b ∈ zl, g3 < b ∧ b < wx.heap.size) ∧ Par14 zp ∧ zp.length ≤ 21 ∧ ¬(zr = 3 ∧ zp = ps)
def PrAt (w1 : World) (zs : List Int) (n h : Nat) (s9 : Value) (wr : World) : Prop :=
  ∃ (j : Nat) (v : Value), j ≤ n ∧ s9 = .int .i64 j ∧ Wr [] w1 wr ∧ Blk wr h 31 #[.int .u8 16, .string ⟨#[]⟩, .string ⟨#[]⟩, .int .i64 0, .int .i64 0, .int .i64 0, .int .i64 0, .slice none 0 0, .slice none 0 0, .slice none 0 0, v, .int .i64 3] ∧ wr.ownsRow (h + 1) 33 2 v j ((parsU zs j).flatMap Par.cells)
end Go.Proofs.Ytcpgkeceefoljaa
