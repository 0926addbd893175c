/- types.New, walked. No conditions. -/
import Derived.Test.YtcpgkeceefoljaaTyJ
namespace Go.Proofs.Ytcpgkeceefoljaa
open Go.RowKit
set_option linter.unusedVariables false
set_option linter.unusedSimpArgs false

theorem flatMap_at {α β : Type} (f : α → List β) (k : Nat) (hk : ∀ x, (f x).length = k) : ∀ (l : List α) (i j : Nat) (x : α), l[i]? = some x → j < k → (l.flatMap f)[i * k + j]? = (f x)[j]?
  | [], i, j, x, h, _ => by simp at h
  | y :: l, 0, j, x, h, hj => by
    simp only [List.getElem?_cons_zero, Option.some.injEq] at h
    subst h
    rw [List.flatMap_cons, List.getElem?_append_left (by rw [hk]; omega), Nat.zero_mul, Nat.zero_add]
  | y :: l, i + 1, j, x, h, hj => by
    rw [List.getElem?_cons_succ] at h
    rw [List.flatMap_cons, List.getElem?_append_right (by rw [hk, Nat.add_mul]; omega), hk, show (i + 1) * k + j - k = i * k + j from by rw [Nat.add_mul]; omega]
    exact flatMap_at f k hk l i j x h hj
theorem flatMap_len {α β : Type} (f : α → List β) (k : Nat) (hk : ∀ x, (f x).length = k) (l : List α) : (l.flatMap f).length = l.length * k := by
  induction l with
  | nil => simp
  | cons y l ih => rw [List.flatMap_cons, List.length_append, hk, ih, List.length_cons, Nat.add_mul]; omega

/-- A type with no lists. -/
def Ty.bare (k : Int) (nm : ByteArray) (base high : Int) : Ty := ⟨k, ⟨#[]⟩, nm, base, 0, 0, high, [], [], [], [], 0⟩
/-- The types that are always there. -/
def tys0 : List Ty := [.bare 0 ⟨#[]⟩ 0 0, .bare 1 ⟨#[73, 78, 84, 69, 71, 69, 82]⟩ 0 0, .bare 2 ⟨#[67, 65, 82, 68, 73, 78, 65, 76]⟩ 0 0, .bare 3 ⟨#[66, 79, 79, 76, 69, 65, 78]⟩ 0 0, .bare 4 ⟨#[67, 72, 65, 82]⟩ 0 0, .bare 5 ⟨#[]⟩ 0 0, .bare 6 ⟨#[]⟩ 0 0, .bare 7 ⟨#[]⟩ 0 0, .bare 9 ⟨#[]⟩ 2 15, .bare 13 ⟨#[66, 73, 84, 83, 69, 84]⟩ 8 0]
def Ty.flat (t : Ty) : List Value := t.cells (.slice .none 0 0) (.slice .none 0 0) (.slice .none 0 0) (.slice .none 0 0)
def cells0 : List Value := tys0.flatMap Ty.flat

set_option maxRecDepth 100000 in
theorem mk10 (w : World) : (Instr.makeSlice 45 (.int .i64 10) (.int .i64 10)).run Try.prog w = .ok (.slice (some ⟨w.heap.size, 0, none⟩) 10 10) (w.alloc (.cells #[Value.int .u8 0, .string ⟨#[]⟩, .string ⟨#[]⟩, .int .i64 0, .int .i64 0, .int .i64 0, .int .i64 0, .slice none 0 0, .slice none 0 0, .slice none 0 0, .slice none 0 0, .int .i64 0, Value.int .u8 0, .string ⟨#[]⟩, .string ⟨#[]⟩, .int .i64 0, .int .i64 0, .int .i64 0, .int .i64 0, .slice none 0 0, .slice none 0 0, .slice none 0 0, .slice none 0 0, .int .i64 0, Value.int .u8 0, .string ⟨#[]⟩, .string ⟨#[]⟩, .int .i64 0, .int .i64 0, .int .i64 0, .int .i64 0, .slice none 0 0, .slice none 0 0, .slice none 0 0, .slice none 0 0, .int .i64 0, Value.int .u8 0, .string ⟨#[]⟩, .string ⟨#[]⟩, .int .i64 0, .int .i64 0, .int .i64 0, .int .i64 0, .slice none 0 0, .slice none 0 0, .slice none 0 0, .slice none 0 0, .int .i64 0, Value.int .u8 0, .string ⟨#[]⟩, .string ⟨#[]⟩, .int .i64 0, .int .i64 0, .int .i64 0, .int .i64 0, .slice none 0 0, .slice none 0 0, .slice none 0 0, .slice none 0 0, .int .i64 0, Value.int .u8 0, .string ⟨#[]⟩, .string ⟨#[]⟩, .int .i64 0, .int .i64 0, .int .i64 0, .int .i64 0, .slice none 0 0, .slice none 0 0, .slice none 0 0, .slice none 0 0, .int .i64 0, Value.int .u8 0, .string ⟨#[]⟩, .string ⟨#[]⟩, .int .i64 0, .int .i64 0, .int .i64 0, .int .i64 0, .slice none 0 0, .slice none 0 0, .slice none 0 0, .slice none 0 0, .int .i64 0, Value.int .u8 0, .string ⟨#[]⟩, .string ⟨#[]⟩, .int .i64 0, .int .i64 0, .int .i64 0, .int .i64 0, .slice none 0 0, .slice none 0 0, .slice none 0 0, .slice none 0 0, .int .i64 0, Value.int .u8 0, .string ⟨#[]⟩, .string ⟨#[]⟩, .int .i64 0, .int .i64 0, .int .i64 0, .int .i64 0, .slice none 0 0, .slice none 0 0, .slice none 0 0, .slice none 0 0, .int .i64 0, Value.int .u8 0, .string ⟨#[]⟩, .string ⟨#[]⟩, .int .i64 0, .int .i64 0, .int .i64 0, .int .i64 0, .slice none 0 0, .slice none 0 0, .slice none 0 0, .slice none 0 0, .int .i64 0] 31)) := by kernel_rfl

set_option maxRecDepth 100000 in
set_option maxHeartbeats 4000000 in
theorem new_run (w : World) : Calls Try.prog 7 #[] w fun e w' => e = .returned (.pointer (some ⟨w.heap.size + 1, 0, none⟩)) ∧
    (w.alloc (.cells #[Value.int .u8 0, .string ⟨#[]⟩, .string ⟨#[]⟩, .int .i64 0, .int .i64 0, .int .i64 0, .int .i64 0, .slice none 0 0, .slice none 0 0, .slice none 0 0, .slice none 0 0, .int .i64 0, Value.int .u8 1, .string ⟨#[]⟩, .string ⟨#[73, 78, 84, 69, 71, 69, 82]⟩, .int .i64 0, .int .i64 0, .int .i64 0, .int .i64 0, .slice none 0 0, .slice none 0 0, .slice none 0 0, .slice none 0 0, .int .i64 0, Value.int .u8 2, .string ⟨#[]⟩, .string ⟨#[67, 65, 82, 68, 73, 78, 65, 76]⟩, .int .i64 0, .int .i64 0, .int .i64 0, .int .i64 0, .slice none 0 0, .slice none 0 0, .slice none 0 0, .slice none 0 0, .int .i64 0, Value.int .u8 3, .string ⟨#[]⟩, .string ⟨#[66, 79, 79, 76, 69, 65, 78]⟩, .int .i64 0, .int .i64 0, .int .i64 0, .int .i64 0, .slice none 0 0, .slice none 0 0, .slice none 0 0, .slice none 0 0, .int .i64 0, Value.int .u8 4, .string ⟨#[]⟩, .string ⟨#[67, 72, 65, 82]⟩, .int .i64 0, .int .i64 0, .int .i64 0, .int .i64 0, .slice none 0 0, .slice none 0 0, .slice none 0 0, .slice none 0 0, .int .i64 0, Value.int .u8 5, .string ⟨#[]⟩, .string ⟨#[]⟩, .int .i64 0, .int .i64 0, .int .i64 0, .int .i64 0, .slice none 0 0, .slice none 0 0, .slice none 0 0, .slice none 0 0, .int .i64 0, Value.int .u8 6, .string ⟨#[]⟩, .string ⟨#[]⟩, .int .i64 0, .int .i64 0, .int .i64 0, .int .i64 0, .slice none 0 0, .slice none 0 0, .slice none 0 0, .slice none 0 0, .int .i64 0, Value.int .u8 7, .string ⟨#[]⟩, .string ⟨#[]⟩, .int .i64 0, .int .i64 0, .int .i64 0, .int .i64 0, .slice none 0 0, .slice none 0 0, .slice none 0 0, .slice none 0 0, .int .i64 0, Value.int .u8 9, .string ⟨#[]⟩, .string ⟨#[]⟩, .int .i64 2, .int .i64 0, .int .i64 0, .int .i64 15, .slice none 0 0, .slice none 0 0, .slice none 0 0, .slice none 0 0, .int .i64 0, Value.int .u8 13, .string ⟨#[]⟩, .string ⟨#[66, 73, 84, 83, 69, 84]⟩, .int .i64 8, .int .i64 0, .int .i64 0, .int .i64 0, .slice none 0 0, .slice none 0 0, .slice none 0 0, .slice none 0 0, .int .i64 0] 31)).alloc (.cells #[.slice (some ⟨w.heap.size, 0, none⟩) 10 10] 71) = w' := by
  have hmk := mk10
  go_enter Try.func7, Try.ntmps7
  go_wp2_with fail
  go_ret
  exact ⟨rfl, rfl⟩

theorem bare_room (k : Int) (nm : ByteArray) (b h : Int) : (Ty.bare k nm b h).room := ⟨by simp [Ty.bare], by simp [Ty.bare], by simp [Ty.bare], by simp [Ty.bare], by simp [Ty.bare]⟩
theorem bare_lists (w : World) (P : Nat → Prop) (k : Int) (nm : ByteArray) (b h : Int) : Lists w P (.slice .none 0 0) (.slice .none 0 0) (.slice .none 0 0) (.slice .none 0 0) (Ty.bare k nm b h) :=
  ⟨Sl.nil w P 1, Sl.nil w P 3, SlArms.nil w P, Sl.nil w P 2⟩
theorem tys0_all (Q : Ty → Prop) (h : ∀ k nm b h, Q (Ty.bare k nm b h)) : ∀ ty ∈ tys0, Q ty := by
  intro ty hm
  simp only [tys0, List.mem_cons, List.not_mem_nil, or_false] at hm
  rcases hm with rfl | rfl | rfl | rfl | rfl | rfl | rfl | rfl | rfl | rfl <;> exact h _ _ _ _
theorem flat_len (t : Ty) : t.flat.length = 12 := rfl
theorem flat_one (l : List Ty) : ∀ u ∈ l.flatMap Ty.flat, u.oneCell' = true := by
  intro u hu
  simp only [List.mem_flatMap] at hu
  obtain ⟨x, _, hx⟩ := hu
  simp only [Ty.flat, Ty.cells, List.mem_cons, List.not_mem_nil, or_false] at hx
  rcases hx with rfl | rfl | rfl | rfl | rfl | rfl | rfl | rfl | rfl | rfl | rfl | rfl <;> rfl

/-- A table that was just made. -/
def NewP (T : TypeId) (w : World) (e : Ending) (w' : World) : Prop :=
  ∃ t v L, e = .returned (.pointer (some ⟨t, 0, none⟩)) ∧ Wr [] w w' ∧ Tab T w' t v L w.heap.size tys0 ∧ (∀ x ∈ L, w.heap.size ≤ x)
theorem tab0 (T : TypeId) (w : World) : Tab T ((w.alloc (.cells cells0.toArray 31)).alloc (.cells #[.slice (some ⟨w.heap.size, 0, none⟩) 10 10] T)) (w.heap.size + 1) (.slice (some ⟨w.heap.size, 0, none⟩) 10 10) [w.heap.size, w.heap.size + 1] w.heap.size tys0 := by
  refine ⟨?_, ⟨cells0, ?_, flat_one _, fun i ty hi => ⟨_, _, _, _, fun j u hj => ?_, tys0_all (fun ty => Lists _ _ (.slice .none 0 0) (.slice .none 0 0) (.slice .none 0 0) (.slice .none 0 0) ty) (fun k nm b h => bare_lists _ _ k nm b h) ty (List.mem_of_getElem? hi)⟩⟩, by simp, ?_, tys0_all _ bare_room, ?_⟩
  · have := Blk.new (w.alloc (.cells cells0.toArray 31)) T #[.slice (some ⟨w.heap.size, 0, none⟩) 10 10]
    simpa using this
  · exact (World.ownsRow_lit w cells0.toArray 10 (Nat.le_refl _) (by simp only [maxLen]; omega) (by rw [List.size_toArray]; exact flatMap_len Ty.flat 12 flat_len tys0)).alloc _
  · have hj' : j < 12 := by
      have := (List.getElem?_eq_some_iff.1 hj).1
      exact this
    exact (flatMap_at Ty.flat 12 flat_len tys0 i j ty hi hj').trans hj
  · intro k hk
    have : w.heap.size = k := by simpa [Value.ownBlock] using hk
    simp [this]
  · intro x hx
    simp only [List.mem_cons, List.not_mem_nil, or_false] at hx
    simp only [World.size_alloc]
    omega
theorem new_any (w : World) : Calls Try.prog 7 #[] w (NewP 71 w) := by
  refine (new_run w).mono ?_
  rintro e w' ⟨rfl, rfl⟩
  refine ⟨_, _, _, rfl, ?_, tab0 71 w, ?_⟩
  · exact ((Wr.refl [] w).alloc _).alloc _
  · intro x hx
    simp only [List.mem_cons, List.not_mem_nil, or_false] at hx
    omega
end Go.Proofs.Ytcpgkeceefoljaa
