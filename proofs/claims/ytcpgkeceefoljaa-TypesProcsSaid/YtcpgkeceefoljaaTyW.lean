/- A table that the call itself made; law 11's works: walked. No conditions. -/
import Derived.Test.YtcpgkeceefoljaaTyV
namespace Go.Proofs.Ytcpgkeceefoljaa
open Go.RowKit
set_option linter.unusedVariables false
set_option linter.unusedSimpArgs false

/-- A table that was made since the world was w0. -/
def TabN (w0 w : World) (t : Nat) (tys : List Ty) : Prop := ∃ v L, Tab 71 w t v L w0.heap.size tys ∧ (∀ x ∈ L, w0.heap.size ≤ x) ∧ Wr [] w0 w
def AddN (w0 : World) (t : Nat) (tys : List Ty) (n : Int) (e : Ending) (w' : World) : Prop := e = .returned (.tuple #[.int .i64 n, .int .i64 0]) ∧ TabN w0 w' t tys
def NewN (w0 : World) (e : Ending) (w' : World) : Prop := ∃ t, e = .returned (.pointer (some ⟨t, 0, none⟩)) ∧ TabN w0 w' t tys0
/-- An answer that leaves the table. -/
def AnsN (w0 w : World) (t : Nat) (tys : List Ty) (x : Value) (e : Ending) (w' : World) : Prop := e = .returned x ∧ TabN w0 w' t tys ∧ Wr [] w w'
theorem ownsRow_mono {w : World} {base base' size n : Nat} {e : TypeId} {v : Value} {xs : List Value} (h : w.ownsRow base e size v n xs) (hb : base' ≤ base) : w.ownsRow base' e size v n xs := by
  refine ⟨h.1, ?_⟩
  rcases h.2 with h0 | ⟨b, cap, cur, e1, e2, e3⟩
  · exact .inl h0
  · exact .inr ⟨b, cap, cur, e1, Nat.le_trans hb e2, e3⟩
section
variable {w0 w w' : World} {t : Nat} {tys : List Ty}
theorem TabN.wr0 (h : TabN w0 w t tys) (hw : Wr [] w w') : TabN w0 w' t tys := by
  obtain ⟨v, L, h1, h2, h3⟩ := h
  exact ⟨v, L, h1.wr0 hw, h2, h3.trans hw⟩
theorem TabN.wr (h : TabN w0 w t tys) : Wr [] w0 w := by
  obtain ⟨v, L, h1, h2, h3⟩ := h
  exact h3
theorem newN (hw : Wr [] w0 w) : Calls Try.prog 7 #[] w (NewN w0) := by
  refine (new_any w).mono ?_
  rintro e w' ⟨t, v, L, rfl, r, hT, hL⟩
  have hz := hw.size
  refine ⟨t, rfl, v, L, ⟨hT.blk, ?_, hT.tin, hT.rin, hT.room, hT.lin⟩, fun x hx => Nat.le_trans hz (hL x hx), hw.trans r⟩
  obtain ⟨xs, ho, h1, h2⟩ := hT.row
  exact ⟨xs, ownsRow_mono ho hz, h1, h2⟩
theorem addN (h : TabN w0 w t tys) (ty : Ty) (vn vf va vp : Value) (P : Nat → Prop) (hl : Lists w P vn vf va vp ty) (hm : mayB ty.kind = true) (hr : ty.room) (n : Int) (hn : (tys.length : Int) = n) (hn2 : n < 1024) :
    Calls Try.prog 8 #[.pointer (some ⟨t, 0, none⟩), ty.val vn vf va vp] w (AddN w0 t (tys ++ [ty]) n) := by
  obtain ⟨v, L, h1, h2, h3⟩ := h
  refine (add_yes w t v L _ tys h1 ty vn vf va vp P hl hm (by omega) hr h3.size).mono ?_
  rintro e w' ⟨v', L', rfl, r, hT, g1, g2, g3⟩
  have hz := h3.size
  refine ⟨by rw [hn], v', L', hT, fun x hx => ?_, h3.trans' r (fun x hx => .inr ?_)⟩
  · rcases g2 x hx with k | k
    · exact h2 x k
    · omega
  · rcases List.mem_cons.1 hx with k | k
    · rw [k]; exact h2 _ h1.tin
    · exact h2 _ (h1.rin _ (mem_ownL.1 k))
theorem ansN {f : FuncId} {args : Array Value} {x : Value} (h : TabN w0 w t tys) (hc : Calls Try.prog f args w fun e w' => e = .returned x ∧ Wr [] w w') : Calls Try.prog f args w (AnsN w0 w t tys x) :=
  hc.mono fun e w' ⟨he, r⟩ => ⟨he, h.wr0 r, r⟩
theorem lenN (h : TabN w0 w t tys) (n : Int) (hn : (tys.length : Int) = n) : Calls Try.prog 13 #[.pointer (some ⟨t, 0, none⟩)] w (AnsN w0 w t tys (.int .i64 n)) := by
  have h' := h
  obtain ⟨v, L, h1, h2, h3⟩ := h
  rw [← hn]
  exact ansN h' (len_any w t v L _ tys h1)
theorem compN (h : TabN w0 w t tys) (a b : Int) (x : Bool) (hx : compB tys false a b = x) (ha : (tyOf tys a).kind ≠ 16) : Calls Try.prog 10 #[.pointer (some ⟨t, 0, none⟩), .int .i64 a, .int .i64 b] w (AnsN w0 w t tys (.bool x)) := by
  have h' := h
  obtain ⟨v, L, h1, h2, h3⟩ := h
  rw [← hx]
  exact ansN h' (compat_any w t v L _ tys h1 false a b (fun e => absurd e ha))
theorem numN (h : TabN w0 w t tys) (a : Int) (x : Bool) (hx : numB tys a = x) : Calls Try.prog 23 #[.pointer (some ⟨t, 0, none⟩), .int .i64 a] w (AnsN w0 w t tys (.bool x)) := by
  have h' := h
  obtain ⟨v, L, h1, h2, h3⟩ := h
  rw [← hx]
  exact ansN h' (number_any w t v L _ tys h1 a)
theorem baseN (h : TabN w0 w t tys) (a : Int) (x : Int) (hx : baseOf tys a = x) : Calls Try.prog 20 #[.pointer (some ⟨t, 0, none⟩), .int .i64 a] w (AnsN w0 w t tys (.int .i64 x)) := by
  have h' := h
  obtain ⟨v, L, h1, h2, h3⟩ := h
  rw [← hx]
  exact ansN h' (base_any w t v L _ tys h1 a)
end
def tyPtr : Ty := ⟨14, ⟨#[]⟩, ⟨#[]⟩, 1, 0, 0, 0, [], [], [], [], 0⟩
def tysW : List Ty := tys0 ++ [tyPtr]
theorem charN {w0 w : World} {t : Nat} (h : TabN w0 w t tysW) : Calls Try.prog 11 #[.pointer (some ⟨t, 0, none⟩), .int .i64 4, .int .i64 6, txA] w (AnsN w0 w t tysW (.bool true)) := by
  have h' := h
  obtain ⟨v, L, h1, h2, h3⟩ := h
  exact ansN h' (assign_char w t v L _ tysW h1 4 6 (by decide) (by decide) (by decide) (by decide) (by decide) (by decide) (by decide) (by decide))
theorem listsW (w : World) (P : Nat → Prop) (k b i l h : Int) : Lists w P (.slice none 0 0) (.slice none 0 0) (.slice none 0 0) (.slice none 0 0) ⟨k, ⟨#[]⟩, ⟨#[]⟩, b, i, l, h, [], [], [], [], 0⟩ :=
  ⟨Sl.nil w P 1, Sl.nil w P 3, SlArms.nil w P, Sl.nil w P 2⟩
theorem roomW (k b i l h : Int) : (Ty.mk k ⟨#[]⟩ ⟨#[]⟩ b i l h [] [] [] [] 0).room := ⟨by simp, by simp, by simp, by simp, by simp⟩

set_option maxRecDepth 100000 in
set_option maxHeartbeats 4000000 in
theorem works_any (w : World) : Calls Try.prog 6 #[] w fun e w' => e = .returned (.bool true) ∧ Wr [] w w' := by
  have mk := @mkIface 69 rfl
  go_enter Try.func6, Try.ntmps6
  go_wp2_with fail
  refine (newN (Wr.refl [] w)).mono ?_
  rintro e w1 ⟨t, rfl, h1⟩
  go_wp2_with fail
  refine (addN h1 tyPtr _ _ _ _ (fun _ => True) (listsW _ _ _ _ _ _ _) (by decide) (roomW _ _ _ _ _) 10 (by decide) (by decide)).mono ?_
  clear h1
  rintro e w2 ⟨rfl, h2⟩
  go_wp2_with fail
  refine (lenN (tys := tysW) h2 11 (by decide)).mono ?_
  clear h2
  rintro e w3 ⟨rfl, h3, _⟩
  go_wp2_with fail
  refine (charN h3).mono ?_
  clear h3
  rintro e w4 ⟨rfl, h4, _⟩
  go_wp2_with fail
  refine (compN h4 5 2 true (by decide) (by decide)).mono ?_
  clear h4
  rintro e w5 ⟨rfl, h5, _⟩
  go_wp2_with fail
  refine (compN h5 10 7 true (by decide) (by decide)).mono ?_
  clear h5
  rintro e w6 ⟨rfl, h6, _⟩
  go_wp2_with fail
  refine (compN h6 10 1 false (by decide) (by decide)).mono ?_
  clear h6
  rintro e w7 ⟨rfl, h7, _⟩
  go_wp2_with fail
  refine (numN h7 8 true (by decide)).mono ?_
  clear h7
  rintro e w8 ⟨rfl, h8, _⟩
  go_wp2_with fail
  refine (baseN h8 8 2 (by decide)).mono ?_
  clear h8
  rintro e w9 ⟨rfl, h9, _⟩
  go_wp2_with fail
  go_ret
  exact ⟨rfl, h9.wr⟩
end Go.Proofs.Ytcpgkeceefoljaa
