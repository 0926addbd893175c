/- order's needs: walked. No conditions. -/
import Derived.Test.YtfeeeogkkajefaaLkJo
namespace Go.Proofs.Ytfeeeogkkajefaa
open Go.RowKit
set_option linter.unusedVariables false
set_option linter.unusedSimpArgs false

theorem allOf_snoc (l : List NeedD) (x : NeedD) (m : ByteArray) : allOf (l ++ [x]) m = match allOf l m with | some s => some s | none => if x.module = m then some x.needs else none := by
  unfold allOf
  rw [List.find?_append]
  cases h : l.find? (fun x => decide (x.module = m)) with
  | some y => rfl
  | none =>
    rw [Option.none_or, List.find?_cons]
    by_cases hx : x.module = m
    · simp [hx]
    · simp [hx]
theorem allOf_told (l : List NeedD) (m : ByteArray) : (allOf l m).isSome = inL m (l.map NeedD.module) := by
  unfold allOf inL
  rw [Option.isSome_map, List.any_map, Bool.eq_iff_iff, List.find?_isSome, List.any_eq_true]
  rfl
theorem twiceOf_snoc : ∀ (l : List NeedD) (seen : List ByteArray) (x : NeedD), twiceOf seen (l ++ [x]) = match twiceOf seen l with | some d => some d | none => if inL x.module (seen ++ l.map NeedD.module) then some x.module else none
  | [], seen, x => by
    simp only [List.nil_append, twiceOf, List.map_nil, List.append_nil]
  | y :: l, seen, x => by
    rw [List.cons_append]
    unfold twiceOf
    by_cases h : inL y.module seen = true
    · rw [if_pos h, if_pos h]
    · rw [if_neg h, if_neg h, twiceOf_snoc l (seen ++ [y.module]) x, List.map_cons, List.append_assoc]
      rfl
theorem twiceOf_next {l : List NeedD} {k : Nat} {x : NeedD} (h : l[k]? = some x) : twiceOf [] (l.take (k + 1)) = match twiceOf [] (l.take k) with | some d => some d | none => if (allOf (l.take k) x.module).isSome then some x.module else none := by
  rw [List.take_add_one, h, allOf_told]
  exact twiceOf_snoc (l.take k) [] x
theorem allOf_next {l : List NeedD} {k : Nat} {x : NeedD} (h : l[k]? = some x) : allOf (l.take (k + 1)) = if (allOf (l.take k) x.module).isSome then allOf (l.take k) else fun j => if j = x.module then some x.needs else allOf (l.take k) j := by
  rw [List.take_add_one, h]
  show allOf (l.take k ++ [x]) = _
  funext m
  rw [allOf_snoc]
  by_cases hs : (allOf (l.take k) x.module).isSome = true
  · rw [if_pos hs]
    cases hm : allOf (l.take k) m with
    | some s => rfl
    | none =>
      by_cases e : x.module = m
      · rw [e, hm] at hs; cases hs
      · simp only [if_neg e]
  · rw [if_neg hs]
    by_cases e : m = x.module
    · subst e
      have hn : allOf (l.take k) x.module = none := by
        cases h : allOf (l.take k) x.module with
        | none => rfl
        | some s => rw [h] at hs; exact absurd rfl hs
      simp only [hn, if_pos rfl]
    · have e' : ¬ x.module = m := fun h => e h.symm
      simp only [if_neg e, if_neg e']
      cases allOf (l.take k) m <;> rfl
def NeedD.cells (x : NeedD) (vn : Value) : List Value := [.string x.module, vn]
def SlNeeds (w : World) (P : Nat → Prop) (v : Value) (l : List NeedD) : Prop :=
  ∃ xs, Sl w P 2 v l.length xs ∧ (∀ u ∈ xs, u.oneCell' = true) ∧ ∀ i x, l[i]? = some x → ∃ vn, (∀ j u, (x.cells vn)[j]? = some u → xs[i * 2 + j]? = some u) ∧ SlStr w P vn x.needs
section
variable {w w' : World} {P Q : Nat → Prop} {v : Value}
theorem SlNeeds.keep {ls : List Nat} {l : List NeedD} (h : SlNeeds w P v l) (hw : Wr ls w w') (hP : ∀ b, P b → b ∉ ls) : SlNeeds w' P v l := by
  obtain ⟨xs, h1, h2, h3⟩ := h
  refine ⟨xs, h1.keep hw hP, h2, fun i o hi => ?_⟩
  obtain ⟨vn, e1, e2⟩ := h3 i o hi
  exact ⟨vn, e1, Sl.keep e2 hw hP⟩
theorem SlNeeds.wr0 {l : List NeedD} (h : SlNeeds w P v l) (hw : Wr [] w w') : SlNeeds w' P v l := h.keep hw (fun _ _ => by simp)
theorem SlNeeds.into {l : List NeedD} (h : SlNeeds w P v l) (hP : ∀ b, P b → b < w.heap.size → Q b) : SlNeeds w Q v l := by
  obtain ⟨xs, h1, h2, h3⟩ := h
  refine ⟨xs, h1.into hP, h2, fun i o hi => ?_⟩
  obtain ⟨vn, e1, e2⟩ := h3 i o hi
  exact ⟨vn, e1, Sl.into e2 hP⟩
theorem SlNeeds.form {l : List NeedD} (h : SlNeeds w P v l) : ∃ A c, v = .slice A l.length c ∧ l.length ≤ c ∧ c ≤ maxLen := by
  obtain ⟨xs, h1, h2, h3⟩ := h
  exact h1.form
theorem need_at {l : List NeedD} (h : SlNeeds w P v l) {i : Nat} {m : NeedD} (hi : l[i]? = some m) : ∃ b off c vn, v = .slice (some ⟨b, off, none⟩) l.length c ∧ (∀ j u, (m.cells vn)[j]? = some u → w.cell? ⟨b, off + i * 2 + j, none⟩ = some u) ∧ SlStr w P vn m.needs := by
  obtain ⟨xs, h1, h2, h3⟩ := h
  obtain ⟨vn, e1, e2⟩ := h3 i m hi
  obtain ⟨b, off, c, e, _, _, _, h4⟩ := Sl.thing h1 (by decide) (List.getElem?_eq_some_iff.1 hi).1
  refine ⟨b, off, c, vn, e, fun j u hj => ?_, e2⟩
  have hj2 : j < 2 := (List.getElem?_eq_some_iff.1 hj).1
  rw [Nat.add_assoc]
  exact h4 j u hj2 (e1 j u hj)
end
def twS (o : Option ByteArray) : ByteArray := o.getD ⟨#[]⟩
/-- What is told so far. -/
def NdAt (w : World) (P : Nat → Prop) (r : Nat) (l : List NeedD) (k : Nat) (s3 s4 : Value) (wr : World) : Prop :=
  Wr [] w wr ∧ w.heap.size ≤ r ∧ MapR wr r (fun v s => SlStr w P v s) (allOf (l.take k)) ∧ s3 = .string (twS (twiceOf [] (l.take k))) ∧ s4 = .bool (twiceOf [] (l.take k)).isSome
def NdP (w : World) (P : Nat → Prop) (l : List NeedD) (e : Ending) (w' : World) : Prop :=
  ∃ g, e = .returned (.tuple #[.map (some g), .string (twS (twiceOf [] l)), .bool (twiceOf [] l).isSome]) ∧ Wr [] w w' ∧ w.heap.size ≤ g ∧ MapR w' g (fun v s => SlStr w P v s) (allOf l)
set_option maxRecDepth 100000 in
set_option maxHeartbeats 4000000 in
theorem needs_any (l : List NeedD) (v : Value) (P : Nat → Prop) (w : World) (h : SlNeeds w P v l) : Calls Try.prog 34 #[v] w (NdP w P l) := by
  have hmm := @run_makeMap Try.prog
  obtain ⟨A, c, rfl, l1, l2⟩ := SlNeeds.form h
  unfold maxLen at l2
  have HH := Lib.hid h
  clear h
  go_enter Try.func34, Try.ntmps34
  go_wp2_with fail
  go_loopw [3, 4, 12] (fun s3 s4 s12 wr => ∃ k : Nat, k ≤ l.length ∧ s12 = .int .i64 k ∧ NdAt w P w.heap.size l k s3 s4 wr) (fun _ _ s12 _ => l.length - (intOf s12).toNat)
  case atStart => exact ⟨0, by omega, rfl, (Wr.refl [] w).alloc _, Nat.le_refl _, MapR.new w _, rfl, rfl⟩
  case round =>
    obtain ⟨k, hk, rfl, acc, _, hmap, rfl, rfl⟩ := hrel
    have ACC := Lib.hid acc
    by_cases hlt : k < l.length
    · obtain ⟨x, hx⟩ : ∃ x, l[k]? = some x := ⟨_, List.getElem?_eq_getElem hlt⟩
      obtain ⟨b, off, c, vn, e, hc, hn⟩ := need_at HH.out hx
      injection e with e1 e2 e3
      subst e1
      subst e3
      obtain ⟨An, cn, rfl, _, _⟩ := Sl.form hn
      have x0 := acc.cellOf (hc 0 _ rfl) (by simp)
      have x1 := acc.cellOf (hc 1 _ rfl) (by simp)
      simp only [Nat.add_zero] at x0
      have ht := twiceOf_next hx
      have ha := allOf_next hx
      have hmapA := hmap.keep ((Wr.refl [] wr).alloc (.cells #[.string x.module, .slice An x.needs.length cn] 40)) (by simp)
      obtain ⟨vl, hl, hl1, hl2⟩ := MapR.look2 Try.underlying81 Try.underlying9 hmapA x.module Try.zeroValue25
      have acc2 := acc.alloc (.cells #[.string x.module, .slice An x.needs.length cn] 40)
      have hlti : (k : Int) < (l.length : Int) := by omega
      have hk0 : (0 : Int) ≤ (k : Int) := by omega
      cases hs : allOf (l.take k) x.module with
      | some s =>
        rw [hs] at ht ha hl
        rw [Option.isSome_some] at hl ht
        rw [if_pos rfl] at ht
        rw [Option.isSome_some, if_pos rfl] at ha
        obtain ⟨Al, cl, rfl, _, _⟩ := Sl.form (hl1 s hs)
        rw [← ha] at hmapA
        have HMAP := Lib.hid hmapA
        have ACC2 := Lib.hid acc2
        cases htw : twiceOf [] (l.take k) with
        | some d =>
          rw [htw] at ht
          have HT := Lib.hid ht
          clear ht ha hl1 hl2 hx hc hn e2 hmap hmapA acc acc2 hs htw
          unfold twS
          simp only [Option.isSome_some, Option.getD_some]
          go_wp2_with fail
          go_roundw
          case rel => exact ⟨k + 1, by omega, by go_num, ACC2.out, Nat.le_refl _, HMAP.out, by rw [HT.out]; rfl, by rw [HT.out]; rfl⟩
          case measure => simp [intOf]; omega
        | none =>
          rw [htw] at ht
          have HT := Lib.hid ht
          clear ht ha hl1 hl2 hx hc hn e2 hmap hmapA acc acc2 hs htw
          unfold twS
          simp only [Option.isSome_none, Option.getD_none]
          go_wp2_with fail
          go_roundw
          case rel => exact ⟨k + 1, by omega, by go_num, ACC2.out, Nat.le_refl _, HMAP.out, by rw [HT.out]; rfl, by rw [HT.out]; rfl⟩
          case measure => simp [intOf]; omega
      | none =>
        rw [hs] at ht ha hl
        rw [Option.isSome_none] at hl ht
        rw [Option.isSome_none, if_neg (by decide)] at ha
        have ht2 : twiceOf [] (l.take (k + 1)) = twiceOf [] (l.take k) := by rw [ht]; cases twiceOf [] (l.take k) <;> rfl
        have hvl := hl2 hs
        subst hvl
        obtain ⟨w3, hu, k3, hmap3⟩ := MapR.upd Try.underlying81 Try.underlying9 hmapA x.module (.slice An x.needs.length cn) x.needs hn
        rw [← ha] at hmap3
        have acc3 := acc2.new k3 (Nat.le_refl _)
        have HMAP := Lib.hid hmap3
        have ACC3 := Lib.hid acc3
        have HT := Lib.hid ht2
        clear ht ha hl1 hl2 hx hc hn e2 hmap hmapA acc acc2 acc3 hs ht2 k3 hmap3
        generalize hq : twiceOf [] (l.take k) = tw at *
        have HQ := Lib.hid hq
        clear hq
        cases tw with
        | none =>
          unfold twS
          simp only [Option.isSome_none, Option.getD_none]
          go_wp2_with fail
          go_roundw
          case rel => exact ⟨k + 1, by omega, by go_num, ACC3.out, Nat.le_refl _, HMAP.out, by rw [HT.out]; rfl, by rw [HT.out]; rfl⟩
          case measure => simp [intOf]; omega
        | some d =>
          unfold twS
          simp only [Option.isSome_some, Option.getD_some]
          go_wp2_with fail
          go_roundw
          case rel => exact ⟨k + 1, by omega, by go_num, ACC3.out, Nat.le_refl _, HMAP.out, by rw [HT.out]; rfl, by rw [HT.out]; rfl⟩
          case measure => simp [intOf]; omega
    · have hkn : k = l.length := by omega
      subst hkn
      rw [List.take_length] at *
      have HMAP := Lib.hid hmap
      clear hmap acc
      go_wp2_with fail
      go_ret3
      exact ⟨_, rfl, ACC.out, Nat.le_refl _, HMAP.out⟩
end Go.Proofs.Ytfeeeogkkajefaa
