/- Interface bytes that are read are written as they were. No conditions. -/
import Derived.Test.YtmpbkfbjmmoapaaIB01
import Derived.Test.YtmpbkfbjmmoapaaIB05
import Derived.Test.YtmpbkfbjmmoapaaIB10
namespace Go.Proofs.Ytmpbkfbjmmoapaa
set_option linter.unusedVariables false
/-- What is bad stays bad; what is read is written so. -/
structure Back {α : Type} (f : Rd → α × Rd) (enc : α → List UInt8) : Prop where
  keeps : ∀ r : Rd, r.bad = true → (f r).2.bad = true
  back : ∀ (s : List UInt8) (x : α) (r : List UInt8), f ⟨s, false⟩ = (x, ⟨r, false⟩) → s = enc x ++ r
theorem Rd.of_bad (r : Rd) (h : r.bad = false) : r = ⟨r.s, false⟩ := by
  cases r
  simp only at h
  subst h
  rfl
def Rd.seq {α β : Type} (f : Rd → α × Rd) (g : Rd → β × Rd) (r : Rd) : (α × β) × Rd := (((f r).1, (g (f r).2).1), (g (f r).2).2)
theorem Back.seq {α β : Type} {f : Rd → α × Rd} {g : Rd → β × Rd} {e : α → List UInt8} {k : β → List UInt8} (hf : Back f e) (hg : Back g k) : Back (Rd.seq f g) (fun p => e p.1 ++ k p.2) := by
  refine ⟨fun r h => hg.keeps _ (hf.keeps r h), fun s x r h => ?_⟩
  unfold Rd.seq at h
  cases hb : (f ⟨s, false⟩).2.bad with
  | true =>
    have := hg.keeps _ hb
    injection h with _ h
    rw [h] at this
    cases this
  | false =>
    injection h with h1 h2
    have e1 := hf.back s (f ⟨s, false⟩).1 (f ⟨s, false⟩).2.s (by rw [← Rd.of_bad _ hb])
    have e2 := hg.back (f ⟨s, false⟩).2.s (g (f ⟨s, false⟩).2).1 r (by rw [← Rd.of_bad _ hb, ← h2])
    rw [← h1]
    simp only
    rw [List.append_assoc, ← e2, ← e1]
theorem Back.map {α β : Type} {f : Rd → α × Rd} {e : α → List UInt8} (hf : Back f e) (g : α → β) {k : β → List UInt8} (hk : ∀ x, k (g x) = e x) : Back (fun r => (g (f r).1, (f r).2)) k := by
  refine ⟨fun r h => hf.keeps r h, fun s x r h => ?_⟩
  injection h with h1 h2
  rw [← h1, hk]
  exact hf.back s _ r (by rw [← h2])
theorem raw_keeps (n : Nat) (r : Rd) (h : r.bad = true) : (r.raw n).2.bad = true := by
  unfold Rd.raw
  rw [if_pos (.inl h)]
theorem raw_back {n : Nat} {s l r : List UInt8} (h : (Rd.mk s false).raw n = (l, ⟨r, false⟩)) : s = l ++ r ∧ l.length = n := by
  unfold Rd.raw at h
  by_cases c : (false = true ∨ s.length < n)
  · rw [if_pos c] at h; injection h with _ h; injection h with _ h; cases h
  · rw [if_neg c] at h
    injection h with h1 h2
    injection h2 with h2 _
    have : ¬ s.length < n := fun x => c (.inr x)
    rw [← h1, ← h2, List.take_append_drop, List.length_take]
    exact ⟨rfl, by show min n s.length = n; omega⟩
theorem numL_valN : ∀ (k : Nat) (l : List UInt8), l.length = k → numL (valN l) k = l ∧ valN l < 256 ^ k := by
  intro k
  induction k with
  | zero =>
    intro l hl
    rw [List.eq_nil_of_length_eq_zero hl]
    exact ⟨rfl, by decide⟩
  | succ k ih =>
    intro l hl
    have hne : l ≠ [] := by intro e; rw [e] at hl; cases hl
    have dl : l = l.dropLast ++ [l.getLast hne] := (List.dropLast_concat_getLast hne).symm
    generalize l.getLast hne = x at dl
    obtain ⟨h1, h2⟩ := ih l.dropLast (by simp [hl])
    have hx := x.toNat_lt
    generalize l.dropLast = m at dl h1 h2
    subst dl
    rw [valN_snoc, numL_snoc, show (256 * valN m + x.toNat) / 256 = valN m by omega, show (256 * valN m + x.toNat) % 256 = x.toNat by omega, h1]
    refine ⟨by rw [UInt8.ofNat_toNat], by rw [Nat.pow_succ]; omega⟩
theorem num_keeps (n : Nat) (r : Rd) (h : r.bad = true) : (r.num n).2.bad = true := raw_keeps n r h
theorem num_back {k n : Nat} {s r : List UInt8} (h : (Rd.mk s false).num k = (n, ⟨r, false⟩)) : s = numL n k ++ r ∧ n < 256 ^ k := by
  unfold Rd.num at h
  injection h with h1 h2
  obtain ⟨e1, e2⟩ := raw_back (n := k) (s := s) (l := ((Rd.mk s false).raw k).1) (r := r) (by rw [← h2])
  obtain ⟨g1, g2⟩ := numL_valN k _ e2
  rw [h1] at g1 g2
  rw [g1]
  exact ⟨e1, g2⟩
theorem num_Back (k : Nat) : Back (fun r => r.num k) (fun n => numL n k) := ⟨num_keeps k, fun s x r h => (num_back h).1⟩
theorem one_Back : Back Rd.one (fun n => numL n.toNat 1) := (num_Back 1).map (fun n => (n : Int)) (fun x => by simp)
theorem two_Back : Back Rd.two (fun n => numL n.toNat 2) := (num_Back 2).map (fun n => (n : Int)) (fun x => by simp)
theorem four_Back : Back Rd.four fourL := by
  refine ⟨fun r h => num_keeps 4 r h, fun s x r h => ?_⟩
  unfold Rd.four at h
  injection h with h1 h2
  obtain ⟨e1, e2⟩ := num_back (k := 4) (s := s) (n := ((Rd.mk s false).num 4).1) (r := r) (by rw [← h2])
  have : fourL x = numL ((Rd.mk s false).num 4).1 4 := by
    unfold fourL
    congr 1
    rw [← h1]
    unfold signN
    generalize ((Rd.mk s false).num 4).1 = n at *
    simp at e2
    split <;> omega
  rw [this]
  exact e1
theorem truth_Back : Back Rd.truth truL := by
  refine ⟨fun r h => ?_, fun s x r h => ?_⟩
  · unfold Rd.truth
    simp only [num_keeps 1 r h, Bool.true_or]
  · unfold Rd.truth at h
    injection h with h1 h2
    injection h2 with h2 h3
    rw [Bool.or_eq_false_iff] at h3
    obtain ⟨e1, e2⟩ := num_back (k := 1) (s := s) (n := ((Rd.mk s false).num 1).1) (r := r) (by refine Prod.ext rfl ?_; show ((Rd.mk s false).num 1).2 = _; rw [Rd.of_bad _ h3.1, h2])
    have h4 : ¬ 1 < ((Rd.mk s false).num 1).1 := of_decide_eq_false h3.2
    generalize ((Rd.mk s false).num 1).1 = n at *
    have : truL x = numL n 1 := by
      rw [← h1]
      rcases (show n = 0 ∨ n = 1 by omega) with e | e <;> subst e <;> rfl
    rw [this]
    exact e1
/-- So many bytes, behind how many. -/
def Rd.str (k : Nat) (r : Rd) : ByteArray × Rd := (⟨(((r.num k).2.raw (r.num k).1).1).toArray⟩, ((r.num k).2.raw (r.num k).1).2)
theorem str_Back (k : Nat) : Back (Rd.str k) (fun s => numL s.size k ++ s.data.toList) := by
  refine ⟨fun r h => raw_keeps _ _ (num_keeps k r h), fun s x r h => ?_⟩
  unfold Rd.str at h
  injection h with h1 h2
  cases hb : ((Rd.mk s false).num k).2.bad with
  | true =>
    have := raw_keeps ((Rd.mk s false).num k).1 _ hb
    rw [h2] at this
    cases this
  | false =>
    obtain ⟨e1, _⟩ := num_back (k := k) (s := s) (n := ((Rd.mk s false).num k).1) (r := ((Rd.mk s false).num k).2.s) (by rw [← Rd.of_bad _ hb])
    obtain ⟨e2, e3⟩ := raw_back (n := ((Rd.mk s false).num k).1) (s := ((Rd.mk s false).num k).2.s) (l := (((Rd.mk s false).num k).2.raw ((Rd.mk s false).num k).1).1) (r := r) (by rw [← Rd.of_bad _ hb, ← h2])
    have hsz : x.size = ((Rd.mk s false).num k).1 := by
      rw [← h1]
      show Array.size (List.toArray _) = _
      rw [List.size_toArray]
      exact e3
    have hda : x.data.toList = (((Rd.mk s false).num k).2.raw ((Rd.mk s false).num k).1).1 := by rw [← h1]
    show s = numL x.size k ++ x.data.toList ++ r
    rw [hsz, hda, List.append_assoc, ← e2]
    exact e1
theorem text_Back : Back Rd.text textL := str_Back 1
theorem list_keeps {α : Type} {one : Rd → α × Rd} (h1 : ∀ r : Rd, r.bad = true → (one r).2.bad = true) : ∀ (n : Nat) (r : Rd), r.bad = true → (Rd.list one n r).2.bad = true
  | 0, r, h => h
  | n + 1, r, h => by unfold Rd.list; rw [if_pos h]; exact h
theorem list_back {α : Type} {one : Rd → α × Rd} {enc : α → List UInt8} (h1 : Back one enc) : ∀ (n : Nat) (s : List UInt8) (l : List α) (r : List UInt8), Rd.list one n ⟨s, false⟩ = (l, ⟨r, false⟩) → s = l.flatMap enc ++ r ∧ l.length = n
  | 0, s, l, r, h => by
    unfold Rd.list at h
    injection h with e1 e2
    injection e2 with e2 _
    rw [← e1, e2]
    exact ⟨rfl, rfl⟩
  | n + 1, s, l, r, h => by
    unfold Rd.list at h
    rw [if_neg (by simp)] at h
    injection h with e1 e2
    cases hb : (one ⟨s, false⟩).2.bad with
    | true =>
      have := list_keeps h1.keeps n _ hb
      rw [e2] at this
      cases this
    | false =>
      have g1 := h1.back s (one ⟨s, false⟩).1 (one ⟨s, false⟩).2.s (by rw [← Rd.of_bad _ hb])
      obtain ⟨g2, g3⟩ := list_back h1 n (one ⟨s, false⟩).2.s _ r (by rw [← Rd.of_bad _ hb, ← e2])
      rw [← e1, List.flatMap_cons, List.append_assoc, ← g2, List.length_cons, g3]
      exact ⟨g1, rfl⟩
theorem lst_Back {α : Type} {one : Rd → α × Rd} {enc : α → List UInt8} (h1 : Back one enc) : Back (Rd.lst one) (fun l => numL l.length 2 ++ l.flatMap enc) := by
  refine ⟨fun r h => list_keeps h1.keeps _ _ (num_keeps 2 r h), fun s x r h => ?_⟩
  unfold Rd.lst at h
  cases hb : ((Rd.mk s false).num 2).2.bad with
  | true =>
    have := list_keeps h1.keeps ((Rd.mk s false).num 2).1 _ hb
    rw [h] at this
    cases this
  | false =>
    obtain ⟨e1, _⟩ := num_back (k := 2) (s := s) (n := ((Rd.mk s false).num 2).1) (r := ((Rd.mk s false).num 2).2.s) (by rw [← Rd.of_bad _ hb])
    obtain ⟨e2, e3⟩ := list_back h1 ((Rd.mk s false).num 2).1 ((Rd.mk s false).num 2).2.s x r (by rw [← Rd.of_bad _ hb]; exact h)
    show s = numL x.length 2 ++ x.flatMap enc ++ r
    rw [e3, List.append_assoc, ← e2]
    exact e1
theorem use_Back : Back Rd.use useL := (text_Back.seq (num_Back 8)).map (fun p => (⟨p.1, (p.2 : Int)⟩ : UseD)) (fun x => by simp [useL])
theorem fld_Back : Back Rd.fld fldL := (text_Back.seq (four_Back.seq four_Back)).map (fun p => (⟨p.1, p.2.1, p.2.2⟩ : Fld)) (fun x => by simp [fldL])
theorem pair_Back : Back Rd.pair pairL := (four_Back.seq four_Back).map (fun p => p) (fun x => rfl)
theorem zip_map : ∀ l : List (Int × Int), (l.map Prod.fst).zip (l.map Prod.snd) = l
  | [] => rfl
  | x :: l => by rw [List.map_cons, List.map_cons, List.zip_cons_cons, zip_map l]
theorem arm_Back : Back Rd.arm armL := ((lst_Back pair_Back).seq truth_Back).map (fun p => (⟨p.1.map Prod.fst, p.1.map Prod.snd, p.2⟩ : ArmD)) (fun x => by simp [armL, zip_map])
theorem par_Back : Back Rd.par parL := (truth_Back.seq four_Back).map (fun p => (⟨p.1, p.2⟩ : Par)) (fun x => by simp [parL])
def tyS (r : Rd) :=
  Rd.seq Rd.one (Rd.seq Rd.text (Rd.seq Rd.text (Rd.seq Rd.four (Rd.seq Rd.four (Rd.seq Rd.four (Rd.seq Rd.four (Rd.seq (Rd.lst Rd.text) (Rd.seq (Rd.lst Rd.fld) (Rd.seq (Rd.lst Rd.arm) (Rd.seq (Rd.lst Rd.par) Rd.four)))))))))) r
theorem ty_eq : Rd.ty = fun r => (⟨(tyS r).1.1, (tyS r).1.2.1, (tyS r).1.2.2.1, (tyS r).1.2.2.2.1, (tyS r).1.2.2.2.2.1, (tyS r).1.2.2.2.2.2.1, (tyS r).1.2.2.2.2.2.2.1, (tyS r).1.2.2.2.2.2.2.2.1, (tyS r).1.2.2.2.2.2.2.2.2.1, (tyS r).1.2.2.2.2.2.2.2.2.2.1, (tyS r).1.2.2.2.2.2.2.2.2.2.2.1, (tyS r).1.2.2.2.2.2.2.2.2.2.2.2⟩, (tyS r).2) := by
  funext r
  simp only [Rd.ty, tyS, Rd.seq]
theorem ty_Back : Back Rd.ty tyL := by
  rw [ty_eq]
  have h := one_Back.seq (text_Back.seq (text_Back.seq (four_Back.seq (four_Back.seq (four_Back.seq (four_Back.seq ((lst_Back text_Back).seq ((lst_Back fld_Back).seq ((lst_Back arm_Back).seq ((lst_Back par_Back).seq four_Back))))))))))
  exact h.map (fun p => (⟨p.1, p.2.1, p.2.2.1, p.2.2.2.1, p.2.2.2.2.1, p.2.2.2.2.2.1, p.2.2.2.2.2.2.1, p.2.2.2.2.2.2.2.1, p.2.2.2.2.2.2.2.2.1, p.2.2.2.2.2.2.2.2.2.1, p.2.2.2.2.2.2.2.2.2.2.1, p.2.2.2.2.2.2.2.2.2.2.2⟩ : Ty)) (fun x => by simp [tyL])
theorem any_Back : Back Rd.any anyL := by
  refine ⟨fun r h => ?_, fun s x r h => ?_⟩
  · have hb := num_keeps 1 r h
    unfold Rd.any
    simp only
    split
    · exact hb
    · exact four_Back.keeps _ hb
    · exact one_Back.keeps _ hb
    · exact truth_Back.keeps _ hb
    · exact two_Back.keeps _ hb
    · exact raw_keeps _ _ (num_keeps 2 _ hb)
    · exact four_Back.keeps _ (four_Back.keeps _ hb)
    · exact hb
    · rfl
  · have hk : ∀ {α : Type} {f : Rd → α × Rd} (_ : ∀ r : Rd, r.bad = true → (f r).2.bad = true) (y : α), f ((Rd.mk s false).num 1).2 = (y, ⟨r, false⟩) → ((Rd.mk s false).num 1).2.bad = false := by
      intro α f hf y he
      cases hb : ((Rd.mk s false).num 1).2.bad with
      | false => rfl
      | true =>
        have := hf _ hb
        rw [he] at this
        cases this
    have hn : ∀ n, ((Rd.mk s false).num 1).1 = n → ((Rd.mk s false).num 1).2.bad = false → s = numL n 1 ++ ((Rd.mk s false).num 1).2.s := by
      intro n e hb
      exact (num_back (k := 1) (s := s) (n := n) (r := ((Rd.mk s false).num 1).2.s) (by rw [← e, ← Rd.of_bad _ hb])).1
    unfold Rd.any at h
    simp only at h
    split at h
    · rename_i e
      injection h with h1 h2
      have hb : ((Rd.mk s false).num 1).2.bad = false := by rw [h2]
      rw [← h1]
      have := hn _ e hb
      rw [h2] at this
      exact this
    · rename_i e
      injection h with h1 h2
      have hb := hk four_Back.keeps _ (show Rd.four _ = (_, _) from Prod.ext rfl h2)
      have e2 := four_Back.back ((Rd.mk s false).num 1).2.s _ r (by rw [← Rd.of_bad _ hb]; exact Prod.ext rfl h2)
      rw [← h1]
      show s = numL 1 1 ++ fourL _ ++ r
      rw [List.append_assoc, ← e2]
      exact hn _ e hb
    · rename_i e
      injection h with h1 h2
      have hb := hk one_Back.keeps _ (show Rd.one _ = (_, _) from Prod.ext rfl h2)
      have e2 := one_Back.back ((Rd.mk s false).num 1).2.s _ r (by rw [← Rd.of_bad _ hb]; exact Prod.ext rfl h2)
      rw [← h1]
      show s = numL 2 1 ++ numL _ 1 ++ r
      rw [List.append_assoc, ← e2]
      exact hn _ e hb
    · rename_i e
      injection h with h1 h2
      have hb := hk truth_Back.keeps _ (show Rd.truth _ = (_, _) from Prod.ext rfl h2)
      have e2 := truth_Back.back ((Rd.mk s false).num 1).2.s _ r (by rw [← Rd.of_bad _ hb]; exact Prod.ext rfl h2)
      rw [← h1]
      show s = numL 3 1 ++ truL _ ++ r
      rw [List.append_assoc, ← e2]
      exact hn _ e hb
    · rename_i e
      injection h with h1 h2
      have hb := hk two_Back.keeps _ (show Rd.two _ = (_, _) from Prod.ext rfl h2)
      have e2 := two_Back.back ((Rd.mk s false).num 1).2.s _ r (by rw [← Rd.of_bad _ hb]; exact Prod.ext rfl h2)
      rw [← h1]
      show s = numL 4 1 ++ numL _ 2 ++ r
      rw [List.append_assoc, ← e2]
      exact hn _ e hb
    · rename_i e
      injection h with h1 h2
      have hb := hk (str_Back 2).keeps _ (show Rd.str 2 _ = (_, _) from Prod.ext rfl h2)
      have e2 := (str_Back 2).back ((Rd.mk s false).num 1).2.s _ r (by rw [← Rd.of_bad _ hb]; exact Prod.ext rfl h2)
      rw [← h1]
      show s = numL 5 1 ++ (numL _ 2 ++ _) ++ r
      rw [List.append_assoc]
      refine (hn _ e hb).trans ?_
      congr 1
    · rename_i e
      injection h with h1 h2
      have hb := hk (four_Back.seq four_Back).keeps _ (show Rd.seq Rd.four Rd.four _ = (_, _) from Prod.ext rfl h2)
      have e2 := (four_Back.seq four_Back).back ((Rd.mk s false).num 1).2.s _ r (by rw [← Rd.of_bad _ hb]; exact Prod.ext rfl h2)
      rw [← h1]
      show s = numL 6 1 ++ (fourL _ ++ fourL _) ++ r
      rw [List.append_assoc]
      refine (hn _ e hb).trans ?_
      congr 1
    · rename_i e
      injection h with h1 h2
      have hb : ((Rd.mk s false).num 1).2.bad = false := by rw [h2]
      rw [← h1]
      have := hn _ e hb
      rw [h2] at this
      exact this
    · injection h with h1 h2
      injection h2 with _ h2
      cases h2
theorem itm_Back : Back Rd.itm itmL := (text_Back.seq (one_Back.seq (four_Back.seq (four_Back.seq any_Back)))).map (fun p => (⟨p.1, p.2.1, p.2.2.1, p.2.2.2.1, p.2.2.2.2⟩ : ItmD)) (fun x => by simp [itmL])
theorem face_Back : Back Rd.face faceL :=
  (text_Back.seq ((lst_Back use_Back).seq ((lst_Back ty_Back).seq (lst_Back itm_Back)))).map (fun p => (⟨p.1, p.2.1, p.2.2.1, p.2.2.2⟩ : FaceD)) (fun x => by simp [faceL])
/-- Bytes that are read are written as they were. -/
theorem enc_dec {l : List UInt8} {f : FaceD} (h : decFaceP l = (f, 0)) : encFaceP f = (l, 0) := by
  unfold decFaceP at h
  by_cases c : ((Rd.face ⟨l, false⟩).2.bad || !((Rd.face ⟨l, false⟩).2.s).isEmpty || !decide (mayP (Rd.face ⟨l, false⟩).1 = 0)) = true
  · rw [if_pos c] at h
    injection h with _ h
    exact absurd h (by decide)
  · rw [if_neg c] at h
    injection h with h1 _
    simp only [Bool.or_eq_true, not_or, Bool.not_eq_true, Bool.not_eq_false', decide_eq_true_eq, List.isEmpty_iff] at c
    obtain ⟨⟨c1, c2⟩, c3⟩ := c
    have := face_Back.back l f [] (by rw [← h1]; exact Prod.ext rfl (by rw [Rd.of_bad _ c1, c2]))
    rw [h1] at c3
    unfold encFaceP
    rw [if_pos c3, this, List.append_nil]
end Go.Proofs.Ytmpbkfbjmmoapaa

/- Types numbered anew: what Canon answers, and that it does not matter how they stood. No conditions. -/
namespace Go.Proofs.Ytmpbkfbjmmoapaa
set_option linter.unusedVariables false
/-- The types that one names, in order. -/
def kids (t : Ty) : List Int := t.base :: t.index :: (t.fields.map Fld.type ++ (t.params.map Par.type ++ [t.result]))
def kidsAt (ts : List Ty) (n : Int) : List Int := match ts[(n - 10).toNat]? with | some t => kids t | none => []
/-- Types met, one behind the other. -/
def meets (kd : Int → List Int) : Nat → List Int → List Int → List Int
  | 0, _, ord => ord
  | k + 1, l, ord => l.foldl (fun ord n => if n < 10 ∨ n ∈ ord then ord else meets kd k (kd n) (ord ++ [n])) ord
def itmKids (x : ItmD) : List Int := match x.v with | .item t _ => [x.type, t] | _ => [x.type]
def starts (f : FaceD) : List Int := f.items.flatMap itmKids
def ordOf (f : FaceD) : List Int := meets (kidsAt f.types) (f.types.length + 1) (starts f) []
/-- A number, as it is anew. -/
def anewN (ord : List Int) (n : Int) : Int := match ord.idxOf? n with | some k => 10 + (k : Int) | none => n
def anewT (ord : List Int) (t : Ty) : Ty :=
  { t with base := anewN ord t.base, index := anewN ord t.index, result := anewN ord t.result, fields := t.fields.map (fun f => { f with type := anewN ord f.type }), params := t.params.map (fun p => { p with type := anewN ord p.type }) }
def anewV (ord : List Int) : AnyD → AnyD
  | .item t n => .item (anewN ord t) n
  | v => v
def anewI (ord : List Int) (x : ItmD) : ItmD := { x with type := anewN ord x.type, v := anewV ord x.v }
def zeroTy : Ty := ⟨0, ⟨#[]⟩, ⟨#[]⟩, 0, 0, 0, 0, [], [], [], [], 0⟩
def canonF (f : FaceD) : FaceD := { f with types := (ordOf f).map (fun n => anewT (ordOf f) ((f.types[(n - 10).toNat]?).getD zeroTy)), items := f.items.map (anewI (ordOf f)) }
def canonP (f : FaceD) : FaceD × Int := if mayP f = 0 then (canonF f, 0) else (noFace, mayP f)
/-- How many of these have not been met. -/
def fresh (T : List Int) (ord : List Int) : Nat := (T.filter (fun n => decide (n ∉ ord))).length
theorem fresh_mono {T o o' : List Int} (h : ∀ n, n ∈ o → n ∈ o') : fresh T o' ≤ fresh T o :=
  filter_len _ _ (fun x hx => by simp only [decide_eq_true_eq] at hx ⊢; exact fun hm => hx (h x hm)) T
theorem fresh_lt {T o o' : List Int} (h : ∀ n, n ∈ o → n ∈ o') {n : Int} (hn : n ∈ T) (h0 : n ∉ o) (h1 : n ∈ o') : fresh T o' < fresh T o :=
  filter_len_lt _ _ (fun x hx => by simp only [decide_eq_true_eq] at hx ⊢; exact fun hm => hx (h x hm)) n (by simp [h1]) (by simp [h0]) T hn
section
variable {kd : Int → List Int}
theorem meets_cons (k : Nat) (n : Int) (l ord : List Int) : meets kd (k + 1) (n :: l) ord = meets kd (k + 1) l (if n < 10 ∨ n ∈ ord then ord else meets kd k (kd n) (ord ++ [n])) := by
  conv => lhs; unfold meets
  conv => rhs; unfold meets
  rw [List.foldl_cons]
theorem meets_nil (k : Nat) (ord : List Int) : meets kd k [] ord = ord := by cases k <;> rfl
theorem meets_more : ∀ (k : Nat) (l ord : List Int) (n : Int), n ∈ ord → n ∈ meets kd k l ord
  | 0, _, _, _, h => h
  | k + 1, [], ord, n, h => by rw [meets_nil]; exact h
  | k + 1, m :: l, ord, n, h => by
    rw [meets_cons]
    refine meets_more (k + 1) l _ n ?_
    split
    · exact h
    · exact meets_more k _ _ n (List.mem_append_left _ h)
end
end Go.Proofs.Ytmpbkfbjmmoapaa

/- Numbered anew twice is as once; however the types stood, numbered anew they stand in one order. No conditions. -/
namespace Go.Proofs.Ytmpbkfbjmmoapaa
set_option linter.unusedVariables false
/-- The numbers of so many types. -/
def nums (nt : Nat) : List Int := (List.range nt).map fun i : Nat => 10 + (i : Int)
theorem nums_iff {nt : Nat} {n : Int} : n ∈ nums nt ↔ 10 ≤ n ∧ n < 10 + (nt : Int) := by
  unfold nums
  rw [List.mem_map]
  constructor
  · rintro ⟨i, hi, rfl⟩
    rw [List.mem_range] at hi
    omega
  · rintro ⟨h1, h2⟩
    exact ⟨(n - 10).toNat, List.mem_range.2 (by omega), by omega⟩
theorem tyB_iff {nt : Nat} {n : Int} : tyB nt n = true ↔ 0 ≤ n ∧ n < 10 + (nt : Int) := by
  unfold tyB
  rw [inB_iff]
  omega
theorem kids_form {nt : Nat} {t : Ty} (h : tyForm nt t = true) : ∀ x ∈ kids t, tyB nt x = true := by
  unfold tyForm at h
  simp only [Bool.and_eq_true, List.all_eq_true] at h
  obtain ⟨⟨⟨⟨⟨⟨⟨a1, a2⟩, a3⟩, a4⟩, a5⟩, a6⟩, a7⟩, a8⟩ := h
  intro x hx
  unfold kids at hx
  simp only [List.mem_cons, List.mem_append, List.mem_map, List.not_mem_nil, or_false] at hx
  rcases hx with rfl | rfl | ⟨f, hf, rfl⟩ | ⟨p, hp, rfl⟩ | rfl
  · exact a1
  · exact a2
  · exact (a6 f hf).1
  · exact a8 p hp
  · exact a3
theorem itm_form {nt : Nat} {x : ItmD} (h : itmForm nt x = true) : ∀ n ∈ itmKids x, tyB nt n = true := by
  unfold itmForm anyForm at h
  unfold itmKids
  cases hv : x.v <;> rw [hv] at h <;> simp only [Bool.and_eq_true] at h <;> intro n hn <;> simp only [List.mem_cons, List.not_mem_nil, or_false] at hn
  all_goals first
    | (rcases hn with rfl | rfl
       · exact h.1.1
       · exact h.2.1)
    | (subst hn; exact h.1.1)
theorem len_sub : ∀ (l m : List Int), l.Nodup → (∀ x ∈ l, x ∈ m) → l.length ≤ m.length
  | [], _, _, _ => Nat.zero_le _
  | x :: l, m, hn, h => by
    rw [List.nodup_cons] at hn
    have hx := h x (by simp)
    have ih := len_sub l (m.erase x) hn.2 (fun y hy => (List.mem_erase_of_ne (fun e => by rw [e] at hy; exact hn.1 hy)).2 (h y (by simp [hy])))
    rw [List.length_erase_of_mem hx] at ih
    have := List.length_pos_of_mem hx
    rw [List.length_cons]
    omega
section
variable {f : FaceD}
theorem face_types (h : mayP f = 0) : ∀ t ∈ f.types, tyForm f.types.length t = true := by
  have := (face_parts h).2.2.2
  unfold faceForm at this
  simp only [Bool.and_eq_true, List.all_eq_true] at this
  exact this.1
theorem face_items (h : mayP f = 0) : ∀ x ∈ f.items, itmForm f.types.length x = true := by
  have := (face_parts h).2.2.2
  unfold faceForm at this
  simp only [Bool.and_eq_true, List.all_eq_true] at this
  exact this.2
theorem fresh_all (nt : Nat) : fresh (nums nt) [] = nt := by
  unfold fresh nums
  rw [List.filter_eq_self.2 (fun x _ => by simp), List.length_map, List.length_range]
structure OrdOk (f : FaceD) (ord : List Int) : Prop where
  inT : ∀ x ∈ ord, x ∈ nums f.types.length
  high : ∀ x ∈ ord, 10 ≤ x
  nodup : ord.Nodup
  start : ∀ x ∈ starts f, 10 ≤ x → x ∈ ord
  kid : ∀ n ∈ ord, ∀ x ∈ kidsAt f.types n, 10 ≤ x → x ∈ ord
theorem idx_some {ord : List Int} {n : Int} (h : n ∈ ord) : ∃ k, ord.idxOf? n = some k ∧ ord[k]? = some n := by
  cases hx : ord.idxOf? n with
  | none => rw [List.idxOf?_eq_none_iff] at hx; exact absurd h hx
  | some k =>
    refine ⟨k, rfl, ?_⟩
    have := List.findIdx?_eq_some_iff_getElem.1 hx
    obtain ⟨hk, he, _⟩ := this
    rw [List.getElem?_eq_getElem hk]
    simpa using he
theorem anewN_out {ord : List Int} {n : Int} (h : n ∉ ord) : anewN ord n = n := by
  unfold anewN
  rw [List.idxOf?_eq_none_iff.2 h]
theorem nodup_idx {ord : List Int} (hn : ord.Nodup) {i j : Nat} {n : Int} (h1 : ord[i]? = some n) (h2 : ord[j]? = some n) : i = j := by
  obtain ⟨hi, e1⟩ := List.getElem?_eq_some_iff.1 h1
  obtain ⟨hj, e2⟩ := List.getElem?_eq_some_iff.1 h2
  exact (List.getElem_inj (h₀ := hi) (h₁ := hj) hn).1 (e1.trans e2.symm)
end
end Go.Proofs.Ytmpbkfbjmmoapaa

/- Maps by whole numbers: what they hold, as a function; an update, a look-up. No conditions. -/
namespace Go.Proofs.Ytmpbkfbjmmoapaa
open Go.RowKit
set_option linter.unusedVariables false
/-- What lies there under a number. -/
def fndI : List MapEntry → Int → Option Value
  | [], _ => none
  | e :: l, k => match e.key with | .int .i64 a => if a = k then some e.val else fndI l k | _ => none
def IntKeys (l : List MapEntry) : Prop := ∀ e ∈ l, ∃ a, e.key = .int .i64 a
theorem findNow_int : ∀ (l : List MapEntry) (k : Int) (i : Nat), IntKeys l → ∃ o, Instr.findNow (.int .i64) (.int .i64 k) l i = some o ∧ o.map (·.2) = fndI l k ∧
    ∀ p, o = some p → ∃ j e, p.1 = i + j ∧ l[j]? = some e ∧ e.key = .int .i64 k ∧ ∀ v k', fndI (l.modify j fun e => { e with key := .int .i64 k, val := v }) k' = if k' = k then some v else fndI l k'
  | [], k, i, _ => ⟨none, rfl, rfl, fun p h => by cases h⟩
  | e :: l, k, i, h => by
    obtain ⟨a, ha⟩ := h e (.head _)
    by_cases hak : a = k
    · subst hak
      refine ⟨some (i, e.val), ?_, ?_, ?_⟩
      · simp [Instr.findNow, Instr.sameNow, ha]
      · simp [fndI, ha]
      · intro p hp
        injection hp with hp
        subst hp
        refine ⟨0, e, by simp, rfl, ha, fun v k' => ?_⟩
        simp only [List.modify_zero_cons, fndI, ha]
        by_cases h1 : k' = a
        · subst h1; simp
        · have h2 : ¬ a = k' := fun e => h1 e.symm
          simp [h1, h2]
    · obtain ⟨o, h1, h2, h3⟩ := findNow_int l k (i + 1) (fun e he => h e (.tail _ he))
      refine ⟨o, ?_, ?_, ?_⟩
      · have : (k == a) = false := by simp; omega
        simp [Instr.findNow, Instr.sameNow, ha, this, h1]
      · simp [fndI, ha, hak, h2]
      · intro p hp
        obtain ⟨j, e', g1, g2, g3, g4⟩ := h3 p hp
        refine ⟨j + 1, e', by omega, g2, g3, fun v k' => ?_⟩
        simp only [List.modify_succ_cons, fndI, ha]
        by_cases h5 : a = k'
        · subst h5
          simp [hak]
        · simp only [h5, if_false]
          exact g4 v k'
theorem fndI_push (l : List MapEntry) (k : Int) (v : Value) (b : Nat) (h : fndI l k = none) (hk : IntKeys l) (k' : Int) : fndI (l ++ [{ key := .int .i64 k, val := v, born := b }]) k' = if k' = k then some v else fndI l k' := by
  induction l with
  | nil =>
    simp only [List.nil_append, fndI]
    by_cases h1 : k' = k
    · subst h1; simp
    · have : ¬ k = k' := fun e => h1 e.symm
      simp [h1, this]
  | cons e l ih =>
    obtain ⟨a, ha⟩ := hk e (.head _)
    simp only [List.cons_append, fndI, ha] at h ⊢
    by_cases h2 : a = k
    · simp [h2] at h
    · rw [if_neg h2] at h
      by_cases h3 : a = k'
      · subst h3
        simp [h2]
      · simp only [h3, if_false]
        exact ih h (fun e he => hk e (.tail _ he))
theorem intKeys_modify (l : List MapEntry) (h : IntKeys l) (j : Nat) (k : Int) (v : Value) : IntKeys (l.modify j fun e => { e with key := .int .i64 k, val := v }) := by
  intro e he
  obtain ⟨i, hi⟩ := List.mem_iff_getElem?.1 he
  rw [List.getElem?_modify] at hi
  cases hx : l[i]? with
  | none => rw [hx] at hi; cases hi
  | some x =>
    rw [hx] at hi
    by_cases hj : j = i
    · subst hj
      simp at hi
      subst hi
      exact ⟨k, rfl⟩
    · simp [hj] at hi
      subst hi
      exact h x (List.mem_of_getElem? hx)
/-- A map by whole numbers, in block r: kn says what it holds. -/
def MapI (w : World) (r : Nat) (kn : Int → Option Value) : Prop := ∃ es c, w.heap[r]? = some (.map es c) ∧ IntKeys es.toList ∧ ∀ k, fndI es.toList k = kn k
theorem MapI.wr {w w' : World} {r : Nat} {kn : Int → Option Value} {l : List Nat} (h : MapI w r kn) (hw : Wr l w w') (hr : r ∉ l) : MapI w' r kn := by
  obtain ⟨es, c, h1, h2, h3⟩ := h
  have hlt : r < w.heap.size := by
    rcases Nat.lt_or_ge r w.heap.size with h | h
    · exact h
    · rw [Array.getElem?_eq_none h] at h1; cases h1
  exact ⟨es, c, (hw.block r hlt hr).trans h1, h2, h3⟩
theorem MapI.lt {w : World} {r : Nat} {kn : Int → Option Value} (h : MapI w r kn) : r < w.heap.size := by
  obtain ⟨es, c, h1, h2, h3⟩ := h
  rcases Nat.lt_or_ge r w.heap.size with h | h
  · exact h
  · rw [Array.getElem?_eq_none h] at h1; cases h1
theorem MapI.new (w : World) : MapI (w.alloc (.map #[] 0)) w.heap.size (fun _ => none) := ⟨#[], 0, heap_alloc_new w _, by simp [IntKeys], fun k => rfl⟩
section
variable {P : Program} {T K E : TypeId} (hu : P.underlying T = some (.map K E)) (hk : P.underlying K = some (.int .i64))
include hu hk
theorem mapI_upd {w : World} {r : Nat} {kn : Int → Option Value} (h : MapI w r kn) (k : Int) (v : Value) :
    ∃ W, (Instr.mapUpdate T (.map (some r)) (.int .i64 k) v).run P w = .ok () W ∧ Wr [r] w W ∧ MapI W r (fun j => if j = k then some v else kn j) := by
  have hr := h.lt
  obtain ⟨es, c, h1, h2, h3⟩ := h
  have hc : ∀ w, (Instr.checkKey false 10000 K (.int .i64 k)).run P w = .ok () w := fun w => MapKept.run_checkKey hk (by simp [MapKept.IsKey]) false 9999
  have hW : ∀ o, Wr [r] w { w with heap := w.heap.setIfInBounds r o } := fun o => ⟨rfl, rfl, rfl, by simp, fun j _ hj => by
    have : r ≠ j := fun e => hj (by simp [e])
    simp [this]⟩
  have hH : ∀ o, (w.heap.setIfInBounds r o)[r]? = some o := fun o => by simp [hr]
  obtain ⟨o, g1, g2, g3⟩ := findNow_int es.toList k 0 h2
  cases o with
  | none =>
    refine ⟨_, ins_at hu hk w r es c (.int .i64 k) v h1 hc g1, hW _, _, _, hH _, ?_, ?_⟩
    · intro e he
      simp only [Array.toList_push, List.mem_append, List.mem_singleton] at he
      rcases he with he | rfl
      · exact h2 e he
      · exact ⟨k, rfl⟩
    · intro k'
      rw [Array.toList_push, fndI_push es.toList k v c g2.symm h2 k', h3]
  | some p =>
    obtain ⟨j, e, q1, q2, q3, q4⟩ := g3 p rfl
    have hj : es[p.1]? = some e := by
      rw [q1, Nat.zero_add, ← Array.getElem?_toList]
      exact q2
    have hrun : (Instr.mapUpdate T (.map (some r)) (.int .i64 k) v).run P w = .ok () { w with heap := w.heap.setIfInBounds r (.map (es.modify p.1 fun e => { e with key := .int .i64 k, val := v }) c) } := by
      obtain ⟨a, b⟩ := p
      simp only at hj
      simp [Instr.mapUpdate, run_underlying hu, Sem.run_bind, hc, Instr.findKey, run_underlying hk, g1, getObj, setObj, Sem.run, h1, Result.andThen, hj, q3]
      have := MapKept.run_keyThatStays (P := P) (w := w) (d := .int .i64) (k := .int .i64 k) (by simp [MapKept.IsKey])
      rw [this]
      simp [h1]
    refine ⟨_, hrun, hW _, _, _, hH _, ?_, ?_⟩
    · rw [Array.toList_modify]
      exact intKeys_modify _ h2 _ _ _
    · intro k'
      rw [Array.toList_modify, q1, Nat.zero_add, q4 v k', h3]
theorem mapI_look {w : World} {r : Nat} {kn : Int → Option Value} (h : MapI w r kn) (k : Int) {z : Value} (hz : ∀ w, (zeroValue E).run P w = .ok z w) :
    (Instr.lookup T (.map (some r)) (.int .i64 k) true).run P w = .ok (.tuple #[(kn k).getD z, .bool (kn k).isSome]) w := by
  obtain ⟨es, c, h1, h2, h3⟩ := h
  obtain ⟨o, g1, g2, _⟩ := findNow_int es.toList k 0 h2
  have hc : ∀ b w, (Instr.checkKey b 10000 K (.int .i64 k)).run P w = .ok () w := fun b w => MapKept.run_checkKey hk (by simp [MapKept.IsKey]) b 9999
  have := look_at hu hk w r es c (.int .i64 k) o z h1 hc g1 hz true
  rw [g2, h3] at this
  have e : o.isSome = (kn k).isSome := by rw [← h3 k, ← g2]; cases o <;> rfl
  rw [e] at this
  exact this
end
end Go.Proofs.Ytmpbkfbjmmoapaa

/- Canon's closure: what its variables hold. No conditions. -/
namespace Go.Proofs.Ytmpbkfbjmmoapaa
open Go.RowKit
set_option linter.unusedVariables false
set_option linter.unusedSimpArgs false
theorem meets_append {kd : Int → List Int} (k : Nat) : ∀ (l m ord : List Int), meets kd k (l ++ m) ord = meets kd k m (meets kd k l ord) := by
  cases k with
  | zero => intro l m ord; rfl
  | succ k =>
    intro l
    induction l with
    | nil => intro m ord; rw [List.nil_append, meets_nil]
    | cons x l ih => intro m ord; rw [List.cons_append, meets_cons, meets_cons, ih]
theorem meets_drop {kd : Int → List Int} {k j : Nat} {l : List Int} {n : Int} {ord : List Int} (h : l[j]? = some n) : meets kd (k + 1) (l.drop j) ord = meets kd (k + 1) (l.drop (j + 1)) (if n < 10 ∨ n ∈ ord then ord else meets kd k (kd n) (ord ++ [n])) := by
  have hk := (List.getElem?_eq_some_iff.1 h).1
  have e : l[j] = n := (List.getElem?_eq_some_iff.1 h).2
  conv => lhs; rw [List.drop_eq_getElem_cons hk, meets_cons]
  rw [e]
/-- The map from numbers to numbers anew. -/
def numsOf (ord : List Int) (n : Int) : Option Value := (ord.idxOf? n).map fun k => .int .i64 (10 + (k : Int))
theorem idx_push {ord : List Int} {n : Int} (h : n ∉ ord) (j : Int) : (ord ++ [n]).idxOf? j = if j = n then some ord.length else ord.idxOf? j := by
  induction ord with
  | nil =>
    by_cases hj : j = n
    · subst hj
      simp [List.idxOf?]
    · have : (n == j) = false := by simpa using fun e => hj e.symm
      simp [List.idxOf?, hj, this]
  | cons x l ih =>
    have hx : x ≠ n := fun e => h (by simp [e])
    have hl : n ∉ l := fun e => h (by simp [e])
    rw [List.cons_append, List.idxOf?_cons, ih hl]
    by_cases hxj : x = j
    · subst hxj
      rw [if_neg hx]
      simp [List.idxOf?_cons, hx]
    · have hb : (x == j) = false := by simpa using hxj
      by_cases hj : j = n
      · subst hj
        simp [hb]
      · simp [hb, hj, List.idxOf?_cons]
theorem numsOf_push {ord : List Int} {n : Int} (h : n ∉ ord) : (fun j => if j = n then some (Value.int .i64 (10 + (ord.length : Int))) else numsOf ord j) = numsOf (ord ++ [n]) := by
  funext j
  unfold numsOf
  rw [idx_push h]
  by_cases hj : j = n
  · rw [if_pos hj, if_pos hj]
    rfl
  · rw [if_neg hj, if_neg hj]
theorem numsOf_out {ord : List Int} {n : Int} (h : n ∉ ord) : numsOf ord n = none := by
  unfold numsOf
  have : ord.idxOf? n = none := by simpa using h
  rw [this]
  rfl
theorem numsOf_in {ord : List Int} {n : Int} (h : n ∈ ord) : numsOf ord n = some (.int .i64 (anewN ord n)) := by
  obtain ⟨k, h1, _⟩ := idx_some h
  unfold numsOf anewN
  rw [h1]
  rfl
/-- Where the closure's variables lie: blocks from B on are those behind the copy. -/
structure CC where
  B : Nat
  pn : Nat
  po : Nat
  pi : Nat
  pm : Nat
  gn : Nat
def CC.blocks (c : CC) : List Nat := [c.pn, c.po, c.pm, c.gn]
def CC.caps (c : CC) : Array Value := #[.pointer (some ⟨c.pn, 0, none⟩), .pointer (some ⟨c.po, 0, none⟩), .pointer (some ⟨c.pi, 0, none⟩), .pointer (some ⟨c.pm, 0, none⟩)]
structure CC.wf (c : CC) : Prop where
  nodup : c.blocks.Nodup
  low : ∀ b ∈ c.blocks, c.B ≤ b
theorem CC.wf.ne {c : CC} (hc : c.wf) : c.pn ≠ c.po ∧ c.pn ≠ c.pm ∧ c.pn ≠ c.gn ∧ c.po ≠ c.pm ∧ c.po ≠ c.gn ∧ c.pm ≠ c.gn := by
  have h := hc.nodup
  unfold CC.blocks at h
  simp only [List.nodup_cons, List.mem_cons, List.not_mem_nil, or_false, not_or] at h
  obtain ⟨⟨a1, a2, a3⟩, ⟨b1, b2⟩, c1, _⟩ := h
  exact ⟨a1, a2, a3, b1, b2, c1⟩
structure CEnv (c : CC) (w0 : World) (nt : Nat) (ord : List Int) (vo : Value) (w : World) : Prop where
  bel : Below c.B w0 w
  bn : Blk w c.pn 83 #[.map (some c.gn)]
  bo : Blk w c.po 84 #[vo]
  bm : Blk w c.pm 85 #[.func (.func 28) #[] c.caps]
  mn : MapI w c.gn (numsOf ord)
  own : w.ownsRow c.B 3 1 vo ord.length (ord.map (Value.int .i64))
  far : ∀ b, vo.ownBlock = some b → b ∉ c.blocks
  nodup : ord.Nodup
  sub : ∀ x ∈ ord, x ∈ nums nt ∧ 10 ≤ x
/-- What a call of the closure may have done. -/
structure CStep (c : CC) (vo : Value) (w : World) (vo' : Value) (w' : World) : Prop where
  wr : Wr (c.gn :: c.po :: ownL vo) w w'
  own : ∀ g, vo'.ownBlock = some g → vo.ownBlock = some g ∨ w.heap.size ≤ g
/-- A block that it leaves alone. -/
structure CSafe (c : CC) (vo : Value) (w : World) (g : Nat) : Prop where
  lt : g < w.heap.size
  n1 : g ≠ c.gn
  n2 : g ≠ c.po
  n3 : vo.ownBlock ≠ some g
section
variable {c : CC} {w0 w w1 w2 W : World} {nt : Nat} {ord ord' : List Int} {vo vo1 vo2 : Value} {g : Nat}
theorem CStep.refl (c : CC) (vo : Value) (w : World) : CStep c vo w vo w := ⟨Wr.refl _ _, fun g h => .inl h⟩
theorem CStep.trans (h : CStep c vo w vo1 w1) (k : CStep c vo1 w1 vo2 w2) : CStep c vo w vo2 w2 := by
  refine ⟨h.wr.trans' k.wr (fun x hx => ?_), fun g hg => ?_⟩
  · simp only [List.mem_cons] at hx ⊢
    rcases hx with hx | hx | hx
    · exact .inl (.inl hx)
    · exact .inl (.inr (.inl hx))
    · rcases h.own x (mem_ownL.1 hx) with h1 | h1
      · exact .inl (.inr (.inr (mem_ownL.2 h1)))
      · exact .inr h1
  · rcases k.own g hg with h1 | h1
    · exact h.own g h1
    · exact .inr (Nat.le_trans h.wr.size h1)
theorem CStep.wr0 (h : CStep c vo w vo1 w1) (r : Wr [] w1 w2) : CStep c vo w vo1 w2 := ⟨h.wr.trans0 r, h.own⟩
theorem CStep.of0 (r : Wr [] w w1) : CStep c vo w vo w1 := ⟨r.nil, fun g h => .inl h⟩
theorem CSafe.step (h : CSafe c vo w g) (k : CStep c vo w vo1 w1) : CSafe c vo1 w1 g := by
  refine ⟨Nat.lt_of_lt_of_le h.lt k.wr.size, h.n1, h.n2, fun e => ?_⟩
  rcases k.own g e with h1 | h1
  · exact h.n3 h1
  · have := h.lt; omega
theorem CSafe.not (h : CSafe c vo w g) : g ∉ c.gn :: c.po :: ownL vo := by
  simp only [List.mem_cons, not_or]
  exact ⟨h.n1, h.n2, fun e => h.n3 (mem_ownL.1 e)⟩
theorem CSafe.blk {T : TypeId} {cs : Array Value} (h : CSafe c vo w g) (k : CStep c vo w vo1 w1) (hb : Blk w g T cs) : Blk w1 g T cs := hb.wr k.wr h.not
theorem CSafe.cell {o : Nat} {v : Value} (h : CSafe c vo w g) (k : CStep c vo w vo1 w1) (hb : w.cell? ⟨g, o, none⟩ = some v) : w1.cell? ⟨g, o, none⟩ = some v := k.wr.cellOf hb h.not
theorem CEnv.size (h : CEnv c w0 nt ord vo w) (hB : c.B ≤ w0.heap.size) : c.B ≤ w.heap.size := Nat.le_trans hB h.bel.size
/-- A block that is new. -/
theorem CEnv.safeNew (h : CEnv c w0 nt ord vo w) (o : Obj) : CSafe c vo (w.alloc o) w.heap.size := by
  refine ⟨by simp, fun e => ?_, fun e => ?_, fun e => ?_⟩
  · have := h.mn.lt; omega
  · have := h.bo.lt; omega
  · have := (h.own.lt _ e).2; omega
theorem CEnv.wr0 (h : CEnv c w0 nt ord vo w) (hB : c.B ≤ w0.heap.size) (hw : Wr [] w W) : CEnv c w0 nt ord vo W :=
  ⟨h.bel.trans (hw.below (h.size hB) (fun _ hx => by cases hx)), h.bn.wr0 hw, h.bo.wr0 hw, h.bm.wr0 hw, h.mn.wr hw (by simp), own_keep h.own hw (fun _ _ => by simp), h.far, h.nodup, h.sub⟩
theorem CEnv.len (h : CEnv c w0 nt ord vo w) : ord.length ≤ nt := by
  have := len_sub ord (nums nt) h.nodup (fun x hx => (h.sub x hx).1)
  simpa [nums] using this
/-- One more is met: first the map, then the row. -/
theorem CEnv.push (hc : c.wf) (h : CEnv c w0 nt ord vo w) (hB : c.B ≤ w0.heap.size) {n : Int} (hn : n ∉ ord) (hT : n ∈ nums nt) (h10 : 10 ≤ n) {W1 W2 W3 : World} {v' : Value}
    (k1 : Wr [c.gn] w W1) (hm : MapI W1 c.gn (fun j => if j = n then some (.int .i64 (10 + (ord.length : Int))) else numsOf ord j)) (k2 : Wr [] W1 W2)
    (hown : W3.ownsRow c.B 3 1 v' (ord.length + 1) (ord.map (Value.int .i64) ++ [.int .i64 n])) (hg : W2.grownBy W3 vo.ownBlock) (hb : v'.ownBlock = vo.ownBlock ∨ v'.ownBlock = some W2.heap.size) :
    CEnv c w0 nt (ord ++ [n]) v' (W3.setCell ⟨c.po, 0, none⟩ v') ∧ CStep c vo w v' (W3.setCell ⟨c.po, 0, none⟩ v') := by
  obtain ⟨n1, n2, n3, n4, n5, n6⟩ := hc.ne
  have k3 : Wr (ownL vo) W2 W3 := Wr.ofGrownOwn hg
  have hf : ∀ b, b ∈ c.blocks → b ∉ ownL vo := fun b hb hx => h.far b (mem_ownL.1 hx) hb
  have hpo : c.B ≤ c.po := hc.low _ (by simp [CC.blocks])
  have hgn : c.B ≤ c.gn := hc.low _ (by simp [CC.blocks])
  have hlt : ∀ b, b ∈ c.blocks → b < w.heap.size := fun b hm => by
    simp only [CC.blocks, List.mem_cons, List.not_mem_nil, or_false] at hm
    rcases hm with rfl | rfl | rfl | rfl
    · exact h.bn.lt
    · exact h.bo.lt
    · exact h.bm.lt
    · exact h.mn.lt
  have s12 := Nat.le_trans k1.size k2.size
  have hbv : ∀ b, v'.ownBlock = some b → b ∉ c.blocks := fun b hb' hm => by
    rcases hb with h1 | h1
    · exact h.far b (h1 ▸ hb') hm
    · rw [h1] at hb'
      injection hb' with hb'
      have := hlt b hm
      omega
  have k4 : Wr [c.po] W3 (W3.setCell ⟨c.po, 0, none⟩ v') := (Wr.refl [c.po] W3).setOn (by simp) v'
  have m0 : MapI W1 c.gn (numsOf (ord ++ [n])) := by rw [← numsOf_push hn]; exact hm
  have lows : ∀ b, vo.ownBlock = some b → c.B ≤ b := fun b hb => (h.own.lt b hb).1
  refine ⟨⟨?_, ((((h.bn.wr k1 (by simpa using n3)).wr0 k2).wr k3 (hf _ (by simp [CC.blocks]))).wr k4 (by simpa using n1)), ?_, ((((h.bm.wr k1 (by simpa using n6)).wr0 k2).wr k3 (hf _ (by simp [CC.blocks]))).wr k4 (by simpa using fun e => n4 e.symm)), ((m0.wr k2 (by simp)).wr k3 (hf _ (by simp [CC.blocks]))).wr k4 (by simpa using fun e => n5 e.symm), ?_, hbv, ?_, ?_⟩, ⟨?_, ?_⟩⟩
  · have b1 : Below c.B w W1 := k1.below (h.size hB) (fun x hx => by rw [List.mem_singleton] at hx; rw [hx]; exact hgn)
    have b2 : Below c.B W1 W2 := k2.below (Nat.le_trans (h.size hB) k1.size) (fun x hx => by cases hx)
    have b3 : Below c.B W2 W3 := k3.below (Nat.le_trans (h.size hB) s12) (fun x hx => lows x (mem_ownL.1 hx))
    have b4 : Below c.B W3 (W3.setCell ⟨c.po, 0, none⟩ v') := k4.below (Nat.le_trans (h.size hB) (Nat.le_trans s12 k3.size)) (fun x hx => by rw [List.mem_singleton] at hx; rw [hx]; exact hpo)
    exact (((h.bel.trans b1).trans b2).trans b3).trans b4
  · have := (((h.bo.wr k1 (by simpa using n5)).wr0 k2).wr k3 (hf _ (by simp [CC.blocks]))).set_ 0 v'
    simpa using this
  · rw [List.length_append, List.map_append]
    exact own_keep hown k4 (fun b hb hx => hbv b hb (by rw [List.mem_singleton] at hx; rw [hx]; simp [CC.blocks]))
  · rw [List.nodup_append]
    refine ⟨h.nodup, by simp, fun a ha b hb e => ?_⟩
    rw [List.mem_singleton] at hb
    subst hb
    subst e
    exact hn ha
  · intro x hx
    rcases List.mem_append.1 hx with h1 | h1
    · exact h.sub x h1
    · rw [List.mem_singleton] at h1
      rw [h1]
      exact ⟨hT, h10⟩
  · refine (((k1.more (fun x hx => by rw [List.mem_singleton] at hx; simp [hx])).trans0 k2).trans (k3.more (fun x hx => by simp [hx]))).trans (k4.more (fun x hx => by rw [List.mem_singleton] at hx; simp [hx]))
  · intro x hx
    rcases hb with h1 | h1
    · exact .inl (h1 ▸ hx)
    · rw [h1] at hx
      injection hx with hx
      exact .inr (by omega)
end
/-- What the closure answers. -/
def MetR (c : CC) (w0 : World) (nt : Nat) (ord : List Int) (vo : Value) (w : World) (e : Ending) (w' : World) : Prop :=
  e = .returned (.tuple #[]) ∧ ∃ vo', CEnv c w0 nt ord vo' w' ∧ CStep c vo w vo' w'
end Go.Proofs.Ytmpbkfbjmmoapaa
