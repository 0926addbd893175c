/- Types numbered anew: what Canon answers, and that it does not matter how they stood. No conditions. -/
import Derived.Test.YtildcdgobdfieaaGreatRD07
set_option linter.unusedVariables false
set_option linter.unusedSimpArgs false
set_option maxRecDepth 100000
set_option maxHeartbeats 32000000
namespace Go.Proofs.YtildcdgobdfieaaGreat
def kids (t : Ty) : List Int := t.base :: t.index :: (t.fields.map Fld.type ++ (t.params.map Par.type ++ [t.result]))
def kidsAt (ts : List Ty) (n : Int) : List Int := match ts[(n - 10).toNat]? with | some t => kids t | none => []
def meets (kd : Int → List Int) : Nat → List Int → List Int → List Int
 | 0, _, ord => ord
 | k + 1, l, ord => l.foldl (fun ord n => if n < 10 ∨ n ∈ ord then ord else meets kd k (kd n) (ord ++ [n])) ord
def itmKids (x : ItmD) : List Int := match x.v with | .item t _ => [x.type, t] | _ => [x.type]
def starts (f : FaceD) : List Int := f.items.flatMap itmKids
def ordOf (f : FaceD) : List Int := meets (kidsAt f.types) (f.types.length + 1) (starts f) []
def anewN (ord : List Int) (n : Int) : Int := match ord.idxOf? n with | some k => 10 + (k : Int) | none => n
def anewT (ord : List Int) (t : Ty) : Ty :=
 { t with base := anewN ord t.base, index := anewN ord t.index, result := anewN ord t.result, fields := t.fields.map (fun f => { f with type := anewN ord f.type }), params := t.params.map (fun p => { p with type := anewN ord p.type }) }
def anewV (ord : List Int) : AnyD → AnyD
 | .item t n => .item (anewN ord t) n
 | v => v
def anewI (ord : List Int) (x : ItmD) : ItmD := { x with type := anewN ord x.type, v := anewV ord x.v }
def zeroTy : Ty := ⟨0, ⟨#[]⟩, ⟨#[]⟩, 0, 0, 0, 0, [], [], [], [], 0⟩
def canonF (f : FaceD) : FaceD := { f with types := (ordOf f).map (fun n => anewT (ordOf f) ((f.types[(n - 10).toNat]?).getD zeroTy)), items := f.items.map (anewI (ordOf f)) }
def fresh (T : List Int) (ord : List Int) : Nat := (T.filter (fun n => decide (n ∉ ord))).length
theorem fresh_mono {T o o' : List Int} (h : ∀ n, n ∈ o → n ∈ o') : fresh T o' ≤ fresh T o :=
 filter_len _ _ (fun x hx => by simp only [decide_eq_true_eq] at hx ⊢; exact fun hm => hx (h x hm)) T
theorem fresh_lt {T o o' : List Int} (h : ∀ n, n ∈ o → n ∈ o') {n : Int} (hn : n ∈ T) (h0 : n ∉ o) (h1 : n ∈ o') : fresh T o' < fresh T o :=
 filter_len_lt _ _ (fun x hx => by simp only [decide_eq_true_eq] at hx ⊢; exact fun hm => hx (h x hm)) n (by simp [h1]) (by simp [h0]) T hn
section
variable {kd : Int → List Int}
theorem meets_cons (k : Nat) (n : Int) (l ord : List Int) : meets kd (k + 1) (n :: l) ord = meets kd (k + 1) l (if n < 10 ∨ n ∈ ord then ord else meets kd k (kd n) (ord ++ [n])) := by
 conv => lhs; unfold meets
 conv => rhs; unfold meets
 rw [List.foldl_cons]
theorem meets_nil (k : Nat) (ord : List Int) : meets kd k [] ord = ord := by cases k <;> rfl
theorem meets_more : ∀ (k : Nat) (l ord : List Int) (n : Int), n ∈ ord → n ∈ meets kd k l ord
 | 0, _, _, _, h => h
 | k + 1, [], ord, n, h => by rw [meets_nil]; exact h
 | k + 1, m :: l, ord, n, h => by
  rw [meets_cons]
  refine meets_more (k + 1) l _ n ?_
  split
  ·exact h
  ·exact meets_more k _ _ n (List.mem_append_left _ h)
theorem meets_all {T : List Int} (hT : ∀ n, 10 ≤ n → n ∈ T → ∀ x ∈ kd n, 10 ≤ x → x ∈ T) : ∀ (k : Nat) (l ord : List Int), (∀ x ∈ l, 10 ≤ x → x ∈ T) → (∀ x ∈ ord, x ∈ T ∧ 10 ≤ x) → ord.Nodup → (∀ x ∈ meets kd k l ord, x ∈ T ∧ 10 ≤ x) ∧ (meets kd k l ord).Nodup
 | 0, _, _, _, h, hn => ⟨h, hn⟩
 | k + 1, [], ord, _, h, hn => by rw [meets_nil]; exact ⟨h, hn⟩
 | k + 1, m :: l, ord, hl, h, hn => by
  rw [meets_cons]
  by_cases c : m < 10 ∨ m ∈ ord
  ·rw [if_pos c]
   exact meets_all hT (k + 1) l ord (fun x hx => hl x (by simp [hx])) h hn
  ·rw [if_neg c]
   have c1 : 10 ≤ m := by
    rcases Int.lt_or_le m 10 with h | h
    ·exact absurd (.inl h) c
    ·exact h
   have c2 : m ∉ ord := fun h => c (.inr h)
   have hm : m ∈ T := hl m (by simp) c1
   have := meets_all hT k (kd m) (ord ++ [m]) (hT m c1 hm) (fun x hx => by
    rcases List.mem_append.1 hx with h1 | h1
    ·exact h x h1
    ·rw [qmsq] at h1; rw [h1]; exact ⟨hm, c1⟩) (by
    rw [List.nodup_append]
    refine ⟨hn, by simp, fun a ha b hb e => ?_⟩
    rw [qmsq] at hb
    subst hb
    subst e
    exact c2 ha)
   exact meets_all hT (k + 1) l _ (fun x hx => hl x (by simp [hx])) this.1 this.2
theorem meets_full {T : List Int} (hT : ∀ n, 10 ≤ n → n ∈ T → ∀ x ∈ kd n, 10 ≤ x → x ∈ T) : ∀ (k : Nat) (l ord : List Int), fresh T ord < k → (∀ x ∈ l, 10 ≤ x → x ∈ T) →
  (∀ x ∈ l, 10 ≤ x → x ∈ meets kd k l ord) ∧ ∀ n, n ∈ meets kd k l ord → n ∉ ord → ∀ x ∈ kd n, 10 ≤ x → x ∈ meets kd k l ord
 | 0, _, _, h, _ => absurd h (by omega)
 | k + 1, [], ord, _, _ => by
  rw [meets_nil]
  exact ⟨(fun x hx => by cases hx), (fun n h1 h2 => absurd h1 h2)⟩
 | k + 1, m :: l, ord, hf, hl => by
  rw [meets_cons]
  by_cases c : m < 10 ∨ m ∈ ord
  ·rw [if_pos c]
   obtain ⟨h1, h2⟩ := meets_full hT (k + 1) l ord hf (fun x hx => hl x (by simp [hx]))
   refine ⟨fun x hx hx10 => ?_, h2⟩
   rcases List.mem_cons.1 hx with e | e
   ·rcases c with c | c
    ·omega
    ·rw [e]; exact meets_more _ _ _ _ c
   ·exact h1 x e hx10
  ·rw [if_neg c]
   have c1 : 10 ≤ m := by
    rcases Int.lt_or_le m 10 with h | h
    ·exact absurd (.inl h) c
    ·exact h
   have c2 : m ∉ ord := fun h => c (.inr h)
   have hm : m ∈ T := hl m (by simp) c1
   have hlt : fresh T (ord ++ [m]) < fresh T ord := fresh_lt (fun n h => List.mem_append_left _ h) hm c2 (by simp)
   obtain ⟨a1, a2⟩ := meets_full hT k (kd m) (ord ++ [m]) (by omega) (hT m c1 hm)
   have hin : m ∈ meets kd k (kd m) (ord ++ [m]) := meets_more _ _ _ _ (by simp)
   obtain ⟨b1, b2⟩ := meets_full hT (k + 1) l (meets kd k (kd m) (ord ++ [m])) (by
    have := fresh_mono (T := T) (o := ord) (o' := meets kd k (kd m) (ord ++ [m])) (fun n h => meets_more _ _ _ _ (List.mem_append_left _ h))
    omega) (fun x hx => hl x (by simp [hx]))
   refine ⟨fun x hx hx10 => ?_, fun n hn hno x hx hx10 => ?_⟩
   ·rcases List.mem_cons.1 hx with e | e
    ·rw [e]; exact meets_more _ _ _ _ hin
    ·exact b1 x e hx10
   ·by_cases hp : n ∈ meets kd k (kd m) (ord ++ [m])
    ·by_cases hq : n ∈ ord ++ [m]
     ·rcases List.mem_append.1 hq with h1 | h1
      ·exact absurd h1 hno
      ·rw [qmsq] at h1
       rw [h1] at hx
       exact meets_more _ _ _ _ (a1 x hx hx10)
     ·exact meets_more _ _ _ _ (a2 n hp hq x hx hx10)
    ·exact b2 n hn hp x hx hx10
end
def nums (nt : Nat) : List Int := (List.range nt).map fun i : Nat => 10 + (i : Int)
theorem nums_iff {nt : Nat} {n : Int} : n ∈ nums nt ↔ 10 ≤ n ∧ n < 10 + (nt : Int) := by
 unfold nums
 rw [List.mem_map]
 constructor
 ·rintro ⟨i, hi, rfl⟩
  rw [List.mem_range] at hi
  omega
 ·rintro ⟨h1, h2⟩
  exact ⟨(n - 10).toNat, List.mem_range.2 (by omega), by omega⟩
theorem tyB_iff {nt : Nat} {n : Int} : tyB nt n = true ↔ 0 ≤ n ∧ n < 10 + (nt : Int) := by
 unfold tyB
 rw [inB_iff]
 omega
theorem tyB_nums {nt : Nat} {n : Int} (h : tyB nt n = true) (h10 : 10 ≤ n) : n ∈ nums nt := nums_iff.2 ⟨h10, (tyB_iff.1 h).2⟩
theorem kids_form {nt : Nat} {t : Ty} (h : tyForm nt t = true) : ∀ x ∈ kids t, tyB nt x = true := by
 unfold tyForm at h
 simp only [Bool.and_eq_true, List.all_eq_true] at h
 obtain ⟨⟨⟨⟨⟨⟨⟨a1, a2⟩, a3⟩, a4⟩, a5⟩, a6⟩, a7⟩, a8⟩ := h
 intro x hx
 unfold kids at hx
 simp only [qmcq, List.mem_append, List.mem_map, qnnq, or_false] at hx
 rcases hx with rfl | rfl | ⟨f, hf, rfl⟩ | ⟨p, hp, rfl⟩ | rfl
 ·exact a1
 ·exact a2
 ·exact (a6 f hf).1
 ·exact a8 p hp
 ·exact a3
theorem itm_form {nt : Nat} {x : ItmD} (h : itmForm nt x = true) : ∀ n ∈ itmKids x, tyB nt n = true := by
 unfold itmForm anyForm at h
 unfold itmKids
 cases hv : x.v <;> rw [hv] at h <;> simp only [Bool.and_eq_true] at h <;> intro n hn <;> simp only [qmcq, qnnq, or_false] at hn
 all_goals first
  | (rcases hn with rfl | rfl
     · exact h.1.1
     · exact h.2.1)
  | (subst hn; exact h.1.1)
theorem len_sub : ∀ (l m : List Int), l.Nodup → (∀ x ∈ l, x ∈ m) → l.length ≤ m.length
 | [], _, _, _ => Nat.zero_le _
 | x :: l, m, hn, h => by
  rw [List.nodup_cons] at hn
  have hx := h x (by simp)
  have ih := len_sub l (m.erase x) hn.2 (fun y hy => (List.mem_erase_of_ne (fun e => by rw [e] at hy; exact hn.1 hy)).2 (h y (by simp [hy])))
  rw [List.length_erase_of_mem hx] at ih
  have := List.length_pos_of_mem hx
  rw [List.length_cons]
  omega
section
variable {f : FaceD}
theorem face_types (h : mayP f = 0) : ∀ t ∈ f.types, tyForm f.types.length t = true := by
 have := (face_parts h).2.2.2
 unfold faceForm at this
 simp only [Bool.and_eq_true, List.all_eq_true] at this
 exact this.1
theorem face_items (h : mayP f = 0) : ∀ x ∈ f.items, itmForm f.types.length x = true := by
 have := (face_parts h).2.2.2
 unfold faceForm at this
 simp only [Bool.and_eq_true, List.all_eq_true] at this
 exact this.2
theorem closed (h : mayP f = 0) : ∀ n, 10 ≤ n → n ∈ nums f.types.length → ∀ x ∈ kidsAt f.types n, 10 ≤ x → x ∈ nums f.types.length := by
 intro n _ hn x hx h10
 unfold kidsAt at hx
 cases ht : f.types[(n - 10).toNat]? with
 | none => rw [ht] at hx; cases hx
 | some t =>
  rw [ht] at hx
  exact tyB_nums (kids_form (face_types h t (List.mem_of_getElem? ht)) x hx) h10
theorem starts_in (h : mayP f = 0) : ∀ x ∈ starts f, 10 ≤ x → x ∈ nums f.types.length := by
 intro x hx h10
 unfold starts at hx
 obtain ⟨y, hy, hxy⟩ := List.mem_flatMap.1 hx
 exact tyB_nums (itm_form (face_items h y hy) x hxy) h10
theorem fresh_all (nt : Nat) : fresh (nums nt) [] = nt := by
 unfold fresh nums
 rw [List.filter_eq_self.2 (fun x _ => by simp), qlmq, List.length_range]
structure OrdOk (f : FaceD) (ord : List Int) : Prop where
 inT : ∀ x ∈ ord, x ∈ nums f.types.length
 high : ∀ x ∈ ord, 10 ≤ x
 nodup : ord.Nodup
 start : ∀ x ∈ starts f, 10 ≤ x → x ∈ ord
 kid : ∀ n ∈ ord, ∀ x ∈ kidsAt f.types n, 10 ≤ x → x ∈ ord
theorem ordOk (h : mayP f = 0) : OrdOk f (ordOf f) := by
 obtain ⟨a1, a2⟩ := meets_all (closed h) (f.types.length + 1) (starts f) [] (starts_in h) (by simp) (by simp)
 obtain ⟨b1, b2⟩ := meets_full (closed h) (f.types.length + 1) (starts f) [] (by rw [fresh_all]; omega) (starts_in h)
 exact ⟨fun x hx => (a1 x hx).1, fun x hx => (a1 x hx).2, a2, b1, fun n hn => b2 n hn (by simp)⟩
theorem idx_some {ord : List Int} {n : Int} (h : n ∈ ord) : ∃ k, ord.idxOf? n = some k ∧ ord[k]? = some n := by
 cases hx : ord.idxOf? n with
 | none => rw [List.idxOf?_eq_none_iff] at hx; exact absurd h hx
 | some k =>
  refine ⟨k, rfl, ?_⟩
  have := List.findIdx?_eq_some_iff_getElem.1 hx
  obtain ⟨hk, he, _⟩ := this
  rw [qgeq hk]
  simpa using he
theorem anewN_out {ord : List Int} {n : Int} (h : n ∉ ord) : anewN ord n = n := by
 unfold anewN
 rw [List.idxOf?_eq_none_iff.2 h]
theorem nodup_idx {ord : List Int} (hn : ord.Nodup) {i j : Nat} {n : Int} (h1 : ord[i]? = some n) (h2 : ord[j]? = some n) : i = j := by
 obtain ⟨hi, e1⟩ := List.getElem?_eq_some_iff.1 h1
 obtain ⟨hj, e2⟩ := List.getElem?_eq_some_iff.1 h2
 exact (List.getElem_inj (h₀ := hi) (h₁ := hj) hn).1 (e1.trans e2.symm)
theorem anewN_at {ord : List Int} (hn : ord.Nodup) {k : Nat} {n : Int} (h : ord[k]? = some n) : anewN ord n = 10 + (k : Int) := by
 obtain ⟨j, h1, h2⟩ := idx_some (List.mem_of_getElem? h)
 unfold anewN
 rw [h1, nodup_idx hn h h2]
theorem tyFit_anew (ord : List Int) (t : Ty) : tyFit (anewT ord t) = tyFit t := by
 unfold tyFit anewT
 simp [List.all_map, Function.comp_def]
theorem canon_type (h : mayP f = 0) {k : Nat} {n : Int} (hk : (ordOf f)[k]? = some n) : ∃ t, f.types[(n - 10).toNat]? = some t ∧ (canonF f).types[k]? = some (anewT (ordOf f) t) := by
 have hn := (ordOk h).inT n (List.mem_of_getElem? hk)
 rw [nums_iff] at hn
 have hlt : (n - 10).toNat < f.types.length := by omega
 refine ⟨f.types[(n - 10).toNat], qgeq hlt, ?_⟩
 unfold canonF
 simp only
 rw [qgmq, hk, Option.map_some, qgeq hlt]
 rfl
theorem canon_len : (canonF f).types.length = (ordOf f).length := by simp [canonF]
theorem ord_len (h : mayP f = 0) : (ordOf f).length ≤ f.types.length := by
 have o := ordOk h
 have : (ordOf f).length ≤ (nums f.types.length).length := by
  exact len_sub _ _ o.nodup (fun x hx => o.inT x hx)
 simpa [nums] using this
theorem anew_range (h : mayP f = 0) {x : Int} (hx : 0 ≤ x) (hin : 10 ≤ x → x ∈ ordOf f) : tyB (ordOf f).length (anewN (ordOf f) x) = true := by
 have o := ordOk h
 rcases Int.lt_or_le x 10 with h1 | h1
 ·rw [anewN_out (fun hm => by have := o.high x hm; omega)]
  exact tyB_iff.2 ⟨hx, by omega⟩
 ·obtain ⟨k, hk⟩ := List.getElem?_of_mem (hin h1)
  have hl := (List.getElem?_eq_some_iff.1 hk).1
  rw [anewN_at o.nodup hk]
  exact tyB_iff.2 ⟨by omega, by omega⟩
theorem tyForm_anew {ord : List Int} {nt nt' : Nat} {t : Ty} (h : tyForm nt t = true) (hk : ∀ x ∈ kids t, tyB nt' (anewN ord x) = true) : tyForm nt' (anewT ord t) = true := by
 unfold tyForm at h ⊢
 unfold kids at hk
 simp only [Bool.and_eq_true, List.all_eq_true, anewT, List.mem_map] at h ⊢
 obtain ⟨⟨⟨⟨⟨⟨⟨a1, a2⟩, a3⟩, a4⟩, a5⟩, a6⟩, a7⟩, a8⟩ := h
 refine ⟨⟨⟨⟨⟨⟨⟨hk _ (by simp), hk _ (by simp)⟩, hk _ (by simp)⟩, a4⟩, a5⟩, ?_⟩, a7⟩, ?_⟩
 ·rintro _ ⟨x, hx, rfl⟩
  exact ⟨hk _ (by simp only [qmcq, List.mem_append, List.mem_map]; exact .inr (.inr (.inl ⟨x, hx, rfl⟩))), (a6 x hx).2⟩
 ·rintro _ ⟨x, hx, rfl⟩
  exact hk _ (by simp only [qmcq, List.mem_append, List.mem_map]; exact .inr (.inr (.inr (.inl ⟨x, hx, rfl⟩))))
theorem itmForm_anew {ord : List Int} {nt nt' : Nat} {x : ItmD} (h : itmForm nt x = true) (hk : ∀ n ∈ itmKids x, tyB nt' (anewN ord n) = true) : itmForm nt' (anewI ord x) = true := by
 unfold itmForm anyForm at h ⊢
 unfold itmKids at hk
 unfold anewI anewV
 cases hv : x.v <;> rw [hv] at h hk <;> simp only [Bool.and_eq_true, qmcq, qnnq, or_false] at h hk ⊢
 all_goals first
  | (exact ⟨⟨hk _ rfl, h.1.2⟩, h.2⟩)
  | (exact ⟨⟨hk _ (.inl rfl), h.1.2⟩, ⟨hk _ (.inr rfl), h.2.2⟩⟩)
theorem may_of {f : FaceD} (h1 : faceFit f = true) (h2 : onceB [] (f.uses.map UseD.module) = true) (h3 : onceB [] (f.items.map ItmD.name) = true) (h4 : faceForm f = true) : mayP f = 0 := by
 unfold mayP
 simp [h1, h2, h3, h4]
theorem itmFit_anew (ord : List Int) (x : ItmD) : itmFit (anewI ord x) = itmFit x := by
 unfold itmFit anewI anewV anyFit
 cases x.v <;> rfl
theorem canon_may (h : mayP f = 0) : mayP (canonF f) = 0 := by
 obtain ⟨h1, h2, h3, h4⟩ := face_parts h
 have o := ordOk h
 have hl := ord_len h
 have hpos : ∀ n, tyB f.types.length n = true → 0 ≤ n := fun n hn => (tyB_iff.1 hn).1
 refine may_of ?_ h2 ?_ ?_
 ·unfold faceFit at h1 ⊢
  simp only [Bool.and_eq_true, decide_eq_true_eq, List.all_eq_true] at h1 ⊢
  obtain ⟨⟨⟨⟨⟨⟨a1, a2⟩, a3⟩, a4⟩, a5⟩, a6⟩, a7⟩ := h1
  refine ⟨⟨⟨⟨⟨⟨a1, by simpa [canonF] using a2⟩, by rw [canon_len]; omega⟩, a4⟩, a5⟩, fun t ht => ?_⟩, fun x hx => ?_⟩
  ·obtain ⟨k, hk⟩ := List.getElem?_of_mem ht
   have hkl := (List.getElem?_eq_some_iff.1 hk).1
   rw [canon_len] at hkl
   obtain ⟨t', e1, e2⟩ := canon_type h (qgeq hkl)
   rw [hk] at e2
   injection e2 with e2
   rw [e2, tyFit_anew]
   exact a6 t' (List.mem_of_getElem? e1)
  ·obtain ⟨y, hy, rfl⟩ := List.mem_map.1 hx
   rw [itmFit_anew]
   exact a7 y hy
 ·have : (canonF f).items.map ItmD.name = f.items.map ItmD.name := by simp [canonF, anewI, Function.comp_def]
  rw [this]
  exact h3
 ·unfold faceForm
  rw [canon_len]
  simp only [Bool.and_eq_true, List.all_eq_true]
  refine ⟨fun t ht => ?_, fun x hx => ?_⟩
  ·obtain ⟨k, hk⟩ := List.getElem?_of_mem ht
   have hkl := (List.getElem?_eq_some_iff.1 hk).1
   rw [canon_len] at hkl
   obtain ⟨t', e1, e2⟩ := canon_type h (qgeq hkl)
   rw [hk] at e2
   injection e2 with e2
   rw [e2]
   have hf := face_types h t' (List.mem_of_getElem? e1)
   refine tyForm_anew hf (fun x hx => anew_range h (hpos x (kids_form hf x hx)) (fun h10 => o.kid _ (List.getElem_mem hkl) x ?_ h10))
   unfold kidsAt
   rw [e1]
   exact hx
  ·obtain ⟨y, hy, rfl⟩ := List.mem_map.1 hx
   have hf := face_items h y hy
   exact itmForm_anew hf (fun n hn => anew_range h (hpos n (itm_form hf n hn)) (fun h10 => o.start n (List.mem_flatMap.2 ⟨y, hy, hn⟩) h10))
end
theorem faceW_canon {f : FaceD} (h : faceW f) (hm : mayP f = 0) : faceW (canonF f) := by
 refine ⟨h.keys, fun t ht => ?_, fun x hx => ?_, fun x hx => ?_⟩
 ·obtain ⟨k, hk⟩ := List.getElem?_of_mem ht
  unfold canonF at hk
  rw [qgmq] at hk
  cases hn : (ordOf f)[k]? with
  | none => rw [hn] at hk; cases hk
  | some n =>
   obtain ⟨t0, h0, h1⟩ := canon_type hm hn
   rw [hn] at hk
   simp only [Option.map_some, Option.some.injEq] at hk
   rw [h0] at hk
   simp only [Option.getD_some] at hk
   subst hk
   exact h.kinds t0 (List.mem_of_getElem? h0)
 ·unfold canonF at hx
  obtain ⟨y, hy, rfl⟩ := List.mem_map.1 hx
  exact h.sorts y hy
 ·unfold canonF at hx
  obtain ⟨y, hy, rfl⟩ := List.mem_map.1 hx
  have := h.vals y hy
  unfold anewI
  revert this
  cases y.v <;> exact id
end Go.Proofs.YtildcdgobdfieaaGreat
namespace Go.Proofs.YtildcdgobdfieaaGreat
open Go.RowKit
def byteN (n size i : Nat) : Nat := n / 2 ^ (8 * (size - 1 - i)) % 256
def bytesN (s : ByteArray) (n size : Nat) : Nat → ByteArray
 | 0 => s
 | i + 1 => bytesN s n size i ++ ⟨#[UInt8.ofNat (byteN n size i)]⟩
theorem bytesN_size (s : ByteArray) (n size i : Nat) : (bytesN s n size i).size = s.size + i := by
 induction i with
 | zero => rfl
 | succ i ih =>
  unfold bytesN
  rw [ByteArray.size_append, ih]
  rfl
def Wlk (w : World) (b : Nat) (s : ByteArray) (bad : Bool) : Prop := Blk w b 160 #[.string s, .bool false, .bool bad]
theorem conv_one (w : World) (g n : Nat) (hc : w.cell? ⟨g, 0, none⟩ = some (.int .u8 (n : Int))) :
  (convert 42 9 (.slice (some ⟨g, 0, none⟩) 1 1)).run Tryz.prog w = .ok (.string ⟨#[UInt8.ofNat n]⟩) w := by
 rw [run_convert_bytes_string w _ _ 5 _ 1 1 Tryz.underlying42 Tryz.underlying5 Tryz.underlying9,
  run_bytesToString w ⟨g, 0, none⟩ 1 1 [(n : Int)] (by simp [loadCells, loadCellsFrom, run_load, hc, Sem.run_bind, Result.andThen, Sem.run_pure, Addr.add])]
 simp only [List.foldl_cons, List.foldl_nil, Int.toNat_natCast]
 rfl
def BytesAt (b : Nat) (s : ByteArray) (n size : Nat) (bad : Bool) (w : World) (v : Value) (w' : World) : Prop :=
 ∃ i : Nat, i ≤ size ∧ v = .int .i64 i ∧ Wr [b] w w' ∧ Wlk w' b (bytesN s n size i) bad
theorem bytes_any (b n size : Nat) (s : ByteArray) (bad : Bool) (hn : n < 2 ^ 64) (hs : size ≤ 8) (hroom : s.size + size ≤ maxLen) (w : World) (hb : Wlk w b s bad) :
  Calls Tryz.prog 109 #[.pointer (some ⟨b, 0, none⟩), .int .u64 (n : Int), .int .i64 (size : Int)] w fun e w' => e = .returned (.int .u64 (n : Int)) ∧ Wr [b] w w' ∧ Wlk w' b (bytesN s n size size) bad := by
 obtain ⟨c0, c1, c2⟩ := c3q hb
 go_in
 go_upto_region 3 with (fail)
 go_loopw [16] (fun v wr => BytesAt b s n size bad w v wr) (fun v _ => size - (intOf v).toNat)
 case atStart => exact ⟨0, by omega, rfl, Wr.refl _ _, hb⟩
 case round =>
  obtain ⟨i, hi, rfl, hw, hb'⟩ := hrel
  by_cases hlt : i < size
  ·have h0 : (0 : Int) ≤ (i : Int) := by omega
   have h1 : (i : Int) < (size : Int) := by omega
   clear c0 c1 c2
   obtain ⟨c0, c1, c2⟩ := c3q hb'
   go_upto_region 5 with (fail)
   have e1 : IntKind.i64.wrap ((size : Int) - 1) = ((size - 1 : Nat) : Int) := by rw [IntKind.wrap_i64]; omega
   have e2 : IntKind.i64.wrap (((size - 1 : Nat) : Int) - (i : Int)) = ((size - 1 - i : Nat) : Int) := by rw [IntKind.wrap_i64]; omega
   have e3 : IntKind.i64.wrap (8 * ((size - 1 - i : Nat) : Int)) = ((8 * (size - 1 - i) : Nat) : Int) := by rw [IntKind.wrap_i64]; omega
   have hm : size - 1 - i < 8 := by omega
   have hwr := qh hw
   have hb2 := qh hb'
   clear hw hb' c1 c2
   have eb : IntKind.u8.wrap ((n : Int) / 2 ^ (8 * (size - 1 - i))) = ((byteN n size i : Nat) : Int) := by
    unfold byteN
    rw [IntKind.wrap_u8]
    push_cast
    rfl
   have hbs : bytesN s n size (i + 1) = bytesN s n size i ++ ⟨#[UInt8.ofNat (byteN n size i)]⟩ := rfl
   have hcv := conv_one (wr.alloc (.cells #[.int .u8 ((byteN n size i : Nat) : Int)] 5)).drew wr.heap.size (byteN n size i) (by simp)
   have hbl : ¬9223372036854775807 < (bytesN s n size i).size + 1 := by rw [bytesN_size]; unfold maxLen at hroom; omega
   have q0 := ((Wr.refl [] wr).alloc (.cells #[.int .u8 ((byteN n size i : Nat) : Int)] 5)).cellOf c0 (by simp)
   have q1 := ((Wr.refl [] wr).alloc (.cells #[.int .u8 ((byteN n size i : Nat) : Int)] 5)).frozenOf c0 (hb2.out.frozen 0) (by simp)
   have HBS := qh hbs
   clear hbs
   generalize hc : byteN n size i = c at *
   generalize hM : 8 * (size - 1 - i) = M at *
   generalize hA : size - 1 - i = A at *
   generalize hB : size - 1 = B at *
   refine begin1 17 [] (fun w' => w'.cell? ⟨b, 0, none⟩ = some (.string (bytesN s n size i))) (by kernel_rfl) (fun W hW => hW.cellOf c0 (by simp)) fun HC hcl hS => ?_
   refine mvu 0 (by rfl) (by kernel_rfl) (by rfl) (fun w' hS => by (try go_split_ands); go_simp; try rfl) hcl hS fun hcl1 hS1 => ?_
   clear hcl hS
   try simp only [Act.put, qsaq, qszq, qssq]
   refine mvu 1 (by rfl) (by kernel_rfl) (by rfl) (fun w' hS => by (try go_split_ands); go_simp; try rfl) hcl1 hS1 fun hcl2 hS2 => ?_
   clear hcl1 hS1
   try simp only [Act.put, qsaq, qszq, qssq]
   refine mvu 2 (by rfl) (by kernel_rfl) (by rfl) (fun w' hS => by (try go_split_ands); go_simp; try rfl) hcl2 hS2 fun hcl3 hS3 => ?_
   clear hcl2 hS2
   try simp only [Act.put, qsaq, qszq, qssq]
   refine mvu 3 (by rfl) (by kernel_rfl) (by rfl) (fun w' hS => by (try go_split_ands); go_simp; try rfl) hcl3 hS3 fun hcl4 hS4 => ?_
   clear hcl3 hS3
   try simp only [Act.put, qsaq, qszq, qssq]
   refine mvu 4 (by rfl) (by kernel_rfl) (by rfl) (fun w' hS => by (try go_split_ands); go_simp; try rfl) hcl4 hS4 fun hcl5 hS5 => ?_
   clear hcl4 hS4
   try simp only [Act.put, qsaq, qszq, qssq]
   refine mvu 5 (by rfl) (by kernel_rfl) (by rfl) (fun w' hS => by (try go_split_ands); go_simp; try rfl) hcl5 hS5 fun hcl6 hS6 => ?_
   clear hcl5 hS5
   try simp only [Act.put, qsaq, qszq, qssq]
   refine mvu 6 (by rfl) (by kernel_rfl) (by rfl) (fun w' hS => by (try go_split_ands); go_simp; try rfl) hcl6 hS6 fun hcl7 hS7 => ?_
   clear hcl6 hS6
   try simp only [Act.put, qsaq, qszq, qssq]
   refine mvu 7 (by rfl) (by kernel_rfl) (by rfl) (fun w' hS => by (try go_split_ands); go_simp; try rfl) hcl7 hS7 fun hcl8 hS8 => ?_
   clear hcl7 hS7
   try simp only [Act.put, qsaq, qszq, qssq]
   refine mvu 8 (by rfl) (by kernel_rfl) (by rfl) (fun w' hS => by (try go_split_ands); go_simp; try rfl) hcl8 hS8 fun hcl9 hS9 => ?_
   clear hcl8 hS8
   try simp only [Act.put, qsaq, qszq, qssq]
   refine mvu 9 (by rfl) (by kernel_rfl) (by rfl) (fun w' hS => by (try go_split_ands); go_simp; try rfl) hcl9 hS9 fun hcl10 hS10 => ?_
   clear hcl9 hS9
   try simp only [Act.put, qsaq, qszq, qssq]
   refine mvu 10 (by rfl) (by kernel_rfl) (by rfl) (fun w' hS => by (try go_split_ands); go_simp; try rfl) hcl10 hS10 fun hcl11 hS11 => ?_
   clear hcl10 hS10
   try simp only [Act.put, qsaq, qszq, qssq]
   refine mvu 11 (by rfl) (by kernel_rfl) (by rfl) (fun w' hS => by (try go_split_ands); go_simp; try rfl) hcl11 hS11 fun hcl12 hS12 => ?_
   clear hcl11 hS11
   try simp only [Act.put, qsaq, qszq, qssq]
   refine st0 12 (by rfl) (by kernel_rfl) hcl12 fun K hK => ?_
   go_simp
   refine hK _ _ (fun _ => HC.out _ (((Wr.refl _ wr).alloc _).drew)) (fun hcl13 => ?_)
   clear hK K hcl12 hS12
   try simp only [Act.put, qsaq, qszq, qssq]
   refine st0 13 (by rfl) (by kernel_rfl) hcl13 fun K hK => ?_
   go_simp
   refine hK _ _ (fun _ => HC.out _ (((Wr.refl _ wr).alloc _).drew)) (fun hcl14 => ?_)
   clear hK K hcl13
   try simp only [Act.put, qsaq, qszq, qssq]
   refine wpAnyL_take (i := 14) (oi := ?oi15) (v := ?v15) ?hi15 (by kernel_rfl) (by kernel_rfl) (by kernel_rfl) (fun _ _ _ h => h) (until_take 17 _ (by decide)) ?hy15 hcl14 (fun _ => HC.out _ (((Wr.refl _ wr).alloc _).drew)) ?rest15
   case hi15 =>
    simp only [qgaq, qgsq, qgzq]
    rfl
   case hy15 =>
    refine yields_until (by kernel_rfl) (Or.inl ⟨by rfl, fun w' hS => ?_⟩)
    try go_split_ands
    go_simp
    try rfl
   intro hcl15 hS15
   clear hcl14
   try simp only [Act.put, qsaq, qszq, qssq]
   refine st0 15 (by rfl) (by kernel_rfl) hcl15 fun K hK => ?_
   go_simp
   refine hK _ _ (fun _ => HC.out _ (((Wr.refl _ wr).alloc _).drew)) (fun hcl16 => ?_)
   clear hK K hcl15 hS15
   try simp only [Act.put, qsaq, qszq, qssq]
   refine wpAnyL_take (i := 16) (oi := ?oi17) (v := ?v17) ?hi17 (by kernel_rfl) (by kernel_rfl) (by kernel_rfl) (fun _ _ _ h => h) (until_take 17 _ (by decide)) ?hy17 hcl16 (fun _ => HC.out _ (((Wr.refl _ wr).alloc _).drew)) ?rest17
   case hi17 =>
    simp only [qgaq, qgsq, qgzq]
    rfl
   case hy17 =>
    refine yields_until (by kernel_rfl) (Or.inl ⟨by rfl, fun w' hS => ?_⟩)
    try go_split_ands
    go_simp
    try rfl
   intro hcl17 hS17
   clear hcl16
   try simp only [Act.put, qsaq, qszq, qssq]
   refine st0 17 (by rfl) (by kernel_rfl) hcl17 fun K hK => ?_
   go_simp
   refine hK _ _ (fun hb => absurd hb (by decide)) (fun hcl999 => ?_)
   clear hK K hcl17 hS17
   refine wpAnyL_done (by kernel_rfl) (NoPanic.normal ?_) _
   try simp only [Act.put, qsaq, qszq, qssq]
   clear hcv eb e1 e2 e3
   go_wp2_with fail
   refine ⟨⟨i + 1, by omega, by push_cast; rfl, (hwr.out.trans (((Wr.refl [b] wr).alloc _).setOn (by simp) _)).drew, ?_⟩, ?_⟩
   ·rw [HBS.out]
    have := ((hb2.out.alloc (.cells #[.int .u8 (c : Int)] 5)).set_ 0 (.string (bytesN s n size i ++ ⟨#[UInt8.ofNat c]⟩))).drew
    unfold Wlk
    simpa using this
   ·show size - ((i : Int) + 1).toNat < size - (i : Int).toNat
    omega
  ·have hks : i = size := by omega
   subst hks
   go_wp2_with fail
   go_ret
   exact ⟨rfl, hw, hb'⟩
theorem count_any (b n : Nat) (s : ByteArray) (bad : Bool) (hn : n ≤ 65535) (hroom : s.size + 2 ≤ maxLen) (w : World) (hb : Wlk w b s bad) :
  Calls Tryz.prog 141 #[.pointer (some ⟨b, 0, none⟩), .int .i64 (n : Int)] w fun e w' => e = .returned (.int .i64 (n : Int)) ∧ Wr [b] w w' ∧ Wlk w' b (bytesN s n 2 2) bad := by
 have h := bytes_any b n 2 s bad (by omega) (by omega) hroom w hb
 have e1 : IntKind.u64.wrap (n : Int) = (n : Int) := by rw [IntKind.wrap_u64]; omega
 have e2 : IntKind.i64.wrap (n : Int) = (n : Int) := by rw [IntKind.wrap_i64]; omega
 have e3 : wrap64 (n : Int) = (n : Int) := by unfold wrap64; omega
 have H := qh h
 clear hb
 go_in
 go_wp2_with fail
 refine H.out.mono ?_
 rintro e w1 ⟨rfl, r1, b1⟩
 go_wp2_with fail
 go_ret
 exact ⟨rfl, r1, b1⟩
theorem raw_any (b : Nat) (p : Addr) (n : Int) (s t : ByteArray) (bad : Bool) (hroom : s.size + t.size ≤ maxLen) (w : World) (hb : Wlk w b s bad) (ct : w.cell? p = some (.string t)) :
  Calls Tryz.prog 140 #[.pointer (some ⟨b, 0, none⟩), .pointer (some p), .int .i64 n] w fun e w' => e = .returned (.tuple #[]) ∧ Wr [b] w w' ∧ Wlk w' b (s ++ t) bad := by
 obtain ⟨c0, c1, c2⟩ := c3q hb
 have q1 := hb.frozen 0
 have hbl : ¬9223372036854775807 < s.size + t.size := by unfold maxLen at hroom; omega
 go_in
 go_upto_region 1 with (fail)
 refine begin1 10 [] (fun w' => w'.cell? ⟨b, 0, none⟩ = some (.string s) ∧ w'.cell? p = some (.string t)) (by kernel_rfl) (fun W hW => ⟨hW.cellOf c0 (by simp), hW.cellOf ct (by simp)⟩) fun HC hcl hS => ?_
 refine mvu 0 (by rfl) (by kernel_rfl) (by rfl) (fun w' hS => by (try go_split_ands); go_simp; try rfl) hcl hS fun hcl101 hS101 => ?_
 clear hcl hS
 try simp only [Act.put, qsaq, qszq, qssq]
 refine mvu 1 (by rfl) (by kernel_rfl) (by rfl) (fun w' hS => by (try go_split_ands); go_simp; try rfl) hcl101 hS101 fun hcl102 hS102 => ?_
 clear hcl101 hS101
 try simp only [Act.put, qsaq, qszq, qssq]
 refine mvu 2 (by rfl) (by kernel_rfl) (by rfl) (fun w' hS => by (try go_split_ands); go_simp; try rfl) hcl102 hS102 fun hcl103 hS103 => ?_
 clear hcl102 hS102
 try simp only [Act.put, qsaq, qszq, qssq]
 refine mvu 3 (by rfl) (by kernel_rfl) (by rfl) (fun w' hS => by (try go_split_ands); go_simp; try rfl) hcl103 hS103 fun hcl104 hS104 => ?_
 clear hcl103 hS103
 try simp only [Act.put, qsaq, qszq, qssq]
 refine mvu 4 (by rfl) (by kernel_rfl) (by rfl) (fun w' hS => by (try go_split_ands); go_simp; try rfl) hcl104 hS104 fun hcl105 hS105 => ?_
 clear hcl104 hS104
 try simp only [Act.put, qsaq, qszq, qssq]
 refine mvu 5 (by rfl) (by kernel_rfl) (by rfl) (fun w' hS => by (try go_split_ands); go_simp; try rfl) hcl105 hS105 fun hcl106 hS106 => ?_
 clear hcl105 hS105
 try simp only [Act.put, qsaq, qszq, qssq]
 refine mvu 6 (by rfl) (by kernel_rfl) (by rfl) (fun w' hS => by (try go_split_ands); go_simp; try rfl) hcl106 hS106 fun hcl107 hS107 => ?_
 clear hcl106 hS106
 try simp only [Act.put, qsaq, qszq, qssq]
 refine mvu 7 (by rfl) (by kernel_rfl) (by rfl) (fun w' hS => by (try go_split_ands); go_simp; try rfl) hcl107 hS107 fun hcl108 hS108 => ?_
 clear hcl107 hS107
 try simp only [Act.put, qsaq, qszq, qssq]
 refine st0 8 (by rfl) (by kernel_rfl) hcl108 fun K hK => ?_
 go_simp
 refine hK _ _ (fun _ => HC.out _ ((Wr.refl _ w).drew)) (fun hcl109 => ?_)
 clear hK K hcl108 hS108
 try simp only [Act.put, qsaq, qszq, qssq]
 refine mvu 9 (by rfl) (by kernel_rfl) (by rfl) (fun w' hS => by (try go_split_ands); go_simp; try rfl) hcl109 (fun _ => HC.out _ ((Wr.refl _ w).drew)) fun hcl110 hS110 => ?_
 clear hcl109
 try simp only [Act.put, qsaq, qszq, qssq]
 refine st0 10 (by rfl) (by kernel_rfl) hcl110 fun K hK => ?_
 go_simp
 refine hK _ _ (fun hb => absurd hb (by decide)) (fun hcl999 => ?_)
 clear hK K hcl110 hS110
 refine wpAnyL_done (by kernel_rfl) (NoPanic.normal ?_) _
 try simp only [Act.put, qsaq, qszq, qssq]
 clear hbl ct
 go_wp2_with fail
 refine bodyPost_ret (results_none Tryz.results140 _ _ _) rfl ?_
 refine ⟨rfl, ((Wr.refl [b] w).setOn (by simp) _).drew, ?_⟩
 have := (Blk.set_ hb 0 (.string (s ++ t))).drew
 unfold Wlk
 simpa using this
def textE (s t : ByteArray) : ByteArray := bytesN s t.size 1 1 ++ t
theorem text_any_w (b : Nat) (p : Addr) (s t : ByteArray) (bad : Bool) (ht : t.size ≤ 255) (hroom : s.size + 1 + t.size ≤ maxLen) (w : World) (hb : Wlk w b s bad) (ct : w.cell? p = some (.string t)) (hp : p.block ≠ b) :
  Calls Tryz.prog 106 #[.pointer (some ⟨b, 0, none⟩), .pointer (some p)] w fun e w' => e = .returned (.tuple #[]) ∧ Wr [b] w w' ∧ Wlk w' b (textE s t) bad := by
 have h := bytes_any b t.size 1 s bad (by omega) (by omega) (by omega) w hb
 have h2 := fun n w (hb : Wlk w b (bytesN s t.size 1 1) bad) ct => raw_any b p n (bytesN s t.size 1 1) t bad (by rw [bytesN_size]; exact hroom) w hb ct
 have e1 : IntKind.u64.wrap (t.size : Int) = (t.size : Int) := by rw [IntKind.wrap_u64]; omega
 have e2 : IntKind.i64.wrap (t.size : Int) = (t.size : Int) := by rw [IntKind.wrap_i64]; omega
 have H := qh h
 clear hb
 go_in
 go_wp2_with fail
 refine H.out.mono ?_
 rintro e w1 ⟨rfl, r1, b1⟩
 replace ct := r1.cellOf ct (by simp [hp])
 go_wp2_with fail
 refine (h2 _ _ b1 ct).mono ?_
 rintro e w2 ⟨rfl, r2, b2⟩
 go_wp2_with fail
 refine bodyPost_end (results_none Tryz.results106 _ _ _) rfl ?_
 exact ⟨rfl, r1.trans r2, b2⟩
theorem listUse_nil (b : Nat) (p : Addr) (fv : Value) (s : ByteArray) (bad : Bool) (hroom : s.size + 2 ≤ maxLen) (w : World) (hb : Wlk w b s bad) (ct : w.cell? p = some (.slice none 0 0)) (hp : p.block ≠ b) :
  Calls Tryz.prog 107 #[.pointer (some ⟨b, 0, none⟩), .pointer (some p), fv] w fun e w' => e = .returned (.tuple #[]) ∧ Wr [b] w w' ∧ Wlk w' b (bytesN s 0 2 2) bad := by
 have h := count_any b 0 s bad (by omega) hroom w hb
 have H := qh h
 clear hb
 go_in
 go_wp2_with fail
 refine H.out.mono ?_
 rintro e w1 ⟨rfl, r1, b1⟩
 replace ct := r1.cellOf ct (by simp [hp])
 obtain ⟨c0, c1, c2⟩ := c3q b1
 go_wp2_with fail
 refine wp_loop_rounds 1 ?_
 rw [rounds_succ]
 go_wp2_with fail
 refine bodyPost_end (results_none Tryz.results107 _ _ _) rfl ?_
 exact ⟨rfl, r1, b1⟩
theorem listType_nil (b : Nat) (p : Addr) (fv : Value) (s : ByteArray) (bad : Bool) (hroom : s.size + 2 ≤ maxLen) (w : World) (hb : Wlk w b s bad) (ct : w.cell? p = some (.slice none 0 0)) (hp : p.block ≠ b) :
  Calls Tryz.prog 110 #[.pointer (some ⟨b, 0, none⟩), .pointer (some p), fv] w fun e w' => e = .returned (.tuple #[]) ∧ Wr [b] w w' ∧ Wlk w' b (bytesN s 0 2 2) bad := by
 have h := count_any b 0 s bad (by omega) hroom w hb
 have H := qh h
 clear hb
 go_in
 go_wp2_with fail
 refine H.out.mono ?_
 rintro e w1 ⟨rfl, r1, b1⟩
 replace ct := r1.cellOf ct (by simp [hp])
 obtain ⟨c0, c1, c2⟩ := c3q b1
 go_wp2_with fail
 refine wp_loop_rounds 1 ?_
 rw [rounds_succ]
 go_wp2_with fail
 refine bodyPost_end (results_none Tryz.results110 _ _ _) rfl ?_
 exact ⟨rfl, r1, b1⟩
theorem listExport_nil (b : Nat) (p : Addr) (fv : Value) (s : ByteArray) (bad : Bool) (hroom : s.size + 2 ≤ maxLen) (w : World) (hb : Wlk w b s bad) (ct : w.cell? p = some (.slice none 0 0)) (hp : p.block ≠ b) :
  Calls Tryz.prog 112 #[.pointer (some ⟨b, 0, none⟩), .pointer (some p), fv] w fun e w' => e = .returned (.tuple #[]) ∧ Wr [b] w w' ∧ Wlk w' b (bytesN s 0 2 2) bad := by
 have h := count_any b 0 s bad (by omega) hroom w hb
 have H := qh h
 clear hb
 go_in
 go_wp2_with fail
 refine H.out.mono ?_
 rintro e w1 ⟨rfl, r1, b1⟩
 replace ct := r1.cellOf ct (by simp [hp])
 obtain ⟨c0, c1, c2⟩ := c3q b1
 go_wp2_with fail
 refine wp_loop_rounds 1 ?_
 rw [rounds_succ]
 go_wp2_with fail
 refine bodyPost_end (results_none Tryz.results112 _ _ _) rfl ?_
 exact ⟨rfl, r1, b1⟩
end Go.Proofs.YtildcdgobdfieaaGreat
