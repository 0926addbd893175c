/- Types numbered anew: what Canon answers, and that it does not matter how they stood. No conditions. -/
import Derived.Test.YtjanbpchedgoiaaGreatKT12
set_option linter.unusedVariables false
set_option linter.unusedSimpArgs false
set_option maxRecDepth 100000
set_option maxHeartbeats 32000000
namespace Go.Proofs.YtjanbpchedgoiaaGreat
def kids (t : Ty) : List Int := t.base :: t.index :: (t.fields.map Fld.type ++ (t.params.map Par.type ++ [t.result]))
def kidsAt (ts : List Ty) (n : Int) : List Int := match ts[(n - 10).toNat]? with | some t => kids t | none => []
def meets (kd : Int → List Int) : Nat → List Int → List Int → List Int
 | 0, _, ord => ord
 | k + 1, l, ord => l.foldl (fun ord n => if n < 10 ∨ n ∈ ord then ord else meets kd k (kd n) (ord ++ [n])) ord
def itmKids (x : ItmD) : List Int := match x.v with | .item t _ => [x.type, t] | _ => [x.type]
def starts (f : FaceD) : List Int := f.items.flatMap itmKids
def ordOf (f : FaceD) : List Int := meets (kidsAt f.types) (f.types.length + 1) (starts f) []
def anewN (ord : List Int) (n : Int) : Int := match ord.idxOf? n with | some k => 10 + (k : Int) | none => n
def anewT (ord : List Int) (t : Ty) : Ty :=
 { t with base := anewN ord t.base, index := anewN ord t.index, result := anewN ord t.result, fields := t.fields.map (fun f => { f with type := anewN ord f.type }), params := t.params.map (fun p => { p with type := anewN ord p.type }) }
def anewV (ord : List Int) : AnyD → AnyD
 | .item t n => .item (anewN ord t) n
 | v => v
def anewI (ord : List Int) (x : ItmD) : ItmD := { x with type := anewN ord x.type, v := anewV ord x.v }
def zeroTy : Ty := ⟨0, ⟨#[]⟩, ⟨#[]⟩, 0, 0, 0, 0, [], [], [], [], 0⟩
def canonF (f : FaceD) : FaceD := { f with types := (ordOf f).map (fun n => anewT (ordOf f) ((f.types[(n - 10).toNat]?).getD zeroTy)), items := f.items.map (anewI (ordOf f)) }
def canonP (f : FaceD) : FaceD × Int := if mayP f = 0 then (canonF f, 0) else (noFace, mayP f)
def fresh (T : List Int) (ord : List Int) : Nat := (T.filter (fun n => decide (n ∉ ord))).length
theorem fresh_mono {T o o' : List Int} (h : ∀ n, n ∈ o → n ∈ o') : fresh T o' ≤ fresh T o :=
 filter_len _ _ (fun x hx => by simp only [decide_eq_true_eq] at hx ⊢; exact fun hm => hx (h x hm)) T
theorem fresh_lt {T o o' : List Int} (h : ∀ n, n ∈ o → n ∈ o') {n : Int} (hn : n ∈ T) (h0 : n ∉ o) (h1 : n ∈ o') : fresh T o' < fresh T o :=
 filter_len_lt _ _ (fun x hx => by simp only [decide_eq_true_eq] at hx ⊢; exact fun hm => hx (h x hm)) n (by simp [h1]) (by simp [h0]) T hn
section
variable {kd : Int → List Int}
theorem meets_cons (k : Nat) (n : Int) (l ord : List Int) : meets kd (k + 1) (n :: l) ord = meets kd (k + 1) l (if n < 10 ∨ n ∈ ord then ord else meets kd k (kd n) (ord ++ [n])) := by
 conv => lhs; unfold meets
 conv => rhs; unfold meets
 rw [List.foldl_cons]
theorem meets_nil (k : Nat) (ord : List Int) : meets kd k [] ord = ord := by cases k <;> rfl
theorem meets_more : ∀ (k : Nat) (l ord : List Int) (n : Int), n ∈ ord → n ∈ meets kd k l ord
 | 0, _, _, _, h => h
 | k + 1, [], ord, n, h => by rw [meets_nil]; exact h
 | k + 1, m :: l, ord, n, h => by
  rw [meets_cons]
  refine meets_more (k + 1) l _ n ?_
  split
  ·exact h
  ·exact meets_more k _ _ n (List.mem_append_left _ h)
theorem meets_all {T : List Int} (hT : ∀ n, 10 ≤ n → n ∈ T → ∀ x ∈ kd n, 10 ≤ x → x ∈ T) : ∀ (k : Nat) (l ord : List Int), (∀ x ∈ l, 10 ≤ x → x ∈ T) → (∀ x ∈ ord, x ∈ T ∧ 10 ≤ x) → ord.Nodup → (∀ x ∈ meets kd k l ord, x ∈ T ∧ 10 ≤ x) ∧ (meets kd k l ord).Nodup
 | 0, _, _, _, h, hn => ⟨h, hn⟩
 | k + 1, [], ord, _, h, hn => by rw [meets_nil]; exact ⟨h, hn⟩
 | k + 1, m :: l, ord, hl, h, hn => by
  rw [meets_cons]
  by_cases c : m < 10 ∨ m ∈ ord
  ·rw [if_pos c]
   exact meets_all hT (k + 1) l ord (fun x hx => hl x (by simp [hx])) h hn
  ·rw [if_neg c]
   have c1 : 10 ≤ m := by
    rcases Int.lt_or_le m 10 with h | h
    ·exact absurd (.inl h) c
    ·exact h
   have c2 : m ∉ ord := fun h => c (.inr h)
   have hm : m ∈ T := hl m (by simp) c1
   have := meets_all hT k (kd m) (ord ++ [m]) (hT m c1 hm) (fun x hx => by
    rcases List.mem_append.1 hx with h1 | h1
    ·exact h x h1
    ·rw [qmsq] at h1; rw [h1]; exact ⟨hm, c1⟩) (by
    rw [List.nodup_append]
    refine ⟨hn, by simp, fun a ha b hb e => ?_⟩
    rw [qmsq] at hb
    subst hb
    subst e
    exact c2 ha)
   exact meets_all hT (k + 1) l _ (fun x hx => hl x (by simp [hx])) this.1 this.2
theorem meets_full {T : List Int} (hT : ∀ n, 10 ≤ n → n ∈ T → ∀ x ∈ kd n, 10 ≤ x → x ∈ T) : ∀ (k : Nat) (l ord : List Int), fresh T ord < k → (∀ x ∈ l, 10 ≤ x → x ∈ T) →
  (∀ x ∈ l, 10 ≤ x → x ∈ meets kd k l ord) ∧ ∀ n, n ∈ meets kd k l ord → n ∉ ord → ∀ x ∈ kd n, 10 ≤ x → x ∈ meets kd k l ord
 | 0, _, _, h, _ => absurd h (by omega)
 | k + 1, [], ord, _, _ => by
  rw [meets_nil]
  exact ⟨(fun x hx => by cases hx), (fun n h1 h2 => absurd h1 h2)⟩
 | k + 1, m :: l, ord, hf, hl => by
  rw [meets_cons]
  by_cases c : m < 10 ∨ m ∈ ord
  ·rw [if_pos c]
   obtain ⟨h1, h2⟩ := meets_full hT (k + 1) l ord hf (fun x hx => hl x (by simp [hx]))
   refine ⟨fun x hx hx10 => ?_, h2⟩
   rcases List.mem_cons.1 hx with e | e
   ·rcases c with c | c
    ·omega
    ·rw [e]; exact meets_more _ _ _ _ c
   ·exact h1 x e hx10
  ·rw [if_neg c]
   have c1 : 10 ≤ m := by
    rcases Int.lt_or_le m 10 with h | h
    ·exact absurd (.inl h) c
    ·exact h
   have c2 : m ∉ ord := fun h => c (.inr h)
   have hm : m ∈ T := hl m (by simp) c1
   have hlt : fresh T (ord ++ [m]) < fresh T ord := fresh_lt (fun n h => List.mem_append_left _ h) hm c2 (by simp)
   obtain ⟨a1, a2⟩ := meets_full hT k (kd m) (ord ++ [m]) (by omega) (hT m c1 hm)
   have hin : m ∈ meets kd k (kd m) (ord ++ [m]) := meets_more _ _ _ _ (by simp)
   obtain ⟨b1, b2⟩ := meets_full hT (k + 1) l (meets kd k (kd m) (ord ++ [m])) (by
    have := fresh_mono (T := T) (o := ord) (o' := meets kd k (kd m) (ord ++ [m])) (fun n h => meets_more _ _ _ _ (List.mem_append_left _ h))
    omega) (fun x hx => hl x (by simp [hx]))
   refine ⟨fun x hx hx10 => ?_, fun n hn hno x hx hx10 => ?_⟩
   ·rcases List.mem_cons.1 hx with e | e
    ·rw [e]; exact meets_more _ _ _ _ hin
    ·exact b1 x e hx10
   ·by_cases hp : n ∈ meets kd k (kd m) (ord ++ [m])
    ·by_cases hq : n ∈ ord ++ [m]
     ·rcases List.mem_append.1 hq with h1 | h1
      ·exact absurd h1 hno
      ·rw [qmsq] at h1
       rw [h1] at hx
       exact meets_more _ _ _ _ (a1 x hx hx10)
     ·exact meets_more _ _ _ _ (a2 n hp hq x hx hx10)
    ·exact b2 n hn hp x hx hx10
theorem meets_fuel {T : List Int} (hT : ∀ n, 10 ≤ n → n ∈ T → ∀ x ∈ kd n, 10 ≤ x → x ∈ T) : ∀ (k k' : Nat) (l ord : List Int), fresh T ord < k → fresh T ord < k' → (∀ x ∈ l, 10 ≤ x → x ∈ T) → meets kd k l ord = meets kd k' l ord
 | 0, _, _, _, h, _, _ => absurd h (by omega)
 | k + 1, 0, _, _, _, h, _ => absurd h (by omega)
 | k + 1, k' + 1, [], ord, _, _, _ => by rw [meets_nil, meets_nil]
 | k + 1, k' + 1, m :: l, ord, hf, hf', hl => by
  rw [meets_cons, meets_cons]
  by_cases c : m < 10 ∨ m ∈ ord
  ·rw [if_pos c, if_pos c]
   exact meets_fuel hT (k + 1) (k' + 1) l ord hf hf' (fun x hx => hl x (by simp [hx]))
  ·rw [if_neg c, if_neg c]
   have c1 : 10 ≤ m := by
    rcases Int.lt_or_le m 10 with h | h
    ·exact absurd (.inl h) c
    ·exact h
   have c2 : m ∉ ord := fun h => c (.inr h)
   have hm : m ∈ T := hl m (by simp) c1
   have hlt : fresh T (ord ++ [m]) < fresh T ord := fresh_lt (fun n h => List.mem_append_left _ h) hm c2 (by simp)
   rw [meets_fuel hT k k' (kd m) (ord ++ [m]) (by omega) (by omega) (hT m c1 hm)]
   have := fresh_mono (T := T) (o := ord) (o' := meets kd k' (kd m) (ord ++ [m])) (fun n h => meets_more _ _ _ _ (List.mem_append_left _ h))
   exact meets_fuel hT (k + 1) (k' + 1) l _ (by omega) (by omega) (fun x hx => hl x (by simp [hx]))
end
def nums (nt : Nat) : List Int := (List.range nt).map fun i : Nat => 10 + (i : Int)
theorem nums_iff {nt : Nat} {n : Int} : n ∈ nums nt ↔ 10 ≤ n ∧ n < 10 + (nt : Int) := by
 unfold nums
 rw [List.mem_map]
 constructor
 ·rintro ⟨i, hi, rfl⟩
  rw [List.mem_range] at hi
  omega
 ·rintro ⟨h1, h2⟩
  exact ⟨(n - 10).toNat, List.mem_range.2 (by omega), by omega⟩
theorem tyB_iff {nt : Nat} {n : Int} : tyB nt n = true ↔ 0 ≤ n ∧ n < 10 + (nt : Int) := by
 unfold tyB
 rw [inB_iff]
 omega
theorem tyB_nums {nt : Nat} {n : Int} (h : tyB nt n = true) (h10 : 10 ≤ n) : n ∈ nums nt := nums_iff.2 ⟨h10, (tyB_iff.1 h).2⟩
theorem kids_form {nt : Nat} {t : Ty} (h : tyForm nt t = true) : ∀ x ∈ kids t, tyB nt x = true := by
 unfold tyForm at h
 simp only [Bool.and_eq_true, List.all_eq_true] at h
 obtain ⟨⟨⟨⟨⟨⟨⟨a1, a2⟩, a3⟩, a4⟩, a5⟩, a6⟩, a7⟩, a8⟩ := h
 intro x hx
 unfold kids at hx
 simp only [qmcq, List.mem_append, List.mem_map, qnnq, or_false] at hx
 rcases hx with rfl | rfl | ⟨f, hf, rfl⟩ | ⟨p, hp, rfl⟩ | rfl
 ·exact a1
 ·exact a2
 ·exact (a6 f hf).1
 ·exact a8 p hp
 ·exact a3
theorem itm_form {nt : Nat} {x : ItmD} (h : itmForm nt x = true) : ∀ n ∈ itmKids x, tyB nt n = true := by
 unfold itmForm anyForm at h
 unfold itmKids
 cases hv : x.v <;> rw [hv] at h <;> simp only [Bool.and_eq_true] at h <;> intro n hn <;> simp only [qmcq, qnnq, or_false] at hn
 all_goals first
  | (rcases hn with rfl | rfl
     · exact h.1.1
     · exact h.2.1)
  | (subst hn; exact h.1.1)
theorem len_sub : ∀ (l m : List Int), l.Nodup → (∀ x ∈ l, x ∈ m) → l.length ≤ m.length
 | [], _, _, _ => Nat.zero_le _
 | x :: l, m, hn, h => by
  rw [List.nodup_cons] at hn
  have hx := h x (by simp)
  have ih := len_sub l (m.erase x) hn.2 (fun y hy => (List.mem_erase_of_ne (fun e => by rw [e] at hy; exact hn.1 hy)).2 (h y (by simp [hy])))
  rw [List.length_erase_of_mem hx] at ih
  have := List.length_pos_of_mem hx
  rw [List.length_cons]
  omega
section
variable {f : FaceD}
theorem face_types (h : mayP f = 0) : ∀ t ∈ f.types, tyForm f.types.length t = true := by
 have := (face_parts h).2.2.2
 unfold faceForm at this
 simp only [Bool.and_eq_true, List.all_eq_true] at this
 exact this.1
theorem face_items (h : mayP f = 0) : ∀ x ∈ f.items, itmForm f.types.length x = true := by
 have := (face_parts h).2.2.2
 unfold faceForm at this
 simp only [Bool.and_eq_true, List.all_eq_true] at this
 exact this.2
theorem closed (h : mayP f = 0) : ∀ n, 10 ≤ n → n ∈ nums f.types.length → ∀ x ∈ kidsAt f.types n, 10 ≤ x → x ∈ nums f.types.length := by
 intro n _ hn x hx h10
 unfold kidsAt at hx
 cases ht : f.types[(n - 10).toNat]? with
 | none => rw [ht] at hx; cases hx
 | some t =>
  rw [ht] at hx
  exact tyB_nums (kids_form (face_types h t (List.mem_of_getElem? ht)) x hx) h10
theorem starts_in (h : mayP f = 0) : ∀ x ∈ starts f, 10 ≤ x → x ∈ nums f.types.length := by
 intro x hx h10
 unfold starts at hx
 obtain ⟨y, hy, hxy⟩ := List.mem_flatMap.1 hx
 exact tyB_nums (itm_form (face_items h y hy) x hxy) h10
theorem fresh_all (nt : Nat) : fresh (nums nt) [] = nt := by
 unfold fresh nums
 rw [List.filter_eq_self.2 (fun x _ => by simp), qlmq, List.length_range]
structure OrdOk (f : FaceD) (ord : List Int) : Prop where
 inT : ∀ x ∈ ord, x ∈ nums f.types.length
 high : ∀ x ∈ ord, 10 ≤ x
 nodup : ord.Nodup
 start : ∀ x ∈ starts f, 10 ≤ x → x ∈ ord
 kid : ∀ n ∈ ord, ∀ x ∈ kidsAt f.types n, 10 ≤ x → x ∈ ord
theorem ordOk (h : mayP f = 0) : OrdOk f (ordOf f) := by
 obtain ⟨a1, a2⟩ := meets_all (closed h) (f.types.length + 1) (starts f) [] (starts_in h) (by simp) (by simp)
 obtain ⟨b1, b2⟩ := meets_full (closed h) (f.types.length + 1) (starts f) [] (by rw [fresh_all]; omega) (starts_in h)
 exact ⟨fun x hx => (a1 x hx).1, fun x hx => (a1 x hx).2, a2, b1, fun n hn => b2 n hn (by simp)⟩
theorem idx_some {ord : List Int} {n : Int} (h : n ∈ ord) : ∃ k, ord.idxOf? n = some k ∧ ord[k]? = some n := by
 cases hx : ord.idxOf? n with
 | none => rw [List.idxOf?_eq_none_iff] at hx; exact absurd h hx
 | some k =>
  refine ⟨k, rfl, ?_⟩
  have := List.findIdx?_eq_some_iff_getElem.1 hx
  obtain ⟨hk, he, _⟩ := this
  rw [qgeq hk]
  simpa using he
theorem anewN_out {ord : List Int} {n : Int} (h : n ∉ ord) : anewN ord n = n := by
 unfold anewN
 rw [List.idxOf?_eq_none_iff.2 h]
theorem nodup_idx {ord : List Int} (hn : ord.Nodup) {i j : Nat} {n : Int} (h1 : ord[i]? = some n) (h2 : ord[j]? = some n) : i = j := by
 obtain ⟨hi, e1⟩ := List.getElem?_eq_some_iff.1 h1
 obtain ⟨hj, e2⟩ := List.getElem?_eq_some_iff.1 h2
 exact (List.getElem_inj (h₀ := hi) (h₁ := hj) hn).1 (e1.trans e2.symm)
theorem anewN_at {ord : List Int} (hn : ord.Nodup) {k : Nat} {n : Int} (h : ord[k]? = some n) : anewN ord n = 10 + (k : Int) := by
 obtain ⟨j, h1, h2⟩ := idx_some (List.mem_of_getElem? h)
 unfold anewN
 rw [h1, nodup_idx hn h h2]
theorem tyFit_anew (ord : List Int) (t : Ty) : tyFit (anewT ord t) = tyFit t := by
 unfold tyFit anewT
 simp [List.all_map, Function.comp_def]
theorem canon_type (h : mayP f = 0) {k : Nat} {n : Int} (hk : (ordOf f)[k]? = some n) : ∃ t, f.types[(n - 10).toNat]? = some t ∧ (canonF f).types[k]? = some (anewT (ordOf f) t) := by
 have hn := (ordOk h).inT n (List.mem_of_getElem? hk)
 rw [nums_iff] at hn
 have hlt : (n - 10).toNat < f.types.length := by omega
 refine ⟨f.types[(n - 10).toNat], qgeq hlt, ?_⟩
 unfold canonF
 simp only
 rw [qgmq, hk, Option.map_some, qgeq hlt]
 rfl
theorem canon_len : (canonF f).types.length = (ordOf f).length := by simp [canonF]
theorem ord_len (h : mayP f = 0) : (ordOf f).length ≤ f.types.length := by
 have o := ordOk h
 have : (ordOf f).length ≤ (nums f.types.length).length := by
  exact len_sub _ _ o.nodup (fun x hx => o.inT x hx)
 simpa [nums] using this
theorem anew_range (h : mayP f = 0) {x : Int} (hx : 0 ≤ x) (hin : 10 ≤ x → x ∈ ordOf f) : tyB (ordOf f).length (anewN (ordOf f) x) = true := by
 have o := ordOk h
 rcases Int.lt_or_le x 10 with h1 | h1
 ·rw [anewN_out (fun hm => by have := o.high x hm; omega)]
  exact tyB_iff.2 ⟨hx, by omega⟩
 ·obtain ⟨k, hk⟩ := List.getElem?_of_mem (hin h1)
  have hl := (List.getElem?_eq_some_iff.1 hk).1
  rw [anewN_at o.nodup hk]
  exact tyB_iff.2 ⟨by omega, by omega⟩
theorem tyForm_anew {ord : List Int} {nt nt' : Nat} {t : Ty} (h : tyForm nt t = true) (hk : ∀ x ∈ kids t, tyB nt' (anewN ord x) = true) : tyForm nt' (anewT ord t) = true := by
 unfold tyForm at h ⊢
 unfold kids at hk
 simp only [Bool.and_eq_true, List.all_eq_true, anewT, List.mem_map] at h ⊢
 obtain ⟨⟨⟨⟨⟨⟨⟨a1, a2⟩, a3⟩, a4⟩, a5⟩, a6⟩, a7⟩, a8⟩ := h
 refine ⟨⟨⟨⟨⟨⟨⟨hk _ (by simp), hk _ (by simp)⟩, hk _ (by simp)⟩, a4⟩, a5⟩, ?_⟩, a7⟩, ?_⟩
 ·rintro _ ⟨x, hx, rfl⟩
  exact ⟨hk _ (by simp only [qmcq, List.mem_append, List.mem_map]; exact .inr (.inr (.inl ⟨x, hx, rfl⟩))), (a6 x hx).2⟩
 ·rintro _ ⟨x, hx, rfl⟩
  exact hk _ (by simp only [qmcq, List.mem_append, List.mem_map]; exact .inr (.inr (.inr (.inl ⟨x, hx, rfl⟩))))
theorem itmForm_anew {ord : List Int} {nt nt' : Nat} {x : ItmD} (h : itmForm nt x = true) (hk : ∀ n ∈ itmKids x, tyB nt' (anewN ord n) = true) : itmForm nt' (anewI ord x) = true := by
 unfold itmForm anyForm at h ⊢
 unfold itmKids at hk
 unfold anewI anewV
 cases hv : x.v <;> rw [hv] at h hk <;> simp only [Bool.and_eq_true, qmcq, qnnq, or_false] at h hk ⊢
 all_goals first
  | (exact ⟨⟨hk _ rfl, h.1.2⟩, h.2⟩)
  | (exact ⟨⟨hk _ (.inl rfl), h.1.2⟩, ⟨hk _ (.inr rfl), h.2.2⟩⟩)
theorem may_of {f : FaceD} (h1 : faceFit f = true) (h2 : onceB [] (f.uses.map UseD.module) = true) (h3 : onceB [] (f.items.map ItmD.name) = true) (h4 : faceForm f = true) : mayP f = 0 := by
 unfold mayP
 simp [h1, h2, h3, h4]
theorem itmFit_anew (ord : List Int) (x : ItmD) : itmFit (anewI ord x) = itmFit x := by
 unfold itmFit anewI anewV anyFit
 cases x.v <;> rfl
theorem canon_may (h : mayP f = 0) : mayP (canonF f) = 0 := by
 obtain ⟨h1, h2, h3, h4⟩ := face_parts h
 have o := ordOk h
 have hl := ord_len h
 have hpos : ∀ n, tyB f.types.length n = true → 0 ≤ n := fun n hn => (tyB_iff.1 hn).1
 refine may_of ?_ h2 ?_ ?_
 ·unfold faceFit at h1 ⊢
  simp only [Bool.and_eq_true, decide_eq_true_eq, List.all_eq_true] at h1 ⊢
  obtain ⟨⟨⟨⟨⟨⟨a1, a2⟩, a3⟩, a4⟩, a5⟩, a6⟩, a7⟩ := h1
  refine ⟨⟨⟨⟨⟨⟨a1, by simpa [canonF] using a2⟩, by rw [canon_len]; omega⟩, a4⟩, a5⟩, fun t ht => ?_⟩, fun x hx => ?_⟩
  ·obtain ⟨k, hk⟩ := List.getElem?_of_mem ht
   have hkl := (List.getElem?_eq_some_iff.1 hk).1
   rw [canon_len] at hkl
   obtain ⟨t', e1, e2⟩ := canon_type h (qgeq hkl)
   rw [hk] at e2
   injection e2 with e2
   rw [e2, tyFit_anew]
   exact a6 t' (List.mem_of_getElem? e1)
  ·obtain ⟨y, hy, rfl⟩ := List.mem_map.1 hx
   rw [itmFit_anew]
   exact a7 y hy
 ·have : (canonF f).items.map ItmD.name = f.items.map ItmD.name := by simp [canonF, anewI, Function.comp_def]
  rw [this]
  exact h3
 ·unfold faceForm
  rw [canon_len]
  simp only [Bool.and_eq_true, List.all_eq_true]
  refine ⟨fun t ht => ?_, fun x hx => ?_⟩
  ·obtain ⟨k, hk⟩ := List.getElem?_of_mem ht
   have hkl := (List.getElem?_eq_some_iff.1 hk).1
   rw [canon_len] at hkl
   obtain ⟨t', e1, e2⟩ := canon_type h (qgeq hkl)
   rw [hk] at e2
   injection e2 with e2
   rw [e2]
   have hf := face_types h t' (List.mem_of_getElem? e1)
   refine tyForm_anew hf (fun x hx => anew_range h (hpos x (kids_form hf x hx)) (fun h10 => o.kid _ (List.getElem_mem hkl) x ?_ h10))
   unfold kidsAt
   rw [e1]
   exact hx
  ·obtain ⟨y, hy, rfl⟩ := List.mem_map.1 hx
   have hf := face_items h y hy
   exact itmForm_anew hf (fun n hn => anew_range h (hpos n (itm_form hf n hn)) (fun h10 => o.start n (List.mem_flatMap.2 ⟨y, hy, hn⟩) h10))
end
end Go.Proofs.YtjanbpchedgoiaaGreat
namespace Go.Proofs.YtjanbpchedgoiaaGreat
open Go.RowKit
def fndI : List MapEntry → Int → Option Value
 | [], _ => none
 | e :: l, k => match e.key with | .int .i64 a => if a = k then some e.val else fndI l k | _ => none
def IntKeys (l : List MapEntry) : Prop := ∀ e ∈ l, ∃ a, e.key = .int .i64 a
theorem findNow_int : ∀ (l : List MapEntry) (k : Int) (i : Nat), IntKeys l → ∃ o, Instr.findNow (.int .i64) (.int .i64 k) l i = some o ∧ o.map (·.2) = fndI l k ∧
  ∀ p, o = some p → ∃ j e, p.1 = i + j ∧ l[j]? = some e ∧ e.key = .int .i64 k ∧ ∀ v k', fndI (l.modify j fun e => { e with key := .int .i64 k, val := v }) k' = if k' = k then some v else fndI l k'
 | [], k, i, _ => ⟨none, rfl, rfl, fun p h => by cases h⟩
 | e :: l, k, i, h => by
  obtain ⟨a, ha⟩ := h e (.head _)
  by_cases hak : a = k
  ·subst hak
   refine ⟨some (i, e.val), ?_, ?_, ?_⟩
   ·simp [Instr.findNow, Instr.sameNow, ha]
   ·simp [fndI, ha]
   ·intro p hp
    injection hp with hp
    subst hp
    refine ⟨0, e, by simp, rfl, ha, fun v k' => ?_⟩
    simp only [List.modify_zero_cons, fndI, ha]
    by_cases h1 : k' = a
    ·subst h1; simp
    ·have h2 : ¬ a = k' := fun e => h1 e.symm
     simp [h1, h2]
  ·obtain ⟨o, h1, h2, h3⟩ := findNow_int l k (i + 1) (fun e he => h e (.tail _ he))
   refine ⟨o, ?_, ?_, ?_⟩
   ·have : (k == a) = false := by simp; omega
    simp [Instr.findNow, Instr.sameNow, ha, this, h1]
   ·simp [fndI, ha, hak, h2]
   ·intro p hp
    obtain ⟨j, e', g1, g2, g3, g4⟩ := h3 p hp
    refine ⟨j + 1, e', by omega, g2, g3, fun v k' => ?_⟩
    simp only [List.modify_succ_cons, fndI, ha]
    by_cases h5 : a = k'
    ·subst h5
     simp [hak]
    ·simp only [h5, if_false]
     exact g4 v k'
theorem fndI_push (l : List MapEntry) (k : Int) (v : Value) (b : Nat) (h : fndI l k = none) (hk : IntKeys l) (k' : Int) : fndI (l ++ [{ key := .int .i64 k, val := v, born := b }]) k' = if k' = k then some v else fndI l k' := by
 induction l with
 | nil =>
  simp only [List.nil_append, fndI]
  by_cases h1 : k' = k
  ·subst h1; simp
  ·have : ¬ k = k' := fun e => h1 e.symm
   simp [h1, this]
 | cons e l ih =>
  obtain ⟨a, ha⟩ := hk e (.head _)
  simp only [List.cons_append, fndI, ha] at h ⊢
  by_cases h2 : a = k
  ·simp [h2] at h
  ·rw [if_neg h2] at h
   by_cases h3 : a = k'
   ·subst h3
    simp [h2]
   ·simp only [h3, if_false]
    exact ih h (fun e he => hk e (.tail _ he))
theorem intKeys_modify (l : List MapEntry) (h : IntKeys l) (j : Nat) (k : Int) (v : Value) : IntKeys (l.modify j fun e => { e with key := .int .i64 k, val := v }) := by
 intro e he
 obtain ⟨i, hi⟩ := List.mem_iff_getElem?.1 he
 rw [List.getElem?_modify] at hi
 cases hx : l[i]? with
 | none => rw [hx] at hi; cases hi
 | some x =>
  rw [hx] at hi
  by_cases hj : j = i
  ·subst hj
   simp at hi
   subst hi
   exact ⟨k, rfl⟩
  ·simp [hj] at hi
   subst hi
   exact h x (List.mem_of_getElem? hx)
def MapI (w : World) (r : Nat) (kn : Int → Option Value) : Prop := ∃ es c, w.heap[r]? = some (.map es c) ∧ IntKeys es.toList ∧ ∀ k, fndI es.toList k = kn k
theorem MapI.wr {w w' : World} {r : Nat} {kn : Int → Option Value} {l : List Nat} (h : MapI w r kn) (hw : Wr l w w') (hr : r ∉ l) : MapI w' r kn := by
 obtain ⟨es, c, h1, h2, h3⟩ := h
 have hlt : r < w.heap.size := by
  rcases Nat.lt_or_ge r w.heap.size with h | h
  ·exact h
  ·rw [Array.getElem?_eq_none h] at h1; cases h1
 exact ⟨es, c, (hw.block r hlt hr).trans h1, h2, h3⟩
theorem MapI.lt {w : World} {r : Nat} {kn : Int → Option Value} (h : MapI w r kn) : r < w.heap.size := by
 obtain ⟨es, c, h1, h2, h3⟩ := h
 rcases Nat.lt_or_ge r w.heap.size with h | h
 ·exact h
 ·rw [Array.getElem?_eq_none h] at h1; cases h1
theorem MapI.new (w : World) : MapI (w.alloc (.map #[] 0)) w.heap.size (fun _ => none) := ⟨#[], 0, heap_alloc_new w _, by simp [IntKeys], fun k => rfl⟩
section
variable {P : Program} {T K E : TypeId} (hu : P.underlying T = some (.map K E)) (hk : P.underlying K = some (.int .i64))
include hu hk
theorem mapI_upd {w : World} {r : Nat} {kn : Int → Option Value} (h : MapI w r kn) (k : Int) (v : Value) :
  ∃ W, (Instr.mapUpdate T (.map (some r)) (.int .i64 k) v).run P w = .ok () W ∧ Wr [r] w W ∧ MapI W r (fun j => if j = k then some v else kn j) := by
 have hr := h.lt
 obtain ⟨es, c, h1, h2, h3⟩ := h
 have hc : ∀ w, (Instr.checkKey false 10000 K (.int .i64 k)).run P w = .ok () w := fun w => MapKept.run_checkKey hk (by simp [MapKept.IsKey]) false 9999
 have hW : ∀ o, Wr [r] w { w with heap := w.heap.setIfInBounds r o } := fun o => ⟨rfl, rfl, rfl, by simp, fun j _ hj => by
  have : r ≠ j := fun e => hj (by simp [e])
  simp [this]⟩
 have hH : ∀ o, (w.heap.setIfInBounds r o)[r]? = some o := fun o => by simp [hr]
 obtain ⟨o, g1, g2, g3⟩ := findNow_int es.toList k 0 h2
 cases o with
 | none =>
  refine ⟨_, ins_at hu hk w r es c (.int .i64 k) v h1 hc g1, hW _, _, _, hH _, ?_, ?_⟩
  ·intro e he
   simp only [Array.toList_push, List.mem_append, qmsq] at he
   rcases he with he | rfl
   ·exact h2 e he
   ·exact ⟨k, rfl⟩
  ·intro k'
   rw [Array.toList_push, fndI_push es.toList k v c g2.symm h2 k', h3]
 | some p =>
  obtain ⟨j, e, q1, q2, q3, q4⟩ := g3 p rfl
  have hj : es[p.1]? = some e := by
   rw [q1, Nat.zero_add, ← Array.getElem?_toList]
   exact q2
  have hrun : (Instr.mapUpdate T (.map (some r)) (.int .i64 k) v).run P w = .ok () { w with heap := w.heap.setIfInBounds r (.map (es.modify p.1 fun e => { e with key := .int .i64 k, val := v }) c) } := by
   obtain ⟨a, b⟩ := p
   simp only at hj
   simp [Instr.mapUpdate, run_underlying hu, Sem.run_bind, hc, Instr.findKey, run_underlying hk, g1, getObj, setObj, Sem.run, h1, Result.andThen, hj, q3]
   have := MapKept.run_keyThatStays (P := P) (w := w) (d := .int .i64) (k := .int .i64 k) (by simp [MapKept.IsKey])
   rw [this]
   simp [h1]
  refine ⟨_, hrun, hW _, _, _, hH _, ?_, ?_⟩
  ·rw [Array.toList_modify]
   exact intKeys_modify _ h2 _ _ _
  ·intro k'
   rw [Array.toList_modify, q1, Nat.zero_add, q4 v k', h3]
theorem mapI_look {w : World} {r : Nat} {kn : Int → Option Value} (h : MapI w r kn) (k : Int) {z : Value} (hz : ∀ w, (zeroValue E).run P w = .ok z w) :
  (Instr.lookup T (.map (some r)) (.int .i64 k) true).run P w = .ok (.tuple #[(kn k).getD z, .bool (kn k).isSome]) w := by
 obtain ⟨es, c, h1, h2, h3⟩ := h
 obtain ⟨o, g1, g2, _⟩ := findNow_int es.toList k 0 h2
 have hc : ∀ b w, (Instr.checkKey b 10000 K (.int .i64 k)).run P w = .ok () w := fun b w => MapKept.run_checkKey hk (by simp [MapKept.IsKey]) b 9999
 have := look_at hu hk w r es c (.int .i64 k) o z h1 hc g1 hz true
 rw [g2, h3] at this
 have e : o.isSome = (kn k).isSome := by rw [← h3 k, ← g2]; cases o <;> rfl
 rw [e] at this
 exact this
end
theorem meets_append {kd : Int → List Int} (k : Nat) : ∀ (l m ord : List Int), meets kd k (l ++ m) ord = meets kd k m (meets kd k l ord) := by
 cases k with
 | zero => intro l m ord; rfl
 | succ k =>
  intro l
  induction l with
  | nil => intro m ord; rw [List.nil_append, meets_nil]
  | cons x l ih => intro m ord; rw [List.cons_append, meets_cons, meets_cons, ih]
theorem meets_drop {kd : Int → List Int} {k j : Nat} {l : List Int} {n : Int} {ord : List Int} (h : l[j]? = some n) : meets kd (k + 1) (l.drop j) ord = meets kd (k + 1) (l.drop (j + 1)) (if n < 10 ∨ n ∈ ord then ord else meets kd k (kd n) (ord ++ [n])) := by
 have hk := (List.getElem?_eq_some_iff.1 h).1
 have e : l[j] = n := (List.getElem?_eq_some_iff.1 h).2
 conv => lhs; rw [List.drop_eq_getElem_cons hk, meets_cons]
 rw [e]
def numsOf (ord : List Int) (n : Int) : Option Value := (ord.idxOf? n).map fun k => .int .i64 (10 + (k : Int))
theorem idx_push {ord : List Int} {n : Int} (h : n ∉ ord) (j : Int) : (ord ++ [n]).idxOf? j = if j = n then some ord.length else ord.idxOf? j := by
 induction ord with
 | nil =>
  by_cases hj : j = n
  ·subst hj
   simp [List.idxOf?]
  ·have : (n == j) = false := by simpa using fun e => hj e.symm
   simp [List.idxOf?, hj, this]
 | cons x l ih =>
  have hx : x ≠ n := fun e => h (by simp [e])
  have hl : n ∉ l := fun e => h (by simp [e])
  rw [List.cons_append, List.idxOf?_cons, ih hl]
  by_cases hxj : x = j
  ·subst hxj
   rw [if_neg hx]
   simp [List.idxOf?_cons, hx]
  ·have hb : (x == j) = false := by simpa using hxj
   by_cases hj : j = n
   ·subst hj
    simp [hb]
   ·simp [hb, hj, List.idxOf?_cons]
theorem numsOf_push {ord : List Int} {n : Int} (h : n ∉ ord) : (fun j => if j = n then some (Value.int .i64 (10 + (ord.length : Int))) else numsOf ord j) = numsOf (ord ++ [n]) := by
 funext j
 unfold numsOf
 rw [idx_push h]
 by_cases hj : j = n
 ·rw [if_pos hj, if_pos hj]
  rfl
 ·rw [if_neg hj, if_neg hj]
theorem numsOf_out {ord : List Int} {n : Int} (h : n ∉ ord) : numsOf ord n = none := by
 unfold numsOf
 have : ord.idxOf? n = none := by simpa using h
 rw [this]
 rfl
theorem numsOf_in {ord : List Int} {n : Int} (h : n ∈ ord) : numsOf ord n = some (.int .i64 (anewN ord n)) := by
 obtain ⟨k, h1, _⟩ := idx_some h
 unfold numsOf anewN
 rw [h1]
 rfl
structure CC where
 B : Nat
 pn : Nat
 po : Nat
 pi : Nat
 pm : Nat
 gn : Nat
def CC.blocks (c : CC) : List Nat := [c.pn, c.po, c.pm, c.gn]
def CC.caps (c : CC) : Array Value := #[.pointer (some ⟨c.pn, 0, none⟩), .pointer (some ⟨c.po, 0, none⟩), .pointer (some ⟨c.pi, 0, none⟩), .pointer (some ⟨c.pm, 0, none⟩)]
structure CC.wf (c : CC) : Prop where
 nodup : c.blocks.Nodup
 low : ∀ b ∈ c.blocks, c.B ≤ b
theorem CC.wf.ne {c : CC} (hc : c.wf) : c.pn ≠ c.po ∧ c.pn ≠ c.pm ∧ c.pn ≠ c.gn ∧ c.po ≠ c.pm ∧ c.po ≠ c.gn ∧ c.pm ≠ c.gn := by
 have h := hc.nodup
 unfold CC.blocks at h
 simp only [List.nodup_cons, qmcq, qnnq, or_false, not_or] at h
 obtain ⟨⟨a1, a2, a3⟩, ⟨b1, b2⟩, c1, _⟩ := h
 exact ⟨a1, a2, a3, b1, b2, c1⟩
structure CEnv (c : CC) (w0 : World) (nt : Nat) (ord : List Int) (vo : Value) (w : World) : Prop where
 bel : Below c.B w0 w
 bn : Blk w c.pn 79 #[.map (some c.gn)]
 bo : Blk w c.po 80 #[vo]
 bm : Blk w c.pm 81 #[.func (.func 27) #[] c.caps]
 mn : MapI w c.gn (numsOf ord)
 own : w.ownsRow c.B 3 1 vo ord.length (ord.map (Value.int .i64))
 far : ∀ b, vo.ownBlock = some b → b ∉ c.blocks
 nodup : ord.Nodup
 sub : ∀ x ∈ ord, x ∈ nums nt ∧ 10 ≤ x
structure CStep (c : CC) (vo : Value) (w : World) (vo' : Value) (w' : World) : Prop where
 wr : Wr (c.gn :: c.po :: ownL vo) w w'
 own : ∀ g, vo'.ownBlock = some g → vo.ownBlock = some g ∨ w.heap.size ≤ g
structure CSafe (c : CC) (vo : Value) (w : World) (g : Nat) : Prop where
 lt : g < w.heap.size
 n1 : g ≠ c.gn
 n2 : g ≠ c.po
 n3 : vo.ownBlock ≠ some g
section
variable {c : CC} {w0 w w1 w2 W : World} {nt : Nat} {ord ord' : List Int} {vo vo1 vo2 : Value} {g : Nat}
theorem CStep.refl (c : CC) (vo : Value) (w : World) : CStep c vo w vo w := ⟨Wr.refl _ _, fun g h => .inl h⟩
theorem CStep.trans (h : CStep c vo w vo1 w1) (k : CStep c vo1 w1 vo2 w2) : CStep c vo w vo2 w2 := by
 refine ⟨h.wr.trans' k.wr (fun x hx => ?_), fun g hg => ?_⟩
 ·simp only [qmcq] at hx ⊢
  rcases hx with hx | hx | hx
  ·exact .inl (.inl hx)
  ·exact .inl (.inr (.inl hx))
  ·rcases h.own x (mem_ownL.1 hx) with h1 | h1
   ·exact .inl (.inr (.inr (mem_ownL.2 h1)))
   ·exact .inr h1
 ·rcases k.own g hg with h1 | h1
  ·exact h.own g h1
  ·exact .inr (Nat.le_trans h.wr.size h1)
theorem CStep.wr0 (h : CStep c vo w vo1 w1) (r : Wr [] w1 w2) : CStep c vo w vo1 w2 := ⟨h.wr.trans0 r, h.own⟩
theorem CStep.of0 (r : Wr [] w w1) : CStep c vo w vo w1 := ⟨r.nil, fun g h => .inl h⟩
theorem CSafe.step (h : CSafe c vo w g) (k : CStep c vo w vo1 w1) : CSafe c vo1 w1 g := by
 refine ⟨Nat.lt_of_lt_of_le h.lt k.wr.size, h.n1, h.n2, fun e => ?_⟩
 rcases k.own g e with h1 | h1
 ·exact h.n3 h1
 ·have := h.lt; omega
theorem CSafe.not (h : CSafe c vo w g) : g ∉ c.gn :: c.po :: ownL vo := by
 simp only [qmcq, not_or]
 exact ⟨h.n1, h.n2, fun e => h.n3 (mem_ownL.1 e)⟩
theorem CSafe.blk {T : TypeId} {cs : Array Value} (h : CSafe c vo w g) (k : CStep c vo w vo1 w1) (hb : Blk w g T cs) : Blk w1 g T cs := hb.wr k.wr h.not
theorem CSafe.cell {o : Nat} {v : Value} (h : CSafe c vo w g) (k : CStep c vo w vo1 w1) (hb : w.cell? ⟨g, o, none⟩ = some v) : w1.cell? ⟨g, o, none⟩ = some v := k.wr.cellOf hb h.not
theorem CEnv.size (h : CEnv c w0 nt ord vo w) (hB : c.B ≤ w0.heap.size) : c.B ≤ w.heap.size := Nat.le_trans hB h.bel.size
theorem CEnv.safeNew (h : CEnv c w0 nt ord vo w) (o : Obj) : CSafe c vo (w.alloc o) w.heap.size := by
 refine ⟨by simp, fun e => ?_, fun e => ?_, fun e => ?_⟩
 ·have := h.mn.lt; omega
 ·have := h.bo.lt; omega
 ·have := (h.own.lt _ e).2; omega
theorem CEnv.wr0 (h : CEnv c w0 nt ord vo w) (hB : c.B ≤ w0.heap.size) (hw : Wr [] w W) : CEnv c w0 nt ord vo W :=
 ⟨h.bel.trans (hw.below (h.size hB) (fun _ hx => by cases hx)), h.bn.wr0 hw, h.bo.wr0 hw, h.bm.wr0 hw, h.mn.wr hw (by simp), own_keep h.own hw (fun _ _ => by simp), h.far, h.nodup, h.sub⟩
theorem CEnv.len (h : CEnv c w0 nt ord vo w) : ord.length ≤ nt := by
 have := len_sub ord (nums nt) h.nodup (fun x hx => (h.sub x hx).1)
 simpa [nums] using this
theorem CEnv.push (hc : c.wf) (h : CEnv c w0 nt ord vo w) (hB : c.B ≤ w0.heap.size) {n : Int} (hn : n ∉ ord) (hT : n ∈ nums nt) (h10 : 10 ≤ n) {W1 W2 W3 : World} {v' : Value}
  (k1 : Wr [c.gn] w W1) (hm : MapI W1 c.gn (fun j => if j = n then some (.int .i64 (10 + (ord.length : Int))) else numsOf ord j)) (k2 : Wr [] W1 W2)
  (hown : W3.ownsRow c.B 3 1 v' (ord.length + 1) (ord.map (Value.int .i64) ++ [.int .i64 n])) (hg : W2.grownBy W3 vo.ownBlock) (hb : v'.ownBlock = vo.ownBlock ∨ v'.ownBlock = some W2.heap.size) :
  CEnv c w0 nt (ord ++ [n]) v' (W3.setCell ⟨c.po, 0, none⟩ v') ∧ CStep c vo w v' (W3.setCell ⟨c.po, 0, none⟩ v') := by
 obtain ⟨n1, n2, n3, n4, n5, n6⟩ := hc.ne
 have k3 : Wr (ownL vo) W2 W3 := Wr.ofGrownOwn hg
 have hf : ∀ b, b ∈ c.blocks → b ∉ ownL vo := fun b hb hx => h.far b (mem_ownL.1 hx) hb
 have hpo : c.B ≤ c.po := hc.low _ (by simp [CC.blocks])
 have hgn : c.B ≤ c.gn := hc.low _ (by simp [CC.blocks])
 have hlt : ∀ b, b ∈ c.blocks → b < w.heap.size := fun b hm => by
  simp only [CC.blocks, qmcq, qnnq, or_false] at hm
  rcases hm with rfl | rfl | rfl | rfl
  ·exact h.bn.lt
  ·exact h.bo.lt
  ·exact h.bm.lt
  ·exact h.mn.lt
 have s12 := Nat.le_trans k1.size k2.size
 have hbv : ∀ b, v'.ownBlock = some b → b ∉ c.blocks := fun b hb' hm => by
  rcases hb with h1 | h1
  ·exact h.far b (h1 ▸ hb') hm
  ·rw [h1] at hb'
   injection hb' with hb'
   have := hlt b hm
   omega
 have k4 : Wr [c.po] W3 (W3.setCell ⟨c.po, 0, none⟩ v') := (Wr.refl [c.po] W3).setOn (by simp) v'
 have m0 : MapI W1 c.gn (numsOf (ord ++ [n])) := by rw [← numsOf_push hn]; exact hm
 have lows : ∀ b, vo.ownBlock = some b → c.B ≤ b := fun b hb => (h.own.lt b hb).1
 refine ⟨⟨?_, ((((h.bn.wr k1 (by simpa using n3)).wr0 k2).wr k3 (hf _ (by simp [CC.blocks]))).wr k4 (by simpa using n1)), ?_, ((((h.bm.wr k1 (by simpa using n6)).wr0 k2).wr k3 (hf _ (by simp [CC.blocks]))).wr k4 (by simpa using fun e => n4 e.symm)), ((m0.wr k2 (by simp)).wr k3 (hf _ (by simp [CC.blocks]))).wr k4 (by simpa using fun e => n5 e.symm), ?_, hbv, ?_, ?_⟩, ⟨?_, ?_⟩⟩
 ·have b1 : Below c.B w W1 := k1.below (h.size hB) (fun x hx => by rw [qmsq] at hx; rw [hx]; exact hgn)
  have b2 : Below c.B W1 W2 := k2.below (Nat.le_trans (h.size hB) k1.size) (fun x hx => by cases hx)
  have b3 : Below c.B W2 W3 := k3.below (Nat.le_trans (h.size hB) s12) (fun x hx => lows x (mem_ownL.1 hx))
  have b4 : Below c.B W3 (W3.setCell ⟨c.po, 0, none⟩ v') := k4.below (Nat.le_trans (h.size hB) (Nat.le_trans s12 k3.size)) (fun x hx => by rw [qmsq] at hx; rw [hx]; exact hpo)
  exact (((h.bel.trans b1).trans b2).trans b3).trans b4
 ·have := (((h.bo.wr k1 (by simpa using n5)).wr0 k2).wr k3 (hf _ (by simp [CC.blocks]))).set_ 0 v'
  simpa using this
 ·rw [qlaq, List.map_append]
  exact own_keep hown k4 (fun b hb hx => hbv b hb (by rw [qmsq] at hx; rw [hx]; simp [CC.blocks]))
 ·rw [List.nodup_append]
  refine ⟨h.nodup, by simp, fun a ha b hb e => ?_⟩
  rw [qmsq] at hb
  subst hb
  subst e
  exact hn ha
 ·intro x hx
  rcases List.mem_append.1 hx with h1 | h1
  ·exact h.sub x h1
  ·rw [qmsq] at h1
   rw [h1]
   exact ⟨hT, h10⟩
 ·refine (((k1.more (fun x hx => by rw [qmsq] at hx; simp [hx])).trans0 k2).trans (k3.more (fun x hx => by simp [hx]))).trans (k4.more (fun x hx => by rw [qmsq] at hx; simp [hx]))
 ·intro x hx
  rcases hb with h1 | h1
  ·exact .inl (h1 ▸ hx)
  ·rw [h1] at hx
   injection hx with hx
   exact .inr (by omega)
end
def MetR (c : CC) (w0 : World) (nt : Nat) (ord : List Int) (vo : Value) (w : World) (e : Ending) (w' : World) : Prop :=
 e = .returned (.tuple #[]) ∧ ∃ vo', CEnv c w0 nt ord vo' w' ∧ CStep c vo w vo' w'
end Go.Proofs.YtjanbpchedgoiaaGreat
