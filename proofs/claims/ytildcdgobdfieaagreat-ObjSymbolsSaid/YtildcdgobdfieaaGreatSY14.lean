/- Types numbered anew: what Canon answers, and that it does not matter how they stood. No conditions. -/
import Derived.Test.YtildcdgobdfieaaGreatSY10
import Derived.Test.YtildcdgobdfieaaGreatSY07
import Derived.Laws.IdiomStrings
import Derived.Deep.Cut
import Derived.Deep.DeepCutAuto
import Derived.LoopN
set_option linter.unusedVariables false
set_option linter.unusedSimpArgs false
set_option maxRecDepth 100000
set_option maxHeartbeats 32000000
namespace Go.Proofs.YtildcdgobdfieaaGreat
def kids (t : Ty) : List Int := t.base :: t.index :: (t.fields.map Fld.type ++ (t.params.map Par.type ++ [t.result]))
def kidsAt (ts : List Ty) (n : Int) : List Int := match ts[(n - 10).toNat]? with | some t => kids t | none => []
def meets (kd : Int → List Int) : Nat → List Int → List Int → List Int
 | 0, _, ord => ord
 | k + 1, l, ord => l.foldl (fun ord n => if n < 10 ∨ n ∈ ord then ord else meets kd k (kd n) (ord ++ [n])) ord
def itmKids (x : ItmD) : List Int := match x.v with | .item t _ => [x.type, t] | _ => [x.type]
def starts (f : FaceD) : List Int := f.items.flatMap itmKids
def ordOf (f : FaceD) : List Int := meets (kidsAt f.types) (f.types.length + 1) (starts f) []
def anewN (ord : List Int) (n : Int) : Int := match ord.idxOf? n with | some k => 10 + (k : Int) | none => n
def anewT (ord : List Int) (t : Ty) : Ty :=
 { t with base := anewN ord t.base, index := anewN ord t.index, result := anewN ord t.result, fields := t.fields.map (fun f => { f with type := anewN ord f.type }), params := t.params.map (fun p => { p with type := anewN ord p.type }) }
def anewV (ord : List Int) : AnyD → AnyD
 | .item t n => .item (anewN ord t) n
 | v => v
def anewI (ord : List Int) (x : ItmD) : ItmD := { x with type := anewN ord x.type, v := anewV ord x.v }
def zeroTy : Ty := ⟨0, ⟨#[]⟩, ⟨#[]⟩, 0, 0, 0, 0, [], [], [], [], 0⟩
def canonF (f : FaceD) : FaceD := { f with types := (ordOf f).map (fun n => anewT (ordOf f) ((f.types[(n - 10).toNat]?).getD zeroTy)), items := f.items.map (anewI (ordOf f)) }
def canonP (f : FaceD) : FaceD × Int := if mayP f = 0 then (canonF f, 0) else (noFace, mayP f)
def fresh (T : List Int) (ord : List Int) : Nat := (T.filter (fun n => decide (n ∉ ord))).length
theorem fresh_mono {T o o' : List Int} (h : ∀ n, n ∈ o → n ∈ o') : fresh T o' ≤ fresh T o :=
 filter_len _ _ (fun x hx => by simp only [decide_eq_true_eq] at hx ⊢; exact fun hm => hx (h x hm)) T
theorem fresh_lt {T o o' : List Int} (h : ∀ n, n ∈ o → n ∈ o') {n : Int} (hn : n ∈ T) (h0 : n ∉ o) (h1 : n ∈ o') : fresh T o' < fresh T o :=
 filter_len_lt _ _ (fun x hx => by simp only [decide_eq_true_eq] at hx ⊢; exact fun hm => hx (h x hm)) n (by simp [h1]) (by simp [h0]) T hn
section
variable {kd : Int → List Int}
theorem meets_cons (k : Nat) (n : Int) (l ord : List Int) : meets kd (k + 1) (n :: l) ord = meets kd (k + 1) l (if n < 10 ∨ n ∈ ord then ord else meets kd k (kd n) (ord ++ [n])) := by
 conv => lhs; unfold meets
 conv => rhs; unfold meets
 rw [List.foldl_cons]
theorem meets_nil (k : Nat) (ord : List Int) : meets kd k [] ord = ord := by cases k <;> rfl
theorem meets_more : ∀ (k : Nat) (l ord : List Int) (n : Int), n ∈ ord → n ∈ meets kd k l ord
 | 0, _, _, _, h => h
 | k + 1, [], ord, n, h => by rw [meets_nil]; exact h
 | k + 1, m :: l, ord, n, h => by
  rw [meets_cons]
  refine meets_more (k + 1) l _ n ?_
  split
  ·exact h
  ·exact meets_more k _ _ n (List.mem_append_left _ h)
theorem meets_all {T : List Int} (hT : ∀ n, 10 ≤ n → n ∈ T → ∀ x ∈ kd n, 10 ≤ x → x ∈ T) : ∀ (k : Nat) (l ord : List Int), (∀ x ∈ l, 10 ≤ x → x ∈ T) → (∀ x ∈ ord, x ∈ T ∧ 10 ≤ x) → ord.Nodup → (∀ x ∈ meets kd k l ord, x ∈ T ∧ 10 ≤ x) ∧ (meets kd k l ord).Nodup
 | 0, _, _, _, h, hn => ⟨h, hn⟩
 | k + 1, [], ord, _, h, hn => by rw [meets_nil]; exact ⟨h, hn⟩
 | k + 1, m :: l, ord, hl, h, hn => by
  rw [meets_cons]
  by_cases c : m < 10 ∨ m ∈ ord
  ·rw [if_pos c]
   exact meets_all hT (k + 1) l ord (fun x hx => hl x (by simp [hx])) h hn
  ·rw [if_neg c]
   have c1 : 10 ≤ m := by
    rcases Int.lt_or_le m 10 with h | h
    ·exact absurd (.inl h) c
    ·exact h
   have c2 : m ∉ ord := fun h => c (.inr h)
   have hm : m ∈ T := hl m (by simp) c1
   have := meets_all hT k (kd m) (ord ++ [m]) (hT m c1 hm) (fun x hx => by
    rcases List.mem_append.1 hx with h1 | h1
    ·exact h x h1
    ·rw [List.mem_singleton] at h1; rw [h1]; exact ⟨hm, c1⟩) (by
    rw [List.nodup_append]
    refine ⟨hn, by simp, fun a ha b hb e => ?_⟩
    rw [List.mem_singleton] at hb
    subst hb
    subst e
    exact c2 ha)
   exact meets_all hT (k + 1) l _ (fun x hx => hl x (by simp [hx])) this.1 this.2
theorem meets_full {T : List Int} (hT : ∀ n, 10 ≤ n → n ∈ T → ∀ x ∈ kd n, 10 ≤ x → x ∈ T) : ∀ (k : Nat) (l ord : List Int), fresh T ord < k → (∀ x ∈ l, 10 ≤ x → x ∈ T) →
  (∀ x ∈ l, 10 ≤ x → x ∈ meets kd k l ord) ∧ ∀ n, n ∈ meets kd k l ord → n ∉ ord → ∀ x ∈ kd n, 10 ≤ x → x ∈ meets kd k l ord
 | 0, _, _, h, _ => absurd h (by omega)
 | k + 1, [], ord, _, _ => by
  rw [meets_nil]
  exact ⟨(fun x hx => by cases hx), (fun n h1 h2 => absurd h1 h2)⟩
 | k + 1, m :: l, ord, hf, hl => by
  rw [meets_cons]
  by_cases c : m < 10 ∨ m ∈ ord
  ·rw [if_pos c]
   obtain ⟨h1, h2⟩ := meets_full hT (k + 1) l ord hf (fun x hx => hl x (by simp [hx]))
   refine ⟨fun x hx hx10 => ?_, h2⟩
   rcases List.mem_cons.1 hx with e | e
   ·rcases c with c | c
    ·omega
    ·rw [e]; exact meets_more _ _ _ _ c
   ·exact h1 x e hx10
  ·rw [if_neg c]
   have c1 : 10 ≤ m := by
    rcases Int.lt_or_le m 10 with h | h
    ·exact absurd (.inl h) c
    ·exact h
   have c2 : m ∉ ord := fun h => c (.inr h)
   have hm : m ∈ T := hl m (by simp) c1
   have hlt : fresh T (ord ++ [m]) < fresh T ord := fresh_lt (fun n h => List.mem_append_left _ h) hm c2 (by simp)
   obtain ⟨a1, a2⟩ := meets_full hT k (kd m) (ord ++ [m]) (by omega) (hT m c1 hm)
   have hin : m ∈ meets kd k (kd m) (ord ++ [m]) := meets_more _ _ _ _ (by simp)
   obtain ⟨b1, b2⟩ := meets_full hT (k + 1) l (meets kd k (kd m) (ord ++ [m])) (by
    have := fresh_mono (T := T) (o := ord) (o' := meets kd k (kd m) (ord ++ [m])) (fun n h => meets_more _ _ _ _ (List.mem_append_left _ h))
    omega) (fun x hx => hl x (by simp [hx]))
   refine ⟨fun x hx hx10 => ?_, fun n hn hno x hx hx10 => ?_⟩
   ·rcases List.mem_cons.1 hx with e | e
    ·rw [e]; exact meets_more _ _ _ _ hin
    ·exact b1 x e hx10
   ·by_cases hp : n ∈ meets kd k (kd m) (ord ++ [m])
    ·by_cases hq : n ∈ ord ++ [m]
     ·rcases List.mem_append.1 hq with h1 | h1
      ·exact absurd h1 hno
      ·rw [List.mem_singleton] at h1
       rw [h1] at hx
       exact meets_more _ _ _ _ (a1 x hx hx10)
     ·exact meets_more _ _ _ _ (a2 n hp hq x hx hx10)
    ·exact b2 n hn hp x hx hx10
theorem meets_fuel {T : List Int} (hT : ∀ n, 10 ≤ n → n ∈ T → ∀ x ∈ kd n, 10 ≤ x → x ∈ T) : ∀ (k k' : Nat) (l ord : List Int), fresh T ord < k → fresh T ord < k' → (∀ x ∈ l, 10 ≤ x → x ∈ T) → meets kd k l ord = meets kd k' l ord
 | 0, _, _, _, h, _, _ => absurd h (by omega)
 | k + 1, 0, _, _, _, h, _ => absurd h (by omega)
 | k + 1, k' + 1, [], ord, _, _, _ => by rw [meets_nil, meets_nil]
 | k + 1, k' + 1, m :: l, ord, hf, hf', hl => by
  rw [meets_cons, meets_cons]
  by_cases c : m < 10 ∨ m ∈ ord
  ·rw [if_pos c, if_pos c]
   exact meets_fuel hT (k + 1) (k' + 1) l ord hf hf' (fun x hx => hl x (by simp [hx]))
  ·rw [if_neg c, if_neg c]
   have c1 : 10 ≤ m := by
    rcases Int.lt_or_le m 10 with h | h
    ·exact absurd (.inl h) c
    ·exact h
   have c2 : m ∉ ord := fun h => c (.inr h)
   have hm : m ∈ T := hl m (by simp) c1
   have hlt : fresh T (ord ++ [m]) < fresh T ord := fresh_lt (fun n h => List.mem_append_left _ h) hm c2 (by simp)
   rw [meets_fuel hT k k' (kd m) (ord ++ [m]) (by omega) (by omega) (hT m c1 hm)]
   have := fresh_mono (T := T) (o := ord) (o' := meets kd k' (kd m) (ord ++ [m])) (fun n h => meets_more _ _ _ _ (List.mem_append_left _ h))
   exact meets_fuel hT (k + 1) (k' + 1) l _ (by omega) (by omega) (fun x hx => hl x (by simp [hx]))
theorem meets_map {kd' : Int → List Int} (ρ : Int → Int) (S : List Int) (hlow : ∀ n, n < 10 → ρ n = n) (hhigh : ∀ n ∈ S, 10 ≤ ρ n) (hinj : ∀ a ∈ S, ∀ b ∈ S, ρ a = ρ b → a = b) (hkd : ∀ n ∈ S, kd' (ρ n) = (kd n).map ρ) :
  ∀ (k : Nat) (l ord : List Int), (∀ x ∈ l, 10 ≤ x → x ∈ S) → (∀ x ∈ ord, x ∈ S) → (∀ n ∈ S, ∀ x ∈ kd n, 10 ≤ x → x ∈ S) → meets kd' k (l.map ρ) (ord.map ρ) = (meets kd k l ord).map ρ ∧ ∀ x ∈ meets kd k l ord, x ∈ S
 | 0, _, _, _, ho, _ => ⟨rfl, ho⟩
 | k + 1, [], ord, _, ho, _ => by rw [List.map_nil, meets_nil, meets_nil]; exact ⟨rfl, ho⟩
 | k + 1, m :: l, ord, hl, ho, hS => by
  rw [List.map_cons, meets_cons, meets_cons]
  by_cases c0 : m < 10
  ·rw [if_pos (show ρ m < 10 ∨ ρ m ∈ ord.map ρ from .inl (by rw [hlow m c0]; exact c0)), if_pos (show m < 10 ∨ m ∈ ord from .inl c0)]
   exact meets_map ρ S hlow hhigh hinj hkd (k + 1) l ord (fun x hx => hl x (by simp [hx])) ho hS
  ·have hm : m ∈ S := hl m (by simp) (by omega)
   by_cases c1 : m ∈ ord
   ·rw [if_pos (show ρ m < 10 ∨ ρ m ∈ ord.map ρ from .inr (List.mem_map.2 ⟨m, c1, rfl⟩)), if_pos (show m < 10 ∨ m ∈ ord from .inr c1)]
    exact meets_map ρ S hlow hhigh hinj hkd (k + 1) l ord (fun x hx => hl x (by simp [hx])) ho hS
   ·have c2 : ρ m ∉ ord.map ρ := fun h => by
     obtain ⟨b, hb, e⟩ := List.mem_map.1 h
     have := hinj b (ho b hb) m hm e
     rw [this] at hb
     exact c1 hb
    have c3 := hhigh m hm
    rw [if_neg (show ¬(ρ m < 10 ∨ ρ m ∈ ord.map ρ) from fun h => by rcases h with h | h; omega; exact c2 h), if_neg (show ¬(m < 10 ∨ m ∈ ord) from fun h => by rcases h with h | h; omega; exact c1 h), hkd m hm]
    obtain ⟨a1, a2⟩ := meets_map ρ S hlow hhigh hinj hkd k (kd m) (ord ++ [m]) (hS m hm) (fun x hx => by
     rcases List.mem_append.1 hx with h | h
     ·exact ho x h
     ·rw [List.mem_singleton] at h; rw [h]; exact hm) hS
    rw [List.map_append] at a1
    rw [show [ρ m] = [m].map ρ from rfl, a1]
    exact meets_map ρ S hlow hhigh hinj hkd (k + 1) l _ (fun x hx => hl x (by simp [hx])) a2 hS
end
end Go.Proofs.YtildcdgobdfieaaGreat

namespace Go.Proofs.YtildcdgobdfieaaGreat
def nums (nt : Nat) : List Int := (List.range nt).map fun i : Nat => 10 + (i : Int)
theorem nums_iff {nt : Nat} {n : Int} : n ∈ nums nt ↔ 10 ≤ n ∧ n < 10 + (nt : Int) := by
 unfold nums
 rw [List.mem_map]
 constructor
 ·rintro ⟨i, hi, rfl⟩
  rw [List.mem_range] at hi
  omega
 ·rintro ⟨h1, h2⟩
  exact ⟨(n - 10).toNat, List.mem_range.2 (by omega), by omega⟩
theorem tyB_iff {nt : Nat} {n : Int} : tyB nt n = true ↔ 0 ≤ n ∧ n < 10 + (nt : Int) := by
 unfold tyB
 rw [inB_iff]
 omega
theorem tyB_nums {nt : Nat} {n : Int} (h : tyB nt n = true) (h10 : 10 ≤ n) : n ∈ nums nt := nums_iff.2 ⟨h10, (tyB_iff.1 h).2⟩
theorem kids_form {nt : Nat} {t : Ty} (h : tyForm nt t = true) : ∀ x ∈ kids t, tyB nt x = true := by
 unfold tyForm at h
 simp only [Bool.and_eq_true, List.all_eq_true] at h
 obtain ⟨⟨⟨⟨⟨⟨⟨a1, a2⟩, a3⟩, a4⟩, a5⟩, a6⟩, a7⟩, a8⟩ := h
 intro x hx
 unfold kids at hx
 simp only [List.mem_cons, List.mem_append, List.mem_map, List.not_mem_nil, or_false] at hx
 rcases hx with rfl | rfl | ⟨f, hf, rfl⟩ | ⟨p, hp, rfl⟩ | rfl
 ·exact a1
 ·exact a2
 ·exact (a6 f hf).1
 ·exact a8 p hp
 ·exact a3
theorem itm_form {nt : Nat} {x : ItmD} (h : itmForm nt x = true) : ∀ n ∈ itmKids x, tyB nt n = true := by
 unfold itmForm anyForm at h
 unfold itmKids
 cases hv : x.v <;> rw [hv] at h <;> simp only [Bool.and_eq_true] at h <;> intro n hn <;> simp only [List.mem_cons, List.not_mem_nil, or_false] at hn
 all_goals first
  | (rcases hn with rfl | rfl
     · exact h.1.1
     · exact h.2.1)
  | (subst hn; exact h.1.1)
theorem len_sub : ∀ (l m : List Int), l.Nodup → (∀ x ∈ l, x ∈ m) → l.length ≤ m.length
 | [], _, _, _ => Nat.zero_le _
 | x :: l, m, hn, h => by
  rw [List.nodup_cons] at hn
  have hx := h x (by simp)
  have ih := len_sub l (m.erase x) hn.2 (fun y hy => (List.mem_erase_of_ne (fun e => by rw [e] at hy; exact hn.1 hy)).2 (h y (by simp [hy])))
  rw [List.length_erase_of_mem hx] at ih
  have := List.length_pos_of_mem hx
  rw [List.length_cons]
  omega
section
variable {f : FaceD}
theorem face_types (h : mayP f = 0) : ∀ t ∈ f.types, tyForm f.types.length t = true := by
 have := (face_parts h).2.2.2
 unfold faceForm at this
 simp only [Bool.and_eq_true, List.all_eq_true] at this
 exact this.1
theorem face_items (h : mayP f = 0) : ∀ x ∈ f.items, itmForm f.types.length x = true := by
 have := (face_parts h).2.2.2
 unfold faceForm at this
 simp only [Bool.and_eq_true, List.all_eq_true] at this
 exact this.2
theorem closed (h : mayP f = 0) : ∀ n, 10 ≤ n → n ∈ nums f.types.length → ∀ x ∈ kidsAt f.types n, 10 ≤ x → x ∈ nums f.types.length := by
 intro n _ hn x hx h10
 unfold kidsAt at hx
 cases ht : f.types[(n - 10).toNat]? with
 | none => rw [ht] at hx; cases hx
 | some t =>
  rw [ht] at hx
  exact tyB_nums (kids_form (face_types h t (List.mem_of_getElem? ht)) x hx) h10
theorem starts_in (h : mayP f = 0) : ∀ x ∈ starts f, 10 ≤ x → x ∈ nums f.types.length := by
 intro x hx h10
 unfold starts at hx
 obtain ⟨y, hy, hxy⟩ := List.mem_flatMap.1 hx
 exact tyB_nums (itm_form (face_items h y hy) x hxy) h10
theorem fresh_all (nt : Nat) : fresh (nums nt) [] = nt := by
 unfold fresh nums
 rw [List.filter_eq_self.2 (fun x _ => by simp), List.length_map, List.length_range]
structure OrdOk (f : FaceD) (ord : List Int) : Prop where
 inT : ∀ x ∈ ord, x ∈ nums f.types.length
 high : ∀ x ∈ ord, 10 ≤ x
 nodup : ord.Nodup
 start : ∀ x ∈ starts f, 10 ≤ x → x ∈ ord
 kid : ∀ n ∈ ord, ∀ x ∈ kidsAt f.types n, 10 ≤ x → x ∈ ord
theorem ordOk (h : mayP f = 0) : OrdOk f (ordOf f) := by
 obtain ⟨a1, a2⟩ := meets_all (closed h) (f.types.length + 1) (starts f) [] (starts_in h) (by simp) (by simp)
 obtain ⟨b1, b2⟩ := meets_full (closed h) (f.types.length + 1) (starts f) [] (by rw [fresh_all]; omega) (starts_in h)
 exact ⟨fun x hx => (a1 x hx).1, fun x hx => (a1 x hx).2, a2, b1, fun n hn => b2 n hn (by simp)⟩
theorem idx_some {ord : List Int} {n : Int} (h : n ∈ ord) : ∃ k, ord.idxOf? n = some k ∧ ord[k]? = some n := by
 cases hx : ord.idxOf? n with
 | none => rw [List.idxOf?_eq_none_iff] at hx; exact absurd h hx
 | some k =>
  refine ⟨k, rfl, ?_⟩
  have := List.findIdx?_eq_some_iff_getElem.1 hx
  obtain ⟨hk, he, _⟩ := this
  rw [List.getElem?_eq_getElem hk]
  simpa using he
theorem anewN_out {ord : List Int} {n : Int} (h : n ∉ ord) : anewN ord n = n := by
 unfold anewN
 rw [List.idxOf?_eq_none_iff.2 h]
theorem nodup_idx {ord : List Int} (hn : ord.Nodup) {i j : Nat} {n : Int} (h1 : ord[i]? = some n) (h2 : ord[j]? = some n) : i = j := by
 obtain ⟨hi, e1⟩ := List.getElem?_eq_some_iff.1 h1
 obtain ⟨hj, e2⟩ := List.getElem?_eq_some_iff.1 h2
 exact (List.getElem_inj (h₀ := hi) (h₁ := hj) hn).1 (e1.trans e2.symm)
theorem anewN_at {ord : List Int} (hn : ord.Nodup) {k : Nat} {n : Int} (h : ord[k]? = some n) : anewN ord n = 10 + (k : Int) := by
 obtain ⟨j, h1, h2⟩ := idx_some (List.mem_of_getElem? h)
 unfold anewN
 rw [h1, nodup_idx hn h h2]
theorem kids_anew (ord : List Int) (t : Ty) : kids (anewT ord t) = (kids t).map (anewN ord) := by
 unfold kids anewT
 simp [Function.comp_def]
theorem itmKids_anew (ord : List Int) (x : ItmD) : itmKids (anewI ord x) = (itmKids x).map (anewN ord) := by
 unfold itmKids anewI anewV
 cases x.v <;> rfl
theorem anewT_id {ord : List Int} {t : Ty} (h : ∀ x ∈ kids t, anewN ord x = x) : anewT ord t = t := by
 unfold kids at h
 have hf : t.fields.map (fun f => ({ f with type := anewN ord f.type } : Fld)) = t.fields := by
  conv => rhs; rw [← List.map_id t.fields]
  refine List.map_congr_left (fun f hf => ?_)
  rw [h f.type (by simp only [List.mem_cons, List.mem_append, List.mem_map]; exact .inr (.inr (.inl ⟨f, hf, rfl⟩)))]
  rfl
 have hp : t.params.map (fun f => ({ f with type := anewN ord f.type } : Par)) = t.params := by
  conv => rhs; rw [← List.map_id t.params]
  refine List.map_congr_left (fun f hf => ?_)
  rw [h f.type (by simp only [List.mem_cons, List.mem_append, List.mem_map]; exact .inr (.inr (.inr (.inl ⟨f, hf, rfl⟩))))]
  rfl
 unfold anewT
 rw [hf, hp, h t.base (by simp), h t.index (by simp), h t.result (by simp)]
theorem anewI_id {ord : List Int} {x : ItmD} (h : ∀ n ∈ itmKids x, anewN ord n = n) : anewI ord x = x := by
 obtain ⟨a, b, c, d, v⟩ := x
 unfold itmKids at h
 unfold anewI anewV
 cases v <;> simp_all
theorem tyFit_anew (ord : List Int) (t : Ty) : tyFit (anewT ord t) = tyFit t := by
 unfold tyFit anewT
 simp [List.all_map, Function.comp_def]
theorem canon_type (h : mayP f = 0) {k : Nat} {n : Int} (hk : (ordOf f)[k]? = some n) : ∃ t, f.types[(n - 10).toNat]? = some t ∧ (canonF f).types[k]? = some (anewT (ordOf f) t) := by
 have hn := (ordOk h).inT n (List.mem_of_getElem? hk)
 rw [nums_iff] at hn
 have hlt : (n - 10).toNat < f.types.length := by omega
 refine ⟨f.types[(n - 10).toNat], List.getElem?_eq_getElem hlt, ?_⟩
 unfold canonF
 simp only
 rw [List.getElem?_map, hk, Option.map_some, List.getElem?_eq_getElem hlt]
 rfl
theorem canon_len : (canonF f).types.length = (ordOf f).length := by simp [canonF]
theorem ord_len (h : mayP f = 0) : (ordOf f).length ≤ f.types.length := by
 have o := ordOk h
 have : (ordOf f).length ≤ (nums f.types.length).length := by
  exact len_sub _ _ o.nodup (fun x hx => o.inT x hx)
 simpa [nums] using this
theorem anew_range (h : mayP f = 0) {x : Int} (hx : 0 ≤ x) (hin : 10 ≤ x → x ∈ ordOf f) : tyB (ordOf f).length (anewN (ordOf f) x) = true := by
 have o := ordOk h
 rcases Int.lt_or_le x 10 with h1 | h1
 ·rw [anewN_out (fun hm => by have := o.high x hm; omega)]
  exact tyB_iff.2 ⟨hx, by omega⟩
 ·obtain ⟨k, hk⟩ := List.getElem?_of_mem (hin h1)
  have hl := (List.getElem?_eq_some_iff.1 hk).1
  rw [anewN_at o.nodup hk]
  exact tyB_iff.2 ⟨by omega, by omega⟩
theorem tyForm_anew {ord : List Int} {nt nt' : Nat} {t : Ty} (h : tyForm nt t = true) (hk : ∀ x ∈ kids t, tyB nt' (anewN ord x) = true) : tyForm nt' (anewT ord t) = true := by
 unfold tyForm at h ⊢
 unfold kids at hk
 simp only [Bool.and_eq_true, List.all_eq_true, anewT, List.mem_map] at h ⊢
 obtain ⟨⟨⟨⟨⟨⟨⟨a1, a2⟩, a3⟩, a4⟩, a5⟩, a6⟩, a7⟩, a8⟩ := h
 refine ⟨⟨⟨⟨⟨⟨⟨hk _ (by simp), hk _ (by simp)⟩, hk _ (by simp)⟩, a4⟩, a5⟩, ?_⟩, a7⟩, ?_⟩
 ·rintro _ ⟨x, hx, rfl⟩
  exact ⟨hk _ (by simp only [List.mem_cons, List.mem_append, List.mem_map]; exact .inr (.inr (.inl ⟨x, hx, rfl⟩))), (a6 x hx).2⟩
 ·rintro _ ⟨x, hx, rfl⟩
  exact hk _ (by simp only [List.mem_cons, List.mem_append, List.mem_map]; exact .inr (.inr (.inr (.inl ⟨x, hx, rfl⟩))))
theorem itmForm_anew {ord : List Int} {nt nt' : Nat} {x : ItmD} (h : itmForm nt x = true) (hk : ∀ n ∈ itmKids x, tyB nt' (anewN ord n) = true) : itmForm nt' (anewI ord x) = true := by
 unfold itmForm anyForm at h ⊢
 unfold itmKids at hk
 unfold anewI anewV
 cases hv : x.v <;> rw [hv] at h hk <;> simp only [Bool.and_eq_true, List.mem_cons, List.not_mem_nil, or_false] at h hk ⊢
 all_goals first
  | (exact ⟨⟨hk _ rfl, h.1.2⟩, h.2⟩)
  | (exact ⟨⟨hk _ (.inl rfl), h.1.2⟩, ⟨hk _ (.inr rfl), h.2.2⟩⟩)
theorem may_of {f : FaceD} (h1 : faceFit f = true) (h2 : onceB [] (f.uses.map UseD.module) = true) (h3 : onceB [] (f.items.map ItmD.name) = true) (h4 : faceForm f = true) : mayP f = 0 := by
 unfold mayP
 simp [h1, h2, h3, h4]
theorem itmFit_anew (ord : List Int) (x : ItmD) : itmFit (anewI ord x) = itmFit x := by
 unfold itmFit anewI anewV anyFit
 cases x.v <;> rfl
theorem canon_may (h : mayP f = 0) : mayP (canonF f) = 0 := by
 obtain ⟨h1, h2, h3, h4⟩ := face_parts h
 have o := ordOk h
 have hl := ord_len h
 have hpos : ∀ n, tyB f.types.length n = true → 0 ≤ n := fun n hn => (tyB_iff.1 hn).1
 refine may_of ?_ h2 ?_ ?_
 ·unfold faceFit at h1 ⊢
  simp only [Bool.and_eq_true, decide_eq_true_eq, List.all_eq_true] at h1 ⊢
  obtain ⟨⟨⟨⟨⟨⟨a1, a2⟩, a3⟩, a4⟩, a5⟩, a6⟩, a7⟩ := h1
  refine ⟨⟨⟨⟨⟨⟨a1, by simpa [canonF] using a2⟩, by rw [canon_len]; omega⟩, a4⟩, a5⟩, fun t ht => ?_⟩, fun x hx => ?_⟩
  ·obtain ⟨k, hk⟩ := List.getElem?_of_mem ht
   have hkl := (List.getElem?_eq_some_iff.1 hk).1
   rw [canon_len] at hkl
   obtain ⟨t', e1, e2⟩ := canon_type h (List.getElem?_eq_getElem hkl)
   rw [hk] at e2
   injection e2 with e2
   rw [e2, tyFit_anew]
   exact a6 t' (List.mem_of_getElem? e1)
  ·obtain ⟨y, hy, rfl⟩ := List.mem_map.1 hx
   rw [itmFit_anew]
   exact a7 y hy
 ·have : (canonF f).items.map ItmD.name = f.items.map ItmD.name := by simp [canonF, anewI, Function.comp_def]
  rw [this]
  exact h3
 ·unfold faceForm
  rw [canon_len]
  simp only [Bool.and_eq_true, List.all_eq_true]
  refine ⟨fun t ht => ?_, fun x hx => ?_⟩
  ·obtain ⟨k, hk⟩ := List.getElem?_of_mem ht
   have hkl := (List.getElem?_eq_some_iff.1 hk).1
   rw [canon_len] at hkl
   obtain ⟨t', e1, e2⟩ := canon_type h (List.getElem?_eq_getElem hkl)
   rw [hk] at e2
   injection e2 with e2
   rw [e2]
   have hf := face_types h t' (List.mem_of_getElem? e1)
   refine tyForm_anew hf (fun x hx => anew_range h (hpos x (kids_form hf x hx)) (fun h10 => o.kid _ (List.getElem_mem hkl) x ?_ h10))
   unfold kidsAt
   rw [e1]
   exact hx
  ·obtain ⟨y, hy, rfl⟩ := List.mem_map.1 hx
   have hf := face_items h y hy
   exact itmForm_anew hf (fun n hn => anew_range h (hpos n (itm_form hf n hn)) (fun h10 => o.start n (List.mem_flatMap.2 ⟨y, hy, hn⟩) h10))
theorem nums_get {nt : Nat} {k : Nat} (hk : k < nt) : (nums nt)[k]? = some (10 + (k : Int)) := by
 unfold nums
 rw [List.getElem?_map, List.getElem?_range hk]
 rfl
theorem nums_nodup (nt : Nat) : (nums nt).Nodup := by
 unfold nums
 rw [List.nodup_iff_pairwise_ne, List.pairwise_map]
 exact List.Pairwise.imp (fun h => by intro e; exact h (by omega)) (List.nodup_range (n := nt))
theorem map_anew {ord : List Int} (hn : ord.Nodup) : ord.map (anewN ord) = nums ord.length := by
 refine List.ext_getElem? (fun k => ?_)
 rw [List.getElem?_map]
 rcases Nat.lt_or_ge k ord.length with hk | hk
 ·rw [List.getElem?_eq_getElem hk, Option.map_some, anewN_at hn (List.getElem?_eq_getElem hk), nums_get hk]
 ·rw [List.getElem?_eq_none hk, List.getElem?_eq_none (by simpa [nums] using hk)]
  rfl
theorem ord_canon (h : mayP f = 0) : ordOf (canonF f) = nums (ordOf f).length := by
 have o := ordOk h
 have hc := canon_may h
 have hm := meets_map (kd := kidsAt f.types) (kd' := kidsAt (canonF f).types) (anewN (ordOf f)) (ordOf f) (fun n hn => anewN_out (fun hx => by have := o.high n hx; omega))
  (fun n hn => by
   obtain ⟨k, hk⟩ := List.getElem?_of_mem hn
   rw [anewN_at o.nodup hk]; omega)
  (fun a ha b hb e => by
   obtain ⟨i, hi⟩ := List.getElem?_of_mem ha
   obtain ⟨j, hj⟩ := List.getElem?_of_mem hb
   rw [anewN_at o.nodup hi, anewN_at o.nodup hj] at e
   have : i = j := by omega
   subst this
   rw [hi] at hj
   injection hj)
  (fun n hn => by
   obtain ⟨k, hk⟩ := List.getElem?_of_mem hn
   obtain ⟨t, e1, e2⟩ := canon_type h hk
   rw [anewN_at o.nodup hk]
   unfold kidsAt
   rw [e1, show (10 + (k : Int) - 10).toNat = k by omega, e2]
   exact kids_anew _ _)
  (f.types.length + 1) (starts f) [] o.start (by simp) o.kid
 have hs : starts (canonF f) = (starts f).map (anewN (ordOf f)) := by
  unfold starts canonF
  simp only
  rw [List.flatMap_map, List.map_flatMap]
  congr 1
  funext x
  exact itmKids_anew _ _
 have e1 : ordOf (canonF f) = meets (kidsAt (canonF f).types) (f.types.length + 1) (starts (canonF f)) [] := by
  have hl := ord_len h
  exact meets_fuel (closed hc) _ _ _ _ (by rw [fresh_all]; omega) (by rw [fresh_all, canon_len]; omega) (starts_in hc)
 rw [e1, hs]
 have := hm.1
 rw [List.map_nil] at this
 rw [this]
 exact map_anew o.nodup
theorem canon_twice (h : mayP f = 0) : canonF (canonF f) = canonF f := by
 have o := ordOk h
 have hc := canon_may h
 have oc := ordOk hc
 have e := ord_canon h
 have hid : ∀ x, 0 ≤ x → x < 10 + ((ordOf f).length : Int) → anewN (nums (ordOf f).length) x = x := by
  intro x h0 h1
  rcases Int.lt_or_le x 10 with h2 | h2
  ·exact anewN_out (fun hm => by have := (nums_iff.1 hm).1; omega)
  ·rw [anewN_at (nums_nodup _) (k := (x - 10).toNat) (by rw [nums_get (by omega)]; congr 1; omega)]
   omega
 have ht : (ordOf (canonF f)).map (fun n => anewT (ordOf (canonF f)) (((canonF f).types[(n - 10).toNat]?).getD zeroTy)) = (canonF f).types := by
  refine List.ext_getElem? (fun k => ?_)
  rw [List.getElem?_map, e]
  rcases Nat.lt_or_ge k (ordOf f).length with hk | hk
  ·rw [nums_get hk, Option.map_some, show (10 + (k : Int) - 10).toNat = k by omega, List.getElem?_eq_getElem (by rw [canon_len]; exact hk)]
   simp only [Option.getD_some, Option.some.injEq]
   refine anewT_id (fun x hx => ?_)
   have := kids_form (face_types hc _ (List.getElem_mem (by rw [canon_len]; exact hk))) x hx
   rw [canon_len, tyB_iff] at this
   exact hid x this.1 this.2
  ·rw [List.getElem?_eq_none (by simpa [nums] using hk), List.getElem?_eq_none (by rw [canon_len]; exact hk)]
   rfl
 have hi : (canonF f).items.map (anewI (ordOf (canonF f))) = (canonF f).items := by
  conv => rhs; rw [← List.map_id (canonF f).items]
  refine List.map_congr_left (fun x hx => ?_)
  refine anewI_id (fun n hn => ?_)
  have := itm_form (face_items hc x hx) n hn
  rw [canon_len, tyB_iff] at this
  rw [e]
  exact hid n this.1 this.2
 have key : ∀ c, canonF c = { c with types := (ordOf c).map (fun n => anewT (ordOf c) ((c.types[(n - 10).toNat]?).getD zeroTy)), items := c.items.map (anewI (ordOf c)) } := fun _ => rfl
 rw [key (canonF f), ht, hi]
end
end Go.Proofs.YtildcdgobdfieaaGreat

namespace Go.Proofs.YtildcdgobdfieaaGreat
theorem faceW_canon {f : FaceD} (h : faceW f) (hm : mayP f = 0) : faceW (canonF f) := by
 refine ⟨h.keys, fun t ht => ?_, fun x hx => ?_, fun x hx => ?_⟩
 ·obtain ⟨k, hk⟩ := List.getElem?_of_mem ht
  unfold canonF at hk
  rw [List.getElem?_map] at hk
  cases hn : (ordOf f)[k]? with
  | none => rw [hn] at hk; cases hk
  | some n =>
   obtain ⟨t0, h0, h1⟩ := canon_type hm hn
   rw [hn] at hk
   simp only [Option.map_some, Option.some.injEq] at hk
   rw [h0] at hk
   simp only [Option.getD_some] at hk
   subst hk
   exact h.kinds t0 (List.mem_of_getElem? h0)
 ·unfold canonF at hx
  obtain ⟨y, hy, rfl⟩ := List.mem_map.1 hx
  exact h.sorts y hy
 ·unfold canonF at hx
  obtain ⟨y, hy, rfl⟩ := List.mem_map.1 hx
  have := h.vals y hy
  unfold anewI
  revert this
  cases y.v <;> exact id
end Go.Proofs.YtildcdgobdfieaaGreat

namespace Go.Proofs.YtildcdgobdfieaaGreat
open Go.RowKit
end Go.Proofs.YtildcdgobdfieaaGreat
