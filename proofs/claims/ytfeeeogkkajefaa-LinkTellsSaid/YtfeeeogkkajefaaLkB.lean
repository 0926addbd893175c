/- What linking answers, and what may be said of it: the plain laws of LinkMay and LinkKeys. No conditions. -/
import Derived.Test.YtfeeeogkkajefaaLkA
namespace Go.Proofs.Ytfeeeogkkajefaa
set_option linter.unusedVariables false

def needOf (o : ObjD) : NeedD := ⟨o.module, o.uses.map UseD.module⟩
def zeroObj : ObjD := ⟨⟨#[]⟩, false, 0, [], ⟨⟨#[]⟩, [], [], 0, []⟩⟩
/-- The last one that was put in under a name. -/
def lastOf {α : Type} (es : List (ByteArray × α)) (m : ByteArray) : Option α := (es.reverse.find? (fun x => decide (x.1 = m))).map Prod.snd
theorem lastOf_nil {α : Type} (m : ByteArray) : lastOf ([] : List (ByteArray × α)) m = none := rfl
theorem lastOf_snoc {α : Type} (es : List (ByteArray × α)) (k : ByteArray) (v : α) (m : ByteArray) : lastOf (es ++ [(k, v)]) m = if k = m then some v else lastOf es m := by
  unfold lastOf
  rw [List.reverse_append]
  show Option.map Prod.snd (((k, v) :: es.reverse).find? _) = _
  rw [List.find?_cons]
  by_cases h : k = m
  · simp [h]
  · simp [h]
theorem lastOf_mem {α : Type} {es : List (ByteArray × α)} {m : ByteArray} {v : α} (h : lastOf es m = some v) : (m, v) ∈ es := by
  unfold lastOf at h
  cases hf : es.reverse.find? (fun x => decide (x.1 = m)) with
  | none => rw [hf] at h; cases h
  | some p =>
    rw [hf] at h
    have h1 := List.mem_of_find?_eq_some hf
    have h2 := List.find?_some hf
    simp only [Option.map_some, Option.some.injEq] at h
    have h3 : p.1 = m := by simpa using h2
    rw [← h, ← h3]
    exact List.mem_reverse.1 h1
theorem lastOf_none {α : Type} {es : List (ByteArray × α)} {m : ByteArray} (h : lastOf es m = none) (v : α) : (m, v) ∉ es := by
  intro hm
  unfold lastOf at h
  rw [Option.map_eq_none_iff, List.find?_eq_none] at h
  exact h _ (List.mem_reverse.2 hm) (by simp)
/-- Each name once: what was put in is found. -/
theorem lastOf_uniq {α : Type} {es : List (ByteArray × α)} (hn : (es.map Prod.fst).Nodup) {m : ByteArray} {v : α} (h : (m, v) ∈ es) : lastOf es m = some v := by
  cases hl : lastOf es m with
  | none => exact absurd h (lastOf_none hl v)
  | some u =>
    have hu := lastOf_mem hl
    obtain ⟨i, hi, e1⟩ := List.getElem_of_mem h
    obtain ⟨j, hj, e2⟩ := List.getElem_of_mem hu
    have hij : i = j := by
      refine (List.getElem_inj (xs := es.map Prod.fst) (h₀ := by simpa using hi) (h₁ := by simpa using hj) hn).1 ?_
      rw [List.getElem_map, List.getElem_map, e1, e2]
    subst hij
    rw [e1] at e2
    injection e2 with _ e2
    rw [e2]
def named (l : List ObjD) : List (ByteArray × ObjD) := l.map fun o => (o.module, o)
def objOf (l : List ObjD) (m : ByteArray) : ObjD := (lastOf (named l) m).getD zeroObj
def numbered : Nat → List ByteArray → List (ByteArray × Int)
  | _, [] => []
  | i, m :: l => (m, (i : Int)) :: numbered (i + 1) l
def placeOf (names : List ByteArray) (m : ByteArray) : Int := (lastOf (numbered 0 names) m).getD 0
def mismatch (l : List ObjD) (o : ObjD) : Bool := o.uses.any (fun u => decide ((objOf l u.module).key ≠ u.key))
def keysAt (l : List ObjD) (n : Nat) : Nat → List ByteArray → Option (ByteArray × Int)
  | _, [] => none
  | i, m :: ms => if (objOf l m).main = decide (i + 1 = n) then if mismatch l (objOf l m) then some (m, 230) else keysAt l n (i + 1) ms else some (m, 231)
def dataOf (l : List ObjD) : List ByteArray → Int
  | [] => 0
  | m :: ms => (objOf l m).mod.data + dataOf l ms
structure ImgD where
  names : List ByteArray
  mods : List ModD
  order : List Int
def noImg : ImgD := ⟨[], [], []⟩
def modOf (l : List ObjD) (names : List ByteArray) (m : ByteArray) : ModD := { (objOf l m).mod with imports := (objOf l m).uses.map fun u => placeOf names u.module }
def imgOf (l : List ObjD) (names : List ByteArray) : ImgD := ⟨names, names.map (modOf l names), (List.range names.length).map Int.ofNat⟩
/-- What linking answers, once the order stands. -/
def linkN (l : List ObjD) (main : ByteArray) (names : List ByteArray) : ImgD × ByteArray × Int :=
  match keysAt l names.length 0 names with
  | some (m, e) => (noImg, m, e)
  | none => if 64 < names.length ∨ 65535 < dataOf l names then (noImg, main, 5) else (imgOf l names, ⟨#[]⟩, 0)
def linkP (l : List ObjD) (main : ByteArray) : ImgD × ByteArray × Int :=
  match l.find? (fun o => !objB o) with
  | some o => (noImg, o.module, 2)
  | none => if (orderP (l.map needOf) main).2.2 = 0 then linkN l main (orderP (l.map needOf) main).1 else (noImg, (orderP (l.map needOf) main).2.1, (orderP (l.map needOf) main).2.2)

theorem twiceOf_none : ∀ (l : List NeedD) (seen : List ByteArray), twiceOf seen l = none → (l.map NeedD.module).Nodup ∧ ∀ x ∈ l, x.module ∉ seen
  | [], seen, _ => ⟨by simp, fun x hx => by cases hx⟩
  | x :: l, seen, h => by
    unfold twiceOf at h
    by_cases hx : x.module ∈ seen
    · rw [if_pos (inL_iff.2 hx)] at h; cases h
    · rw [if_neg (fun hc => hx (inL_iff.1 hc))] at h
      obtain ⟨h1, h2⟩ := twiceOf_none l _ h
      refine ⟨?_, fun y hy => ?_⟩
      · rw [List.map_cons, List.nodup_cons]
        refine ⟨fun hm => ?_, h1⟩
        obtain ⟨y, hy, e⟩ := List.mem_map.1 hm
        exact h2 y hy (by rw [e]; simp)
      · rcases List.mem_cons.1 hy with e | e
        · rw [e]; exact hx
        · exact fun hs => h2 y e (List.mem_append_left _ hs)
theorem twiceOf_of : ∀ (l : List NeedD) (seen : List ByteArray), (l.map NeedD.module).Nodup → (∀ x ∈ l, x.module ∉ seen) → twiceOf seen l = none
  | [], _, _, _ => rfl
  | x :: l, seen, h1, h2 => by
    unfold twiceOf
    rw [List.map_cons, List.nodup_cons] at h1
    rw [if_neg (fun hc => h2 x (by simp) (inL_iff.1 hc))]
    refine twiceOf_of l _ h1.2 (fun y hy hm => ?_)
    rcases List.mem_append.1 hm with hm | hm
    · exact h2 y (by simp [hy]) hm
    · rw [List.mem_singleton] at hm
      exact h1.1 (List.mem_map.2 ⟨y, hy, hm⟩)
theorem allOf_iff {l : List NeedD} (hn : (l.map NeedD.module).Nodup) (m : ByteArray) (s : List ByteArray) : allOf l m = some s ↔ ∃ x ∈ l, x.module = m ∧ x.needs = s := by
  induction l with
  | nil => simp [allOf]
  | cons x l ih =>
    rw [List.map_cons, List.nodup_cons] at hn
    unfold allOf
    rw [List.find?_cons]
    by_cases hx : x.module = m
    · rw [decide_eq_true hx]
      simp only [Option.map_some, Option.some.injEq]
      constructor
      · exact fun e => ⟨x, by simp, hx, e⟩
      · rintro ⟨y, hy, e1, e2⟩
        rcases List.mem_cons.1 hy with e | e
        · rw [← e]; exact e2
        · exact absurd (List.mem_map.2 ⟨y, e, by rw [e1, hx]⟩) hn.1
    · rw [decide_eq_false hx]
      have := ih hn.2
      unfold allOf at this
      show Option.map _ (l.find? _) = _ ↔ _
      rw [this]
      constructor
      · rintro ⟨y, hy, e⟩
        exact ⟨y, by simp [hy], e⟩
      · rintro ⟨y, hy, e1, e2⟩
        rcases List.mem_cons.1 hy with e | e
        · rw [e] at e1; exact absurd e1 hx
        · exact ⟨y, e, e1, e2⟩
theorem named_fst (l : List ObjD) : (named l).map Prod.fst = l.map ObjD.module := by simp [named, Function.comp_def]
theorem need_fst (l : List ObjD) : (l.map needOf).map NeedD.module = l.map ObjD.module := by simp [needOf, Function.comp_def]
theorem objOf_uniq {l : List ObjD} (hn : (l.map ObjD.module).Nodup) {o : ObjD} (h : o ∈ l) : objOf l o.module = o := by
  unfold objOf
  have hm : (o.module, o) ∈ named l := List.mem_map.2 ⟨o, h, rfl⟩
  rw [lastOf_uniq (by rw [named_fst]; exact hn) hm]
  rfl
theorem numbered_mem : ∀ (l : List ByteArray) (i : Nat) (m : ByteArray) (k : Int), (m, k) ∈ numbered i l ↔ ∃ j : Nat, l[j]? = some m ∧ k = ((i + j : Nat) : Int)
  | [], i, m, k => by simp [numbered]
  | x :: l, i, m, k => by
    rw [numbered, List.mem_cons, numbered_mem l (i + 1) m k]
    constructor
    · rintro (h | ⟨j, h1, h2⟩)
      · injection h with h1 h2
        exact ⟨0, by simp [h1], by rw [h2]; rfl⟩
      · exact ⟨j + 1, by simpa using h1, by rw [h2]; congr 1; omega⟩
    · rintro ⟨j, h1, h2⟩
      cases j with
      | zero => exact .inl (by simp at h1; rw [h1, h2]; rfl)
      | succ j => exact .inr ⟨j, by simpa using h1, by rw [h2]; congr 1; omega⟩
theorem numbered_fst : ∀ (l : List ByteArray) (i : Nat), (numbered i l).map Prod.fst = l
  | [], _ => rfl
  | x :: l, i => by rw [numbered, List.map_cons, numbered_fst l (i + 1)]
theorem numbered_snoc : ∀ (l : List ByteArray) (i : Nat) (m : ByteArray), numbered i (l ++ [m]) = numbered i l ++ [(m, ((i + l.length : Nat) : Int))]
  | [], i, m => rfl
  | x :: l, i, m => by
    show (x, (i : Int)) :: numbered (i + 1) (l ++ [m]) = (x, (i : Int)) :: (numbered (i + 1) l ++ _)
    rw [numbered_snoc l (i + 1) m]
    have : i + 1 + l.length = i + (x :: l).length := by rw [List.length_cons]; omega
    rw [this]
theorem placeOf_eq {names : List ByteArray} (hn : names.Nodup) {j : Nat} {m : ByteArray} (h : names[j]? = some m) : placeOf names m = (j : Int) := by
  unfold placeOf
  rw [lastOf_uniq (by rw [numbered_fst]; exact hn) (v := (j : Int)) ((numbered_mem names 0 m _).2 ⟨j, h, by simp⟩)]
  rfl
theorem ordB_range (n : Nat) : ∀ (k : Nat) (seen : List Int), (∀ x ∈ seen, x < ((n - k : Nat) : Int)) → k ≤ n → ordB n seen ((List.range' (n - k) k).map Int.ofNat) = true
  | 0, _, _, _ => rfl
  | k + 1, seen, hs, hk => by
    rw [List.range'_succ, List.map_cons, ordB]
    have e : n - (k + 1) + 1 = n - k := by omega
    rw [e]
    have h1 : inB (Int.ofNat (n - (k + 1))) 0 ((n : Int) - 1) = true := by
      unfold inB
      rw [Bool.and_eq_true]
      exact ⟨decide_eq_true (Int.natCast_nonneg _), decide_eq_true (by show ((n - (k + 1) : Nat) : Int) ≤ _; omega)⟩
    have h2 : seen.contains (Int.ofNat (n - (k + 1))) = false := by
      cases hc : seen.contains (Int.ofNat (n - (k + 1))) with
      | false => rfl
      | true =>
        have := hs _ (by simpa using hc)
        exact absurd this (by show ¬ ((n - (k + 1) : Nat) : Int) < _; omega)
    rw [h1, h2]
    refine Bool.and_eq_true_iff.2 ⟨rfl, ordB_range n k _ (fun x hx => ?_) (by omega)⟩
    rcases List.mem_append.1 hx with h | h
    · have := hs x h; omega
    · rw [List.mem_singleton] at h
      rw [h]
      show ((n - (k + 1) : Nat) : Int) < _
      omega
theorem modsAt_none {n : Int} : ∀ (l : List ModD) (i : Nat), (∀ m ∈ l, modB m n = true) → modsAt n i l = none
  | [], _, _ => rfl
  | m :: l, i, h => by
    unfold modsAt
    rw [if_pos (h m (by simp))]
    exact modsAt_none l _ (fun x hx => h x (by simp [hx]))
theorem keysAt_ne (l : List ObjD) (n : Nat) : ∀ (ms : List ByteArray) (i : Nat) (p : ByteArray × Int), keysAt l n i ms = some p → p.2 ≠ 0
  | [], _, _, h => by cases h
  | m :: ms, i, p, h => by
    unfold keysAt at h
    split at h
    · split at h
      · injection h with h; rw [← h]; exact (by decide : (230 : Int) ≠ 0)
      · exact keysAt_ne l n ms _ p h
    · injection h with h; rw [← h]; exact (by decide : (231 : Int) ≠ 0)
/-- What is so where linking ends well. -/
structure LinkOk (l : List ObjD) (main : ByteArray) (img : ImgD) : Prop where
  uniq : (l.map ObjD.module).Nodup
  may : ∀ o ∈ l, objB o = true
  made : img = imgOf l img.names
  nodup : img.names.Nodup
  order : orderP (l.map needOf) main = (img.names, ⟨#[]⟩, 0)
  keys : keysAt l img.names.length 0 img.names = none
  small : img.names.length ≤ 64
  data : dataOf l img.names ≤ 65535
  last : ∃ x, img.names = x ++ [main]
  obj : ∀ (i : Nat) (m : ByteArray), img.names[i]? = some m → ∃ o ∈ l, o.module = m ∧ ∀ u ∈ o.uses, ∃ j, j < i ∧ img.names[j]? = some u.module
theorem link_ok {l : List ObjD} {main who : ByteArray} {img : ImgD} (h : linkP l main = (img, who, 0)) : LinkOk l main img ∧ who = ⟨#[]⟩ := by
  unfold linkP at h
  cases hm : l.find? (fun o => !objB o) with
  | some o => rw [hm] at h; cases h
  | none =>
    rw [hm] at h
    have hmay : ∀ o ∈ l, objB o = true := fun o ho => by simpa using (List.find?_eq_none.1 hm) o ho
    by_cases ho : (orderP (l.map needOf) main).2.2 = 0
    · simp only [if_pos ho] at h
      have hord : ∃ t, (orderP (l.map needOf) main) = (t.ord, ⟨#[]⟩, 0) ∧ twiceOf [] (l.map needOf) = none ∧ thr (allOf (l.map needOf)) ((l.map needOf).length + 1) main ⟨fun _ => 0, []⟩ = .ok t := by
        unfold orderP at ho ⊢
        cases ht : twiceOf [] (l.map needOf) with
        | some d => rw [ht] at ho; simp at ho
        | none =>
          rw [ht] at ho
          cases hr : thr (allOf (l.map needOf)) ((l.map needOf).length + 1) main ⟨fun _ => 0, []⟩ with
          | ok t => exact ⟨t, by simp only, rfl, rfl⟩
          | err who' e => 
            exfalso
            simp only [hr] at ho
            subst ho
            exact thr_err_ne _ _ _ _ _ hr
      obtain ⟨t, e, htw, hthr⟩ := hord
      rw [e] at h
      simp only at h
      obtain ⟨hnd, _⟩ := twiceOf_none _ _ htw
      obtain ⟨hinv, _, _⟩ := thr_inv _ _ _ _ rfl (inv_start _) hthr
      obtain ⟨x, hx⟩ := thr_last hthr
      unfold linkN at h
      cases hk : keysAt l t.ord.length 0 t.ord with
      | some p =>
        rw [hk] at h
        simp only [Prod.mk.injEq] at h
        exact absurd h.2.2 (keysAt_ne _ _ _ _ _ hk)
      | none =>
        rw [hk] at h
        by_cases hr : 64 < t.ord.length ∨ 65535 < dataOf l t.ord
        · simp only [if_pos hr, Prod.mk.injEq] at h
          exact absurd h.2.2 (by decide)
        · simp only [if_neg hr, Prod.mk.injEq] at h
          obtain ⟨rfl, rfl, _⟩ := h
          refine ⟨⟨by rw [← need_fst]; exact hnd, hmay, rfl, hinv.nodup, e, hk, by show t.ord.length ≤ 64; omega, by show dataOf l t.ord ≤ 65535; omega, ⟨x, hx⟩, fun i m hi => ?_⟩, rfl⟩
          obtain ⟨s, ha, hs⟩ := hinv.ahead i m hi
          obtain ⟨y, hy, e1, e2⟩ := (allOf_iff hnd m s).1 ha
          obtain ⟨o, ho', rfl⟩ := List.mem_map.1 hy
          refine ⟨o, ho', e1, fun u hu => hs u.module ?_⟩
          rw [← e2]
          exact List.mem_map.2 ⟨u, hu, rfl⟩
    · simp only [if_neg ho, Prod.mk.injEq] at h
      exact absurd h.2.2 ho
end Go.Proofs.Ytfeeeogkkajefaa
