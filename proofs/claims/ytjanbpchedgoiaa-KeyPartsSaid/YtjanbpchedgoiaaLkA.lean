/- Linking, as plain data: modules, objects, in which order they begin, what is linked. The plain law of the order. No conditions. -/
import Derived.Test.YtjanbpchedgoiaaRows
namespace Go.Proofs.Ytjanbpchedgoiaa
set_option linter.unusedVariables false

/-- A procedure. -/
structure PrcD where
  at_ : Int
  params : Int
  locals : Int
  depth : Int
  level : Int
  func : Bool
/-- A module. -/
structure ModD where
  code : ByteArray
  procs : List PrcD
  imports : List Int
  data : Int
  init : List Int
/-- Another one that is named. -/
structure UseD where
  module : ByteArray
  key : Int
/-- An object. -/
structure ObjD where
  module : ByteArray
  main : Bool
  key : Int
  uses : List UseD
  mod : ModD
/-- What a module needs. -/
structure NeedD where
  module : ByteArray
  needs : List ByteArray

/-- Is it in the list? -/
def inL (m : ByteArray) (l : List ByteArray) : Bool := l.any (fun x => decide (x = m))
theorem inL_iff {m : ByteArray} {l : List ByteArray} : inL m l = true ↔ m ∈ l := by
  unfold inL
  rw [List.any_eq_true]
  constructor
  · rintro ⟨x, hx, e⟩
    rw [← of_decide_eq_true e]; exact hx
  · exact fun h => ⟨m, h, decide_eq_true rfl⟩
/-- Is it from low to high? -/
def inB (n low high : Int) : Bool := decide (low ≤ n) && decide (n ≤ high)
def prcB (p : PrcD) (m : ModD) : Bool := inB p.params 0 65535 && inB p.locals 0 65535 && inB p.depth 0 65535 && inB p.at_ 0 (m.code.size : Int) && inB p.level 1 16
def bodyB : List PrcD → Bool
  | [] => false
  | p :: _ => decide (p.level = 1) && decide (p.params = 0) && !p.func
/-- May a module be, among so many? -/
def modB (m : ModD) (n : Int) : Bool :=
  decide (m.code.size ≤ 65535) && decide (1 ≤ m.procs.length) && decide (m.procs.length ≤ 1024) && decide (m.imports.length ≤ 255) && inB m.data (m.init.length : Int) 65535 &&
    m.procs.all (fun p => prcB p m) && m.imports.all (fun i => inB i 0 (n - 1)) && bodyB m.procs
/-- The first that is there twice, in a list of numbers; or out of its bounds. -/
def ordB (n : Int) : List Int → List Int → Bool
  | _, [] => true
  | seen, i :: l => inB i 0 (n - 1) && !(seen.contains i) && ordB n (seen ++ [i]) l
def modsAt (n : Int) : Nat → List ModD → Option Nat
  | _, [] => none
  | i, m :: l => if modB m n then modsAt n (i + 1) l else some i
/-- May a program be? -/
def checkP (ms : List ModD) (order : List Int) : Int × Int :=
  if inB (ms.length : Int) 1 64 then
    match modsAt ms.length 0 ms with
    | some i => (i, 200)
    | none => if ordB ms.length [] order then (0, 0) else (ms.length, 200)
  else (ms.length, 200)
/-- May a module be, in an object? -/
def omodB (m : ModD) : Bool := decide (m.imports.length ≤ 255) && m.imports.all (fun i => inB i 0 63) && modB { m with imports := [] } 1
def nameB (s : ByteArray) : Bool := decide (1 ≤ s.size) && decide (s.size ≤ 255)
def usesB : List ByteArray → List UseD → Bool
  | _, [] => true
  | seen, u :: l => nameB u.module && !(inL u.module seen) && usesB (seen ++ [u.module]) l
/-- May an object be? -/
def objB (o : ObjD) : Bool := nameB o.module && decide (o.uses.length ≤ 255) && decide (o.mod.imports.length = 0) && usesB [o.module] o.uses && omodB o.mod

/-- How far the order has come. -/
structure Tr where
  st : ByteArray → Nat
  ord : List ByteArray
inductive Res where
  | ok (t : Tr)
  | err (who : ByteArray) (e : Int)
def Tr.set (t : Tr) (m : ByteArray) (n : Nat) : Tr := ⟨fun x => if x = m then n else t.st x, t.ord⟩
def Tr.done (t : Tr) (m : ByteArray) : Tr := ⟨fun x => if x = m then 2 else t.st x, t.ord ++ [m]⟩
def each (f : ByteArray → Tr → Res) : List ByteArray → Tr → Res
  | [], t => .ok t
  | n :: l, t => if t.st n = 1 then .err n 220 else if t.st n = 0 then match f n t with | .ok t' => each f l t' | .err who e => .err who e else each f l t
def thr (all : ByteArray → Option (List ByteArray)) : Nat → ByteArray → Tr → Res
  | 0, _, _ => .err ⟨#[]⟩ 1
  | k + 1, m, t => match all m with
    | none => .err m 3
    | some l => match each (thr all k) l (t.set m 1) with
      | .ok t' => .ok (t'.done m)
      | .err who e => .err who e
def allOf (l : List NeedD) (m : ByteArray) : Option (List ByteArray) := (l.find? (fun x => decide (x.module = m))).map NeedD.needs
/-- The first that is told twice. -/
def twiceOf : List ByteArray → List NeedD → Option ByteArray
  | _, [] => none
  | seen, x :: l => if inL x.module seen then some x.module else twiceOf (seen ++ [x.module]) l
def orderP (l : List NeedD) (first : ByteArray) : List ByteArray × ByteArray × Int :=
  match twiceOf [] l with
  | some d => ([], d, 6)
  | none => match thr (allOf l) (l.length + 1) first ⟨fun _ => 0, []⟩ with
    | .ok t => (t.ord, ⟨#[]⟩, 0)
    | .err who e => ([], who, e)

/-- How many of these are fresh. -/
def cnt (T : List ByteArray) (t : Tr) : Nat := (T.filter (fun m => decide (t.st m = 0))).length
/-- Nothing becomes fresh again. -/
def Le (t t' : Tr) : Prop := ∀ m, t'.st m = 0 → t.st m = 0
theorem Le.refl (t : Tr) : Le t t := fun _ h => h
theorem Le.trans {a b c : Tr} (h : Le a b) (k : Le b c) : Le a c := fun m hm => h m (k m hm)
theorem filter_len {α : Type} (p q : α → Bool) (h : ∀ x, p x = true → q x = true) : ∀ l : List α, (l.filter p).length ≤ (l.filter q).length
  | [] => Nat.le_refl _
  | x :: l => by
    have := filter_len p q h l
    cases hp : p x with
    | true => rw [List.filter_cons_of_pos hp, List.filter_cons_of_pos (h x hp)]; simpa using this
    | false =>
      rw [List.filter_cons_of_neg (by simp [hp])]
      cases hq : q x with
      | true => rw [List.filter_cons_of_pos hq, List.length_cons]; omega
      | false => rw [List.filter_cons_of_neg (by simp [hq])]; exact this
theorem filter_len_lt {α : Type} (p q : α → Bool) (h : ∀ x, p x = true → q x = true) (y : α) (hy : p y = false) (hz : q y = true) : ∀ l : List α, y ∈ l → (l.filter p).length < (l.filter q).length
  | [], hm => by cases hm
  | x :: l, hm => by
    rcases List.mem_cons.1 hm with e | e
    · subst e
      rw [List.filter_cons_of_neg (by simp [hy]), List.filter_cons_of_pos hz, List.length_cons]
      have := filter_len p q h l
      omega
    · have ih := filter_len_lt p q h y hy hz l e
      cases hp : p x with
      | true => rw [List.filter_cons_of_pos hp, List.filter_cons_of_pos (h x hp)]; simpa using ih
      | false =>
        rw [List.filter_cons_of_neg (by simp [hp])]
        cases hq : q x with
        | true => rw [List.filter_cons_of_pos hq, List.length_cons]; omega
        | false => rw [List.filter_cons_of_neg (by simp [hq])]; exact ih
theorem cnt_le {T : List ByteArray} {t t' : Tr} (h : Le t t') : cnt T t' ≤ cnt T t :=
  filter_len _ _ (fun x hx => by simpa using h x (by simpa using hx)) T
theorem cnt_lt {T : List ByteArray} {t t' : Tr} (h : Le t t') {m : ByteArray} (hm : m ∈ T) (h0 : t.st m = 0) (h1 : t'.st m ≠ 0) : cnt T t' < cnt T t :=
  filter_len_lt _ _ (fun x hx => by simpa using h x (by simpa using hx)) m (by simpa using h1) (by simpa using h0) T hm
theorem Le.set (t : Tr) (m : ByteArray) (n : Nat) (hn : n ≠ 0) : Le t (t.set m n) := fun x hx => by
  have hx' : (if x = m then n else t.st x) = 0 := hx
  by_cases e : x = m
  · rw [if_pos e] at hx'; exact absurd hx' hn
  · rwa [if_neg e] at hx'
theorem Le.done (t : Tr) (m : ByteArray) : Le t (t.done m) := fun x hx => by
  have hx' : (if x = m then 2 else t.st x) = 0 := hx
  by_cases e : x = m
  · rw [if_pos e] at hx'; cases hx'
  · rwa [if_neg e] at hx'
theorem each_le {f : ByteArray → Tr → Res} (hf : ∀ m t t', f m t = .ok t' → Le t t') : ∀ l t t', each f l t = .ok t' → Le t t'
  | [], t, t', h => by
    simp only [each, Res.ok.injEq] at h
    subst h
    exact Le.refl _
  | n :: l, t, t', h => by
    unfold each at h
    by_cases h1 : t.st n = 1
    · rw [if_pos h1] at h; cases h
    · rw [if_neg h1] at h
      by_cases h0 : t.st n = 0
      · rw [if_pos h0] at h
        cases hr : f n t with
        | ok t1 =>
          rw [hr] at h
          exact (hf n t t1 hr).trans (each_le hf l t1 t' h)
        | err who e => rw [hr] at h; cases h
      · rw [if_neg h0] at h
        exact each_le hf l t t' h
theorem thr_le {all : ByteArray → Option (List ByteArray)} : ∀ k m t t', thr all k m t = .ok t' → Le t t'
  | 0, m, t, t', h => by cases h
  | k + 1, m, t, t', h => by
    unfold thr at h
    cases ha : all m with
    | none => rw [ha] at h; cases h
    | some l =>
      rw [ha] at h
      cases he : each (thr all k) l (t.set m 1) with
      | err who e => simp only [he] at h; cases h
      | ok t1 =>
        simp only [he, Res.ok.injEq] at h
        subst h
        exact ((Le.set t m 1 (by decide)).trans (each_le (thr_le k) l _ _ he)).trans (Le.done t1 m)

/-- An error is none that is OK. -/
theorem each_err_ne {f : ByteArray → Tr → Res} (hf : ∀ m t who, f m t ≠ .err who 0) : ∀ l t who, each f l t ≠ .err who 0
  | [], t, who => by simp [each]
  | n :: l, t, who => by
    unfold each
    by_cases h1 : t.st n = 1
    · rw [if_pos h1]; intro h; injection h with _ h; exact absurd h (by decide)
    · rw [if_neg h1]
      by_cases h0 : t.st n = 0
      · rw [if_pos h0]
        cases hr : f n t with
        | ok t1 => exact each_err_ne hf l t1 who
        | err w e =>
          intro h
          simp only [Res.err.injEq] at h
          rw [h.1, h.2] at hr
          exact hf n t who hr
      · rw [if_neg h0]; exact each_err_ne hf l t who
theorem thr_err_ne (all : ByteArray → Option (List ByteArray)) : ∀ k m t who, thr all k m t ≠ .err who 0
  | 0, m, t, who => by unfold thr; intro h; injection h with _ h; exact absurd h (by decide)
  | k + 1, m, t, who => by
    unfold thr
    cases ha : all m with
    | none => intro h; simp only at h; injection h with _ h; exact absurd h (by decide)
    | some l =>
      have he := each_err_ne (thr_err_ne all k) l (t.set m 1)
      cases hr : each (thr all k) l (t.set m 1) with
      | ok t1 => simp [hr]
      | err w e =>
        intro h
        simp only [hr, Res.err.injEq] at h
        rw [h.1, h.2] at hr
        exact he who hr

/-- What holds of an order that is under way. -/
structure Inv (all : ByteArray → Option (List ByteArray)) (t : Tr) : Prop where
  le2 : ∀ m, t.st m ≤ 2
  two : ∀ m, t.st m = 2 ↔ m ∈ t.ord
  nodup : t.ord.Nodup
  ahead : ∀ (i : Nat) (m : ByteArray), t.ord[i]? = some m → ∃ l, all m = some l ∧ ∀ n ∈ l, ∃ j, j < i ∧ t.ord[j]? = some n
/-- What became of it. -/
structure Gone (t t' : Tr) : Prop where
  one : ∀ m, t'.st m = 1 ↔ t.st m = 1
  more : ∃ x, t'.ord = t.ord ++ x
theorem Gone.refl (t : Tr) : Gone t t := ⟨fun _ => Iff.rfl, [], by simp⟩
theorem Gone.trans {a b c : Tr} (h : Gone a b) (k : Gone b c) : Gone a c :=
  ⟨fun m => (k.one m).trans (h.one m), by
    obtain ⟨x, hx⟩ := h.more
    obtain ⟨y, hy⟩ := k.more
    exact ⟨x ++ y, by rw [hy, hx, List.append_assoc]⟩⟩
theorem gone_two {all : ByteArray → Option (List ByteArray)} {t t' : Tr} (hi : Inv all t) (hi' : Inv all t') (g : Gone t t') {m : ByteArray} (h : t.st m = 2) : t'.st m = 2 := by
  obtain ⟨x, hx⟩ := g.more
  exact (hi'.two m).2 (by rw [hx]; exact List.mem_append_left _ ((hi.two m).1 h))
theorem each_inv {all : ByteArray → Option (List ByteArray)} {f : ByteArray → Tr → Res}
    (hf : ∀ m t t', t.st m = 0 → Inv all t → f m t = .ok t' → Inv all t' ∧ Gone t t' ∧ t'.st m = 2) :
    ∀ l t t', Inv all t → each f l t = .ok t' → Inv all t' ∧ Gone t t' ∧ ∀ n ∈ l, t'.st n = 2
  | [], t, t', hi, h => by
    simp only [each, Res.ok.injEq] at h
    subst h
    exact ⟨hi, Gone.refl _, fun n hn => by cases hn⟩
  | n :: l, t, t', hi, h => by
    unfold each at h
    by_cases h1 : t.st n = 1
    · rw [if_pos h1] at h; cases h
    · rw [if_neg h1] at h
      by_cases h0 : t.st n = 0
      · rw [if_pos h0] at h
        cases hr : f n t with
        | ok t1 =>
          rw [hr] at h
          obtain ⟨i1, g1, e1⟩ := hf n t t1 h0 hi hr
          obtain ⟨i2, g2, e2⟩ := each_inv hf l t1 t' i1 h
          exact ⟨i2, g1.trans g2, fun x hx => by
            rcases List.mem_cons.1 hx with e | e
            · subst e; exact gone_two i1 i2 g2 e1
            · exact e2 x e⟩
        | err who e => rw [hr] at h; cases h
      · rw [if_neg h0] at h
        obtain ⟨i2, g2, e2⟩ := each_inv hf l t t' hi h
        have := hi.le2 n
        exact ⟨i2, g2, fun x hx => by
          rcases List.mem_cons.1 hx with e | e
          · subst e; exact gone_two hi i2 g2 (by omega)
          · exact e2 x e⟩
theorem set_inv {all : ByteArray → Option (List ByteArray)} {t : Tr} (hi : Inv all t) {m : ByteArray} (h0 : t.st m = 0) : Inv all (t.set m 1) := by
  refine ⟨fun x => ?_, fun x => ?_, hi.nodup, hi.ahead⟩
  · show (if x = m then 1 else t.st x) ≤ 2
    have := hi.le2 x
    split <;> omega
  · show (if x = m then 1 else t.st x) = 2 ↔ x ∈ t.ord
    by_cases e : x = m
    · subst e
      rw [if_pos rfl, ← hi.two x]
      omega
    · rw [if_neg e]; exact hi.two x
theorem done_inv {all : ByteArray → Option (List ByteArray)} {t : Tr} (hi : Inv all t) {m : ByteArray} (h1 : t.st m = 1) {l : List ByteArray} (ha : all m = some l) (hl : ∀ n ∈ l, t.st n = 2) : Inv all (t.done m) := by
  have hm : m ∉ t.ord := fun h => by have := (hi.two m).2 h; omega
  refine ⟨fun x => ?_, fun x => ?_, ?_, fun i x hx => ?_⟩
  · show (if x = m then 2 else t.st x) ≤ 2
    have := hi.le2 x
    split <;> omega
  · show (if x = m then 2 else t.st x) = 2 ↔ x ∈ t.ord ++ [m]
    by_cases e : x = m
    · subst e
      simp
    · rw [if_neg e, hi.two x]
      simp [e]
  · show (t.ord ++ [m]).Nodup
    rw [List.nodup_append]
    refine ⟨hi.nodup, by simp, fun a hA b hb e => ?_⟩
    rw [List.mem_singleton] at hb
    subst hb
    subst e
    exact hm hA
  · have hx' : (t.ord ++ [m])[i]? = some x := hx
    have up : ∀ (j : Nat) (n : ByteArray), t.ord[j]? = some n → (t.done m).ord[j]? = some n := fun j n hj => by
      show (t.ord ++ [m])[j]? = some n
      rw [List.getElem?_append_left (List.getElem?_eq_some_iff.1 hj).1]
      exact hj
    rcases Nat.lt_or_ge i t.ord.length with hlt | hge
    · rw [List.getElem?_append_left hlt] at hx'
      obtain ⟨l', ha', hl'⟩ := hi.ahead i x hx'
      exact ⟨l', ha', fun n hn => by
        obtain ⟨j, hj, e⟩ := hl' n hn
        exact ⟨j, hj, up j n e⟩⟩
    · rw [List.getElem?_append_right hge] at hx'
      have hi0 : i - t.ord.length = 0 := by
        rcases Nat.eq_zero_or_pos (i - t.ord.length) with h | h
        · exact h
        · rw [List.getElem?_eq_none (by simp; omega)] at hx'; cases hx'
      rw [hi0] at hx'
      simp at hx'
      subst hx'
      refine ⟨l, ha, fun n hn => ?_⟩
      obtain ⟨j, hj⟩ := List.getElem?_of_mem ((hi.two n).1 (hl n hn))
      exact ⟨j, by have := (List.getElem?_eq_some_iff.1 hj).1; omega, up j n hj⟩
theorem thr_inv {all : ByteArray → Option (List ByteArray)} : ∀ k m t t', t.st m = 0 → Inv all t → thr all k m t = .ok t' → Inv all t' ∧ Gone t t' ∧ t'.st m = 2
  | 0, m, t, t', _, _, h => by cases h
  | k + 1, m, t, t', h0, hi, h => by
    unfold thr at h
    cases ha : all m with
    | none => rw [ha] at h; cases h
    | some l =>
      rw [ha] at h
      cases he : each (thr all k) l (t.set m 1) with
      | err who e => simp only [he] at h; cases h
      | ok t1 =>
        simp only [he, Res.ok.injEq] at h
        subst h
        obtain ⟨i1, g1, e1⟩ := each_inv (thr_inv k) l _ _ (set_inv hi h0) he
        have h1 : t1.st m = 1 := (g1.one m).2 (if_pos rfl)
        refine ⟨done_inv i1 h1 ha e1, ⟨fun x => ?_, ?_⟩, if_pos rfl⟩
        · show (if x = m then 2 else t1.st x) = 1 ↔ t.st x = 1
          by_cases e : x = m
          · subst e; rw [if_pos rfl]; omega
          · rw [if_neg e, g1.one x]
            show (if x = m then 1 else t.st x) = 1 ↔ _
            rw [if_neg e]
        · obtain ⟨x, hx⟩ := g1.more
          exact ⟨x ++ [m], by show t1.ord ++ [m] = _; rw [hx]; show t.ord ++ x ++ [m] = _; rw [List.append_assoc]⟩
theorem thr_last {all : ByteArray → Option (List ByteArray)} {k : Nat} {m : ByteArray} {t t' : Tr} (h : thr all k m t = .ok t') : ∃ x, t'.ord = x ++ [m] := by
  cases k with
  | zero => cases h
  | succ k =>
    unfold thr at h
    cases ha : all m with
    | none => rw [ha] at h; cases h
    | some l =>
      rw [ha] at h
      cases he : each (thr all k) l (t.set m 1) with
      | err who e => simp only [he] at h; cases h
      | ok t1 =>
        simp only [he, Res.ok.injEq] at h
        subst h
        exact ⟨t1.ord, rfl⟩
/-- The order depends on what is needed alone. -/
theorem inv_start (all : ByteArray → Option (List ByteArray)) : Inv all ⟨fun _ => 0, []⟩ := ⟨fun _ => Nat.zero_le _, fun m => by simp, by simp, fun i m h => by simp at h⟩
end Go.Proofs.Ytjanbpchedgoiaa
