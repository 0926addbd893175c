/- The plain laws of LinkMay and LinkKeys. No conditions. -/
import Derived.Test.YtfeeeogkkajefaaLkB
namespace Go.Proofs.Ytfeeeogkkajefaa
set_option linter.unusedVariables false

theorem keysAt_none {l : List ObjD} {n : Nat} : ∀ (ms : List ByteArray) (i : Nat), keysAt l n i ms = none ↔ ∀ (j : Nat) (m : ByteArray), ms[j]? = some m → (objOf l m).main = decide (i + j + 1 = n) ∧ mismatch l (objOf l m) = false
  | [], i => by simp [keysAt]
  | x :: ms, i => by
    unfold keysAt
    constructor
    · intro h j m hj
      by_cases h1 : (objOf l x).main = decide (i + 1 = n)
      · rw [if_pos h1] at h
        cases h2 : mismatch l (objOf l x) with
        | true => rw [h2] at h; simp at h
        | false =>
          rw [h2] at h
          have ih := (keysAt_none ms (i + 1)).1 (by simpa using h)
          cases j with
          | zero =>
            have e : x = m := by simpa using hj
            rw [← e]
            exact ⟨h1, h2⟩
          | succ j =>
            have := ih j m (by simpa using hj)
            rwa [show i + 1 + j + 1 = i + (j + 1) + 1 by omega] at this
      · rw [if_neg h1] at h; cases h
    · intro h
      obtain ⟨h1, h2⟩ := h 0 x rfl
      rw [if_pos h1, h2]
      refine (keysAt_none ms (i + 1)).2 (fun j m hj => ?_)
      have := h (j + 1) m (by simpa using hj)
      rwa [show i + 1 + j + 1 = i + (j + 1) + 1 by omega]
section
variable {l : List ObjD} {main : ByteArray} {img : ImgD}
theorem LinkOk.mods_at (h : LinkOk l main img) {i : Nat} {m : ByteArray} (hi : img.names[i]? = some m) : img.mods[i]? = some (modOf l img.names m) := by
  rw [h.made]
  show (img.names.map _)[i]? = _
  rw [List.getElem?_map, hi]
  rfl
theorem LinkOk.len (h : LinkOk l main img) : img.mods.length = img.names.length := by
  rw [h.made]
  simp [imgOf]
theorem LinkOk.ord (h : LinkOk l main img) : img.order = (List.range img.names.length).map Int.ofNat := by
  rw [h.made]
  rfl
/-- The modules that a module names. -/
theorem LinkOk.each (h : LinkOk l main img) {i : Nat} {m : ByteArray} (hi : img.names[i]? = some m) {o : ObjD} (ho : o ∈ l) (hm : o.module = m) :
    ∃ md, img.mods[i]? = some md ∧ md = { o.mod with imports := md.imports } ∧ md.imports.length = o.uses.length ∧ ∀ (j : Nat) (u : UseD), o.uses[j]? = some u → ∃ to : Nat, md.imports[j]? = some (to : Int) ∧ to < i ∧ img.names[to]? = some u.module := by
  have e : objOf l m = o := by rw [← hm]; exact objOf_uniq h.uniq ho
  refine ⟨_, h.mods_at hi, ?_, ?_, fun j u hj => ?_⟩
  · unfold modOf
    rw [e]
  · unfold modOf
    rw [e]
    simp
  · unfold modOf
    rw [e]
    obtain ⟨o', ho', e', hu⟩ := h.obj i m hi
    have : o' = o := by rw [← e, ← e', objOf_uniq h.uniq ho']
    subst this
    obtain ⟨to, h1, h2⟩ := hu u (List.mem_of_getElem? hj)
    refine ⟨to, ?_, h1, h2⟩
    show (List.map _ _)[j]? = _
    rw [List.getElem?_map, hj, Option.map_some, placeOf_eq h.nodup h2]
theorem modB_imports {m : ModD} {n : Int} {is : List Int} (h : modB { m with imports := [] } 1 = true) (hl : is.length ≤ 255) (hi : ∀ i ∈ is, 0 ≤ i ∧ i < n) : modB { m with imports := is } n = true := by
  unfold modB at h ⊢
  simp only [Bool.and_eq_true, decide_eq_true_eq] at h ⊢
  obtain ⟨⟨⟨⟨⟨⟨⟨a1, a2⟩, a3⟩, a4⟩, a5⟩, a6⟩, a7⟩, a8⟩ := h
  refine ⟨⟨⟨⟨⟨⟨⟨a1, a2⟩, a3⟩, hl⟩, a5⟩, a6⟩, ?_⟩, a8⟩
  rw [List.all_eq_true]
  intro i hi'
  obtain ⟨b1, b2⟩ := hi i hi'
  unfold inB
  rw [Bool.and_eq_true]
  exact ⟨decide_eq_true b1, decide_eq_true (by omega)⟩
theorem objB_mod {o : ObjD} (h : objB o = true) : modB { o.mod with imports := [] } 1 = true ∧ o.uses.length ≤ 255 := by
  unfold objB omodB at h
  simp only [Bool.and_eq_true, decide_eq_true_eq] at h
  exact ⟨h.2.2, h.1.1.1.2⟩
/-- What is linked may be. -/
theorem LinkOk.check (h : LinkOk l main img) : checkP img.mods img.order = (0, 0) := by
  have hpos : 0 < img.names.length := by
    obtain ⟨x, hx⟩ := h.last
    rw [hx]
    simp
  have hs := h.small
  unfold checkP
  rw [h.len]
  have h1 : inB (img.names.length : Int) 1 64 = true := by
    unfold inB
    rw [Bool.and_eq_true]
    exact ⟨decide_eq_true (by omega), decide_eq_true (by omega)⟩
  rw [if_pos h1]
  have h2 : modsAt (img.names.length : Int) 0 img.mods = none := by
    refine modsAt_none _ _ (fun md hmd => ?_)
    obtain ⟨i, hi⟩ := List.getElem?_of_mem hmd
    have hil := (List.getElem?_eq_some_iff.1 hi).1
    rw [h.len] at hil
    have hnm : img.names[i]? = some (img.names[i]) := List.getElem?_eq_getElem hil
    obtain ⟨o, ho, e, _⟩ := h.obj i _ hnm
    obtain ⟨md', e1, e2, e3, e4⟩ := h.each hnm ho e
    rw [hi] at e1
    injection e1 with e1
    subst e1
    obtain ⟨k1, k2⟩ := objB_mod (h.may o ho)
    rw [e2]
    refine modB_imports k1 (by omega) (fun x hx => ?_)
    obtain ⟨j, hj⟩ := List.getElem?_of_mem hx
    have hjl := (List.getElem?_eq_some_iff.1 hj).1
    obtain ⟨to, t1, t2, t3⟩ := e4 j _ (List.getElem?_eq_getElem (by omega))
    rw [hj] at t1
    injection t1 with t1
    subst t1
    omega
  simp only [h2]
  have h3 : ordB (img.names.length : Int) [] img.order = true := by
    have := ordB_range img.names.length img.names.length [] (fun x hx => by cases hx) (Nat.le_refl _)
    rw [Nat.sub_self, ← List.range_eq_range'] at this
    rw [h.ord]
    exact this
  rw [if_pos h3]
/-- Two lists of objects that differ in their order, and in keys. -/
structure Sim (l l' : List ObjD) : Prop where
  to : ∀ o ∈ l, ∃ o' ∈ l', o'.module = o.module ∧ o'.main = o.main ∧ o'.uses = o.uses ∧ o'.mod = o.mod
  back : ∀ o' ∈ l', ∃ o ∈ l, o'.module = o.module ∧ o'.main = o.main ∧ o'.uses = o.uses ∧ o'.mod = o.mod
  len : l'.length = l.length
  uniq : (l'.map ObjD.module).Nodup
variable {l' : List ObjD}
theorem Sim.obj (s : Sim l l') (h : (l.map ObjD.module).Nodup) {o : ObjD} (ho : o ∈ l) : (objOf l' o.module).main = o.main ∧ (objOf l' o.module).uses = o.uses ∧ (objOf l' o.module).mod = o.mod := by
  obtain ⟨o', h1, e1, e2, e3, e4⟩ := s.to o ho
  have := objOf_uniq s.uniq h1
  rw [e1] at this
  rw [this]
  exact ⟨e2, e3, e4⟩
theorem Sim.all (s : Sim l l') (h : (l.map ObjD.module).Nodup) : allOf (l'.map needOf) = allOf (l.map needOf) := by
  funext m
  have a := allOf_iff (l := l'.map needOf) (by rw [need_fst]; exact s.uniq) m
  have b := allOf_iff (l := l.map needOf) (by rw [need_fst]; exact h) m
  have key : ∀ v, allOf (l'.map needOf) m = some v ↔ allOf (l.map needOf) m = some v := by
    intro v
    rw [a v, b v]
    constructor
    · rintro ⟨x, hx, e1, e2⟩
      obtain ⟨o', ho', rfl⟩ := List.mem_map.1 hx
      obtain ⟨o, ho, f1, _, f3, _⟩ := s.back o' ho'
      exact ⟨needOf o, List.mem_map.2 ⟨o, ho, rfl⟩, by rw [← e1]; exact f1.symm, by rw [← e2]; simp only [needOf, f3]⟩
    · rintro ⟨x, hx, e1, e2⟩
      obtain ⟨o, ho, rfl⟩ := List.mem_map.1 hx
      obtain ⟨o', ho', f1, _, f3, _⟩ := s.to o ho
      exact ⟨needOf o', List.mem_map.2 ⟨o', ho', rfl⟩, by rw [← e1]; exact f1, by rw [← e2]; simp only [needOf, f3]⟩
  cases hx : allOf (l.map needOf) m with
  | some v => exact (key v).2 hx
  | none =>
    cases hy : allOf (l'.map needOf) m with
    | none => rfl
    | some v => rw [(key v).1 hy] at hx; cases hx
theorem Sim.order (s : Sim l l') (h : (l.map ObjD.module).Nodup) (main : ByteArray) : orderP (l'.map needOf) main = orderP (l.map needOf) main := by
  unfold orderP
  rw [twiceOf_of (l'.map needOf) [] (by rw [need_fst]; exact s.uniq) (fun _ _ hm => by cases hm), twiceOf_of (l.map needOf) [] (by rw [need_fst]; exact h) (fun _ _ hm => by cases hm)]
  simp only
  rw [s.all h, List.length_map, List.length_map, s.len]
theorem objB_same {o o' : ObjD} (e1 : o'.module = o.module) (e3 : o'.uses = o.uses) (e4 : o'.mod = o.mod) : objB o' = objB o := by
  unfold objB
  rw [e1, e3, e4]
theorem LinkOk.linkP_sim (h : LinkOk l main img) (s : Sim l l') : linkP l' main = linkN l' main img.names := by
  unfold linkP
  have hf : l'.find? (fun o => !objB o) = none := by
    rw [List.find?_eq_none]
    intro o' ho'
    obtain ⟨o, ho, e1, _, e3, e4⟩ := s.back o' ho'
    rw [objB_same e1 e3 e4, h.may o ho]
    simp
  rw [hf]
  simp only
  rw [s.order h.uniq, h.order]
  simp
/-- The key that another one has in the first list is the one it was compiled against. -/
theorem LinkOk.key (h : LinkOk l main img) {o : ObjD} (ho : o ∈ l) (hr : o.module ∈ img.names) {u : UseD} (hu : u ∈ o.uses) : (objOf l u.module).key = u.key := by
  obtain ⟨i, hi⟩ := List.getElem?_of_mem hr
  obtain ⟨_, h2⟩ := (keysAt_none _ _).1 h.keys i _ hi
  rw [objOf_uniq h.uniq ho] at h2
  unfold mismatch at h2
  rw [List.any_eq_false] at h2
  simpa using h2 u hu
theorem LinkOk.same (h : LinkOk l main img) (s : Sim l l') (hk : ∀ o ∈ l, o.module ∈ img.names → ∀ u ∈ o.uses, (objOf l' u.module).key = u.key) : linkP l' main = (img, ⟨#[]⟩, 0) := by
  have hin : ∀ (j : Nat) (m : ByteArray), img.names[j]? = some m → ∃ o ∈ l, o.module = m := fun j m hj => by
    obtain ⟨o, ho, e, _⟩ := h.obj j m hj
    exact ⟨o, ho, e⟩
  have hobj : ∀ m ∈ img.names, (objOf l' m).main = (objOf l m).main ∧ (objOf l' m).uses = (objOf l m).uses ∧ (objOf l' m).mod = (objOf l m).mod := by
    intro m hm
    obtain ⟨j, hj⟩ := List.getElem?_of_mem hm
    obtain ⟨o, ho, e⟩ := hin j m hj
    have e2 := objOf_uniq h.uniq ho
    have := s.obj h.uniq ho
    rw [e] at e2 this
    rw [e2]
    exact this
  rw [h.linkP_sim s]
  unfold linkN
  have hka : keysAt l' img.names.length 0 img.names = none := by
    refine (keysAt_none _ _).2 (fun j m hj => ?_)
    obtain ⟨h1, _⟩ := (keysAt_none _ _).1 h.keys j m hj
    obtain ⟨o, ho, e⟩ := hin j m hj
    obtain ⟨k1, k2, _⟩ := hobj m (List.mem_of_getElem? hj)
    refine ⟨by rw [k1]; exact h1, ?_⟩
    unfold mismatch
    rw [k2, List.any_eq_false]
    intro u hu
    have e2 := objOf_uniq h.uniq ho
    rw [e] at e2
    rw [e2] at hu
    simpa using hk o ho (by rw [e]; exact List.mem_of_getElem? hj) u hu
  rw [hka]
  simp only
  have hd : ∀ ms : List ByteArray, (∀ m ∈ ms, m ∈ img.names) → dataOf l' ms = dataOf l ms := by
    intro ms
    induction ms with
    | nil => intro _; rfl
    | cons m ms ih =>
      intro hm
      unfold dataOf
      rw [(hobj m (hm m (by simp))).2.2, ih (fun x hx => hm x (by simp [hx]))]
  rw [hd img.names (fun _ hm => hm), if_neg (by have := h.small; have := h.data; omega)]
  have himg : imgOf l' img.names = img := by
    have e : imgOf l' img.names = imgOf l img.names := by
      unfold imgOf
      congr 1
      refine List.map_congr_left (fun m hm => ?_)
      obtain ⟨_, k2, k3⟩ := hobj m hm
      unfold modOf
      rw [k2, k3]
    rw [e]
    exact h.made.symm
  rw [himg]
theorem LinkOk.mismatch (h : LinkOk l main img) (s : Sim l l') {o : ObjD} (ho : o ∈ l) (hr : o.module ∈ img.names) {u : UseD} (hu : u ∈ o.uses) (hk : (objOf l' u.module).key ≠ u.key) : ∃ m, linkP l' main = (noImg, m, 230) := by
  have hobj : ∀ m ∈ img.names, (objOf l' m).main = (objOf l m).main := by
    intro m hm
    obtain ⟨j, hj⟩ := List.getElem?_of_mem hm
    obtain ⟨o, ho, e, _⟩ := h.obj j m hj
    have e2 := objOf_uniq h.uniq ho
    have := s.obj h.uniq ho
    rw [e] at e2 this
    rw [e2]
    exact this.1
  rw [h.linkP_sim s]
  unfold linkN
  have hone : ∀ (ms : List ByteArray) (i : Nat), (∀ (j : Nat) (m : ByteArray), ms[j]? = some m → (objOf l' m).main = decide (i + j + 1 = img.names.length)) → o.module ∈ ms → ∃ m, keysAt l' img.names.length i ms = some (m, 230) := by
    intro ms
    induction ms with
    | nil => intro i _ hm; cases hm
    | cons x ms ih =>
      intro i hmn hm
      unfold keysAt
      rw [if_pos (hmn 0 x rfl)]
      cases hmi : Go.Proofs.Ytfeeeogkkajefaa.mismatch l' (objOf l' x) with
      | true => exact ⟨x, by simp⟩
      | false =>
        simp only [Bool.false_eq_true, if_false]
        refine ih (i + 1) (fun j m hj => ?_) ?_
        · rw [hmn (j + 1) m (by simpa using hj), show i + 1 + j + 1 = i + (j + 1) + 1 by omega]
        · rcases List.mem_cons.1 hm with e | e
          · exfalso
            rw [← e] at hmi
            unfold Go.Proofs.Ytfeeeogkkajefaa.mismatch at hmi
            rw [(s.obj h.uniq ho).2.1, List.any_eq_false] at hmi
            exact hmi u hu (decide_eq_true hk)
          · exact e
  obtain ⟨m, hm⟩ := hone img.names 0 (fun j m hj => by
    rw [hobj m (List.mem_of_getElem? hj)]
    exact ((keysAt_none _ _).1 h.keys j m hj).1) hr
  rw [hm]
  exact ⟨m, rfl⟩
/-- The objects in the other order. -/
theorem sim_reverse (h : (l.map ObjD.module).Nodup) : Sim l l.reverse :=
  ⟨fun o ho => ⟨o, List.mem_reverse.2 ho, rfl, rfl, rfl, rfl⟩, fun o ho => ⟨o, List.mem_reverse.1 ho, rfl, rfl, rfl, rfl⟩, by simp, by rw [List.map_reverse]; exact (List.reverse_perm _).symm.nodup_iff.1 h⟩
/-- One of them with another key. -/
def rekey (l : List ObjD) (k : Nat) (key : Int) : List ObjD := l.set k { (l.getD k zeroObj) with key := key }
theorem rekey_at {k : Nat} (hk : k < l.length) (key : Int) (i : Nat) : (rekey l k key)[i]? = if i = k then some { l[k] with key := key } else l[i]? := by
  unfold rekey
  rw [List.getElem?_set]
  by_cases e : k = i
  · subst e
    simp [hk]
  · rw [if_neg e, if_neg (fun h => e h.symm)]
theorem sim_rekey (h : (l.map ObjD.module).Nodup) {k : Nat} (hk : k < l.length) (key : Int) : Sim l (rekey l k key) := by
  refine ⟨fun o ho => ?_, fun o ho => ?_, by simp [rekey], ?_⟩
  · obtain ⟨i, hi⟩ := List.getElem?_of_mem ho
    have hr := rekey_at hk key i
    by_cases e : i = k
    · subst e
      rw [if_pos rfl] at hr
      rw [List.getElem?_eq_getElem hk] at hi
      injection hi with hi
      exact ⟨_, List.mem_of_getElem? hr, by simp [hi], by simp [hi], by simp [hi], by simp [hi]⟩
    · rw [if_neg e, hi] at hr
      exact ⟨o, List.mem_of_getElem? hr, rfl, rfl, rfl, rfl⟩
  · obtain ⟨i, hi⟩ := List.getElem?_of_mem ho
    rw [rekey_at hk key i] at hi
    by_cases e : i = k
    · rw [if_pos e] at hi
      injection hi with hi
      exact ⟨l[k], List.getElem_mem hk, by simp [← hi], by simp [← hi], by simp [← hi], by simp [← hi]⟩
    · rw [if_neg e] at hi
      exact ⟨o, List.mem_of_getElem? hi, rfl, rfl, rfl, rfl⟩
  · have : (rekey l k key).map ObjD.module = l.map ObjD.module := by
      refine List.ext_getElem? (fun i => ?_)
      rw [List.getElem?_map, List.getElem?_map, rekey_at hk key i]
      by_cases e : i = k
      · subst e
        rw [if_pos rfl, List.getElem?_eq_getElem hk]
        rfl
      · rw [if_neg e]
    rw [this]
    exact h
theorem rekey_key (h : (l.map ObjD.module).Nodup) {k : Nat} (hk : k < l.length) (key : Int) {o : ObjD} (ho : o ∈ l) : (objOf (rekey l k key) o.module).key = if o.module = l[k].module then key else o.key := by
  have hu := (sim_rekey h hk key).uniq
  obtain ⟨i, hi⟩ := List.getElem?_of_mem ho
  have hr := rekey_at hk key i
  by_cases e : i = k
  · subst e
    rw [if_pos rfl] at hr
    rw [List.getElem?_eq_getElem hk] at hi
    injection hi with hi
    have := objOf_uniq hu (List.mem_of_getElem? hr)
    have e2 : ({ l[i] with key := key } : ObjD).module = o.module := by simp [hi]
    rw [e2] at this
    rw [this, if_pos (by rw [hi])]
  · rw [if_neg e, hi] at hr
    rw [objOf_uniq hu (List.mem_of_getElem? hr)]
    rw [if_neg]
    intro hm
    have hil := (List.getElem?_eq_some_iff.1 hi).1
    have he : l[i] = o := (List.getElem?_eq_some_iff.1 hi).2
    refine e ((List.getElem_inj (xs := l.map ObjD.module) (h₀ := by simpa using hil) (h₁ := by simpa using hk) h).1 ?_)
    rw [List.getElem_map, List.getElem_map, he, hm]
theorem objOf_reverse (h : (l.map ObjD.module).Nodup) {o : ObjD} (ho : o ∈ l) : objOf l.reverse o.module = o :=
  objOf_uniq (sim_reverse h).uniq (List.mem_reverse.2 ho)
theorem Sim.trans {l'' : List ObjD} (s : Sim l l') (t : Sim l' l'') : Sim l l'' := by
  refine ⟨fun o ho => ?_, fun o ho => ?_, t.len.trans s.len, t.uniq⟩
  · obtain ⟨o', h1, a1, a2, a3, a4⟩ := s.to o ho
    obtain ⟨o'', h2, b1, b2, b3, b4⟩ := t.to o' h1
    exact ⟨o'', h2, b1.trans a1, b2.trans a2, b3.trans a3, b4.trans a4⟩
  · obtain ⟨o', h1, a1, a2, a3, a4⟩ := t.back o ho
    obtain ⟨o'', h2, b1, b2, b3, b4⟩ := s.back o' h1
    exact ⟨o'', h2, a1.trans b1, a2.trans b2, a3.trans b3, a4.trans b4⟩
/-- Linked the other way about, it is the same. -/
theorem LinkOk.turned (h : LinkOk l main img) : linkP l.reverse main = (img, ⟨#[]⟩, 0) := by
  refine h.same (sim_reverse h.uniq) (fun o ho hr u hu => ?_)
  rw [← h.key ho hr hu]
  obtain ⟨i, hi⟩ := List.getElem?_of_mem hr
  obtain ⟨o', ho', e, hus⟩ := h.obj i _ hi
  have : o' = o := by rw [← objOf_uniq h.uniq ho', e, objOf_uniq h.uniq ho]
  subst this
  obtain ⟨j, _, hj⟩ := hus u hu
  obtain ⟨q, hq, e2, _⟩ := h.obj j _ hj
  rw [← e2, objOf_reverse h.uniq hq, objOf_uniq h.uniq hq]
/-- Linked with one key that is another one. -/
def usedB (l : List ObjD) (img : ImgD) (m : ByteArray) : Prop := ∃ o ∈ l, o.module ∈ img.names ∧ ∃ u ∈ o.uses, u.module = m
theorem used_key (h : LinkOk l main img) {k : Nat} (hk : k < l.length) (key : Int) {o : ObjD} (ho : o ∈ l) (hr : o.module ∈ img.names) {u : UseD} (hu : u ∈ o.uses) :
    (objOf (rekey l k key).reverse u.module).key = if u.module = l[k].module then key else u.key := by
  obtain ⟨i, hi⟩ := List.getElem?_of_mem hr
  obtain ⟨o', ho', e, hus⟩ := h.obj i _ hi
  have : o' = o := by rw [← objOf_uniq h.uniq ho', e, objOf_uniq h.uniq ho]
  subst this
  obtain ⟨j, _, hj⟩ := hus u hu
  obtain ⟨q, hq, e2, _⟩ := h.obj j _ hj
  have hkey := h.key ho hr hu
  obtain ⟨q', hq', f1, _⟩ := (sim_rekey h.uniq hk key).to q hq
  have r := objOf_reverse (sim_rekey h.uniq hk key).uniq hq'
  have r' := objOf_uniq (sim_rekey h.uniq hk key).uniq hq'
  rw [f1, e2] at r r'
  rw [r]
  have := rekey_key h.uniq hk key hq
  rw [e2, r'] at this
  rw [this]
  rw [← e2, objOf_uniq h.uniq hq] at hkey
  rw [hkey]
theorem LinkOk.rekeyed_same (h : LinkOk l main img) {k : Nat} (hk : k < l.length) (key : Int) (hn : key = l[k].key ∨ ¬ usedB l img l[k].module) : linkP (rekey l k key).reverse main = (img, ⟨#[]⟩, 0) := by
  refine h.same ((sim_rekey h.uniq hk key).trans (sim_reverse (sim_rekey h.uniq hk key).uniq)) (fun o ho hr u hu => ?_)
  rw [used_key h hk key ho hr hu]
  by_cases e : u.module = l[k].module
  · rw [if_pos e]
    rcases hn with hn | hn
    · have := h.key ho hr hu
      rw [e, objOf_uniq h.uniq (List.getElem_mem hk)] at this
      rw [hn, this]
    · exact absurd ⟨o, ho, hr, u, hu, e⟩ hn
  · rw [if_neg e]
theorem LinkOk.rekeyed_mismatch (h : LinkOk l main img) {k : Nat} (hk : k < l.length) (key : Int) (hn : key ≠ l[k].key) (hus : usedB l img l[k].module) : ∃ m, linkP (rekey l k key).reverse main = (noImg, m, 230) := by
  obtain ⟨o, ho, hr, u, hu, e⟩ := hus
  refine h.mismatch ((sim_rekey h.uniq hk key).trans (sim_reverse (sim_rekey h.uniq hk key).uniq)) ho hr hu ?_
  rw [used_key h hk key ho hr hu, if_pos e]
  have := h.key ho hr hu
  rw [e, objOf_uniq h.uniq (List.getElem_mem hk)] at this
  rw [← this]
  exact hn
end
end Go.Proofs.Ytfeeeogkkajefaa
