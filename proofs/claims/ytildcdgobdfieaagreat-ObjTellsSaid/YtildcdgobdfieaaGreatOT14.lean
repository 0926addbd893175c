/- Numbered anew twice is as once; however the types stood, numbered anew they stand in one order. No conditions. -/
import Derived.Test.YtildcdgobdfieaaGreatOT13
import Derived.Test.YtildcdgobdfieaaGreatOT07
import Derived.Laws.IdiomStrings
import Derived.Deep.Cut
import Derived.Deep.DeepCutAuto
import Derived.LoopN
import Derived.Test.YtildcdgobdfieaaGreatOT01
set_option linter.unusedVariables false
set_option linter.unusedSimpArgs false
set_option maxRecDepth 100000
set_option maxHeartbeats 32000000
namespace Go.Proofs.YtildcdgobdfieaaGreat
def nums (nt : Nat) : List Int := (List.range nt).map fun i : Nat => 10 + (i : Int)
theorem nums_iff {nt : Nat} {n : Int} : n ∈ nums nt ↔ 10 ≤ n ∧ n < 10 + (nt : Int) := by
 unfold nums
 rw [List.mem_map]
 constructor
 ·rintro ⟨i, hi, rfl⟩
  rw [List.mem_range] at hi
  omega
 ·rintro ⟨h1, h2⟩
  exact ⟨(n - 10).toNat, List.mem_range.2 (by omega), by omega⟩
theorem tyB_iff {nt : Nat} {n : Int} : tyB nt n = true ↔ 0 ≤ n ∧ n < 10 + (nt : Int) := by
 unfold tyB
 rw [inB_iff]
 omega
theorem tyB_nums {nt : Nat} {n : Int} (h : tyB nt n = true) (h10 : 10 ≤ n) : n ∈ nums nt := nums_iff.2 ⟨h10, (tyB_iff.1 h).2⟩
theorem kids_form {nt : Nat} {t : Ty} (h : tyForm nt t = true) : ∀ x ∈ kids t, tyB nt x = true := by
 unfold tyForm at h
 simp only [Bool.and_eq_true, List.all_eq_true] at h
 obtain ⟨⟨⟨⟨⟨⟨⟨a1, a2⟩, a3⟩, a4⟩, a5⟩, a6⟩, a7⟩, a8⟩ := h
 intro x hx
 unfold kids at hx
 simp only [List.mem_cons, List.mem_append, List.mem_map, List.not_mem_nil, or_false] at hx
 rcases hx with rfl | rfl | ⟨f, hf, rfl⟩ | ⟨p, hp, rfl⟩ | rfl
 ·exact a1
 ·exact a2
 ·exact (a6 f hf).1
 ·exact a8 p hp
 ·exact a3
theorem itm_form {nt : Nat} {x : ItmD} (h : itmForm nt x = true) : ∀ n ∈ itmKids x, tyB nt n = true := by
 unfold itmForm anyForm at h
 unfold itmKids
 cases hv : x.v <;> rw [hv] at h <;> simp only [Bool.and_eq_true] at h <;> intro n hn <;> simp only [List.mem_cons, List.not_mem_nil, or_false] at hn
 all_goals first
  | (rcases hn with rfl | rfl
     · exact h.1.1
     · exact h.2.1)
  | (subst hn; exact h.1.1)
theorem len_sub : ∀ (l m : List Int), l.Nodup → (∀ x ∈ l, x ∈ m) → l.length ≤ m.length
 | [], _, _, _ => Nat.zero_le _
 | x :: l, m, hn, h => by
  rw [List.nodup_cons] at hn
  have hx := h x (by simp)
  have ih := len_sub l (m.erase x) hn.2 (fun y hy => (List.mem_erase_of_ne (fun e => by rw [e] at hy; exact hn.1 hy)).2 (h y (by simp [hy])))
  rw [List.length_erase_of_mem hx] at ih
  have := List.length_pos_of_mem hx
  rw [List.length_cons]
  omega
section
variable {f : FaceD}
theorem face_types (h : mayP f = 0) : ∀ t ∈ f.types, tyForm f.types.length t = true := by
 have := (face_parts h).2.2.2
 unfold faceForm at this
 simp only [Bool.and_eq_true, List.all_eq_true] at this
 exact this.1
theorem face_items (h : mayP f = 0) : ∀ x ∈ f.items, itmForm f.types.length x = true := by
 have := (face_parts h).2.2.2
 unfold faceForm at this
 simp only [Bool.and_eq_true, List.all_eq_true] at this
 exact this.2
theorem closed (h : mayP f = 0) : ∀ n, 10 ≤ n → n ∈ nums f.types.length → ∀ x ∈ kidsAt f.types n, 10 ≤ x → x ∈ nums f.types.length := by
 intro n _ hn x hx h10
 unfold kidsAt at hx
 cases ht : f.types[(n - 10).toNat]? with
 | none => rw [ht] at hx; cases hx
 | some t =>
  rw [ht] at hx
  exact tyB_nums (kids_form (face_types h t (List.mem_of_getElem? ht)) x hx) h10
theorem starts_in (h : mayP f = 0) : ∀ x ∈ starts f, 10 ≤ x → x ∈ nums f.types.length := by
 intro x hx h10
 unfold starts at hx
 obtain ⟨y, hy, hxy⟩ := List.mem_flatMap.1 hx
 exact tyB_nums (itm_form (face_items h y hy) x hxy) h10
theorem fresh_all (nt : Nat) : fresh (nums nt) [] = nt := by
 unfold fresh nums
 rw [List.filter_eq_self.2 (fun x _ => by simp), List.length_map, List.length_range]
structure OrdOk (f : FaceD) (ord : List Int) : Prop where
 inT : ∀ x ∈ ord, x ∈ nums f.types.length
 high : ∀ x ∈ ord, 10 ≤ x
 nodup : ord.Nodup
 start : ∀ x ∈ starts f, 10 ≤ x → x ∈ ord
 kid : ∀ n ∈ ord, ∀ x ∈ kidsAt f.types n, 10 ≤ x → x ∈ ord
theorem ordOk (h : mayP f = 0) : OrdOk f (ordOf f) := by
 obtain ⟨a1, a2⟩ := meets_all (closed h) (f.types.length + 1) (starts f) [] (starts_in h) (by simp) (by simp)
 obtain ⟨b1, b2⟩ := meets_full (closed h) (f.types.length + 1) (starts f) [] (by rw [fresh_all]; omega) (starts_in h)
 exact ⟨fun x hx => (a1 x hx).1, fun x hx => (a1 x hx).2, a2, b1, fun n hn => b2 n hn (by simp)⟩
theorem idx_some {ord : List Int} {n : Int} (h : n ∈ ord) : ∃ k, ord.idxOf? n = some k ∧ ord[k]? = some n := by
 cases hx : ord.idxOf? n with
 | none => rw [List.idxOf?_eq_none_iff] at hx; exact absurd h hx
 | some k =>
  refine ⟨k, rfl, ?_⟩
  have := List.findIdx?_eq_some_iff_getElem.1 hx
  obtain ⟨hk, he, _⟩ := this
  rw [List.getElem?_eq_getElem hk]
  simpa using he
theorem anewN_out {ord : List Int} {n : Int} (h : n ∉ ord) : anewN ord n = n := by
 unfold anewN
 rw [List.idxOf?_eq_none_iff.2 h]
theorem nodup_idx {ord : List Int} (hn : ord.Nodup) {i j : Nat} {n : Int} (h1 : ord[i]? = some n) (h2 : ord[j]? = some n) : i = j := by
 obtain ⟨hi, e1⟩ := List.getElem?_eq_some_iff.1 h1
 obtain ⟨hj, e2⟩ := List.getElem?_eq_some_iff.1 h2
 exact (List.getElem_inj (h₀ := hi) (h₁ := hj) hn).1 (e1.trans e2.symm)
theorem anewN_at {ord : List Int} (hn : ord.Nodup) {k : Nat} {n : Int} (h : ord[k]? = some n) : anewN ord n = 10 + (k : Int) := by
 obtain ⟨j, h1, h2⟩ := idx_some (List.mem_of_getElem? h)
 unfold anewN
 rw [h1, nodup_idx hn h h2]
theorem tyFit_anew (ord : List Int) (t : Ty) : tyFit (anewT ord t) = tyFit t := by
 unfold tyFit anewT
 simp [List.all_map, Function.comp_def]
theorem canon_type (h : mayP f = 0) {k : Nat} {n : Int} (hk : (ordOf f)[k]? = some n) : ∃ t, f.types[(n - 10).toNat]? = some t ∧ (canonF f).types[k]? = some (anewT (ordOf f) t) := by
 have hn := (ordOk h).inT n (List.mem_of_getElem? hk)
 rw [nums_iff] at hn
 have hlt : (n - 10).toNat < f.types.length := by omega
 refine ⟨f.types[(n - 10).toNat], List.getElem?_eq_getElem hlt, ?_⟩
 unfold canonF
 simp only
 rw [List.getElem?_map, hk, Option.map_some, List.getElem?_eq_getElem hlt]
 rfl
theorem canon_len : (canonF f).types.length = (ordOf f).length := by simp [canonF]
theorem ord_len (h : mayP f = 0) : (ordOf f).length ≤ f.types.length := by
 have o := ordOk h
 have : (ordOf f).length ≤ (nums f.types.length).length := by
  exact len_sub _ _ o.nodup (fun x hx => o.inT x hx)
 simpa [nums] using this
theorem anew_range (h : mayP f = 0) {x : Int} (hx : 0 ≤ x) (hin : 10 ≤ x → x ∈ ordOf f) : tyB (ordOf f).length (anewN (ordOf f) x) = true := by
 have o := ordOk h
 rcases Int.lt_or_le x 10 with h1 | h1
 ·rw [anewN_out (fun hm => by have := o.high x hm; omega)]
  exact tyB_iff.2 ⟨hx, by omega⟩
 ·obtain ⟨k, hk⟩ := List.getElem?_of_mem (hin h1)
  have hl := (List.getElem?_eq_some_iff.1 hk).1
  rw [anewN_at o.nodup hk]
  exact tyB_iff.2 ⟨by omega, by omega⟩
theorem tyForm_anew {ord : List Int} {nt nt' : Nat} {t : Ty} (h : tyForm nt t = true) (hk : ∀ x ∈ kids t, tyB nt' (anewN ord x) = true) : tyForm nt' (anewT ord t) = true := by
 unfold tyForm at h ⊢
 unfold kids at hk
 simp only [Bool.and_eq_true, List.all_eq_true, anewT, List.mem_map] at h ⊢
 obtain ⟨⟨⟨⟨⟨⟨⟨a1, a2⟩, a3⟩, a4⟩, a5⟩, a6⟩, a7⟩, a8⟩ := h
 refine ⟨⟨⟨⟨⟨⟨⟨hk _ (by simp), hk _ (by simp)⟩, hk _ (by simp)⟩, a4⟩, a5⟩, ?_⟩, a7⟩, ?_⟩
 ·rintro _ ⟨x, hx, rfl⟩
  exact ⟨hk _ (by simp only [List.mem_cons, List.mem_append, List.mem_map]; exact .inr (.inr (.inl ⟨x, hx, rfl⟩))), (a6 x hx).2⟩
 ·rintro _ ⟨x, hx, rfl⟩
  exact hk _ (by simp only [List.mem_cons, List.mem_append, List.mem_map]; exact .inr (.inr (.inr (.inl ⟨x, hx, rfl⟩))))
theorem itmForm_anew {ord : List Int} {nt nt' : Nat} {x : ItmD} (h : itmForm nt x = true) (hk : ∀ n ∈ itmKids x, tyB nt' (anewN ord n) = true) : itmForm nt' (anewI ord x) = true := by
 unfold itmForm anyForm at h ⊢
 unfold itmKids at hk
 unfold anewI anewV
 cases hv : x.v <;> rw [hv] at h hk <;> simp only [Bool.and_eq_true, List.mem_cons, List.not_mem_nil, or_false] at h hk ⊢
 all_goals first
  | (exact ⟨⟨hk _ rfl, h.1.2⟩, h.2⟩)
  | (exact ⟨⟨hk _ (.inl rfl), h.1.2⟩, ⟨hk _ (.inr rfl), h.2.2⟩⟩)
theorem may_of {f : FaceD} (h1 : faceFit f = true) (h2 : onceB [] (f.uses.map UseD.module) = true) (h3 : onceB [] (f.items.map ItmD.name) = true) (h4 : faceForm f = true) : mayP f = 0 := by
 unfold mayP
 simp [h1, h2, h3, h4]
theorem itmFit_anew (ord : List Int) (x : ItmD) : itmFit (anewI ord x) = itmFit x := by
 unfold itmFit anewI anewV anyFit
 cases x.v <;> rfl
theorem canon_may (h : mayP f = 0) : mayP (canonF f) = 0 := by
 obtain ⟨h1, h2, h3, h4⟩ := face_parts h
 have o := ordOk h
 have hl := ord_len h
 have hpos : ∀ n, tyB f.types.length n = true → 0 ≤ n := fun n hn => (tyB_iff.1 hn).1
 refine may_of ?_ h2 ?_ ?_
 ·unfold faceFit at h1 ⊢
  simp only [Bool.and_eq_true, decide_eq_true_eq, List.all_eq_true] at h1 ⊢
  obtain ⟨⟨⟨⟨⟨⟨a1, a2⟩, a3⟩, a4⟩, a5⟩, a6⟩, a7⟩ := h1
  refine ⟨⟨⟨⟨⟨⟨a1, by simpa [canonF] using a2⟩, by rw [canon_len]; omega⟩, a4⟩, a5⟩, fun t ht => ?_⟩, fun x hx => ?_⟩
  ·obtain ⟨k, hk⟩ := List.getElem?_of_mem ht
   have hkl := (List.getElem?_eq_some_iff.1 hk).1
   rw [canon_len] at hkl
   obtain ⟨t', e1, e2⟩ := canon_type h (List.getElem?_eq_getElem hkl)
   rw [hk] at e2
   injection e2 with e2
   rw [e2, tyFit_anew]
   exact a6 t' (List.mem_of_getElem? e1)
  ·obtain ⟨y, hy, rfl⟩ := List.mem_map.1 hx
   rw [itmFit_anew]
   exact a7 y hy
 ·have : (canonF f).items.map ItmD.name = f.items.map ItmD.name := by simp [canonF, anewI, Function.comp_def]
  rw [this]
  exact h3
 ·unfold faceForm
  rw [canon_len]
  simp only [Bool.and_eq_true, List.all_eq_true]
  refine ⟨fun t ht => ?_, fun x hx => ?_⟩
  ·obtain ⟨k, hk⟩ := List.getElem?_of_mem ht
   have hkl := (List.getElem?_eq_some_iff.1 hk).1
   rw [canon_len] at hkl
   obtain ⟨t', e1, e2⟩ := canon_type h (List.getElem?_eq_getElem hkl)
   rw [hk] at e2
   injection e2 with e2
   rw [e2]
   have hf := face_types h t' (List.mem_of_getElem? e1)
   refine tyForm_anew hf (fun x hx => anew_range h (hpos x (kids_form hf x hx)) (fun h10 => o.kid _ (List.getElem_mem hkl) x ?_ h10))
   unfold kidsAt
   rw [e1]
   exact hx
  ·obtain ⟨y, hy, rfl⟩ := List.mem_map.1 hx
   have hf := face_items h y hy
   exact itmForm_anew hf (fun n hn => anew_range h (hpos n (itm_form hf n hn)) (fun h10 => o.start n (List.mem_flatMap.2 ⟨y, hy, hn⟩) h10))
end
end Go.Proofs.YtildcdgobdfieaaGreat

namespace Go.Proofs.YtildcdgobdfieaaGreat
theorem faceW_canon {f : FaceD} (h : faceW f) (hm : mayP f = 0) : faceW (canonF f) := by
 refine ⟨h.keys, fun t ht => ?_, fun x hx => ?_, fun x hx => ?_⟩
 ·obtain ⟨k, hk⟩ := List.getElem?_of_mem ht
  unfold canonF at hk
  rw [List.getElem?_map] at hk
  cases hn : (ordOf f)[k]? with
  | none => rw [hn] at hk; cases hk
  | some n =>
   obtain ⟨t0, h0, h1⟩ := canon_type hm hn
   rw [hn] at hk
   simp only [Option.map_some, Option.some.injEq] at hk
   rw [h0] at hk
   simp only [Option.getD_some] at hk
   subst hk
   exact h.kinds t0 (List.mem_of_getElem? h0)
 ·unfold canonF at hx
  obtain ⟨y, hy, rfl⟩ := List.mem_map.1 hx
  exact h.sorts y hy
 ·unfold canonF at hx
  obtain ⟨y, hy, rfl⟩ := List.mem_map.1 hx
  have := h.vals y hy
  unfold anewI
  revert this
  cases y.v <;> exact id
end Go.Proofs.YtildcdgobdfieaaGreat

namespace Go.Proofs.YtildcdgobdfieaaGreat
open Go.RowKit
theorem short1_any (s : ByteArray) (hs : s.size ≤ 255) (w : World) : Calls Tryz.prog 171 #[.string s] w fun e w' => e = .returned (.bool false) ∧ w = w' := by
 have h : decide ((s.size : Int) > 255) = false := by simp; omega
 go_enter Tryz.func171, Tryz.ntmps171
 go_wp2_with fail
 go_ret
 exact ⟨rfl, rfl⟩
theorem index_one (g : Nat) (s : ByteArray) (hs : s.size ≤ 255) (w : World) (hc : w.cell? ⟨g, 0, none⟩ = some (.string s)) :
  Calls Tryz.prog 178 #[.slice (some ⟨g, 0, none⟩) 1 1, .func (.func 171) #[] #[]] w fun e w' => e = .returned (.int .i64 (-1)) ∧ w = w' := by
 have hf := fun w => short1_any s hs w
 have hen : ∀ args w, (callFunc 171 args).run Tryz.prog w = .ok (.enter 171 args) w := fun args w => rfl
 go_enter Tryz.func178, Tryz.ntmps178
 go_wp2_with fail
 refine wp_loop_rounds 2 ?_
 rw [rounds_succ]
 go_wp2_with fail
 refine (hf _).mono ?_
 rintro e w1 ⟨rfl, rfl⟩
 go_wp2_with fail
 rw [rounds_succ]
 go_wp2_with fail
 go_ret
 exact ⟨rfl, rfl⟩
theorem contains_one (g : Nat) (s : ByteArray) (hs : s.size ≤ 255) (w : World) (hc : w.cell? ⟨g, 0, none⟩ = some (.string s)) :
  Calls Tryz.prog 170 #[.slice (some ⟨g, 0, none⟩) 1 1, .func (.func 171) #[] #[]] w fun e w' => e = .returned (.bool false) ∧ w = w' := by
 have hf := index_one g s hs w hc
 go_enter Tryz.func170, Tryz.ntmps170
 go_wp2_with fail
 refine hf.mono ?_
 rintro e w1 ⟨rfl, rfl⟩
 go_wp2_with fail
 go_ret
 exact ⟨rfl, rfl⟩
theorem short_one (g : Nat) (s : ByteArray) (hs : s.size ≤ 255) (w : World) (hc : w.cell? ⟨g, 0, none⟩ = some (.string s)) :
  Calls Tryz.prog 152 #[.slice (some ⟨g, 0, none⟩) 1 1] w fun e w' => e = .returned (.bool true) ∧ w = w' := by
 have hf := contains_one g s hs w hc
 go_enter Tryz.func152, Tryz.ntmps152
 go_wp2_with fail
 refine hf.mono ?_
 rintro e w1 ⟨rfl, rfl⟩
 go_wp2_with fail
 go_ret
 exact ⟨rfl, rfl⟩
theorem onceU_nil (w : World) : Calls Tryz.prog 118 #[.slice none 0 0, .func (.func 119) #[] #[]] w fun e w' => e = .returned (.bool true) ∧ Wr [] w w' := by
 have hmm := @run_makeMap Tryz.prog
 go_enter Tryz.func118, Tryz.ntmps118
 go_wp2_with fail
 refine wp_loop_rounds 1 ?_
 rw [rounds_succ]
 go_wp2_with fail
 go_ret
 exact ⟨rfl, (Wr.refl [] w).alloc _⟩
theorem onceE_nil (w : World) : Calls Tryz.prog 120 #[.slice none 0 0, .func (.func 121) #[] #[]] w fun e w' => e = .returned (.bool true) ∧ Wr [] w w' := by
 have hmm := @run_makeMap Tryz.prog
 go_enter Tryz.func120, Tryz.ntmps120
 go_wp2_with fail
 refine wp_loop_rounds 1 ?_
 rw [rounds_succ]
 go_wp2_with fail
 go_ret
 exact ⟨rfl, (Wr.refl [] w).alloc _⟩
theorem fitting_bare (m : ByteArray) (hm : m.size ≤ 255) (w : World) : Calls Tryz.prog 117 #[.agg #[.string m, .slice none 0 0, .slice none 0 0, .slice none 0 0]] w fun e w' => e = .returned (.bool true) ∧ Wr [] w w' := by
 have hf := fun g w hc => short_one g m hm w hc
 go_enter Tryz.func117, Tryz.ntmps117
 go_wp2_with fail
 refine (hf _ _ (by simp [World.cell?_alloc_mark])).mono ?_
 rintro e w1 ⟨rfl, rfl⟩
 go_wp2_with fail
 refine wp_loop_rounds 1 ?_
 rw [rounds_succ]
 go_wp2_with fail
 refine wp_loop_rounds 1 ?_
 rw [rounds_succ]
 go_wp2_with fail
 refine wp_loop_rounds 1 ?_
 rw [rounds_succ]
 go_wp2_with fail
 go_ret
 exact ⟨rfl, ((Wr.refl [] w).alloc _).alloc _⟩
end Go.Proofs.YtildcdgobdfieaaGreat

namespace Go.Proofs.YtildcdgobdfieaaGreat
open Go.RowKit
def anyB (n : Nat) (p : Nat → Bool) : Bool := (List.range n).any p
theorem anyB_yes {n : Nat} {p : Nat → Bool} {k : Nat} (hk : k < n) (h : p k = true) : anyB n p = true := List.any_eq_true.2 ⟨k, List.mem_range.2 hk, h⟩
theorem anyB_no {n : Nat} {p : Nat → Bool} (h : ∀ j, j < n → p j = false) : anyB n p = false := by
 unfold anyB
 rw [List.any_eq_false]
 intro j hj
 rw [h j (List.mem_range.1 hj)]
 simp
def CellsAt (w : World) (A : Option Addr) (n : Nat) (ev : Nat → Value) : Prop := ∀ i, i < n → ∃ b off, A = some ⟨b, off, none⟩ ∧ w.cell? ⟨b, off + i, none⟩ = some (ev i)
def IdxP (w : World) (n : Nat) (p : Nat → Bool) (e : Ending) (w' : World) : Prop := ∃ r : Int, e = .returned (.int .i64 r) ∧ Wr [] w w' ∧ decide (r ≥ 0) = anyB n p
theorem idx_short (w : World) (A : Option Addr) (n c : Nat) (ev : Nat → ByteArray) (hcc : n ≤ c ∧ c ≤ maxLen) (hc : CellsAt w A n (fun i => .string (ev i))) (p : Nat → Bool)
  (hf : ∀ i, i < n → ∀ W, Wr [] w W → Calls Tryz.prog 171 #[.string (ev i)] W fun e w' => e = .returned (.bool (p i)) ∧ Wr [] W w') :
  Calls Tryz.prog 178 #[.slice A n c, .func (.func 171) #[] #[]] w (IdxP w n p) := by
 unfold maxLen at hcc
 have hen : ∀ args w, (callFunc 171 args).run Tryz.prog w = .ok (.enter 171 args) w := fun args w => rfl
 go_enter Tryz.func178, Tryz.ntmps178
 go_wp2_with fail
 go_loopw [8] (fun i wr => ∃ k : Nat, k ≤ n ∧ i = .int .i64 k ∧ Wr [] w wr ∧ ∀ j, j < k → p j = false) (fun i _ => n - (intOf i).toNat)
 case atStart => exact ⟨0, by omega, rfl, Wr.refl _ _, fun j h => absurd h (by omega)⟩
 case round =>
  obtain ⟨k, hk, rfl, hw, hno⟩ := hrel
  by_cases hlt : k < n
  ·obtain ⟨b, off, rfl, hcell⟩ := hc k hlt
   replace hcell := hw.cellOf hcell (by simp)
   have hfk := hf k hlt _ hw
   have h0 : (0 : Int) ≤ (k : Int) := by omega
   have h1 : (k : Int) < (n : Int) := by omega
   have HNO := qh hno
   have HW := qh hw
   clear hf hno hw
   cases hp : p k with
   | true =>
    rw [hp] at hfk
    have hv := anyB_yes hlt hp
    clear hp
    go_wp2_with fail
    refine hfk.mono ?_
    rintro e w1 ⟨rfl, r1⟩
    go_wp2_with fail
    go_ret
    exact ⟨k, rfl, HW.out.trans r1, by rw [hv]; simp⟩
   | false =>
    rw [hp] at hfk
    have hno' : ∀ j, j < k + 1 → p j = false := fun j hj => by
     by_cases hjk : j = k
     ·subst hjk; exact hp
     ·exact HNO.out j (by omega)
    have HNO' := qh hno'
    clear hp hno'
    go_wp2_with fail
    refine hfk.mono ?_
    rintro e w1 ⟨rfl, r1⟩
    go_wp2_with fail
    go_roundw
    case rel => exact ⟨k + 1, by omega, by go_num, HW.out.trans r1, HNO'.out⟩
    case measure => simp [intOf]; omega
  ·have hkn : k = n := by omega
   subst hkn
   have hv := anyB_no hno
   clear hno hc hf
   go_wp2_with fail
   go_ret
   exact ⟨-1, rfl, hw, by rw [hv]; decide⟩
theorem has_short (w : World) (A : Option Addr) (n c : Nat) (ev : Nat → ByteArray) (hcc : n ≤ c ∧ c ≤ maxLen) (hc : CellsAt w A n (fun i => .string (ev i))) (p : Nat → Bool)
  (hf : ∀ i, i < n → ∀ W, Wr [] w W → Calls Tryz.prog 171 #[.string (ev i)] W fun e w' => e = .returned (.bool (p i)) ∧ Wr [] W w') :
  Calls Tryz.prog 170 #[.slice A n c, .func (.func 171) #[] #[]] w fun e w' => e = .returned (.bool (anyB n p)) ∧ Wr [] w w' := by
 have h := idx_short w A n c ev hcc hc p hf
 go_enter Tryz.func170, Tryz.ntmps170
 go_wp2_with fail
 refine h.mono ?_
 rintro e w1 ⟨r, rfl, r1, hr⟩
 go_wp2_with fail
 go_ret
 exact ⟨by rw [← hr]; rfl, r1⟩
theorem idx_few (w : World) (A : Option Addr) (n c : Nat) (ev : Nat → Int) (hcc : n ≤ c ∧ c ≤ maxLen) (hc : CellsAt w A n (fun i => .int .i64 (ev i))) (p : Nat → Bool)
  (hf : ∀ i, i < n → ∀ W, Wr [] w W → Calls Tryz.prog 174 #[.int .i64 (ev i)] W fun e w' => e = .returned (.bool (p i)) ∧ Wr [] W w') :
  Calls Tryz.prog 175 #[.slice A n c, .func (.func 174) #[] #[]] w (IdxP w n p) := by
 unfold maxLen at hcc
 have hen : ∀ args w, (callFunc 174 args).run Tryz.prog w = .ok (.enter 174 args) w := fun args w => rfl
 go_enter Tryz.func175, Tryz.ntmps175
 go_wp2_with fail
 go_loopw [8] (fun i wr => ∃ k : Nat, k ≤ n ∧ i = .int .i64 k ∧ Wr [] w wr ∧ ∀ j, j < k → p j = false) (fun i _ => n - (intOf i).toNat)
 case atStart => exact ⟨0, by omega, rfl, Wr.refl _ _, fun j h => absurd h (by omega)⟩
 case round =>
  obtain ⟨k, hk, rfl, hw, hno⟩ := hrel
  by_cases hlt : k < n
  ·obtain ⟨b, off, rfl, hcell⟩ := hc k hlt
   replace hcell := hw.cellOf hcell (by simp)
   have hfk := hf k hlt _ hw
   have h0 : (0 : Int) ≤ (k : Int) := by omega
   have h1 : (k : Int) < (n : Int) := by omega
   have HNO := qh hno
   have HW := qh hw
   clear hf hno hw
   cases hp : p k with
   | true =>
    rw [hp] at hfk
    have hv := anyB_yes hlt hp
    clear hp
    go_wp2_with fail
    refine hfk.mono ?_
    rintro e w1 ⟨rfl, r1⟩
    go_wp2_with fail
    go_ret
    exact ⟨k, rfl, HW.out.trans r1, by rw [hv]; simp⟩
   | false =>
    rw [hp] at hfk
    have hno' : ∀ j, j < k + 1 → p j = false := fun j hj => by
     by_cases hjk : j = k
     ·subst hjk; exact hp
     ·exact HNO.out j (by omega)
    have HNO' := qh hno'
    clear hp hno'
    go_wp2_with fail
    refine hfk.mono ?_
    rintro e w1 ⟨rfl, r1⟩
    go_wp2_with fail
    go_roundw
    case rel => exact ⟨k + 1, by omega, by go_num, HW.out.trans r1, HNO'.out⟩
    case measure => simp [intOf]; omega
  ·have hkn : k = n := by omega
   subst hkn
   have hv := anyB_no hno
   clear hno hc hf
   go_wp2_with fail
   go_ret
   exact ⟨-1, rfl, hw, by rw [hv]; decide⟩
theorem has_few (w : World) (A : Option Addr) (n c : Nat) (ev : Nat → Int) (hcc : n ≤ c ∧ c ≤ maxLen) (hc : CellsAt w A n (fun i => .int .i64 (ev i))) (p : Nat → Bool)
  (hf : ∀ i, i < n → ∀ W, Wr [] w W → Calls Tryz.prog 174 #[.int .i64 (ev i)] W fun e w' => e = .returned (.bool (p i)) ∧ Wr [] W w') :
  Calls Tryz.prog 156 #[.slice A n c, .func (.func 174) #[] #[]] w fun e w' => e = .returned (.bool (anyB n p)) ∧ Wr [] w w' := by
 have h := idx_few w A n c ev hcc hc p hf
 go_enter Tryz.func156, Tryz.ntmps156
 go_wp2_with fail
 refine h.mono ?_
 rintro e w1 ⟨r, rfl, r1, hr⟩
 go_wp2_with fail
 go_ret
 exact ⟨by rw [← hr]; rfl, r1⟩
theorem idx_small (w : World) (A : Option Addr) (n c : Nat) (ev : Nat → Int) (hcc : n ≤ c ∧ c ≤ maxLen) (hc : CellsAt w A n (fun i => .int .i64 (ev i))) (p : Nat → Bool)
  (hf : ∀ i, i < n → ∀ W, Wr [] w W → Calls Tryz.prog 177 #[.int .i64 (ev i)] W fun e w' => e = .returned (.bool (p i)) ∧ Wr [] W w') :
  Calls Tryz.prog 180 #[.slice A n c, .func (.func 177) #[] #[]] w (IdxP w n p) := by
 unfold maxLen at hcc
 have hen : ∀ args w, (callFunc 177 args).run Tryz.prog w = .ok (.enter 177 args) w := fun args w => rfl
 go_enter Tryz.func180, Tryz.ntmps180
 go_wp2_with fail
 go_loopw [8] (fun i wr => ∃ k : Nat, k ≤ n ∧ i = .int .i64 k ∧ Wr [] w wr ∧ ∀ j, j < k → p j = false) (fun i _ => n - (intOf i).toNat)
 case atStart => exact ⟨0, by omega, rfl, Wr.refl _ _, fun j h => absurd h (by omega)⟩
 case round =>
  obtain ⟨k, hk, rfl, hw, hno⟩ := hrel
  by_cases hlt : k < n
  ·obtain ⟨b, off, rfl, hcell⟩ := hc k hlt
   replace hcell := hw.cellOf hcell (by simp)
   have hfk := hf k hlt _ hw
   have h0 : (0 : Int) ≤ (k : Int) := by omega
   have h1 : (k : Int) < (n : Int) := by omega
   have HNO := qh hno
   have HW := qh hw
   clear hf hno hw
   cases hp : p k with
   | true =>
    rw [hp] at hfk
    have hv := anyB_yes hlt hp
    clear hp
    go_wp2_with fail
    refine hfk.mono ?_
    rintro e w1 ⟨rfl, r1⟩
    go_wp2_with fail
    go_ret
    exact ⟨k, rfl, HW.out.trans r1, by rw [hv]; simp⟩
   | false =>
    rw [hp] at hfk
    have hno' : ∀ j, j < k + 1 → p j = false := fun j hj => by
     by_cases hjk : j = k
     ·subst hjk; exact hp
     ·exact HNO.out j (by omega)
    have HNO' := qh hno'
    clear hp hno'
    go_wp2_with fail
    refine hfk.mono ?_
    rintro e w1 ⟨rfl, r1⟩
    go_wp2_with fail
    go_roundw
    case rel => exact ⟨k + 1, by omega, by go_num, HW.out.trans r1, HNO'.out⟩
    case measure => simp [intOf]; omega
  ·have hkn : k = n := by omega
   subst hkn
   have hv := anyB_no hno
   clear hno hc hf
   go_wp2_with fail
   go_ret
   exact ⟨-1, rfl, hw, by rw [hv]; decide⟩
theorem has_small (w : World) (A : Option Addr) (n c : Nat) (ev : Nat → Int) (hcc : n ≤ c ∧ c ≤ maxLen) (hc : CellsAt w A n (fun i => .int .i64 (ev i))) (p : Nat → Bool)
  (hf : ∀ i, i < n → ∀ W, Wr [] w W → Calls Tryz.prog 177 #[.int .i64 (ev i)] W fun e w' => e = .returned (.bool (p i)) ∧ Wr [] W w') :
  Calls Tryz.prog 176 #[.slice A n c, .func (.func 177) #[] #[]] w fun e w' => e = .returned (.bool (anyB n p)) ∧ Wr [] w w' := by
 have h := idx_small w A n c ev hcc hc p hf
 go_enter Tryz.func176, Tryz.ntmps176
 go_wp2_with fail
 refine h.mono ?_
 rintro e w1 ⟨r, rfl, r1, hr⟩
 go_wp2_with fail
 go_ret
 exact ⟨by rw [← hr]; rfl, r1⟩
theorem idx_typ (w : World) (A : Option Addr) (n c : Nat) (ev : Nat → Int) (hcc : n ≤ c ∧ c ≤ maxLen) (hc : CellsAt w A n (fun i => .int .i64 (ev i))) (p : Nat → Bool) (pi : Nat)
  (hf : ∀ i, i < n → ∀ W, Wr [] w W → Calls Tryz.prog 157 #[.int .i64 (ev i), .pointer (some ⟨pi, 0, none⟩)] W fun e w' => e = .returned (.bool (p i)) ∧ Wr [] W w') :
  Calls Tryz.prog 175 #[.slice A n c, .func (.func 157) #[] #[.pointer (some ⟨pi, 0, none⟩)]] w (IdxP w n p) := by
 unfold maxLen at hcc
 have hen : ∀ args w, (callFunc 157 args).run Tryz.prog w = .ok (.enter 157 args) w := fun args w => rfl
 go_enter Tryz.func175, Tryz.ntmps175
 go_wp2_with fail
 go_loopw [8] (fun i wr => ∃ k : Nat, k ≤ n ∧ i = .int .i64 k ∧ Wr [] w wr ∧ ∀ j, j < k → p j = false) (fun i _ => n - (intOf i).toNat)
 case atStart => exact ⟨0, by omega, rfl, Wr.refl _ _, fun j h => absurd h (by omega)⟩
 case round =>
  obtain ⟨k, hk, rfl, hw, hno⟩ := hrel
  by_cases hlt : k < n
  ·obtain ⟨b, off, rfl, hcell⟩ := hc k hlt
   replace hcell := hw.cellOf hcell (by simp)
   have hfk := hf k hlt _ hw
   have h0 : (0 : Int) ≤ (k : Int) := by omega
   have h1 : (k : Int) < (n : Int) := by omega
   have HNO := qh hno
   have HW := qh hw
   clear hf hno hw
   cases hp : p k with
   | true =>
    rw [hp] at hfk
    have hv := anyB_yes hlt hp
    clear hp
    go_wp2_with fail
    refine hfk.mono ?_
    rintro e w1 ⟨rfl, r1⟩
    go_wp2_with fail
    go_ret
    exact ⟨k, rfl, HW.out.trans r1, by rw [hv]; simp⟩
   | false =>
    rw [hp] at hfk
    have hno' : ∀ j, j < k + 1 → p j = false := fun j hj => by
     by_cases hjk : j = k
     ·subst hjk; exact hp
     ·exact HNO.out j (by omega)
    have HNO' := qh hno'
    clear hp hno'
    go_wp2_with fail
    refine hfk.mono ?_
    rintro e w1 ⟨rfl, r1⟩
    go_wp2_with fail
    go_roundw
    case rel => exact ⟨k + 1, by omega, by go_num, HW.out.trans r1, HNO'.out⟩
    case measure => simp [intOf]; omega
  ·have hkn : k = n := by omega
   subst hkn
   have hv := anyB_no hno
   clear hno hc hf
   go_wp2_with fail
   go_ret
   exact ⟨-1, rfl, hw, by rw [hv]; decide⟩
theorem has_typ (w : World) (A : Option Addr) (n c : Nat) (ev : Nat → Int) (hcc : n ≤ c ∧ c ≤ maxLen) (hc : CellsAt w A n (fun i => .int .i64 (ev i))) (p : Nat → Bool) (pi : Nat)
  (hf : ∀ i, i < n → ∀ W, Wr [] w W → Calls Tryz.prog 157 #[.int .i64 (ev i), .pointer (some ⟨pi, 0, none⟩)] W fun e w' => e = .returned (.bool (p i)) ∧ Wr [] W w') :
  Calls Tryz.prog 156 #[.slice A n c, .func (.func 157) #[] #[.pointer (some ⟨pi, 0, none⟩)]] w fun e w' => e = .returned (.bool (anyB n p)) ∧ Wr [] w w' := by
 have h := idx_typ w A n c ev hcc hc p pi hf
 go_enter Tryz.func156, Tryz.ntmps156
 go_wp2_with fail
 refine h.mono ?_
 rintro e w1 ⟨r, rfl, r1, hr⟩
 go_wp2_with fail
 go_ret
 exact ⟨by rw [← hr]; rfl, r1⟩
end Go.Proofs.YtildcdgobdfieaaGreat

namespace Go.Proofs.YtildcdgobdfieaaGreat
open Go.RowKit
theorem shortQ (s : ByteArray) (w : World) : Calls Tryz.prog 171 #[.string s] w fun e w' => e = .returned (.bool (decide ((s.size : Int) > 255))) ∧ Wr [] w w' := by
 go_enter Tryz.func171, Tryz.ntmps171
 go_wp2_with fail
 go_ret
 exact ⟨rfl, Wr.refl [] w⟩
theorem fewQ (n : Int) (w : World) : Calls Tryz.prog 174 #[.int .i64 n] w fun e w' => e = .returned (.bool (decide (n > 65535))) ∧ Wr [] w w' := by
 go_enter Tryz.func174, Tryz.ntmps174
 go_wp2_with fail
 go_ret
 exact ⟨rfl, Wr.refl [] w⟩
def smallN (n : Int) : Bool := decide (n < -2147483648) || decide (n > 2147483647)
theorem smallQ (n : Int) (w : World) : Calls Tryz.prog 177 #[.int .i64 n] w fun e w' => e = .returned (.bool (smallN n)) ∧ Wr [] w w' := by
 unfold smallN
 by_cases h : n < -2147483648
 ·go_enter Tryz.func177, Tryz.ntmps177
  go_wp2_with fail
  go_ret
  exact ⟨by simp [h], Wr.refl [] w⟩
 ·go_enter Tryz.func177, Tryz.ntmps177
  go_wp2_with fail
  go_ret
  exact ⟨by rw [show decide (n < -2147483648) = false from decide_eq_false (by omega), Bool.false_or]; try rfl, Wr.refl [] w⟩
theorem short_any (w : World) (A : Option Addr) (n c : Nat) (ev : Nat → ByteArray) (hcc : n ≤ c ∧ c ≤ maxLen) (hc : CellsAt w A n (fun i => .string (ev i))) :
  Calls Tryz.prog 152 #[.slice A n c] w fun e w' => e = .returned (.bool (!anyB n fun i => decide (((ev i).size : Int) > 255))) ∧ Wr [] w w' := by
 have h := has_short w A n c ev hcc hc (fun i => decide (((ev i).size : Int) > 255)) (fun i _ W _ => shortQ (ev i) W)
 go_enter Tryz.func152, Tryz.ntmps152
 go_wp2_with fail
 refine h.mono ?_
 rintro e w1 ⟨rfl, r1⟩
 go_wp2_with fail
 go_ret
 exact ⟨rfl, r1⟩
theorem few_any (w : World) (A : Option Addr) (n c : Nat) (ev : Nat → Int) (hcc : n ≤ c ∧ c ≤ maxLen) (hc : CellsAt w A n (fun i => .int .i64 (ev i))) :
  Calls Tryz.prog 154 #[.slice A n c] w fun e w' => e = .returned (.bool (!anyB n fun i => decide (ev i > 65535))) ∧ Wr [] w w' := by
 have h := has_few w A n c ev hcc hc (fun i => decide (ev i > 65535)) (fun i _ W _ => fewQ (ev i) W)
 go_enter Tryz.func154, Tryz.ntmps154
 go_wp2_with fail
 refine h.mono ?_
 rintro e w1 ⟨rfl, r1⟩
 go_wp2_with fail
 go_ret
 exact ⟨rfl, r1⟩
theorem small_any (w : World) (A : Option Addr) (n c : Nat) (ev : Nat → Int) (hcc : n ≤ c ∧ c ≤ maxLen) (hc : CellsAt w A n (fun i => .int .i64 (ev i))) :
  Calls Tryz.prog 158 #[.slice A n c] w fun e w' => e = .returned (.bool (!anyB n fun i => smallN (ev i))) ∧ Wr [] w w' := by
 have h := has_small w A n c ev hcc hc (fun i => smallN (ev i)) (fun i _ W _ => smallQ (ev i) W)
 go_enter Tryz.func158, Tryz.ntmps158
 go_wp2_with fail
 refine h.mono ?_
 rintro e w1 ⟨rfl, r1⟩
 go_wp2_with fail
 go_ret
 exact ⟨rfl, r1⟩
def typN (nt : Nat) (n : Int) : Bool := decide (n < 0) || decide (n ≥ 10 + (nt : Int))
theorem typQ (n : Int) (pi : Nat) (A : Option Addr) (nt c : Nat) (hcc : nt ≤ c ∧ c ≤ maxLen) (w : World) (hc : w.cell? ⟨pi, 2, none⟩ = some (.slice A nt c)) (h63 : nt ≤ 1000000) :
  Calls Tryz.prog 157 #[.int .i64 n, .pointer (some ⟨pi, 0, none⟩)] w fun e w' => e = .returned (.bool (typN nt n)) ∧ Wr [] w w' := by
 unfold typN
 unfold maxLen at hcc
 have hw : wrap64 (10 + (nt : Int)) = 10 + (nt : Int) := by unfold wrap64; omega
 have hw2 : IntKind.i64.wrap (10 + (nt : Int)) = 10 + (nt : Int) := by rw [IntKind.wrap_i64]; omega
 by_cases h : n < 0
 ·go_enter Tryz.func157, Tryz.ntmps157
  go_wp2_with fail
  go_ret
  exact ⟨by simp [h], Wr.refl [] w⟩
 ·go_enter Tryz.func157, Tryz.ntmps157
  go_wp2_with fail
  go_ret
  exact ⟨by rw [show decide (n < 0) = false from decide_eq_false (by omega), Bool.false_or]; try rfl, Wr.refl [] w⟩
theorem typ_any (w : World) (A : Option Addr) (n c : Nat) (ev : Nat → Int) (hcc : n ≤ c ∧ c ≤ maxLen) (hc : CellsAt w A n (fun i => .int .i64 (ev i))) (pi : Nat) (At : Option Addr) (nt ct : Nat) (htt : nt ≤ ct ∧ ct ≤ maxLen) (hct : w.cell? ⟨pi, 2, none⟩ = some (.slice At nt ct)) (h63 : nt ≤ 1000000) :
  Calls Tryz.prog 155 #[.slice A n c, .pointer (some ⟨pi, 0, none⟩)] w fun e w' => e = .returned (.bool (!anyB n fun i => typN nt (ev i))) ∧ Wr [] w w' := by
 have h := has_typ w A n c ev hcc hc (fun i => typN nt (ev i)) pi (fun i _ W r => typQ (ev i) pi At nt ct htt W (r.cellOf hct (by simp)) h63)
 have hmf : ∀ (fn : Fn) (first cap : Array Value) (w : World), (Instr.makeFunc fn first cap).run Tryz.prog w = .ok (.func fn first cap) w := fun _ _ _ _ => rfl
 go_enter Tryz.func155, Tryz.ntmps155
 go_wp2_with fail
 refine h.mono ?_
 rintro e w1 ⟨rfl, r1⟩
 go_wp2_with fail
 go_ret
 exact ⟨rfl, r1⟩
end Go.Proofs.YtildcdgobdfieaaGreat

namespace Go.Proofs.YtildcdgobdfieaaGreat
open Go.RowKit
theorem formed_bare (m : ByteArray) (w : World) : Calls Tryz.prog 122 #[.agg #[.string m, .slice none 0 0, .slice none 0 0, .slice none 0 0]] w fun e w' => e = .returned (.bool true) ∧ Wr [] w w' := by
 have hmf : ∀ (fn : Fn) (first cap : Array Value) (w : World), (Instr.makeFunc fn first cap).run Tryz.prog w = .ok (.func fn first cap) w := fun _ _ _ _ => rfl
 go_enter Tryz.func122, Tryz.ntmps122
 go_wp2_with fail
 refine wp_loop_rounds 1 ?_
 rw [rounds_succ]
 go_wp2_with fail
 refine wp_loop_rounds 1 ?_
 rw [rounds_succ]
 go_wp2_with fail
 go_ret
 exact ⟨rfl, (Wr.refl [] w).alloc _⟩
theorem may_bare (m : ByteArray) (hm : m.size ≤ 255) (w : World) : Calls Tryz.prog 90 #[.agg #[.string m, .slice none 0 0, .slice none 0 0, .slice none 0 0]] w fun e w' => e = .returned (.int .i64 0) ∧ Wr [] w w' := by
 have h1 := fun w => fitting_bare m hm w
 have h2 := fun w => onceU_nil w
 have h3 := fun w => onceE_nil w
 have h4 := fun w => formed_bare m w
 have bb := Blk.new w 55 #[.string m, .slice none 0 0, .slice none 0 0, .slice none 0 0]
 have r0 := (Wr.refl [] w).alloc (.cells #[.string m, .slice none 0 0, .slice none 0 0, .slice none 0 0] 55)
 go_enter Tryz.func90, Tryz.ntmps90
 go_wp2_with fail
 refine (h1 _).mono ?_
 rintro e w1 ⟨rfl, k1⟩
 replace bb := bb.wr0 k1
 replace r0 := r0.trans k1
 have c0 := bb.cell 0
 have c1 := bb.cell 1
 have c2 := bb.cell 2
 have c3 := bb.cell 3
 simp only [qgaq, qgzq, qgsq] at c0 c1 c2 c3
 go_wp2_with fail
 refine (h2 _).mono ?_
 rintro e w2 ⟨rfl, k2⟩
 replace bb := bb.wr0 k2
 replace r0 := r0.trans k2
 clear c0 c1 c2 c3
 have c0 := bb.cell 0
 have c1 := bb.cell 1
 have c2 := bb.cell 2
 have c3 := bb.cell 3
 simp only [qgaq, qgzq, qgsq] at c0 c1 c2 c3
 go_wp2_with fail
 refine (h3 _).mono ?_
 rintro e w3 ⟨rfl, k3⟩
 replace bb := bb.wr0 k3
 replace r0 := r0.trans k3
 clear c0 c1 c2 c3
 have c0 := bb.cell 0
 have c1 := bb.cell 1
 have c2 := bb.cell 2
 have c3 := bb.cell 3
 simp only [qgaq, qgzq, qgsq] at c0 c1 c2 c3
 go_wp2_with fail
 refine (h4 _).mono ?_
 rintro e w4 ⟨rfl, k4⟩
 go_wp2_with fail
 go_ret
 exact ⟨rfl, r0.trans k4⟩
end Go.Proofs.YtildcdgobdfieaaGreat
