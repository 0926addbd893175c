/- Fields lie apart, as plain sums; law 12's heavy and table: walked. No conditions but that no list of labels is longer than memory. -/
import Derived.Test.YtloihffdolehhaaLyV
namespace Go.Proofs.Ytloihffdolehhaa
open Go.RowKit
set_option linter.unusedVariables false
set_option linter.unusedSimpArgs false
attribute [local go_sem ↓] Go.wp_at_zero Go.wp_at_succ

/-- The words of the first k fields. -/
def fsum (s : Int → Int × Int) (l : List Fld) (k : Nat) : Int := ((l.take k).map fun f => (s f.type).1).foldl (· + ·) 0
theorem foldl_from (l : List Int) : ∀ a : Int, l.foldl (· + ·) a = a + l.foldl (· + ·) 0 := by
  induction l with
  | nil => intro a; simp
  | cons x l ih => intro a; simp only [List.foldl_cons]; rw [ih (a + x), ih (0 + x)]; omega
theorem fsum_zero (s : Int → Int × Int) (l : List Fld) : fsum s l 0 = 0 := rfl
theorem fsum_cons (s : Int → Int × Int) (f : Fld) (l : List Fld) (k : Nat) : fsum s (f :: l) (k + 1) = (s f.type).1 + fsum s l k := by
  simp only [fsum, List.take_succ_cons, List.map_cons, List.foldl_cons]
  rw [foldl_from]
  omega
theorem fsum_succ (s : Int → Int × Int) : ∀ (l : List Fld) (k : Nat) (h : k < l.length), fsum s l (k + 1) = fsum s l k + (s (l[k]'h).type).1
  | [], k, h => by simp at h
  | f :: l, 0, h => by rw [fsum_cons, fsum_zero, fsum_zero]; simp
  | f :: l, k + 1, h => by rw [fsum_cons, fsum_cons, fsum_succ s l k (by simpa using h)]; simp; omega
theorem fsum_mono {s : Int → Int × Int} (hs : ∀ j, 0 ≤ (s j).1) (l : List Fld) : ∀ (k n : Nat), k + n ≤ l.length → fsum s l k ≤ fsum s l (k + n)
  | k, 0, _ => Int.le_refl _
  | k, n + 1, h => by
    have h1 := fsum_mono hs l k n (by omega)
    have h2 := fsum_succ s l (k + n) (by omega)
    have h3 := hs (l[k + n]'(by omega)).type
    rw [show k + (n + 1) = k + n + 1 from rfl]
    omega
theorem recK_ok {s : Int → Int × Int} : ∀ (l : List Fld) (all r : Int), recK s l all = (r, 0) →
    (∀ k, k ≤ l.length → recK s (l.take k) all = (all + fsum s l k, 0)) ∧ (∀ f ∈ l, (s f.type).2 = 0) ∧ r = all + fsum s l l.length
  | [], all, r, h => by
    rw [recK] at h
    injection h with h _
    refine ⟨fun k hk => ?_, by simp, ?_⟩
    · simp [recK, fsum]
    · simp [fsum, h]
  | f :: l, all, r, h => by
    rw [recK] at h
    by_cases c1 : (s f.type).2 ≠ 0
    · rw [if_pos c1] at h
      injection h with _ h2
      exact absurd h2 c1
    · rw [if_neg c1] at h
      by_cases c2 : (fitsK (all + (s f.type).1)).2 ≠ 0
      · rw [if_pos c2] at h
        injection h with _ h2
        exact absurd h2 c2
      · rw [if_neg c2] at h
        have hf : (fitsK (all + (s f.type).1)).1 = all + (s f.type).1 := by
          unfold fitsK at c2 ⊢
          split at c2
          · simp at c2
          · next q => rw [if_neg q]
        have ih := recK_ok l _ r h
        rw [hf] at ih
        refine ⟨fun k hk => ?_, fun g hg => ?_, ?_⟩
        · cases k with
          | zero => rw [fsum_zero]; simp [recK]
          | succ k =>
            rw [List.take_succ_cons, recK, if_neg c1, if_neg c2, hf, ih.1 k (by simpa using hk), fsum_cons]
            congr 1
            omega
        · rcases List.mem_cons.1 hg with e | e
          · rw [e]; omega
          · exact ih.2.1 g e
        · rw [List.length_cons, fsum_cons]
          omega
/-- A record that has words: where its fields are, how many words they have. -/
theorem rec_fields {tys : List Ty} (hlow : Low tys) (i : Int) (hk : (tyOf tys i).kind = 12) (he : (sz tys i).2 = 0) :
    (∀ a : Nat, a < (tyOf tys i).fields.length → atK tys i a = (fsum (sz tys) (tyOf tys i).fields a, 0)) ∧ (∀ f ∈ (tyOf tys i).fields, (sz tys f.type).2 = 0) ∧ (sz tys i).1 = fsum (sz tys) (tyOf tys i).fields (tyOf tys i).fields.length := by
  have ho : ordB tys i = false := by
    have hb : baseOf tys i = i := by rw [baseOf, hk]; rfl
    rw [ordB, kindOf, hb, hk]
    rfl
  have hs : sz tys i = recK (sz tys) (tyOf tys i).fields 0 := by
    conv => lhs; rw [sz_eq hlow]
    rw [reckK, ho, hk]
    simp
  obtain ⟨r, e⟩ : ∃ r, recK (sz tys) (tyOf tys i).fields 0 = (r, 0) := by
    rw [hs] at he
    exact ⟨_, Prod.ext rfl he⟩
  obtain ⟨h1, h2, h3⟩ := recK_ok _ _ _ e
  refine ⟨fun a ha => ?_, h2, ?_⟩
  · have e0 : (sz tys i).2 = 0 := he
    rw [atK, if_neg (fun c => c e0), if_neg (by rw [hk]; omega), Int.toNat_natCast, h1 a (by omega)]
    simp
  · rw [hs, e, h3]
    simp

/-- The labels of the first k records. -/
def sumF (l : List RecD) (k : Nat) : Nat := ((l.take k).map fun m => m.fs.length).sum
theorem sumF_succ (l : List RecD) (k : Nat) (m : RecD) (h : l[k]? = some m) : sumF l (k + 1) = sumF l k + m.fs.length := by
  unfold sumF
  rw [List.take_add_one, h]
  simp
theorem sumF_bd (l : List RecD) (h : ∀ m ∈ l, m.fs.length ≤ 70368744177664) : ∀ k, sumF l k ≤ 70368744177664 * k
  | 0 => by simp [sumF]
  | k + 1 => by
    have ih := sumF_bd l h k
    by_cases hk : k < l.length
    · have := sumF_succ l k l[k] (List.getElem?_eq_getElem hk)
      have := h l[k] (List.getElem_mem hk)
      omega
    · have : sumF l (k + 1) = sumF l k := by
        unfold sumF
        rw [List.take_of_length_le (by omega), List.take_of_length_le (by omega)]
      omega
theorem sumF_all (l : List RecD) (m : RecD) (hm : m ∈ l) : m.fs.length ≤ sumF l l.length := by
  unfold sumF
  rw [List.take_length]
  induction l with
  | nil => cases hm
  | cons a l ih =>
    simp only [List.map_cons, List.sum_cons]
    rcases List.mem_cons.1 hm with e | e
    · rw [e]; omega
    · have := ih e; omega
def HeavyAt (w : World) (recs : List RecD) (s5 s6 : Value) (wr : World) : Prop := ∃ k : Nat, k ≤ min recs.length 20 ∧ s5 = .int .i64 (sumF recs k : Nat) ∧ s6 = .int .i64 k ∧ wr = w
/-- What heavy answers. -/
def HeavyP (w : World) (l : List MadeD) (recs : List RecD) (e : Ending) (w' : World) : Prop := ∃ b : Bool, e = .returned (.bool b) ∧ w = w' ∧ (b = false → l.length ≤ 20 ∧ recs.length ≤ 4 ∧ ∀ m ∈ recs, m.fs.length ≤ 200)
set_option maxRecDepth 100000 in
set_option maxHeartbeats 4000000 in
theorem heavy_any (w : World) (v0 v1 : Value) (l : List MadeD) (recs : List RecD) (h0 : IsMades w v0 l) (h1 : IsRecs w v1 recs) : Calls Try.prog 8 #[v0, v1] w (HeavyP w l recs) := by
  obtain ⟨A0, c0, rfl, hl0, hm0, _, _⟩ := h0
  obtain ⟨A1, c1, rfl, hl1, hm1, hroom, hin⟩ := h1
  unfold maxLen at hm0 hm1
  have HR := Lib.hid hroom
  have HI := Lib.hid hin
  clear hroom hin
  go_enter Try.func8, Try.ntmps8
  go_wp2_with fail
  go_loopw [5, 6] (fun s5 s6 wr => HeavyAt w recs s5 s6 wr) (fun _ s6 _ => 20 - (intOf s6).toNat)
  case atStart => exact ⟨0, Nat.zero_le _, rfl, rfl, rfl⟩
  case round =>
    obtain ⟨k, hk, rfl, rfl, rfl⟩ := hrel
    have hb := sumF_bd recs HR.out k
    by_cases hlt : k < min recs.length 20
    · obtain ⟨m, hx⟩ : ∃ x, recs[k]? = some x := ⟨recs[k]'(by omega), List.getElem?_eq_getElem (by omega)⟩
      obtain ⟨bb, off, rfl, AT, AA, AF, AO, cT, cA, cF, cO, hT, hA, hF, hO, q0, q1, q2, q3⟩ := HI.out k m hx
      have hs := sumF_succ recs k m hx
      have hmf := HR.out m (List.mem_of_getElem? hx)
      have hF0 := hF.1
      have hF1 := hF.2.1
      unfold maxLen at hF1
      have hi0 : (0 : Int) ≤ (k : Int) := by omega
      have hi1 : (k : Int) < (recs.length : Int) := by omega
      have hi2 : (k : Int) < 20 := by omega
      have HS := Lib.hid hs
      clear hT hA hF hO hx hs
      generalize sumF recs k = sm at *
      go_wp2_with fail
      go_roundw
      case rel => exact ⟨k + 1, by omega, by rw [HS.out]; go_num, by go_num, rfl⟩
      case measure => simp [intOf]; omega
    · by_cases hj : k < recs.length
      · have hi0 : (k : Int) < (recs.length : Int) := by omega
        have hi1 : ¬(k : Int) < 20 := by omega
        have hi4 : 4 < recs.length := by omega
        generalize sumF recs k = sm at *
        by_cases c1 : 20 < l.length
        · go_wp2_with fail
          go_ret
          exact ⟨true, rfl, rfl, fun h => by cases h⟩
        · go_wp2_with fail
          go_ret
          exact ⟨true, rfl, rfl, fun h => by cases h⟩
      · have hi0 : ¬(k : Int) < (recs.length : Int) := by omega
        obtain rfl : k = recs.length := by omega
        have hall := sumF_all recs
        generalize sumF recs recs.length = sm at *
        have HALL := Lib.hid hall
        clear hall
        by_cases c1 : 20 < l.length
        · go_wp2_with fail
          go_ret
          exact ⟨true, rfl, rfl, fun h => by cases h⟩
        · by_cases c2 : 4 < recs.length
          · go_wp2_with fail
            go_ret
            exact ⟨true, rfl, rfl, fun h => by cases h⟩
          · by_cases c3 : 200 < sm
            · go_wp2_with fail
              go_ret
              exact ⟨true, by simp; omega, rfl, fun h => by cases h⟩
            · go_wp2_with fail
              go_ret
              exact ⟨false, by simp; omega, rfl, fun _ => ⟨by omega, by omega, fun m hm => by have := HALL.out m hm; omega⟩⟩
end Go.Proofs.Ytloihffdolehhaa

