/- layout's At: walked. Conditions: the table's types hang on those ahead of them. -/
import Derived.Test.YtloihffdolehhaaLyE
namespace Go.Proofs.Ytloihffdolehhaa
open Go.RowKit
set_option linter.unusedVariables false
set_option linter.unusedSimpArgs false

/-- Where a field is. -/
def atK (tys : List Ty) (i f : Int) : Int × Int :=
  if (sz tys i).2 ≠ 0 then (0, (sz tys i).2) else if (tyOf tys i).kind ≠ 12 ∨ f < 0 ∨ ((tyOf tys i).fields.length : Int) ≤ f then (0, 2) else recK (sz tys) ((tyOf tys i).fields.take f.toNat) 0
theorem Sl.take_flat {α : Type} {w : World} {P : Nat → Prop} {size n : Nat} {A : Option Addr} {c : Nat} {l : List α} {f : α → List Value} (hf : ∀ x, (f x).length = size) (h : Sl w P size (.slice A n c) n (l.flatMap f)) (hn : l.length = n) {k : Nat} (hk : k ≤ n) (hs : 0 < size) :
    Sl w P size (.slice A k c) k ((l.take k).flatMap f) := by
  obtain ⟨A', c', hv, h1, h2, h3, h4⟩ := h
  injection hv with e1 _ e3
  subst e1 e3
  refine ⟨A, c, rfl, by omega, h2, by rw [flatMap_len f size hf, List.length_take]; congr 1; omega, fun j u hj => ?_⟩
  refine h4 j u ?_
  have hl : (l.take k).flatMap f = (l.flatMap f).take (k * size) := by
    have e : l.flatMap f = (l.take k).flatMap f ++ (l.drop k).flatMap f := by rw [← List.flatMap_append, List.take_append_drop]
    have hle : ((l.take k).flatMap f).length = k * size := by
      rw [flatMap_len f size hf, List.length_take]
      congr 1
      omega
    rw [e, List.take_append_of_le_length (by rw [hle]; exact Nat.le_refl _)]
    exact (List.take_of_length_le (by rw [hle]; exact Nat.le_refl _)).symm
  rw [hl, List.getElem?_take] at hj
  by_cases hjk : j < k * size
  · rwa [if_pos hjk] at hj
  · rw [if_neg hjk] at hj
    cases hj

set_option maxRecDepth 100000 in
set_option maxHeartbeats 4000000 in
theorem At_any (w : World) (t : Nat) (v : Value) (L : List Nat) (base : Nat) (tys : List Ty) (h : Tab 74 w t v L base tys) (hlow : Low tys) (i f : Int) :
    Calls Try.prog 13 #[.pointer (some ⟨t, 0, none⟩), .int .i64 i, .int .i64 f] w (PairP w (atK tys i f)) := by
  have hsz := Size_any w t v L base tys h hlow i
  have hget := fun W (q : Wr [] w W) => get_any W t v L base tys (h.wr0 q) i
  obtain ⟨res, hres⟩ : ∃ q, q = atK tys i f := ⟨_, rfl⟩
  rw [← hres]
  have HX := Lib.hid hres
  have HT := Lib.hid h
  have HLOW := Lib.hid hlow
  obtain ⟨q, hq⟩ : ∃ q, q = sz tys i := ⟨_, rfl⟩
  have HQ := Lib.hid hq
  rw [← hq] at hsz
  obtain ⟨ty, hty⟩ : ∃ ty, ty = tyOf tys i := ⟨_, rfl⟩
  rw [← hty] at hget
  have HTY := Lib.hid hty
  clear h hlow hres hq hty
  obtain ⟨n, err⟩ := q
  by_cases he : err = 0
  · subst he
    go_enter Try.func13, Try.ntmps13
    go_wp2_with fail
    refine hsz.mono ?_
    clear hsz
    rintro e w1 ⟨rfl, r1⟩
    have R1 := Lib.hid r1
    clear r1
    go_wp2_with fail
    refine (hget _ R1.out).mono ?_
    clear hget
    rintro e w2 ⟨vn, vf, va, vp, rfl, r2, hl⟩
    obtain ⟨⟨A1, c1, rfl⟩, ⟨A2, c2, rfl⟩, ⟨A3, c3, rfl⟩, ⟨A4, c4, rfl⟩⟩ := hl.forms
    have hfm : ty.fields.length ≤ c2 ∧ c2 ≤ maxLen := by
      obtain ⟨A, c, e, k1, k2⟩ := Sl.form hl.fields
      injection e with _ _ e3
      subst e3
      exact ⟨k1, k2⟩
    unfold maxLen at hfm
    obtain ⟨hfm1, hfm2⟩ := hfm
    have R2 := Lib.hid (R1.out.trans r2)
    have HL := Lib.hid hl
    clear hl r2
    unfold Ty.val Ty.cells
    by_cases hk : ty.kind = 12
    · have hkb : (ty.kind != 12) = false := by simp [hk]
      have hkb2 : (ty.kind == 12) = true := by simp [hk]
      by_cases hf0 : f < 0
      · obtain rfl : res = (0, 2) := HX.out.trans (by rw [atK, ← HQ.out, if_neg (by simp), if_pos (.inr (.inl hf0))])
        have HK := Lib.hid hk
        clear hk
        go_wp2_with fail
        go_ret2
        exact ⟨rfl, R2.out.alloc _⟩
      · by_cases hf1 : (ty.fields.length : Int) ≤ f
        · obtain rfl : res = (0, 2) := HX.out.trans (by rw [atK, ← HQ.out, if_neg (by simp), if_pos (.inr (.inr (by rw [← HTY.out]; exact hf1)))])
          have HK := Lib.hid hk
          clear hk
          go_wp2_with fail
          go_ret2
          exact ⟨rfl, R2.out.alloc _⟩
        · have hres : res = recK (sz tys) (ty.fields.take f.toNat) 0 := HX.out.trans (by
            rw [atK, ← HQ.out, if_neg (by simp), if_neg (by rw [← HTY.out]; simp [hk]; omega), ← HTY.out])
          obtain ⟨k, rfl⟩ := Int.eq_ofNat_of_zero_le (show 0 ≤ f by omega)
          rw [Int.toNat_natCast] at hres
          have hklt : k < ty.fields.length := by omega
          have hz2 : ∃ z, z = w2.alloc (.cells #[.int .u8 ty.kind, .string ty.module, .string ty.name, .int .i64 ty.base, .int .i64 ty.index, .int .i64 ty.low, .int .i64 ty.high, .slice A1 ty.names.length c1, .slice A2 ty.fields.length c2, .slice A3 ty.arms.length c3, .slice A4 ty.params.length c4, .int .i64 ty.result] 38) := ⟨_, rfl⟩
          have hrec : Calls Try.prog 23 #[.agg #[.pointer (some ⟨t, 0, none⟩), .map (some (w2.alloc (.cells #[.int .u8 ty.kind, .string ty.module, .string ty.name, .int .i64 ty.base, .int .i64 ty.index, .int .i64 ty.low, .int .i64 ty.high, .slice A1 ty.names.length c1, .slice A2 ty.fields.length c2, .slice A3 ty.arms.length c3, .slice A4 ty.params.length c4, .int .i64 ty.result] 38)).heap.size)], .slice A2 k c2] ((w2.alloc (.cells #[.int .u8 ty.kind, .string ty.module, .string ty.name, .int .i64 ty.base, .int .i64 ty.index, .int .i64 ty.low, .int .i64 ty.high, .slice A1 ty.names.length c1, .slice A2 ty.fields.length c2, .slice A3 ty.arms.length c3, .slice A4 ty.params.length c4, .int .i64 ty.result] 38)).alloc (.map #[] 0))
              (DoneP ((w2.alloc (.cells #[.int .u8 ty.kind, .string ty.module, .string ty.name, .int .i64 ty.base, .int .i64 ty.index, .int .i64 ty.low, .int .i64 ty.high, .slice A1 ty.names.length c1, .slice A2 ty.fields.length c2, .slice A3 ty.arms.length c3, .slice A4 ty.params.length c4, .int .i64 ty.result] 38)).alloc (.map #[] 0)) t (w2.alloc (.cells #[.int .u8 ty.kind, .string ty.module, .string ty.name, .int .i64 ty.base, .int .i64 ty.index, .int .i64 ty.low, .int .i64 ty.high, .slice A1 ty.names.length c1, .slice A2 ty.fields.length c2, .slice A3 ty.arms.length c3, .slice A4 ty.params.length c4, .int .i64 ty.result] 38)).heap.size v ((w2.alloc (.cells #[.int .u8 ty.kind, .string ty.module, .string ty.name, .int .i64 ty.base, .int .i64 ty.index, .int .i64 ty.low, .int .i64 ty.high, .slice A1 ty.names.length c1, .slice A2 ty.fields.length c2, .slice A3 ty.arms.length c3, .slice A4 ty.params.length c4, .int .i64 ty.result] 38)).heap.size :: L) base tys (fun _ => none) i res) := by
            rw [hres]
            refine record_any _ t _ v _ base tys _ (sizer_new (HT.out.wr0 (R2.out.alloc _))) i (fun k y _ h => by cases h) _ (fun b => b < w2.heap.size) _ ?_ (fun b hb => by rw [World.size_alloc]; omega) (fun g hg => ?_) (fun g hg => spec_all _ _ _ _ _ _ HLOW.out _)
            · have h1 := Sl.take_flat (f := Fld.cells) (fun _ => rfl) (Sl.into HL.out.fields (Q := fun b => b < w2.heap.size) (fun b _ hb => hb)) rfl (k := k) (by omega) (by omega)
              have hkl : (ty.fields.take k).length = k := by rw [List.length_take]; omega
              unfold SlFlds
              rw [hkl]
              exact Sl.wr0 h1 (((Wr.refl [] w2).alloc _).alloc _)
            · have hm := List.mem_of_mem_take hg
              rw [HTY.out] at hm hk
              exact (tyOf_low HLOW.out i).2.1 hk g hm
          have HREC := Lib.hid hrec
          have HK := Lib.hid hk
          have hmm := @run_makeMap Try.prog
          have hk1 : (k : Int) < (ty.fields.length : Int) := by omega
          clear hk hrec hres hz2
          simp only [World.size_alloc] at HREC
          go_wp2_with fail
          refine HREC.out.mono ?_
          rintro e w5 ⟨rfl, r5, _⟩
          have R5 := Lib.hid r5
          clear r5
          go_wp2_with fail
          go_ret2
          exact ⟨rfl, ((R2.out.alloc _).alloc _).new R5.out (by have := R2.out.size; omega)⟩
    · have hkb : (ty.kind != 12) = true := by simp [hk]
      have hkb2 : (ty.kind == 12) = false := by simp [hk]
      obtain rfl : res = (0, 2) := HX.out.trans (by rw [atK, ← HQ.out, if_neg (by simp), if_pos (.inl (by rw [← HTY.out]; exact hk))])
      clear hk
      go_wp2_with fail
      go_ret2
      exact ⟨rfl, R2.out.alloc _⟩
  · obtain rfl : res = (0, err) := HX.out.trans (by rw [atK, ← HQ.out, if_pos he])
    have hne : (err == 0) = false := by simp [he]
    have hne2 : (err != 0) = true := by simp [he]
    clear hget
    go_enter Try.func13, Try.ntmps13
    go_wp2_with fail
    refine hsz.mono ?_
    clear hsz
    rintro e w1 ⟨rfl, r1⟩
    have R1 := Lib.hid r1
    clear r1
    go_wp2_with fail
    go_ret2
    exact ⟨rfl, R1.out⟩
end Go.Proofs.Ytloihffdolehhaa
