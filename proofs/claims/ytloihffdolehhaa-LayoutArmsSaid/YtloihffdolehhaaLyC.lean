/- layout's record: walked, over what size does. Conditions: the table's types hang on those ahead of them. -/
import Derived.Test.YtloihffdolehhaaLyB
namespace Go.Proofs.Ytloihffdolehhaa
open Go.RowKit
set_option linter.unusedVariables false
set_option linter.unusedSimpArgs false

/-- At the head of a round: k fields are reckoned. -/
def RecAt (w : World) (t r : Nat) (v : Value) (L : List Nat) (base : Nat) (tys : List Ty) (kn : Int → Option (Int × Int)) (i : Int) (l : List Fld) (res : Int × Int) (P : Nat → Prop) (vl : Value) (s4 s12 : Value) (wr : World) : Prop :=
  ∃ (k : Nat) (acc : Int), k ≤ l.length ∧ s4 = .int .i64 acc ∧ s12 = .int .i64 k ∧ 0 ≤ acc ∧ acc ≤ 32767 ∧ res = recK (sz tys) (l.drop k) acc ∧ Wr [r] w wr ∧ Blk wr w.heap.size 70 #[.pointer (some ⟨t, 0, none⟩), .map (some r)] ∧ SlFlds wr P vl l ∧
    ∃ kn', Sizer wr t r v L base tys kn' ∧ (∀ j, i ≤ j → kn' j = kn j) ∧ Right tys kn' i

set_option maxRecDepth 100000 in
set_option maxHeartbeats 4000000 in
theorem record_any (w : World) (t r : Nat) (v : Value) (L : List Nat) (base : Nat) (tys : List Ty) (kn : Int → Option (Int × Int)) (hs : Sizer w t r v L base tys kn) (i : Int) (hr : Right tys kn i) (l : List Fld) (P : Nat → Prop) (vl : Value)
    (hl : SlFlds w P vl l) (hP : ∀ b, P b → b ≠ r) (hfi : ∀ f ∈ l, f.type < i) (ih : ∀ f ∈ l, SizeSpec t r v L base tys f.type) :
    Calls Try.prog 23 #[.agg #[.pointer (some ⟨t, 0, none⟩), .map (some r)], vl] w (DoneP w t r v L base tys kn i (recK (sz tys) l 0)) := by
  obtain ⟨res, hres⟩ : ∃ q, q = recK (sz tys) l 0 := ⟨_, rfl⟩
  rw [← hres]
  have hlt : r < w.heap.size := hs.map.lt
  have at0 : RecAt w t r v L base tys kn i l res P vl (.int .i64 0) (.int .i64 0) (w.alloc (.cells #[.pointer (some ⟨t, 0, none⟩), .map (some r)] 70)) :=
    ⟨0, 0, Nat.zero_le _, rfl, rfl, by omega, by omega, hres, (Wr.refl _ _).alloc _, Blk.new _ _ _, Sl.wr0 hl ((Wr.refl _ _).alloc _), kn, hs.wr0 ((Wr.refl _ _).alloc _), fun _ _ => rfl, hr⟩
  have AT0 := Lib.hid at0
  obtain ⟨A, c, rfl, hlc, hcm⟩ := Sl.form hl
  unfold maxLen at hcm
  have HP := Lib.hid hP
  have HFI := Lib.hid hfi
  have IH := Lib.hid ih
  clear at0 hres hs hr hl hP hfi ih
  go_enter Try.func23, Try.ntmps23
  go_wp2_with fail
  go_loopw [4, 12] (fun s4 s12 wr => RecAt w t r v L base tys kn i l res P (.slice A l.length c) s4 s12 wr) (fun _ s12 _ => l.length - (intOf s12).toNat)
  case atStart => exact AT0.out
  case round =>
    obtain ⟨k, acc, hk, rfl, rfl, ha0, ha1, hres, hw, hb, hl, kn', hs, hf, hr⟩ := hrel
    have HX := Lib.hid hres
    have HW := Lib.hid hw
    have HB := Lib.hid hb
    have HL := Lib.hid hl
    have HS := Lib.hid hs
    have HF := Lib.hid hf
    have HR := Lib.hid hr
    have hgz := hb.lt
    have a0 := hb.cell 0
    have a1 := hb.cell 1
    simp only [List.getElem?_toArray, List.getElem?_cons_zero, List.getElem?_cons_succ] at a0 a1
    clear hres hw hb hl hs hf hr
    by_cases hlt2 : k < l.length
    · obtain ⟨f, hfk⟩ : ∃ f, l[k]? = some f := ⟨l[k], List.getElem?_eq_getElem hlt2⟩
      have hdrop : l.drop k = f :: l.drop (k + 1) := by
        rw [List.drop_eq_getElem_cons hlt2]
        rw [List.getElem?_eq_getElem hlt2] at hfk
        injection hfk with hfk
        rw [hfk]
      have hm : f ∈ l := List.mem_of_getElem? hfk
      have hfl : ∀ j, j < 3 → (l.flatMap Fld.cells)[k * 3 + j]? = f.cells[j]? := fun j hj => flatMap_at Fld.cells 3 (fun _ => rfl) l k j f hfk hj
      obtain ⟨b, off, c', hv, h1, h2, hPb, hc⟩ := Sl.thing HL.out (by omega) hlt2
      injection hv with hv1 _ hv3
      subst hv1
      have e0 := hc 0 _ (by omega) ((hfl 0 (by omega)).trans rfl)
      have e1 := hc 1 _ (by omega) ((hfl 1 (by omega)).trans rfl)
      have e2 := hc 2 _ (by omega) ((hfl 2 (by omega)).trans rfl)
      simp only [Nat.add_zero, ← Nat.add_assoc] at e0 e1 e2
      have HD := Lib.hid hdrop
      have hfi := HFI.out f hm
      have hsz := fun W (q : Wr [] wr W) => IH.out f hm W kn' (HS.out.wr0 q) (HR.out.mono (by omega))
      obtain ⟨s1, s2, s3⟩ := sz_bd tys f.type
      have hstep : res = recK (sz tys) (f :: l.drop (k + 1)) acc := by rw [← hdrop]; exact HX.out
      rw [recK] at hstep
      generalize sz tys f.type = x at *
      obtain ⟨n, err⟩ := x
      simp only at s1 s2 s3 hstep
      have HST := Lib.hid hstep
      clear hc hfl hdrop hm hstep hv3 h1 h2 s3
      have hi0 : (0 : Int) ≤ (k : Int) := by omega
      have hi1 : (k : Int) < (l.length : Int) := by omega
      go_wp2_with fail
      refine (hsz _ ((Wr.refl [] wr).alloc _)).mono ?_
      clear hsz
      rintro e w2 ⟨rfl, r2, kn2, hs2, hf2, hr2⟩
      have hri := Right.up (tys := tys) (kn := kn') (kn' := kn2) (i := i) hf2 hr2 HR.out
      have HS2 := Lib.hid hs2
      have HR2 := Lib.hid hri
      have HF2 : Hid (∀ j, i ≤ j → kn2 j = kn j) := Lib.hid fun j hj => (hf2 j (by omega)).trans (HF.out j hj)
      have hw2 : Wr [r] wr w2 := (((Wr.refl [] wr).alloc _).nil).trans r2
      have HW2 := Lib.hid hw2
      clear hs2 hf2 hr2 hri r2 hw2
      by_cases he : err = 0
      · subst he
        have fit := fun w => fits_any (acc + n) (by omega) w
        have hfb := fitsK_bd (n := acc + n) (by omega)
        have hst := HST.out
        rw [if_neg (by simp)] at hst
        have HST := Lib.hid hst
        clear hst
        generalize fitsK (acc + n) = q at *
        obtain ⟨m, err2⟩ := q
        obtain ⟨q1, q2, q3⟩ := hfb
        simp only at q1 q2 q3
        clear q3
        go_wp2_with fail
        refine (fit _).mono ?_
        clear fit
        rintro e w3 ⟨rfl, rfl⟩
        by_cases he2 : err2 = 0
        · subst he2
          go_wp2_with fail
          go_roundw
          case rel =>
            refine ⟨k + 1, m, by omega, rfl, by go_num, q1, q2, HST.out.trans (by simp), HW.out.trans HW2.out, HB.out.wr HW2.out (by simp; omega), Sl.keep HL.out HW2.out (fun b hb => by simp; exact HP.out b hb), kn2, HS2.out, HF2.out, HR2.out⟩
          case measure => simp [intOf]; omega
        · have hne : (err2 == 0) = false := by simp [he2]
          have hne2 : (err2 != 0) = true := by simp [he2]
          obtain rfl : res = (0, err2) := HST.out.trans (by simp [he2])
          go_wp2_with fail
          go_ret2
          exact ⟨rfl, HW.out.trans HW2.out, kn2, HS2.out, HF2.out, HR2.out⟩
      · have hne : (err == 0) = false := by simp [he]
        have hne2 : (err != 0) = true := by simp [he]
        obtain rfl : res = (0, err) := HST.out.trans (by simp [he])
        go_wp2_with fail
        go_ret2
        exact ⟨rfl, HW.out.trans HW2.out, kn2, HS2.out, HF2.out, HR2.out⟩
    · have hkl : k = l.length := by omega
      subst hkl
      obtain rfl : res = (acc, 0) := HX.out.trans (by rw [List.drop_length]; rfl)
      go_wp2_with fail
      go_ret2
      exact ⟨rfl, HW.out, kn', HS.out, HF.out, HR.out⟩
end Go.Proofs.Ytloihffdolehhaa
