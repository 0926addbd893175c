/- obj.Symbols of the bare interface, obj.ReadSymbols of any bytes: walked. Conditions: numbers are within their kinds; the bytes are no more than memory. -/
import Derived.Test.YtildcdgobdfieaaGreatRD38
import Derived.Test.YtildcdgobdfieaaGreatRD33
set_option linter.unusedVariables false
set_option linter.unusedSimpArgs false
set_option maxRecDepth 100000
set_option maxHeartbeats 32000000
namespace Go.Proofs.YtildcdgobdfieaaGreat
open Go.RowKit
def symKind : List UInt8 := [83, 69, 80, 83]
def symP (f : FaceD) : List UInt8 × Nat × Int := if mayP f = 0 then (fileL symKind (faceL (canonF f)), keyL (faceL (canonF f)), 0) else ([], 0, mayP f)
def SymR (q : List UInt8 × Nat × Int) (w : World) (e : Ending) (w' : World) : Prop := e = .returned (.tuple #[.string (ansS q.1), .int .u64 (q.2.1 : Int), .int .i64 q.2.2]) ∧ Wr [] w w'
theorem sym_eq (l : List UInt8) : (⟨#[83, 69, 80, 83]⟩ : ByteArray) ++ numS (keyL l) 8 ++ ansS l = ansS (fileL symKind l) := by
 apply ByteArray.ext
 rw [ByteArray.data_append, ByteArray.data_append]
 apply Array.ext'
 rw [Array.toList_append, Array.toList_append]
 rfl
def bareM : FaceD := ⟨⟨#[77]⟩, [], [], []⟩
theorem bare_may : mayP bareM = 0 := by decide +kernel
theorem bare_w : faceW bareM := ⟨fun u hu => by simp [bareM] at hu, fun t ht => by simp [bareM] at ht, fun x hx => by simp [bareM] at hx, fun x hx => by simp [bareM] at hx⟩
theorem symbols_bare (w : World) :
  Calls Tryz.prog 31 #[.agg #[.string ⟨#[77]⟩, .slice none 0 0, .slice none 0 0, .slice none 0 0]] w (SymR (symP bareM) w) := by
 have h1 := fun W => canon_plain ⟨#[77]⟩ none 0 0 (fun _ => True) (fun _ _ _ _ => trivial) (fun w _ => may_bare ⟨#[77]⟩ (by decide) w) (fun w _ => (clone_bare ⟨#[77]⟩ w).mono fun e w' h => ⟨⟨_, _, _, h.1⟩, h.2⟩) W trivial
 have h2 := fun W => encode_bare ⟨#[77]⟩ (by decide) W
 unfold bareI at h1
 obtain ⟨w0, hw0⟩ : ∃ w0, w.alloc (.cells #[.string ⟨#[77]⟩, .slice none 0 0, .slice none 0 0, .slice none 0 0] 55) = w0 := ⟨_, rfl⟩
 obtain ⟨g, hg⟩ : ∃ g, w.heap.size = g := ⟨_, rfl⟩
 have acc : Wr [] w w0 := by rw [← hw0]; exact (Wr.refl _ _).alloc _
 have bA : Blk w0 g 55 #[.string ⟨#[77]⟩, .slice none 0 0, .slice none 0 0, .slice none 0 0] := by rw [← hw0, ← hg]; exact Blk.new _ _ _
 have Hw0 := qh hw0
 have Hg := qh hg
 have H1 := qh h1
 clear hw0 hg h1
 have hk : symP bareM = (fileL symKind (faceL (canonF bareM)), keyL (faceL (canonF bareM)), 0) := by unfold symP; rw [if_pos bare_may]
 have hL0 : (encB ⟨#[77]⟩).data.toList = faceL (canonF bareM) := by decide +kernel
 obtain ⟨L, hL⟩ : ∃ q, faceL (canonF bareM) = q := ⟨_, rfl⟩
 have hroom : L.length ≤ 1000 := by rw [← hL]; decide +kernel
 rw [hL] at hk hL0
 have hse : encB ⟨#[77]⟩ = ansS L := by
  apply ByteArray.ext
  apply Array.ext'
  exact hL0
 rw [hse] at h2
 rw [hk]
 unfold SymR
 simp only
 have h3 := fun W => of_any (ansS L) (by rw [ansS_size]; unfold maxLen; omega) W
 rw [show ofN (moreN 14695981039346656037 (natsOf (ansS L))) = keyL L from rfl] at h3
 have hk8 := keyL_lt L
 have h4 := fun w => number_uint64 (keyL L) 8 hk8 (by decide) (by decide) w
 have hsy := sym_eq L
 obtain ⟨Z, hZ⟩ : ∃ q, ansS (fileL symKind L) = q := ⟨_, rfl⟩
 rw [hZ] at hsy ⊢
 obtain ⟨K, hK⟩ : ∃ q, keyL L = q := ⟨_, rfl⟩
 rw [hK] at h3 h4 hsy ⊢
 have hsz := ansS_size L
 obtain ⟨s, hs⟩ : ∃ q, ansS L = q := ⟨_, rfl⟩
 rw [hs] at h2 h3 hsy hsz
 have hnz := numS_size K 8
 have b1 : ¬ 9223372036854775807 < 4 + 8 + s.size := by omega
 have H2 := qh h2
 have H3 := qh h3
 have H4 := qh h4
 have HSY := qh hsy
 clear h2 h3 h4 hroom hL hk hs hK hZ hk8 hsz hsy hL0 hse
 go_in
 go_upto_region 1 with (fail)
 rw [Hw0.out, Hg.out]
 obtain ⟨c0, c1, c2, c3⟩ := c4q (bA)
 obtain ⟨cz0, cz1, cz2, cz3⟩ := z4q (bA)
 go_wp2_with fail
 refine (H1.out _).mono ?_
 rintro e w1 ⟨rfl, r1⟩
 have ACC := qh (acc.trans r1)
 clear c0 c1 c2 c3 cz0 cz1 cz2 cz3 bA acc r1 H1
 go_wp2_with fail
 refine (H2.out _).mono ?_
 rintro e w2 ⟨rfl, k2⟩
 have A2 := qh ((ACC.out.alloc _).trans k2)
 clear k2
 go_wp2_with fail
 refine (H3.out _).mono ?_
 rintro e w3 ⟨rfl, rfl⟩
 go_wp2_with fail
 refine (H4.out _).mono ?_
 rintro e w4 ⟨rfl, k4⟩
 go_wp2_with fail
 go_ret3
 exact ⟨by rw [← HSY.out]; rfl, A2.out.trans k4⟩
def readSymP (l : List UInt8) : FaceD × Nat × Int :=
 match headP symKind l with
 | none => (noFace, 0, 7)
 | some (k, s) => if (decFaceP s).2 ≠ 0 then (noFace, 0, 7) else if k ≠ keyL s then (noFace, 0, 210) else ((decFaceP s).1, k, 0)
def RSymR (q : FaceD × Nat × Int) (w : World) (e : Ending) (w' : World) : Prop :=
 ∃ vu vt vi, e = .returned (.tuple #[q.1.val vu vt vi, .int .u64 (q.2.1 : Int), .int .i64 q.2.2]) ∧ Wr [] w w' ∧ FaceL w' (fun b => w.heap.size ≤ b) vu vt vi q.1
theorem noFaceL (w : World) (P : Nat → Prop) : FaceL w P (.slice none 0 0) (.slice none 0 0) (.slice none 0 0) noFace := by
 refine ⟨Sl.nil _ _ _, ?_, Sl.nil _ _ _⟩
 exact ⟨[], Sl.nil _ _ _, by simp, fun i t h => by simp [noFace] at h⟩
theorem zero_sym {w w' : World} {n : Int} (h : Wr [] w w') : RSymR (noFace, 0, n) w (.returned (.tuple #[.agg #[.string ⟨#[]⟩, .slice none 0 0, .slice none 0 0, .slice none 0 0], .int .u64 0, .int .i64 n])) w' := ⟨_, _, _, rfl, h, noFaceL _ _⟩
theorem wr_set4 (w : World) (z : Nat) (u0 u1 u2 u3 : Value) : Wr [z] w ((((w.setCell ⟨z, 0, none⟩ u0).setCell ⟨z, 1, none⟩ u1).setCell ⟨z, 2, none⟩ u2).setCell ⟨z, 3, none⟩ u3) :=
 ((((Wr.refl [z] w).setOn (by simp) _).setOn (by simp) _).setOn (by simp) _).setOn (by simp) _
theorem blk_set4 {w : World} {z : Nat} {T : TypeId} {x0 x1 x2 x3 : Value} (h : Blk w z T #[x0, x1, x2, x3]) (u0 u1 u2 u3 : Value) : Blk ((((w.setCell ⟨z, 0, none⟩ u0).setCell ⟨z, 1, none⟩ u1).setCell ⟨z, 2, none⟩ u2).setCell ⟨z, 3, none⟩ u3) z T #[u0, u1, u2, u3] := by
 have := (((h.set_ 0 u0).set_ 1 u1).set_ 2 u2).set_ 3 u3
 simpa using this
theorem rsym_head (l : List UInt8) (hl : l.length ≤ maxLen) (h : headP symKind l = none) (w : World) :
  Calls Tryz.prog 23 #[.string (ansS l)] w (RSymR (noFace, 0, 7) w) := by
 have HBD := qh (fun w => body_no symKind l hl h w)
 have zn := Blk.new w 55 #[.string ⟨#[]⟩, .slice none 0 0, .slice none 0 0, .slice none 0 0]
 have rn := (Wr.refl [] w).alloc (.cells #[.string ⟨#[]⟩, .slice none 0 0, .slice none 0 0, .slice none 0 0] 55)
 obtain ⟨wn, hwn⟩ : ∃ q, w.alloc (.cells #[.string ⟨#[]⟩, .slice none 0 0, .slice none 0 0, .slice none 0 0] 55) = q := ⟨_, rfl⟩
 obtain ⟨z, hz⟩ : ∃ q, w.heap.size = q := ⟨_, rfl⟩
 rw [hwn] at zn rn
 rw [hz] at zn
 have hwz : w.heap.size ≤ z := by omega
 have HWN := qh hwn
 have HZ := qh hz
 have RN := qh rn
 have ZN := qh zn
 clear hwn hz rn zn
 clear h
 go_in
 go_upto_region 1 with (fail)
 rw [HZ.out, HWN.out]
 go_wp2_with fail
 refine (HBD.out _).mono ?_
 rintro e w1 ⟨rfl, k1⟩
 have z1 := ZN.out.wr0 k1
 obtain ⟨y0, y1, y2, y3⟩ := c4q (z1)
 obtain ⟨f0, f1, f2, f3⟩ := z4q (z1)
 have Z1 := qh z1
 have K1 := qh k1
 clear z1 k1
 go_wp2_with fail
 refine bodyPost_ret (v := .tuple #[.agg #[.string ⟨#[]⟩, .slice none 0 0, .slice none 0 0, .slice none 0 0], .int .u64 0, .int .i64 7]) ?_ rfl ?_
 ·have h9 := blk_set4 Z1.out (.string ⟨#[]⟩) (.slice none 0 0) (.slice none 0 0) (.slice none 0 0)
  obtain ⟨t0, t1, t2, t3⟩ := c4q (h9)
  simp [results, Tryz.results23, go_sem, t0, t1, t2, t3]
 ·exact zero_sym (wr_own2 ((RN.out.trans K1.out).nil (l := [z])) (wr_set4 _ z _ _ _ _) hwz hwz)
theorem rsym_dec (l : List UInt8) (hl : l.length ≤ maxLen) (k : Nat) (s : List UInt8) (h : headP symKind l = some (k, s)) (hd : (decFaceP s).2 ≠ 0) (w : World) :
  Calls Tryz.prog 23 #[.string (ansS l)] w (RSymR (noFace, 0, 7) w) := by
 have HBD := qh (fun w => body_yes symKind l hl k s h w)
 have hdec := fun w => decode_any (ansS s) w
 unfold DecodeR at hdec
 rw [show (ansS s).data.toList = s from rfl] at hdec
 obtain ⟨df, hdf⟩ : ∃ q, decFaceP s = q := ⟨_, rfl⟩
 obtain ⟨fc, de⟩ := df
 rw [hdf] at hdec hd
 simp only at hdec hd
 have HDE := qh hdec
 have HDF := qh hdf
 clear hdec hdf
 have zn := Blk.new w 55 #[.string ⟨#[]⟩, .slice none 0 0, .slice none 0 0, .slice none 0 0]
 have rn := (Wr.refl [] w).alloc (.cells #[.string ⟨#[]⟩, .slice none 0 0, .slice none 0 0, .slice none 0 0] 55)
 obtain ⟨wn, hwn⟩ : ∃ q, w.alloc (.cells #[.string ⟨#[]⟩, .slice none 0 0, .slice none 0 0, .slice none 0 0] 55) = q := ⟨_, rfl⟩
 obtain ⟨z, hz⟩ : ∃ q, w.heap.size = q := ⟨_, rfl⟩
 rw [hwn] at zn rn
 rw [hz] at zn
 have hwz : w.heap.size ≤ z := by omega
 have HWN := qh hwn
 have HZ := qh hz
 have RN := qh rn
 have ZN := qh zn
 clear hwn hz rn zn
 clear h
 go_in
 go_upto_region 1 with (fail)
 rw [HZ.out, HWN.out]
 go_wp2_with fail
 refine (HBD.out _).mono ?_
 rintro e w1 ⟨rfl, k1⟩
 go_wp2_with fail
 refine (HDE.out _).mono ?_
 rintro e w2 ⟨vu, vt, vi, rfl, k2, fl⟩
 obtain ⟨⟨B1, b1, rfl, _, _⟩, ⟨B2, b2, rfl, _, _⟩, ⟨B3, b3, rfl, _, _⟩⟩ := fl.forms
 simp only [FaceD.val]
 have z2 := (ZN.out.wr0 k1).wr0 k2
 have bf := Blk.new w2 55 #[.string fc.module, .slice B1 fc.uses.length b1, .slice B2 fc.types.length b2, .slice B3 fc.items.length b3]
 have k3 := (Wr.refl [] w2).alloc (.cells #[.string fc.module, .slice B1 fc.uses.length b1, .slice B2 fc.types.length b2, .slice B3 fc.items.length b3] 55)
 have zlt := z2.lt
 have z3 := z2.wr0 k3
 have fl3 := fl.wr0 k3
 have hfl : ∀ x, w1.heap.size ≤ x → z < x := fun x hx => by have := (ZN.out.wr0 k1).lt; omega
 have rr := ((RN.out.trans k1).trans k2).trans k3
 go_upto_region 5 with (fail)
 generalize w2.alloc (.cells #[.string fc.module, .slice B1 fc.uses.length b1, .slice B2 fc.types.length b2, .slice B3 fc.items.length b3] 55) = w3 at *
 have hne : z ≠ w2.heap.size := by omega
 generalize w2.heap.size = gf at *
 obtain ⟨y0, y1, y2, y3⟩ := c4q (z3)
 obtain ⟨f0, f1, f2, f3⟩ := z4q (z3)
 have m0 := (bf).cell 0
 have m1 := (bf).cell 1
 have m2 := (bf).cell 2
 have m3 := (bf).cell 3
 simp only [qgaq, qgzq, qgsq] at m0 m1 m2 m3
 have Z3 := qh z3
 have RR := qh rr
 have FL := qh fl3
 have HFL := qh hfl
 clear z2 z3 k1 k2 k3 bf fl fl3 rr zlt hfl
 go_wp2_with fail
 refine bodyPost_ret (v := .tuple #[.agg #[.string ⟨#[]⟩, .slice none 0 0, .slice none 0 0, .slice none 0 0], .int .u64 0, .int .i64 7]) ?_ rfl ?_
 ·have h9 := blk_set4 Z3.out (.string ⟨#[]⟩) (.slice none 0 0) (.slice none 0 0) (.slice none 0 0)
  obtain ⟨t0, t1, t2, t3⟩ := c4q (h9)
  simp [results, Tryz.results23, go_sem, t0, t1, t2, t3]
 ·exact zero_sym (wr_own2 (RR.out.nil (l := [z])) (wr_set4 _ z _ _ _ _) hwz hwz)
theorem rsym_key (l : List UInt8) (hl : l.length ≤ maxLen) (k : Nat) (s : List UInt8) (h : headP symKind l = some (k, s)) (hd : (decFaceP s).2 = 0) (hk : k ≠ keyL s) (hs : s.length ≤ maxLen) (w : World) :
  Calls Tryz.prog 23 #[.string (ansS l)] w (RSymR (noFace, 0, 210) w) := by
 have HBD := qh (fun w => body_yes symKind l hl k s h w)
 have hof := fun w => of_any (ansS s) (by rw [ansS_size]; exact hs) w
 rw [show ofN (moreN 14695981039346656037 (natsOf (ansS s))) = keyL s from rfl] at hof
 have n1 : ¬ ((k : Int) = (keyL s : Int)) := by omega
 have n2 : ((k : Int) == (keyL s : Int)) = false := by simp only [beq_eq_false_iff_ne, ne_eq]; exact n1
 have n3 : ¬ (k = keyL s) := hk
 have n4 : (k == keyL s) = false := by simpa using hk
 have HOF0 := qh hof
 have hdec := fun w => decode_any (ansS s) w
 unfold DecodeR at hdec
 rw [show (ansS s).data.toList = s from rfl] at hdec
 obtain ⟨df, hdf⟩ : ∃ q, decFaceP s = q := ⟨_, rfl⟩
 obtain ⟨fc, de⟩ := df
 rw [hdf] at hdec hd
 simp only at hdec hd
 have HDE := qh hdec
 have HDF := qh hdf
 clear hdec hdf
 subst hd
 have hof := HOF0.out
 clear HOF0
 generalize keyL s = K at *
 have HOF := qh hof
 have zn := Blk.new w 55 #[.string ⟨#[]⟩, .slice none 0 0, .slice none 0 0, .slice none 0 0]
 have rn := (Wr.refl [] w).alloc (.cells #[.string ⟨#[]⟩, .slice none 0 0, .slice none 0 0, .slice none 0 0] 55)
 obtain ⟨wn, hwn⟩ : ∃ q, w.alloc (.cells #[.string ⟨#[]⟩, .slice none 0 0, .slice none 0 0, .slice none 0 0] 55) = q := ⟨_, rfl⟩
 obtain ⟨z, hz⟩ : ∃ q, w.heap.size = q := ⟨_, rfl⟩
 rw [hwn] at zn rn
 rw [hz] at zn
 have hwz : w.heap.size ≤ z := by omega
 have HWN := qh hwn
 have HZ := qh hz
 have RN := qh rn
 have ZN := qh zn
 clear hwn hz rn zn
 clear h hof hk
 go_in
 go_upto_region 1 with (fail)
 rw [HZ.out, HWN.out]
 go_wp2_with fail
 refine (HBD.out _).mono ?_
 rintro e w1 ⟨rfl, k1⟩
 go_wp2_with fail
 refine (HDE.out _).mono ?_
 rintro e w2 ⟨vu, vt, vi, rfl, k2, fl⟩
 obtain ⟨⟨B1, b1, rfl, _, _⟩, ⟨B2, b2, rfl, _, _⟩, ⟨B3, b3, rfl, _, _⟩⟩ := fl.forms
 simp only [FaceD.val]
 have z2 := (ZN.out.wr0 k1).wr0 k2
 have bf := Blk.new w2 55 #[.string fc.module, .slice B1 fc.uses.length b1, .slice B2 fc.types.length b2, .slice B3 fc.items.length b3]
 have k3 := (Wr.refl [] w2).alloc (.cells #[.string fc.module, .slice B1 fc.uses.length b1, .slice B2 fc.types.length b2, .slice B3 fc.items.length b3] 55)
 have zlt := z2.lt
 have z3 := z2.wr0 k3
 have fl3 := fl.wr0 k3
 have hfl : ∀ x, w1.heap.size ≤ x → z < x := fun x hx => by have := (ZN.out.wr0 k1).lt; omega
 have rr := ((RN.out.trans k1).trans k2).trans k3
 go_upto_region 5 with (fail)
 generalize w2.alloc (.cells #[.string fc.module, .slice B1 fc.uses.length b1, .slice B2 fc.types.length b2, .slice B3 fc.items.length b3] 55) = w3 at *
 have hne : z ≠ w2.heap.size := by omega
 generalize w2.heap.size = gf at *
 obtain ⟨y0, y1, y2, y3⟩ := c4q (z3)
 obtain ⟨f0, f1, f2, f3⟩ := z4q (z3)
 have m0 := (bf).cell 0
 have m1 := (bf).cell 1
 have m2 := (bf).cell 2
 have m3 := (bf).cell 3
 simp only [qgaq, qgzq, qgsq] at m0 m1 m2 m3
 have Z3 := qh z3
 have RR := qh rr
 have FL := qh fl3
 have HFL := qh hfl
 clear z2 z3 k1 k2 k3 bf fl fl3 rr zlt hfl
 go_wp2_with fail
 refine (HOF.out _).mono ?_
 rintro e w4 ⟨rfl, rfl⟩
 go_wp2_with fail
 refine bodyPost_ret (v := .tuple #[.agg #[.string ⟨#[]⟩, .slice none 0 0, .slice none 0 0, .slice none 0 0], .int .u64 0, .int .i64 210]) ?_ rfl ?_
 ·have h9 := blk_set4 Z3.out (.string ⟨#[]⟩) (.slice none 0 0) (.slice none 0 0) (.slice none 0 0)
  obtain ⟨t0, t1, t2, t3⟩ := c4q (h9)
  simp [results, Tryz.results23, go_sem, t0, t1, t2, t3]
 ·exact zero_sym (wr_own2 (RR.out.nil (l := [z])) (wr_set4 _ z _ _ _ _) hwz hwz)
theorem rsym_yes (l : List UInt8) (hl : l.length ≤ maxLen) (s : List UInt8) (h : headP symKind l = some (keyL s, s)) (hd : (decFaceP s).2 = 0) (hs : s.length ≤ maxLen) (w : World) :
  Calls Tryz.prog 23 #[.string (ansS l)] w (RSymR ((decFaceP s).1, keyL s, 0) w) := by
 have HBD := qh (fun w => body_yes symKind l hl (keyL s) s h w)
 have hof := fun w => of_any (ansS s) (by rw [ansS_size]; exact hs) w
 rw [show ofN (moreN 14695981039346656037 (natsOf (ansS s))) = keyL s from rfl] at hof
 have HOF0 := qh hof
 have hdec := fun w => decode_any (ansS s) w
 unfold DecodeR at hdec
 rw [show (ansS s).data.toList = s from rfl] at hdec
 obtain ⟨df, hdf⟩ : ∃ q, decFaceP s = q := ⟨_, rfl⟩
 obtain ⟨fc, de⟩ := df
 rw [hdf] at hdec hd ⊢
 simp only at hdec hd ⊢
 have HDE := qh hdec
 have HDF := qh hdf
 clear hdec hdf
 subst hd
 have hof := HOF0.out
 clear HOF0
 generalize keyL s = K at *
 have HOF := qh hof
 have zn := Blk.new w 55 #[.string ⟨#[]⟩, .slice none 0 0, .slice none 0 0, .slice none 0 0]
 have rn := (Wr.refl [] w).alloc (.cells #[.string ⟨#[]⟩, .slice none 0 0, .slice none 0 0, .slice none 0 0] 55)
 obtain ⟨wn, hwn⟩ : ∃ q, w.alloc (.cells #[.string ⟨#[]⟩, .slice none 0 0, .slice none 0 0, .slice none 0 0] 55) = q := ⟨_, rfl⟩
 obtain ⟨z, hz⟩ : ∃ q, w.heap.size = q := ⟨_, rfl⟩
 rw [hwn] at zn rn
 rw [hz] at zn
 have hwz : w.heap.size ≤ z := by omega
 have HWN := qh hwn
 have HZ := qh hz
 have RN := qh rn
 have ZN := qh zn
 clear hwn hz rn zn
 clear h hof
 go_in
 go_upto_region 1 with (fail)
 rw [HZ.out, HWN.out]
 go_wp2_with fail
 refine (HBD.out _).mono ?_
 rintro e w1 ⟨rfl, k1⟩
 go_wp2_with fail
 refine (HDE.out _).mono ?_
 rintro e w2 ⟨vu, vt, vi, rfl, k2, fl⟩
 obtain ⟨⟨B1, b1, rfl, _, _⟩, ⟨B2, b2, rfl, _, _⟩, ⟨B3, b3, rfl, _, _⟩⟩ := fl.forms
 simp only [FaceD.val]
 have z2 := (ZN.out.wr0 k1).wr0 k2
 have bf := Blk.new w2 55 #[.string fc.module, .slice B1 fc.uses.length b1, .slice B2 fc.types.length b2, .slice B3 fc.items.length b3]
 have k3 := (Wr.refl [] w2).alloc (.cells #[.string fc.module, .slice B1 fc.uses.length b1, .slice B2 fc.types.length b2, .slice B3 fc.items.length b3] 55)
 have zlt := z2.lt
 have z3 := z2.wr0 k3
 have fl3 := fl.wr0 k3
 have hfl : ∀ x, w1.heap.size ≤ x → z < x := fun x hx => by have := (ZN.out.wr0 k1).lt; omega
 have rr := ((RN.out.trans k1).trans k2).trans k3
 go_upto_region 5 with (fail)
 generalize w2.alloc (.cells #[.string fc.module, .slice B1 fc.uses.length b1, .slice B2 fc.types.length b2, .slice B3 fc.items.length b3] 55) = w3 at *
 have hne : z ≠ w2.heap.size := by omega
 generalize w2.heap.size = gf at *
 obtain ⟨y0, y1, y2, y3⟩ := c4q (z3)
 obtain ⟨f0, f1, f2, f3⟩ := z4q (z3)
 have m0 := (bf).cell 0
 have m1 := (bf).cell 1
 have m2 := (bf).cell 2
 have m3 := (bf).cell 3
 simp only [qgaq, qgzq, qgsq] at m0 m1 m2 m3
 have Z3 := qh z3
 have RR := qh rr
 have FL := qh fl3
 have HFL := qh hfl
 clear z2 z3 k1 k2 k3 bf fl fl3 rr zlt hfl
 go_wp2_with fail
 refine (HOF.out _).mono ?_
 rintro e w4 ⟨rfl, rfl⟩
 go_wp2_with fail
 refine bodyPost_ret (v := .tuple #[.agg #[.string fc.module, .slice B1 fc.uses.length b1, .slice B2 fc.types.length b2, .slice B3 fc.items.length b3], .int .u64 (K : Int), .int .i64 0]) ?_ rfl ?_
 ·have h9 := blk_set4 Z3.out (.string fc.module) (.slice B1 fc.uses.length b1) (.slice B2 fc.types.length b2) (.slice B3 fc.items.length b3)
  obtain ⟨t0, t1, t2, t3⟩ := c4q (h9)
  simp [results, Tryz.results23, go_sem, t0, t1, t2, t3]
 ·refine ⟨_, _, _, rfl, wr_own2 (RR.out.nil (l := [z])) (wr_set4 _ z _ _ _ _) hwz hwz, ?_⟩
  have kz := wr_set4 w3 z (.string fc.module) (.slice B1 fc.uses.length b1) (.slice B2 fc.types.length b2) (.slice B3 fc.items.length b3)
  exact (FL.out.keep kz (fun x hx => by have := HFL.out x hx; rw [qmsq]; omega)).into (fun x hx _ => by have := HFL.out x hx; omega)
theorem rsym_any (l : List UInt8) (hl : l.length ≤ maxLen) (w : World) : Calls Tryz.prog 23 #[.string (ansS l)] w (RSymR (readSymP l) w) := by
 cases hh : headP symKind l with
 | none =>
  have e : readSymP l = (noFace, 0, 7) := by unfold readSymP; rw [hh]
  rw [e]
  exact rsym_head l hl hh w
 | some p =>
  obtain ⟨k, s⟩ := p
  have hs : s.length ≤ maxLen := by rw [head_rest hh, List.length_drop]; omega
  by_cases hd : (decFaceP s).2 = 0
  ·by_cases hk : k = keyL s
   ·subst hk
    have e : readSymP l = ((decFaceP s).1, keyL s, 0) := by unfold readSymP; rw [hh]; simp [hd]
    rw [e]
    exact rsym_yes l hl s hh hd hs w
   ·have e : readSymP l = (noFace, 0, 210) := by unfold readSymP; rw [hh]; simp [hd, hk]
    rw [e]
    exact rsym_key l hl k s hh hd hk hs w
  ·have e : readSymP l = (noFace, 0, 7) := by unfold readSymP; rw [hh]; simp [hd]
   rw [e]
   exact rsym_dec l hl k s hh hd w
def rreadP (l : List UInt8) : FaceP × Nat × Int :=
 match headP symKind l with
 | none => (noFaceP, 0, 7)
 | some (k, s) => if (rdecP s).2 ≠ 0 then (noFaceP, 0, 7) else if k ≠ keyL s then (noFaceP, 0, 210) else ((rdecP s).1, k, 0)
def RRSymR (q : FaceP × Nat × Int) (w : World) (e : Ending) (w' : World) : Prop :=
 ∃ vu vt vi, e = .returned (.tuple #[.agg #[.string q.1.module, vu, vt, vi], .int .u64 (q.2.1 : Int), .int .i64 q.2.2]) ∧ Wr [] w w' ∧ FacePL w' (fun b => w.heap.size ≤ b) vu vt vi q.1
theorem zero_rsym {w w' : World} {n : Int} (h : Wr [] w w') : RRSymR (noFaceP, 0, n) w (.returned (.tuple #[.agg #[.string ⟨#[]⟩, .slice none 0 0, .slice none 0 0, .slice none 0 0], .int .u64 0, .int .i64 n])) w' := ⟨_, _, _, rfl, h, noFacePL _ _⟩
theorem rrsym_head (l0 : List UInt8) (h : headP symKind l0 = none) (w : World) : Calls Tryz.prog 24 #[.string (ansS l0)] w (RRSymR (noFaceP, 0, 7) w) := by
 have hq := head_none h
 obtain ⟨y, hy⟩ : ∃ q, w.heap.size = q := ⟨_, rfl⟩
 obtain ⟨wn, hwn⟩ : ∃ q, w.alloc (.cells #[.string ⟨#[]⟩, .slice none 0 0, .slice none 0 0, .slice none 0 0] 60) = q := ⟨_, rfl⟩
 have yn : Blk wn y 60 #[.string ⟨#[]⟩, .slice none 0 0, .slice none 0 0, .slice none 0 0] := by rw [← hwn, ← hy]; exact Blk.new _ _ _
 have kn : Wr [] w wn := by rw [← hwn]; exact (Wr.refl _ _).alloc _
 have hwy : w.heap.size ≤ y := by omega
 have YN := qh yn
 have KN := qh kn
 have HY := qh hy
 have HWN := qh hwn
 have hsz := ansS_size l0
 have htk := ansS_take l0 4
 obtain ⟨S, hS⟩ : ∃ q, ansS l0 = q := ⟨_, rfl⟩
 rw [hS] at hsz htk ⊢
 rcases hq with c | ⟨c, hne⟩
 ·have e0 : (S.size : Int) < 12 := by omega
  clear htk hS h hsz hy hwn yn kn
  go_in
  go_upto_region 1 with (fail)
  rw [HY.out, HWN.out]
  obtain ⟨z0, z1, z2, z3⟩ := c4q YN.out
  obtain ⟨g0, g1, g2, g3⟩ := z4q YN.out
  go_wp2_with fail
  refine bodyPost_ret (v := .tuple #[.agg #[.string ⟨#[]⟩, .slice none 0 0, .slice none 0 0, .slice none 0 0], .int .u64 0, .int .i64 7]) ?_ rfl ?_
  ·have h9 := YN.out.setL [.string ⟨#[]⟩, .slice none 0 0, .slice none 0 0, .slice none 0 0] rfl
   obtain ⟨t0, t1, t2, t3⟩ := c4q h9
   simp only [setL] at t0 t1 t2 t3
   simp [results, Tryz.results24, go_sem, t0, t1, t2, t3]
  ·have kw := setL_wr (g := y) [.string ⟨#[]⟩, .slice none 0 0, .slice none 0 0, .slice none 0 0] 0 wn
   exact zero_rsym (wr_own2 KN.out.nil kw hwy hwy)
 ·have e0 : ¬ (S.size : Int) < 12 := by omega
  have e1 : (4 : Int) ≤ (S.size : Int) := by omega
  obtain ⟨A, hA⟩ : ∃ q, ansS (l0.take 4) = q := ⟨_, rfl⟩
  rw [hA] at htk
  have n1 : ¬ A.toList = [83, 69, 80, 83] := by rw [← hA, ansS_list]; exact hne
  have n2 : (A.toList == [83, 69, 80, 83]) = false := by simp [n1]
  clear hS h hsz hA hne c hy hwn yn kn
  go_in
  go_upto_region 1 with (fail)
  rw [HY.out, HWN.out]
  obtain ⟨z0, z1, z2, z3⟩ := c4q YN.out
  obtain ⟨g0, g1, g2, g3⟩ := z4q YN.out
  go_wp2_with fail
  refine bodyPost_ret (v := .tuple #[.agg #[.string ⟨#[]⟩, .slice none 0 0, .slice none 0 0, .slice none 0 0], .int .u64 0, .int .i64 7]) ?_ rfl ?_
  ·have h9 := YN.out.setL [.string ⟨#[]⟩, .slice none 0 0, .slice none 0 0, .slice none 0 0] rfl
   obtain ⟨t0, t1, t2, t3⟩ := c4q h9
   simp only [setL] at t0 t1 t2 t3
   simp [results, Tryz.results24, go_sem, t0, t1, t2, t3]
  ·have kw := setL_wr (g := y) [.string ⟨#[]⟩, .slice none 0 0, .slice none 0 0, .slice none 0 0] 0 wn
   exact zero_rsym (wr_own2 KN.out.nil kw hwy hwy)
theorem rrsym_body (l0 : List UInt8) (hl : l0.length ≤ maxLen) (kh : Nat) (s : List UInt8) (h : headP symKind l0 = some (kh, s)) (w : World) : Calls Tryz.prog 24 #[.string (ansS l0)] w (RRSymR (rreadP l0) w) := by
 obtain ⟨h12, hkd, hnum, hrest⟩ := head_parts h
 have hdq : rreadP l0 = if (rdecP s).2 ≠ 0 then (noFaceP, 0, 7) else if kh ≠ keyL s then (noFaceP, 0, 210) else ((rdecP s).1, kh, 0) := by unfold rreadP; rw [h]
 obtain ⟨y, hy⟩ : ∃ q, w.heap.size = q := ⟨_, rfl⟩
 obtain ⟨wn, hwn⟩ : ∃ q, w.alloc (.cells #[.string ⟨#[]⟩, .slice none 0 0, .slice none 0 0, .slice none 0 0] 60) = q := ⟨_, rfl⟩
 obtain ⟨b, hb⟩ : ∃ q, wn.heap.size = q := ⟨_, rfl⟩
 obtain ⟨wb, hwb⟩ : ∃ q, wn.alloc (.cells #[.string (ansS l0), .int .i64 4, .bool false] 117) = q := ⟨_, rfl⟩
 have yn : Blk wn y 60 #[.string ⟨#[]⟩, .slice none 0 0, .slice none 0 0, .slice none 0 0] := by rw [← hwn, ← hy]; exact Blk.new _ _ _
 have kn : Wr [] w wn := by rw [← hwn]; exact (Wr.refl _ _).alloc _
 have kb : Wr [] wn wb := by rw [← hwb]; exact (Wr.refl _ _).alloc _
 have bn : Blk wb b 117 #[.string (ansS l0), .int .i64 4, .bool false] := by rw [← hwb, ← hb]; exact Blk.new _ _ _
 have hby0 : y < b := by have := yn.lt; omega
 have hwb0 : w.heap.size ≤ b := by omega
 have hwy : w.heap.size ≤ y := by omega
 have hsz := ansS_size l0
 have rd0 : RdH (ansS l0) wb b ⟨l0.drop 4, false⟩ := ⟨4, by omega, rfl, bn⟩
 have hS : (ansS l0).size ≤ maxLen := by omega
 have hc0 := num_h (ansS l0) b 8 ⟨l0.drop 4, false⟩ (by decide) hS wb rd0
 rw [hnum] at hc0
 simp only at hc0
 have hof := fun W => rof_any (ansS s) (by rw [ansS_size, hrest, List.length_drop]; unfold maxLen at *; omega) W
 rw [show ofN (moreN 14695981039346656037 (natsOf (ansS s))) = keyL s from rfl] at hof
 have hde := fun W => rdec_any s W
 unfold RDecR at hde
 have hdr := ansS_drop l0 12
 rw [← hrest] at hdr
 have htk := ansS_take l0 4
 rw [hkd] at htk
 obtain ⟨A, hA⟩ : ∃ q, ansS symKind = q := ⟨_, rfl⟩
 rw [hA] at htk
 have n1 : A.toList = [83, 69, 80, 83] := by rw [← hA, ansS_list]; rfl
 have n2 : (A.toList == [83, 69, 80, 83]) = true := by simp [n1]
 have e0 : ¬ ((ansS l0).size : Int) < 12 := by omega
 have e1 : (4 : Int) ≤ ((ansS l0).size : Int) := by omega
 have e2 : (12 : Int) ≤ ((ansS l0).size : Int) := by omega
 have yb := yn.wr0 kb
 have YB := qh yb
 have KB := qh (kn.trans kb)
 have HY := qh hy
 have HWN := qh hwn
 have HB := qh hb
 have HWB := qh hwb
 have HC0 := qh hc0
 have HOF := qh hof
 obtain ⟨rq, hrq⟩ : ∃ p, rdecP s = p := ⟨_, rfl⟩
 obtain ⟨f, er⟩ := rq
 rw [hrq] at hdq hde
 simp only at hdq hde
 have HDE := qh hde
 obtain ⟨K, hK⟩ : ∃ q, keyL s = q := ⟨_, rfl⟩
 rw [hK] at HOF hdq
 obtain ⟨ans, hans⟩ : ∃ q, rreadP l0 = q := ⟨_, rfl⟩
 rw [hans] at hdq ⊢
 have HDQ := qh hdq
 have HYB : y < wb.heap.size := yb.lt
 clear h h12 hkd hnum hrest hdq hy hwn hb hwb yn kn kb bn hsz rd0 hS hc0 hof hA yb hrq hans hl hde hK
 go_in
 go_upto_region 1 with (fail)
 rw [HY.out, HWN.out]
 go_upto_region 4 with (fail)
 rw [HB.out, HWB.out]
 clear HY HWN HB HWB n1 n2 e0 e1 htk
 go_wp2_with fail
 refine HC0.out.mono ?_
 rintro e w1 ⟨rfl, k1, b1⟩
 have yw := YB.out.wr k1 (by simp; omega)
 have kw1 : Wr [b] w w1 := KB.out.nil.trans k1
 have hsz1 := k1.size
 have YW := qh yw
 have KW := qh kw1
 clear b1 k1 yw kw1 HC0 KB YB
 go_wp2_with fail
 refine (HDE.out _).mono ?_
 rintro e w2 ⟨vu, vt, vi, rfl, k2, fl⟩
 obtain ⟨⟨A1, c1, rfl, _, _⟩, ⟨A2, c2, rfl, _, _⟩, ⟨A3, c3, rfl, _, _⟩⟩ := fl.forms
 obtain ⟨w3, hw3⟩ : ∃ q, w2.alloc (.cells #[.string f.module, .slice A1 f.uses.length c1, .slice A2 f.types.length c2, .slice A3 f.items.length c3] 60) = q := ⟨_, rfl⟩
 obtain ⟨z, hz⟩ : ∃ q, w2.heap.size = q := ⟨_, rfl⟩
 have k3 : Wr [] w2 w3 := by rw [← hw3]; exact (Wr.refl _ _).alloc _
 have zn : Blk w3 z 60 #[.string f.module, .slice A1 f.uses.length c1, .slice A2 f.types.length c2, .slice A3 f.items.length c3] := by rw [← hw3, ← hz]; exact Blk.new _ _ _
 have y2 := YW.out.wr0 k2
 have hyz : y < z := by have := y2.lt; omega
 have y3 := y2.wr0 k3
 have kw3 : Wr [b] w w3 := (KW.out.trans0 k2).trans0 k3
 have fl3 := (fl.wr0 k3).into (Q := fun q => y < q ∧ w.heap.size ≤ q) (fun q hq _ => by omega)
 have HW3 := qh hw3
 have HZ := qh hz
 have ZN := qh zn
 have Y3 := qh y3
 have KW3 := qh kw3
 have FL3 := qh fl3
 clear hw3 hz k3 zn y2 y3 kw3 fl3 fl k2 HDE YW KW
 go_upto_region 6 with (fail)
 rw [HZ.out, HW3.out]
 clear HZ HW3
 by_cases her : er = 0
 case neg =>
  have h1 : (er == 0) = false := by simpa using her
  have h2 : (er != 0) = true := by simpa using her
  have ha : ans = (noFaceP, 0, 7) := by have := HDQ.out; rw [if_pos her] at this; exact this
  have HA := qh ha
  clear ha HDQ
  obtain ⟨z0, z1, z2, z3⟩ := c4q Y3.out
  obtain ⟨g0, g1, g2, g3⟩ := z4q Y3.out
  go_wp2_with fail
  refine bodyPost_ret (v := .tuple #[.agg #[.string ⟨#[]⟩, .slice none 0 0, .slice none 0 0, .slice none 0 0], .int .u64 0, .int .i64 7]) ?_ rfl ?_
  ·have h9 := Y3.out.setL [.string ⟨#[]⟩, .slice none 0 0, .slice none 0 0, .slice none 0 0] rfl
   obtain ⟨t0, t1, t2, t3⟩ := c4q h9
   simp only [setL] at t0 t1 t2 t3
   simp [results, Tryz.results24, go_sem, t0, t1, t2, t3]
  ·have kw := setL_wr (g := y) [.string ⟨#[]⟩, .slice none 0 0, .slice none 0 0, .slice none 0 0] 0 w3
   rw [HA.out]
   exact zero_rsym (wr_own2 KW3.out kw hwb0 hwy)
 case pos =>
  subst her
  by_cases hk : kh = K
  case neg =>
   have hk1 : ¬ (kh : Int) = (K : Int) := by omega
   have hk2 : ((kh : Int) == (K : Int)) = false := by simpa using hk1
   have hk3 : (kh == K) = false := by simpa using hk
   have hk4 : ((kh : Int) != (K : Int)) = true := by simpa using hk1
   have ha : ans = (noFaceP, 0, 210) := by have := HDQ.out; rw [if_neg (by simp), if_pos hk] at this; exact this
   have HA := qh ha
   clear ha HDQ
   go_wp2_with fail
   refine (HOF.out _).mono ?_
   rintro e w4 ⟨rfl, rfl⟩
   obtain ⟨z0, z1, z2, z3⟩ := c4q Y3.out
   obtain ⟨g0, g1, g2, g3⟩ := z4q Y3.out
   go_wp2_with fail
   refine bodyPost_ret (v := .tuple #[.agg #[.string ⟨#[]⟩, .slice none 0 0, .slice none 0 0, .slice none 0 0], .int .u64 0, .int .i64 210]) ?_ rfl ?_
   ·have h9 := Y3.out.setL [.string ⟨#[]⟩, .slice none 0 0, .slice none 0 0, .slice none 0 0] rfl
    obtain ⟨t0, t1, t2, t3⟩ := c4q h9
    simp only [setL] at t0 t1 t2 t3
    simp [results, Tryz.results24, go_sem, t0, t1, t2, t3]
   ·have kw := setL_wr (g := y) [.string ⟨#[]⟩, .slice none 0 0, .slice none 0 0, .slice none 0 0] 0 w3
    rw [HA.out]
    exact zero_rsym (wr_own2 KW3.out kw hwb0 hwy)
  case pos =>
   subst hk
   have hk2 : ((kh : Int) == (kh : Int)) = true := by simp
   have hk3 : ((kh : Int) != (kh : Int)) = false := by simp
   have ha : ans = (f, kh, 0) := by have := HDQ.out; rw [if_neg (by simp), if_neg (by simp)] at this; exact this
   have HA := qh ha
   clear ha HDQ
   go_wp2_with fail
   refine (HOF.out _).mono ?_
   rintro e w4 ⟨rfl, rfl⟩
   obtain ⟨z0, z1, z2, z3⟩ := c4q Y3.out
   obtain ⟨g0, g1, g2, g3⟩ := z4q Y3.out
   have x0 := ZN.out.cell 0
   have x1 := ZN.out.cell 1
   have x2 := ZN.out.cell 2
   have x3 := ZN.out.cell 3
   simp only [qgaq, qgzq, qgsq] at x0 x1 x2 x3
   go_wp2_with fail
   refine bodyPost_ret (v := .tuple #[.agg #[.string f.module, .slice A1 f.uses.length c1, .slice A2 f.types.length c2, .slice A3 f.items.length c3], .int .u64 (kh : Int), .int .i64 0]) ?_ rfl ?_
   ·have h9 := Y3.out.setL [.string f.module, .slice A1 f.uses.length c1, .slice A2 f.types.length c2, .slice A3 f.items.length c3] rfl
    obtain ⟨t0, t1, t2, t3⟩ := c4q h9
    simp only [setL] at t0 t1 t2 t3
    simp [results, Tryz.results24, go_sem, t0, t1, t2, t3]
   ·have kw := setL_wr (g := y) [.string f.module, .slice A1 f.uses.length c1, .slice A2 f.types.length c2, .slice A3 f.items.length c3] 0 w3
    rw [HA.out]
    exact ⟨_, _, _, rfl, wr_own2 KW3.out kw hwb0 hwy, (FL3.out.keep kw (fun q hq => by simp; omega)).into (fun q hq _ => hq.2)⟩
theorem rrsym_any (l0 : List UInt8) (hl : l0.length ≤ maxLen) (w : World) : Calls Tryz.prog 24 #[.string (ansS l0)] w (RRSymR (rreadP l0) w) := by
 cases h : headP symKind l0 with
 | none =>
  have e : rreadP l0 = (noFaceP, 0, 7) := by unfold rreadP; rw [h]
  rw [e]
  exact rrsym_head l0 h w
 | some p => exact rrsym_body l0 hl p.1 p.2 h w
end Go.Proofs.YtildcdgobdfieaaGreat
