/- obj.Symbols of the bare interface, obj.ReadSymbols of any bytes: walked. Conditions: numbers are within their kinds; the bytes are no more than memory. -/
import Derived.Test.YtildcdgobdfieaaGreatOT01
import Derived.Test.YtildcdgobdfieaaGreatOT13
import Derived.Test.YtildcdgobdfieaaGreatOT14
import Derived.Test.YtildcdgobdfieaaGreatOT16
import Derived.Test.YtildcdgobdfieaaGreatOT22
import Derived.Test.YtildcdgobdfieaaGreatOT30
set_option linter.unusedVariables false
set_option linter.unusedSimpArgs false
set_option maxRecDepth 100000
set_option maxHeartbeats 32000000
namespace Go.Proofs.YtildcdgobdfieaaGreat
open Go.RowKit
def symKind : List UInt8 := [83, 69, 80, 83]
def symP (f : FaceD) : List UInt8 × Nat × Int := if mayP f = 0 then (fileL symKind (faceL (canonF f)), keyL (faceL (canonF f)), 0) else ([], 0, mayP f)
def SymR (q : List UInt8 × Nat × Int) (w : World) (e : Ending) (w' : World) : Prop := e = .returned (.tuple #[.string (ansS q.1), .int .u64 (q.2.1 : Int), .int .i64 q.2.2]) ∧ Wr [] w w'
theorem sym_eq (l : List UInt8) : (⟨#[83, 69, 80, 83]⟩ : ByteArray) ++ numS (keyL l) 8 ++ ansS l = ansS (fileL symKind l) := by
 apply ByteArray.ext
 rw [ByteArray.data_append, ByteArray.data_append]
 apply Array.ext'
 rw [Array.toList_append, Array.toList_append]
 rfl
def bareM : FaceD := ⟨⟨#[77]⟩, [], [], []⟩
theorem bare_may : mayP bareM = 0 := by decide +kernel
theorem bare_w : faceW bareM := ⟨fun u hu => by simp [bareM] at hu, fun t ht => by simp [bareM] at ht, fun x hx => by simp [bareM] at hx, fun x hx => by simp [bareM] at hx⟩
theorem symbols_bare (w : World) :
  Calls Tryz.prog 31 #[.agg #[.string ⟨#[77]⟩, .slice none 0 0, .slice none 0 0, .slice none 0 0]] w (SymR (symP bareM) w) := by
 have h1 := fun W => canon_plain ⟨#[77]⟩ none 0 0 (fun _ => True) (fun _ _ _ _ => trivial) (fun w _ => may_bare ⟨#[77]⟩ (by decide) w) (fun w _ => (clone_bare ⟨#[77]⟩ w).mono fun e w' h => ⟨⟨_, _, _, h.1⟩, h.2⟩) W trivial
 have h2 := fun W => encode_bare ⟨#[77]⟩ (by decide) W
 unfold bareI at h1
 obtain ⟨w0, hw0⟩ : ∃ w0, w.alloc (.cells #[.string ⟨#[77]⟩, .slice none 0 0, .slice none 0 0, .slice none 0 0] 55) = w0 := ⟨_, rfl⟩
 obtain ⟨g, hg⟩ : ∃ g, w.heap.size = g := ⟨_, rfl⟩
 have acc : Wr [] w w0 := by rw [← hw0]; exact (Wr.refl _ _).alloc _
 have bA : Blk w0 g 55 #[.string ⟨#[77]⟩, .slice none 0 0, .slice none 0 0, .slice none 0 0] := by rw [← hw0, ← hg]; exact Blk.new _ _ _
 have Hw0 := qh hw0
 have Hg := qh hg
 have H1 := qh h1
 clear hw0 hg h1
 have hk : symP bareM = (fileL symKind (faceL (canonF bareM)), keyL (faceL (canonF bareM)), 0) := by unfold symP; rw [if_pos bare_may]
 have hL0 : (encB ⟨#[77]⟩).data.toList = faceL (canonF bareM) := by decide +kernel
 obtain ⟨L, hL⟩ : ∃ q, faceL (canonF bareM) = q := ⟨_, rfl⟩
 have hroom : L.length ≤ 1000 := by rw [← hL]; decide +kernel
 rw [hL] at hk hL0
 have hse : encB ⟨#[77]⟩ = ansS L := by
  apply ByteArray.ext
  apply Array.ext'
  exact hL0
 rw [hse] at h2
 rw [hk]
 unfold SymR
 simp only
 have h3 := fun W => of_any (ansS L) (by rw [ansS_size]; unfold maxLen; omega) W
 rw [show ofN (moreN 14695981039346656037 (natsOf (ansS L))) = keyL L from rfl] at h3
 have hk8 := keyL_lt L
 have h4 := fun w => number_uint64 (keyL L) 8 hk8 (by decide) (by decide) w
 have hsy := sym_eq L
 obtain ⟨Z, hZ⟩ : ∃ q, ansS (fileL symKind L) = q := ⟨_, rfl⟩
 rw [hZ] at hsy ⊢
 obtain ⟨K, hK⟩ : ∃ q, keyL L = q := ⟨_, rfl⟩
 rw [hK] at h3 h4 hsy ⊢
 have hsz := ansS_size L
 obtain ⟨s, hs⟩ : ∃ q, ansS L = q := ⟨_, rfl⟩
 rw [hs] at h2 h3 hsy hsz
 have hnz := numS_size K 8
 have b1 : ¬ 9223372036854775807 < 4 + 8 + s.size := by omega
 have H2 := qh h2
 have H3 := qh h3
 have H4 := qh h4
 have HSY := qh hsy
 clear h2 h3 h4 hroom hL hk hs hK hZ hk8 hsz hsy hL0 hse
 go_enter Tryz.func31, Tryz.ntmps31
 go_upto_region 1 with (fail)
 rw [Hw0.out, Hg.out]
 have c0 := (bA).cell 0
 have c1 := (bA).cell 1
 have c2 := (bA).cell 2
 have c3 := (bA).cell 3
 simp only [qgaq, qgzq, qgsq] at c0 c1 c2 c3
 have cz0 := (bA).frozen 0
 have cz1 := (bA).frozen 1
 have cz2 := (bA).frozen 2
 have cz3 := (bA).frozen 3
 go_wp2_with fail
 refine (H1.out _).mono ?_
 rintro e w1 ⟨rfl, r1⟩
 have ACC := qh (acc.trans r1)
 clear c0 c1 c2 c3 cz0 cz1 cz2 cz3 bA acc r1 H1
 go_wp2_with fail
 refine (H2.out _).mono ?_
 rintro e w2 ⟨rfl, k2⟩
 have A2 := qh ((ACC.out.alloc _).trans k2)
 clear k2
 go_wp2_with fail
 refine (H3.out _).mono ?_
 rintro e w3 ⟨rfl, rfl⟩
 go_wp2_with fail
 refine (H4.out _).mono ?_
 rintro e w4 ⟨rfl, k4⟩
 go_wp2_with fail
 go_ret3
 exact ⟨by rw [← HSY.out]; rfl, A2.out.trans k4⟩
def readSymP (l : List UInt8) : FaceD × Nat × Int :=
 match headP symKind l with
 | none => (noFace, 0, 7)
 | some (k, s) => if (decFaceP s).2 ≠ 0 then (noFace, 0, 7) else if k ≠ keyL s then (noFace, 0, 210) else ((decFaceP s).1, k, 0)
def RSymR (q : FaceD × Nat × Int) (w : World) (e : Ending) (w' : World) : Prop :=
 ∃ vu vt vi, e = .returned (.tuple #[q.1.val vu vt vi, .int .u64 (q.2.1 : Int), .int .i64 q.2.2]) ∧ Wr [] w w' ∧ FaceL w' (fun b => w.heap.size ≤ b) vu vt vi q.1
theorem noFaceL (w : World) (P : Nat → Prop) : FaceL w P (.slice none 0 0) (.slice none 0 0) (.slice none 0 0) noFace := by
 refine ⟨Sl.nil _ _ _, ?_, Sl.nil _ _ _⟩
 exact ⟨[], Sl.nil _ _ _, by simp, fun i t h => by simp [noFace] at h⟩
theorem zero_sym {w w' : World} {n : Int} (h : Wr [] w w') : RSymR (noFace, 0, n) w (.returned (.tuple #[.agg #[.string ⟨#[]⟩, .slice none 0 0, .slice none 0 0, .slice none 0 0], .int .u64 0, .int .i64 n])) w' := ⟨_, _, _, rfl, h, noFaceL _ _⟩
theorem wr_set4 (w : World) (z : Nat) (u0 u1 u2 u3 : Value) : Wr [z] w ((((w.setCell ⟨z, 0, none⟩ u0).setCell ⟨z, 1, none⟩ u1).setCell ⟨z, 2, none⟩ u2).setCell ⟨z, 3, none⟩ u3) :=
 ((((Wr.refl [z] w).setOn (by simp) _).setOn (by simp) _).setOn (by simp) _).setOn (by simp) _
theorem blk_set4 {w : World} {z : Nat} {T : TypeId} {x0 x1 x2 x3 : Value} (h : Blk w z T #[x0, x1, x2, x3]) (u0 u1 u2 u3 : Value) : Blk ((((w.setCell ⟨z, 0, none⟩ u0).setCell ⟨z, 1, none⟩ u1).setCell ⟨z, 2, none⟩ u2).setCell ⟨z, 3, none⟩ u3) z T #[u0, u1, u2, u3] := by
 have := (((h.set_ 0 u0).set_ 1 u1).set_ 2 u2).set_ 3 u3
 simpa using this
theorem rsym_head (l : List UInt8) (hl : l.length ≤ maxLen) (h : headP symKind l = none) (w : World) :
  Calls Tryz.prog 23 #[.string (ansS l)] w (RSymR (noFace, 0, 7) w) := by
 have HBD := qh (fun w => body_no symKind l hl h w)
 have zn := Blk.new w 55 #[.string ⟨#[]⟩, .slice none 0 0, .slice none 0 0, .slice none 0 0]
 have rn := (Wr.refl [] w).alloc (.cells #[.string ⟨#[]⟩, .slice none 0 0, .slice none 0 0, .slice none 0 0] 55)
 obtain ⟨wn, hwn⟩ : ∃ q, w.alloc (.cells #[.string ⟨#[]⟩, .slice none 0 0, .slice none 0 0, .slice none 0 0] 55) = q := ⟨_, rfl⟩
 obtain ⟨z, hz⟩ : ∃ q, w.heap.size = q := ⟨_, rfl⟩
 rw [hwn] at zn rn
 rw [hz] at zn
 have hwz : w.heap.size ≤ z := by omega
 have HWN := qh hwn
 have HZ := qh hz
 have RN := qh rn
 have ZN := qh zn
 clear hwn hz rn zn
 clear h
 go_enter Tryz.func23, Tryz.ntmps23
 go_upto_region 1 with (fail)
 rw [HZ.out, HWN.out]
 go_wp2_with fail
 refine (HBD.out _).mono ?_
 rintro e w1 ⟨rfl, k1⟩
 have z1 := ZN.out.wr0 k1
 have y0 := (z1).cell 0
 have y1 := (z1).cell 1
 have y2 := (z1).cell 2
 have y3 := (z1).cell 3
 simp only [qgaq, qgzq, qgsq] at y0 y1 y2 y3
 have f0 := (z1).frozen 0
 have f1 := (z1).frozen 1
 have f2 := (z1).frozen 2
 have f3 := (z1).frozen 3
 have Z1 := qh z1
 have K1 := qh k1
 clear z1 k1
 go_wp2_with fail
 refine bodyPost_ret (v := .tuple #[.agg #[.string ⟨#[]⟩, .slice none 0 0, .slice none 0 0, .slice none 0 0], .int .u64 0, .int .i64 7]) ?_ rfl ?_
 ·have h9 := blk_set4 Z1.out (.string ⟨#[]⟩) (.slice none 0 0) (.slice none 0 0) (.slice none 0 0)
  have t0 := (h9).cell 0
  have t1 := (h9).cell 1
  have t2 := (h9).cell 2
  have t3 := (h9).cell 3
  simp only [qgaq, qgzq, qgsq] at t0 t1 t2 t3
  simp [results, Tryz.results23, go_sem, t0, t1, t2, t3]
 ·exact zero_sym (wr_own2 ((RN.out.trans K1.out).nil (l := [z])) (wr_set4 _ z _ _ _ _) hwz hwz)
theorem rsym_dec (l : List UInt8) (hl : l.length ≤ maxLen) (k : Nat) (s : List UInt8) (h : headP symKind l = some (k, s)) (hd : (decFaceP s).2 ≠ 0) (w : World) :
  Calls Tryz.prog 23 #[.string (ansS l)] w (RSymR (noFace, 0, 7) w) := by
 have HBD := qh (fun w => body_yes symKind l hl k s h w)
 have hdec := fun w => decode_any (ansS s) w
 unfold DecodeR at hdec
 rw [show (ansS s).data.toList = s from rfl] at hdec
 obtain ⟨df, hdf⟩ : ∃ q, decFaceP s = q := ⟨_, rfl⟩
 obtain ⟨fc, de⟩ := df
 rw [hdf] at hdec hd
 simp only at hdec hd
 have HDE := qh hdec
 have HDF := qh hdf
 clear hdec hdf
 have zn := Blk.new w 55 #[.string ⟨#[]⟩, .slice none 0 0, .slice none 0 0, .slice none 0 0]
 have rn := (Wr.refl [] w).alloc (.cells #[.string ⟨#[]⟩, .slice none 0 0, .slice none 0 0, .slice none 0 0] 55)
 obtain ⟨wn, hwn⟩ : ∃ q, w.alloc (.cells #[.string ⟨#[]⟩, .slice none 0 0, .slice none 0 0, .slice none 0 0] 55) = q := ⟨_, rfl⟩
 obtain ⟨z, hz⟩ : ∃ q, w.heap.size = q := ⟨_, rfl⟩
 rw [hwn] at zn rn
 rw [hz] at zn
 have hwz : w.heap.size ≤ z := by omega
 have HWN := qh hwn
 have HZ := qh hz
 have RN := qh rn
 have ZN := qh zn
 clear hwn hz rn zn
 clear h
 go_enter Tryz.func23, Tryz.ntmps23
 go_upto_region 1 with (fail)
 rw [HZ.out, HWN.out]
 go_wp2_with fail
 refine (HBD.out _).mono ?_
 rintro e w1 ⟨rfl, k1⟩
 go_wp2_with fail
 refine (HDE.out _).mono ?_
 rintro e w2 ⟨vu, vt, vi, rfl, k2, fl⟩
 obtain ⟨⟨B1, b1, rfl, _, _⟩, ⟨B2, b2, rfl, _, _⟩, ⟨B3, b3, rfl, _, _⟩⟩ := fl.forms
 simp only [FaceD.val]
 have z2 := (ZN.out.wr0 k1).wr0 k2
 have bf := Blk.new w2 55 #[.string fc.module, .slice B1 fc.uses.length b1, .slice B2 fc.types.length b2, .slice B3 fc.items.length b3]
 have k3 := (Wr.refl [] w2).alloc (.cells #[.string fc.module, .slice B1 fc.uses.length b1, .slice B2 fc.types.length b2, .slice B3 fc.items.length b3] 55)
 have zlt := z2.lt
 have z3 := z2.wr0 k3
 have fl3 := fl.wr0 k3
 have hfl : ∀ x, w1.heap.size ≤ x → z < x := fun x hx => by have := (ZN.out.wr0 k1).lt; omega
 have rr := ((RN.out.trans k1).trans k2).trans k3
 go_upto_region 5 with (fail)
 generalize w2.alloc (.cells #[.string fc.module, .slice B1 fc.uses.length b1, .slice B2 fc.types.length b2, .slice B3 fc.items.length b3] 55) = w3 at *
 have hne : z ≠ w2.heap.size := by omega
 generalize w2.heap.size = gf at *
 have y0 := (z3).cell 0
 have y1 := (z3).cell 1
 have y2 := (z3).cell 2
 have y3 := (z3).cell 3
 simp only [qgaq, qgzq, qgsq] at y0 y1 y2 y3
 have f0 := (z3).frozen 0
 have f1 := (z3).frozen 1
 have f2 := (z3).frozen 2
 have f3 := (z3).frozen 3
 have m0 := (bf).cell 0
 have m1 := (bf).cell 1
 have m2 := (bf).cell 2
 have m3 := (bf).cell 3
 simp only [qgaq, qgzq, qgsq] at m0 m1 m2 m3
 have Z3 := qh z3
 have RR := qh rr
 have FL := qh fl3
 have HFL := qh hfl
 clear z2 z3 k1 k2 k3 bf fl fl3 rr zlt hfl
 go_wp2_with fail
 refine bodyPost_ret (v := .tuple #[.agg #[.string ⟨#[]⟩, .slice none 0 0, .slice none 0 0, .slice none 0 0], .int .u64 0, .int .i64 7]) ?_ rfl ?_
 ·have h9 := blk_set4 Z3.out (.string ⟨#[]⟩) (.slice none 0 0) (.slice none 0 0) (.slice none 0 0)
  have t0 := (h9).cell 0
  have t1 := (h9).cell 1
  have t2 := (h9).cell 2
  have t3 := (h9).cell 3
  simp only [qgaq, qgzq, qgsq] at t0 t1 t2 t3
  simp [results, Tryz.results23, go_sem, t0, t1, t2, t3]
 ·exact zero_sym (wr_own2 (RR.out.nil (l := [z])) (wr_set4 _ z _ _ _ _) hwz hwz)
theorem rsym_key (l : List UInt8) (hl : l.length ≤ maxLen) (k : Nat) (s : List UInt8) (h : headP symKind l = some (k, s)) (hd : (decFaceP s).2 = 0) (hk : k ≠ keyL s) (hs : s.length ≤ maxLen) (w : World) :
  Calls Tryz.prog 23 #[.string (ansS l)] w (RSymR (noFace, 0, 210) w) := by
 have HBD := qh (fun w => body_yes symKind l hl k s h w)
 have hof := fun w => of_any (ansS s) (by rw [ansS_size]; exact hs) w
 rw [show ofN (moreN 14695981039346656037 (natsOf (ansS s))) = keyL s from rfl] at hof
 have n1 : ¬ ((k : Int) = (keyL s : Int)) := by omega
 have n2 : ((k : Int) == (keyL s : Int)) = false := by simp only [beq_eq_false_iff_ne, ne_eq]; exact n1
 have n3 : ¬ (k = keyL s) := hk
 have n4 : (k == keyL s) = false := by simpa using hk
 have HOF0 := qh hof
 have hdec := fun w => decode_any (ansS s) w
 unfold DecodeR at hdec
 rw [show (ansS s).data.toList = s from rfl] at hdec
 obtain ⟨df, hdf⟩ : ∃ q, decFaceP s = q := ⟨_, rfl⟩
 obtain ⟨fc, de⟩ := df
 rw [hdf] at hdec hd
 simp only at hdec hd
 have HDE := qh hdec
 have HDF := qh hdf
 clear hdec hdf
 subst hd
 have hof := HOF0.out
 clear HOF0
 generalize keyL s = K at *
 have HOF := qh hof
 have zn := Blk.new w 55 #[.string ⟨#[]⟩, .slice none 0 0, .slice none 0 0, .slice none 0 0]
 have rn := (Wr.refl [] w).alloc (.cells #[.string ⟨#[]⟩, .slice none 0 0, .slice none 0 0, .slice none 0 0] 55)
 obtain ⟨wn, hwn⟩ : ∃ q, w.alloc (.cells #[.string ⟨#[]⟩, .slice none 0 0, .slice none 0 0, .slice none 0 0] 55) = q := ⟨_, rfl⟩
 obtain ⟨z, hz⟩ : ∃ q, w.heap.size = q := ⟨_, rfl⟩
 rw [hwn] at zn rn
 rw [hz] at zn
 have hwz : w.heap.size ≤ z := by omega
 have HWN := qh hwn
 have HZ := qh hz
 have RN := qh rn
 have ZN := qh zn
 clear hwn hz rn zn
 clear h hof hk
 go_enter Tryz.func23, Tryz.ntmps23
 go_upto_region 1 with (fail)
 rw [HZ.out, HWN.out]
 go_wp2_with fail
 refine (HBD.out _).mono ?_
 rintro e w1 ⟨rfl, k1⟩
 go_wp2_with fail
 refine (HDE.out _).mono ?_
 rintro e w2 ⟨vu, vt, vi, rfl, k2, fl⟩
 obtain ⟨⟨B1, b1, rfl, _, _⟩, ⟨B2, b2, rfl, _, _⟩, ⟨B3, b3, rfl, _, _⟩⟩ := fl.forms
 simp only [FaceD.val]
 have z2 := (ZN.out.wr0 k1).wr0 k2
 have bf := Blk.new w2 55 #[.string fc.module, .slice B1 fc.uses.length b1, .slice B2 fc.types.length b2, .slice B3 fc.items.length b3]
 have k3 := (Wr.refl [] w2).alloc (.cells #[.string fc.module, .slice B1 fc.uses.length b1, .slice B2 fc.types.length b2, .slice B3 fc.items.length b3] 55)
 have zlt := z2.lt
 have z3 := z2.wr0 k3
 have fl3 := fl.wr0 k3
 have hfl : ∀ x, w1.heap.size ≤ x → z < x := fun x hx => by have := (ZN.out.wr0 k1).lt; omega
 have rr := ((RN.out.trans k1).trans k2).trans k3
 go_upto_region 5 with (fail)
 generalize w2.alloc (.cells #[.string fc.module, .slice B1 fc.uses.length b1, .slice B2 fc.types.length b2, .slice B3 fc.items.length b3] 55) = w3 at *
 have hne : z ≠ w2.heap.size := by omega
 generalize w2.heap.size = gf at *
 have y0 := (z3).cell 0
 have y1 := (z3).cell 1
 have y2 := (z3).cell 2
 have y3 := (z3).cell 3
 simp only [qgaq, qgzq, qgsq] at y0 y1 y2 y3
 have f0 := (z3).frozen 0
 have f1 := (z3).frozen 1
 have f2 := (z3).frozen 2
 have f3 := (z3).frozen 3
 have m0 := (bf).cell 0
 have m1 := (bf).cell 1
 have m2 := (bf).cell 2
 have m3 := (bf).cell 3
 simp only [qgaq, qgzq, qgsq] at m0 m1 m2 m3
 have Z3 := qh z3
 have RR := qh rr
 have FL := qh fl3
 have HFL := qh hfl
 clear z2 z3 k1 k2 k3 bf fl fl3 rr zlt hfl
 go_wp2_with fail
 refine (HOF.out _).mono ?_
 rintro e w4 ⟨rfl, rfl⟩
 go_wp2_with fail
 refine bodyPost_ret (v := .tuple #[.agg #[.string ⟨#[]⟩, .slice none 0 0, .slice none 0 0, .slice none 0 0], .int .u64 0, .int .i64 210]) ?_ rfl ?_
 ·have h9 := blk_set4 Z3.out (.string ⟨#[]⟩) (.slice none 0 0) (.slice none 0 0) (.slice none 0 0)
  have t0 := (h9).cell 0
  have t1 := (h9).cell 1
  have t2 := (h9).cell 2
  have t3 := (h9).cell 3
  simp only [qgaq, qgzq, qgsq] at t0 t1 t2 t3
  simp [results, Tryz.results23, go_sem, t0, t1, t2, t3]
 ·exact zero_sym (wr_own2 (RR.out.nil (l := [z])) (wr_set4 _ z _ _ _ _) hwz hwz)
theorem rsym_yes (l : List UInt8) (hl : l.length ≤ maxLen) (s : List UInt8) (h : headP symKind l = some (keyL s, s)) (hd : (decFaceP s).2 = 0) (hs : s.length ≤ maxLen) (w : World) :
  Calls Tryz.prog 23 #[.string (ansS l)] w (RSymR ((decFaceP s).1, keyL s, 0) w) := by
 have HBD := qh (fun w => body_yes symKind l hl (keyL s) s h w)
 have hof := fun w => of_any (ansS s) (by rw [ansS_size]; exact hs) w
 rw [show ofN (moreN 14695981039346656037 (natsOf (ansS s))) = keyL s from rfl] at hof
 have HOF0 := qh hof
 have hdec := fun w => decode_any (ansS s) w
 unfold DecodeR at hdec
 rw [show (ansS s).data.toList = s from rfl] at hdec
 obtain ⟨df, hdf⟩ : ∃ q, decFaceP s = q := ⟨_, rfl⟩
 obtain ⟨fc, de⟩ := df
 rw [hdf] at hdec hd ⊢
 simp only at hdec hd ⊢
 have HDE := qh hdec
 have HDF := qh hdf
 clear hdec hdf
 subst hd
 have hof := HOF0.out
 clear HOF0
 generalize keyL s = K at *
 have HOF := qh hof
 have zn := Blk.new w 55 #[.string ⟨#[]⟩, .slice none 0 0, .slice none 0 0, .slice none 0 0]
 have rn := (Wr.refl [] w).alloc (.cells #[.string ⟨#[]⟩, .slice none 0 0, .slice none 0 0, .slice none 0 0] 55)
 obtain ⟨wn, hwn⟩ : ∃ q, w.alloc (.cells #[.string ⟨#[]⟩, .slice none 0 0, .slice none 0 0, .slice none 0 0] 55) = q := ⟨_, rfl⟩
 obtain ⟨z, hz⟩ : ∃ q, w.heap.size = q := ⟨_, rfl⟩
 rw [hwn] at zn rn
 rw [hz] at zn
 have hwz : w.heap.size ≤ z := by omega
 have HWN := qh hwn
 have HZ := qh hz
 have RN := qh rn
 have ZN := qh zn
 clear hwn hz rn zn
 clear h hof
 go_enter Tryz.func23, Tryz.ntmps23
 go_upto_region 1 with (fail)
 rw [HZ.out, HWN.out]
 go_wp2_with fail
 refine (HBD.out _).mono ?_
 rintro e w1 ⟨rfl, k1⟩
 go_wp2_with fail
 refine (HDE.out _).mono ?_
 rintro e w2 ⟨vu, vt, vi, rfl, k2, fl⟩
 obtain ⟨⟨B1, b1, rfl, _, _⟩, ⟨B2, b2, rfl, _, _⟩, ⟨B3, b3, rfl, _, _⟩⟩ := fl.forms
 simp only [FaceD.val]
 have z2 := (ZN.out.wr0 k1).wr0 k2
 have bf := Blk.new w2 55 #[.string fc.module, .slice B1 fc.uses.length b1, .slice B2 fc.types.length b2, .slice B3 fc.items.length b3]
 have k3 := (Wr.refl [] w2).alloc (.cells #[.string fc.module, .slice B1 fc.uses.length b1, .slice B2 fc.types.length b2, .slice B3 fc.items.length b3] 55)
 have zlt := z2.lt
 have z3 := z2.wr0 k3
 have fl3 := fl.wr0 k3
 have hfl : ∀ x, w1.heap.size ≤ x → z < x := fun x hx => by have := (ZN.out.wr0 k1).lt; omega
 have rr := ((RN.out.trans k1).trans k2).trans k3
 go_upto_region 5 with (fail)
 generalize w2.alloc (.cells #[.string fc.module, .slice B1 fc.uses.length b1, .slice B2 fc.types.length b2, .slice B3 fc.items.length b3] 55) = w3 at *
 have hne : z ≠ w2.heap.size := by omega
 generalize w2.heap.size = gf at *
 have y0 := (z3).cell 0
 have y1 := (z3).cell 1
 have y2 := (z3).cell 2
 have y3 := (z3).cell 3
 simp only [qgaq, qgzq, qgsq] at y0 y1 y2 y3
 have f0 := (z3).frozen 0
 have f1 := (z3).frozen 1
 have f2 := (z3).frozen 2
 have f3 := (z3).frozen 3
 have m0 := (bf).cell 0
 have m1 := (bf).cell 1
 have m2 := (bf).cell 2
 have m3 := (bf).cell 3
 simp only [qgaq, qgzq, qgsq] at m0 m1 m2 m3
 have Z3 := qh z3
 have RR := qh rr
 have FL := qh fl3
 have HFL := qh hfl
 clear z2 z3 k1 k2 k3 bf fl fl3 rr zlt hfl
 go_wp2_with fail
 refine (HOF.out _).mono ?_
 rintro e w4 ⟨rfl, rfl⟩
 go_wp2_with fail
 refine bodyPost_ret (v := .tuple #[.agg #[.string fc.module, .slice B1 fc.uses.length b1, .slice B2 fc.types.length b2, .slice B3 fc.items.length b3], .int .u64 (K : Int), .int .i64 0]) ?_ rfl ?_
 ·have h9 := blk_set4 Z3.out (.string fc.module) (.slice B1 fc.uses.length b1) (.slice B2 fc.types.length b2) (.slice B3 fc.items.length b3)
  have t0 := (h9).cell 0
  have t1 := (h9).cell 1
  have t2 := (h9).cell 2
  have t3 := (h9).cell 3
  simp only [qgaq, qgzq, qgsq] at t0 t1 t2 t3
  simp [results, Tryz.results23, go_sem, t0, t1, t2, t3]
 ·refine ⟨_, _, _, rfl, wr_own2 (RR.out.nil (l := [z])) (wr_set4 _ z _ _ _ _) hwz hwz, ?_⟩
  have kz := wr_set4 w3 z (.string fc.module) (.slice B1 fc.uses.length b1) (.slice B2 fc.types.length b2) (.slice B3 fc.items.length b3)
  exact (FL.out.keep kz (fun x hx => by have := HFL.out x hx; rw [List.mem_singleton]; omega)).into (fun x hx _ => by have := HFL.out x hx; omega)
theorem rsym_any (l : List UInt8) (hl : l.length ≤ maxLen) (w : World) : Calls Tryz.prog 23 #[.string (ansS l)] w (RSymR (readSymP l) w) := by
 cases hh : headP symKind l with
 | none =>
  have e : readSymP l = (noFace, 0, 7) := by unfold readSymP; rw [hh]
  rw [e]
  exact rsym_head l hl hh w
 | some p =>
  obtain ⟨k, s⟩ := p
  have hs : s.length ≤ maxLen := by rw [head_rest hh, List.length_drop]; omega
  by_cases hd : (decFaceP s).2 = 0
  ·by_cases hk : k = keyL s
   ·subst hk
    have e : readSymP l = ((decFaceP s).1, keyL s, 0) := by unfold readSymP; rw [hh]; simp [hd]
    rw [e]
    exact rsym_yes l hl s hh hd hs w
   ·have e : readSymP l = (noFace, 0, 210) := by unfold readSymP; rw [hh]; simp [hd, hk]
    rw [e]
    exact rsym_key l hl k s hh hd hk hs w
  ·have e : readSymP l = (noFace, 0, 7) := by unfold readSymP; rw [hh]; simp [hd]
   rw [e]
   exact rsym_dec l hl k s hh hd w
end Go.Proofs.YtildcdgobdfieaaGreat
