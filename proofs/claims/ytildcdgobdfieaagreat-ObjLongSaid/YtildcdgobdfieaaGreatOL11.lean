/- obj's reader: raw, number, two, one, word, text, truth: walked. Conditions: numbers of at most eight bytes. -/
import Derived.Test.YtildcdgobdfieaaGreatOL01
import Derived.Test.YtildcdgobdfieaaGreatOL02
import Derived.Test.YtildcdgobdfieaaGreatOL10
import Derived.Laws.Bits64b
import Derived.Laws.IdiomStrings
import Derived.Deep.Cut
import Derived.Deep.DeepCutAuto
namespace Go.Proofs.YtildcdgobdfieaaGreat
open Go.RowKit
set_option linter.unusedVariables false
set_option linter.unusedSimpArgs false
def RdO (w : World) (b : Nat) (r : Rd) : Prop := Blk w b 109 #[.string ⟨r.s.toArray⟩, .bool r.bad]
theorem RdO.lt {w : World} {b : Nat} {r : Rd} (h : RdO w b r) : b < w.heap.size := Blk.lt h
def ansS (l : List UInt8) : ByteArray := ⟨l.toArray⟩
theorem ansS_size (l : List UInt8) : (ansS l).size = l.length := by
 show l.toArray.size = _
 simp
theorem or_stepO (n c : Nat) (hn : n < 72057594037927936) (hc : c < 256) : bits .or .u64 (((256 * n : Nat) : Int)) (c : Int) = ((256 * n + c : Nat) : Int) := by
 rw [bits_or_u64_nat _ _ (by omega) (by omega)]
 congr 1
 rw [show 256 * n = n <<< 8 by rw [Nat.shiftLeft_eq]; omega]
 rw [← Nat.shiftLeft_add_eq_or_of_lt (show c < 2 ^ 8 from hc)]
theorem valN_lt (l : List UInt8) : valN l < 256 ^ l.length := (numL_valN l.length l rfl).2
theorem raw_len (r : Rd) (n : Nat) : (r.raw n).1.length ≤ n := by
 unfold Rd.raw
 split
 ·simp
 ·rw [List.length_take]; omega
theorem num_ltO {k : Nat} (hk : k ≤ 8) (r : Rd) : (r.num k).1 < 256 ^ k :=
 Nat.lt_of_lt_of_le (valN_lt _) (Nat.pow_le_pow_right (by decide) (raw_len r k))
set_option maxRecDepth 100000 in
set_option maxHeartbeats 4000000 in
theorem raw_o (b n : Nat) (r : Rd) (hn : n ≤ 1000000) (w : World) (hb : RdO w b r) :
  Calls Tryz.prog 82 #[.pointer (some ⟨b, 0, none⟩), .int .i64 (n : Int)] w fun e w' => e = .returned (.string (ansS (r.raw n).1)) ∧ Wr [b] w w' ∧ RdO w' b (r.raw n).2 := by
 obtain ⟨l, bad⟩ := r
 obtain ⟨S, hS⟩ : ∃ S : ByteArray, ⟨l.toArray⟩ = S := ⟨_, rfl⟩
 have hsz : S.size = l.length := by rw [← hS]; show l.toArray.size = _; simp
 have hb' : Blk w b 109 #[.string S, .bool bad] := by rw [← hS]; exact hb
 have c0 := hb'.cell 0
 have c1 := hb'.cell 1
 simp only [qgaq, qgzq, qgsq] at c0 c1
 have z0 := hb'.frozen 0
 have z1 := hb'.frozen 1
 cases bad with
 | true =>
  have hr : (Rd.mk l true).raw n = ([], ⟨l, true⟩) := by unfold Rd.raw; simp
  rw [hr]
  have HB := Lib.hid hb'
  clear hb hb' hr
  go_enter Tryz.func82, Tryz.ntmps82
  go_wp2_with fail
  go_ret
  exact ⟨rfl, (Wr.refl _ _).setOn (by simp) _, by have := HB.out.set_ 1 (.bool true); rw [← hS] at this; exact this⟩
 | false =>
  by_cases hlt : l.length < n
  ·have hr : (Rd.mk l false).raw n = ([], ⟨l, true⟩) := by unfold Rd.raw; simp [hlt]
   rw [hr]
   have HB := Lib.hid hb'
   have e0 : decide ((n : Int) > (S.size : Int)) = true := decide_eq_true (by omega)
   have e1 : decide (S.size < n) = true := decide_eq_true (by omega)
   clear hb hb' hr
   go_enter Tryz.func82, Tryz.ntmps82
   go_wp2_with fail
   go_ret
   exact ⟨rfl, (Wr.refl _ _).setOn (by simp) _, by have := HB.out.set_ 1 (.bool true); rw [← hS] at this; exact this⟩
  ·have hr : (Rd.mk l false).raw n = (l.take n, ⟨l.drop n, false⟩) := by unfold Rd.raw; simp [hlt]
   rw [hr]
   have HB := Lib.hid hb'
   have e0 : decide ((n : Int) > (S.size : Int)) = false := decide_eq_false (by omega)
   have e1 : decide (S.size < n) = false := decide_eq_false (by omega)
   have n0 : (0 : Int) ≤ (n : Int) := by omega
   have n1 : (n : Int) ≤ (S.size : Int) := by omega
   have hT : S.extract 0 n = ansS (l.take n) := by
    rw [← hS]
    apply ByteArray.ext
    rw [ByteArray.data_extract]
    simp [ansS]
   have hD : S.extract n S.size = ansS (l.drop n) := by
    rw [← hS]
    apply ByteArray.ext
    rw [ByteArray.data_extract]
    simp [ansS]
    exact List.take_of_length_le (by rw [List.length_drop]; show l.length - n ≤ l.toArray.size - n; simp)
   have HT := Lib.hid hT
   have HD := Lib.hid hD
   clear hb hb' hr hlt hT hD hsz
   go_enter Tryz.func82, Tryz.ntmps82
   go_wp2_with fail
   go_ret
   refine ⟨by rw [HT.out]; rfl, ((Wr.refl _ _).setOn (by simp) _).setOn (by simp) _, ?_⟩
   have := (HB.out.set_ 1 (.bool false)).set_ 0 (.string (S.extract n S.size))
   rw [HD.out] at this ⊢
   exact this
set_option maxRecDepth 100000 in
set_option maxHeartbeats 4000000 in
theorem number_o (b size : Nat) (r : Rd) (hs : size ≤ 8) (w : World) (hb : RdO w b r) :
  Calls Tryz.prog 57 #[.pointer (some ⟨b, 0, none⟩), .int .i64 (size : Int)] w fun e w' => e = .returned (.int .u64 ((r.num size).1 : Int)) ∧ Wr [b] w w' ∧ RdO w' b (r.num size).2 := by
 have h := raw_o b size r (by omega) w hb
 unfold Rd.num
 have hlen := raw_len r size
 generalize r.raw size = rr at *
 obtain ⟨T, r'⟩ := rr
 simp only at h hlen ⊢
 have hTs := ansS_size T
 have H := Lib.hid h
 clear h hb
 go_enter Tryz.func57, Tryz.ntmps57
 go_wp2_with fail
 refine H.out.mono ?_
 rintro e w1 ⟨rfl, r1, b1⟩
 have hconv := run_bytes_of_string (P := Tryz.prog) w1 9 42 5 (ansS T) Tryz.underlying9 Tryz.underlying42 Tryz.underlying5
 obtain ⟨cap, hcap⟩ : ∃ cap, grownCap w1 (ansS T).size 0 5 = cap := ⟨_, rfl⟩
 rw [hcap] at hconv
 obtain ⟨w2, hw2⟩ : ∃ q, (w1.drew.alloc (.cells (bytesRow (ansS T) cap) 5 ((bytesRow (ansS T) cap).size, (bytesRow (ansS T) cap).size + 1))) = q := ⟨_, rfl⟩
 rw [hw2] at hconv
 obtain ⟨g, hg⟩ : ∃ q, w1.heap.size = q := ⟨_, rfl⟩
 have hcell : ∀ j (hj : j < (ansS T).data.size), w2.cell? ⟨g, j, none⟩ = some (.int .u8 (((ansS T).data[j]'hj).toNat : Int)) := fun j hj => by
  rw [← hw2, ← hg]
  exact (World.cell?_alloc_mark w1.drew _ _ _ j).trans (bytesRow_at (ansS T) cap j hj)
 rw [hg, hTs] at hconv
 have r2 : Wr [] w1 w2 := by rw [← hw2]; exact ((Wr.refl [] w1).drew).alloc _
 have b2 := Blk.wr0 b1 r2
 have acc : Wr [b] w w2 := r1.trans r2.nil
 obtain ⟨S, hS⟩ : ∃ q, ansS T = q := ⟨_, rfl⟩
 have hcell2 : ∀ j (hj : j < T.length), w2.cell? ⟨g, j, none⟩ = some (.int .u8 ((T[j]'hj).toNat : Int)) := fun j hj => by
  have := hcell j (by show j < (ansS T).size; rw [hTs]; exact hj)
  exact this
 rw [hS] at hconv
 have HCELL := Lib.hid hcell2
 have B2 := Lib.hid b2
 have ACC := Lib.hid acc
 have HLEN : T.length ≤ 8 := by omega
 rw [hS]
 clear hcell hcell2 r1 b1 hTs hcap hw2 hg r2 b2 acc hS hlen
 go_wp2_with fail
 clear hconv
 go_loop [4, 12] (fun v i => ∃ k : Nat, k ≤ T.length ∧ i = .int .i64 k ∧ v = .int .u64 ((valN (T.take k) : Nat) : Int)) (fun _ i => T.length - (intOf i).toNat)
 case atStart => exact ⟨0, by omega, rfl, rfl⟩
 case round =>
  obtain ⟨k, hk, rfl, rfl⟩ := hrel
  by_cases hkl : k < T.length
  ·have hi0 : (0 : Int) ≤ (k : Int) := by omega
   have hi1 : (k : Int) < (T.length : Int) := by omega
   have hc := HCELL.out k hkl
   have hv : valN (T.take (k + 1)) = 256 * valN (T.take k) + (T[k]'hkl).toNat := by
    rw [List.take_succ_eq_append_getElem hkl, valN_snoc]
   have hn : valN (T.take k) < 72057594037927936 := by
    have h1 := valN_lt (T.take k)
    have h2 : 256 ^ (T.take k).length ≤ 256 ^ 7 := Nat.pow_le_pow_right (by decide) (by rw [List.length_take]; omega)
    have h3 : (256 : Nat) ^ 7 = 72057594037927936 := by decide
    omega
   have hor := or_stepO _ _ hn (T[k]'hkl).toNat_lt
   rw [← hv] at hor
   have hcw : IntKind.u64.wrap (((T[k]'hkl).toNat : Nat) : Int) = (((T[k]'hkl).toNat : Nat) : Int) := by have := (T[k]'hkl).toNat_lt; rw [IntKind.wrap_u64]; omega
   generalize (T[k]'hkl).toNat = c at *
   obtain ⟨N2, hN2⟩ : ∃ q, valN (T.take (k + 1)) = q := ⟨_, rfl⟩
   rw [hN2] at hor hv
   have HN2 := Lib.hid hN2
   clear hN2
   generalize valN (T.take k) = N1 at *
   rw [show ((256 * N1 : Nat) : Int) = (N1 : Int) * 256 by omega] at hor
   go_wp2_with fail
   refine ⟨⟨k + 1, by omega, by push_cast; rfl, ?_⟩, by simp only [intOf]; omega⟩
   rw [HN2.out]
   congr 1
   omega
  ·obtain rfl : k = T.length := by omega
   rw [List.take_length]
   go_wp2_with fail
   go_ret
   exact ⟨rfl, ACC.out, B2.out⟩
set_option maxHeartbeats 1000000 in
theorem two_o (b : Nat) (r : Rd) (w : World) (hb : RdO w b r) :
  Calls Tryz.prog 83 #[.pointer (some ⟨b, 0, none⟩)] w fun e w' => e = .returned (.int .i64 r.two.1) ∧ Wr [b] w w' ∧ RdO w' b r.two.2 := by
 have h := number_o b 2 r (by decide) w hb
 have hl := num_ltO (k := 2) (by omega) r
 unfold Rd.two
 generalize r.num 2 = rr at *
 obtain ⟨v, r'⟩ := rr
 simp only at hl h ⊢
 have e1 : IntKind.i64.wrap (v : Int) = (v : Int) := by rw [IntKind.wrap_i64]; omega
 have e2 : wrap64 (v : Int) = (v : Int) := by unfold wrap64; omega
 have H := Lib.hid h
 clear hb h
 go_enter Tryz.func83, Tryz.ntmps83
 go_wp2_with fail
 refine H.out.mono ?_
 rintro e w1 ⟨rfl, r1, b1⟩
 go_wp2_with fail
 go_ret
 exact ⟨rfl, r1, b1⟩
set_option maxHeartbeats 1000000 in
theorem one_o (b : Nat) (r : Rd) (w : World) (hb : RdO w b r) :
  Calls Tryz.prog 59 #[.pointer (some ⟨b, 0, none⟩)] w fun e w' => e = .returned (.int .i64 r.one.1) ∧ Wr [b] w w' ∧ RdO w' b r.one.2 := by
 have h := number_o b 1 r (by decide) w hb
 have hl := num_ltO (k := 1) (by omega) r
 unfold Rd.one
 generalize r.num 1 = rr at *
 obtain ⟨v, r'⟩ := rr
 simp only at hl h ⊢
 have e1 : IntKind.i64.wrap (v : Int) = (v : Int) := by rw [IntKind.wrap_i64]; omega
 have e2 : wrap64 (v : Int) = (v : Int) := by unfold wrap64; omega
 have H := Lib.hid h
 clear hb h
 go_enter Tryz.func59, Tryz.ntmps59
 go_wp2_with fail
 refine H.out.mono ?_
 rintro e w1 ⟨rfl, r1, b1⟩
 go_wp2_with fail
 go_ret
 exact ⟨rfl, r1, b1⟩
set_option maxHeartbeats 1000000 in
theorem word_o (b : Nat) (r : Rd) (w : World) (hb : RdO w b r) :
  Calls Tryz.prog 88 #[.pointer (some ⟨b, 0, none⟩)] w fun e w' => e = .returned (.int .u16 r.two.1) ∧ Wr [b] w w' ∧ RdO w' b r.two.2 := by
 have h := number_o b 2 r (by decide) w hb
 have hl := num_ltO (k := 2) (by omega) r
 unfold Rd.two
 generalize r.num 2 = rr at *
 obtain ⟨v, r'⟩ := rr
 simp only at hl h ⊢
 have e1 : IntKind.u16.wrap (v : Int) = (v : Int) := by rw [IntKind.wrap_u16]; omega
 have e2 : wrap64 (v : Int) = (v : Int) := by unfold wrap64; omega
 have H := Lib.hid h
 clear hb h
 go_enter Tryz.func88, Tryz.ntmps88
 go_wp2_with fail
 refine H.out.mono ?_
 rintro e w1 ⟨rfl, r1, b1⟩
 go_wp2_with fail
 go_ret
 exact ⟨rfl, r1, b1⟩
set_option maxHeartbeats 1000000 in
theorem text_o (b : Nat) (r : Rd) (w : World) (hb : RdO w b r) :
  Calls Tryz.prog 55 #[.pointer (some ⟨b, 0, none⟩)] w fun e w' => e = .returned (.string r.text.1) ∧ Wr [b] w w' ∧ RdO w' b r.text.2 := by
 have h := one_o b r w hb
 have hl := num_ltO (k := 1) (by omega) r
 unfold Rd.one at h
 unfold Rd.text
 generalize r.num 1 = rr at *
 obtain ⟨v, r'⟩ := rr
 simp only at hl h ⊢
 have h2 := fun W hW => raw_o b v r' (by omega) W hW
 generalize r'.raw v = qq at *
 obtain ⟨T, r''⟩ := qq
 simp only at h2 ⊢
 have H := Lib.hid h
 have H2 := Lib.hid h2
 clear hb h h2
 go_enter Tryz.func55, Tryz.ntmps55
 go_wp2_with fail
 refine H.out.mono ?_
 rintro e w1 ⟨rfl, r1, b1⟩
 have h3 := H2.out _ b1
 have H3 := Lib.hid h3
 clear h3
 go_wp2_with fail
 refine H3.out.mono ?_
 rintro e w2 ⟨rfl, r2, b2⟩
 go_wp2_with fail
 go_ret
 exact ⟨rfl, r1.trans r2, b2⟩
set_option maxHeartbeats 2000000 in
theorem truth_o (b : Nat) (r : Rd) (w : World) (hb : RdO w b r) :
  Calls Tryz.prog 56 #[.pointer (some ⟨b, 0, none⟩)] w fun e w' => e = .returned (.bool r.truth.1) ∧ Wr [b] w w' ∧ RdO w' b r.truth.2 := by
 have h := one_o b r w hb
 unfold Rd.one at h
 unfold Rd.truth
 generalize r.num 1 = rr at *
 obtain ⟨v, l, bad⟩ := rr
 simp only at h ⊢
 have e1 : ((v : Int) == 1) = decide (v = 1) := by rw [Bool.eq_iff_iff]; simp only [beq_iff_eq, decide_eq_true_eq]; omega
 have e2 : decide ((v : Int) > 1) = decide (1 < v) := decide_eq_decide.2 (by omega)
 obtain ⟨d1, hd1⟩ : ∃ q, decide (v = 1) = q := ⟨_, rfl⟩
 obtain ⟨d2, hd2⟩ : ∃ q, decide (1 < v) = q := ⟨_, rfl⟩
 rw [hd1] at e1
 rw [hd2] at e2
 rw [hd1, hd2]
 have H := Lib.hid h
 clear hb h
 cases bad with
 | true =>
  rw [Bool.true_or]
  clear hd1 hd2 e2
  go_enter Tryz.func56, Tryz.ntmps56
  go_wp2_with fail
  refine H.out.mono ?_
  rintro e w1 ⟨rfl, r1, b1⟩
  have c1 := Blk.cell b1 1
  have z1 := Blk.frozen b1 1
  simp only [qgaq, qgzq, qgsq] at c1
  have B1 := Lib.hid b1
  clear b1
  go_wp2_with fail
  go_ret
  exact ⟨rfl, r1.setOn (by simp) _, B1.out.set_ 1 _⟩
 | false =>
  rw [Bool.false_or]
  cases d2 with
  | true =>
   have e4 : 1 < v := of_decide_eq_true hd2
   clear hd1 hd2
   go_enter Tryz.func56, Tryz.ntmps56
   go_wp2_with fail
   refine H.out.mono ?_
   rintro e w1 ⟨rfl, r1, b1⟩
   have c1 := Blk.cell b1 1
   have z1 := Blk.frozen b1 1
   simp only [qgaq, qgzq, qgsq] at c1
   have B1 := Lib.hid b1
   clear b1
   go_wp2_with fail
   go_ret
   exact ⟨rfl, r1.setOn (by simp) _, B1.out.set_ 1 _⟩
  | false =>
   have e4 : ¬ 1 < v := of_decide_eq_false hd2
   clear hd1 hd2
   go_enter Tryz.func56, Tryz.ntmps56
   go_wp2_with fail
   refine H.out.mono ?_
   rintro e w1 ⟨rfl, r1, b1⟩
   have c1 := Blk.cell b1 1
   have z1 := Blk.frozen b1 1
   simp only [qgaq, qgzq, qgsq] at c1
   have B1 := Lib.hid b1
   clear b1
   go_wp2_with fail
   go_ret
   exact ⟨rfl, r1.setOn (by simp) _, B1.out.set_ 1 _⟩
end Go.Proofs.YtildcdgobdfieaaGreat
