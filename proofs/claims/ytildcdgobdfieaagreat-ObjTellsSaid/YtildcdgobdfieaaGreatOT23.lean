/- iface's walk, reading: so many bytes of a number: walked. Conditions: the walk reads. -/
import Derived.Test.YtildcdgobdfieaaGreatOT01
import Derived.Test.YtildcdgobdfieaaGreatOT17
import Derived.Test.YtildcdgobdfieaaGreatOT10
import Derived.Laws.Bits64b
import Derived.Laws.IdiomStrings
import Derived.Deep.Cut
import Derived.Deep.DeepCutAuto
import Derived.LoopN
import Derived.Test.YtildcdgobdfieaaGreatOT05
import Derived.Deep.RegionHeld3
set_option linter.unusedVariables false
set_option linter.unusedSimpArgs false
set_option maxRecDepth 100000
set_option maxHeartbeats 32000000
namespace Go.Proofs.YtildcdgobdfieaaGreat
open Go.RowKit
def WlkR (w : World) (b : Nat) (r : Rd) : Prop := Blk w b 160 #[.string ⟨r.s.toArray⟩, .bool true, .bool r.bad]
theorem or_step (n c : Nat) (hn : n < 72057594037927936) (hc : c < 256) : bits .or .u64 (((256 * n : Nat) : Int)) (c : Int) = ((256 * n + c : Nat) : Int) := by
 rw [bits_or_u64_nat _ _ (by omega) (by omega)]
 congr 1
 rw [show 256 * n = n <<< 8 by rw [Nat.shiftLeft_eq]; omega]
 rw [← Nat.shiftLeft_add_eq_or_of_lt (show c < 2 ^ 8 from hc)]
theorem bytes_r (b size : Nat) (n : Int) (r : Rd) (hs : size ≤ 8) (w : World) (hb : WlkR w b r) :
  Calls Tryz.prog 109 #[.pointer (some ⟨b, 0, none⟩), .int .u64 n, .int .i64 (size : Int)] w fun e w' => e = .returned (.int .u64 ((r.num size).1 : Int)) ∧ Wr [b] w w' ∧ WlkR w' b (r.num size).2 := by
 obtain ⟨l, bad⟩ := r
 obtain ⟨S, hS⟩ : ∃ S : ByteArray, ⟨l.toArray⟩ = S := ⟨_, rfl⟩
 have hsz : S.size = l.length := by rw [← hS]; show l.toArray.size = _; simp
 have hb' : Blk w b 160 #[.string S, .bool true, .bool bad] := by rw [← hS]; exact hb
 have c0 := hb'.cell 0
 have c1 := hb'.cell 1
 have c2 := hb'.cell 2
 simp only [qgaq, qgzq, qgsq] at c0 c1 c2
 have z0 := hb'.frozen 0
 have z2 := hb'.frozen 2
 cases bad with
 | true =>
  have hr : (Rd.mk l true).num size = (0, ⟨l, true⟩) := by unfold Rd.num Rd.raw; simp [valN]
  rw [hr]
  have HB := qh hb'
  clear hb hb' hr
  go_enter Tryz.func109, Tryz.ntmps109
  go_wp2_with fail
  go_ret
  exact ⟨rfl, (Wr.refl _ _).setOn (by simp) _, by have := HB.out.set_ 2 (.bool true); rw [← hS] at this; exact this⟩
 | false =>
  by_cases hlt : l.length < size
  ·have hr : (Rd.mk l false).num size = (0, ⟨l, true⟩) := by unfold Rd.num Rd.raw; simp [valN, hlt]
   rw [hr]
   have HB := qh hb'
   have e0 : (S.size : Int) < (size : Int) := by omega
   clear hb hb' hr
   go_enter Tryz.func109, Tryz.ntmps109
   go_wp2_with fail
   go_ret
   exact ⟨rfl, (Wr.refl _ _).setOn (by simp) _, by have := HB.out.set_ 2 (.bool true); rw [← hS] at this; exact this⟩
  ·have hr : (Rd.mk l false).num size = (valN (l.take size), ⟨l.drop size, false⟩) := by unfold Rd.num Rd.raw; simp [hlt]
   rw [hr]
   have HB := qh hb'
   have e0 : ¬ (S.size : Int) < (size : Int) := by omega
   clear hb hb' hr
   go_enter Tryz.func109, Tryz.ntmps109
   have htl : (l.take size).length = size := by rw [List.length_take]; omega
   obtain ⟨T, hT⟩ : ∃ T : ByteArray, S.extract 0 size = T := ⟨_, rfl⟩
   have hTe : T = ⟨(l.take size).toArray⟩ := by
    rw [← hT, ← hS]
    apply ByteArray.ext
    rw [ByteArray.data_extract]
    simp
   have hTs : T.size = size := by rw [hTe]; show (l.take size).toArray.size = _; rw [List.size_toArray, htl]
   obtain ⟨w1, hw1⟩ : ∃ q, w.setCell ⟨b, 2, none⟩ (.bool false) = q := ⟨_, rfl⟩
   have b1 : Blk w1 b 160 #[.string S, .bool true, .bool false] := by rw [← hw1]; exact HB.out.set_ 2 (.bool false)
   have r1 : Wr [b] w w1 := by rw [← hw1]; exact (Wr.refl _ _).setOn (by simp) _
   have hconv := run_bytes_of_string (P := Tryz.prog) w1 9 42 5 T Tryz.underlying9 Tryz.underlying42 Tryz.underlying5
   obtain ⟨cap, hcap⟩ : ∃ cap, grownCap w1 T.size 0 5 = cap := ⟨_, rfl⟩
   rw [hcap] at hconv
   obtain ⟨w2, hw2⟩ : ∃ q, (w1.drew.alloc (.cells (bytesRow T cap) 5 ((bytesRow T cap).size, (bytesRow T cap).size + 1))) = q := ⟨_, rfl⟩
   rw [hw2] at hconv
   obtain ⟨g, hg⟩ : ∃ q, w1.heap.size = q := ⟨_, rfl⟩
   have hcell : ∀ j (hj : j < T.data.size), w2.cell? ⟨g, j, none⟩ = some (.int .u8 ((T.data[j]'hj).toNat : Int)) := fun j hj => by
    rw [← hw2, ← hg]
    exact (World.cell?_alloc_mark w1.drew _ _ _ j).trans (bytesRow_at T cap j hj)
   rw [hg] at hconv
   have r2 : Wr [] w1 w2 := by rw [← hw2]; exact ((Wr.refl [] w1).drew).alloc _
   have b2 := b1.wr0 r2
   have acc : Wr [b] w w2 := r1.trans r2.nil
   have y0 := b1.cell 0
   have y2 := b1.cell 2
   simp only [qgaq, qgzq, qgsq] at y0 y2
   have x0 := b2.cell 0
   have x1 := b2.frozen 0
   simp only [qgaq, qgzq] at x0
   have hsl : S.extract size l.length = ⟨(l.drop size).toArray⟩ := by
    rw [← hS]
    apply ByteArray.ext
    rw [ByteArray.data_extract]
    simp
    exact List.take_of_length_le (by simp)
   rw [hTs] at hconv
   have B2 := qh b2
   have HCELL := qh hcell
   have HTE := qh hTe
   have HTS := qh hTs
   have HSL := qh hsl
   have ACC := qh acc
   clear hcell hTe b2 b1 r1 r2 hw2 hsl acc HB hTs hS
   go_upto_region 13 with (fail)
   clear c0 c1 c2 z0 z2 y0 y2 hconv hw1
   go_loop [1, 66] (fun v i => ∃ k : Nat, k ≤ size ∧ i = .int .i64 k ∧ v = .int .u64 ((valN (l.take k) : Nat) : Int)) (fun _ i => size - (intOf i).toNat)
   case atStart => exact ⟨0, by omega, rfl, rfl⟩
   case round =>
    obtain ⟨k, hk, rfl, rfl⟩ := hrel
    by_cases hkl : k < size
    ·have hi0 : (0 : Int) ≤ (k : Int) := by omega
     have hi1 : (k : Int) < (size : Int) := by omega
     have hkl2 : k < l.length := by omega
     have hkT : k < T.data.size := by have := HTS.out; show k < T.size; omega
     have hc := HCELL.out k hkT
     have hb : T.data[k]'hkT = l[k]'hkl2 := by
      have e := HTE.out
      have e2 : T.data[k]? = l[k]? := by
       rw [e, qgaq, List.getElem?_take_of_lt hkl]
      rw [Array.getElem?_eq_getElem hkT, List.getElem?_eq_getElem hkl2] at e2
      exact Option.some.inj e2
     rw [hb] at hc
     have hv : valN (l.take (k + 1)) = 256 * valN (l.take k) + (l[k]'hkl2).toNat := by
      rw [List.take_succ_eq_append_getElem hkl2, valN_snoc]
     have hn : valN (l.take k) < 72057594037927936 := by
      have h1 := (numL_valN k (l.take k) (by rw [List.length_take]; omega)).2
      have h2 : 256 ^ k ≤ 256 ^ 7 := Nat.pow_le_pow_right (by decide) (by omega)
      have h3 : (256 : Nat) ^ 7 = 72057594037927936 := by decide
      omega
     have hor := or_step _ _ hn (l[k]'hkl2).toNat_lt
     rw [← hv] at hor
     have hcw : IntKind.u64.wrap (((l[k]'hkl2).toNat : Nat) : Int) = (((l[k]'hkl2).toNat : Nat) : Int) := by have := (l[k]'hkl2).toNat_lt; rw [IntKind.wrap_u64]; omega
     generalize (l[k]'hkl2).toNat = c at *
     obtain ⟨N2, hN2⟩ : ∃ q, valN (l.take (k + 1)) = q := ⟨_, rfl⟩
     rw [hN2] at hor hv
     have HN2 := qh hN2
     clear hN2
     generalize valN (l.take k) = N1 at *
     rw [show ((256 * N1 : Nat) : Int) = (N1 : Int) * 256 by omega] at hor
     clear hb
     go_wp2_with fail
     refine ⟨⟨k + 1, by omega, by push_cast; rfl, ?_⟩, by simp only [intOf]; omega⟩
     rw [HN2.out]
     congr 1
     omega
    ·obtain rfl : k = size := by omega
     go_wp2_with fail
     go_ret
     refine ⟨rfl, ACC.out.trans ((Wr.refl _ _).setOn (by simp) _), ?_⟩
     have := B2.out.set_ 0 (.string (S.extract k l.length))
     rw [HSL.out] at this ⊢
     exact this
end Go.Proofs.YtildcdgobdfieaaGreat

namespace Go.Proofs.YtildcdgobdfieaaGreat
open Go.RowKit
def PutL (b : Nat) (p : Addr) (v : Value) (r : Rd) (w : World) (e : Ending) (w' : World) : Prop := e = .returned (.tuple #[]) ∧ ∃ w1, Wr [b] w w1 ∧ WlkR w1 b r ∧ w' = w1.setCell p v
theorem WlkR.lt {w : World} {b : Nat} {r : Rd} (h : WlkR w b r) : b < w.heap.size := Blk.lt h
theorem num_lt {k : Nat} (hk : k ≤ 8) (r : Rd) : (r.num k).1 < 256 ^ k := by
 unfold Rd.num Rd.raw
 split
 ·show 0 < _
  exact Nat.pow_pos (by decide)
 ·rename_i h
  have := (numL_valN k (r.s.take k) (by rw [List.length_take]; omega)).2
  exact this
theorem sign_eq (n : Nat) (h : n < 4294967296) : wrap64 (wrap32 (n : Int)) = signN n := by
 unfold wrap64 wrap32 signN
 split <;> omega
theorem sign_64 (n : Nat) (h : n < 4294967296) : wrap64 (signN n) = signN n := by
 unfold wrap64 signN
 split <;> omega
section
variable (b g j : Nat) (r : Rd) (w : World) (hb : WlkR w b r) (hg : g ≠ b)
include hb
theorem count_r (n : Int) :
  Calls Tryz.prog 141 #[.pointer (some ⟨b, 0, none⟩), .int .i64 n] w fun e w' => e = .returned (.int .i64 ((r.num 2).1 : Int)) ∧ Wr [b] w w' ∧ WlkR w' b (r.num 2).2 := by
 have h := fun m => bytes_r b 2 m r (by omega) w hb
 have hl := num_lt (k := 2) (by omega) r
 generalize r.num 2 = rr at *
 obtain ⟨v, r'⟩ := rr
 simp only at hl h ⊢
 have e1 : IntKind.i64.wrap (v : Int) = (v : Int) := by rw [IntKind.wrap_i64]; omega
 have e2 : wrap64 (v : Int) = (v : Int) := by unfold wrap64; omega
 have H := qh h
 clear hb h
 go_enter Tryz.func141, Tryz.ntmps141
 go_wp2_with fail
 refine (H.out _).mono ?_
 rintro e w1 ⟨rfl, r1, b1⟩
 go_wp2_with fail
 go_ret
 exact ⟨rfl, r1, b1⟩
include hg
theorem number_r (x : Int) (hc : w.cell? ⟨g, j, none⟩ = some (.int .i64 x)) (hz : w.frozen? ⟨g, j, none⟩ = false) :
  Calls Tryz.prog 142 #[.pointer (some ⟨b, 0, none⟩), .pointer (some ⟨g, j, none⟩)] w (PutL b ⟨g, j, none⟩ (.int .i64 r.four.1) r.four.2 w) := by
 have h := fun m => bytes_r b 4 m r (by omega) w hb
 have hl := num_lt (k := 4) (by omega) r
 unfold Rd.four
 generalize r.num 4 = rr at *
 obtain ⟨v, r'⟩ := rr
 simp only at hl h ⊢
 have e1 := sign_eq v hl
 have H := qh h
 have HC := qh hc
 have HZ := qh hz
 clear hb h hz
 go_enter Tryz.func142, Tryz.ntmps142
 go_wp2_with fail
 refine (H.out _).mono ?_
 rintro e w1 ⟨rfl, r1, b1⟩
 have c1 := r1.cellOf HC.out (by simpa using hg)
 have z1 := r1.frozenOf HC.out HZ.out (by simpa using hg)
 clear hc
 go_wp2_with fail
 refine bodyPost_end (results_none Tryz.results142 _ _ _) rfl ?_
 exact ⟨rfl, w1, r1, b1, rfl⟩
theorem place_r (x : Int) (hc : w.cell? ⟨g, j, none⟩ = some (.int .i64 x)) (hz : w.frozen? ⟨g, j, none⟩ = false) :
  Calls Tryz.prog 115 #[.pointer (some ⟨b, 0, none⟩), .pointer (some ⟨g, j, none⟩)] w (PutL b ⟨g, j, none⟩ (.int .i64 r.four.1) r.four.2 w) := by
 have hbl := hb.lt
 obtain ⟨w0, hw0⟩ : ∃ q, w.alloc (.cells #[.int .i64 x] 2) = q := ⟨_, rfl⟩
 obtain ⟨g0, hg0⟩ : ∃ q, w.heap.size = q := ⟨_, rfl⟩
 have r0 : Wr [] w w0 := by rw [← hw0]; exact (Wr.refl _ _).alloc _
 have b0 : Blk w0 g0 2 #[.int .i64 x] := by rw [← hw0, ← hg0]; exact Blk.new _ _ _
 have hgb : g0 ≠ b := by omega
 have h := number_r b g0 0 r w0 (Blk.wr0 hb r0) hgb x (b0.cell 0) (b0.frozen 0)
 have hl := num_lt (k := 4) (by omega) r
 unfold Rd.four at h ⊢
 generalize r.num 4 = rr at *
 obtain ⟨v, r'⟩ := rr
 simp only at hl h ⊢
 have e64 := sign_64 v hl
 generalize signN v = sv at *
 have hwg : w.heap.size ≤ g0 := by omega
 have hlt : g0 < w0.heap.size := b0.lt
 have H := qh h
 have HC := qh hc
 have HZ := qh hz
 have R0 := qh r0
 have HW0 := qh hw0
 have HG0 := qh hg0
 have B0 := qh b0
 clear hb h hz b0 r0 hw0 hg0
 go_enter Tryz.func115, Tryz.ntmps115
 go_upto_region 1 with (fail)
 rw [HG0.out]
 rw [HW0.out]
 clear hc
 go_wp2_with fail
 refine H.out.mono ?_
 rintro e w1 ⟨rfl, w2, r2, b2, rfl⟩
 have q2 := (B0.out.wr r2 (by simpa using hgb)).set_ 0 (.int .i64 sv)
 have r3 : Wr [b] w (w2.setCell ⟨g0, 0, none⟩ (.int .i64 sv)) := (R0.out.nil.trans r2).setNew hwg _
 have b3 : WlkR (w2.setCell ⟨g0, 0, none⟩ (.int .i64 sv)) b r' := Blk.far b2 (fun e => hgb e.symm) _
 generalize w2.setCell ⟨g0, 0, none⟩ (.int .i64 sv) = w3 at *
 have c0 := q2.cell 0
 simp only [qsaq, qszq, qgaq, qgzq] at c0
 have c1 := r3.cellOf HC.out (by simpa using hg)
 have z1 := r3.frozenOf HC.out HZ.out (by simpa using hg)
 go_wp2_with fail
 refine bodyPost_end (results_none Tryz.results115 _ _ _) rfl ?_
 exact ⟨rfl, w3, r3, b3, rfl⟩
theorem byte_r (x : Int) (hc : w.cell? ⟨g, j, none⟩ = some (.int .u8 x)) (hz : w.frozen? ⟨g, j, none⟩ = false) :
  Calls Tryz.prog 114 #[.pointer (some ⟨b, 0, none⟩), .pointer (some ⟨g, j, none⟩)] w (PutL b ⟨g, j, none⟩ (.int .u8 r.one.1) r.one.2 w) := by
 have h := fun m => bytes_r b 1 m r (by omega) w hb
 have hl := num_lt (k := 1) (by omega) r
 unfold Rd.one
 generalize r.num 1 = rr at *
 obtain ⟨v, r'⟩ := rr
 simp only at hl h ⊢
 have e1 : IntKind.u8.wrap (v : Int) = (v : Int) := by rw [IntKind.wrap_u8]; omega
 have H := qh h
 have HC := qh hc
 have HZ := qh hz
 clear hb h hz
 go_enter Tryz.func114, Tryz.ntmps114
 go_wp2_with fail
 refine (H.out _).mono ?_
 rintro e w1 ⟨rfl, r1, b1⟩
 have c1 := r1.cellOf HC.out (by simpa using hg)
 have z1 := r1.frozenOf HC.out HZ.out (by simpa using hg)
 clear hc
 go_wp2_with fail
 refine bodyPost_end (results_none Tryz.results114 _ _ _) rfl ?_
 exact ⟨rfl, w1, r1, b1, rfl⟩
end
end Go.Proofs.YtildcdgobdfieaaGreat

namespace Go.Proofs.YtildcdgobdfieaaGreat
open Go.RowKit
theorem truth_r (b g j : Nat) (r : Rd) (w : World) (hb : WlkR w b r) (hg : g ≠ b) (x : Bool) (hc : w.cell? ⟨g, j, none⟩ = some (.bool x)) (hz : w.frozen? ⟨g, j, none⟩ = false) :
  Calls Tryz.prog 150 #[.pointer (some ⟨b, 0, none⟩), .pointer (some ⟨g, j, none⟩)] w (PutL b ⟨g, j, none⟩ (.bool r.truth.1) r.truth.2 w) := by
 have hbl := hb.lt
 obtain ⟨m, hm⟩ : ∃ m : Int, (if x then 1 else 0) = m := ⟨_, rfl⟩
 obtain ⟨w0, hw0⟩ : ∃ q, w.alloc (.cells #[.int .u8 m] 5) = q := ⟨_, rfl⟩
 obtain ⟨g0, hg0⟩ : ∃ q, w.heap.size = q := ⟨_, rfl⟩
 have r0 : Wr [b] w w0 := by rw [← hw0]; exact (Wr.refl _ _).alloc _
 have b0 : Blk w0 g0 5 #[.int .u8 m] := by rw [← hw0, ← hg0]; exact Blk.new _ _ _
 have hgb : g0 ≠ b := by omega
 have hb0 : WlkR w0 b r := by rw [← hw0]; exact Blk.wr0 hb ((Wr.refl _ _).alloc _)
 have h := byte_r b g0 0 r w0 hb0 hgb m (b0.cell 0) (b0.frozen 0)
 unfold Rd.one at h
 unfold Rd.truth
 generalize r.num 1 = rr at *
 obtain ⟨v, l, bad⟩ := rr
 simp only at h ⊢
 have hwg : w.heap.size ≤ g0 := by omega
 have hca := ((Wr.refl [] w).alloc (.cells #[.int .u8 0] 5)).cellOf hc (by simp)
 have hlt : g0 < w0.heap.size := b0.lt
 have H := qh h
 have HC := qh hc
 have HZ := qh hz
 have R0 := qh r0
 have HW0 := qh hw0
 have HG0 := qh hg0
 have B0 := qh b0
 clear hb h hz b0 r0 hw0 hg0 hb0
 generalize hone : decide (v = 1) = one0 at *
 generalize hbig : decide (1 < v) = big0 at *
 have HONE := qh hone
 have HBIG := qh hbig
 clear hone hbig
 cases x with
 | true =>
  simp only [if_true] at hm
  subst hm
  go_enter Tryz.func150, Tryz.ntmps150
  go_upto_region 3 with (fail)
  rw [HG0.out, HW0.out]
  clear hc
  go_wp2_with fail
  refine H.out.mono ?_
  rintro e w1 ⟨rfl, w2, r2, b2, rfl⟩
  have q2 := (B0.out.wr r2 (by simpa using hgb)).set_ 0 (.int .u8 (v : Int))
  have r3 : Wr [b] w (w2.setCell ⟨g0, 0, none⟩ (.int .u8 (v : Int))) := (R0.out.trans r2).setNew hwg _
  have b3 : WlkR (w2.setCell ⟨g0, 0, none⟩ (.int .u8 (v : Int))) b ⟨l, bad⟩ := Blk.far b2 (fun e => hgb e.symm) _
  have bl3 : b < (w2.setCell ⟨g0, 0, none⟩ (.int .u8 (v : Int))).heap.size := b3.lt
  generalize w2.setCell ⟨g0, 0, none⟩ (.int .u8 (v : Int)) = w3 at *
  have c0 := q2.cell 0
  simp only [qsaq, qszq, qgaq, qgzq] at c0
  have c1 := r3.cellOf HC.out (by simpa using hg)
  have z1 := r3.frozenOf HC.out HZ.out (by simpa using hg)
  have d2 := Blk.cell b3 2
  have f2 := Blk.frozen b3 2
  simp only [qgaq, qgzq, qgsq] at d2
  obtain ⟨w4, hw4⟩ : ∃ q, w3.setCell ⟨b, 2, none⟩ (.bool (bad || big0)) = q := ⟨_, rfl⟩
  have b4 : WlkR w4 b ⟨l, bad || big0⟩ := by rw [← hw4]; exact Blk.set_ b3 2 _
  have r4 : Wr [b] w w4 := by rw [← hw4]; exact r3.setOn (by simp) _
  have r34 : Wr [b] w3 w4 := by rw [← hw4]; exact (Wr.refl _ _).setOn (by simp) _
  have k0 := r34.cellOf c0 (by simpa using hgb)
  have k1 := r4.cellOf HC.out (by simpa using hg)
  have y1 := r4.frozenOf HC.out HZ.out (by simpa using hg)
  have e1 : decide ((v : Int) > 1) = big0 := by rw [← HBIG.out]; exact decide_eq_decide.2 (by omega)
  have e2 : ((v : Int) == 1) = one0 := by rw [← HONE.out, Bool.eq_iff_iff]; simp only [beq_iff_eq, decide_eq_true_eq]; omega
  have e3 : decide (1 < (v : Int)) = big0 := by rw [← HBIG.out]; exact decide_eq_decide.2 (by omega)
  have HW4 := qh hw4
  clear hw4 b3 q2 r3 r34 r2 b2
  cases bad with
  | true =>
   simp only [Bool.true_or] at HW4 b4
   go_upto_region 5 with (fail)
   rw [HW4.out]
   clear c0 c1 z1 d2 f2
   go_wp2_with fail
   refine bodyPost_end (results_none Tryz.results150 _ _ _) rfl ?_
   exact ⟨rfl, w4, r4, b4, rfl⟩
  | false =>
   simp only [Bool.false_or] at HW4 b4
   go_upto_region 5 with (fail)
   rw [HW4.out]
   clear c0 c1 z1 d2 f2
   go_wp2_with fail
   refine bodyPost_end (results_none Tryz.results150 _ _ _) rfl ?_
   exact ⟨rfl, w4, r4, b4, rfl⟩
 | false =>
  simp only [Bool.false_eq_true, if_false] at hm
  subst hm
  go_enter Tryz.func150, Tryz.ntmps150
  go_upto_region 3 with (fail)
  rw [HG0.out, HW0.out]
  clear hc
  go_wp2_with fail
  refine H.out.mono ?_
  rintro e w1 ⟨rfl, w2, r2, b2, rfl⟩
  have q2 := (B0.out.wr r2 (by simpa using hgb)).set_ 0 (.int .u8 (v : Int))
  have r3 : Wr [b] w (w2.setCell ⟨g0, 0, none⟩ (.int .u8 (v : Int))) := (R0.out.trans r2).setNew hwg _
  have b3 : WlkR (w2.setCell ⟨g0, 0, none⟩ (.int .u8 (v : Int))) b ⟨l, bad⟩ := Blk.far b2 (fun e => hgb e.symm) _
  have bl3 : b < (w2.setCell ⟨g0, 0, none⟩ (.int .u8 (v : Int))).heap.size := b3.lt
  generalize w2.setCell ⟨g0, 0, none⟩ (.int .u8 (v : Int)) = w3 at *
  have c0 := q2.cell 0
  simp only [qsaq, qszq, qgaq, qgzq] at c0
  have c1 := r3.cellOf HC.out (by simpa using hg)
  have z1 := r3.frozenOf HC.out HZ.out (by simpa using hg)
  have d2 := Blk.cell b3 2
  have f2 := Blk.frozen b3 2
  simp only [qgaq, qgzq, qgsq] at d2
  obtain ⟨w4, hw4⟩ : ∃ q, w3.setCell ⟨b, 2, none⟩ (.bool (bad || big0)) = q := ⟨_, rfl⟩
  have b4 : WlkR w4 b ⟨l, bad || big0⟩ := by rw [← hw4]; exact Blk.set_ b3 2 _
  have r4 : Wr [b] w w4 := by rw [← hw4]; exact r3.setOn (by simp) _
  have r34 : Wr [b] w3 w4 := by rw [← hw4]; exact (Wr.refl _ _).setOn (by simp) _
  have k0 := r34.cellOf c0 (by simpa using hgb)
  have k1 := r4.cellOf HC.out (by simpa using hg)
  have y1 := r4.frozenOf HC.out HZ.out (by simpa using hg)
  have e1 : decide ((v : Int) > 1) = big0 := by rw [← HBIG.out]; exact decide_eq_decide.2 (by omega)
  have e2 : ((v : Int) == 1) = one0 := by rw [← HONE.out, Bool.eq_iff_iff]; simp only [beq_iff_eq, decide_eq_true_eq]; omega
  have e3 : decide (1 < (v : Int)) = big0 := by rw [← HBIG.out]; exact decide_eq_decide.2 (by omega)
  have HW4 := qh hw4
  clear hw4 b3 q2 r3 r34 r2 b2
  cases bad with
  | true =>
   simp only [Bool.true_or] at HW4 b4
   go_upto_region 5 with (fail)
   rw [HW4.out]
   clear c0 c1 z1 d2 f2
   go_wp2_with fail
   refine bodyPost_end (results_none Tryz.results150 _ _ _) rfl ?_
   exact ⟨rfl, w4, r4, b4, rfl⟩
  | false =>
   simp only [Bool.false_or] at HW4 b4
   go_upto_region 5 with (fail)
   rw [HW4.out]
   clear c0 c1 z1 d2 f2
   go_wp2_with fail
   refine bodyPost_end (results_none Tryz.results150 _ _ _) rfl ?_
   exact ⟨rfl, w4, r4, b4, rfl⟩
def PutB (b g j : Nat) (v : Value) (r : Rd) (w : World) (e : Ending) (w' : World) : Prop := e = .returned (.tuple #[]) ∧ Wr [b, g] w w' ∧ WlkR w' b r ∧ ∀ t cs, Blk w g t cs → Blk w' g t (cs.setIfInBounds j v)
theorem PutL.toB {b g j : Nat} {v : Value} {r : Rd} {w w' : World} {e : Ending} (hg : g ≠ b) (h : PutL b ⟨g, j, none⟩ v r w e w') : PutB b g j v r w e w' := by
 obtain ⟨rfl, w1, r1, b1, rfl⟩ := h
 refine ⟨rfl, (r1.more (by simp)).setOn (by simp) _, Blk.far b1 (fun e => hg e.symm) _, fun t cs hc => ?_⟩
 exact (hc.wr r1 (by simpa using hg)).set_ j v
theorem PutB.from {b g j : Nat} {v : Value} {r : Rd} {w w1 w' : World} {e : Ending} (hg : g ≠ b) (r1 : Wr [b] w w1) (h : PutB b g j v r w1 e w') : PutB b g j v r w e w' := by
 obtain ⟨h1, h2, h3, h4⟩ := h
 exact ⟨h1, (r1.more (by simp)).trans h2, h3, fun t cs hc => h4 t cs (hc.wr r1 (by simpa using hg))⟩
theorem raw_r (b g j n : Nat) (r : Rd) (w : World) (hb : WlkR w b r) (hg : g ≠ b) (x : ByteArray) (hc : w.cell? ⟨g, j, none⟩ = some (.string x)) (hz : w.frozen? ⟨g, j, none⟩ = false) :
  Calls Tryz.prog 140 #[.pointer (some ⟨b, 0, none⟩), .pointer (some ⟨g, j, none⟩), .int .i64 (n : Int)] w (PutB b g j (.string ⟨(r.raw n).1.toArray⟩) (r.raw n).2 w) := by
 obtain ⟨l, bad⟩ := r
 obtain ⟨S, hS⟩ : ∃ S : ByteArray, ⟨l.toArray⟩ = S := ⟨_, rfl⟩
 have hsz : S.size = l.length := by rw [← hS]; show l.toArray.size = _; simp
 have hb' : Blk w b 160 #[.string S, .bool true, .bool bad] := by rw [← hS]; exact hb
 have c0 := hb'.cell 0
 have c1 := hb'.cell 1
 have c2 := hb'.cell 2
 simp only [qgaq, qgzq, qgsq] at c0 c1 c2
 have z0 := hb'.frozen 0
 have z2 := hb'.frozen 2
 by_cases hbad : bad = true ∨ l.length < n
 ·have hr : (Rd.mk l bad).raw n = ([], ⟨l, true⟩) := by unfold Rd.raw; rw [if_pos hbad]
  rw [hr]
  obtain ⟨w2, hw2⟩ : ∃ q, w.setCell ⟨b, 2, none⟩ (.bool true) = q := ⟨_, rfl⟩
  have b2 : WlkR w2 b ⟨l, true⟩ := by rw [← hw2]; have := hb'.set_ 2 (.bool true); rw [← hS] at this; exact this
  have r2 : Wr [b] w w2 := by rw [← hw2]; exact (Wr.refl _ _).setOn (by simp) _
  have k1 := r2.cellOf hc (by simpa using hg)
  have y1 := r2.frozenOf hc hz (by simpa using hg)
  have d2 := Blk.cell b2 2
  simp only [qgaq, qgzq, qgsq] at d2
  have hpost : PutB b g j (.string ⟨#[]⟩) ⟨l, true⟩ w (.returned (.tuple #[])) (w2.setCell ⟨g, j, none⟩ (.string ⟨#[]⟩)) := PutL.toB hg ⟨rfl, w2, r2, b2, rfl⟩
  have HP := qh hpost
  clear hb hb' hpost b2 r2 hr hS
  cases bad with
  | true =>
   go_enter Tryz.func140, Tryz.ntmps140
   go_wp2_with fail
   refine bodyPost_end (results_none Tryz.results140 _ _ _) rfl ?_
   exact HP.out
  | false =>
   have hlt : l.length < n := by simpa using hbad
   have e0 : (n : Int) > (S.size : Int) := by omega
   have e1 : (S.size : Int) < (n : Int) := by omega
   have e2 : decide (l.length < n) = true := decide_eq_true hlt
   go_enter Tryz.func140, Tryz.ntmps140
   go_wp2_with fail
   refine bodyPost_end (results_none Tryz.results140 _ _ _) rfl ?_
   exact HP.out
 ·have hbf : bad = false := by cases bad <;> simp_all
  subst hbf
  have hle : n ≤ l.length := by simp at hbad; omega
  have hr : (Rd.mk l false).raw n = (l.take n, ⟨l.drop n, false⟩) := by unfold Rd.raw; rw [if_neg hbad]
  rw [hr]
  obtain ⟨w2, hw2⟩ : ∃ q, w.setCell ⟨b, 2, none⟩ (.bool false) = q := ⟨_, rfl⟩
  have b2 : Blk w2 b 160 #[.string S, .bool true, .bool false] := by rw [← hw2]; exact hb'.set_ 2 (.bool false)
  have r2 : Wr [b] w w2 := by rw [← hw2]; exact (Wr.refl _ _).setOn (by simp) _
  have k1 := r2.cellOf hc (by simpa using hg)
  have y1 := r2.frozenOf hc hz (by simpa using hg)
  have x0 := b2.cell 0
  have d2 := b2.cell 2
  simp only [qgaq, qgzq, qgsq] at x0 d2
  have q0 := b2.frozen 0
  have e0 : ¬ (n : Int) > (S.size : Int) := by omega
  have e1 : ¬ (S.size : Int) < (n : Int) := by omega
  have e2 : decide (l.length < n) = false := decide_eq_false (by omega)
  have t1 : S.extract 0 n = ⟨(l.take n).toArray⟩ := by
   rw [← hS]
   apply ByteArray.ext
   rw [ByteArray.data_extract]
   simp
  have t2 : S.extract n l.length = ⟨(l.drop n).toArray⟩ := by
   rw [← hS]
   apply ByteArray.ext
   rw [ByteArray.data_extract]
   simp
   exact List.take_of_length_le (by simp)
  have HT1 := qh t1
  have HT2 := qh t2
  have R2 := qh r2
  have B2 := qh b2
  clear hb hb' hr hS t1 t2 r2 b2
  go_enter Tryz.func140, Tryz.ntmps140
  go_upto_region 5 with (fail)
  try rw [hw2]
  clear c0 c1 c2 z0 z2 hc hz hw2
  have hC : ∀ W, Wr [g] w2 W → W.cell? ⟨b, 0, none⟩ = some (.string S) := fun W hW => hW.cellOf x0 (by simpa using Ne.symm hg)
  have HC := qh hC
  clear hC
  refine wp_region_noPanic ?_
  refine wp_region_L (Until 18 fun w' => w'.cell? ⟨b, 0, none⟩ = some (.string S)) (by kernel_rfl) (fun hcl => ?_)
  have hS : Until 18 (fun w' => w'.cell? ⟨b, 0, none⟩ = some (.string S)) (Array.replicate 19 false) w2.drew := fun _ => x0
  refine wpAnyL_take (i := 0) (oi := ?oi1) (v := ?v1) ?hi1 (by kernel_rfl) (by kernel_rfl) (by kernel_rfl) (fun _ _ _ h => h) (until_take 18 _ (by decide)) ?hy1 hcl hS ?rest1
  case hi1 =>
   simp only [qgaq, qgsq, qgzq]
   rfl
  case hy1 =>
   refine yields_until (by kernel_rfl) (Or.inl ⟨by rfl, fun w' hS => ?_⟩)
   try go_split_ands
   go_simp
   try rfl
  intro hcl1 hS1
  clear hcl hS
  try simp only [Act.put, qsaq, qszq, qssq]
  refine wpAnyL_take (i := 1) (oi := ?oi2) (v := ?v2) ?hi2 (by kernel_rfl) (by kernel_rfl) (by kernel_rfl) (fun _ _ _ h => h) (until_take 18 _ (by decide)) ?hy2 hcl1 hS1 ?rest2
  case hi2 =>
   simp only [qgaq, qgsq, qgzq]
   rfl
  case hy2 =>
   refine yields_until (by kernel_rfl) (Or.inl ⟨by rfl, fun w' hS => ?_⟩)
   try go_split_ands
   go_simp
   try rfl
  intro hcl2 hS2
  clear hcl1 hS1
  try simp only [Act.put, qsaq, qszq, qssq]
  refine wpAnyL_take (i := 2) (oi := ?oi3) (v := ?v3) ?hi3 (by kernel_rfl) (by kernel_rfl) (by kernel_rfl) (fun _ _ _ h => h) (until_take 18 _ (by decide)) ?hy3 hcl2 hS2 ?rest3
  case hi3 =>
   simp only [qgaq, qgsq, qgzq]
   rfl
  case hy3 =>
   refine yields_until (by kernel_rfl) (Or.inl ⟨by rfl, fun w' hS => ?_⟩)
   try go_split_ands
   go_simp
   try rfl
  intro hcl3 hS3
  clear hcl2 hS2
  try simp only [Act.put, qsaq, qszq, qssq]
  refine wpAnyL_take (i := 3) (oi := ?oi4) (v := ?v4) ?hi4 (by kernel_rfl) (by kernel_rfl) (by kernel_rfl) (fun _ _ _ h => h) (until_take 18 _ (by decide)) ?hy4 hcl3 hS3 ?rest4
  case hi4 =>
   simp only [qgaq, qgsq, qgzq]
   rfl
  case hy4 =>
   refine yields_until (by kernel_rfl) (Or.inl ⟨by rfl, fun w' hS => ?_⟩)
   try go_split_ands
   go_simp
   try rfl
  intro hcl4 hS4
  clear hcl3 hS3
  try simp only [Act.put, qsaq, qszq, qssq]
  refine wpAnyL_take (i := 4) (oi := ?oi5) (v := ?v5) ?hi5 (by kernel_rfl) (by kernel_rfl) (by kernel_rfl) (fun _ _ _ h => h) (until_take 18 _ (by decide)) ?hy5 hcl4 hS4 ?rest5
  case hi5 =>
   simp only [qgaq, qgsq, qgzq]
   rfl
  case hy5 =>
   refine yields_until (by kernel_rfl) (Or.inl ⟨by rfl, fun w' hS => ?_⟩)
   try go_split_ands
   go_simp
   try rfl
  intro hcl5 hS5
  clear hcl4 hS4
  try simp only [Act.put, qsaq, qszq, qssq]
  refine wpAnyL_take (i := 5) (oi := ?oi6) (v := ?v6) ?hi6 (by kernel_rfl) (by kernel_rfl) (by kernel_rfl) (fun _ _ _ h => h) (until_take 18 _ (by decide)) ?hy6 hcl5 hS5 ?rest6
  case hi6 =>
   simp only [qgaq, qgsq, qgzq]
   rfl
  case hy6 =>
   refine yields_until (by kernel_rfl) (Or.inl ⟨by rfl, fun w' hS => ?_⟩)
   try go_split_ands
   go_simp
   try rfl
  intro hcl6 hS6
  clear hcl5 hS5
  try simp only [Act.put, qsaq, qszq, qssq]
  refine wpAnyL_take (i := 6) (oi := ?oi7) (v := ?v7) ?hi7 (by kernel_rfl) (by kernel_rfl) (by kernel_rfl) (fun _ _ _ h => h) (until_take 18 _ (by decide)) ?hy7 hcl6 hS6 ?rest7
  case hi7 =>
   simp only [qgaq, qgsq, qgzq]
   rfl
  case hy7 =>
   refine yields_until (by kernel_rfl) (Or.inl ⟨by rfl, fun w' hS => ?_⟩)
   try go_split_ands
   go_simp
   try rfl
  intro hcl7 hS7
  clear hcl6 hS6
  try simp only [Act.put, qsaq, qszq, qssq]
  refine wpAnyL_take (i := 7) (oi := ?oi8) (v := ?v8) ?hi8 (by kernel_rfl) (by kernel_rfl) (by kernel_rfl) (fun _ _ _ h => h) (until_take 18 _ (by decide)) ?hy8 hcl7 hS7 ?rest8
  case hi8 =>
   simp only [qgaq, qgsq, qgzq]
   rfl
  case hy8 =>
   refine yields_until (by kernel_rfl) (Or.inl ⟨by rfl, fun w' hS => ?_⟩)
   try go_split_ands
   go_simp
   try rfl
  intro hcl8 hS8
  clear hcl7 hS7
  try simp only [Act.put, qsaq, qszq, qssq]
  refine wpAnyL_take (i := 8) (oi := ?oi9) (v := ?v9) ?hi9 (by kernel_rfl) (by kernel_rfl) (by kernel_rfl) (fun _ _ _ h => h) (until_take 18 _ (by decide)) ?hy9 hcl8 hS8 ?rest9
  case hi9 =>
   simp only [qgaq, qgsq, qgzq]
   rfl
  case hy9 =>
   refine yields_until (by kernel_rfl) (Or.inl ⟨by rfl, fun w' hS => ?_⟩)
   try go_split_ands
   go_simp
   try rfl
  intro hcl9 hS9
  clear hcl8 hS8
  try simp only [Act.put, qsaq, qszq, qssq]
  refine wpAnyL_take (i := 9) (oi := ?oi10) (v := ?v10) ?hi10 (by kernel_rfl) (by kernel_rfl) (by kernel_rfl) (fun _ _ _ h => h) (until_take 18 _ (by decide)) ?hy10 hcl9 hS9 ?rest10
  case hi10 =>
   simp only [qgaq, qgsq, qgzq]
   rfl
  case hy10 =>
   refine yields_until (by kernel_rfl) (Or.inl ⟨by rfl, fun w' hS => ?_⟩)
   try go_split_ands
   go_simp
   try rfl
  intro hcl10 hS10
  clear hcl9 hS9
  try simp only [Act.put, qsaq, qszq, qssq]
  refine wpAnyL_take (i := 10) (oi := ?oi11) (v := ?v11) ?hi11 (by kernel_rfl) (by kernel_rfl) (by kernel_rfl) (fun _ _ _ h => h) (until_take 18 _ (by decide)) ?hy11 hcl10 hS10 ?rest11
  case hi11 =>
   simp only [qgaq, qgsq, qgzq]
   rfl
  case hy11 =>
   refine yields_until (by kernel_rfl) (Or.inl ⟨by rfl, fun w' hS => ?_⟩)
   try go_split_ands
   go_simp
   try rfl
  intro hcl11 hS11
  clear hcl10 hS10
  try simp only [Act.put, qsaq, qszq, qssq]
  refine wpAnyL_take (i := 11) (oi := ?oi12) (v := ?v12) ?hi12 (by kernel_rfl) (by kernel_rfl) (by kernel_rfl) (fun _ _ _ h => h) (until_take 18 _ (by decide)) ?hy12 hcl11 hS11 ?rest12
  case hi12 =>
   simp only [qgaq, qgsq, qgzq]
   rfl
  case hy12 =>
   refine yields_until (by kernel_rfl) (Or.inl ⟨by rfl, fun w' hS => ?_⟩)
   try go_split_ands
   go_simp
   try rfl
  intro hcl12 hS12
  clear hcl11 hS11
  try simp only [Act.put, qsaq, qszq, qssq]
  refine wpAnyL_take (i := 12) (oi := ?oi13) (v := ?v13) ?hi13 (by kernel_rfl) (by kernel_rfl) (by kernel_rfl) (fun _ _ _ h => h) (until_take 18 _ (by decide)) ?hy13 hcl12 hS12 ?rest13
  case hi13 =>
   simp only [qgaq, qgsq, qgzq]
   rfl
  case hy13 =>
   refine yields_until (by kernel_rfl) (Or.inl ⟨by rfl, fun w' hS => ?_⟩)
   try go_split_ands
   go_simp
   try rfl
  intro hcl13 hS13
  clear hcl12 hS12
  try simp only [Act.put, qsaq, qszq, qssq]
  refine wpAnyL_take (i := 13) (oi := ?oi14) (v := ?v14) ?hi14 (by kernel_rfl) (by kernel_rfl) (by kernel_rfl) (fun _ _ _ h => h) (until_take 18 _ (by decide)) ?hy14 hcl13 hS13 ?rest14
  case hi14 =>
   simp only [qgaq, qgsq, qgzq]
   rfl
  case hy14 =>
   refine yields_until (by kernel_rfl) (Or.inl ⟨by rfl, fun w' hS => ?_⟩)
   try go_split_ands
   go_simp
   try rfl
  intro hcl14 hS14
  clear hcl13 hS13
  try simp only [Act.put, qsaq, qszq, qssq]
  refine wpAnyL_take (i := 14) (oi := ?oi15) (v := ?v15) ?hi15 (by kernel_rfl) (by kernel_rfl) (by kernel_rfl) (fun _ _ _ h => h) (until_take 18 _ (by decide)) ?hy15 hcl14 hS14 ?rest15
  case hi15 =>
   simp only [qgaq, qgsq, qgzq]
   rfl
  case hy15 =>
   refine yields_until (by kernel_rfl) (Or.inl ⟨by rfl, fun w' hS => ?_⟩)
   try go_split_ands
   go_simp
   try rfl
  intro hcl15 hS15
  clear hcl14 hS14
  try simp only [Act.put, qsaq, qszq, qssq]
  refine wpAnyL_step (i := 15) (o := ?oi16) ?hi16 (by kernel_rfl) hcl15 ?rest16
  case hi16 =>
   simp only [qgaq, qgsq, qgzq]
   rfl
  intro K hK
  go_simp
  refine hK _ _ (fun _ => HC.out _ ((Wr.refl [g] w2).drew.setOn (by simp) _)) (fun hcl16 => ?_)
  clear hK K hcl15 hS15
  try simp only [Act.put, qsaq, qszq, qssq]
  refine wpAnyL_step (i := 16) (o := ?oi17) ?hi17 (by kernel_rfl) hcl16 ?rest17
  case hi17 =>
   simp only [qgaq, qgsq, qgzq]
   rfl
  intro K hK
  go_simp
  refine hK _ _ (fun _ => HC.out _ ((Wr.refl [g] w2).drew.setOn (by simp) _)) (fun hcl17 => ?_)
  clear hK K hcl16
  try simp only [Act.put, qsaq, qszq, qssq]
  refine wpAnyL_step (i := 17) (o := ?oi18) ?hi18 (by kernel_rfl) hcl17 ?rest18
  case hi18 =>
   simp only [qgaq, qgsq, qgzq]
   rfl
  intro K hK
  go_simp
  refine hK _ _ (fun _ => HC.out _ ((Wr.refl [g] w2).drew.setOn (by simp) _)) (fun hcl18 => ?_)
  clear hK K hcl17
  try simp only [Act.put, qsaq, qszq, qssq]
  refine wpAnyL_step (i := 18) (o := ?oi19) ?hi19 (by kernel_rfl) hcl18 ?rest19
  case hi19 =>
   simp only [qgaq, qgsq, qgzq]
   rfl
  intro K hK
  go_simp
  refine hK _ _ (fun hb => absurd hb (by decide)) (fun hcl999 => ?_)
  clear hK K hcl18
  refine wpAnyL_done (by kernel_rfl) (NoPanic.normal ?_) _
  try simp only [Act.put, qsaq, qszq, qssq]
  go_wp2_with fail
  refine bodyPost_end (results_none Tryz.results140 _ _ _) rfl ?_
  rw [HT1.out, HT2.out]
  have k1 : Wr [b, g] w w2 := R2.out.more (by simp)
  refine ⟨rfl, ((k1.setOn (by simp) _).setOn (by simp) _).drew, ?_, fun t cs hcs => ?_⟩
  ·exact Blk.drew (Blk.set_ (Blk.far B2.out (fun e => hg e.symm) _) 0 (.string ⟨(l.drop n).toArray⟩))
  ·exact Blk.drew (Blk.far ((hcs.wr R2.out (by simpa using hg)).set_ j _) hg _)
theorem text_r (b g j : Nat) (r : Rd) (w : World) (hb : WlkR w b r) (hg : g ≠ b) (x : ByteArray) (hc : w.cell? ⟨g, j, none⟩ = some (.string x)) (hz : w.frozen? ⟨g, j, none⟩ = false) :
  Calls Tryz.prog 106 #[.pointer (some ⟨b, 0, none⟩), .pointer (some ⟨g, j, none⟩)] w (PutB b g j (.string r.text.1) r.text.2 w) := by
 have h := fun m => bytes_r b 1 m r (by omega) w hb
 have hl := num_lt (k := 1) (by omega) r
 unfold Rd.text
 generalize r.num 1 = rr at *
 obtain ⟨v, r'⟩ := rr
 simp only at hl h ⊢
 have h2 := fun W (hr : Wr [b] w W) (hb' : WlkR W b r') => raw_r b g j v r' W hb' hg x (hr.cellOf hc (by simpa using hg)) (hr.frozenOf hc hz (by simpa using hg))
 generalize r'.raw v = rr2 at *
 obtain ⟨t, r''⟩ := rr2
 simp only at h2 ⊢
 have e1 : IntKind.i64.wrap (v : Int) = (v : Int) := by rw [IntKind.wrap_i64]; omega
 have e2 : wrap64 (v : Int) = (v : Int) := by unfold wrap64; omega
 have H := qh h
 have H2 := qh h2
 clear hb h h2 hz
 go_enter Tryz.func106, Tryz.ntmps106
 go_wp2_with fail
 refine (H.out _).mono ?_
 rintro e w1 ⟨rfl, r1, b1⟩
 have hcall := H2.out w1 r1 b1
 clear hc
 go_wp2_with fail
 refine hcall.mono ?_
 rintro e w2 hp
 have hp2 := PutB.from hg r1 hp
 obtain ⟨rfl, _⟩ := hp
 have HP := qh hp2
 clear hp2
 go_wp2_with fail
 refine bodyPost_end (results_none Tryz.results106 _ _ _) rfl ?_
 exact HP.out
end Go.Proofs.YtildcdgobdfieaaGreat
