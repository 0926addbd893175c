/- iface's walk, reading: so many bytes of a number: walked. Conditions: the walk reads. -/
import Derived.Test.YtmpbkfbjmmoapaaGreatIT01
import Derived.Test.YtmpbkfbjmmoapaaGreatIT04
import Derived.Test.YtmpbkfbjmmoapaaGreatIT05
import Derived.Laws.Bits64b
import Derived.Laws.IdiomStrings
import Derived.Deep.Cut
import Derived.Deep.DeepCutAuto
import Derived.LoopN
import Derived.OrdersHeld
import Derived.Tactics
namespace Go.Proofs.YtmpbkfbjmmoapaaGreat
open Go.RowKit
set_option linter.unusedVariables false
set_option linter.unusedSimpArgs false
def WlkR (w : World) (b : Nat) (r : Rd) : Prop := Blk w b 87 #[.string ⟨r.s.toArray⟩, .bool true, .bool r.bad]
theorem or_step (n c : Nat) (hn : n < 72057594037927936) (hc : c < 256) : bits .or .u64 (((256 * n : Nat) : Int)) (c : Int) = ((256 * n + c : Nat) : Int) := by
 rw [bits_or_u64_nat _ _ (by omega) (by omega)]
 congr 1
 rw [show 256 * n = n <<< 8 by rw [Nat.shiftLeft_eq]; omega]
 rw [← Nat.shiftLeft_add_eq_or_of_lt (show c < 2 ^ 8 from hc)]
set_option maxRecDepth 100000 in
set_option maxHeartbeats 4000000 in
theorem bytes_r (b size : Nat) (n : Int) (r : Rd) (hs : size ≤ 8) (w : World) (hb : WlkR w b r) :
  Calls Tryz.prog 51 #[.pointer (some ⟨b, 0, none⟩), .int .u64 n, .int .i64 (size : Int)] w fun e w' => e = .returned (.int .u64 ((r.num size).1 : Int)) ∧ Wr [b] w w' ∧ WlkR w' b (r.num size).2 := by
 obtain ⟨l, bad⟩ := r
 obtain ⟨S, hS⟩ : ∃ S : ByteArray, ⟨l.toArray⟩ = S := ⟨_, rfl⟩
 have hsz : S.size = l.length := by rw [← hS]; show l.toArray.size = _; simp
 have hb' : Blk w b 87 #[.string S, .bool true, .bool bad] := by rw [← hS]; exact hb
 have c0 := hb'.cell 0
 have c1 := hb'.cell 1
 have c2 := hb'.cell 2
 simp only [qgaq, qgzq, qgsq] at c0 c1 c2
 have z0 := hb'.frozen 0
 have z2 := hb'.frozen 2
 cases bad with
 | true =>
  have hr : (Rd.mk l true).num size = (0, ⟨l, true⟩) := by unfold Rd.num Rd.raw; simp [valN]
  rw [hr]
  have HB := Lib.hid hb'
  clear hb hb' hr
  go_enter Tryz.func51, Tryz.ntmps51
  go_wp2_with fail
  go_ret
  exact ⟨rfl, (Wr.refl _ _).setOn (by simp) _, by have := HB.out.set_ 2 (.bool true); rw [← hS] at this; exact this⟩
 | false =>
  by_cases hlt : l.length < size
  ·have hr : (Rd.mk l false).num size = (0, ⟨l, true⟩) := by unfold Rd.num Rd.raw; simp [valN, hlt]
   rw [hr]
   have HB := Lib.hid hb'
   have e0 : (S.size : Int) < (size : Int) := by omega
   clear hb hb' hr
   go_enter Tryz.func51, Tryz.ntmps51
   go_wp2_with fail
   go_ret
   exact ⟨rfl, (Wr.refl _ _).setOn (by simp) _, by have := HB.out.set_ 2 (.bool true); rw [← hS] at this; exact this⟩
  ·have hr : (Rd.mk l false).num size = (valN (l.take size), ⟨l.drop size, false⟩) := by unfold Rd.num Rd.raw; simp [hlt]
   rw [hr]
   have HB := Lib.hid hb'
   have e0 : ¬ (S.size : Int) < (size : Int) := by omega
   clear hb hb' hr
   go_enter Tryz.func51, Tryz.ntmps51
   have htl : (l.take size).length = size := by rw [List.length_take]; omega
   obtain ⟨T, hT⟩ : ∃ T : ByteArray, S.extract 0 size = T := ⟨_, rfl⟩
   have hTe : T = ⟨(l.take size).toArray⟩ := by
    rw [← hT, ← hS]
    apply ByteArray.ext
    rw [ByteArray.data_extract]
    simp
   have hTs : T.size = size := by rw [hTe]; show (l.take size).toArray.size = _; rw [List.size_toArray, htl]
   obtain ⟨w1, hw1⟩ : ∃ q, w.setCell ⟨b, 2, none⟩ (.bool false) = q := ⟨_, rfl⟩
   have b1 : Blk w1 b 87 #[.string S, .bool true, .bool false] := by rw [← hw1]; exact HB.out.set_ 2 (.bool false)
   have r1 : Wr [b] w w1 := by rw [← hw1]; exact (Wr.refl _ _).setOn (by simp) _
   have hconv := run_bytes_of_string (P := Tryz.prog) w1 9 27 5 T Tryz.underlying9 Tryz.underlying27 Tryz.underlying5
   obtain ⟨cap, hcap⟩ : ∃ cap, grownCap w1 T.size 0 5 = cap := ⟨_, rfl⟩
   rw [hcap] at hconv
   obtain ⟨w2, hw2⟩ : ∃ q, (w1.drew.alloc (.cells (bytesRow T cap) 5 ((bytesRow T cap).size, (bytesRow T cap).size + 1))) = q := ⟨_, rfl⟩
   rw [hw2] at hconv
   obtain ⟨g, hg⟩ : ∃ q, w1.heap.size = q := ⟨_, rfl⟩
   have hcell : ∀ j (hj : j < T.data.size), w2.cell? ⟨g, j, none⟩ = some (.int .u8 ((T.data[j]'hj).toNat : Int)) := fun j hj => by
    rw [← hw2, ← hg]
    exact (World.cell?_alloc_mark w1.drew _ _ _ j).trans (bytesRow_at T cap j hj)
   rw [hg] at hconv
   have r2 : Wr [] w1 w2 := by rw [← hw2]; exact ((Wr.refl [] w1).drew).alloc _
   have b2 := b1.wr0 r2
   have acc : Wr [b] w w2 := r1.trans r2.nil
   have y0 := b1.cell 0
   have y2 := b1.cell 2
   simp only [qgaq, qgzq, qgsq] at y0 y2
   have x0 := b2.cell 0
   have x1 := b2.frozen 0
   simp only [qgaq, qgzq] at x0
   have hsl : S.extract size l.length = ⟨(l.drop size).toArray⟩ := by
    rw [← hS]
    apply ByteArray.ext
    rw [ByteArray.data_extract]
    simp
    exact List.take_of_length_le (by simp)
   rw [hTs] at hconv
   have B2 := Lib.hid b2
   have HCELL := Lib.hid hcell
   have HTE := Lib.hid hTe
   have HTS := Lib.hid hTs
   have HSL := Lib.hid hsl
   have ACC := Lib.hid acc
   clear hcell hTe b2 b1 r1 r2 hw2 hsl acc HB hTs hS
   go_upto_region 13 with (fail)
   clear c0 c1 c2 z0 z2 y0 y2 hconv hw1
   go_loop [1, 66] (fun v i => ∃ k : Nat, k ≤ size ∧ i = .int .i64 k ∧ v = .int .u64 ((valN (l.take k) : Nat) : Int)) (fun _ i => size - (intOf i).toNat)
   case atStart => exact ⟨0, by omega, rfl, rfl⟩
   case round =>
    obtain ⟨k, hk, rfl, rfl⟩ := hrel
    by_cases hkl : k < size
    ·have hi0 : (0 : Int) ≤ (k : Int) := by omega
     have hi1 : (k : Int) < (size : Int) := by omega
     have hkl2 : k < l.length := by omega
     have hkT : k < T.data.size := by have := HTS.out; show k < T.size; omega
     have hc := HCELL.out k hkT
     have hb : T.data[k]'hkT = l[k]'hkl2 := by
      have e := HTE.out
      have e2 : T.data[k]? = l[k]? := by
       rw [e, qgaq, List.getElem?_take_of_lt hkl]
      rw [Array.getElem?_eq_getElem hkT, List.getElem?_eq_getElem hkl2] at e2
      exact Option.some.inj e2
     rw [hb] at hc
     have hv : valN (l.take (k + 1)) = 256 * valN (l.take k) + (l[k]'hkl2).toNat := by
      rw [List.take_succ_eq_append_getElem hkl2, valN_snoc]
     have hn : valN (l.take k) < 72057594037927936 := by
      have h1 := (numL_valN k (l.take k) (by rw [List.length_take]; omega)).2
      have h2 : 256 ^ k ≤ 256 ^ 7 := Nat.pow_le_pow_right (by decide) (by omega)
      have h3 : (256 : Nat) ^ 7 = 72057594037927936 := by decide
      omega
     have hor := or_step _ _ hn (l[k]'hkl2).toNat_lt
     rw [← hv] at hor
     have hcw : IntKind.u64.wrap (((l[k]'hkl2).toNat : Nat) : Int) = (((l[k]'hkl2).toNat : Nat) : Int) := by have := (l[k]'hkl2).toNat_lt; rw [IntKind.wrap_u64]; omega
     generalize (l[k]'hkl2).toNat = c at *
     obtain ⟨N2, hN2⟩ : ∃ q, valN (l.take (k + 1)) = q := ⟨_, rfl⟩
     rw [hN2] at hor hv
     have HN2 := Lib.hid hN2
     clear hN2
     generalize valN (l.take k) = N1 at *
     rw [show ((256 * N1 : Nat) : Int) = (N1 : Int) * 256 by omega] at hor
     clear hb
     go_wp2_with fail
     refine ⟨⟨k + 1, by omega, by push_cast; rfl, ?_⟩, by simp only [intOf]; omega⟩
     rw [HN2.out]
     congr 1
     omega
    ·obtain rfl : k = size := by omega
     go_wp2_with fail
     go_ret
     refine ⟨rfl, ACC.out.trans ((Wr.refl _ _).setOn (by simp) _), ?_⟩
     have := B2.out.set_ 0 (.string (S.extract k l.length))
     rw [HSL.out] at this ⊢
     exact this
end Go.Proofs.YtmpbkfbjmmoapaaGreat

/- iface's walk, reading: numbers, bytes, truths: walked. Conditions: the walk reads. -/
namespace Go.Proofs.YtmpbkfbjmmoapaaGreat
open Go.RowKit
set_option linter.unusedVariables false
set_option linter.unusedSimpArgs false
def PutL (b : Nat) (p : Addr) (v : Value) (r : Rd) (w : World) (e : Ending) (w' : World) : Prop := e = .returned (.tuple #[]) ∧ ∃ w1, Wr [b] w w1 ∧ WlkR w1 b r ∧ w' = w1.setCell p v
theorem WlkR.lt {w : World} {b : Nat} {r : Rd} (h : WlkR w b r) : b < w.heap.size := Blk.lt h
theorem num_lt {k : Nat} (hk : k ≤ 8) (r : Rd) : (r.num k).1 < 256 ^ k := by
 unfold Rd.num Rd.raw
 split
 ·show 0 < _
  exact Nat.pow_pos (by decide)
 ·rename_i h
  have := (numL_valN k (r.s.take k) (by rw [List.length_take]; omega)).2
  exact this
theorem sign_eq (n : Nat) (h : n < 4294967296) : wrap64 (wrap32 (n : Int)) = signN n := by
 unfold wrap64 wrap32 signN
 split <;> omega
theorem sign_64 (n : Nat) (h : n < 4294967296) : wrap64 (signN n) = signN n := by
 unfold wrap64 signN
 split <;> omega
section
variable (b g j : Nat) (r : Rd) (w : World) (hb : WlkR w b r) (hg : g ≠ b)
include hb
theorem count_r (n : Int) :
  Calls Tryz.prog 75 #[.pointer (some ⟨b, 0, none⟩), .int .i64 n] w fun e w' => e = .returned (.int .i64 ((r.num 2).1 : Int)) ∧ Wr [b] w w' ∧ WlkR w' b (r.num 2).2 := by
 have h := fun m => bytes_r b 2 m r (by omega) w hb
 have hl := num_lt (k := 2) (by omega) r
 generalize r.num 2 = rr at *
 obtain ⟨v, r'⟩ := rr
 simp only at hl h ⊢
 have e1 : IntKind.i64.wrap (v : Int) = (v : Int) := by rw [IntKind.wrap_i64]; omega
 have e2 : wrap64 (v : Int) = (v : Int) := by unfold wrap64; omega
 have H := Lib.hid h
 clear hb h
 go_enter Tryz.func75, Tryz.ntmps75
 go_wp2_with fail
 refine (H.out _).mono ?_
 rintro e w1 ⟨rfl, r1, b1⟩
 go_wp2_with fail
 go_ret
 exact ⟨rfl, r1, b1⟩
include hg
set_option maxHeartbeats 1000000 in
theorem number_r (x : Int) (hc : w.cell? ⟨g, j, none⟩ = some (.int .i64 x)) (hz : w.frozen? ⟨g, j, none⟩ = false) :
  Calls Tryz.prog 76 #[.pointer (some ⟨b, 0, none⟩), .pointer (some ⟨g, j, none⟩)] w (PutL b ⟨g, j, none⟩ (.int .i64 r.four.1) r.four.2 w) := by
 have h := fun m => bytes_r b 4 m r (by omega) w hb
 have hl := num_lt (k := 4) (by omega) r
 unfold Rd.four
 generalize r.num 4 = rr at *
 obtain ⟨v, r'⟩ := rr
 simp only at hl h ⊢
 have e1 := sign_eq v hl
 have H := Lib.hid h
 have HC := Lib.hid hc
 have HZ := Lib.hid hz
 clear hb h hz
 go_enter Tryz.func76, Tryz.ntmps76
 go_wp2_with fail
 refine (H.out _).mono ?_
 rintro e w1 ⟨rfl, r1, b1⟩
 have c1 := r1.cellOf HC.out (by simpa using hg)
 have z1 := r1.frozenOf HC.out HZ.out (by simpa using hg)
 clear hc
 go_wp2_with fail
 refine bodyPost_end (results_none Tryz.results76 _ _ _) rfl ?_
 exact ⟨rfl, w1, r1, b1, rfl⟩
set_option maxHeartbeats 1000000 in
theorem place_r (x : Int) (hc : w.cell? ⟨g, j, none⟩ = some (.int .i64 x)) (hz : w.frozen? ⟨g, j, none⟩ = false) :
  Calls Tryz.prog 57 #[.pointer (some ⟨b, 0, none⟩), .pointer (some ⟨g, j, none⟩)] w (PutL b ⟨g, j, none⟩ (.int .i64 r.four.1) r.four.2 w) := by
 have hbl := hb.lt
 obtain ⟨w0, hw0⟩ : ∃ q, w.alloc (.cells #[.int .i64 x] 2) = q := ⟨_, rfl⟩
 obtain ⟨g0, hg0⟩ : ∃ q, w.heap.size = q := ⟨_, rfl⟩
 have r0 : Wr [] w w0 := by rw [← hw0]; exact (Wr.refl _ _).alloc _
 have b0 : Blk w0 g0 2 #[.int .i64 x] := by rw [← hw0, ← hg0]; exact Blk.new _ _ _
 have hgb : g0 ≠ b := by omega
 have h := number_r b g0 0 r w0 (Blk.wr0 hb r0) hgb x (b0.cell 0) (b0.frozen 0)
 have hl := num_lt (k := 4) (by omega) r
 unfold Rd.four at h ⊢
 generalize r.num 4 = rr at *
 obtain ⟨v, r'⟩ := rr
 simp only at hl h ⊢
 have e64 := sign_64 v hl
 generalize signN v = sv at *
 have hwg : w.heap.size ≤ g0 := by omega
 have hlt : g0 < w0.heap.size := b0.lt
 have H := Lib.hid h
 have HC := Lib.hid hc
 have HZ := Lib.hid hz
 have R0 := Lib.hid r0
 have HW0 := Lib.hid hw0
 have HG0 := Lib.hid hg0
 have B0 := Lib.hid b0
 clear hb h hz b0 r0 hw0 hg0
 go_enter Tryz.func57, Tryz.ntmps57
 go_upto_region 1 with (fail)
 rw [HG0.out]
 rw [HW0.out]
 clear hc
 go_wp2_with fail
 refine H.out.mono ?_
 rintro e w1 ⟨rfl, w2, r2, b2, rfl⟩
 have q2 := (B0.out.wr r2 (by simpa using hgb)).set_ 0 (.int .i64 sv)
 have r3 : Wr [b] w (w2.setCell ⟨g0, 0, none⟩ (.int .i64 sv)) := (R0.out.nil.trans r2).setNew hwg _
 have b3 : WlkR (w2.setCell ⟨g0, 0, none⟩ (.int .i64 sv)) b r' := Blk.far b2 (fun e => hgb e.symm) _
 generalize w2.setCell ⟨g0, 0, none⟩ (.int .i64 sv) = w3 at *
 have c0 := q2.cell 0
 simp only [qsaq, qszq, qgaq, qgzq] at c0
 have c1 := r3.cellOf HC.out (by simpa using hg)
 have z1 := r3.frozenOf HC.out HZ.out (by simpa using hg)
 go_wp2_with fail
 refine bodyPost_end (results_none Tryz.results57 _ _ _) rfl ?_
 exact ⟨rfl, w3, r3, b3, rfl⟩
set_option maxHeartbeats 1000000 in
theorem byte_r (x : Int) (hc : w.cell? ⟨g, j, none⟩ = some (.int .u8 x)) (hz : w.frozen? ⟨g, j, none⟩ = false) :
  Calls Tryz.prog 56 #[.pointer (some ⟨b, 0, none⟩), .pointer (some ⟨g, j, none⟩)] w (PutL b ⟨g, j, none⟩ (.int .u8 r.one.1) r.one.2 w) := by
 have h := fun m => bytes_r b 1 m r (by omega) w hb
 have hl := num_lt (k := 1) (by omega) r
 unfold Rd.one
 generalize r.num 1 = rr at *
 obtain ⟨v, r'⟩ := rr
 simp only at hl h ⊢
 have e1 : IntKind.u8.wrap (v : Int) = (v : Int) := by rw [IntKind.wrap_u8]; omega
 have H := Lib.hid h
 have HC := Lib.hid hc
 have HZ := Lib.hid hz
 clear hb h hz
 go_enter Tryz.func56, Tryz.ntmps56
 go_wp2_with fail
 refine (H.out _).mono ?_
 rintro e w1 ⟨rfl, r1, b1⟩
 have c1 := r1.cellOf HC.out (by simpa using hg)
 have z1 := r1.frozenOf HC.out HZ.out (by simpa using hg)
 clear hc
 go_wp2_with fail
 refine bodyPost_end (results_none Tryz.results56 _ _ _) rfl ?_
 exact ⟨rfl, w1, r1, b1, rfl⟩
end
end Go.Proofs.YtmpbkfbjmmoapaaGreat

/- A region that draws its order, whose last store hits a cell that it loads: the loads may be taken first, under a condition on the world that is owed until that store alone. No conditions. -/
namespace Go.Proofs.YtmpbkfbjmmoapaaGreat
open Go
section
variable {P : Program} {ops : Array Oper} {Q : Exit → Act → World → Prop} {md : Region.Mode} {S : Array Bool → World → Prop}
def ClosedL (md : Region.Mode) (ops : Array Oper) (listed : Array Bool) : Prop :=
 ∀ j oj, ops[j]? = some oj → listed.getD j false = true → ∀ e ∈ oj.after, Region.binds md e = true → listed.getD e.on false = true
theorem ClosedL.set {listed : Array Bool} (h : ClosedL md ops listed) {i : Nat} (hi : i ∈ Region.ready md ops listed) : ClosedL md ops (listed.setIfInBounds i true) := by
 obtain ⟨_, oi, hoi, hall⟩ := mem_ready.1 hi
 intro j oj hj hl e he hb
 by_cases hij : i = j
 ·subst hij
  have : oj = oi := Option.some.inj (hj.symm.trans hoi)
  subst this
  exact getD_set_true (hall e he hb)
 ·rw [getD_set_ne false hij] at hl
  exact getD_set_true (h j oj hj hl e he hb)
theorem ClosedL.start (n : Nat) : ClosedL md ops (Array.replicate n false) := by
 intro j oj _ hl
 have : (Array.replicate n false).getD j false = false := by
  rcases Nat.lt_or_ge j n with h | h
  ·simp [h]
  ·simp [h]
 rw [this] at hl
 cases hl
def YieldsL (P : Program) (md : Region.Mode) (ops : Array Oper) (S : Array Bool → World → Prop) (i : Nat) (o : Oper) (v : Value) (a : Act) : Prop :=
 (Region.wanted o (yielded ops a.tmps) = true ∧ ∀ l w, ClosedL md ops l → l.getD i true = false → S l w → (execOp a.eval o).run P w = .ok (.value v) w) ∨
 (Region.wanted o (yielded ops a.tmps) = false ∧ v = undef)
def wpAnyL (P : Program) (md : Region.Mode) (ops : Array Oper) (Q : Exit → Act → World → Prop) (S : Array Bool → World → Prop) : Nat → Array Bool → Act → World → Prop
 | 0, listed, a, w => Region.ready md ops listed = [] ∧ Q .normal a w
 | fuel + 1, listed, a, w =>
  (Region.ready md ops listed = [] → Q .normal a w) ∧
  ∀ i ∈ Region.ready md ops listed, wpOp P ops Q i (fun a' w' => S (listed.setIfInBounds i true) w' ∧ wpAnyL P md ops Q S fuel (listed.setIfInBounds i true) a' w') a w
theorem wpAny_of_L : ∀ (fuel : Nat) (listed : Array Bool) (a : Act) (w : World), wpAnyL P md ops Q S fuel listed a w → wpAny P md ops Q fuel listed a w
 | 0, _, _, _, h => h
 | fuel + 1, _, _, _, h => ⟨h.1, fun i hi => wpOp_mono (fun a' w' h' => wpAny_of_L fuel _ a' w' h'.2) (h.2 i hi)⟩
theorem wpAnyL_first {i : Nat} {oi : Oper} {v : Value} (hi : ops[i]? = some oi) (hsel : ∀ (j : Nat) (o : Oper) cs b, ops[j]? = some o → o.op ≠ .select cs b)
  (hQ : ∀ c a w, Q (.panic c) (a.put oi.dst v) w → Q (.panic c) a w)
  (hSi : ∀ l w, S (l.setIfInBounds i true) w ↔ S l w) :
  ∀ (fuel : Nat) (listed : Array Bool) (a : Act) (w : World),
   (∀ j oj, ops[j]? = some oj → j ≠ i → listed.getD j true = false → (∀ e ∈ oj.after, Region.binds md e = true → e.on ≠ i) → oi.apart ops oj = true) →
   i ∈ Region.ready md ops listed → YieldsL P md ops S i oi v a → ClosedL md ops listed → S listed w →
   wpAnyL P md ops Q S fuel (listed.setIfInBounds i true) (a.put oi.dst v) w → wpAnyL P md ops Q S (fuel + 1) listed a w := by
 -- what it yields now, in this world and with these listed
 have now : ∀ {listed : Array Bool} {a : Act} {w : World}, i ∈ Region.ready md ops listed → YieldsL P md ops S i oi v a → ClosedL md ops listed → S listed w →
   ∀ {K : Act → World → Prop}, K (a.put oi.dst v) w → wpOp P ops Q i K a w := by
  intro listed a w hr hy hc hS K h
  have hun := (mem_ready.1 hr).1
  unfold Go.wpOp
  simp only [hi]
  rcases hy with ⟨hw, hv⟩ | ⟨hw, rfl⟩
  ·simp only [hw, if_true, Oper.wp, hv listed w hc hun hS, Oper.upon]; exact .inl h
  ·simp only [hw, Bool.false_eq_true, if_false]; exact h
 intro fuel
 induction fuel with
 | zero =>
  intro listed a w _ hr hy hc hS H
  refine ⟨fun h => (by rw [h] at hr; cases hr), fun j hj => ?_⟩
  by_cases hji : j = i
  ·subst hji; exact now hj hy hc hS ⟨(hSi listed w).2 hS, H⟩
  ·have := ready_mono hj hji
   rw [H.1] at this
   cases this
 | succ fuel ih =>
  intro listed a w hfree hr hy hc hS H
  refine ⟨fun h => (by rw [h] at hr; cases hr), fun j hj => ?_⟩
  by_cases hji : j = i
  ·subst hji; exact now hj hy hc hS ⟨(hSi listed w).2 hS, H⟩
  ·have h1 := H.2 j (ready_mono hj hji)
   obtain ⟨hjun, oj, hoj, hall⟩ := mem_ready.1 hj
   have hnot : ∀ e ∈ oj.after, Region.binds md e = true → e.on ≠ i := fun e he hb heq => by
    have h1 := hall e he hb
    have h0 := (mem_ready.1 hr).1
    rw [heq] at h1
    rcases Nat.lt_or_ge i listed.size with h' | h'
    ·simp [h'] at h0 h1; rw [h0] at h1; cases h1
    ·simp [Array.getElem?_eq_none h'] at h1
   -- the frame apart: by the elder law, under a condition that says nothing of the world
   have hap := hfree j oj hoj hji hjun hnot
   obtain ⟨p1, p2, p3⟩ := Oper.apart_spec hap
   have hsi := fun cs b => hsel i oi cs b hi
   have hsj := fun cs b => hsel j oj cs b hoj
   have hy0 : YieldsIf P ops (fun w => ∃ l, ClosedL md ops l ∧ l.getD i true = false ∧ S l w) oi v a := hy.imp (fun ⟨hw, hv⟩ => ⟨hw, fun w ⟨l, c1, c2, c3⟩ => hv l w c1 c2 c3⟩) id
   have h2 := wpOp_putIf hoj hap hsi hsj hQ hy0 h1
   have hfree' : ∀ k ok, ops[k]? = some ok → k ≠ i → (listed.setIfInBounds j true).getD k true = false →
     (∀ e ∈ ok.after, Region.binds md e = true → e.on ≠ i) → oi.apart ops ok = true := fun k ok hk hki hun hno => by
    refine hfree k ok hk hki ?_ hno
    by_cases hjk : j = k
    ·subst hjk; exact hjun
    ·rw [getD_set_ne true hjk] at hun; exact hun
   refine wpOp_mono (fun a' w' h3 => ?_) h2
   have hcomm : (listed.setIfInBounds i true).setIfInBounds j true = (listed.setIfInBounds j true).setIfInBounds i true := Array.setIfInBounds_comm _ _ (fun e => hji e.symm)
   have h32 := h3.2.1
   have h33 := h3.2.2
   rw [hcomm] at h32 h33
   have hS' := (hSi _ w').1 h32
   have hy' : YieldsL P md ops S i oi v a' := h3.1.imp (fun ⟨hw, hv⟩ => ⟨hw, fun l w c1 c2 c3 => hv w ⟨l, c1, c2, c3⟩⟩) id
   exact ⟨hS', ih (listed.setIfInBounds j true) a' w' hfree' (ready_mono hr (fun e => hji e.symm)) hy' (hc.set hj) hS' h33⟩
theorem wpAnyL_take {i : Nat} {oi : Oper} {v : Value} {fuel : Nat} {listed : Array Bool} {a : Act} {w : World} (hi : ops[i]? = some oi)
  (hs : Region.noSelect ops = true) (hf : Region.free md ops listed i = true) (hr : (Region.ready md ops listed).contains i = true)
  (hQ : ∀ c a w, Q (.panic c) (a.put oi.dst v) w → Q (.panic c) a w) (hSi : ∀ l w, S (l.setIfInBounds i true) w ↔ S l w) (hy : YieldsL P md ops S i oi v a) (hc : ClosedL md ops listed) (hS : S listed w)
  (h : ClosedL md ops (listed.setIfInBounds i true) → S (listed.setIfInBounds i true) w → wpAnyL P md ops Q S fuel (listed.setIfInBounds i true) (a.put oi.dst v) w) : wpAnyL P md ops Q S (fuel + 1) listed a w :=
 wpAnyL_first hi (Region.noSelect_spec hs) hQ hSi fuel listed a w (Region.free_spec hi hf) (by simpa using hr) hy hc hS (h (hc.set (by simpa using hr)) ((hSi _ _).2 hS))
theorem wpAnyL_one {i : Nat} {fuel : Nat} {listed : Array Bool} {a : Act} {w : World} (hr : Region.ready md ops listed = [i]) (hc : ClosedL md ops listed)
  (h : wpOp P ops Q i (fun a' w' => S (listed.setIfInBounds i true) w' ∧ (ClosedL md ops (listed.setIfInBounds i true) → wpAnyL P md ops Q S fuel (listed.setIfInBounds i true) a' w')) a w) : wpAnyL P md ops Q S (fuel + 1) listed a w := by
 have hm : i ∈ Region.ready md ops listed := by rw [hr]; simp
 refine ⟨fun h0 => absurd (h0.symm.trans hr) (by simp), fun j hj => ?_⟩
 rw [hr] at hj
 obtain rfl : j = i := by simpa using hj
 exact wpOp_mono (fun a' w' h3 => ⟨h3.1, h3.2 (hc.set hm)⟩) h
theorem wpAnyL_step {i : Nat} {o : Oper} {fuel : Nat} {listed : Array Bool} {a : Act} {w : World} (hi : ops[i]? = some o) (hr : Region.ready md ops listed = [i]) (hc : ClosedL md ops listed)
  (h : ∀ K : Act → World → Prop, (∀ a' w', S (listed.setIfInBounds i true) w' → (ClosedL md ops (listed.setIfInBounds i true) → wpAnyL P md ops Q S fuel (listed.setIfInBounds i true) a' w') → K a' w') → if Region.wanted o (yielded ops a.tmps) = true then Oper.wp P o a w K Q else K (a.put o.dst undef) w) : wpAnyL P md ops Q S (fuel + 1) listed a w := by
 refine wpAnyL_one hr hc ?_
 unfold wpOp
 simp only [hi]
 have := h (fun a' w' => S (listed.setIfInBounds i true) w' ∧ (ClosedL md ops (listed.setIfInBounds i true) → wpAnyL P md ops Q S fuel (listed.setIfInBounds i true) a' w')) (fun a' w' h1 h2 => ⟨h1, h2⟩)
 by_cases hw : Region.wanted o (yielded ops a.tmps) = true
 ·rw [if_pos hw] at this ⊢
  exact .inl this
 ·rw [if_neg hw] at this ⊢
  exact this
theorem wpAnyL_done {listed : Array Bool} {a : Act} {w : World} (hr : Region.ready md ops listed = []) (h : Q .normal a w) : ∀ fuel, wpAnyL P md ops Q S fuel listed a w
 | 0 => ⟨hr, h⟩
 | _ + 1 => ⟨fun _ => h, by rw [hr]; simp⟩
theorem wp_region_L {id : Nat} {a : Act} {w : World} (S : Array Bool → World → Prop) (hm : P.follows .mixedOrders = true)
  (h : ClosedL .any ops (Array.replicate ops.size false) → wpAnyL P .any ops Q S ops.size (Array.replicate ops.size false) a { w with drawn := w.drawn + 1 }) : (Code.region id ops true).wp P Q a w :=
 wp_region_any hm (wpAny_of_L _ _ _ _ (h (ClosedL.start _)))
def Until (t : Nat) (C : World → Prop) : Array Bool → World → Prop := fun l w => l.getD t false = false → C w
theorem until_take (t : Nat) (C : World → Prop) {i : Nat} (hne : i ≠ t) (l : Array Bool) (w : World) : Until t C (l.setIfInBounds i true) w ↔ Until t C l w := by
 unfold Until
 rw [getD_set_ne false hne]
theorem yields_until {t : Nat} {C : World → Prop} {i : Nat} {o : Oper} {v : Value} {a : Act} (hb : (match ops[t]? with | some ot => ot.after.any fun e => Region.binds md e && e.on == i | none => false) = true)
  (h : (Region.wanted o (yielded ops a.tmps) = true ∧ ∀ w, C w → (execOp a.eval o).run P w = .ok (.value v) w) ∨ (Region.wanted o (yielded ops a.tmps) = false ∧ v = undef)) : YieldsL P md ops (Until t C) i o v a := by
 refine h.imp (fun ⟨hw, hv⟩ => ⟨hw, fun l w hc hun hS => hv w (hS ?_)⟩) id
 cases hlt : l.getD t false with
 | false => rfl
 | true =>
  exfalso
  cases hot : ops[t]? with
  | none => rw [hot] at hb; cases hb
  | some ot =>
   rw [hot] at hb
   obtain ⟨e, he, hb⟩ := Array.any_eq_true'.1 hb
   simp only [Bool.and_eq_true, beq_iff_eq] at hb
   have h2 := hc t ot hot hlt e he hb.1
   rw [hb.2] at h2
   rcases Nat.lt_or_ge i l.size with h' | h'
   ·simp [h'] at hun h2; rw [hun] at h2; cases h2
   ·simp [Array.getElem?_eq_none h'] at h2
end
end Go.Proofs.YtmpbkfbjmmoapaaGreat
