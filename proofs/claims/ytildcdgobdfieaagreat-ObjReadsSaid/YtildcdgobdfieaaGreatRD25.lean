/- obj.Unpack, body: walked. No conditions. -/
import Derived.Test.YtildcdgobdfieaaGreatRD23
import Derived.StillTailTactics
import Derived.ChangeAlike
set_option linter.unusedVariables false
set_option linter.unusedSimpArgs false
set_option maxRecDepth 100000
set_option maxHeartbeats 32000000
namespace Go.Proofs.YtildcdgobdfieaaGreat
open Go.RowKit
theorem ansS_of (s : ByteArray) : ansS s.data.toList = s := by
 unfold ansS
 rw [Array.toArray_toList]
theorem wr_set5 (w : World) (z : Nat) (u0 u1 u2 u3 u4 : Value) : Wr [z] w (((((w.setCell ⟨z, 0, none⟩ u0).setCell ⟨z, 1, none⟩ u1).setCell ⟨z, 2, none⟩ u2).setCell ⟨z, 3, none⟩ u3).setCell ⟨z, 4, none⟩ u4) :=
 (((((Wr.refl [z] w).setOn (by simp) _).setOn (by simp) _).setOn (by simp) _).setOn (by simp) _).setOn (by simp) _
theorem blk_set5 {w : World} {z : Nat} {T : TypeId} {x0 x1 x2 x3 x4 : Value} (h : Blk w z T #[x0, x1, x2, x3, x4]) (u0 u1 u2 u3 u4 : Value) : Blk (((((w.setCell ⟨z, 0, none⟩ u0).setCell ⟨z, 1, none⟩ u1).setCell ⟨z, 2, none⟩ u2).setCell ⟨z, 3, none⟩ u3).setCell ⟨z, 4, none⟩ u4) z T #[u0, u1, u2, u3, u4] := by
 have := ((((h.set_ 0 u0).set_ 1 u1).set_ 2 u2).set_ 3 u3).set_ 4 u4
 simpa using this
def UnpR (l : List UInt8) (w : World) (e : Ending) (w' : World) : Prop :=
 ∃ vp vi vn, e = .returned (.tuple #[(unpackP l).1.val vp vi vn, .string (ansS (unpackP l).2.1), .int .i64 (unpackP l).2.2]) ∧ Wr [] w w' ∧ ModL w' (fun x => w.heap.size ≤ x) vp vi vn (unpackP l).1
theorem unpack_any (l : List UInt8) (w : World) :
  Calls Tryz.prog 21 #[.string (ansS l)] w (UnpR l w) := by
 obtain ⟨q, hq⟩ : ∃ q, unpackP l = q := ⟨_, rfl⟩
 unfold UnpR
 rw [hq]
 have HQ := qh hq
 have zn := Blk.new w 28 #[.string ⟨#[]⟩, .slice none 0 0, .slice none 0 0, .int .i64 0, .slice none 0 0]
 have rn := (Wr.refl [] w).alloc (.cells #[.string ⟨#[]⟩, .slice none 0 0, .slice none 0 0, .int .i64 0, .slice none 0 0] 28)
 obtain ⟨wn, hwn⟩ : ∃ q, w.alloc (.cells #[.string ⟨#[]⟩, .slice none 0 0, .slice none 0 0, .int .i64 0, .slice none 0 0] 28) = q := ⟨_, rfl⟩
 obtain ⟨z, hz⟩ : ∃ q, w.heap.size = q := ⟨_, rfl⟩
 rw [hwn] at zn rn
 rw [hz] at zn
 have bn := Blk.new wn 109 #[.string (ansS l), .bool false]
 have zb := zn.wr0 ((Wr.refl [] wn).alloc (.cells #[.string (ansS l), .bool false] 109))
 have rb := rn.alloc (.cells #[.string (ansS l), .bool false] 109)
 have hzlt := zn.lt
 obtain ⟨wb, hwb⟩ : ∃ q, wn.alloc (.cells #[.string (ansS l), .bool false] 109) = q := ⟨_, rfl⟩
 obtain ⟨b, hb⟩ : ∃ q, wn.heap.size = q := ⟨_, rfl⟩
 rw [hwb] at bn zb rb
 rw [hb] at bn
 have hmo := omodule_o b ⟨l, false⟩ wb bn
 have hbz : z < b := by omega
 have hwz : w.heap.size ≤ z := by omega
 have hwb2 : w.heap.size ≤ b := by omega
 have HWN := qh hwn
 have HZ := qh hz
 have HWB := qh hwb
 have HB := qh hb
 have HMO := qh hmo
 have ZB := qh zb
 have RB := qh rb
 clear hq hwn hz hwb hb hmo zn rn bn zb rb hzlt
 go_in
 go_upto_region 1 with (fail)
 rw [HZ.out, HWN.out]
 go_upto_region 2 with (fail)
 rw [HB.out, HWB.out]
 go_wp2_with fail
 refine HMO.out.mono ?_
 rintro e w1 ⟨vp, vi, vn, rfl, k1, b1, ml⟩
 have huq : unpackP l = if (Rd.module ⟨l, false⟩).2.bad then (zeroMod, [], 7) else ((Rd.module ⟨l, false⟩).1, (Rd.module ⟨l, false⟩).2.s, 0) := rfl
 rw [HQ.out] at huq
 obtain ⟨qq, hqq⟩ : ∃ p, Rd.module ⟨l, false⟩ = p := ⟨_, rfl⟩
 obtain ⟨md, rs, rbad⟩ := qq
 rw [hqq] at b1 ml huq ⊢
 simp only at ml huq ⊢
 obtain ⟨Ap, cp, rfl, _, _⟩ := Sl.form ml.procs
 obtain ⟨Ai, ci, rfl, _, _⟩ := Sl.form ml.imports
 obtain ⟨An, cn, rfl, _, _⟩ := Sl.form ml.init
 unfold ModD.val ModD.cells
 have z1 := ZB.out.wr k1 (by rw [qmsq]; omega)
 have hz1 := z1.lt
 have hb1 := b1.lt
 have bm := Blk.new w1 28 #[.string md.code, .slice Ap md.procs.length cp, .slice Ai md.imports.length ci, .int .i64 md.data, .slice An md.init.length cn]
 have km := (Wr.refl [] w1).alloc (.cells #[.string md.code, .slice Ap md.procs.length cp, .slice Ai md.imports.length ci, .int .i64 md.data, .slice An md.init.length cn] 28)
 have zm := z1.wr0 km
 have rm := (RB.out.nil (l := [b])).trans (k1.trans km.nil)
 have b2 := Blk.wr0 b1 km
 have mlm := ml.wr0 km
 have HUQ := qh huq
 have HLT : Hid (z < wb.heap.size ∧ w.heap.size ≤ z) := qh ⟨ZB.out.lt, hwz⟩
 have KM := qh km
 clear hqq huq ml k1 b1 z1 km
 go_upto_region 3 with (fail)
 generalize w1.alloc (.cells #[.string md.code, .slice Ap md.procs.length cp, .slice Ai md.imports.length ci, .int .i64 md.data, .slice An md.init.length cn] 28) = wm at *
 have hmne : z ≠ w1.heap.size := by omega
 have hmnb : b ≠ w1.heap.size := by omega
 generalize w1.heap.size = zm0 at *
 have hbne : b ≠ z := by omega
 have hmne2 := Ne.symm hmne
 have hmnb2 := Ne.symm hmnb
 have hbne2 := Ne.symm hbne
 obtain ⟨m0, m1, m2, m3, m4⟩ := c5q (bm)
 obtain ⟨g0, g1, g2, g3, g4⟩ := z5q (bm)
 have y0 := (zm).cell 0
 have y1 := (zm).cell 1
 have y2 := (zm).cell 2
 have y3 := (zm).cell 3
 have y4 := (zm).cell 4
 simp only [qgaq, qgzq, qgsq] at y0 y1 y2 y3 y4
 obtain ⟨f0, f1, f2, f3, f4⟩ := z5q (zm)
 obtain ⟨d0, d1⟩ := c2q b2
 have wrf : ∀ u0 u1 u2 u3 u4, Wr [] w (((((wm.setCell ⟨z, 0, none⟩ u0).setCell ⟨z, 1, none⟩ u1).setCell ⟨z, 2, none⟩ u2).setCell ⟨z, 3, none⟩ u3).setCell ⟨z, 4, none⟩ u4) := fun u0 u1 u2 u3 u4 =>
  (rm.trans' (wr_set5 wm z u0 u1 u2 u3 u4) (fun x hx => .inr (by rw [qmsq] at hx; omega))).trans' (Wr.refl [] _) (fun _ h => by cases h) |> fun h => ⟨h.os, h.tape, h.output, h.size, fun k hk _ => h.block k hk (by rw [qmsq]; omega)⟩
 have WRF := qh wrf
 have ZM := qh zm
 have MLM := qh mlm
 clear wrf zm bm b2 rm mlm
 cases rbad with
 | true =>
  go_wp2_with fail
  refine bodyPost_ret (v := .tuple #[.agg #[.string ⟨#[]⟩, .slice none 0 0, .slice none 0 0, .int .i64 0, .slice none 0 0], .string ⟨#[]⟩, .int .i64 7]) ?_ rfl ?_
  ·have h9 := blk_set5 ZM.out (.string ⟨#[]⟩) (.slice none 0 0) (.slice none 0 0) (.int .i64 0) (.slice none 0 0)
   obtain ⟨t0, t1, t2, t3, t4⟩ := c5q (h9)
   simp [results, Tryz.results21, go_sem, t0, t1, t2, t3, t4]
  ·rw [HUQ.out]
   exact ⟨_, _, _, rfl, WRF.out _ _ _ _ _, ⟨Sl.nil _ _ 6, Sl.nil _ _ 1, Sl.nil _ _ 1⟩⟩
 | false =>
  go_upto_region 5 with (fail)
  go_region
  all_goals
   go_wp2_with fail
   refine bodyPost_ret (v := .tuple #[.agg #[.string md.code, .slice Ap md.procs.length cp, .slice Ai md.imports.length ci, .int .i64 md.data, .slice An md.init.length cn], .string (ansS rs), .int .i64 0]) ?_ rfl ?_
   ·have h9 := (blk_set5 ZM.out (.string md.code) (.slice Ap md.procs.length cp) (.slice Ai md.imports.length ci) (.int .i64 md.data) (.slice An md.init.length cn)).drew
    obtain ⟨t0, t1, t2, t3, t4⟩ := c5q (h9)
    simp [results, Tryz.results21, go_sem, t0, t1, t2, t3, t4]
    rfl
   ·rw [HUQ.out]
    refine ⟨_, _, _, rfl, (WRF.out _ _ _ _ _).drew, ?_⟩
    have kz : Wr [z] wm (((((wm.setCell ⟨z, 0, none⟩ (.string md.code)).setCell ⟨z, 1, none⟩ (.slice Ap md.procs.length cp)).setCell ⟨z, 2, none⟩ (.slice Ai md.imports.length ci)).setCell ⟨z, 3, none⟩ (.int .i64 md.data)).setCell ⟨z, 4, none⟩ (.slice An md.init.length cn)).drew := (wr_set5 wm z _ _ _ _ _).drew
    exact (MLM.out.keep kz (fun x hx => by rw [qmsq]; have := HLT.out; omega)).into (fun x hx _ => by have := HLT.out; omega)
theorem ansS_list (l : List UInt8) : (ansS l).toList = l := ByteArray.toList_mk l
theorem ansS_take (l : List UInt8) (n : Nat) : (ansS l).extract 0 n = ansS (l.take n) := by
 apply ByteArray.ext
 rw [ByteArray.data_extract]
 simp [ansS]
theorem ansS_drop (l : List UInt8) (n : Nat) : (ansS l).extract n (ansS l).size = ansS (l.drop n) := by
 rw [ansS_size]
 apply ByteArray.ext
 rw [ByteArray.data_extract]
 simp [ansS]
 exact List.take_of_length_le (by simp)
theorem body_no (kd l : List UInt8) (hl : l.length ≤ maxLen) (h : headP kd l = none) (w : World) :
  Calls Tryz.prog 54 #[.string (ansS l), .string (ansS kd)] w fun e w' => e = .returned (.tuple #[.string ⟨#[]⟩, .int .u64 0, .int .i64 7]) ∧ Wr [] w w' := by
 unfold maxLen at hl
 have hsz := ansS_size l
 have htk := ansS_take l 4
 have hq : l.length < 12 ∨ l.take 4 ≠ kd := by
  unfold headP at h
  by_cases c : l.length < 12 ∨ l.take 4 ≠ kd
  ·exact c
  ·rw [if_neg c] at h; cases h
 obtain ⟨S, hS⟩ : ∃ q, ansS l = q := ⟨_, rfl⟩
 obtain ⟨K, hK⟩ : ∃ q, ansS kd = q := ⟨_, rfl⟩
 rw [hS] at hsz htk ⊢
 rw [hK]
 by_cases c : l.length < 12
 ·have e0 : (S.size : Int) < 12 := by omega
  clear htk hS hK h hq hsz
  go_in
  go_wp2_with fail
  go_ret3
  exact ⟨rfl, Wr.refl _ _⟩
 ·have e0 : ¬ (S.size : Int) < 12 := by omega
  have e1 : (4 : Int) ≤ (S.size : Int) := by omega
  have hne : l.take 4 ≠ kd := hq.resolve_left c
  obtain ⟨A, hA⟩ : ∃ q, ansS (l.take 4) = q := ⟨_, rfl⟩
  rw [hA] at htk
  have n1 : ¬ A.toList = K.toList := by rw [← hA, ← hK, ansS_list, ansS_list]; exact hne
  have n2 : (A.toList == K.toList) = false := by simp [n1]
  clear hS hK h hq hsz hA hne c
  go_in
  go_wp2_with fail
  go_ret3
  exact ⟨rfl, Wr.refl _ _⟩
theorem body_yes (kd l : List UInt8) (hl : l.length ≤ maxLen) (k : Nat) (rest : List UInt8) (h : headP kd l = some (k, rest)) (w : World) :
  Calls Tryz.prog 54 #[.string (ansS l), .string (ansS kd)] w fun e w' => e = .returned (.tuple #[.string (ansS rest), .int .u64 (k : Int), .int .i64 0]) ∧ Wr [] w w' := by
 unfold maxLen at hl
 have hsz := ansS_size l
 have htk := ansS_take l 4
 have hdr := ansS_drop l 4
 have hq : ¬ (l.length < 12 ∨ l.take 4 ≠ kd) ∧ valN ((l.drop 4).take 8) = k ∧ l.drop 12 = rest := by
  unfold headP at h
  by_cases c : l.length < 12 ∨ l.take 4 ≠ kd
  ·rw [if_pos c] at h; cases h
  ·rw [if_neg c] at h
   simp only [Option.some.injEq, Prod.mk.injEq] at h
   exact ⟨c, h⟩
 obtain ⟨h1, h2, h3⟩ := hq
 have h12 : ¬ l.length < 12 := fun c => h1 (.inl c)
 have hkd : l.take 4 = kd := Classical.byContradiction fun c => h1 (.inr c)
 have hnum : (Rd.mk (l.drop 4) false).num 8 = (k, ⟨rest, false⟩) := by
  unfold Rd.num Rd.raw
  rw [if_neg (by rw [List.length_drop]; simp; omega)]
  simp only [List.drop_drop]
  rw [h2, ← h3]
 obtain ⟨S, hS⟩ : ∃ q, ansS l = q := ⟨_, rfl⟩
 obtain ⟨K, hK⟩ : ∃ q, ansS kd = q := ⟨_, rfl⟩
 rw [hS] at hsz htk hdr ⊢
 rw [hK]
 obtain ⟨A, hA⟩ : ∃ q, ansS (l.take 4) = q := ⟨_, rfl⟩
 rw [hA] at htk
 have n1 : A.toList = K.toList := by rw [← hA, ← hK, hkd]
 have n2 : (A.toList == K.toList) = true := by simp [n1]
 have e0 : ¬ (S.size : Int) < 12 := by omega
 have e1 : (4 : Int) ≤ (S.size : Int) := by omega
 have bn := Blk.new w 109 #[.string (ansS (l.drop 4)), .bool false]
 have rb := (Wr.refl [] w).alloc (.cells #[.string (ansS (l.drop 4)), .bool false] 109)
 obtain ⟨wb, hwb⟩ : ∃ q, w.alloc (.cells #[.string (ansS (l.drop 4)), .bool false] 109) = q := ⟨_, rfl⟩
 obtain ⟨b, hb⟩ : ∃ q, w.heap.size = q := ⟨_, rfl⟩
 rw [hwb] at bn rb
 rw [hb] at bn
 have hno := number_o b 8 ⟨l.drop 4, false⟩ (by decide) wb bn
 rw [hnum] at hno
 simp only at hno
 have HNO := qh hno
 have HWB := qh hwb
 have HB := qh hb
 have hwb2 : w.heap.size ≤ b := by omega
 have RB := qh rb
 have N1 := n1
 clear hS hK h hsz hA h1 h2 h3 h12 hkd hnum hwb hb hno bn rb n1
 go_in
 go_upto_region 4 with (fail)
 rw [HB.out, HWB.out]
 go_wp2_with fail
 refine HNO.out.mono ?_
 rintro e w1 ⟨rfl, k1, b1⟩
 have c0 := b1.cell 0
 simp only [qgaq, qgzq, qgsq] at c0
 have hfin : Wr [] w w1 := ⟨k1.os.trans RB.out.os, k1.tape.trans RB.out.tape, k1.output.trans RB.out.output, Nat.le_trans RB.out.size k1.size, fun j hj _ => (k1.block j (Nat.lt_of_lt_of_le hj RB.out.size) (by rw [qmsq]; omega)).trans (RB.out.block j hj (by simp))⟩
 have HFIN := qh hfin
 clear hfin k1 b1
 go_wp2_with fail
 go_ret3
 exact ⟨rfl, HFIN.out⟩
theorem begin_any (w : World) : Calls Tryz.prog 53 #[] w fun e w' => e = .returned (.int .u64 14695981039346656037) ∧ w = w' := by
 go_in
 go_wp2_with fail
 go_ret
 exact ⟨rfl, rfl⟩
theorem more_any (h : Nat) (hh : h < 18446744073709551616) (s : ByteArray) (hs : s.size ≤ maxLen) (w : World) :
  Calls Tryz.prog 52 #[.int .u64 (h : Int), .string s] w fun e w' => e = .returned (.int .u64 ((moreN h (natsOf s) : Nat) : Int)) ∧ w = w' := by
 unfold maxLen at hs
 go_in
 go_wp2_with fail
 go_loop [0, 8] (fun t i => ∃ k : Nat, k ≤ s.size ∧ i = .int .i64 k ∧ t = .int .u64 ((moreN h ((natsOf s).take k) : Nat) : Int)) (fun _ i => s.size - (intOf i).toNat)
 case atStart => exact ⟨0, by omega, rfl, rfl⟩
 case round =>
  obtain ⟨k, hk, rfl, rfl⟩ := hrel
  by_cases hlt : k < s.size
  ·have hlti : (k : Int) < (s.size : Int) := by omega
   have ha := moreN_lt hh ((natsOf s).take k)
   have hm : moreN h ((natsOf s).take (k + 1)) = stepN (moreN h ((natsOf s).take k)) (s[k]'hlt).toNat := by
    rw [natsOf_take s k hlt, moreN_snoc]
   have hst := step_eq (moreN h ((natsOf s).take k)) (s[k]'hlt).toNat ha (s[k]'hlt).toNat_lt
   rw [← hm] at hst
   generalize hma : moreN h ((natsOf s).take k) = a at *
   generalize hmb : moreN h ((natsOf s).take (k + 1)) = b at *
   have hc0 : (0 : Int) ≤ ((s[k]'hlt).toNat : Int) := by omega
   have hc1 : ((s[k]'hlt).toNat : Int) ≤ 255 := by have := (s[k]'hlt).toNat_lt; omega
   have hmb' := hmb
   clear hma hmb hm ha
   go_wp2_with fail
   exact ⟨⟨k + 1, by omega, rfl, by rw [hmb']⟩, by show s.size - ((k + 1 : Nat) : Int).toNat < s.size - (k : Int).toNat; omega⟩
  ·have hks : k = s.size := by omega
   subst hks
   have hl : (natsOf s).take s.size = natsOf s := List.take_of_length_le (by rw [natsOf_len]; omega)
   rw [hl]
   go_wp2_with fail
   go_ret
   exact ⟨rfl, rfl⟩
theorem of_any (s : ByteArray) (hs : s.size ≤ maxLen) (w : World) :
  Calls Tryz.prog 18 #[.string s] w fun e w' => e = .returned (.int .u64 ((ofN (moreN 14695981039346656037 (natsOf s)) : Nat) : Int)) ∧ w = w' := by
 have hb := fun w => begin_any w
 have hm := fun w => more_any 14695981039346656037 (by decide) s hs w
 have hlt := moreN_lt (h := 14695981039346656037) (by decide) (natsOf s)
 generalize moreN 14695981039346656037 (natsOf s) = x at *
 go_in
 go_wp2_with fail
 refine (hb _).mono ?_
 rintro e w1 ⟨rfl, rfl⟩
 go_wp2_with fail
 refine (hm _).mono ?_
 rintro e w1 ⟨rfl, rfl⟩
 have hx : bits .xor .u64 (x : Int) ((x : Int) / (4294967296 : Int)) = ((ofN x : Nat) : Int) := by
  have e : (x : Int) / (4294967296 : Int) = ((x >>> 32 : Nat) : Int) := by
   rw [Nat.shiftRight_eq_div_pow]
   omega
  rw [e, Go.bits_xor_u64_nat x (x >>> 32) hlt (by rw [Nat.shiftRight_eq_div_pow]; omega)]
  rfl
 go_wp2_with fail
 go_ret
 exact ⟨rfl, rfl⟩
end Go.Proofs.YtildcdgobdfieaaGreat
