/- obj's number, truth, text: walked. Conditions: the number is none below zero, the text no longer than memory. -/
import Derived.Test.YtildcdgobdfieaaGreatSY01
import Derived.Test.YtildcdgobdfieaaGreatSY02
import Derived.Laws.IdiomStrings
import Derived.Laws.Bits64b
import Derived.Deep.Cut
import Derived.Deep.DeepCutAuto
import Derived.Shelf.Strings.Builder1
import Derived.Deep.DrawnRows
set_option linter.unusedVariables false
set_option linter.unusedSimpArgs false
set_option maxRecDepth 100000
set_option maxHeartbeats 32000000
namespace Go.Proofs.YtildcdgobdfieaaGreat
open Go.RowKit
def byV (b : UInt8) : Value := .int .u8 (b.toNat : Int)
def numS (n k : Nat) : ByteArray := ⟨(numL n k).toArray⟩
theorem numS_size (n k : Nat) : (numS n k).size = k := by
 show (numL n k).toArray.size = k
 rw [List.size_toArray, numL_len]
def predI : Nat → Int
 | 0 => -1
 | m + 1 => m
theorem predI_down (m : Nat) : (m : Int) - 1 = predI m := by
 cases m with
 | zero => rfl
 | succ m => show ((m + 1 : Nat) : Int) - 1 = (m : Int); omega
theorem numL_get (n : Nat) : ∀ size m, m < size → (numL n size)[size - (m + 1)]? = some (UInt8.ofNat (n / 256 ^ m % 256))
 | 0, m, h => absurd h (by omega)
 | k + 1, m, h => by
  by_cases hm : m = k
  ·subst hm
   rw [Nat.sub_self]
   rfl
  ·rw [show k + 1 - (m + 1) = (k - (m + 1)) + 1 by omega, numL, qgsq]
   exact numL_get n k m (by omega)
theorem numL_next (n size m : Nat) (h : m < size) : (numL n size).take (size - m) = (numL n size).take (size - (m + 1)) ++ [UInt8.ofNat (n / 256 ^ m % 256)] := by
 rw [show size - m = (size - (m + 1)) + 1 by omega, List.take_add_one, numL_get n size m h]
 rfl
theorem push_obj {w : World} {base k size bytes : Nat} {t T : TypeId} {i0 : TypeInfo} {z v : Value} {xs ys : List Value} (hu : Tryz.prog.underlying t = some (.slice T)) (hi : Tryz.prog.info? T = some i0) (hz0 : i0.zero = some z) (hz1 : i0.size = size) (hz2 : i0.bytes = bytes) (hzs : z.cells.size = size) (hsz : 0 < size)
  (h : w.ownsRow base T size v k xs) {B : Nat} (hB : Blk w B T ys.toArray) (hys : ys.length = size) (h1 : ∀ u ∈ ys, u.oneCell' = true) (hk : k ≤ 65535) (hby : bytes ≤ 1000) (hbase : base ≤ w.heap.size) :
  ∃ A c w', (Builtin.append_ #[t, t] t #[v, .slice (some ⟨B, 0, none⟩) 1 1]).run Tryz.prog w = .ok (.slice A (k + 1) c) w' ∧ w'.ownsRow base T size (.slice A (k + 1) c) (k + 1) (xs ++ ys) ∧ Wr (ownL v) w w' ∧ ((Value.slice A (k + 1) c).ownBlock = v.ownBlock ∨ (Value.slice A (k + 1) c).ownBlock = some w.heap.size) := by
 have hbb : (k + 1) * bytes ≤ 140737488355328 := by
  have : (k + 1) * bytes ≤ 65536 * 1000 := Nat.mul_le_mul (by omega) hby
  omega
 obtain ⟨v', w', hrun, hown, hgrow, _, hbk⟩ := run_append_own_at (P := Tryz.prog) w base t t T i0 z size bytes hu hi hz0 hz1 hz2 hzs hsz v k _ h ⟨B, 0, none⟩ 1 1 ys (by rw [hys]; omega) (fun jj u hu => by
  rw [Addr.add_lit, Nat.zero_add, hB.cell, qgaq]
  exact hu) h1 (by unfold maxLen; omega) hbb hbase
 obtain ⟨A7, c7, hv7⟩ : ∃ A c, v' = .slice A (k + 1) c := by
  rcases hown.2 with ⟨_, h0⟩ | ⟨gg, cap, cur, e, _⟩
  ·omega
  ·exact ⟨_, _, e⟩
 subst hv7
 exact ⟨A7, c7, w', hrun, hown, Wr.ofGrownOwn hgrow, hbk⟩
theorem own_ge {w : World} {base n size : Nat} {T : TypeId} {v : Value} {xs : List Value} (h : w.ownsRow base T size v n xs) : ∀ b ∈ ownL v, base ≤ b := by
 intro b hb
 rw [mem_ownL] at hb
 rcases h.2 with ⟨rfl, _⟩ | ⟨g, cap, cur, rfl, hg, _⟩
 ·simp [Value.ownBlock] at hb
 ·simp only [Value.ownBlock, Option.some.injEq] at hb
  omega
theorem own_wr0 {w w' : World} {base n size : Nat} {T : TypeId} {v : Value} {xs : List Value} (h : w.ownsRow base T size v n xs) (hw : Wr [] w w') : w'.ownsRow base T size v n xs := by
 refine ⟨h.1, ?_⟩
 rcases h.2 with h | ⟨b, cap, cur, h1, h2, h3, h4⟩
 ·exact .inl h
 ·refine .inr ⟨b, cap, cur, h1, h2, ?_, h4⟩
  have hlt : b < w.heap.size := by
   rcases Nat.lt_or_ge b w.heap.size with hlt | hge
   ·exact hlt
   ·rw [Array.getElem?_eq_none hge] at h3; cases h3
  rw [hw.block b hlt (by simp)]
  exact h3
theorem conv_own {w : World} {base n : Nat} {v : Value} {l : List UInt8} (h : w.ownsRow base 5 1 v n (l.map byV)) (hl : 0 < l.length) : (convert 42 9 v).run Tryz.prog w = .ok (.string ⟨l.toArray⟩) w := by
 have hn := h.1
 rw [List.length_map, Nat.mul_one] at hn
 rcases h.2 with ⟨rfl, h0⟩ | ⟨b, cap, cur, rfl, _, hh, hnc, hcm, hs, ht⟩
 ·omega
 ·have := run_convert_bytes_back (P := Tryz.prog) w 42 9 5 ⟨b, 0, none⟩ cap l Tryz.underlying42 Tryz.underlying5 Tryz.underlying9 (fun j hj => by
   have := h.cells (g := b) rfl j (byV l[j]) (by rw [List.getElem?_map, List.getElem?_eq_getElem hj]; rfl)
   exact this)
  rw [hn] at this
  exact this
theorem info_u8 : (Tryz.prog.info? 5).map (fun i => (i.zero, i.size, i.bytes)) = some (some (.int .u8 0), 1, 1) := by kernel_rfl
theorem byte_eq (n m : Nat) : IntKind.u8.wrap ((n : Int) / 2 ^ (8 * m)) = ((n / 256 ^ m % 256 : Nat) : Int) := by
 have e1 : (2 : Nat) ^ (8 * m) = 256 ^ m := by rw [Nat.pow_mul]
 have e2 : (n : Int) / 2 ^ (8 * m) = ((n / 256 ^ m : Nat) : Int) := by
  rw [← e1, Int.natCast_ediv, Int.natCast_pow]
  try rfl
 rw [e2, IntKind.wrap_u8]
 omega
theorem number_int (n size : Nat) (hn : n < 9223372036854775808) (h1 : 1 ≤ size) (hs : size ≤ 8) (w : World) :
  Calls Tryz.prog 37 #[.int .i64 (n : Int), .int .i64 (size : Int)] w fun e w' => e = .returned (.string (numS n size)) ∧ Wr [] w w' := by
 obtain ⟨i0, hi0, hz0, hz1, hz2⟩ := info_parts info_u8
 have HN1 := qh h1
 have hs1 : ((size : Nat) : Int) - 1 = predI size := predI_down size
 obtain ⟨B, hB⟩ : ∃ B, w.heap.size = B := ⟨_, rfl⟩
 have HB := qh hB
 have HS1 := qh hs1
 have HS := qh hs
 clear hB hs1
 go_enter Tryz.func37, Tryz.ntmps37
 go_wp2_with fail
 go_loopw [5, 6] (fun v i wr => ∃ j : Nat, j ≤ size ∧ i = .int .i64 (predI j) ∧ wr.ownsRow B 5 1 v (size - j) (((numL n size).take (size - j)).map byV) ∧ Wr [] w wr) (fun _ i _ => (intOf i + 1).toNat)
 case atStart => exact ⟨size, Nat.le_refl _, by rw [← HS1.out], by rw [Nat.sub_self, List.take_zero]; exact ⟨rfl, .inl ⟨rfl, rfl⟩⟩, Wr.refl _ _⟩
 case round =>
  obtain ⟨j, hj, rfl, hown, acc⟩ := hrel
  cases j with
  | zero =>
   have hv := hown
   rw [Nat.sub_zero, List.take_of_length_le (Nat.le_of_eq (numL_len n size))] at hv
   have hcv := conv_own hv (by rw [numL_len]; exact HN1.out)
   have ACC := qh acc
   clear hown hv acc
   rw [show predI 0 = -1 from rfl]
   go_wp2_with fail
   go_ret
   exact ⟨rfl, ACC.out⟩
  | succ m =>
   rw [show predI (m + 1) = (m : Int) from rfl]
   have hnx := numL_next n size m (by omega)
   obtain ⟨q, hq⟩ : ∃ q, n / 256 ^ m % 256 = q := ⟨_, rfl⟩
   have hq8 : q < 256 := by rw [← hq]; exact Nat.mod_lt _ (by decide)
   have hbe := byte_eq n m
   rw [hq] at hnx hbe
   obtain ⟨kk, hkk⟩ : ∃ kk, size - (m + 1) = kk := ⟨_, rfl⟩
   have hkk2 : size - m = kk + 1 := by omega
   rw [hkk] at hown hnx
   rw [hkk2] at hnx
   have b1 := Blk.new wr 5 #[.int .u8 (q : Int)]
   have own1 := own_wr0 hown ((Wr.refl [] wr).alloc (.cells #[.int .u8 (q : Int)] 5))
   have hBs : B ≤ wr.heap.size := by rw [← HB.out]; exact acc.size
   obtain ⟨A', c', w', hrun, hown', r1, _⟩ := push_obj (ys := [.int .u8 (q : Int)]) Tryz.underlying42 hi0 hz0 hz1 hz2 rfl (by decide) own1 b1 rfl (by simp [Value.oneCell']) (by have := HS.out; omega) (by decide) (by simp; omega)
   have acc' : Wr [] w w' := (acc.alloc _).trans' r1 (fun x hx => .inr (by rw [HB.out]; exact own_ge hown x hx))
   have hown2 : w'.ownsRow B 5 1 (.slice A' (kk + 1) c') (kk + 1) (((numL n size).take (kk + 1)).map byV) := by
    rw [hnx, List.map_append]
    have e : ([UInt8.ofNat q].map byV) = [Value.int .u8 (q : Int)] := by
     show [Value.int .u8 ((UInt8.ofNat q).toNat : Int)] = _
     rw [toNat_ofNat q hq8]
    rw [e]
    exact hown'
   have HRUN := qh hrun
   have OWN2 := qh hown2
   have ACC2 := qh acc'
   have HKK2 := qh hkk2
   have HJ := qh hj
   have hm0 : (0 : Int) ≤ (m : Int) := by omega
   have hm8 : (m : Int) ≤ 8 := by have := HS.out; omega
   clear hown own1 b1 hBs hrun hown' r1 acc' hown2 hnx hq hkk hkk2 hj acc
   go_wp2_with (at_builtin; refine wpList_append_run rfl _ _ _ rfl _ _ rfl rfl _ _ HRUN.out ?_)
   refine ⟨⟨m, by have := HJ.out; omega, by rw [predI_down], by rw [HKK2.out]; exact OWN2.out, ACC2.out⟩, ?_⟩
   show (intOf (.int .i64 ((m : Int) - 1)) + 1).toNat < (intOf (.int .i64 (m : Int)) + 1).toNat
   simp only [intOf]
   omega
theorem number_uint16 (n size : Nat) (hn : n < 65536) (h1 : 1 ≤ size) (hs : size ≤ 8) (w : World) :
  Calls Tryz.prog 45 #[.int .u16 (n : Int), .int .i64 (size : Int)] w fun e w' => e = .returned (.string (numS n size)) ∧ Wr [] w w' := by
 obtain ⟨i0, hi0, hz0, hz1, hz2⟩ := info_parts info_u8
 have HN1 := qh h1
 have hs1 : ((size : Nat) : Int) - 1 = predI size := predI_down size
 obtain ⟨B, hB⟩ : ∃ B, w.heap.size = B := ⟨_, rfl⟩
 have HB := qh hB
 have HS1 := qh hs1
 have HS := qh hs
 clear hB hs1
 go_enter Tryz.func45, Tryz.ntmps45
 go_wp2_with fail
 go_loopw [5, 6] (fun v i wr => ∃ j : Nat, j ≤ size ∧ i = .int .i64 (predI j) ∧ wr.ownsRow B 5 1 v (size - j) (((numL n size).take (size - j)).map byV) ∧ Wr [] w wr) (fun _ i _ => (intOf i + 1).toNat)
 case atStart => exact ⟨size, Nat.le_refl _, by rw [← HS1.out], by rw [Nat.sub_self, List.take_zero]; exact ⟨rfl, .inl ⟨rfl, rfl⟩⟩, Wr.refl _ _⟩
 case round =>
  obtain ⟨j, hj, rfl, hown, acc⟩ := hrel
  cases j with
  | zero =>
   have hv := hown
   rw [Nat.sub_zero, List.take_of_length_le (Nat.le_of_eq (numL_len n size))] at hv
   have hcv := conv_own hv (by rw [numL_len]; exact HN1.out)
   have ACC := qh acc
   clear hown hv acc
   rw [show predI 0 = -1 from rfl]
   go_wp2_with fail
   go_ret
   exact ⟨rfl, ACC.out⟩
  | succ m =>
   rw [show predI (m + 1) = (m : Int) from rfl]
   have hnx := numL_next n size m (by omega)
   obtain ⟨q, hq⟩ : ∃ q, n / 256 ^ m % 256 = q := ⟨_, rfl⟩
   have hq8 : q < 256 := by rw [← hq]; exact Nat.mod_lt _ (by decide)
   have hbe := byte_eq n m
   rw [hq] at hnx hbe
   obtain ⟨kk, hkk⟩ : ∃ kk, size - (m + 1) = kk := ⟨_, rfl⟩
   have hkk2 : size - m = kk + 1 := by omega
   rw [hkk] at hown hnx
   rw [hkk2] at hnx
   have b1 := Blk.new wr 5 #[.int .u8 (q : Int)]
   have own1 := own_wr0 hown ((Wr.refl [] wr).alloc (.cells #[.int .u8 (q : Int)] 5))
   have hBs : B ≤ wr.heap.size := by rw [← HB.out]; exact acc.size
   obtain ⟨A', c', w', hrun, hown', r1, _⟩ := push_obj (ys := [.int .u8 (q : Int)]) Tryz.underlying42 hi0 hz0 hz1 hz2 rfl (by decide) own1 b1 rfl (by simp [Value.oneCell']) (by have := HS.out; omega) (by decide) (by simp; omega)
   have acc' : Wr [] w w' := (acc.alloc _).trans' r1 (fun x hx => .inr (by rw [HB.out]; exact own_ge hown x hx))
   have hown2 : w'.ownsRow B 5 1 (.slice A' (kk + 1) c') (kk + 1) (((numL n size).take (kk + 1)).map byV) := by
    rw [hnx, List.map_append]
    have e : ([UInt8.ofNat q].map byV) = [Value.int .u8 (q : Int)] := by
     show [Value.int .u8 ((UInt8.ofNat q).toNat : Int)] = _
     rw [toNat_ofNat q hq8]
    rw [e]
    exact hown'
   have HRUN := qh hrun
   have OWN2 := qh hown2
   have ACC2 := qh acc'
   have HKK2 := qh hkk2
   have HJ := qh hj
   have hm0 : (0 : Int) ≤ (m : Int) := by omega
   have hm8 : (m : Int) ≤ 8 := by have := HS.out; omega
   clear hown own1 b1 hBs hrun hown' r1 acc' hown2 hnx hq hkk hkk2 hj acc
   go_wp2_with (at_builtin; refine wpList_append_run rfl _ _ _ rfl _ _ rfl rfl _ _ HRUN.out ?_)
   refine ⟨⟨m, by have := HJ.out; omega, by rw [predI_down], by rw [HKK2.out]; exact OWN2.out, ACC2.out⟩, ?_⟩
   show (intOf (.int .i64 ((m : Int) - 1)) + 1).toNat < (intOf (.int .i64 (m : Int)) + 1).toNat
   simp only [intOf]
   omega
theorem number_uint64 (n size : Nat) (hn : n < 18446744073709551616) (h1 : 1 ≤ size) (hs : size ≤ 8) (w : World) :
  Calls Tryz.prog 36 #[.int .u64 (n : Int), .int .i64 (size : Int)] w fun e w' => e = .returned (.string (numS n size)) ∧ Wr [] w w' := by
 obtain ⟨i0, hi0, hz0, hz1, hz2⟩ := info_parts info_u8
 have HN1 := qh h1
 have hs1 : ((size : Nat) : Int) - 1 = predI size := predI_down size
 obtain ⟨B, hB⟩ : ∃ B, w.heap.size = B := ⟨_, rfl⟩
 have HB := qh hB
 have HS1 := qh hs1
 have HS := qh hs
 clear hB hs1
 go_enter Tryz.func36, Tryz.ntmps36
 go_wp2_with fail
 go_loopw [5, 6] (fun v i wr => ∃ j : Nat, j ≤ size ∧ i = .int .i64 (predI j) ∧ wr.ownsRow B 5 1 v (size - j) (((numL n size).take (size - j)).map byV) ∧ Wr [] w wr) (fun _ i _ => (intOf i + 1).toNat)
 case atStart => exact ⟨size, Nat.le_refl _, by rw [← HS1.out], by rw [Nat.sub_self, List.take_zero]; exact ⟨rfl, .inl ⟨rfl, rfl⟩⟩, Wr.refl _ _⟩
 case round =>
  obtain ⟨j, hj, rfl, hown, acc⟩ := hrel
  cases j with
  | zero =>
   have hv := hown
   rw [Nat.sub_zero, List.take_of_length_le (Nat.le_of_eq (numL_len n size))] at hv
   have hcv := conv_own hv (by rw [numL_len]; exact HN1.out)
   have ACC := qh acc
   clear hown hv acc
   rw [show predI 0 = -1 from rfl]
   go_wp2_with fail
   go_ret
   exact ⟨rfl, ACC.out⟩
  | succ m =>
   rw [show predI (m + 1) = (m : Int) from rfl]
   have hnx := numL_next n size m (by omega)
   obtain ⟨q, hq⟩ : ∃ q, n / 256 ^ m % 256 = q := ⟨_, rfl⟩
   have hq8 : q < 256 := by rw [← hq]; exact Nat.mod_lt _ (by decide)
   have hbe := byte_eq n m
   rw [hq] at hnx hbe
   obtain ⟨kk, hkk⟩ : ∃ kk, size - (m + 1) = kk := ⟨_, rfl⟩
   have hkk2 : size - m = kk + 1 := by omega
   rw [hkk] at hown hnx
   rw [hkk2] at hnx
   have b1 := Blk.new wr 5 #[.int .u8 (q : Int)]
   have own1 := own_wr0 hown ((Wr.refl [] wr).alloc (.cells #[.int .u8 (q : Int)] 5))
   have hBs : B ≤ wr.heap.size := by rw [← HB.out]; exact acc.size
   obtain ⟨A', c', w', hrun, hown', r1, _⟩ := push_obj (ys := [.int .u8 (q : Int)]) Tryz.underlying42 hi0 hz0 hz1 hz2 rfl (by decide) own1 b1 rfl (by simp [Value.oneCell']) (by have := HS.out; omega) (by decide) (by simp; omega)
   have acc' : Wr [] w w' := (acc.alloc _).trans' r1 (fun x hx => .inr (by rw [HB.out]; exact own_ge hown x hx))
   have hown2 : w'.ownsRow B 5 1 (.slice A' (kk + 1) c') (kk + 1) (((numL n size).take (kk + 1)).map byV) := by
    rw [hnx, List.map_append]
    have e : ([UInt8.ofNat q].map byV) = [Value.int .u8 (q : Int)] := by
     show [Value.int .u8 ((UInt8.ofNat q).toNat : Int)] = _
     rw [toNat_ofNat q hq8]
    rw [e]
    exact hown'
   have HRUN := qh hrun
   have OWN2 := qh hown2
   have ACC2 := qh acc'
   have HKK2 := qh hkk2
   have HJ := qh hj
   have hm0 : (0 : Int) ≤ (m : Int) := by omega
   have hm8 : (m : Int) ≤ 8 := by have := HS.out; omega
   clear hown own1 b1 hBs hrun hown' r1 acc' hown2 hnx hq hkk hkk2 hj acc
   go_wp2_with (at_builtin; refine wpList_append_run rfl _ _ _ rfl _ _ rfl rfl _ _ HRUN.out ?_)
   refine ⟨⟨m, by have := HJ.out; omega, by rw [predI_down], by rw [HKK2.out]; exact OWN2.out, ACC2.out⟩, ?_⟩
   show (intOf (.int .i64 ((m : Int) - 1)) + 1).toNat < (intOf (.int .i64 (m : Int)) + 1).toNat
   simp only [intOf]
   omega
def truS (b : Bool) : ByteArray := ⟨(truL b).toArray⟩
theorem otruth_any (b : Bool) (w : World) : Calls Tryz.prog 35 #[.bool b] w fun e w' => e = .returned (.string (truS b)) ∧ w = w' := by
 cases b
 all_goals
  go_enter Tryz.func35, Tryz.ntmps35
  go_wp2_with fail
  go_ret
  exact ⟨rfl, rfl⟩
def texS (s : ByteArray) : ByteArray := ⟨(textL s).toArray⟩
theorem texS_eq (s : ByteArray) : numS s.size 1 ++ s = texS s := by
 apply ByteArray.ext
 rw [ByteArray.data_append]
 unfold numS texS textL
 apply Array.ext'
 simp
theorem otext_any (s : ByteArray) (hs : s.size ≤ 255) (w : World) : Calls Tryz.prog 34 #[.string s] w fun e w' => e = .returned (.string (texS s)) ∧ Wr [] w w' := by
 have hn := fun w => number_int s.size 1 (by omega) (by omega) (by omega) w
 have hz := numS_size s.size 1
 rw [← texS_eq]
 obtain ⟨S, hS⟩ : ∃ S, numS s.size 1 = S := ⟨_, rfl⟩
 rw [hS] at hn hz ⊢
 have hsz : ((S.size : Int) + (s.size : Int)) ≤ 9223372036854775807 := by omega
 clear hz
 have HN := qh hn
 clear hn hS
 go_enter Tryz.func34, Tryz.ntmps34
 go_wp2_with fail
 refine (HN.out _).mono ?_
 rintro e w1 ⟨rfl, r1⟩
 go_wp2_with fail
 go_ret
 exact ⟨rfl, r1⟩
end Go.Proofs.YtildcdgobdfieaaGreat

namespace Go.Proofs.YtildcdgobdfieaaGreat
open Go.Shelf Go.RowKit
theorem bld_size : (Tryz.prog.info? 92).map (·.size) = some 2 := by kernel_rfl
theorem bld_lies : liesAt Tryz.prog Tryz.prog.depth 92 (2 / Tryz.prog.cellsOf 92) 0 92 1 = true := by kernel_rfl
theorem bld_byte : (Tryz.prog.info? 5).map (fun i => (i.zero, i.size, i.bytes)) = some (some (.int .u8 0), 1, 1) := by kernel_rfl
theorem copyCheck_used (b : Nat) (w : World) (h0 : w.cell? ⟨b, 0, none⟩ = some (.pointer (some ⟨b, 0, none⟩))) :
  Calls Tryz.prog 77 #[.pointer (some ⟨b, 0, none⟩)] w fun e w' => e = .returned (.tuple #[]) ∧ w = w' := by
 obtain ⟨j, hj, _⟩ := Option.map_eq_some_iff.1 bld_size
 go_enter Tryz.func77, Tryz.ntmps77
 go_wp2
 rw [Lib.run_neq_ptr_same w _ Tryz.underlying90 hj]
 go_wp2
 go_end0
 exact ⟨rfl, rfl⟩
theorem copyCheck_fresh (b : Nat) (w : World) (h0 : w.cell? ⟨b, 0, none⟩ = some (.pointer none)) (hsh : w.shape? b = some (92, 2)) (hfz : w.frozen? ⟨b, 0, none⟩ = false) :
  Calls Tryz.prog 77 #[.pointer (some ⟨b, 0, none⟩)] w fun e w' => e = .returned (.tuple #[]) ∧ w' = w.setCell ⟨b, 0, none⟩ (.pointer (some ⟨b, 0, none⟩)) := by
 obtain ⟨j, hj, hjs⟩ := Option.map_eq_some_iff.1 bld_size
 go_enter Tryz.func77, Tryz.ntmps77
 go_wp2
 rw [Lib.run_to_unsafe w ⟨b, 0, none⟩ Tryz.underlying90 Tryz.underlying198 hj (by rw [hjs]; decide) hsh (Nat.zero_lt_succ 1)]
 simp only [Result.andThen]
 rw [Oper.upon_value]
 go_wp2
 rw [run_callFunc_extern Tryz.func103 (by kernel_rfl) (by kernel_rfl) (by kernel_rfl) (e := Extern.AbiNoEscape.same) (by kernel_rfl)]
 rw [Lib.run_noEscape]
 simp only [Result.andThen]
 rw [Oper.upon_value]
 go_wp2
 rw [Lib.run_from_unsafe w ⟨b, 0, none⟩ Tryz.underlying198 Tryz.underlying90 hj hsh bld_lies]
 simp only [Result.andThen]
 rw [Oper.upon_value]
 go_wp2
 go_end0
 exact ⟨rfl, rfl⟩
theorem copyCheck_any (B b : Nat) (bs : List Value) (w : World) (h : Lib.IsBuilder 92 5 B b bs w) :
  Calls Tryz.prog 77 #[.pointer (some ⟨b, 0, none⟩)] w fun e w' => e = .returned (.tuple #[]) ∧ (Lib.BuilderAt 92 5 B b (.pointer (some ⟨b, 0, none⟩)) bs w' ∧ Below B w w') := by
 rcases h with h | h
 ·refine (copyCheck_fresh b w h.cell0 h.shape h.frozen0).mono ?_
  rintro e w' ⟨rfl, rfl⟩
  exact ⟨rfl, h.used _, (Below.refl B w).setCell (p := ⟨b, 0, none⟩) h.1 _⟩
 ·refine (copyCheck_used b w h.cell0).mono ?_
  rintro e w' ⟨rfl, rfl⟩
  exact ⟨rfl, h, Below.refl B _⟩
theorem writeString_any (B b : Nat) (bs : List Value) (s : ByteArray) (w : World) (h : Lib.IsBuilder 92 5 B b bs w) (hlen : bs.length + s.size ≤ 140737488355328) (hBw : B ≤ w.heap.size) :
  Calls Tryz.prog 44 #[.pointer (some ⟨b, 0, none⟩), .string s] w fun e w' => e = .returned (.tuple #[.int .i64 s.size, .nilIface]) ∧ (Lib.BuilderAt 92 5 B b (.pointer (some ⟨b, 0, none⟩)) (bs ++ Lib.strCells s) w' ∧ Below B w w') := by
 obtain ⟨i0, hi, hz0, hz1, hz2⟩ := info_parts bld_byte
 have hsz : (s.size : Int) ≤ 9223372036854775807 := by omega
 go_enter Tryz.func44, Tryz.ntmps44
 go_wp2_with fail
 refine (copyCheck_any B b bs _ h).mono ?_
 rintro e w1 ⟨rfl, h1, hb1⟩
 obtain ⟨hB, v, hbk, hown, hne⟩ := h1
 have c0 : w1.cell? ⟨b, 0, none⟩ = some (.pointer (some ⟨b, 0, none⟩)) := by rw [Lib.cell_of_heap hbk]; rfl
 have c1 : w1.cell? ⟨b, 1, none⟩ = some v := by rw [Lib.cell_of_heap hbk]; rfl
 go_wp2_with (at_builtin; refine Lib.wpList_append_own_string _ rfl _ _ 42 9 rfl B 5 i0 Tryz.underlying42 Tryz.underlying9 hi hz0 hz1 hz2 _ _ _ rfl hown s rfl ?c3 ?c4 ?c5 ?_)
 case c3 => unfold maxLen; omega
 case c4 => omega
 case c5 => have := hb1.size; omega
 intro v' w2 hown' hgrow _
 have hlt : b < w1.heap.size := by
  rcases Nat.lt_or_ge b w1.heap.size with h' | h'
  ·exact h'
  ·simp [Array.getElem?_eq_none h'] at hbk
 have hb2 : w2.heap[b]? = some (.cells #[.pointer (some ⟨b, 0, none⟩), v] 92 (0, 0)) := by
  rw [hgrow.block b hlt (fun e => hne e.symm)]
  exact hbk
 have d0 : w2.cell? ⟨b, 0, none⟩ = some (.pointer (some ⟨b, 0, none⟩)) := by rw [Lib.cell_of_heap hb2]; rfl
 have d1 : w2.cell? ⟨b, 1, none⟩ = some v := by rw [Lib.cell_of_heap hb2]; rfl
 have f1 : w2.frozen? ⟨b, 1, none⟩ = false := Lib.frozen_of_heap hb2 1
 obtain ⟨ao, n', cap, rfl⟩ : ∃ ao n' cap, v' = .slice ao n' cap := by
  rcases hown'.2 with ⟨hv, _⟩ | ⟨g, cap, cur, hv, _⟩
  ·exact ⟨_, _, _, hv⟩
  ·exact ⟨_, _, _, hv⟩
 go_wp2
 go_ret2
 refine ⟨rfl, ?_, ?_⟩
 ·exact Lib.BuilderAt.put (T := 92) (e := 5) hB hb2 (bs' := bs ++ Lib.strCells s) (by simpa [Lib.strCells_length] using hown') (by decide)
 ·exact (hb1.grown hgrow (by have := hb1.size; omega) (fun k hk => (hown.lt k hk).1)).setCell (p := ⟨b, 1, none⟩) hB _
def bld_ren : Go.Shelf.Ren := ⟨fun | 169 => 46 | n => n, fun | 70 => 90 | 9 => 9 | 0 => 0 | 72 => 92 | 37 => 42 | 127 => 147 | 3 => 3 | 5 => 5 | n => n, fun | n => n⟩
theorem bld_lays : Go.Proofs.Lays.n169 Tryz.prog bld_ren := {
 mixed := by kernel_rfl
 f169 := Tryz.func46.trans (congrArg some (by kernel_rfl))
 t0 := Tryz.underlying0
 a0 := Tryz.isAgg0
 z0 := Tryz.sizeOf0
 v0 := Tryz.zeroValue0
 t3 := Tryz.underlying3
 a3 := Tryz.isAgg3
 z3 := Tryz.sizeOf3
 v3 := Tryz.zeroValue3
 t9 := Tryz.underlying9
 a9 := Tryz.isAgg9
 z9 := Tryz.sizeOf9
 v9 := Tryz.zeroValue9
 t37 := Tryz.underlying42
 a37 := Tryz.isAgg42
 z37 := Tryz.sizeOf42
 v37 := Tryz.zeroValue42
 t70 := Tryz.underlying90
 a70 := Tryz.isAgg90
 z70 := Tryz.sizeOf90
 v70 := Tryz.zeroValue90
 t72 := Tryz.underlying92
 a72 := Tryz.isAgg92
 z72 := Tryz.sizeOf92
 v72 := Tryz.zeroValue92
 t127 := Tryz.underlying147
 a127 := Tryz.isAgg147
 z127 := Tryz.sizeOf147
 v127 := Tryz.zeroValue147 }
theorem bld_extra : Builder.Extra Tryz.prog bld_ren := {
 sizeBuilder := by kernel_rfl
 liesBuilder := by kernel_rfl
 t5 := Tryz.underlying5
 a5 := Tryz.isAgg5
 z5 := Tryz.sizeOf5
 v5 := Tryz.zeroValue5
 infoByte := by kernel_rfl
 cellsByte := by kernel_rfl
 sizeByte := by kernel_rfl
 neB5 := by decide }
theorem string_any (B b : Nat) (l : List UInt8) (w : World) (h : Lib.IsBuilder 92 5 B b (Lib.byteCells l) w) (hBw : B ≤ w.heap.size) :
  Calls Tryz.prog 46 #[.pointer (some ⟨b, 0, none⟩)] w fun e w' => e = .returned (.string ⟨l.toArray⟩) ∧ Below B w w' := Any.Builder_String_any bld_lays bld_extra B b l w h hBw
end Go.Proofs.YtildcdgobdfieaaGreat

namespace Go.Proofs.YtildcdgobdfieaaGreat
def needOf (o : ObjD) : NeedD := ⟨o.module, o.uses.map UseD.module⟩
def zeroObj : ObjD := ⟨⟨#[]⟩, false, 0, [], ⟨⟨#[]⟩, [], [], 0, []⟩⟩
def lastOf {α : Type} (es : List (ByteArray × α)) (m : ByteArray) : Option α := (es.reverse.find? (fun x => decide (x.1 = m))).map Prod.snd
def named (l : List ObjD) : List (ByteArray × ObjD) := l.map fun o => (o.module, o)
def objOf (l : List ObjD) (m : ByteArray) : ObjD := (lastOf (named l) m).getD zeroObj
def numbered : Nat → List ByteArray → List (ByteArray × Int)
 | _, [] => []
 | i, m :: l => (m, (i : Int)) :: numbered (i + 1) l
def placeOf (names : List ByteArray) (m : ByteArray) : Int := (lastOf (numbered 0 names) m).getD 0
def mismatch (l : List ObjD) (o : ObjD) : Bool := o.uses.any (fun u => decide ((objOf l u.module).key ≠ u.key))
def keysAt (l : List ObjD) (n : Nat) : Nat → List ByteArray → Option (ByteArray × Int)
 | _, [] => none
 | i, m :: ms => if (objOf l m).main = decide (i + 1 = n) then if mismatch l (objOf l m) then some (m, 230) else keysAt l n (i + 1) ms else some (m, 231)
def dataOf (l : List ObjD) : List ByteArray → Int
 | [] => 0
 | m :: ms => (objOf l m).mod.data + dataOf l ms
structure ImgD where
 names : List ByteArray
 mods : List ModD
 order : List Int
def modOf (l : List ObjD) (names : List ByteArray) (m : ByteArray) : ModD := { (objOf l m).mod with imports := (objOf l m).uses.map fun u => placeOf names u.module }
def imgOf (l : List ObjD) (names : List ByteArray) : ImgD := ⟨names, names.map (modOf l names), (List.range names.length).map Int.ofNat⟩
structure LinkOk (l : List ObjD) (main : ByteArray) (img : ImgD) : Prop where
 uniq : (l.map ObjD.module).Nodup
 may : ∀ o ∈ l, objB o = true
 made : img = imgOf l img.names
 nodup : img.names.Nodup
 order : orderP (l.map needOf) main = (img.names, ⟨#[]⟩, 0)
 keys : keysAt l img.names.length 0 img.names = none
 small : img.names.length ≤ 64
 data : dataOf l img.names ≤ 65535
 last : ∃ x, img.names = x ++ [main]
 obj : ∀ (i : Nat) (m : ByteArray), img.names[i]? = some m → ∃ o ∈ l, o.module = m ∧ ∀ u ∈ o.uses, ∃ j, j < i ∧ img.names[j]? = some u.module
end Go.Proofs.YtildcdgobdfieaaGreat

namespace Go.Proofs.YtildcdgobdfieaaGreat
open Go.RowKit
def PrcD.cells (p : PrcD) : List Value := [.int .i64 p.at_, .int .i64 p.params, .int .i64 p.locals, .int .i64 p.depth, .int .i64 p.level, .bool p.func]
def UseD.cells (u : UseD) : List Value := [.string u.module, .int .u64 u.key]
def SlPrcs (w : World) (P : Nat → Prop) (v : Value) (l : List PrcD) : Prop := Sl w P 6 v l.length (l.flatMap PrcD.cells)
def SlUses (w : World) (P : Nat → Prop) (v : Value) (l : List UseD) : Prop := Sl w P 2 v l.length (l.flatMap UseD.cells)
def SlI64 (w : World) (P : Nat → Prop) (v : Value) (l : List Int) : Prop := Sl w P 1 v l.length (l.map (Value.int .i64))
def SlU16 (w : World) (P : Nat → Prop) (v : Value) (l : List Int) : Prop := Sl w P 1 v l.length (l.map (Value.int .u16))
structure ModL (w : World) (P : Nat → Prop) (vp vi vn : Value) (m : ModD) : Prop where
 procs : SlPrcs w P vp m.procs
 imports : SlI64 w P vi m.imports
 init : SlU16 w P vn m.init
def ModD.cells (m : ModD) (vp vi vn : Value) : List Value := [.string m.code, vp, vi, .int .i64 m.data, vn]
def ModD.val (m : ModD) (vp vi vn : Value) : Value := .agg (m.cells vp vi vn).toArray
structure ObjL (w : World) (P : Nat → Prop) (vu vp vi vn : Value) (o : ObjD) : Prop where
 uses : SlUses w P vu o.uses
 mod : ModL w P vp vi vn o.mod
def ObjD.cells (o : ObjD) (vu vp vi vn : Value) : List Value := [.string o.module, .bool o.main, .int .u64 o.key, vu, .string o.mod.code, vp, vi, .int .i64 o.mod.data, vn]
def SlObjs (w : World) (P : Nat → Prop) (v : Value) (l : List ObjD) : Prop :=
 ∃ xs, Sl w P 9 v l.length xs ∧ (∀ u ∈ xs, u.oneCell' = true) ∧ ∀ i o, l[i]? = some o → ∃ vu vp vi vn, (∀ j u, (o.cells vu vp vi vn)[j]? = some u → xs[i * 9 + j]? = some u) ∧ ObjL w P vu vp vi vn o
section
variable {w w' : World} {P Q : Nat → Prop} {v vu vp vi vn : Value}
theorem ModL.keep {l : List Nat} {m : ModD} (h : ModL w P vp vi vn m) (hw : Wr l w w') (hP : ∀ b, P b → b ∉ l) : ModL w' P vp vi vn m :=
 ⟨Sl.keep h.procs hw hP, Sl.keep h.imports hw hP, Sl.keep h.init hw hP⟩
theorem ModL.wr0 {m : ModD} (h : ModL w P vp vi vn m) (hw : Wr [] w w') : ModL w' P vp vi vn m := h.keep hw (fun _ _ => by simp)
theorem ModL.into {m : ModD} (h : ModL w P vp vi vn m) (hP : ∀ b, P b → b < w.heap.size → Q b) : ModL w Q vp vi vn m :=
 ⟨Sl.into h.procs hP, Sl.into h.imports hP, Sl.into h.init hP⟩
theorem ObjL.keep {l : List Nat} {o : ObjD} (h : ObjL w P vu vp vi vn o) (hw : Wr l w w') (hP : ∀ b, P b → b ∉ l) : ObjL w' P vu vp vi vn o := ⟨Sl.keep h.uses hw hP, h.mod.keep hw hP⟩
theorem ObjL.wr0 {o : ObjD} (h : ObjL w P vu vp vi vn o) (hw : Wr [] w w') : ObjL w' P vu vp vi vn o := h.keep hw (fun _ _ => by simp)
theorem ObjL.into {o : ObjD} (h : ObjL w P vu vp vi vn o) (hP : ∀ b, P b → b < w.heap.size → Q b) : ObjL w Q vu vp vi vn o := ⟨Sl.into h.uses hP, h.mod.into hP⟩
theorem SlObjs.keep {ls : List Nat} {l : List ObjD} (h : SlObjs w P v l) (hw : Wr ls w w') (hP : ∀ b, P b → b ∉ ls) : SlObjs w' P v l := by
 obtain ⟨xs, h1, h2, h3⟩ := h
 refine ⟨xs, h1.keep hw hP, h2, fun i o hi => ?_⟩
 obtain ⟨vu, vp, vi, vn, e1, e2⟩ := h3 i o hi
 exact ⟨vu, vp, vi, vn, e1, e2.keep hw hP⟩
theorem SlObjs.wr0 {l : List ObjD} (h : SlObjs w P v l) (hw : Wr [] w w') : SlObjs w' P v l := h.keep hw (fun _ _ => by simp)
theorem SlObjs.into {l : List ObjD} (h : SlObjs w P v l) (hP : ∀ b, P b → b < w.heap.size → Q b) : SlObjs w Q v l := by
 obtain ⟨xs, h1, h2, h3⟩ := h
 refine ⟨xs, h1.into hP, h2, fun i o hi => ?_⟩
 obtain ⟨vu, vp, vi, vn, e1, e2⟩ := h3 i o hi
 exact ⟨vu, vp, vi, vn, e1, e2.into hP⟩
theorem SlObjs.form {l : List ObjD} (h : SlObjs w P v l) : ∃ A c, v = .slice A l.length c ∧ l.length ≤ c ∧ c ≤ maxLen := by
 obtain ⟨xs, h1, h2, h3⟩ := h
 exact h1.form
end
theorem flat_at {α : Type} {g : α → List Value} {size : Nat} (hg : ∀ x, (g x).length = size) : ∀ (l : List α) (i j : Nat) (x : α), l[i]? = some x → j < size → (l.flatMap g)[i * size + j]? = (g x)[j]?
 | [], i, j, x, h, _ => by simp at h
 | y :: l, 0, j, x, h, hj => by
  simp only [qgzq, Option.some.injEq] at h
  subst h
  rw [List.flatMap_cons, Nat.zero_mul, Nat.zero_add, List.getElem?_append_left (by rw [hg]; exact hj)]
 | y :: l, i + 1, j, x, h, hj => by
  rw [qgsq] at h
  rw [List.flatMap_cons, List.getElem?_append_right (by rw [hg, Nat.succ_mul]; omega), hg, show (i + 1) * size + j - size = i * size + j by rw [Nat.succ_mul]; omega]
  exact flat_at hg l i j x h hj
end Go.Proofs.YtildcdgobdfieaaGreat

namespace Go.Proofs.YtildcdgobdfieaaGreat
open Go.RowKit
theorem within_any (n a b : Int) (w : World) : Calls Tryz.prog 101 #[.int .i64 n, .int .i64 a, .int .i64 b] w fun e w' => e = .returned (.bool (inB n a b)) ∧ w = w' := by
 unfold inB
 by_cases h : a ≤ n
 ·have hd : decide (a ≤ n) = true := decide_eq_true h
  rw [hd, Bool.true_and]
  go_enter Tryz.func101, Tryz.ntmps101
  go_wp2_with fail
  go_ret
  exact ⟨rfl, rfl⟩
 ·have hd : decide (a ≤ n) = false := decide_eq_false h
  rw [hd, Bool.false_and]
  go_enter Tryz.func101, Tryz.ntmps101
  go_wp2_with fail
  go_ret
  exact ⟨rfl, rfl⟩
theorem mmay_any (p : PrcD) (m : ModD) (vp vi vn : Value) (w : World) :
  Calls Tryz.prog 139 #[.agg p.cells.toArray, m.val vp vi vn] w fun e w' => e = .returned (.bool (prcB p m)) ∧ Wr [] w w' := by
 have h1 := fun w => within_any p.params 0 65535 w
 have h2 := fun w => within_any p.locals 0 65535 w
 have h3 := fun w => within_any p.depth 0 65535 w
 have h4 := fun w => within_any p.at_ 0 (m.code.size : Int) w
 have h5 := fun w => within_any p.level 1 16 w
 unfold prcB ModD.val ModD.cells PrcD.cells
 generalize inB p.params 0 65535 = b1 at *
 generalize inB p.locals 0 65535 = b2 at *
 generalize inB p.depth 0 65535 = b3 at *
 generalize inB p.at_ 0 (m.code.size : Int) = b4 at *
 generalize inB p.level 1 16 = b5 at *
 have acc := ((Wr.refl [] w).alloc (.cells #[.int .i64 p.at_, .int .i64 p.params, .int .i64 p.locals, .int .i64 p.depth, .int .i64 p.level, .bool p.func] 98)).alloc (.cells #[.string m.code, vp, vi, .int .i64 m.data, vn] 28)
 have HACC := qh acc
 clear acc
 go_enter Tryz.func139, Tryz.ntmps139
 go_wp2_with fail
 refine (h1 _).mono ?_
 rintro e w1 ⟨rfl, rfl⟩
 cases b1
 ·go_wp2_with fail
  go_ret
  exact ⟨rfl, HACC.out⟩
 go_wp2_with fail
 refine (h2 _).mono ?_
 rintro e w1 ⟨rfl, rfl⟩
 cases b2
 ·go_wp2_with fail
  go_ret
  exact ⟨rfl, HACC.out⟩
 go_wp2_with fail
 refine (h3 _).mono ?_
 rintro e w1 ⟨rfl, rfl⟩
 cases b3
 ·go_wp2_with fail
  go_ret
  exact ⟨rfl, HACC.out⟩
 go_wp2_with fail
 refine (h4 _).mono ?_
 rintro e w1 ⟨rfl, rfl⟩
 cases b4
 ·go_wp2_with fail
  go_ret
  exact ⟨rfl, HACC.out⟩
 go_wp2_with fail
 refine (h5 _).mono ?_
 rintro e w1 ⟨rfl, rfl⟩
 go_wp2_with fail
 go_ret
 exact ⟨by simp, HACC.out⟩
end Go.Proofs.YtildcdgobdfieaaGreat
