/- ref 21's number, truth; ref 15's Of: walked; rows of bytes of one's own, and what is put behind them. Conditions: numbers of at most eight bytes. -/
import Derived.Test.YtildcdgobdfieaaGreatOT01
import Derived.Test.YtildcdgobdfieaaGreatOT02
import Derived.Test.YtildcdgobdfieaaGreatOT10
import Derived.Test.YtildcdgobdfieaaGreatOT07
import Derived.Laws.MakeOwn
import Derived.Lib.AppendStr
import Derived.Test.YtildcdgobdfieaaGreatOT05
import Derived.Lib.AppendZeros
import Derived.Deep.Cut
import Derived.Deep.DeepCutAuto
import Derived.Deep.RegionHeld3
set_option linter.unusedVariables false
set_option linter.unusedSimpArgs false
set_option maxRecDepth 100000
set_option maxHeartbeats 32000000
namespace Go.Proofs.YtildcdgobdfieaaGreat
open Go.RowKit
def BOwn (B : Nat) (v : Value) (l : List UInt8) (w : World) : Prop := w.ownsRow B 5 1 v l.length (l.map byV)
section
variable {B : Nat} {v : Value} {l : List UInt8} {w w' : World}
theorem BOwn.keep0 (h : BOwn B v l w) (r : Wr [] w w') : BOwn B v l w' := own_wr0 h r
theorem BOwn.sl (h : BOwn B v l w) : Sl w (fun b => B ≤ b) 1 v l.length (l.map byV) := Sl.ofOwn h (fun b hb => own_ge h b (mem_ownL.2 hb))
theorem byV_one (l : List UInt8) : ∀ u ∈ l.map byV, u.oneCell' = true := by
 intro u hu
 obtain ⟨b, _, rfl⟩ := List.mem_map.1 hu
 rfl
theorem BOwn.app2 (h : BOwn B v l w) {P : Nat → Prop} {u : Value} {k : List UInt8} (hu : Sl w P 1 u k.length (k.map byV)) (hl : l.length + k.length ≤ 100000000) (hB : B ≤ w.heap.size) :
  ∃ v' w', (Builtin.append_ #[42, 42] 42 #[v, u]).run Tryz.prog w = .ok v' w' ∧ BOwn B v' (l ++ k) w' ∧ Wr (ownL v) w w' ∧ ∀ z, z < w.heap.size → z ∉ ownL v → z ∉ ownL v' := by
 obtain ⟨i0, hi, hz0, hz1, hz2⟩ := info_parts info_u8
 obtain ⟨v', w', hrun, hown, hgrow, hbk⟩ := run_append_sl (P := Tryz.prog) w B 42 42 5 i0 _ 1 1 Tryz.underlying42 hi hz0 hz1 hz2 rfl (by decide) v l.length _ h P u k.length _ hu (byV_one k) (by unfold maxLen; omega) (by omega) hB
 refine ⟨v', w', hrun, ?_, Wr.ofGrownOwn hgrow, fun z hz hn hm => ?_⟩
 ·unfold BOwn
  rw [List.length_append, List.map_append]
  exact hown
 ·have hm' := mem_ownL.1 hm
  rcases hbk with h1 | h1
  ·exact hn (mem_ownL.2 (h1 ▸ hm'))
  ·rw [h1] at hm'
   injection hm' with hm'
   omega
theorem strCells_by (s : ByteArray) : Lib.strCells s = s.data.toList.map byV := by
 rw [Lib.strCells_eq]
 rfl
theorem BOwn.str (h : BOwn B v l w) (s : ByteArray) (hl : l.length + s.size ≤ 100000000) (hB : B ≤ w.heap.size) :
  ∃ v' w', (Builtin.append_ #[42, 9] 42 #[v, .string s]).run Tryz.prog w = .ok v' w' ∧ BOwn B v' (l ++ s.data.toList) w' ∧ Wr (ownL v) w w' := by
 obtain ⟨i0, hi, hz0, hz1, hz2⟩ := info_parts info_u8
 obtain ⟨v', w', hrun, hown, hgrow, _⟩ := Lib.run_append_own_string (P := Tryz.prog) w B 42 9 42 5 i0 Tryz.underlying42 Tryz.underlying9 hi hz0 hz1 hz2 v l.length _ h s (by unfold maxLen; omega) (by omega) hB
 refine ⟨v', w', hrun, ?_, Wr.ofGrownOwn hgrow⟩
 unfold BOwn
 rw [List.length_append, List.map_append, ← strCells_by]
 exact hown
theorem BOwn.blk {g : Nat} (hb : Blk w g 5 (l.map byV).toArray) (hB : B ≤ g) (hl : l.length ≤ maxLen) : BOwn B (.slice (some ⟨g, 0, none⟩) l.length l.length) l w :=
 ⟨by simp, .inr ⟨g, l.length, (l.map byV).toArray, rfl, hB, hb, Nat.le_refl _, hl, by simp, by rw [List.take_of_length_le (by simp)]⟩⟩
theorem BOwn.wr (h : BOwn B v l w) {w0 : World} (r : Wr [] w0 w) (hw : w0.heap.size ≤ B) (k : Wr (ownL v) w w') : Wr [] w0 w' :=
 r.trans' k (fun x hx => .inr (Nat.le_trans hw (own_ge h x hx)))
end
theorem made_cells (n : Nat) : madeCells #[.int .u8 0] n = ((List.replicate n (0 : UInt8)).map byV).toArray := by
 apply Array.ext'
 apply List.ext_getElem?
 intro i
 by_cases h : i < n
 ·simp [madeCells, h, byV, Nat.mod_one]
 ·simp [madeCells, h, byV]
theorem made_bytesR (n : Nat) (hn : n ≤ 1000) (w : World) : (Instr.makeSlice 42 (.int .i64 (n : Int)) (.int .i64 (n : Int))).run Tryz.prog w = .ok (.slice (some ⟨w.heap.size, 0, none⟩) n n) (w.alloc (.cells (madeCells #[.int .u8 0] n) 5)) := by
 obtain ⟨i1, hi1, hy0, hy1, hy2⟩ := info_parts info_u8
 have := run_make (P := Tryz.prog) w 42 5 i1 (.int .u8 0) Tryz.underlying42 hi1 hy0 .i64 .i64 (n : Int) (n : Int) (by omega) (Int.le_refl _) (by rw [hy2]; omega) (by omega)
 rw [hy1, Nat.mul_one, Int.toNat_natCast] at this
 exact this
def tailN (n size j : Nat) : List UInt8 := List.replicate j 0 ++ (numL n size).drop j
theorem tailN_full (n size : Nat) : tailN n size size = List.replicate size 0 := by
 unfold tailN
 rw [List.drop_of_length_le (Nat.le_of_eq (numL_len n size)), List.append_nil]
theorem tailN_zero (n size : Nat) : tailN n size 0 = numL n size := by simp [tailN]
theorem tailN_len (n size j : Nat) (h : j ≤ size) : (tailN n size j).length = size := by
 unfold tailN
 rw [List.length_append, List.length_replicate, List.length_drop, numL_len]
 omega
theorem tailN_set (n size m : Nat) (h : m < size) : (tailN n size (m + 1)).set m (UInt8.ofNat (n / 256 ^ (size - (m + 1)) % 256)) = tailN n size m := by
 have hg : (numL n size)[m]? = some (UInt8.ofNat (n / 256 ^ (size - (m + 1)) % 256)) := by
  have := numL_get n size (size - (m + 1)) (by omega)
  rw [show size - (size - (m + 1) + 1) = m by omega] at this
  exact this
 unfold tailN
 rw [List.replicate_succ', List.append_assoc, List.set_append_right _ _ (by simp)]
 rw [List.length_replicate, Nat.sub_self]
 rw [List.drop_eq_getElem_cons (show m < (numL n size).length by rw [numL_len]; exact h)]
 have e := (List.getElem?_eq_some_iff.1 hg).2
 rw [e]
 rfl
def NumR (n size : Nat) (w : World) (e : Ending) (w' : World) : Prop := ∃ v, e = .returned v ∧ BOwn w.heap.size v (numL n size) w' ∧ Wr [] w w'
theorem rnumber_any (n size : Nat) (hn : n < 18446744073709551616) (h1 : 1 ≤ size) (hs : size ≤ 8) (w : World) :
  Calls Tryz.prog 39 #[.int .u64 (n : Int), .int .i64 (size : Int)] w (NumR n size w) := by
 have hmk := made_bytesR size (by omega) w
 have hb := Blk.new w 5 (madeCells #[.int .u8 0] size)
 have acc := (Wr.refl [] w).alloc (.cells (madeCells #[.int .u8 0] size) 5)
 rw [made_cells] at hb
 obtain ⟨g, hg⟩ : ∃ g, w.heap.size = g := ⟨_, rfl⟩
 obtain ⟨w0, hw0⟩ : ∃ q, w.alloc (.cells (madeCells #[.int .u8 0] size) 5) = q := ⟨_, rfl⟩
 rw [← made_cells, hw0, hg, made_cells] at hb
 rw [hw0] at acc
 have hb0 : Blk w0 g 5 ((tailN n size size).map byV).toArray := by rw [tailN_full]; exact hb
 have HG := qh hg
 have HS := qh hs
 have H1 := qh h1
 have HB0 := qh hb0
 have HW0 := qh hw0
 have ACC := qh acc
 have hp := predI_down size
 have HP := qh hp
 clear hb hb0 hw0 acc hg hp
 go_enter Tryz.func39, Tryz.ntmps39
 go_wp2_with fail
 rw [HW0.out, HG.out]
 go_loopw [0, 6] (fun x i wr => ∃ j q : Nat, j ≤ size ∧ i = .int .i64 (predI j) ∧ x = .int .u64 (q : Int) ∧ n / 256 ^ (size - j) = q ∧ Blk wr g 5 ((tailN n size j).map byV).toArray ∧ Wr [g] w0 wr) (fun _ i _ => (intOf i + 1).toNat)
 case atStart => exact ⟨size, n, Nat.le_refl _, by rw [← HP.out], rfl, by rw [Nat.sub_self]; simp, HB0.out, Wr.refl _ _⟩
 case round =>
  obtain ⟨j, q, hj, rfl, rfl, hq, hb, hr⟩ := hrel
  have HR := qh hr
  have HB := qh hb
  clear hr hb
  cases j with
  | zero =>
   rw [show predI 0 = -1 from rfl]
   go_wp2_with fail
   go_ret
   have hb := HB.out
   rw [tailN_zero] at hb
   have hbo := BOwn.blk (B := g) hb (Nat.le_refl g) (by rw [numL_len]; unfold maxLen; have := HS.out; omega)
   rw [numL_len] at hbo
   exact ⟨_, rfl, by rw [HG.out]; exact hbo, ACC.out.new (g := g) HR.out (by have := HG.out; omega)⟩
  | succ m =>
   rw [show predI (m + 1) = (m : Int) from rfl]
   have hq64 : q < 18446744073709551616 := by rw [← hq]; exact Nat.lt_of_le_of_lt (Nat.div_le_self _ _) hn
   have hbe : IntKind.u8.wrap ((q : Int) % 256) = ((q % 256 : Nat) : Int) := by rw [IntKind.wrap_u8]; omega
   have hq2 : n / 256 ^ (size - m) = q / 256 := by
    rw [← hq, Nat.div_div_eq_div_mul, ← Nat.pow_succ, show (size - (m + 1)).succ = size - m by omega]
   obtain ⟨y, hy⟩ : ∃ y, q % 256 = y := ⟨_, rfl⟩
   have hy8 : y < 256 := by rw [← hy]; exact Nat.mod_lt _ (by decide)
   rw [hy] at hbe
   have hz := (HB.out).frozen m
   have hc := (HB.out).cell m
   have hlt : m < ((tailN n size (m + 1)).map byV).toArray.size := by simp [tailN_len n size (m + 1) hj]; omega
   rw [Array.getElem?_eq_getElem hlt] at hc
   have hset := (HB.out).set_ m (.int .u8 (y : Int))
   have hts : ((tailN n size (m + 1)).map byV).toArray.setIfInBounds m (.int .u8 (y : Int)) = ((tailN n size m).map byV).toArray := by
    rw [qsaq]
    have e := tailN_set n size m (by omega)
    rw [hq, hy] at e
    rw [← e, List.map_set]
    congr 2
    show Value.int .u8 (y : Int) = .int .u8 ((UInt8.ofNat y).toNat : Int)
    rw [toNat_ofNat y hy8]
   rw [hts] at hset
   have hk := HR.out.setOn (b := g) (o := m) (List.mem_singleton.2 rfl) (.int .u8 (y : Int))
   have HSET := qh hset
   have HK := qh hk
   have HQ2 := qh hq2
   have HJ := qh hj
   have hm0 : (0 : Int) ≤ (m : Int) := by omega
   have hms : (m : Int) < (size : Int) := by omega
   generalize ((tailN n size (m + 1)).map byV).toArray[m] = old at hc
   clear hq hy hset hts hk hq2 hlt hj
   go_wp2_with fail
   refine ⟨⟨m, q / 256, by have := HJ.out; omega, by rw [predI_down], by push_cast; rfl, HQ2.out, HSET.out, HK.out⟩, ?_⟩
   show (intOf (.int .i64 ((m : Int) - 1)) + 1).toNat < (intOf (.int .i64 (m : Int)) + 1).toNat
   simp only [intOf]
   omega
def truN (b : Bool) : Nat := if b then 1 else 0
theorem rtruth_any (b : Bool) (w : World) : Calls Tryz.prog 38 #[.bool b] w fun e w' => e = .returned (.int .u8 (truN b : Int)) ∧ w = w' := by
 cases b
 all_goals
  go_enter Tryz.func38, Tryz.ntmps38
  go_wp2_with fail
  go_ret
  exact ⟨rfl, rfl⟩
end Go.Proofs.YtildcdgobdfieaaGreat

namespace Go.Proofs.YtildcdgobdfieaaGreat
open Go.RowKit
def PSt (w0 : World) (v : Value) (l : List UInt8) (wr : World) : Prop := BOwn w0.heap.size v l wr ∧ Wr [] w0 wr
theorem BOwn.le {B B' : Nat} {v : Value} {l : List UInt8} {w : World} (h : BOwn B v l w) (hb : B' ≤ B) : BOwn B' v l w :=
 ⟨h.1, h.2.imp id (fun ⟨g, cap, cur, h1, h2, h3⟩ => ⟨g, cap, cur, h1, Nat.le_trans hb h2, h3⟩)⟩
theorem byV_num (x : Int) (h0 : 0 ≤ x) (h1 : x ≤ 255) : ((numL x.toNat 1).map byV).toArray = #[.int .u8 x] := by
 show #[byV (UInt8.ofNat (x.toNat / 1 % 256))] = _
 unfold byV
 rw [toNat_ofNat _ (Nat.mod_lt _ (by decide)), Nat.div_one, Nat.mod_eq_of_lt (by omega), Int.toNat_of_nonneg h0]
theorem byV_tru (b : Bool) : (truL b).map byV = [.int .u8 (truN b : Int)] := by cases b <;> rfl
theorem truL_one (b : Bool) : (truL b).length = 1 := by cases b <;> rfl
def AppR (v u : Value) (w : World) (v' : Value) (w' : World) : Prop := (Builtin.append_ #[42, 42] 42 #[v, u]).run Tryz.prog w = .ok v' w'
section
variable {w0 wr w1 : World} {v u : Value} {l k : List UInt8} {z B : Nat}
theorem PSt.cell (h : PSt w0 v l wr) {p : Addr} {x : Value} (hc : w0.cell? p = some x) : wr.cell? p = some x := h.2.cellOf hc (by simp)
theorem PSt.keep (h : PSt w0 v l wr) (r : Wr [] wr w1) : PSt w0 v l w1 := ⟨h.1.keep0 r, h.2.trans r⟩
theorem PSt.app (h : PSt w0 v l wr) {P : Nat → Prop} (hu : Sl wr P 1 u k.length (k.map byV)) (hl : l.length + k.length ≤ 100000000) :
  ∃ v' w', AppR v u wr v' w' ∧ PSt w0 v' (l ++ k) w' ∧ Wr (ownL v) wr w' ∧ ∀ z, z < wr.heap.size → z ∉ ownL v → z ∉ ownL v' := by
 obtain ⟨v', w', h1, h2, h3, h4⟩ := h.1.app2 hu hl h.2.size
 exact ⟨v', w', h1, ⟨h2, h.1.wr h.2 (Nat.le_refl _) h3⟩, h3, h4⟩
theorem PSt.num (h : PSt w0 v l wr) (r : Wr [] wr w1) (hu : BOwn wr.heap.size u k w1) (hl : l.length + k.length ≤ 100000000) :
  ∃ v' w', AppR v u w1 v' w' ∧ PSt w0 v' (l ++ k) w' ∧ Wr (ownL v) w1 w' ∧ ∀ z, z < w1.heap.size → z ∉ ownL v → z ∉ ownL v' := (h.keep r).app hu.sl hl
theorem PSt.one (h : PSt w0 v l wr) (x : Int) (h0 : 0 ≤ x) (h1 : x ≤ 255) (hl : l.length + 1 ≤ 100000000) :
  ∃ v' w', AppR v (.slice (some ⟨wr.heap.size, 0, none⟩) 1 1) (wr.alloc (.cells #[.int .u8 x] 5)) v' w' ∧ PSt w0 v' (l ++ numL x.toNat 1) w' ∧ Wr (ownL v) (wr.alloc (.cells #[.int .u8 x] 5)) w' := by
 have r := (Wr.refl [] wr).alloc (.cells #[.int .u8 x] 5)
 have hb := BOwn.blk (B := wr.heap.size) (l := numL x.toNat 1) (w := wr.alloc (.cells #[.int .u8 x] 5)) (g := wr.heap.size) (by
  rw [byV_num x h0 h1]
  exact Blk.new wr 5 #[.int .u8 x]) (Nat.le_refl _) (by rw [numL_len]; decide)
 obtain ⟨v', w', h1, h2, h3, _⟩ := h.num r hb (by rw [numL_len]; exact hl)
 exact ⟨v', w', h1, h2, h3⟩
end
def PZt (w0 : World) (z : Nat) (cs : Array Value) (v : Value) (l : List UInt8) (wr : World) : Prop := PSt w0 v l wr ∧ z ∉ ownL v ∧ Blk wr z 98 cs
section
variable {w0 wr w1 : World} {v u : Value} {l k : List UInt8} {z B : Nat} {cs : Array Value}
theorem PZt.keep (h : PZt w0 z cs v l wr) (r : Wr [] wr w1) : PZt w0 z cs v l w1 := ⟨h.1.keep r, h.2.1, h.2.2.wr0 r⟩
theorem PZt.num (h : PZt w0 z cs v l wr) (r : Wr [] wr w1) (hu : BOwn wr.heap.size u k w1) (hl : l.length + k.length ≤ 100000000) :
  ∃ v' w', AppR v u w1 v' w' ∧ PZt w0 z cs v' (l ++ k) w' := by
 obtain ⟨v', w', h1, h2, h3, h4⟩ := h.1.num r hu hl
 have hb := h.2.2.wr0 r
 exact ⟨v', w', h1, h2, h4 z hb.lt h.2.1, hb.wr h3 h.2.1⟩
end
theorem PSt.two {w0 wr : World} {v : Value} {l : List UInt8} (h : PSt w0 v l wr) (x : Int) (h0 : 0 ≤ x) (h1 : x ≤ 255) (b : Bool) (hl : l.length + 2 ≤ 100000000) {wa : World} (hwa : (wr.alloc (.cells #[.int .u8 x, .int .u8 (truN b : Int)] 5)).drew = wa) :
  ∃ v' w', AppR v (.slice (some ⟨wr.heap.size, 0, none⟩) 2 2) wa v' w' ∧ PSt w0 v' (l ++ (numL x.toNat 1 ++ truL b)) w' ∧ Wr (ownL v) wa w' := by
 have r := ((Wr.refl [] wr).alloc (.cells #[.int .u8 x, .int .u8 (truN b : Int)] 5)).drew
 have e : ((numL x.toNat 1 ++ truL b).map byV).toArray = #[.int .u8 x, .int .u8 (truN b : Int)] := by
  have := congrArg Array.toList (byV_num x h0 h1)
  apply Array.ext'
  rw [List.map_append, byV_tru]
  exact congrArg (· ++ [Value.int .u8 (truN b : Int)]) this
 have hn : (numL x.toNat 1 ++ truL b).length = 2 := by rw [List.length_append, numL_len, truL_one]
 have hb := BOwn.blk (B := wr.heap.size) (l := numL x.toNat 1 ++ truL b) (w := (wr.alloc (.cells #[.int .u8 x, .int .u8 (truN b : Int)] 5)).drew) (g := wr.heap.size) (by
  rw [e]
  exact (Blk.new wr 5 #[.int .u8 x, .int .u8 (truN b : Int)]).drew) (Nat.le_refl _) (by rw [hn]; decide)
 rw [hn] at hb
 subst hwa
 obtain ⟨v', w', h1, h2, h3, _⟩ := h.num r hb (by rw [hn]; exact hl)
 exact ⟨v', w', h1, h2, h3⟩
theorem rnumI (x : Int) (size : Nat) (h0 : 0 ≤ x) (h1 : x ≤ 65535) (hs : 1 ≤ size) (h8 : size ≤ 8) (w : World) :
  Calls Tryz.prog 39 #[.int .u64 x, .int .i64 (size : Int)] w (NumR x.toNat size w) := by
 have := rnumber_any x.toNat size (by omega) hs h8 w
 rw [Int.toNat_of_nonneg h0] at this
 exact this
theorem packed_yes (m : ModD) (vp vi vn : Value) (P : Nat → Prop) (hm : omodB m = true) (hwd : wordsB m) (w : World) (h : ModL w P vp vi vn m) :
  Calls Tryz.prog 40 #[m.val vp vi vn] w fun e w' => ∃ v, e = .returned v ∧ BOwn w.heap.size v (packL m) w' ∧ Wr [] w w' := by
 have okm := mod_ok hm
 have OKM := qh okm
 obtain ⟨PL, hPL⟩ : ∃ q : List UInt8, packL m = q := ⟨_, rfl⟩
 rw [hPL]
 have HPL := qh hPL
 clear hPL
 have HWD := qh hwd
 obtain ⟨Ap, cp, rfl, lp1, lp2⟩ := Sl.form h.procs
 obtain ⟨Ai, ci, rfl, li1, li2⟩ := Sl.form h.imports
 obtain ⟨An, cn, rfl, ln1, ln2⟩ := Sl.form h.init
 have acc := (Wr.refl [] w).alloc (.cells #[.string m.code, .slice Ap m.procs.length cp, .slice Ai m.imports.length ci, .int .i64 m.data, .slice An m.init.length cn] 28)
 have bA := Blk.new w 28 #[.string m.code, .slice Ap m.procs.length cp, .slice Ai m.imports.length ci, .int .i64 m.data, .slice An m.init.length cn]
 obtain ⟨w0, hw0⟩ : ∃ w0, w.alloc (.cells #[.string m.code, .slice Ap m.procs.length cp, .slice Ai m.imports.length ci, .int .i64 m.data, .slice An m.init.length cn] 28) = w0 := ⟨_, rfl⟩
 obtain ⟨g, hg⟩ : ∃ g, w.heap.size = g := ⟨_, rfl⟩
 rw [hw0] at acc bA
 rw [hg] at bA
 have k1 := okm.code
 have k2 := okm.procs
 have k3 := okm.imports
 have k4 := okm.init
 have q1 : IntKind.u64.wrap (m.code.size : Int) = (m.code.size : Int) := by rw [IntKind.wrap_u64]; omega
 have q2 : IntKind.u64.wrap (m.procs.length : Int) = (m.procs.length : Int) := by rw [IntKind.wrap_u64]; omega
 have q3 : IntKind.u8.wrap (m.imports.length : Int) = (m.imports.length : Int) := by rw [IntKind.wrap_u8]; omega
 have q4 : IntKind.u64.wrap (m.init.length : Int) = (m.init.length : Int) := by rw [IntKind.wrap_u64]; omega
 have q5 : IntKind.u64.wrap m.data = m.data := by have := okm.data; rw [IntKind.wrap_u64]; omega
 have HN1 := qh (fun w => rnumber_any m.code.size 2 (by omega) (by decide) (by decide) w)
 have HN2 := qh (fun w => rnumber_any m.procs.length 2 (by omega) (by decide) (by decide) w)
 have HN4 := qh (fun w => rnumber_any m.init.length 2 (by omega) (by decide) (by decide) w)
 have HN5 := qh (fun w => rnumI m.data 2 okm.data.1 okm.data.2 (by decide) (by decide) w)
 have Hw0 := qh hw0
 have Hg := qh hg
 have HH := qh h
 have ACC := qh acc
 have c0 := bA.cell 0
 have c1 := bA.cell 1
 have c2 := bA.cell 2
 have c3 := bA.cell 3
 have c4 := bA.cell 4
 simp only [qgaq, qgzq, qgsq] at c0 c1 c2 c3 c4
 have hsz : w.heap.size ≤ w0.heap.size := acc.size
 have HSZ := qh hsz
 have C0 := qh c0
 have C1 := qh c1
 have C2 := qh c2
 have C3 := qh c3
 have C4 := qh c4
 have K1 := qh k1
 clear hw0 hg h okm hwd acc bA c1 c2 c3 c4 hsz k1
 show Calls Tryz.prog 40 #[.agg #[.string m.code, .slice Ap m.procs.length cp, .slice Ai m.imports.length ci, .int .i64 m.data, .slice An m.init.length cn]] w _
 go_enter Tryz.func40, Tryz.ntmps40
 go_upto_region 1 with (fail)
 rw [Hw0.out, Hg.out]
 go_wp2_with fail
 refine (HN1.out _).mono ?_
 rintro e w1 ⟨v1, rfl, b1, r1⟩
 have s1 : PSt w0 v1 (numL m.code.size 2) w1 := ⟨b1, r1⟩
 have c0' := s1.cell c0
 obtain ⟨v2, w2, hrun, o2, r2⟩ := s1.1.str m.code (by rw [numL_len]; have := K1.out; omega) r1.size
 have s2 : PSt w0 v2 (numL m.code.size 2 ++ m.code.data.toList) w2 := ⟨o2, s1.1.wr s1.2 (Nat.le_refl _) r2⟩
 have S2 := qh s2
 have HRUN := qh hrun
 have c1 := s2.cell C1.out
 clear s1 b1 r1 hrun o2 r2 s2 c0
 go_wp2_with (at_builtin; refine Lib.wpList_append_run _ rfl _ _ _ _ rfl _ _ rfl rfl _ _ HRUN.out ?_)
 refine (HN2.out _).mono ?_
 rintro e w3 ⟨u3, rfl, b3, r3⟩
 obtain ⟨v4, w4, hrun, s4, _, _⟩ := S2.out.num r3 b3 (by simp only [List.length_append, numL_len]; have := K1.out; have e : m.code.data.toList.length = m.code.size := rfl; omega)
 have s4' : PSt w0 v4 (packA m) w4 := s4
 have S4 := qh s4'
 have HRUN2 := qh hrun
 clear s4 s4' hrun b3 r3 c0' c1 HRUN
 go_wp2_with (at_builtin; refine wpList_append_run rfl _ _ _ rfl _ _ rfl rfl _ _ HRUN2.out ?_)
 clear HRUN2 HN1 HN2
 go_loopw [3, 4] (fun s3 s4 wr => ∃ k : Nat, k ≤ m.procs.length ∧ s4 = .int .i64 k ∧ PSt w0 s3 (packA m ++ (m.procs.take k).flatMap prcL) wr) (fun _ s4 _ => m.procs.length - (intOf s4).toNat)
 case atStart => exact ⟨0, by omega, rfl, by simpa using S4.out⟩
 case round =>
  obtain ⟨k, hk, rfl, s5⟩ := hrel
  have S5 := qh s5
  have c1 := s5.cell C1.out
  clear s5
  by_cases hlt : k < m.procs.length
  ·obtain ⟨p, hp⟩ : ∃ p, m.procs[k]? = some p := ⟨_, List.getElem?_eq_getElem hlt⟩
   obtain ⟨bp, off, c, e, _, _, hcs⟩ := prc_at HH.out.procs hp
   injection e with e1 e2 e3
   subst e1
   subst e3
   have OK := OKM.out.prc p (List.mem_of_getElem? hp)
   have tr : ∀ j u, p.cells[j]? = some u → wr.cell? ⟨bp, off + k * 6 + j, none⟩ = some u := fun j u hu => S5.out.cell (ACC.out.cellOf (hcs j u hu) (by simp))
   have x0 := tr 0 _ rfl
   have x1 := tr 1 _ rfl
   have x2 := tr 2 _ rfl
   have x3 := tr 3 _ rfl
   have x4 := tr 4 _ rfl
   have x5 := tr 5 _ rfl
   simp only [Nat.add_zero] at x0
   have hlti : (k : Int) < (m.procs.length : Int) := by omega
   have hk0 : (0 : Int) ≤ (k : Int) := by omega
   have f0 : IntKind.u64.wrap p.at_ = p.at_ := by have := OK.a; rw [IntKind.wrap_u64]; omega
   have f1 : IntKind.u64.wrap p.params = p.params := by have := OK.b; rw [IntKind.wrap_u64]; omega
   have f2 : IntKind.u64.wrap p.locals = p.locals := by have := OK.c; rw [IntKind.wrap_u64]; omega
   have f3 : IntKind.u64.wrap p.depth = p.depth := by have := OK.d; rw [IntKind.wrap_u64]; omega
   have f4 : IntKind.u8.wrap p.level = p.level := by have := OK.e; rw [IntKind.wrap_u8]; omega
   have hla : (packA m ++ (m.procs.take k).flatMap prcL).length ≤ 90000 := by
    have h1 := packA_len OKM.out
    have h2 := flat_take_len prcL 10 1024 prcL_len m.procs k (by have := OKM.out.procs; omega)
    rw [List.length_append]
    omega
   have LB := qh hla
   have HX := qh hp
   clear hcs e2 hp tr hla
   go_upto_region 8 with (fail)
   have bz := Blk.new wr 98 #[.int .i64 p.at_, .int .i64 p.params, .int .i64 p.locals, .int .i64 p.depth, .int .i64 p.level, .bool p.func]
   have rz := (Wr.refl [] wr).alloc (.cells #[.int .i64 p.at_, .int .i64 p.params, .int .i64 p.locals, .int .i64 p.depth, .int .i64 p.level, .bool p.func] 98)
   have hzn : wr.heap.size ∉ ownL u3 := fun hm => by have := (S5.out.1.lt _ (mem_ownL.1 hm)).2; omega
   have pz : PZt w0 wr.heap.size #[.int .i64 p.at_, .int .i64 p.params, .int .i64 p.locals, .int .i64 p.depth, .int .i64 p.level, .bool p.func] u3 (packA m ++ (m.procs.take k).flatMap prcL) (wr.alloc (.cells #[.int .i64 p.at_, .int .i64 p.params, .int .i64 p.locals, .int .i64 p.depth, .int .i64 p.level, .bool p.func] 98)) := ⟨S5.out.keep rz, hzn, bz⟩
   generalize wr.alloc (.cells #[.int .i64 p.at_, .int .i64 p.params, .int .i64 p.locals, .int .i64 p.depth, .int .i64 p.level, .bool p.func] 98) = wz at *
   generalize wr.heap.size = z at *
   have PZ := qh pz
   have y0 := bz.cell 0
   simp only [qgaq, qgzq] at y0
   clear bz rz hzn pz x0 x1 x2 x3 x4 x5 c1
   go_wp2_with fail
   refine (rnumI p.at_ 2 OK.a.1 OK.a.2 (by decide) (by decide) _).mono ?_
   rintro e n0 ⟨t0, rfl, nb0, nr0⟩
   obtain ⟨v0, x0, hrun, pz0⟩ := PZ.out.num nr0 nb0 (by simp only [List.length_append, numL_len]; have := LB.out; rw [List.length_append] at this; omega)
   have PZ0 := qh pz0
   have HRUN := qh hrun
   have y1 := pz0.2.2.cell 1
   simp only [qgaq, qgzq, qgsq] at y1
   clear pz0 hrun nb0 nr0 y0
   go_wp2_with (at_builtin; refine wpList_append_run rfl _ _ _ rfl _ _ rfl rfl _ _ HRUN.out ?_)
   refine (rnumI p.params 2 OK.b.1 OK.b.2 (by decide) (by decide) _).mono ?_
   rintro e n1 ⟨t1, rfl, nb1, nr1⟩
   obtain ⟨v1, x1, hrun, pz1⟩ := PZ0.out.num nr1 nb1 (by simp only [List.length_append, numL_len]; have := LB.out; rw [List.length_append] at this; omega)
   have PZ1 := qh pz1
   have HRUN := qh hrun
   have y2 := pz1.2.2.cell 2
   simp only [qgaq, qgzq, qgsq] at y2
   clear pz1 hrun nb1 nr1 y1
   go_wp2_with (at_builtin; refine wpList_append_run rfl _ _ _ rfl _ _ rfl rfl _ _ HRUN.out ?_)
   refine (rnumI p.locals 2 OK.c.1 OK.c.2 (by decide) (by decide) _).mono ?_
   rintro e n2 ⟨t2, rfl, nb2, nr2⟩
   obtain ⟨v2, x2, hrun, pz2⟩ := PZ1.out.num nr2 nb2 (by simp only [List.length_append, numL_len]; have := LB.out; rw [List.length_append] at this; omega)
   have PZ2 := qh pz2
   have HRUN := qh hrun
   have y3 := pz2.2.2.cell 3
   simp only [qgaq, qgzq, qgsq] at y3
   clear pz2 hrun nb2 nr2 y2
   go_wp2_with (at_builtin; refine wpList_append_run rfl _ _ _ rfl _ _ rfl rfl _ _ HRUN.out ?_)
   refine (rnumI p.depth 2 OK.d.1 OK.d.2 (by decide) (by decide) _).mono ?_
   rintro e n3 ⟨t3, rfl, nb3, nr3⟩
   obtain ⟨v3, x3, hrun, pz3⟩ := PZ2.out.num nr3 nb3 (by simp only [List.length_append, numL_len]; have := LB.out; rw [List.length_append] at this; omega)
   have PZ3 := qh pz3
   have HRUN := qh hrun
   clear pz3 hrun nb3 nr3 y3
   go_wp2_with (at_builtin; refine wpList_append_run rfl _ _ _ rfl _ _ rfl rfl _ _ HRUN.out ?_)
   have okl := OK.e
   obtain ⟨wa, hwa⟩ : ∃ wa, (x3.alloc (.cells #[.int .u8 p.level, .int .u8 (truN p.func : Int)] 5)).drew = wa := ⟨_, rfl⟩
   obtain ⟨v9, x9, hrun, s9, r9⟩ := PZ3.out.1.two p.level okl.1 (by omega) p.func (by simp only [List.length_append, numL_len]; have := LB.out; rw [List.length_append] at this; omega) hwa
   have y4 := PZ3.out.2.2.cell 4
   have y5 := PZ3.out.2.2.cell 5
   simp only [qgaq, qgzq, qgsq] at y4 y5
   have zn := PZ3.out.2.1
   have ZN := qh zn
   have R3 : Hid (Wr (ownL v3) ((x3.alloc (.cells #[.int .u8 p.level, .int .u8 (truN p.func : Int)] 5)).drew) x9) := qh (by rw [hwa]; exact r9)
   have hPK : PSt w0 v9 (packA m ++ (m.procs.take (k + 1)).flatMap prcL) x9 := by
    rw [flat_take_succ prcL HX.out]
    unfold prcL
    simp only [List.append_assoc] at s9 ⊢
    exact s9
   have HRUN := qh hrun
   have HWA := qh hwa
   have HPK := qh hPK
   clear hrun hwa s9 r9 zn hPK okl OK
   go_upto_region 12 with (fail)
   have hC : ∀ W, Wr (ownL v3) x3 W → W.cell? ⟨z, 4, none⟩ = some (.int .i64 p.level) ∧ W.cell? ⟨z, 5, none⟩ = some (.bool p.func) := fun W hW => ⟨hW.cellOf y4 ZN.out, hW.cellOf y5 ZN.out⟩
   have HC := qh hC
   clear hC
   refine wp_region_noPanic ?_
   refine wp_region_L (AlwO fun w' => w'.cell? ⟨z, 4, none⟩ = some (.int .i64 p.level) ∧ w'.cell? ⟨z, 5, none⟩ = some (.bool p.func)) (by kernel_rfl) (fun hcl => ?_)
   have hS : AlwO (fun w' => w'.cell? ⟨z, 4, none⟩ = some (.int .i64 p.level) ∧ w'.cell? ⟨z, 5, none⟩ = some (.bool p.func)) (Array.replicate 10 false) x3.drew := ⟨y4, y5⟩
   refine wpAnyL_take (i := 0) (oi := ?oi101) (v := ?v101) ?hi101 (by kernel_rfl) (by kernel_rfl) (by kernel_rfl) (fun _ _ _ h => h) (alwO_take _) ?hy101 hcl hS ?rest101
   case hi101 =>
    simp only [qgaq, qgsq, qgzq]
    rfl
   case hy101 =>
    refine yields_alwO (Or.inl ⟨by rfl, fun w' hS => ?_⟩)
    try go_split_ands
    go_simp
    try rfl
   case rest101 =>
   intro hcl101 hS101
   clear hcl hS
   try simp only [Act.put, qsaq, qszq, qssq]
   refine wpAnyL_take (i := 1) (oi := ?oi102) (v := ?v102) ?hi102 (by kernel_rfl) (by kernel_rfl) (by kernel_rfl) (fun _ _ _ h => h) (alwO_take _) ?hy102 hcl101 hS101 ?rest102
   case hi102 =>
    simp only [qgaq, qgsq, qgzq]
    rfl
   case hy102 =>
    refine yields_alwO (Or.inl ⟨by rfl, fun w' hS => ?_⟩)
    try go_split_ands
    go_simp
    try rfl
   case rest102 =>
   intro hcl102 hS102
   clear hcl101 hS101
   try simp only [Act.put, qsaq, qszq, qssq]
   refine wpAnyL_take (i := 2) (oi := ?oi103) (v := ?v103) ?hi103 (by kernel_rfl) (by kernel_rfl) (by kernel_rfl) (fun _ _ _ h => h) (alwO_take _) ?hy103 hcl102 hS102 ?rest103
   case hi103 =>
    simp only [qgaq, qgsq, qgzq]
    rfl
   case hy103 =>
    refine yields_alwO (Or.inl ⟨by rfl, fun w' hS => ?_⟩)
    try go_split_ands
    go_simp
    try rfl
   case rest103 =>
   intro hcl103 hS103
   clear hcl102 hS102
   try simp only [Act.put, qsaq, qszq, qssq]
   refine wpAnyL_take (i := 3) (oi := ?oi104) (v := ?v104) ?hi104 (by kernel_rfl) (by kernel_rfl) (by kernel_rfl) (fun _ _ _ h => h) (alwO_take _) ?hy104 hcl103 hS103 ?rest104
   case hi104 =>
    simp only [qgaq, qgsq, qgzq]
    rfl
   case hy104 =>
    refine yields_alwO (Or.inl ⟨by rfl, fun w' hS => ?_⟩)
    try go_split_ands
    go_simp
    try rfl
   case rest104 =>
   intro hcl104 hS104
   clear hcl103 hS103
   try simp only [Act.put, qsaq, qszq, qssq]
   refine wpAnyL_take (i := 4) (oi := ?oi105) (v := ?v105) ?hi105 (by kernel_rfl) (by kernel_rfl) (by kernel_rfl) (fun _ _ _ h => h) (alwO_take _) ?hy105 hcl104 hS104 ?rest105
   case hi105 =>
    simp only [qgaq, qgsq, qgzq]
    rfl
   case hy105 =>
    refine yields_alwO (Or.inl ⟨by rfl, fun w' hS => ?_⟩)
    try go_split_ands
    go_simp
    try rfl
   case rest105 =>
   intro hcl105 hS105
   clear hcl104 hS104
   try simp only [Act.put, qsaq, qszq, qssq]
   refine wpAnyL_take (i := 5) (oi := ?oi106) (v := ?v106) ?hi106 (by kernel_rfl) (by kernel_rfl) (by kernel_rfl) (fun _ _ _ h => h) (alwO_take _) ?hy106 hcl105 hS105 ?rest106
   case hi106 =>
    simp only [qgaq, qgsq, qgzq]
    rfl
   case hy106 =>
    refine yields_alwO (Or.inl ⟨by rfl, fun w' hS => ?_⟩)
    try go_split_ands
    go_simp
    try rfl
   case rest106 =>
   intro hcl106 hS106
   clear hcl105 hS105
   try simp only [Act.put, qsaq, qszq, qssq]
   refine wpAnyL_step (i := 6) (o := ?oi107) ?hi107 (by kernel_rfl) hcl106 ?rest107
   case hi107 =>
    simp only [qgaq, qgsq, qgzq]
    rfl
   case rest107 =>
   intro K hK
   go_simp
   go_at_call 38
   refine (rtruth_any p.func _).mono ?_
   rintro e a6 ⟨rfl, rfl⟩
   refine hK _ _ (HC.out _ ((Wr.refl _ x3).drew)) (fun hcl107 => ?_)
   clear hK K hcl106 hS106
   try simp only [Act.put, qsaq, qszq, qssq]
   refine wpAnyL_step (i := 7) (o := ?oi108) ?hi108 (by kernel_rfl) hcl107 ?rest108
   case hi108 =>
    simp only [qgaq, qgsq, qgzq]
    rfl
   case rest108 =>
   intro K hK
   go_simp
   refine hK _ _ (HC.out _ (((Wr.refl _ x3).alloc _).drew)) (fun hcl108 => ?_)
   clear hK K hcl107
   try simp only [Act.put, qsaq, qszq, qssq]
   refine wpAnyL_step (i := 8) (o := ?oi109) ?hi109 (by kernel_rfl) hcl108 ?rest109
   case hi109 =>
    simp only [qgaq, qgsq, qgzq]
    rfl
   case rest109 =>
   intro K hK
   rw [HWA.out]
   refine step_append_run (by rfl) _ _ _ (by rfl) _ _ (by rfl) (by rfl) _ _ HRUN.out ?_
   refine hK _ _ (HC.out _ ((((Wr.refl _ x3).alloc _).drew).trans R3.out)) (fun hcl109 => ?_)
   clear hK K hcl108
   try simp only [Act.put, qsaq, qszq, qssq]
   refine wpAnyL_take (i := 9) (oi := ?oi110) (v := ?v110) ?hi110 (by kernel_rfl) (by kernel_rfl) (by kernel_rfl) (fun _ _ _ h => h) (alwO_take _) ?hy110 hcl109 (HC.out _ ((((Wr.refl _ x3).alloc _).drew).trans R3.out)) ?rest110
   case hi110 =>
    simp only [qgaq, qgsq, qgzq]
    rfl
   case hy110 =>
    refine yields_alwO (Or.inl ⟨by rfl, fun w' hS => ?_⟩)
    try go_split_ands
    go_simp
    try rfl
   case rest110 =>
   intro hcl110 hS110
   clear hcl109
   try simp only [Act.put, qsaq, qszq, qssq]
   refine wpAnyL_done (by kernel_rfl) (NoPanic.normal ?_) _
   try simp only [Act.put, qsaq, qszq, qssq]
   clear HC
   go_wp2_with fail
   go_roundw
   case rel => exact ⟨k + 1, by omega, by go_num, HPK.out⟩
   case measure => simp [intOf]; omega
  ·have hkn : k = m.procs.length := by omega
   subst hkn
   have s5 := S5.out
   rw [List.take_length] at s5
   have s6 : PSt w0 u3 (packB m) wr := s5
   have c2 := s6.cell C2.out
   obtain ⟨v10, w10, hrun, s10, _⟩ := s6.one (m.imports.length : Int) (by omega) (by omega) (by have := packB_len OKM.out; omega)
   rw [Int.toNat_natCast] at s10
   have s11 : PSt w0 v10 (packC m) w10 := s10
   have S11 := qh s11
   have HRUN := qh hrun
   clear s5 s6 s10 s11 hrun
   go_wp2_with (at_builtin; refine wpList_append_run rfl _ _ _ rfl _ _ rfl rfl _ _ HRUN.out ?_)
   clear HRUN c1 c2
   go_loopw [3, 6] (fun s3 s6 wr => ∃ k : Nat, k ≤ m.imports.length ∧ s6 = .int .i64 k ∧ PSt w0 s3 (packC m ++ (m.imports.take k).flatMap (fun i => numL i.toNat 1)) wr) (fun _ s6 _ => m.imports.length - (intOf s6).toNat)
   case atStart => exact ⟨0, by omega, rfl, by simpa using S11.out⟩
   case round =>
    obtain ⟨k, hk, rfl, s12⟩ := hrel
    have S12 := qh s12
    have c2 := s12.cell C2.out
    clear s12
    by_cases hlt : k < m.imports.length
    ·obtain ⟨x, hx⟩ : ∃ x, m.imports[k]? = some x := ⟨_, List.getElem?_eq_getElem hlt⟩
     obtain ⟨bp, off, c, e, _, _, hcs⟩ := i64_at HH.out.imports hx
     injection e with e1 e2 e3
     subst e1
     subst e3
     have OK := OKM.out.imp x (List.mem_of_getElem? hx)
     have x0 := S12.out.cell (ACC.out.cellOf hcs (by simp))
     have hlti : (k : Int) < (m.imports.length : Int) := by omega
     have hk0 : (0 : Int) ≤ (k : Int) := by omega
     have f0 : IntKind.u8.wrap x = x := by rw [IntKind.wrap_u8]; omega
     have hla : (packC m ++ (m.imports.take k).flatMap (fun i => numL i.toNat 1)).length ≤ 91000 := by
      have h1 := packC_len OKM.out
      have h2 := flat_take_len (fun i : Int => numL i.toNat 1) 1 255 (fun i => numL_len _ _) m.imports k (by omega)
      rw [List.length_append]
      omega
     obtain ⟨v13, w13, hrun, s13, _⟩ := S12.out.one x OK.1 (by omega) (by omega)
     have hPK : PSt w0 v13 (packC m ++ (m.imports.take (k + 1)).flatMap (fun i => numL i.toNat 1)) w13 := by
      rw [flat_take_succ _ hx, ← List.append_assoc]
      exact s13
     have HPK := qh hPK
     have HRUN := qh hrun
     clear hcs e2 hx hla OK hPK s13 hrun
     go_wp2_with (at_builtin; refine wpList_append_run rfl _ _ _ rfl _ _ rfl rfl _ _ HRUN.out ?_)
     refine ⟨⟨k + 1, by omega, by push_cast; rfl, HPK.out⟩, ?_⟩
     show m.imports.length - (intOf (.int .i64 ((k : Int) + 1))).toNat < m.imports.length - (intOf (.int .i64 (k : Int))).toNat
     simp only [intOf]
     omega
    ·have hkn : k = m.imports.length := by omega
     subst hkn
     have s12 := S12.out
     rw [List.take_length] at s12
     have s14 : PSt w0 u3 (packD m) wr := s12
     have S14 := qh s14
     have c3 := s14.cell C3.out
     clear s12 s14
     go_wp2_with fail
     refine (HN5.out _).mono ?_
     rintro e w15 ⟨u15, rfl, b15, r15⟩
     obtain ⟨v16, w16, hrun, s16, _, _⟩ := S14.out.num r15 b15 (by rw [numL_len]; have := packD_len OKM.out; omega)
     have S16 := qh s16
     have HRUN := qh hrun
     have c4 := s16.cell C4.out
     clear s16 hrun b15 r15 c3 c2
     go_wp2_with (at_builtin; refine wpList_append_run rfl _ _ _ rfl _ _ rfl rfl _ _ HRUN.out ?_)
     refine (HN4.out _).mono ?_
     rintro e w17 ⟨u17, rfl, b17, r17⟩
     obtain ⟨v18, w18, hrun, s18, _, _⟩ := S16.out.num r17 b17 (by simp only [List.length_append, numL_len]; have := packD_len OKM.out; omega)
     have s19 : PSt w0 v18 (packE m) w18 := by
      unfold packE
      rw [← List.append_assoc]
      exact s18
     have S19 := qh s19
     have HRUN2 := qh hrun
     clear s18 s19 hrun b17 r17 c4 HRUN
     go_wp2_with (at_builtin; refine wpList_append_run rfl _ _ _ rfl _ _ rfl rfl _ _ HRUN2.out ?_)
     clear HRUN2
     go_loopw [3, 7] (fun s3 s7 wr => ∃ k : Nat, k ≤ m.init.length ∧ s7 = .int .i64 k ∧ PSt w0 s3 (packE m ++ (m.init.take k).flatMap (fun i => numL i.toNat 2)) wr) (fun _ s7 _ => m.init.length - (intOf s7).toNat)
     case atStart => exact ⟨0, by omega, rfl, by simpa using S19.out⟩
     case round =>
      obtain ⟨k, hk, rfl, s20⟩ := hrel
      have S20 := qh s20
      have c4 := s20.cell C4.out
      clear s20
      by_cases hlt : k < m.init.length
      ·obtain ⟨x, hx⟩ : ∃ x, m.init[k]? = some x := ⟨_, List.getElem?_eq_getElem hlt⟩
       obtain ⟨bp, off, c, e, _, _, hcs⟩ := u16_at HH.out.init hx
       injection e with e1 e2 e3
       subst e1
       subst e3
       have OK := HWD.out x (List.mem_of_getElem? hx)
       have x0 := S20.out.cell (ACC.out.cellOf hcs (by simp))
       have hlti : (k : Int) < (m.init.length : Int) := by omega
       have hk0 : (0 : Int) ≤ (k : Int) := by omega
       have f0 : IntKind.u64.wrap x = x := by rw [IntKind.wrap_u64]; omega
       have hla : (packE m ++ (m.init.take k).flatMap (fun i => numL i.toNat 2)).length ≤ 300000 := by
        have h1 := packE_len OKM.out
        have h2 := flat_take_len (fun i : Int => numL i.toNat 2) 2 65535 (fun i => numL_len _ _) m.init k (by omega)
        rw [List.length_append]
        omega
       have LB := qh hla
       have HX := qh hx
       have HNX := qh (fun w => rnumI x 2 OK.1 OK.2 (by decide) (by decide) w)
       clear hcs e2 hx hla OK
       go_wp2_with fail
       refine (HNX.out _).mono ?_
       rintro e w21 ⟨u21, rfl, b21, r21⟩
       obtain ⟨v22, w22, hrun, s22, _, _⟩ := S20.out.num r21 b21 (by rw [numL_len]; have := LB.out; omega)
       have hPK : PSt w0 v22 (packE m ++ (m.init.take (k + 1)).flatMap (fun i => numL i.toNat 2)) w22 := by
        rw [flat_take_succ _ HX.out, ← List.append_assoc]
        exact s22
       have HPK := qh hPK
       have HRUN := qh hrun
       clear hPK s22 hrun b21 r21 x0 c4
       go_wp2_with (at_builtin; refine wpList_append_run rfl _ _ _ rfl _ _ rfl rfl _ _ HRUN.out ?_)
       go_roundw
       case rel => exact ⟨k + 1, by omega, by go_num, HPK.out⟩
       case measure => simp [intOf]; omega
      ·have hkn : k = m.init.length := by omega
       subst hkn
       have s20 := S20.out
       rw [List.take_length] at s20
       have s23 : PSt w0 u3 PL wr := by rw [← HPL.out, pack_eq]; exact s20
       have S23 := qh s23
       clear s20 s23
       go_wp2_with fail
       go_ret
       exact ⟨_, rfl, S23.out.1.le HSZ.out, ACC.out.trans S23.out.2⟩
end Go.Proofs.YtildcdgobdfieaaGreat
