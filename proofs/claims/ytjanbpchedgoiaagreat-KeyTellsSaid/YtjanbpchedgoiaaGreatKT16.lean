/- Rows of bytes of one's own, what is put behind them; ref 14's number: walked. Conditions: numbers of at most eight bytes. -/
import Derived.Test.YtjanbpchedgoiaaGreatKT04
import Derived.Laws.Bits64b
import Derived.Laws.MakeOwn
import Derived.Lib.AppendStr
import Derived.Lib.AppendZeros
import Derived.Deep.RegionHeld3
set_option linter.unusedVariables false
set_option linter.unusedSimpArgs false
set_option maxRecDepth 100000
set_option maxHeartbeats 32000000
namespace Go.Proofs.YtjanbpchedgoiaaGreat
open Go.RowKit
def byV (b : UInt8) : Value := .int .u8 (b.toNat : Int)
def predI : Nat → Int
 | 0 => -1
 | m + 1 => m
theorem predI_down (m : Nat) : (m : Int) - 1 = predI m := by
 cases m with
 | zero => rfl
 | succ m => show ((m + 1 : Nat) : Int) - 1 = (m : Int); omega
theorem numL_get (n : Nat) : ∀ size m, m < size → (numL n size)[size - (m + 1)]? = some (UInt8.ofNat (n / 256 ^ m % 256))
 | 0, m, h => absurd h (by omega)
 | k + 1, m, h => by
  by_cases hm : m = k
  ·subst hm
   rw [Nat.sub_self]
   rfl
  ·rw [show k + 1 - (m + 1) = (k - (m + 1)) + 1 by omega, numL, qgsq]
   exact numL_get n k m (by omega)
theorem own_ge {w : World} {base n size : Nat} {T : TypeId} {v : Value} {xs : List Value} (h : w.ownsRow base T size v n xs) : ∀ b ∈ ownL v, base ≤ b := by
 intro b hb
 rw [mem_ownL] at hb
 rcases h.2 with ⟨rfl, _⟩ | ⟨g, cap, cur, rfl, hg, _⟩
 ·simp [Value.ownBlock] at hb
 ·simp only [Value.ownBlock, Option.some.injEq] at hb
  omega
theorem own_wr0 {w w' : World} {base n size : Nat} {T : TypeId} {v : Value} {xs : List Value} (h : w.ownsRow base T size v n xs) (hw : Wr [] w w') : w'.ownsRow base T size v n xs := by
 refine ⟨h.1, ?_⟩
 rcases h.2 with h | ⟨b, cap, cur, h1, h2, h3, h4⟩
 ·exact .inl h
 ·refine .inr ⟨b, cap, cur, h1, h2, ?_, h4⟩
  have hlt : b < w.heap.size := by
   rcases Nat.lt_or_ge b w.heap.size with hlt | hge
   ·exact hlt
   ·rw [Array.getElem?_eq_none hge] at h3; cases h3
  rw [hw.block b hlt (by simp)]
  exact h3
theorem conv_own {w : World} {base n : Nat} {v : Value} {l : List UInt8} (h : w.ownsRow base 5 1 v n (l.map byV)) (hl : 0 < l.length) : (convert 71 9 v).run Tryz.prog w = .ok (.string ⟨l.toArray⟩) w := by
 have hn := h.1
 rw [qlmq, Nat.mul_one] at hn
 rcases h.2 with ⟨rfl, h0⟩ | ⟨b, cap, cur, rfl, _, hh, hnc, hcm, hs, ht⟩
 ·omega
 ·have := run_convert_bytes_back (P := Tryz.prog) w 71 9 5 ⟨b, 0, none⟩ cap l Tryz.underlying71 Tryz.underlying5 Tryz.underlying9 (fun j hj => by
   have := h.cells (g := b) rfl j (byV l[j]) (by rw [qgmq, qgeq hj]; rfl)
   exact this)
  rw [hn] at this
  exact this
theorem info_u8 : (Tryz.prog.info? 5).map (fun i => (i.zero, i.size, i.bytes)) = some (some (.int .u8 0), 1, 1) := by kernel_rfl
def BOwn (B : Nat) (v : Value) (l : List UInt8) (w : World) : Prop := w.ownsRow B 5 1 v l.length (l.map byV)
section
variable {B : Nat} {v : Value} {l : List UInt8} {w w' : World}
theorem BOwn.keep0 (h : BOwn B v l w) (r : Wr [] w w') : BOwn B v l w' := own_wr0 h r
theorem BOwn.sl (h : BOwn B v l w) : Sl w (fun b => B ≤ b) 1 v l.length (l.map byV) := Sl.ofOwn h (fun b hb => own_ge h b (mem_ownL.2 hb))
theorem byV_one (l : List UInt8) : ∀ u ∈ l.map byV, u.oneCell' = true := by
 intro u hu
 obtain ⟨b, _, rfl⟩ := List.mem_map.1 hu
 rfl
theorem BOwn.app2 (h : BOwn B v l w) {P : Nat → Prop} {u : Value} {k : List UInt8} (hu : Sl w P 1 u k.length (k.map byV)) (hl : l.length + k.length ≤ 100000000000000) (hB : B ≤ w.heap.size) :
  ∃ v' w', (Builtin.append_ #[71, 71] 71 #[v, u]).run Tryz.prog w = .ok v' w' ∧ BOwn B v' (l ++ k) w' ∧ Wr (ownL v) w w' ∧ ∀ z, z < w.heap.size → z ∉ ownL v → z ∉ ownL v' := by
 obtain ⟨i0, hi, hz0, hz1, hz2⟩ := info_parts info_u8
 obtain ⟨v', w', hrun, hown, hgrow, hbk⟩ := run_append_sl (P := Tryz.prog) w B 71 71 5 i0 _ 1 1 Tryz.underlying71 hi hz0 hz1 hz2 rfl (by decide) v l.length _ h P u k.length _ hu (byV_one k) (by unfold maxLen; omega) (by omega) hB
 refine ⟨v', w', hrun, ?_, Wr.ofGrownOwn hgrow, fun z hz hn hm => ?_⟩
 ·unfold BOwn
  rw [qlaq, List.map_append]
  exact hown
 ·have hm' := mem_ownL.1 hm
  rcases hbk with h1 | h1
  ·exact hn (mem_ownL.2 (h1 ▸ hm'))
  ·rw [h1] at hm'
   injection hm' with hm'
   omega
theorem strCells_by (s : ByteArray) : Lib.strCells s = s.data.toList.map byV := by
 rw [Lib.strCells_eq]
 rfl
theorem BOwn.str (h : BOwn B v l w) (s : ByteArray) (hl : l.length + s.size ≤ 100000000000000) (hB : B ≤ w.heap.size) :
  ∃ v' w', (Builtin.append_ #[71, 9] 71 #[v, .string s]).run Tryz.prog w = .ok v' w' ∧ BOwn B v' (l ++ s.data.toList) w' ∧ Wr (ownL v) w w' := by
 obtain ⟨i0, hi, hz0, hz1, hz2⟩ := info_parts info_u8
 obtain ⟨v', w', hrun, hown, hgrow, _⟩ := Lib.run_append_own_string (P := Tryz.prog) w B 71 9 71 5 i0 Tryz.underlying71 Tryz.underlying9 hi hz0 hz1 hz2 v l.length _ h s (by unfold maxLen; omega) (by omega) hB
 refine ⟨v', w', hrun, ?_, Wr.ofGrownOwn hgrow⟩
 unfold BOwn
 rw [qlaq, List.map_append, ← strCells_by]
 exact hown
theorem BOwn.blk {g : Nat} (hb : Blk w g 5 (l.map byV).toArray) (hB : B ≤ g) (hl : l.length ≤ maxLen) : BOwn B (.slice (some ⟨g, 0, none⟩) l.length l.length) l w :=
 ⟨by simp, .inr ⟨g, l.length, (l.map byV).toArray, rfl, hB, hb, Nat.le_refl _, hl, by simp, by rw [List.take_of_length_le (by simp)]⟩⟩
theorem BOwn.wr (h : BOwn B v l w) {w0 : World} (r : Wr [] w0 w) (hw : w0.heap.size ≤ B) (k : Wr (ownL v) w w') : Wr [] w0 w' :=
 r.trans' k (fun x hx => .inr (Nat.le_trans hw (own_ge h x hx)))
end
theorem made_cells (n : Nat) : madeCells #[.int .u8 0] n = ((List.replicate n (0 : UInt8)).map byV).toArray := by
 apply Array.ext'
 apply List.ext_getElem?
 intro i
 by_cases h : i < n
 ·simp [madeCells, h, byV, Nat.mod_one]
 ·simp [madeCells, h, byV]
theorem made_bytesR (n : Nat) (hn : n ≤ 1000) (w : World) : (Instr.makeSlice 71 (.int .i64 (n : Int)) (.int .i64 (n : Int))).run Tryz.prog w = .ok (.slice (some ⟨w.heap.size, 0, none⟩) n n) (w.alloc (.cells (madeCells #[.int .u8 0] n) 5)) := by
 obtain ⟨i1, hi1, hy0, hy1, hy2⟩ := info_parts info_u8
 have := run_make (P := Tryz.prog) w 71 5 i1 (.int .u8 0) Tryz.underlying71 hi1 hy0 .i64 .i64 (n : Int) (n : Int) (by omega) (Int.le_refl _) (by rw [hy2]; omega) (by omega)
 rw [hy1, Nat.mul_one, Int.toNat_natCast] at this
 exact this
def tailN (n size j : Nat) : List UInt8 := List.replicate j 0 ++ (numL n size).drop j
theorem tailN_full (n size : Nat) : tailN n size size = List.replicate size 0 := by
 unfold tailN
 rw [List.drop_of_length_le (Nat.le_of_eq (numL_len n size)), List.append_nil]
theorem tailN_zero (n size : Nat) : tailN n size 0 = numL n size := by simp [tailN]
theorem tailN_len (n size j : Nat) (h : j ≤ size) : (tailN n size j).length = size := by
 unfold tailN
 rw [qlaq, List.length_replicate, List.length_drop, numL_len]
 omega
theorem tailN_set (n size m : Nat) (h : m < size) : (tailN n size (m + 1)).set m (UInt8.ofNat (n / 256 ^ (size - (m + 1)) % 256)) = tailN n size m := by
 have hg : (numL n size)[m]? = some (UInt8.ofNat (n / 256 ^ (size - (m + 1)) % 256)) := by
  have := numL_get n size (size - (m + 1)) (by omega)
  rw [show size - (size - (m + 1) + 1) = m by omega] at this
  exact this
 unfold tailN
 rw [List.replicate_succ', qapq, List.set_append_right _ _ (by simp)]
 rw [List.length_replicate, Nat.sub_self]
 rw [List.drop_eq_getElem_cons (show m < (numL n size).length by rw [numL_len]; exact h)]
 have e := (List.getElem?_eq_some_iff.1 hg).2
 rw [e]
 rfl
def BytR (l : List UInt8) (w : World) (e : Ending) (w' : World) : Prop := ∃ v, e = .returned v ∧ BOwn w.heap.size v l w' ∧ Wr [] w w'
theorem rnumber_any (n size : Nat) (hn : n < 18446744073709551616) (h1 : 1 ≤ size) (hs : size ≤ 8) (w : World) :
  Calls Tryz.prog 35 #[.int .u64 (n : Int), .int .i64 (size : Int)] w (BytR (numL n size) w) := by
 have hmk := made_bytesR size (by omega) w
 have hb := Blk.new w 5 (madeCells #[.int .u8 0] size)
 have acc := (Wr.refl [] w).alloc (.cells (madeCells #[.int .u8 0] size) 5)
 rw [made_cells] at hb
 obtain ⟨g, hg⟩ : ∃ g, w.heap.size = g := ⟨_, rfl⟩
 obtain ⟨w0, hw0⟩ : ∃ q, w.alloc (.cells (madeCells #[.int .u8 0] size) 5) = q := ⟨_, rfl⟩
 rw [← made_cells, hw0, hg, made_cells] at hb
 rw [hw0] at acc
 have hb0 : Blk w0 g 5 ((tailN n size size).map byV).toArray := by rw [tailN_full]; exact hb
 have HG := qh hg
 have HS := qh hs
 have H1 := qh h1
 have HB0 := qh hb0
 have HW0 := qh hw0
 have ACC := qh acc
 have hp := predI_down size
 have HP := qh hp
 clear hb hb0 hw0 acc hg hp
 go_enter Tryz.func35, Tryz.ntmps35
 go_wp2_with fail
 rw [HW0.out, HG.out]
 go_loopw [0, 6] (fun x i wr => ∃ j q : Nat, j ≤ size ∧ i = .int .i64 (predI j) ∧ x = .int .u64 (q : Int) ∧ n / 256 ^ (size - j) = q ∧ Blk wr g 5 ((tailN n size j).map byV).toArray ∧ Wr [g] w0 wr) (fun _ i _ => (intOf i + 1).toNat)
 case atStart => exact ⟨size, n, Nat.le_refl _, by rw [← HP.out], rfl, by rw [Nat.sub_self]; simp, HB0.out, Wr.refl _ _⟩
 case round =>
  obtain ⟨j, q, hj, rfl, rfl, hq, hb, hr⟩ := hrel
  have HR := qh hr
  have HB := qh hb
  clear hr hb
  cases j with
  | zero =>
   rw [show predI 0 = -1 from rfl]
   go_wp2_with fail
   go_ret
   have hb := HB.out
   rw [tailN_zero] at hb
   have hbo := BOwn.blk (B := g) hb (Nat.le_refl g) (by rw [numL_len]; unfold maxLen; have := HS.out; omega)
   rw [numL_len] at hbo
   exact ⟨_, rfl, by rw [HG.out]; exact hbo, ACC.out.new (g := g) HR.out (by have := HG.out; omega)⟩
  | succ m =>
   rw [show predI (m + 1) = (m : Int) from rfl]
   have hq64 : q < 18446744073709551616 := by rw [← hq]; exact Nat.lt_of_le_of_lt (Nat.div_le_self _ _) hn
   have hbe : IntKind.u8.wrap ((q : Int) % 256) = ((q % 256 : Nat) : Int) := by rw [IntKind.wrap_u8]; omega
   have hq2 : n / 256 ^ (size - m) = q / 256 := by
    rw [← hq, Nat.div_div_eq_div_mul, ← Nat.pow_succ, show (size - (m + 1)).succ = size - m by omega]
   obtain ⟨y, hy⟩ : ∃ y, q % 256 = y := ⟨_, rfl⟩
   have hy8 : y < 256 := by rw [← hy]; exact Nat.mod_lt _ (by decide)
   rw [hy] at hbe
   have hz := (HB.out).frozen m
   have hc := (HB.out).cell m
   have hlt : m < ((tailN n size (m + 1)).map byV).toArray.size := by simp [tailN_len n size (m + 1) hj]; omega
   rw [Array.getElem?_eq_getElem hlt] at hc
   have hset := (HB.out).set_ m (.int .u8 (y : Int))
   have hts : ((tailN n size (m + 1)).map byV).toArray.setIfInBounds m (.int .u8 (y : Int)) = ((tailN n size m).map byV).toArray := by
    rw [qsaq]
    have e := tailN_set n size m (by omega)
    rw [hq, hy] at e
    rw [← e, List.map_set]
    congr 2
    show Value.int .u8 (y : Int) = .int .u8 ((UInt8.ofNat y).toNat : Int)
    rw [toNat_ofNat y hy8]
   rw [hts] at hset
   have hk := HR.out.setOn (b := g) (o := m) (List.mem_singleton.2 rfl) (.int .u8 (y : Int))
   have HSET := qh hset
   have HK := qh hk
   have HQ2 := qh hq2
   have HJ := qh hj
   have hm0 : (0 : Int) ≤ (m : Int) := by omega
   have hms : (m : Int) < (size : Int) := by omega
   generalize ((tailN n size (m + 1)).map byV).toArray[m] = old at hc
   clear hq hy hset hts hk hq2 hlt hj
   go_wp2_with fail
   refine ⟨⟨m, q / 256, by have := HJ.out; omega, by rw [predI_down], by push_cast; rfl, HQ2.out, HSET.out, HK.out⟩, ?_⟩
   show (intOf (.int .i64 ((m : Int) - 1)) + 1).toNat < (intOf (.int .i64 (m : Int)) + 1).toNat
   simp only [intOf]
   omega
def PSt (w0 : World) (v : Value) (l : List UInt8) (wr : World) : Prop := BOwn w0.heap.size v l wr ∧ Wr [] w0 wr
theorem BOwn.le {B B' : Nat} {v : Value} {l : List UInt8} {w : World} (h : BOwn B v l w) (hb : B' ≤ B) : BOwn B' v l w :=
 ⟨h.1, h.2.imp id (fun ⟨g, cap, cur, h1, h2, h3⟩ => ⟨g, cap, cur, h1, Nat.le_trans hb h2, h3⟩)⟩
theorem byV_num (x : Int) (h0 : 0 ≤ x) (h1 : x ≤ 255) : ((numL x.toNat 1).map byV).toArray = #[.int .u8 x] := by
 show #[byV (UInt8.ofNat (x.toNat / 1 % 256))] = _
 unfold byV
 rw [toNat_ofNat _ (Nat.mod_lt _ (by decide)), Nat.div_one, Nat.mod_eq_of_lt (by omega), Int.toNat_of_nonneg h0]
def AppR (v u : Value) (w : World) (v' : Value) (w' : World) : Prop := (Builtin.append_ #[71, 71] 71 #[v, u]).run Tryz.prog w = .ok v' w'
section
variable {w0 wr w1 : World} {v u : Value} {l k : List UInt8} {z B : Nat}
theorem PSt.cell (h : PSt w0 v l wr) {p : Addr} {x : Value} (hc : w0.cell? p = some x) : wr.cell? p = some x := h.2.cellOf hc (by simp)
theorem PSt.keep (h : PSt w0 v l wr) (r : Wr [] wr w1) : PSt w0 v l w1 := ⟨h.1.keep0 r, h.2.trans r⟩
theorem PSt.app (h : PSt w0 v l wr) {P : Nat → Prop} (hu : Sl wr P 1 u k.length (k.map byV)) (hl : l.length + k.length ≤ 100000000000000) :
  ∃ v' w', AppR v u wr v' w' ∧ PSt w0 v' (l ++ k) w' ∧ Wr (ownL v) wr w' ∧ ∀ z, z < wr.heap.size → z ∉ ownL v → z ∉ ownL v' := by
 obtain ⟨v', w', h1, h2, h3, h4⟩ := h.1.app2 hu hl h.2.size
 exact ⟨v', w', h1, ⟨h2, h.1.wr h.2 (Nat.le_refl _) h3⟩, h3, h4⟩
theorem PSt.num (h : PSt w0 v l wr) (r : Wr [] wr w1) (hu : BOwn wr.heap.size u k w1) (hl : l.length + k.length ≤ 100000000000000) :
  ∃ v' w', AppR v u w1 v' w' ∧ PSt w0 v' (l ++ k) w' ∧ Wr (ownL v) w1 w' ∧ ∀ z, z < w1.heap.size → z ∉ ownL v → z ∉ ownL v' := (h.keep r).app hu.sl hl
theorem PSt.one (h : PSt w0 v l wr) (x : Int) (h0 : 0 ≤ x) (h1 : x ≤ 255) (hl : l.length + 1 ≤ 100000000000000) :
  ∃ v' w', AppR v (.slice (some ⟨wr.heap.size, 0, none⟩) 1 1) (wr.alloc (.cells #[.int .u8 x] 5)) v' w' ∧ PSt w0 v' (l ++ numL x.toNat 1) w' ∧ Wr (ownL v) (wr.alloc (.cells #[.int .u8 x] 5)) w' := by
 have r := (Wr.refl [] wr).alloc (.cells #[.int .u8 x] 5)
 have hb := BOwn.blk (B := wr.heap.size) (l := numL x.toNat 1) (w := wr.alloc (.cells #[.int .u8 x] 5)) (g := wr.heap.size) (by
  rw [byV_num x h0 h1]
  exact Blk.new wr 5 #[.int .u8 x]) (Nat.le_refl _) (by rw [numL_len]; decide)
 obtain ⟨v', w', h1, h2, h3, _⟩ := h.num r hb (by rw [numL_len]; exact hl)
 exact ⟨v', w', h1, h2, h3⟩
end
section
variable {w0 wr w1 : World} {v u : Value} {l k : List UInt8} {z : Nat} {T : TypeId} {cs : Array Value}
theorem PSt.str (h : PSt w0 v l wr) (s : ByteArray) (hl : l.length + s.size ≤ 100000000000000) :
  ∃ v' w', (Builtin.append_ #[71, 9] 71 #[v, .string s]).run Tryz.prog wr = .ok v' w' ∧ PSt w0 v' (l ++ s.data.toList) w' := by
 obtain ⟨v', w', h1, h2, h3⟩ := h.1.str s hl h.2.size
 exact ⟨v', w', h1, h2, h.1.wr h.2 (Nat.le_refl _) h3⟩
theorem PSt.byte (w : World) (x : Int) (h0 : 0 ≤ x) (h1 : x ≤ 255) : PSt w (.slice (some ⟨w.heap.size, 0, none⟩) 1 1) (numL x.toNat 1) (w.alloc (.cells #[.int .u8 x] 5)) :=
 ⟨BOwn.blk (B := w.heap.size) (l := numL x.toNat 1) (g := w.heap.size) (by
  rw [byV_num x h0 h1]
  exact Blk.new w 5 #[.int .u8 x]) (Nat.le_refl _) (by rw [numL_len]; decide), (Wr.refl _ _).alloc _⟩
theorem PSt.done (h : PSt w0 v l wr) {w : World} (a : Wr [] w w0) : BOwn w.heap.size v l wr ∧ Wr [] w wr := ⟨h.1.le a.size, a.trans h.2⟩
def PZ (w0 : World) (z : Nat) (T : TypeId) (cs : Array Value) (v : Value) (l : List UInt8) (wr : World) : Prop := PSt w0 v l wr ∧ z ∉ ownL v ∧ Blk wr z T cs
theorem PZ.new (h : PSt w0 v l wr) (T : TypeId) (cs : Array Value) : PZ w0 wr.heap.size T cs v l (wr.alloc (.cells cs T)) :=
 ⟨h.keep ((Wr.refl [] wr).alloc _), fun hm => by have := (h.1.lt _ (mem_ownL.1 hm)).2; omega, Blk.new _ _ _⟩
theorem PZ.num (h : PZ w0 z T cs v l wr) (r : Wr [] wr w1) (hu : BOwn wr.heap.size u k w1) (hl : l.length + k.length ≤ 100000000000000) :
  ∃ v' w', AppR v u w1 v' w' ∧ PZ w0 z T cs v' (l ++ k) w' := by
 obtain ⟨v', w', h1, h2, h3, h4⟩ := h.1.num r hu hl
 have hb := h.2.2.wr0 r
 exact ⟨v', w', h1, h2, h4 z hb.lt h.2.1, hb.wr h3 h.2.1⟩
theorem PZ.one (h : PZ w0 z T cs v l wr) (x : Int) (h0 : 0 ≤ x) (h1 : x ≤ 255) (hl : l.length + 1 ≤ 100000000000000) :
  ∃ v' w', AppR v (.slice (some ⟨wr.heap.size, 0, none⟩) 1 1) (wr.alloc (.cells #[.int .u8 x] 5)) v' w' ∧ PZ w0 z T cs v' (l ++ numL x.toNat 1) w' := by
 have hb := (PSt.byte wr x h0 h1).1
 exact h.num ((Wr.refl [] wr).alloc _) hb (by rw [numL_len]; exact hl)
theorem PSt.add (h : PSt w0 v l wr) (r : Wr [] wr w1) (hu : BOwn wr.heap.size u k w1) (hl : l.length + k.length ≤ 100000000000000) :
  ∃ v' w', AppR v u w1 v' w' ∧ PSt w0 v' (l ++ k) w' := by
 obtain ⟨v', w', h1, h2, _⟩ := h.num r hu hl
 exact ⟨v', w', h1, h2⟩
end
theorem text_b (s : ByteArray) (hs : s.size ≤ 255) (w : World) : Calls Tryz.prog 33 #[.string s] w (BytR (textL s) w) := by
 have q1 : IntKind.u64.wrap (s.size : Int) = (s.size : Int) := by rw [IntKind.wrap_u64]; omega
 have HN := qh (fun w => rnumber_any s.size 1 (by omega) (by decide) (by decide) w)
 have HS := qh hs
 clear hs
 go_enter Tryz.func33, Tryz.ntmps33
 go_wp2_with fail
 refine (HN.out _).mono ?_
 rintro e w1 ⟨v1, rfl, b1, r1⟩
 have s1 : PSt w v1 (numL s.size 1) w1 := ⟨b1, r1⟩
 obtain ⟨v2, w2, hrun, o2, r2⟩ := s1.1.str s (by rw [numL_len]; have := HS.out; omega) r1.size
 have s2 : PSt w v2 (textL s) w2 := ⟨o2, s1.1.wr s1.2 (Nat.le_refl _) r2⟩
 have S2 := qh s2
 have HRUN := qh hrun
 clear s1 b1 r1 hrun o2 r2 s2
 go_wp2_with (at_builtin; refine Lib.wpList_append_run _ rfl _ _ _ _ rfl _ _ rfl rfl _ _ HRUN.out ?_)
 go_ret
 exact ⟨_, rfl, S2.out.1, S2.out.2⟩
theorem count_b (n : Nat) (hn : n ≤ 65535) (w : World) : Calls Tryz.prog 34 #[.int .i64 (n : Int)] w (BytR (numL n 2) w) := by
 have q1 : IntKind.u64.wrap (n : Int) = (n : Int) := by rw [IntKind.wrap_u64]; omega
 have HN := qh (fun w => rnumber_any n 2 (by omega) (by decide) (by decide) w)
 clear hn
 go_enter Tryz.func34, Tryz.ntmps34
 go_wp2_with fail
 refine (HN.out _).mono ?_
 rintro e w1 ⟨v1, rfl, b1, r1⟩
 go_wp2_with fail
 go_ret
 exact ⟨_, rfl, b1, r1⟩
theorem four_b (n : Int) (hn : smB n = true) (w : World) : Calls Tryz.prog 37 #[.int .i64 n] w (BytR (fourL n) w) := by
 obtain ⟨h1, h2⟩ := smB_iff.1 hn
 unfold fourL
 obtain ⟨m, hm⟩ : ∃ m, (n % 4294967296).toNat = m := ⟨_, rfl⟩
 rw [hm]
 have HN := qh (fun w => rnumber_any m 4 (by omega) (by decide) (by decide) w)
 by_cases c : n < 0
 ·have q0 : wrap64 (n + 4294967296) = (m : Int) := by unfold wrap64; omega
  have q1 : IntKind.u64.wrap (m : Int) = (m : Int) := by rw [IntKind.wrap_u64]; omega
  clear hm h1 h2 hn
  go_enter Tryz.func37, Tryz.ntmps37
  go_wp2_with fail
  refine (HN.out _).mono ?_
  rintro e w1 ⟨v1, rfl, b1, r1⟩
  go_wp2_with fail
  go_ret
  exact ⟨_, rfl, b1, r1⟩
 ·have q1 : IntKind.u64.wrap n = (m : Int) := by rw [IntKind.wrap_u64]; omega
  clear hm h1 h2 hn
  go_enter Tryz.func37, Tryz.ntmps37
  go_wp2_with fail
  refine (HN.out _).mono ?_
  rintro e w1 ⟨v1, rfl, b1, r1⟩
  go_wp2_with fail
  go_ret
  exact ⟨_, rfl, b1, r1⟩
theorem BytR.lit {l : List UInt8} {w : World} {cs : Array Value} (h : (l.map byV).toArray = cs) (hl : l.length ≤ 1000) : BOwn w.heap.size (.slice (some ⟨w.heap.size, 0, none⟩) l.length l.length) l (w.alloc (.cells cs 5)) := by
 subst h
 exact BOwn.blk (Blk.new _ _ _) (Nat.le_refl _) (by unfold maxLen; omega)
theorem truth_b (b : Bool) (w : World) : Calls Tryz.prog 70 #[.bool b] w (BytR (truL b) w) := by
 cases b
 all_goals
  go_enter Tryz.func70, Tryz.ntmps70
  go_wp2_with fail
  go_ret
  exact ⟨_, rfl, BytR.lit rfl (by decide), (Wr.refl _ _).alloc _⟩
end Go.Proofs.YtjanbpchedgoiaaGreat
