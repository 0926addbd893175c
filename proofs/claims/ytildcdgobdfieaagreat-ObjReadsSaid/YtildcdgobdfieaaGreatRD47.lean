/- ref 21's packed: walked. Conditions: the module may be. -/
import Derived.Test.YtildcdgobdfieaaGreatRD46
import Derived.Lib.AppendZeros
import Derived.Test.YtildcdgobdfieaaGreatRD41
set_option linter.unusedVariables false
set_option linter.unusedSimpArgs false
set_option maxRecDepth 100000
set_option maxHeartbeats 32000000
namespace Go.Proofs.YtildcdgobdfieaaGreat
open Go.RowKit
def PSt (w0 : World) (v : Value) (l : List UInt8) (wr : World) : Prop := BOwn w0.heap.size v l wr ∧ Wr [] w0 wr
theorem BOwn.le {B B' : Nat} {v : Value} {l : List UInt8} {w : World} (h : BOwn B v l w) (hb : B' ≤ B) : BOwn B' v l w :=
 ⟨h.1, h.2.imp id (fun ⟨g, cap, cur, h1, h2, h3⟩ => ⟨g, cap, cur, h1, Nat.le_trans hb h2, h3⟩)⟩
theorem byV_num (x : Int) (h0 : 0 ≤ x) (h1 : x ≤ 255) : ((numL x.toNat 1).map byV).toArray = #[.int .u8 x] := by
 show #[byV (UInt8.ofNat (x.toNat / 1 % 256))] = _
 unfold byV
 rw [toNat_ofNat _ (Nat.mod_lt _ (by decide)), Nat.div_one, Nat.mod_eq_of_lt (by omega), Int.toNat_of_nonneg h0]
theorem byV_tru (b : Bool) : (truL b).map byV = [.int .u8 (truN b : Int)] := by cases b <;> rfl
theorem truL_one (b : Bool) : (truL b).length = 1 := by cases b <;> rfl
def AppR (v u : Value) (w : World) (v' : Value) (w' : World) : Prop := (Builtin.append_ #[42, 42] 42 #[v, u]).run Tryz.prog w = .ok v' w'
section
variable {w0 wr w1 : World} {v u : Value} {l k : List UInt8} {z B : Nat}
theorem PSt.cell (h : PSt w0 v l wr) {p : Addr} {x : Value} (hc : w0.cell? p = some x) : wr.cell? p = some x := h.2.cellOf hc (by simp)
theorem PSt.keep (h : PSt w0 v l wr) (r : Wr [] wr w1) : PSt w0 v l w1 := ⟨h.1.keep0 r, h.2.trans r⟩
theorem PSt.app (h : PSt w0 v l wr) {P : Nat → Prop} (hu : Sl wr P 1 u k.length (k.map byV)) (hl : l.length + k.length ≤ 100000000) :
  ∃ v' w', AppR v u wr v' w' ∧ PSt w0 v' (l ++ k) w' ∧ Wr (ownL v) wr w' ∧ ∀ z, z < wr.heap.size → z ∉ ownL v → z ∉ ownL v' := by
 obtain ⟨v', w', h1, h2, h3, h4⟩ := h.1.app2 hu hl h.2.size
 exact ⟨v', w', h1, ⟨h2, h.1.wr h.2 (Nat.le_refl _) h3⟩, h3, h4⟩
theorem PSt.num (h : PSt w0 v l wr) (r : Wr [] wr w1) (hu : BOwn wr.heap.size u k w1) (hl : l.length + k.length ≤ 100000000) :
  ∃ v' w', AppR v u w1 v' w' ∧ PSt w0 v' (l ++ k) w' ∧ Wr (ownL v) w1 w' ∧ ∀ z, z < w1.heap.size → z ∉ ownL v → z ∉ ownL v' := (h.keep r).app hu.sl hl
theorem PSt.one (h : PSt w0 v l wr) (x : Int) (h0 : 0 ≤ x) (h1 : x ≤ 255) (hl : l.length + 1 ≤ 100000000) :
  ∃ v' w', AppR v (.slice (some ⟨wr.heap.size, 0, none⟩) 1 1) (wr.alloc (.cells #[.int .u8 x] 5)) v' w' ∧ PSt w0 v' (l ++ numL x.toNat 1) w' ∧ Wr (ownL v) (wr.alloc (.cells #[.int .u8 x] 5)) w' := by
 have r := (Wr.refl [] wr).alloc (.cells #[.int .u8 x] 5)
 have hb := BOwn.blk (B := wr.heap.size) (l := numL x.toNat 1) (w := wr.alloc (.cells #[.int .u8 x] 5)) (g := wr.heap.size) (by
  rw [byV_num x h0 h1]
  exact Blk.new wr 5 #[.int .u8 x]) (Nat.le_refl _) (by rw [numL_len]; decide)
 obtain ⟨v', w', h1, h2, h3, _⟩ := h.num r hb (by rw [numL_len]; exact hl)
 exact ⟨v', w', h1, h2, h3⟩
end
def PZt (w0 : World) (z : Nat) (cs : Array Value) (v : Value) (l : List UInt8) (wr : World) : Prop := PSt w0 v l wr ∧ z ∉ ownL v ∧ Blk wr z 98 cs
section
variable {w0 wr w1 : World} {v u : Value} {l k : List UInt8} {z B : Nat} {cs : Array Value}
theorem PZt.keep (h : PZt w0 z cs v l wr) (r : Wr [] wr w1) : PZt w0 z cs v l w1 := ⟨h.1.keep r, h.2.1, h.2.2.wr0 r⟩
theorem PZt.num (h : PZt w0 z cs v l wr) (r : Wr [] wr w1) (hu : BOwn wr.heap.size u k w1) (hl : l.length + k.length ≤ 100000000) :
  ∃ v' w', AppR v u w1 v' w' ∧ PZt w0 z cs v' (l ++ k) w' := by
 obtain ⟨v', w', h1, h2, h3, h4⟩ := h.1.num r hu hl
 have hb := h.2.2.wr0 r
 exact ⟨v', w', h1, h2, h4 z hb.lt h.2.1, hb.wr h3 h.2.1⟩
end
theorem PSt.two {w0 wr : World} {v : Value} {l : List UInt8} (h : PSt w0 v l wr) (x : Int) (h0 : 0 ≤ x) (h1 : x ≤ 255) (b : Bool) (hl : l.length + 2 ≤ 100000000) {wa : World} (hwa : (wr.alloc (.cells #[.int .u8 x, .int .u8 (truN b : Int)] 5)).drew = wa) :
  ∃ v' w', AppR v (.slice (some ⟨wr.heap.size, 0, none⟩) 2 2) wa v' w' ∧ PSt w0 v' (l ++ (numL x.toNat 1 ++ truL b)) w' ∧ Wr (ownL v) wa w' := by
 have r := ((Wr.refl [] wr).alloc (.cells #[.int .u8 x, .int .u8 (truN b : Int)] 5)).drew
 have e : ((numL x.toNat 1 ++ truL b).map byV).toArray = #[.int .u8 x, .int .u8 (truN b : Int)] := by
  have := congrArg Array.toList (byV_num x h0 h1)
  apply Array.ext'
  rw [List.map_append, byV_tru]
  exact congrArg (· ++ [Value.int .u8 (truN b : Int)]) this
 have hn : (numL x.toNat 1 ++ truL b).length = 2 := by rw [qlaq, numL_len, truL_one]
 have hb := BOwn.blk (B := wr.heap.size) (l := numL x.toNat 1 ++ truL b) (w := (wr.alloc (.cells #[.int .u8 x, .int .u8 (truN b : Int)] 5)).drew) (g := wr.heap.size) (by
  rw [e]
  exact (Blk.new wr 5 #[.int .u8 x, .int .u8 (truN b : Int)]).drew) (Nat.le_refl _) (by rw [hn]; decide)
 rw [hn] at hb
 subst hwa
 obtain ⟨v', w', h1, h2, h3, _⟩ := h.num r hb (by rw [hn]; exact hl)
 exact ⟨v', w', h1, h2, h3⟩
theorem stored_ahead (Q : Program) (g o : Nat) (t : TypeId) (fz : Nat × Nat) : ∀ (vs : List Value) (i : Nat) (cur : Array Value) (w : World), w.heap[g]? = some (.cells cur t fz) → cur.size ≤ fz.1 → o + i + vs.length ≤ cur.size → (∀ v ∈ vs, v.oneCell' = true) →
  (storeCells ⟨g, o, none⟩ vs i).run Q w = .ok () (w.setRow g (cur.toList.take (o + i) ++ vs ++ cur.toList.drop (o + i + vs.length)).toArray)
 | [], i, cur, w, hg, _, _, _ => by
  simp only [storeCells, List.append_nil, List.length_nil, Nat.add_zero, List.take_append_drop, Array.toArray_toList]
  rw [setRow_self w g cur t fz hg]
  rfl
 | v :: rest, i, cur, w, hg, hfz, hl, h1 => by
  rw [List.length_cons] at hl
  have hi : o + i < cur.size := by omega
  have hcell : w.cell? ⟨g, o + i, none⟩ = some cur[o + i] := by simp [World.cell?, hg, hi]
  have hfro : w.frozen? ⟨g, o + i, none⟩ = false := by
   simp only [World.frozen?, hg, Bool.and_eq_false_iff, decide_eq_false_iff_not]
   left
   omega
  have hst : (store ((⟨g, o, none⟩ : Addr).add i) v).run Q w = .ok () (w.setRow g (cur.setIfInBounds (o + i) v)) := by
   rw [Addr.add_lit, run_store Q w _ v _ (h1 v (by simp)), hcell]
   simp [hfro, setCell_eq_setRow w g (o + i) cur t fz v hg]
  have ih := stored_ahead Q g o t fz rest (i + 1) (cur.setIfInBounds (o + i) v) (w.setRow g (cur.setIfInBounds (o + i) v)) (setRow_heap w g cur _ t _ hg) (by simpa using hfz) (by simp; omega) (fun x hx => h1 x (by simp [hx]))
  simp only [storeCells, Sem.run_bind, hst, Result.andThen_ok, ih, setRow_setRow]
  congr 3
  have e := list_seg_step cur.toList (o + i) v rest (by simp; omega)
  simpa [Array.toList_setIfInBounds, Nat.add_assoc] using e
theorem sl_cells {w : World} {P : Nat → Prop} {size n : Nat} {v : Value} {xs : List Value} (h : Sl w P size v n xs) (h0 : 0 < xs.length) :
  ∃ b off c, v = .slice (some ⟨b, off, none⟩) n c ∧ xs.length = n * size ∧ ∀ j u, xs[j]? = some u → w.cell? ((⟨b, off, none⟩ : Addr).add j) = some u := by
 obtain ⟨A, c, rfl, _, _, hl, hc⟩ := h
 obtain ⟨b, off, rfl, _, _⟩ := hc 0 xs[0] (qgeq h0)
 refine ⟨b, off, c, rfl, hl, fun j u hu => ?_⟩
 obtain ⟨b', off', e', _, hc'⟩ := hc j u hu
 injection e' with e'
 injection e' with e1 e2
 subst e1 e2
 rw [Addr.add_lit]
 exact hc'
theorem append_ahead {Q : Program} (w : World) (t ty e : TypeId) (i : TypeInfo) (ht : Q.underlying t = some (.slice e)) (hi : Q.info? e = some i) (hs1 : i.size = 1)
  (g sLen sCap : Nat) (cur : Array Value) (fz : Nat × Nat) (hg : w.heap[g]? = some (.cells cur e fz)) (hfz : fz = (0, 0) ∨ cur.size ≤ fz.1)
  (a : Addr) (m c : Nat) (news : List Value) (hl : news.length = m) (hnews : ∀ j u, news[j]? = some u → w.cell? (a.add j) = some u) (h1 : ∀ u ∈ news, u.oneCell' = true)
  (hroom : sLen + m ≤ sCap) (hfit : sLen + m ≤ cur.size) :
  (Builtin.append_ #[t, t] ty #[.slice (some ⟨g, 0, none⟩) sLen sCap, .slice (some a) m c]).run Q w =
   .ok (.slice (some ⟨g, 0, none⟩) (sLen + m) sCap) (w.setRow g (cur.toList.take sLen ++ news ++ cur.toList.drop (sLen + m)).toArray) := by
 have hf := run_firstCells_some (P := Q) w 1 m a m c news (by rw [hl, Nat.mul_one]) hnews
 have hst : (storeCells ⟨g, sLen, none⟩ news 0).run Q w = .ok () (w.setRow g (cur.toList.take sLen ++ news ++ cur.toList.drop (sLen + m)).toArray) := by
  subst hl
  rcases hfz with rfl | hfz
  ·exact run_storeCells_at Q g sLen e news 0 cur w hg hfit h1
  ·exact stored_ahead Q g sLen e fz news 0 cur w hg hfz hfit h1
 simp [Builtin.append_, run_underlying ht, sizeOf, typeInfo, hi, hs1, Builtin.lenOf, hroom, hf, Addr.add_lit, hst]
def BMark (B : Nat) (v : Value) (l : List UInt8) (w : World) : Prop :=
 ∃ g cap cur fz, v = .slice (some ⟨g, 0, none⟩) l.length cap ∧ B ≤ g ∧ w.heap[g]? = some (.cells cur 5 fz) ∧ l.length ≤ cap ∧ cap ≤ maxLen ∧ cur.size = cap ∧ cur.toList.take l.length = l.map byV ∧ (fz = (0, 0) ∨ cur.size ≤ fz.1)
section
variable {B : Nat} {v u : Value} {l k : List UInt8} {w w' : World}
theorem BMark.lt (h : BMark B v l w) : ∀ b ∈ ownL v, B ≤ b ∧ b < w.heap.size := by
 obtain ⟨g, cap, cur, fz, rfl, hB, hg, _⟩ := h
 intro b hb
 have e := mem_ownL.1 hb
 injection e with e
 subst e
 exact ⟨hB, (Array.getElem?_eq_some_iff.1 hg).1⟩
theorem BMark.keep0 (h : BMark B v l w) (r : Wr [] w w') : BMark B v l w' := by
 obtain ⟨g, cap, cur, fz, rfl, hB, hg, h'⟩ := h
 exact ⟨g, cap, cur, fz, rfl, hB, (r.block g (Array.getElem?_eq_some_iff.1 hg).1 (by simp)).trans hg, h'⟩
theorem BMark.cell (h : BMark B v l w) : ∃ g cap, v = .slice (some ⟨g, 0, none⟩) l.length cap ∧ ∀ j (hj : j < l.length), w.cell? ⟨g, j, none⟩ = some (.int .u8 (l[j].toNat : Int)) := by
 obtain ⟨g, cap, cur, fz, rfl, hB, hg, h1, h2, h3, h4, _⟩ := h
 refine ⟨g, cap, rfl, fun j hj => ?_⟩
 have e : (cur.toList.take l.length)[j]? = (l.map byV)[j]? := by rw [h4]
 rw [List.getElem?_take_of_lt hj, qgmq, qgeq hj] at e
 have e2 : cur[j]? = some (byV l[j]) := by simpa using e
 simp only [World.cell?, hg, e2]
 rfl
theorem BMark.text (h : BMark B v l w) : (convert 42 9 v).run Tryz.prog w = .ok (.string ⟨l.toArray⟩) w := by
 obtain ⟨g, cap, rfl, hc⟩ := h.cell
 have := run_convert_bytes_back (P := Tryz.prog) w 42 9 5 ⟨g, 0, none⟩ cap l Tryz.underlying42 Tryz.underlying5 Tryz.underlying9 (fun j hj => by
  rw [Addr.add_lit, Nat.zero_add]
  exact hc j hj)
 exact this
theorem BMark.of (w : World) (s : ByteArray) (hs : s.size ≤ 1000) : ∃ v w', (convert 9 42 (.string s)).run Tryz.prog w = .ok v w' ∧ BMark w.heap.size v s.data.toList w' ∧ Wr [] w w' := by
 have hconv := run_bytes_of_string (P := Tryz.prog) w 9 42 5 s Tryz.underlying9 Tryz.underlying42 Tryz.underlying5
 have hge := grownCap_ge w s.size 0 5
 have hcm := grownCap_le_maxLen w s.size 0 5 (by unfold maxLen; omega)
 have hd : s.data.size = s.size := rfl
 have hsz : (bytesRow s (grownCap w s.size 0 5)).size = grownCap w s.size 0 5 := by
  simp only [bytesRow, Array.size_append, Array.size_map, Array.size_replicate, hd]
  omega
 refine ⟨_, _, hconv, ⟨w.heap.size, _, _, _, rfl, Nat.le_refl _, heap_alloc_new w.drew _, hge, hcm, hsz, ?_, .inr (Nat.le_refl _)⟩, ((Wr.refl [] w).drew).alloc _⟩
 have e : s.data.toList.length = s.size := rfl
 simp only [bytesRow, Array.toList_append, Array.toList_map]
 rw [List.take_append_of_le_length (by simp), List.take_of_length_le (by simp)]
 rfl
theorem BMark.app (h : BMark B v l w) {P : Nat → Prop} (hu : Sl w P 1 u k.length (k.map byV)) (hk : 0 < k.length) (hl : l.length + k.length ≤ 100000000) (hB : B ≤ w.heap.size) :
  ∃ v' w', AppR v u w v' w' ∧ BMark B v' (l ++ k) w' ∧ Wr (ownL v) w w' := by
 obtain ⟨i0, hi, hz0, hz1, hz2⟩ := info_parts info_u8
 obtain ⟨b, off, c, rfl, hul, hcells⟩ := sl_cells hu (by rw [qlmq]; exact hk)
 have hul' : (k.map byV).length = k.length * i0.size := by rw [hz1, Nat.mul_one, qlmq]
 have hlm : (l.map byV).length = l.length := qlmq _
 obtain ⟨g, cap, cur, fz, rfl, hBg, hg, h1, h2, h3, h4, h5⟩ := h
 unfold AppR
 by_cases hroom : l.length + k.length ≤ cap
 ·have hr := append_ahead (Q := Tryz.prog) w 42 42 5 i0 Tryz.underlying42 hi hz1 g l.length cap cur fz hg h5 ⟨b, off, none⟩ k.length c (k.map byV) (qlmq _) hcells (byV_one k) hroom (by omega)
  rw [← qlaq] at hr
  refine ⟨_, _, hr, ⟨g, cap, _, fz, rfl, hBg, setRow_heap w g cur _ 5 fz hg, ?_, h2, ?_, ?_, ?_⟩, ?_⟩
  ·rw [qlaq]
   exact hroom
  ·simp only [List.size_toArray, qlaq, List.length_take, List.length_drop, Array.length_toList, qlmq]
   omega
  ·rw [h4, ← List.map_append, qlaq]
   have e : l.length + k.length = ((l ++ k).map byV).length := by rw [qlmq, qlaq]
   rw [e]
   exact List.take_left
  ·rcases h5 with h5 | h5
   ·exact .inl h5
   ·right
    simp only [List.size_toArray, qlaq, List.length_take, List.length_drop, Array.length_toList, qlmq]
    omega
  ·exact ⟨rfl, rfl, rfl, by simp, fun x _ hx => setRow_other w g x _ (fun e => hx (mem_ownL.2 (by rw [e]; rfl)))⟩
 ·have holds : ∀ j u, (l.map byV)[j]? = some u → w.cell? ((⟨g, 0, none⟩ : Addr).add j) = some u := by
   intro j u hj
   rw [← h4] at hj
   rw [Addr.add_lit, Nat.zero_add]
   have e2 : cur[j]? = some u := by
    rw [List.getElem?_take] at hj
    split at hj
    ·simpa using hj
    ·cases hj
   simp only [World.cell?, hg, e2]
   rfl
  have hr := run_append_grow (P := Tryz.prog) w 42 42 5 i0 _ Tryz.underlying42 hi hz0 ⟨g, 0, none⟩ l.length cap (l.map byV) (by rw [hz1, Nat.mul_one, hlm]) holds ⟨b, off, none⟩ k.length c (k.map byV) hul' hcells (by omega) (by omega) (growslice_fits (by unfold maxLen at h2; omega) (by rw [hz2]; omega))
  have hge := grownCap_ge w (l.length + k.length) cap 5
  have hcm := grownCap_le_maxLen w (l.length + k.length) cap 5 (by unfold maxLen; omega)
  rw [← qlaq] at hr hge hcm
  refine ⟨_, _, hr, ⟨w.heap.size, _, _, (0, 0), rfl, hB, heap_alloc_new w.drew _, hge, hcm, ?_, ?_, .inl rfl⟩, ((Wr.refl _ w).drew).alloc _⟩
  ·simp only [Array.size_append, List.size_toArray, size_zeroCells, qlmq, Value.cells, qlaq, List.size_toArray]
   rw [qlaq] at hge
   simp
   omega
  ·simp only [Array.toList_append, qapq]
   rw [← qapq, ← List.map_append]
   have e : (l ++ k).length = ((l ++ k).map byV).length := by rw [qlmq]
   conv => lhs; rw [e]
   exact List.take_left
end
end Go.Proofs.YtildcdgobdfieaaGreat
