/- A text's bytes as a row, and what is put behind them; ref 21's filed, Pack: walked. Conditions: none but those named. -/
import Derived.Test.YtildcdgobdfieaaGreatOT34
import Derived.Test.YtildcdgobdfieaaGreatOT35
import Derived.Test.YtildcdgobdfieaaGreatOT07
import Derived.Test.YtildcdgobdfieaaGreatOT01
import Derived.Test.YtildcdgobdfieaaGreatOT08
set_option linter.unusedVariables false
set_option linter.unusedSimpArgs false
set_option maxRecDepth 100000
set_option maxHeartbeats 32000000
namespace Go.Proofs.YtildcdgobdfieaaGreat
open Go.RowKit
theorem stored_ahead (Q : Program) (g o : Nat) (t : TypeId) (fz : Nat × Nat) : ∀ (vs : List Value) (i : Nat) (cur : Array Value) (w : World), w.heap[g]? = some (.cells cur t fz) → cur.size ≤ fz.1 → o + i + vs.length ≤ cur.size → (∀ v ∈ vs, v.oneCell' = true) →
  (storeCells ⟨g, o, none⟩ vs i).run Q w = .ok () (w.setRow g (cur.toList.take (o + i) ++ vs ++ cur.toList.drop (o + i + vs.length)).toArray)
 | [], i, cur, w, hg, _, _, _ => by
  simp only [storeCells, List.append_nil, List.length_nil, Nat.add_zero, List.take_append_drop, Array.toArray_toList]
  rw [setRow_self w g cur t fz hg]
  rfl
 | v :: rest, i, cur, w, hg, hfz, hl, h1 => by
  rw [List.length_cons] at hl
  have hi : o + i < cur.size := by omega
  have hcell : w.cell? ⟨g, o + i, none⟩ = some cur[o + i] := by simp [World.cell?, hg, hi]
  have hfro : w.frozen? ⟨g, o + i, none⟩ = false := by
   simp only [World.frozen?, hg, Bool.and_eq_false_iff, decide_eq_false_iff_not]
   left
   omega
  have hst : (store ((⟨g, o, none⟩ : Addr).add i) v).run Q w = .ok () (w.setRow g (cur.setIfInBounds (o + i) v)) := by
   rw [Addr.add_lit, run_store Q w _ v _ (h1 v (by simp)), hcell]
   simp [hfro, setCell_eq_setRow w g (o + i) cur t fz v hg]
  have ih := stored_ahead Q g o t fz rest (i + 1) (cur.setIfInBounds (o + i) v) (w.setRow g (cur.setIfInBounds (o + i) v)) (setRow_heap w g cur _ t _ hg) (by simpa using hfz) (by simp; omega) (fun x hx => h1 x (by simp [hx]))
  simp only [storeCells, Sem.run_bind, hst, Result.andThen_ok, ih, setRow_setRow]
  congr 3
  have e := list_seg_step cur.toList (o + i) v rest (by simp; omega)
  simpa [Array.toList_setIfInBounds, Nat.add_assoc] using e
theorem sl_cells {w : World} {P : Nat → Prop} {size n : Nat} {v : Value} {xs : List Value} (h : Sl w P size v n xs) (h0 : 0 < xs.length) :
  ∃ b off c, v = .slice (some ⟨b, off, none⟩) n c ∧ xs.length = n * size ∧ ∀ j u, xs[j]? = some u → w.cell? ((⟨b, off, none⟩ : Addr).add j) = some u := by
 obtain ⟨A, c, rfl, _, _, hl, hc⟩ := h
 obtain ⟨b, off, rfl, _, _⟩ := hc 0 xs[0] (List.getElem?_eq_getElem h0)
 refine ⟨b, off, c, rfl, hl, fun j u hu => ?_⟩
 obtain ⟨b', off', e', _, hc'⟩ := hc j u hu
 injection e' with e'
 injection e' with e1 e2
 subst e1 e2
 rw [Addr.add_lit]
 exact hc'
theorem append_ahead {Q : Program} (w : World) (t ty e : TypeId) (i : TypeInfo) (ht : Q.underlying t = some (.slice e)) (hi : Q.info? e = some i) (hs1 : i.size = 1)
  (g sLen sCap : Nat) (cur : Array Value) (fz : Nat × Nat) (hg : w.heap[g]? = some (.cells cur e fz)) (hfz : fz = (0, 0) ∨ cur.size ≤ fz.1)
  (a : Addr) (m c : Nat) (news : List Value) (hl : news.length = m) (hnews : ∀ j u, news[j]? = some u → w.cell? (a.add j) = some u) (h1 : ∀ u ∈ news, u.oneCell' = true)
  (hroom : sLen + m ≤ sCap) (hfit : sLen + m ≤ cur.size) :
  (Builtin.append_ #[t, t] ty #[.slice (some ⟨g, 0, none⟩) sLen sCap, .slice (some a) m c]).run Q w =
   .ok (.slice (some ⟨g, 0, none⟩) (sLen + m) sCap) (w.setRow g (cur.toList.take sLen ++ news ++ cur.toList.drop (sLen + m)).toArray) := by
 have hf := run_firstCells_some (P := Q) w 1 m a m c news (by rw [hl, Nat.mul_one]) hnews
 have hst : (storeCells ⟨g, sLen, none⟩ news 0).run Q w = .ok () (w.setRow g (cur.toList.take sLen ++ news ++ cur.toList.drop (sLen + m)).toArray) := by
  subst hl
  rcases hfz with rfl | hfz
  ·exact run_storeCells_at Q g sLen e news 0 cur w hg hfit h1
  ·exact stored_ahead Q g sLen e fz news 0 cur w hg hfz hfit h1
 simp [Builtin.append_, run_underlying ht, sizeOf, typeInfo, hi, hs1, Builtin.lenOf, hroom, hf, Addr.add_lit, hst]
def BMark (B : Nat) (v : Value) (l : List UInt8) (w : World) : Prop :=
 ∃ g cap cur fz, v = .slice (some ⟨g, 0, none⟩) l.length cap ∧ B ≤ g ∧ w.heap[g]? = some (.cells cur 5 fz) ∧ l.length ≤ cap ∧ cap ≤ maxLen ∧ cur.size = cap ∧ cur.toList.take l.length = l.map byV ∧ (fz = (0, 0) ∨ cur.size ≤ fz.1)
section
variable {B : Nat} {v u : Value} {l k : List UInt8} {w w' : World}
theorem BMark.lt (h : BMark B v l w) : ∀ b ∈ ownL v, B ≤ b ∧ b < w.heap.size := by
 obtain ⟨g, cap, cur, fz, rfl, hB, hg, _⟩ := h
 intro b hb
 have e := mem_ownL.1 hb
 injection e with e
 subst e
 exact ⟨hB, (Array.getElem?_eq_some_iff.1 hg).1⟩
theorem BMark.keep0 (h : BMark B v l w) (r : Wr [] w w') : BMark B v l w' := by
 obtain ⟨g, cap, cur, fz, rfl, hB, hg, h'⟩ := h
 exact ⟨g, cap, cur, fz, rfl, hB, (r.block g (Array.getElem?_eq_some_iff.1 hg).1 (by simp)).trans hg, h'⟩
theorem BMark.cell (h : BMark B v l w) : ∃ g cap, v = .slice (some ⟨g, 0, none⟩) l.length cap ∧ ∀ j (hj : j < l.length), w.cell? ⟨g, j, none⟩ = some (.int .u8 (l[j].toNat : Int)) := by
 obtain ⟨g, cap, cur, fz, rfl, hB, hg, h1, h2, h3, h4, _⟩ := h
 refine ⟨g, cap, rfl, fun j hj => ?_⟩
 have e : (cur.toList.take l.length)[j]? = (l.map byV)[j]? := by rw [h4]
 rw [List.getElem?_take_of_lt hj, List.getElem?_map, List.getElem?_eq_getElem hj] at e
 have e2 : cur[j]? = some (byV l[j]) := by simpa using e
 simp only [World.cell?, hg, e2]
 rfl
theorem BMark.text (h : BMark B v l w) : (convert 42 9 v).run Tryz.prog w = .ok (.string ⟨l.toArray⟩) w := by
 obtain ⟨g, cap, rfl, hc⟩ := h.cell
 have := run_convert_bytes_back (P := Tryz.prog) w 42 9 5 ⟨g, 0, none⟩ cap l Tryz.underlying42 Tryz.underlying5 Tryz.underlying9 (fun j hj => by
  rw [Addr.add_lit, Nat.zero_add]
  exact hc j hj)
 exact this
theorem BMark.of (w : World) (s : ByteArray) (hs : s.size ≤ 1000) : ∃ v w', (convert 9 42 (.string s)).run Tryz.prog w = .ok v w' ∧ BMark w.heap.size v s.data.toList w' ∧ Wr [] w w' := by
 have hconv := run_bytes_of_string (P := Tryz.prog) w 9 42 5 s Tryz.underlying9 Tryz.underlying42 Tryz.underlying5
 have hge := grownCap_ge w s.size 0 5
 have hcm := grownCap_le_maxLen w s.size 0 5 (by unfold maxLen; omega)
 have hd : s.data.size = s.size := rfl
 have hsz : (bytesRow s (grownCap w s.size 0 5)).size = grownCap w s.size 0 5 := by
  simp only [bytesRow, Array.size_append, Array.size_map, Array.size_replicate, hd]
  omega
 refine ⟨_, _, hconv, ⟨w.heap.size, _, _, _, rfl, Nat.le_refl _, heap_alloc_new w.drew _, hge, hcm, hsz, ?_, .inr (Nat.le_refl _)⟩, ((Wr.refl [] w).drew).alloc _⟩
 have e : s.data.toList.length = s.size := rfl
 simp only [bytesRow, Array.toList_append, Array.toList_map]
 rw [List.take_append_of_le_length (by simp), List.take_of_length_le (by simp)]
 rfl
theorem BMark.app (h : BMark B v l w) {P : Nat → Prop} (hu : Sl w P 1 u k.length (k.map byV)) (hk : 0 < k.length) (hl : l.length + k.length ≤ 100000000) (hB : B ≤ w.heap.size) :
  ∃ v' w', AppR v u w v' w' ∧ BMark B v' (l ++ k) w' ∧ Wr (ownL v) w w' := by
 obtain ⟨i0, hi, hz0, hz1, hz2⟩ := info_parts info_u8
 obtain ⟨b, off, c, rfl, hul, hcells⟩ := sl_cells hu (by rw [List.length_map]; exact hk)
 have hul' : (k.map byV).length = k.length * i0.size := by rw [hz1, Nat.mul_one, List.length_map]
 have hlm : (l.map byV).length = l.length := List.length_map _
 obtain ⟨g, cap, cur, fz, rfl, hBg, hg, h1, h2, h3, h4, h5⟩ := h
 unfold AppR
 by_cases hroom : l.length + k.length ≤ cap
 ·have hr := append_ahead (Q := Tryz.prog) w 42 42 5 i0 Tryz.underlying42 hi hz1 g l.length cap cur fz hg h5 ⟨b, off, none⟩ k.length c (k.map byV) (List.length_map _) hcells (byV_one k) hroom (by omega)
  rw [← List.length_append] at hr
  refine ⟨_, _, hr, ⟨g, cap, _, fz, rfl, hBg, setRow_heap w g cur _ 5 fz hg, ?_, h2, ?_, ?_, ?_⟩, ?_⟩
  ·rw [List.length_append]
   exact hroom
  ·simp only [List.size_toArray, List.length_append, List.length_take, List.length_drop, Array.length_toList, List.length_map]
   omega
  ·rw [h4, ← List.map_append, List.length_append]
   have e : l.length + k.length = ((l ++ k).map byV).length := by rw [List.length_map, List.length_append]
   rw [e]
   exact List.take_left
  ·rcases h5 with h5 | h5
   ·exact .inl h5
   ·right
    simp only [List.size_toArray, List.length_append, List.length_take, List.length_drop, Array.length_toList, List.length_map]
    omega
  ·exact ⟨rfl, rfl, rfl, by simp, fun x _ hx => setRow_other w g x _ (fun e => hx (mem_ownL.2 (by rw [e]; rfl)))⟩
 ·have holds : ∀ j u, (l.map byV)[j]? = some u → w.cell? ((⟨g, 0, none⟩ : Addr).add j) = some u := by
   intro j u hj
   rw [← h4] at hj
   rw [Addr.add_lit, Nat.zero_add]
   have e2 : cur[j]? = some u := by
    rw [List.getElem?_take] at hj
    split at hj
    ·simpa using hj
    ·cases hj
   simp only [World.cell?, hg, e2]
   rfl
  have hr := run_append_grow (P := Tryz.prog) w 42 42 5 i0 _ Tryz.underlying42 hi hz0 ⟨g, 0, none⟩ l.length cap (l.map byV) (by rw [hz1, Nat.mul_one, hlm]) holds ⟨b, off, none⟩ k.length c (k.map byV) hul' hcells (by omega) (by omega) (growslice_fits (by unfold maxLen at h2; omega) (by rw [hz2]; omega))
  have hge := grownCap_ge w (l.length + k.length) cap 5
  have hcm := grownCap_le_maxLen w (l.length + k.length) cap 5 (by unfold maxLen; omega)
  rw [← List.length_append] at hr hge hcm
  refine ⟨_, _, hr, ⟨w.heap.size, _, _, (0, 0), rfl, hB, heap_alloc_new w.drew _, hge, hcm, ?_, ?_, .inl rfl⟩, ((Wr.refl _ w).drew).alloc _⟩
  ·simp only [Array.size_append, List.size_toArray, size_zeroCells, List.length_map, Value.cells, List.length_append, List.size_toArray]
   rw [List.length_append] at hge
   simp
   omega
  ·simp only [Array.toList_append, List.append_assoc]
   rw [← List.append_assoc, ← List.map_append]
   have e : (l ++ k).length = ((l ++ k).map byV).length := by rw [List.length_map]
   conv => lhs; rw [e]
   exact List.take_left
end
end Go.Proofs.YtildcdgobdfieaaGreat

namespace Go.Proofs.YtildcdgobdfieaaGreat
open Go.RowKit
theorem rfiled_any (s : ByteArray) (hs : s.size ≤ 1000) (k : Nat) (hk : k < 18446744073709551616) (v : Value) (l : List UInt8) (hl0 : 0 < l.length) (hl : l.length ≤ 10000000) (P : Nat → Prop) (w : World) (h : Sl w P 1 v l.length (l.map byV)) :
  Calls Tryz.prog 41 #[.string s, .int .u64 (k : Int), v] w fun e w' => e = .returned (.string ⟨(s.data.toList ++ numL k 8 ++ l).toArray⟩) ∧ Wr [] w w' := by
 obtain ⟨va, wa, hconv, ba, ra⟩ := BMark.of w s hs
 have HN := qh (fun w => rnumber_any k 8 hk (by decide) (by decide) w)
 have BA := qh ba
 have RA := qh ra
 have HH := qh h
 have hss : s.data.toList.length = s.size := rfl
 obtain ⟨R, hR⟩ : ∃ q : ByteArray, (⟨(s.data.toList ++ numL k 8 ++ l).toArray⟩ : ByteArray) = q := ⟨_, rfl⟩
 rw [hR]
 have HR := qh hR
 clear ba ra h hR
 go_enter Tryz.func41, Tryz.ntmps41
 go_wp2_with fail
 refine (HN.out _).mono ?_
 rintro e w1 ⟨u1, rfl, b1, r1⟩
 obtain ⟨v2, w2, hrun, m2, r2⟩ := (BA.out.keep0 r1).app b1.sl (by rw [numL_len]; decide) (by rw [numL_len]; omega) (Nat.le_trans RA.out.size r1.size)
 have rw2 : Wr [] w w2 := (RA.out.trans r1).trans' r2 (fun x hx => .inr (BA.out.lt x hx).1)
 obtain ⟨v3, w3, hrun3, m3, r3⟩ := m2.app (HH.out.wr0 rw2) hl0 (by rw [List.length_append, numL_len]; omega) rw2.size
 have htx := m3.text
 have hwr : Wr [] w w3 := rw2.trans' r3 (fun x hx => .inr (m2.lt x hx).1)
 rw [HR.out] at htx
 have HRUN := qh hrun
 have HRUN3 := qh hrun3
 have HWR := qh hwr
 clear hrun hrun3 m2 m3 r2 r3 rw2 hwr b1 r1 hconv
 go_wp2_with (at_builtin; first | refine wpList_append_run rfl _ _ _ rfl _ _ rfl rfl _ _ HRUN.out ?_ | refine wpList_append_run rfl _ _ _ rfl _ _ rfl rfl _ _ HRUN3.out ?_)
 go_ret
 exact ⟨rfl, HWR.out⟩
theorem rpack_any (m : ModD) (vp vi vn : Value) (P : Nat → Prop) (hwd : wordsB m) (w : World) (h : ModL w P vp vi vn m) : Calls Tryz.prog 13 #[m.val vp vi vn] w (PackR m w) := by
 have hb := fun w (h : ModL w P vp vi vn m) => romod_any m vp vi vn P w h
 obtain ⟨Ap, cp, rfl, lp1, lp2⟩ := Sl.form h.procs
 obtain ⟨Ai, ci, rfl, li1, li2⟩ := Sl.form h.imports
 obtain ⟨An, cn, rfl, ln1, ln2⟩ := Sl.form h.init
 have acc := (Wr.refl [] w).alloc (.cells #[.string m.code, .slice Ap m.procs.length cp, .slice Ai m.imports.length ci, .int .i64 m.data, .slice An m.init.length cn] 28)
 have bA := Blk.new w 28 #[.string m.code, .slice Ap m.procs.length cp, .slice Ai m.imports.length ci, .int .i64 m.data, .slice An m.init.length cn]
 have hc := hb _ (h.wr0 acc)
 unfold ModD.val ModD.cells at hc ⊢
 obtain ⟨w0, hw0⟩ : ∃ w0, w.alloc (.cells #[.string m.code, .slice Ap m.procs.length cp, .slice Ai m.imports.length ci, .int .i64 m.data, .slice An m.init.length cn] 28) = w0 := ⟨_, rfl⟩
 obtain ⟨g, hg⟩ : ∃ g, w.heap.size = g := ⟨_, rfl⟩
 rw [hw0] at acc bA hc
 rw [hg] at bA
 have Hw0 := qh hw0
 have Hg := qh hg
 have HC0 := qh hc
 have HH := qh (h.wr0 acc)
 have ACC := qh acc
 have HWD := qh hwd
 unfold PackR
 obtain ⟨pr, hpr⟩ : ∃ pr, packP m = pr := ⟨_, rfl⟩
 rw [hpr]
 have HPR := qh hpr
 clear hpr
 clear hw0 hg hc acc hb hwd h
 go_enter Tryz.func13, Tryz.ntmps13
 go_upto_region 1 with (fail)
 rw [Hw0.out, Hg.out]
 have c0 := bA.cell 0
 have c1 := bA.cell 1
 have c2 := bA.cell 2
 have c3 := bA.cell 3
 have c4 := bA.cell 4
 simp only [qgaq, qgzq, qgsq] at c0 c1 c2 c3 c4
 go_wp2_with fail
 refine HC0.out.mono ?_
 rintro e w1 ⟨rfl, r1⟩
 cases hm : omodB m with
 | false =>
  have R1 := qh r1
  clear r1 c0 c1 c2 c3 c4
  go_wp2_with fail
  go_ret2
  refine ⟨?_, ACC.out.trans R1.out⟩
  rw [← HPR.out]
  unfold packP
  rw [hm]
  rfl
 | true =>
  replace c0 := r1.cellOf c0 (by simp)
  replace c1 := r1.cellOf c1 (by simp)
  replace c2 := r1.cellOf c2 (by simp)
  replace c3 := r1.cellOf c3 (by simp)
  replace c4 := r1.cellOf c4 (by simp)
  have hp := packed_yes m _ _ _ P hm HWD.out w1 (HH.out.wr0 r1)
  unfold ModD.val ModD.cells at hp
  have HP := qh hp
  have R1 := qh r1
  clear r1 hp
  go_wp2_with fail
  refine HP.out.mono ?_
  rintro e w2 ⟨v2, rfl, b2, r2⟩
  have hlen : 0 < (packL m).length := by
   unfold packL
   simp only [List.length_append, numL_len]
   omega
  have hcv := conv_own b2 hlen
  have R2 := qh r2
  clear r2 b2 c0 c1 c2 c3 c4
  go_wp2_with fail
  go_ret2
  refine ⟨?_, (ACC.out.trans R1.out).trans R2.out⟩
  rw [← HPR.out]
  unfold packP
  rw [hm]
  rfl
end Go.Proofs.YtildcdgobdfieaaGreat

namespace Go.Proofs.YtildcdgobdfieaaGreat
open Go.RowKit
theorem rmore_any (h : Nat) (hh : h < 18446744073709551616) (s : ByteArray) (hs : s.size ≤ maxLen) (w : World) :
  Calls Tryz.prog 75 #[.int .u64 (h : Int), .string s] w fun e w' => e = .returned (.int .u64 ((moreN h (natsOf s) : Nat) : Int)) ∧ w = w' := by
 unfold maxLen at hs
 go_enter Tryz.func75, Tryz.ntmps75
 go_wp2_with fail
 go_loop [0, 5] (fun t i => ∃ k : Nat, k ≤ s.size ∧ i = .int .i64 k ∧ t = .int .u64 ((moreN h ((natsOf s).take k) : Nat) : Int)) (fun _ i => s.size - (intOf i).toNat)
 case atStart => exact ⟨0, by omega, rfl, rfl⟩
 case round =>
  obtain ⟨k, hk, rfl, rfl⟩ := hrel
  by_cases hlt : k < s.size
  ·have hlti : (k : Int) < (s.size : Int) := by omega
   have ha := moreN_lt hh ((natsOf s).take k)
   have hm : moreN h ((natsOf s).take (k + 1)) = stepN (moreN h ((natsOf s).take k)) (s[k]'hlt).toNat := by
    rw [natsOf_take s k hlt, moreN_snoc]
   have hst := step_eq (moreN h ((natsOf s).take k)) (s[k]'hlt).toNat ha (s[k]'hlt).toNat_lt
   rw [← hm] at hst
   generalize hma : moreN h ((natsOf s).take k) = a at *
   generalize hmb : moreN h ((natsOf s).take (k + 1)) = b at *
   have hc0 : (0 : Int) ≤ ((s[k]'hlt).toNat : Int) := by omega
   have hc1 : ((s[k]'hlt).toNat : Int) ≤ 255 := by have := (s[k]'hlt).toNat_lt; omega
   have hmb' := hmb
   clear hma hmb hm ha
   go_wp2_with fail
   exact ⟨⟨k + 1, by omega, rfl, by rw [hmb']⟩, by show s.size - ((k + 1 : Nat) : Int).toNat < s.size - (k : Int).toNat; omega⟩
  ·have hks : k = s.size := by omega
   subst hks
   have hl : (natsOf s).take s.size = natsOf s := List.take_of_length_le (by rw [natsOf_len]; omega)
   rw [hl]
   go_wp2_with fail
   go_ret
   exact ⟨rfl, rfl⟩
theorem rof_any (s : ByteArray) (hs : s.size ≤ maxLen) (w : World) :
  Calls Tryz.prog 42 #[.string s] w fun e w' => e = .returned (.int .u64 ((ofN (moreN 14695981039346656037 (natsOf s)) : Nat) : Int)) ∧ w = w' := by
 have hm := fun w => rmore_any 14695981039346656037 (by decide) s hs w
 have hlt := moreN_lt (h := 14695981039346656037) (by decide) (natsOf s)
 generalize moreN 14695981039346656037 (natsOf s) = x at *
 go_enter Tryz.func42, Tryz.ntmps42
 go_wp2_with fail
 refine (hm _).mono ?_
 rintro e w1 ⟨rfl, rfl⟩
 have hx : bits .xor .u64 (x : Int) ((x : Int) / (4294967296 : Int)) = ((ofN x : Nat) : Int) := by
  have e : (x : Int) / (4294967296 : Int) = ((x >>> 32 : Nat) : Int) := by
   rw [Nat.shiftRight_eq_div_pow]
   omega
  rw [e, Go.bits_xor_u64_nat x (x >>> 32) hlt (by rw [Nat.shiftRight_eq_div_pow]; omega)]
  rfl
 go_wp2_with fail
 go_ret
 exact ⟨rfl, rfl⟩
end Go.Proofs.YtildcdgobdfieaaGreat

namespace Go.Proofs.YtildcdgobdfieaaGreat
open Go.RowKit
def AppT (v : Value) (s : ByteArray) (w : World) (v' : Value) (w' : World) : Prop := (Builtin.append_ #[42, 9] 42 #[v, .string s]).run Tryz.prog w = .ok v' w'
theorem PSt.str {w0 wr : World} {v : Value} {l : List UInt8} (h : PSt w0 v l wr) (s : ByteArray) (hl : l.length + s.size ≤ 100000000) : ∃ v' w', AppT v s wr v' w' ∧ PSt w0 v' (l ++ s.data.toList) w' := by
 obtain ⟨v', w', h1, h2, h3⟩ := h.1.str s hl h.2.size
 exact ⟨v', w', h1, h2, h.1.wr h.2 (Nat.le_refl _) h3⟩
theorem PSt.first (w : World) (x : Int) (h0 : 0 ≤ x) (h1 : x ≤ 255) : PSt w (.slice (some ⟨w.heap.size, 0, none⟩) 1 1) (numL x.toNat 1) (w.alloc (.cells #[.int .u8 x] 5)) :=
 ⟨BOwn.blk (l := numL x.toNat 1) (by
  rw [byV_num x h0 h1]
  exact Blk.new w 5 #[.int .u8 x]) (Nat.le_refl _) (by rw [numL_len]; decide), (Wr.refl [] w).alloc _⟩
theorem numL_tru (b : Bool) : numL ((truN b : Nat) : Int).toNat 1 = truL b := by cases b <;> rfl
theorem rnumU (x : Int) (h0 : 0 ≤ x ∧ x < 18446744073709551616) (w : World) :
  Calls Tryz.prog 39 #[.int .u64 x, .int .i64 8] w (NumR x.toNat 8 w) := by
 have := rnumber_any x.toNat 8 (by omega) (by decide) (by decide) w
 rw [Int.toNat_of_nonneg h0.1] at this
 exact this
theorem renc_any (o : ObjD) (vu vp vi vn : Value) (P : Nat → Prop) (hW : objW o) (w : World) (h : ObjL w P vu vp vi vn o) : Calls Tryz.prog 11 #[o.val vu vp vi vn] w (OEncR o w) := by
 have hb := fun w (h : ObjL w P vu vp vi vn o) => romay_any o vu vp vi vn P w h
 have hpk := fun (hm : omodB o.mod = true) w (h : ModL w P vp vi vn o.mod) => packed_yes o.mod vp vi vn P hm hW.words w h
 obtain ⟨Au, cu, rfl, lu1, lu2⟩ := Sl.form h.uses
 obtain ⟨Ap, cp, rfl, lp1, lp2⟩ := Sl.form h.mod.procs
 obtain ⟨Ai, ci, rfl, li1, li2⟩ := Sl.form h.mod.imports
 obtain ⟨An, cn, rfl, ln1, ln2⟩ := Sl.form h.mod.init
 unfold maxLen at lu2
 have acc := (Wr.refl [] w).alloc (.cells #[.string o.module, .bool o.main, .int .u64 o.key, .slice Au o.uses.length cu, .string o.mod.code, .slice Ap o.mod.procs.length cp, .slice Ai o.mod.imports.length ci, .int .i64 o.mod.data, .slice An o.mod.init.length cn] 30)
 have bA := Blk.new w 30 #[.string o.module, .bool o.main, .int .u64 o.key, .slice Au o.uses.length cu, .string o.mod.code, .slice Ap o.mod.procs.length cp, .slice Ai o.mod.imports.length ci, .int .i64 o.mod.data, .slice An o.mod.init.length cn]
 have hc := hb _ (h.wr0 acc)
 unfold ObjD.val ObjD.cells at hc ⊢
 obtain ⟨w0, hw0⟩ : ∃ w0, w.alloc (.cells #[.string o.module, .bool o.main, .int .u64 o.key, .slice Au o.uses.length cu, .string o.mod.code, .slice Ap o.mod.procs.length cp, .slice Ai o.mod.imports.length ci, .int .i64 o.mod.data, .slice An o.mod.init.length cn] 30) = w0 := ⟨_, rfl⟩
 obtain ⟨g, hg⟩ : ∃ g, w.heap.size = g := ⟨_, rfl⟩
 rw [hw0] at acc bA hc
 rw [hg] at bA
 have Hw0 := qh hw0
 have Hg := qh hg
 have HC0 := qh hc
 have HH := qh (h.wr0 acc)
 have ACC := qh acc
 have HW := qh hW
 unfold ModD.val ModD.cells at hpk
 have HPK := qh hpk
 unfold OEncR
 obtain ⟨pr, hpr⟩ : ∃ pr, encodeP o = pr := ⟨_, rfl⟩
 rw [hpr]
 have HPR := qh hpr
 clear hw0 hg hc acc hb hW h hpk hpr
 go_enter Tryz.func11, Tryz.ntmps11
 go_upto_region 1 with (fail)
 rw [Hw0.out, Hg.out]
 have c0 := bA.cell 0
 have c1 := bA.cell 1
 have c2 := bA.cell 2
 have c3 := bA.cell 3
 have c4 := bA.cell 4
 have c5 := bA.cell 5
 have c6 := bA.cell 6
 have c7 := bA.cell 7
 have c8 := bA.cell 8
 simp only [qgaq, qgzq, qgsq] at c0 c1 c2 c3 c4 c5 c6 c7 c8
 go_wp2_with fail
 refine HC0.out.mono ?_
 rintro e w1 ⟨rfl, r1⟩
 cases hm : objB o with
 | false =>
  have R1 := qh r1
  clear r1 c0 c1 c2 c3 c4 c5 c6 c7 c8
  go_wp2_with fail
  go_ret2
  refine ⟨?_, ACC.out.trans R1.out⟩
  rw [← HPR.out]
  unfold encodeP
  rw [hm]
  rfl
 | true =>
  have okm := obj_ok hm
  have OKM := qh okm
  have HM := qh hm
  have q1 := okm.name
  have q2 := okm.uses
  have f0 : IntKind.u8.wrap (o.module.size : Int) = (o.module.size : Int) := by rw [IntKind.wrap_u8]; omega
  have f1 : IntKind.u8.wrap (o.uses.length : Int) = (o.uses.length : Int) := by rw [IntKind.wrap_u8]; omega
  have HNU := qh (fun w => rnumU o.key HW.out.key w)
  replace c0 := r1.cellOf c0 (by simp)
  replace c1 := r1.cellOf c1 (by simp)
  replace c2 := r1.cellOf c2 (by simp)
  replace c3 := r1.cellOf c3 (by simp)
  replace c4 := r1.cellOf c4 (by simp)
  replace c5 := r1.cellOf c5 (by simp)
  replace c6 := r1.cellOf c6 (by simp)
  replace c7 := r1.cellOf c7 (by simp)
  replace c8 := r1.cellOf c8 (by simp)
  have C2 := qh c2
  have C3 := qh c3
  have C4 := qh c4
  have C5 := qh c5
  have C6 := qh c6
  have C7 := qh c7
  have C8 := qh c8
  have R1 := qh r1
  obtain ⟨va, wa, hrun, sa⟩ := (PSt.first w1 (o.module.size : Int) (by omega) (by omega)).str o.module (by rw [numL_len]; omega)
  have d0 := ((Wr.refl [] w1).alloc (.cells #[.int .u8 (o.module.size : Int)] 5)).cellOf c0 (by simp)
  rw [Int.toNat_natCast] at sa
  have sa' : PSt w1 va (textL o.module) wa := sa
  have SA := qh sa'
  have e1 := sa'.cell c1
  have HRUN := qh hrun
  clear r1 okm hm sa sa' hrun c1 c2 c3 c4 c5 c6 c7 c8 bA
  go_wp2_with (at_builtin; refine Lib.wpList_append_run _ rfl _ _ _ _ rfl _ _ rfl rfl _ _ HRUN.out ?_)
  refine (rtruth_any o.main _).mono ?_
  rintro e wt ⟨rfl, rfl⟩
  obtain ⟨vb, wb, hrun, sb, _⟩ := SA.out.one (truN o.main : Int) (by omega) (by unfold truN; split <;> omega) (by rw [textL_len]; omega)
  rw [numL_tru] at sb
  have SB := qh sb
  have HRUN2 := qh hrun
  have c2 := sb.cell C2.out
  clear HRUN d0 c0 e1 sb hrun
  go_wp2_with (at_builtin; refine wpList_append_run rfl _ _ _ rfl _ _ rfl rfl _ _ HRUN2.out ?_)
  refine (HNU.out _).mono ?_
  rintro e wn ⟨un, rfl, bn, rn⟩
  obtain ⟨vc, wc, hrun, sc, _, _⟩ := SB.out.num rn bn (by simp only [List.length_append, numL_len, textL_len, truL_len]; omega)
  obtain ⟨vd, wd, hrun2, sd, _⟩ := sc.one (o.uses.length : Int) (by omega) (by omega) (by simp only [List.length_append, numL_len, textL_len, truL_len]; omega)
  rw [Int.toNat_natCast] at sd
  have sd' : PSt w1 vd (headO o) wd := sd
  have SD := qh sd'
  have HRUN3 := qh hrun
  have HRUN4 := qh hrun2
  have c3 := sc.cell C3.out
  clear sc sd sd' hrun hrun2 c2 HRUN2 rn bn
  go_wp2_with (at_builtin; first | refine wpList_append_run rfl _ _ _ rfl _ _ rfl rfl _ _ HRUN3.out ?_ | refine wpList_append_run rfl _ _ _ rfl _ _ rfl rfl _ _ HRUN4.out ?_)
  clear HRUN3 HRUN4 c3
  go_loopw [4, 5] (fun s4 s5 wr => ∃ k : Nat, k ≤ o.uses.length ∧ s5 = .int .i64 k ∧ PSt w1 s4 (headO o ++ (o.uses.take k).flatMap useL) wr) (fun _ s5 _ => o.uses.length - (intOf s5).toNat)
  case atStart => exact ⟨0, by omega, rfl, by simpa using SD.out⟩
  case round =>
   obtain ⟨k, hk, rfl, s5⟩ := hrel
   have S5 := qh s5
   have c3 := s5.cell C3.out
   have hlen := uses_len OKM.out k
   clear s5
   by_cases hlt : k < o.uses.length
   ·obtain ⟨u, hu⟩ : ∃ u, o.uses[k]? = some u := ⟨_, List.getElem?_eq_getElem hlt⟩
    obtain ⟨bu, off, c, e, _, _, hcs⟩ := use_at HH.out.uses hu
    injection e with e1 e2 e3
    subst e1
    subst e3
    have OK := OKM.out.use u (List.mem_of_getElem? hu)
    have HNK := qh (fun w => rnumU u.key (HW.out.keys u (List.mem_of_getElem? hu)) w)
    have z0 := R1.out.cellOf (hcs 0 _ rfl) (by simp)
    have z1 := R1.out.cellOf (hcs 1 _ rfl) (by simp)
    simp only [Nat.add_zero] at z0
    have x0 := S5.out.cell z0
    have hlti : (k : Int) < (o.uses.length : Int) := by omega
    have hk0 : (0 : Int) ≤ (k : Int) := by omega
    have g0 : IntKind.u8.wrap (u.module.size : Int) = (u.module.size : Int) := by rw [IntKind.wrap_u8]; omega
    obtain ⟨v6, w6, hrun6, s6, _⟩ := S5.out.one (u.module.size : Int) (by omega) (by omega) (by omega)
    obtain ⟨v7, w7, hrun7, s7⟩ := s6.str u.module (by rw [List.length_append, numL_len]; omega)
    rw [Int.toNat_natCast, List.append_assoc] at s7
    have s7' : PSt w1 v7 (headO o ++ (o.uses.take k).flatMap useL ++ textL u.module) w7 := s7
    have y0 := s6.cell z0
    have y3 := s6.cell C3.out
    have x1 := s7'.cell z1
    have x3 := s7'.cell C3.out
    have S7 := qh s7'
    have HRUN6 := qh hrun6
    have HRUN7 := qh hrun7
    have HX := qh hu
    clear hcs e2 hu z0 z1 s6 s7 s7' hrun6 hrun7
    go_wp2_with (at_builtin; first | refine wpList_append_run rfl _ _ _ rfl _ _ rfl rfl _ _ HRUN6.out ?_ | refine Lib.wpList_append_run _ rfl _ _ _ _ rfl _ _ rfl rfl _ _ HRUN7.out ?_)
    refine (HNK.out _).mono ?_
    rintro e w8 ⟨u8, rfl, b8, r8⟩
    obtain ⟨v9, w9, hrun, s9, _, _⟩ := S7.out.num r8 b8 (by rw [numL_len, List.length_append, textL_len]; omega)
    have hPK : PSt w1 v9 (headO o ++ (o.uses.take (k + 1)).flatMap useL) w9 := by
     rw [flat_take_succ useL HX.out]
     unfold useL
     simp only [List.append_assoc] at s9 ⊢
     exact s9
    have HPKK := qh hPK
    have HRUN9 := qh hrun
    clear hPK s9 hrun b8 r8 x0 x1 x3 y0 y3 HRUN6 HRUN7 c3
    go_wp2_with (at_builtin; refine wpList_append_run rfl _ _ _ rfl _ _ rfl rfl _ _ HRUN9.out ?_)
    go_roundw
    case rel => exact ⟨k + 1, by omega, by go_num, HPKK.out⟩
    case measure => simp [intOf]; omega
   ·have hkn : k = o.uses.length := by omega
    subst hkn
    have hpq := HPK.out OKM.out.mod wr (by have := (HH.out.mod.wr0 R1.out).wr0 S5.out.2; exact this)
    have HPQ := qh hpq
    have d4 := S5.out.cell C4.out
    have d5 := S5.out.cell C5.out
    have d6 := S5.out.cell C6.out
    have d7 := S5.out.cell C7.out
    have d8 := S5.out.cell C8.out
    have hpl := packL_len (mod_ok OKM.out.mod)
    have hbl := bodyL_len OKM.out
    have hb0 : 0 < (bodyL o).length := by
     unfold bodyL
     simp only [List.length_append, numL_len]
     omega
    clear hpq
    go_wp2_with fail
    refine HPQ.out.mono ?_
    rintro e w10 ⟨u10, rfl, b10, r10⟩
    obtain ⟨v11, w11, hrun, s11, _, _⟩ := S5.out.num r10 b10 (by omega)
    rw [← body_eq] at s11
    have hcv := conv_own s11.1 hb0
    have hof := fun w => rof_any (⟨(bodyL o).toArray⟩ : ByteArray) (by show (bodyL o).toArray.size ≤ maxLen; rw [List.size_toArray]; unfold maxLen; omega) w
    rw [keyL_nats (show (⟨(bodyL o).toArray⟩ : ByteArray).data.toList = bodyL o from rfl)] at hof
    have hfl := rfiled_any ⟨#[83, 69, 80, 79]⟩ (by decide) (keyL (bodyL o)) (keyL_lt _) v11 (bodyL o) hb0 (by omega) _ w11 s11.1.sl
    have HOF := qh hof
    have HFL := qh hfl
    have HRUN := qh hrun
    have S11 := qh s11.2
    obtain ⟨K, hK⟩ : ∃ q, keyL (bodyL o) = q := ⟨_, rfl⟩
    rw [hK] at HOF HFL
    have HKK := qh hK
    clear hrun hof hfl s11 b10 r10 d4 d5 d6 d7 d8 c3 hK
    go_wp2_with (at_builtin; refine wpList_append_run rfl _ _ _ rfl _ _ rfl rfl _ _ HRUN.out ?_)
    refine (HOF.out _).mono ?_
    rintro e w12 ⟨rfl, rfl⟩
    go_wp2_with fail
    refine HFL.out.mono ?_
    rintro e w13 ⟨rfl, r13⟩
    have R13 := qh r13
    clear r13
    go_wp2_with fail
    go_ret2
    refine ⟨?_, (ACC.out.trans R1.out).trans (S11.out.trans R13.out)⟩
    rw [← HPR.out, ← HKK.out]
    unfold encodeP
    rw [HM.out]
    rfl
end Go.Proofs.YtildcdgobdfieaaGreat
