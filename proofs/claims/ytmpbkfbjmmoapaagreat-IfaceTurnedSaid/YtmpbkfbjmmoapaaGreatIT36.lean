/- The order of IfaceTurned: two rows of whole numbers, one taken from the other. No conditions. -/
import Derived.Test.YtmpbkfbjmmoapaaGreatIT01
import Derived.Test.YtmpbkfbjmmoapaaGreatIT19
import Derived.Test.YtmpbkfbjmmoapaaGreatIT35
import Derived.Test.YtmpbkfbjmmoapaaGreatIT11
namespace Go.Proofs.YtmpbkfbjmmoapaaGreat
open Go.RowKit
set_option linter.unusedVariables false
set_option linter.unusedSimpArgs false
theorem push_two {w : World} {base k size bytes : Nat} {t T : TypeId} {i0 : TypeInfo} {z v : Value} {xs ys : List Value} (hu : Tryz.prog.underlying t = some (.slice T)) (hi : Tryz.prog.info? T = some i0) (hz0 : i0.zero = some z) (hz1 : i0.size = size) (hz2 : i0.bytes = bytes) (hzs : z.cells.size = size) (hsz : 0 < size)
  (h : w.ownsRow base T size v k xs) {B : Nat} (hB : Blk w B T ys.toArray) (hys : ys.length = size) (h1 : ∀ u ∈ ys, u.oneCell' = true) (hk : k ≤ 65535) (hby : bytes ≤ 1000) (hbase : base ≤ w.heap.size) :
  ∃ A c w', (Builtin.append_ #[t, t] t #[v, .slice (some ⟨B, 0, none⟩) 1 1]).run Tryz.prog w = .ok (.slice A (k + 1) c) w' ∧ w'.ownsRow base T size (.slice A (k + 1) c) (k + 1) (xs ++ ys) ∧ Wr (ownL v) w w' ∧ ((Value.slice A (k + 1) c).ownBlock = v.ownBlock ∨ (Value.slice A (k + 1) c).ownBlock = some w.heap.size) := by
 have hbb : (k + 1) * bytes ≤ 140737488355328 := by
  have : (k + 1) * bytes ≤ 65536 * 1000 := Nat.mul_le_mul (by omega) hby
  omega
 obtain ⟨v', w', hrun, hown, hgrow, _, hbk⟩ := run_append_own_at (P := Tryz.prog) w base t t T i0 z size bytes hu hi hz0 hz1 hz2 hzs hsz v k _ h ⟨B, 0, none⟩ 1 1 ys (by rw [hys]; omega) (fun jj u hu => by
  rw [Addr.add_lit, Nat.zero_add, hB.cell, qgaq]
  exact hu) h1 (by unfold maxLen; omega) hbb hbase
 obtain ⟨A7, c7, hv7⟩ : ∃ A c, v' = .slice A (k + 1) c := by
  rcases hown.2 with ⟨_, h0⟩ | ⟨gg, cap, cur, e, _⟩
  ·omega
  ·exact ⟨_, _, e⟩
 subst hv7
 exact ⟨A7, c7, w', hrun, hown, Wr.ofGrownOwn hgrow, hbk⟩
theorem Sl.takeS {w : World} {P : Nat → Prop} {A : Option Addr} {n c k : Nat} {xs : List Value} (h : Sl w P 1 (.slice A n c) n xs) (hk : k ≤ n) : Sl w P 1 (.slice A k c) k (xs.take k) := by
 obtain ⟨A', c', e, h1, h2, h3, h4⟩ := h
 injection e with e1 e2 e3
 subst e1 e3
 refine ⟨A, c, rfl, by omega, h2, by rw [List.length_take]; omega, fun j u hj => h4 j u ?_⟩
 rw [List.getElem?_take] at hj
 split at hj
 ·exact hj
 ·cases hj
theorem Sl.dropS {w : World} {P : Nat → Prop} {b n c k : Nat} {A' : Option Addr} {xs : List Value} (h : Sl w P 1 (.slice (some ⟨b, 0, none⟩) n c) n xs) (hA : k < n → A' = some ⟨b, k, none⟩) : Sl w P 1 (.slice A' (n - k) (c - k)) (n - k) (xs.drop k) := by
 obtain ⟨A2, c', e, h1, h2, h3, h4⟩ := h
 injection e with e1 e2 e3
 subst e1 e3
 refine ⟨A', c - k, rfl, by omega, by omega, by rw [List.length_drop]; omega, fun j u hj => ?_⟩
 rw [List.getElem?_drop] at hj
 obtain ⟨b', off, eb, hp, hc⟩ := h4 _ u hj
 injection eb with eb
 injection eb with eb1 eb2
 subst eb1 eb2
 have hlt := (List.getElem?_eq_some_iff.1 hj).1
 refine ⟨b, k, hA (by omega), hp, ?_⟩
 rw [Nat.zero_add] at hc
 exact hc
theorem info_int1 : (Tryz.prog.info? 3).map (fun i => (i.zero, i.size, i.bytes)) = some (some (.int .i64 0), 1, 8) := by kernel_rfl
theorem one_ordC (l : List Nat) : ∀ u ∈ ordC l, u.oneCell' = true := by simp [ordC, Value.oneCell']
theorem del_runs {w7 wE : World} {base m k rb cr : Nat} {rest : List Nat} {A' : Option Addr} (hr : w7.ownsRow base 3 1 (.slice (some ⟨rb, 0, none⟩) m cr) m (ordC rest)) (hk : k < m) (hm : m ≤ 1000) (hA : k + 1 < m → A' = some ⟨rb, k + 1, none⟩) (hE : w7.drew.alloc (.cells #[] 3) = wE) :
  ∃ v1 wG v2 wH, (Builtin.append_ #[30, 30] 30 #[.slice (some ⟨w7.heap.size, 0, none⟩) 0 0, .slice (some ⟨rb, 0, none⟩) k cr]).run Tryz.prog wE = .ok v1 wG ∧
   (Builtin.append_ #[30, 30] 30 #[v1, .slice A' (m - (k + 1)) (cr - (k + 1))]).run Tryz.prog wG = .ok v2 wH ∧ Wr [] w7 wE ∧ Wr [] w7 wG ∧ Wr [] w7 wH ∧ wH.ownsRow w7.heap.size 3 1 v2 (k + (m - (k + 1))) (ordC (rest.take k ++ rest.drop (k + 1))) := by
 obtain ⟨i0, hi0, hz0, hz1, hz2⟩ := info_parts info_int1
 have rE : Wr [] w7 wE := by rw [← hE]; exact (Wr.refl [] _).drew.alloc _
 have hs : wE.heap.size = w7.heap.size + 1 := by rw [← hE]; simp
 have bE : Blk wE w7.heap.size 3 #[] := by
  rw [← hE]
  have := Blk.new w7.drew 3 #[]
  simpa using this
 have sl := Sl.ofOwn (P := fun b => b < w7.heap.size) hr (fun b hb => (hr.lt b hb).2)
 obtain ⟨v1, wG, run1, own1, grow1, bk1⟩ := run_append_sl (P := Tryz.prog) wE w7.heap.size 30 30 3 i0 _ 1 8 Tryz.underlying30 hi0 hz0 hz1 hz2 rfl (by decide) (.slice (some ⟨w7.heap.size, 0, none⟩) 0 0) 0 [] (own_blk0 bE (Nat.le_refl _)) _ (.slice (some ⟨rb, 0, none⟩) k cr) k ((ordC rest).take k) ((Sl.wr0 sl rE).takeS (by omega)) (fun u hu => one_ordC _ u (List.mem_of_mem_take hu)) (by unfold maxLen; omega) (by omega) (by omega)
 have r1 : Wr (ownL (.slice (some ⟨w7.heap.size, 0, none⟩) 0 0)) wE wG := Wr.ofGrownOwn grow1
 have rG : Wr [] w7 wG := rE.trans' r1 (fun q hq => .inr (by
  have h : w7.heap.size = q := by simpa [Value.ownBlock] using mem_ownL.1 hq
  omega))
 obtain ⟨v2, wH, run2, own2, grow2, bk2⟩ := run_append_sl (P := Tryz.prog) wG w7.heap.size 30 30 3 i0 _ 1 8 Tryz.underlying30 hi0 hz0 hz1 hz2 rfl (by decide) v1 (0 + k) _ own1 _ (.slice A' (m - (k + 1)) (cr - (k + 1))) (m - (k + 1)) ((ordC rest).drop (k + 1)) ((Sl.wr0 sl rG).dropS hA) (fun u hu => one_ordC _ u (List.mem_of_mem_drop hu)) (by unfold maxLen; omega) (by omega) (by have := r1.size; omega)
 have rH : Wr [] w7 wH := rG.trans' (Wr.ofGrownOwn grow2) (fun q hq => .inr (own1.lt q (mem_ownL.1 hq)).1)
 refine ⟨v1, wG, v2, wH, run1, run2, rE, rG, rH, ?_⟩
 rw [List.nil_append, Nat.zero_add] at own2
 have e : ordC (rest.take k ++ rest.drop (k + 1)) = (ordC rest).take k ++ (ordC rest).drop (k + 1) := by
  unfold ordC
  rw [List.map_append, List.map_take, List.map_drop]
 rw [e]
 exact own2
structure OrdP (w : World) (vr vo : Value) (ord rest : List Nat) (n i : Nat) (wr : World) : Prop where
 wr_ : Wr [] w wr
 rest_ : wr.ownsRow w.heap.size 3 1 vr (n - i) (ordC rest)
 ord_ : wr.ownsRow w.heap.size 3 1 vo i (ordC ord)
 apart : ∀ q, vr.ownBlock = some q → vo.ownBlock ≠ some q
 len : ord.length = i
 lenr : rest.length = n - i
 le : i ≤ n
 nd : (ord ++ rest).Nodup
 lt : ∀ k, k ∈ ord ++ rest → k < n
def OrdAt (w : World) (vr vo : Value) (n i : Nat) (wr : World) : Prop := ∃ ord rest, OrdP w vr vo ord rest n i wr
theorem ord_next {w wq wE w7 wH : World} {vr vo v2 : Value} {ord rest : List Nat} {n i k x c7 : Nat} {A7 : Option Addr} (h : OrdP w vr vo ord rest n i wq) (hx : rest[k]? = some x) (rE : Wr [] wq wE)
  (hown : w7.ownsRow w.heap.size 3 1 (.slice A7 (i + 1) c7) (i + 1) (ordC ord ++ [.int .i64 (x : Int)])) (hw7 : Wr (ownL vo) wE w7)
  (rH : Wr [] w7 wH) (hr : wH.ownsRow w7.heap.size 3 1 v2 (k + (n - i - (k + 1))) (ordC (rest.take k ++ rest.drop (k + 1)))) : OrdAt w v2 (.slice A7 (i + 1) c7) n (i + 1) wH := by
 obtain ⟨hk, hxe⟩ := List.getElem?_eq_some_iff.1 hx
 have hlr := h.lenr
 have hlo : ∀ q, q ∈ ownL vo → w.heap.size ≤ q := fun q hq => (h.ord_.lt q (mem_ownL.1 hq)).1
 have rw7 : Wr [] w w7 := (h.wr_.trans rE).trans' hw7 (fun q hq => .inr (hlo q hq))
 have hsz : w.heap.size ≤ w7.heap.size := rw7.size
 have hp : ((ord ++ [x]) ++ (rest.take k ++ rest.drop (k + 1))).Perm (ord ++ rest) := by
  have e : rest = rest.take k ++ x :: rest.drop (k + 1) := by
   rw [← hxe, List.getElem_cons_drop, List.take_append_drop]
  rw [List.append_assoc]
  refine List.Perm.append_left ord ?_
  have h2 : (x :: (rest.take k ++ rest.drop (k + 1))).Perm (rest.take k ++ x :: rest.drop (k + 1)) := List.perm_middle.symm
  rw [← e] at h2
  exact h2
 refine ⟨ord ++ [x], rest.take k ++ rest.drop (k + 1), ⟨rw7.trans rH, ?_, ?_, fun q hq e => ?_, ?_, ?_, ?_, ?_, ?_⟩⟩
 ·rw [show n - (i + 1) = k + (n - i - (k + 1)) by omega]
  exact own_base hr hsz
 ·have e : ordC (ord ++ [x]) = ordC ord ++ [.int .i64 (x : Int)] := by simp [ordC]
  rw [e]
  exact own_keep hown rH (fun _ _ => by simp)
 ·have h1 := (hr.lt q hq).1
  have h2 := (hown.lt q e).2
  omega
 ·rw [List.length_append, h.len]; rfl
 ·rw [List.length_append, List.length_take, List.length_drop]; omega
 ·omega
 ·exact hp.nodup_iff.2 h.nd
 ·intro q hq
  exact h.lt q (hp.mem_iff.1 hq)
theorem ord_start {w wq : World} {vr : Value} {n : Nat} (r : Wr [] w wq) (h : wq.ownsRow w.heap.size 3 1 vr n (ordC (List.range n))) : OrdAt w vr (.slice none 0 0) n 0 wq :=
 ⟨[], List.range n, ⟨r, h, World.ownsRow_nil _ _ _ _, fun q _ e => by simp [Value.ownBlock] at e, rfl, by simp, Nat.zero_le _, List.nodup_range, fun k hk => by simpa using hk⟩⟩
theorem turned_canon {d dt cA cB cC : FaceD} {nA nB nC : Int} {ord : List Nat} (hT : Turned d dt ord) (hw : faceW d) (hcA : canonP d = (cA, nA)) (hcB : canonP dt = (cB, nB)) (hcC : canonP cA = (cC, nC)) :
  nB = nA ∧ (nA = 0 → nC = 0 ∧ cB = cA ∧ cC = cA ∧ faceW cA ∧ cA.types.length ≤ d.types.length ∧ cA.items.length = d.items.length) := by
 have hm' := hT.may
 by_cases hm : mayP d = 0
 ·have e1 : canonP d = (canonF d, 0) := by unfold canonP; rw [if_pos hm]
  have e2 : canonP dt = (canonF dt, 0) := by unfold canonP; rw [if_pos (by rw [hm']; exact hm)]
  rw [e1] at hcA
  rw [e2] at hcB
  injection hcA with a1 a2
  injection hcB with b1 b2
  subst a1 a2 b1 b2
  have hmc := canon_may hm
  have e3 : canonP (canonF d) = (canonF (canonF d), 0) := by unfold canonP; rw [if_pos hmc]
  rw [e3] at hcC
  injection hcC with c1 c2
  subst c1 c2
  refine ⟨rfl, fun _ => ⟨rfl, hT.canon hm, canon_twice hm, faceW_canon hw hm, ?_, ?_⟩⟩
  ·rw [canon_len]; exact ord_len hm
  ·show (d.items.map (anewI (ordOf d))).length = d.items.length
   rw [List.length_map]
 ·have e1 : canonP d = (noFace, mayP d) := by unfold canonP; rw [if_neg hm]
  have e2 : canonP dt = (noFace, mayP dt) := by unfold canonP; rw [if_neg (by rw [hm']; exact hm)]
  rw [e1] at hcA
  rw [e2] at hcB
  injection hcA with a1 a2
  injection hcB with b1 b2
  subst a2 b2
  exact ⟨hm', fun h => absurd h hm⟩
theorem turn_sort {f : FaceP} {ord : List Nat} (h : ∀ x ∈ f.items, 0 ≤ x.v.sort) : ∀ x ∈ (turnP f ord).items, 0 ≤ x.v.sort := by
 intro x hx
 obtain ⟨y, hy, rfl⟩ := List.mem_map.1 hx
 have := h y hy
 unfold renP renPV
 split <;> exact this
theorem turn_items {f : FaceP} {ord : List Nat} : (turnP f ord).items.length = f.items.length := by
 show (f.items.map _).length = _
 rw [List.length_map]
theorem faceOf_items (f : FaceP) : (faceOf f).items.length = f.items.length := by
 show (f.items.map itmOf).length = _
 rw [List.length_map]
end Go.Proofs.YtmpbkfbjmmoapaaGreat

/- The small interface of law 14's alive: how it is made, and how such a one lies in memory. No conditions. -/
namespace Go.Proofs.YtmpbkfbjmmoapaaGreat
open Go.RowKit
set_option linter.unusedVariables false
set_option linter.unusedSimpArgs false
def arrT : Ty := ⟨10, ⟨#[]⟩, ⟨#[]⟩, 4, 11, 0, 0, [], [], [], [], 0⟩
def subT : Ty := ⟨9, ⟨#[]⟩, ⟨#[]⟩, 2, 0, 0, 9, [], [], [], [], 0⟩
def recT : Ty := ⟨12, ⟨#[]⟩, ⟨#[]⟩, 0, 0, 0, 0, [], [], [], [], 0⟩
def itI : ItmD := ⟨⟨#[105]⟩, 3, 11, 0, .nil⟩
def itA : ItmD := ⟨⟨#[97]⟩, 3, 10, 1, .nil⟩
def smallF : FaceD := ⟨⟨#[77]⟩, [], [arrT, subT, recT], [itI, itA]⟩
def Ty.flat (t : Ty) : List Value := t.cells (.slice none 0 0) (.slice none 0 0) (.slice none 0 0) (.slice none 0 0)
def Ty.bare (t : Ty) : Prop := t.names = [] ∧ t.fields = [] ∧ t.arms = [] ∧ t.params = []
theorem flat_len (t : Ty) : t.flat.length = 12 := rfl
theorem bare_lists {t : Ty} (h : t.bare) (w : World) (P : Nat → Prop) : Lists w P (.slice none 0 0) (.slice none 0 0) (.slice none 0 0) (.slice none 0 0) t := by
 obtain ⟨h1, h2, h3, h4⟩ := h
 refine ⟨?_, ?_, ?_, ?_⟩
 ·rw [h1]; exact Sl.nil _ _ _
 ·rw [h2]; exact Sl.nil _ _ _
 ·rw [h3]; exact SlArms.nil _ _
 ·rw [h4]; exact Sl.nil _ _ _
theorem blk_sl {w : World} {P : Nat → Prop} {g size n : Nat} {T : TypeId} {xs : List Value} (h : Blk w g T xs.toArray) (hg : P g) (hl : xs.length = n * size) (hn : n ≤ maxLen) : Sl w P size (.slice (some ⟨g, 0, none⟩) n n) n xs :=
 ⟨some ⟨g, 0, none⟩, n, rfl, Nat.le_refl _, hn, hl, fun j u hj => ⟨g, 0, rfl, hg, by rw [Nat.zero_add, h.cell, qgaq]; exact hj⟩⟩
theorem face_at {w : World} {P : Nat → Prop} {gt gi : Nat} (m : ByteArray) (ts : List Ty) (is : List ItmD) (hb : ∀ t ∈ ts, t.bare) (ht : Blk w gt 50 (ts.flatMap Ty.flat).toArray) (hi : Blk w gi 60 (is.flatMap ItmD.cells).toArray) (pt : P gt) (pi : P gi) (n1 : ts.length ≤ maxLen) (n2 : is.length ≤ maxLen) :
  FaceL w P (.slice none 0 0) (.slice (some ⟨gt, 0, none⟩) ts.length ts.length) (.slice (some ⟨gi, 0, none⟩) is.length is.length) ⟨m, [], ts, is⟩ := by
 have len : ∀ ts : List Ty, (ts.flatMap Ty.flat).length = ts.length * 12 := by
  intro ts
  induction ts with
  | nil => rfl
  | cons t ts ih => rw [List.flatMap_cons, List.length_append, ih, flat_len, List.length_cons]; omega
 have len2 : ∀ ts : List ItmD, (ts.flatMap ItmD.cells).length = ts.length * 5 := by
  intro ts
  induction ts with
  | nil => rfl
  | cons t ts ih => rw [List.flatMap_cons, List.length_append, ih, itm_len, List.length_cons]; omega
 refine ⟨Sl.nil _ _ _, ⟨ts.flatMap Ty.flat, blk_sl ht pt (len ts) n1, ?_, ?_⟩, blk_sl hi pi (len2 is) n2⟩
 ·intro u hu
  obtain ⟨t, _, hu⟩ := List.mem_flatMap.1 hu
  simp only [Ty.flat, Ty.cells, List.mem_cons, List.not_mem_nil, or_false] at hu
  rcases hu with rfl | rfl | rfl | rfl | rfl | rfl | rfl | rfl | rfl | rfl | rfl | rfl <;> rfl
 ·intro i t hi
  refine ⟨_, _, _, _, fun j u hj => ?_, bare_lists (hb t (List.mem_of_getElem? hi)) w P⟩
  have hj12 : j < 12 := (List.getElem?_eq_some_iff.1 hj).1
  rw [flatF_at flat_len ts i j t hi hj12]
  exact hj
def tyL3 : List Value := [arrT, subT, recT].flatMap Ty.flat
def itL2 : List Value := [itI, itA].flatMap ItmD.cells
def SmallR (w : World) (e : Ending) (w' : World) : Prop :=
 ∃ gt gi, e = .returned (.agg #[.string ⟨#[77]⟩, .slice none 0 0, .slice (some ⟨gt, 0, none⟩) 3 3, .slice (some ⟨gi, 0, none⟩) 2 2]) ∧ Wr [] w w' ∧ w.heap.size ≤ gt ∧ w.heap.size ≤ gi ∧ gt ≠ gi ∧ Blk w' gt 50 tyL3.toArray ∧ Blk w' gi 60 itL2.toArray
set_option maxRecDepth 100000 in
set_option maxHeartbeats 4000000 in
theorem small14_any (w : World) : Calls Tryz.prog 11 #[] w (SmallR w) := by
 go_enter Tryz.func11, Tryz.ntmps11
 go_wp2_with fail
 have b0 := ((Blk.new w 33 #[.string ⟨#[77]⟩, .slice none 0 0, .slice (some ⟨w.heap.size + 1, 0, none⟩) 3 3, .slice (some ⟨w.heap.size + 1 + 1, 0, none⟩) 2 2]).alloc (.cells tyL3.toArray 50)).alloc (.cells itL2.toArray 60)
 have b1 := (Blk.new (w.alloc (.cells #[.string ⟨#[77]⟩, .slice none 0 0, .slice (some ⟨w.heap.size + 1, 0, none⟩) 3 3, .slice (some ⟨w.heap.size + 1 + 1, 0, none⟩) 2 2] 33)) 50 tyL3.toArray).alloc (.cells itL2.toArray 60)
 have b2 := Blk.new ((w.alloc (.cells #[.string ⟨#[77]⟩, .slice none 0 0, .slice (some ⟨w.heap.size + 1, 0, none⟩) 3 3, .slice (some ⟨w.heap.size + 1 + 1, 0, none⟩) 2 2] 33)).alloc (.cells tyL3.toArray 50)) 60 itL2.toArray
 have rr : Wr [] w (((w.alloc (.cells #[.string ⟨#[77]⟩, .slice none 0 0, .slice (some ⟨w.heap.size + 1, 0, none⟩) 3 3, .slice (some ⟨w.heap.size + 1 + 1, 0, none⟩) 2 2] 33)).alloc (.cells tyL3.toArray 50)).alloc (.cells itL2.toArray 60)) := (((Wr.refl [] w).alloc _).alloc _).alloc _
 rw [show (w.alloc (.cells #[.string ⟨#[77]⟩, .slice none 0 0, .slice (some ⟨w.heap.size + 1, 0, none⟩) 3 3, .slice (some ⟨w.heap.size + 1 + 1, 0, none⟩) 2 2] 33)).heap.size = w.heap.size + 1 by simp] at b1
 rw [show ((w.alloc (.cells #[.string ⟨#[77]⟩, .slice none 0 0, .slice (some ⟨w.heap.size + 1, 0, none⟩) 3 3, .slice (some ⟨w.heap.size + 1 + 1, 0, none⟩) 2 2] 33)).alloc (.cells tyL3.toArray 50)).heap.size = w.heap.size + 1 + 1 by simp] at b2
 have e3 : tyL3.toArray = #[.int .u8 10, .string ⟨#[]⟩, .string ⟨#[]⟩, .int .i64 4, .int .i64 11, .int .i64 0, .int .i64 0, .slice none 0 0, .slice none 0 0, .slice none 0 0, .slice none 0 0, .int .i64 0, .int .u8 9, .string ⟨#[]⟩, .string ⟨#[]⟩, .int .i64 2, .int .i64 0, .int .i64 0, .int .i64 9, .slice none 0 0, .slice none 0 0, .slice none 0 0, .slice none 0 0, .int .i64 0, .int .u8 12, .string ⟨#[]⟩, .string ⟨#[]⟩, .int .i64 0, .int .i64 0, .int .i64 0, .int .i64 0, .slice none 0 0, .slice none 0 0, .slice none 0 0, .slice none 0 0, .int .i64 0] := rfl
 have e2 : itL2.toArray = #[.string ⟨#[105]⟩, .int .u8 3, .int .i64 11, .nilIface, .int .i64 0, .string ⟨#[97]⟩, .int .u8 3, .int .i64 10, .nilIface, .int .i64 1] := rfl
 rw [← e2, ← e3]
 generalize (((w.alloc (.cells #[.string ⟨#[77]⟩, .slice none 0 0, .slice (some ⟨w.heap.size + 1, 0, none⟩) 3 3, .slice (some ⟨w.heap.size + 1 + 1, 0, none⟩) 2 2] 33)).alloc (.cells tyL3.toArray 50)).alloc (.cells itL2.toArray 60)) = W at *
 have t0 := b0.cell 0
 have t1 := b0.cell 1
 have t2 := b0.cell 2
 have t3 := b0.cell 3
 simp only [qgaq, qgzq, qgsq] at t0 t1 t2 t3
 refine bodyPost_ret (v := .agg #[.string ⟨#[77]⟩, .slice none 0 0, .slice (some ⟨w.heap.size + 1, 0, none⟩) 3 3, .slice (some ⟨w.heap.size + 1 + 1, 0, none⟩) 2 2]) ?_ rfl ⟨_, _, rfl, rr, by omega, by omega, by omega, b1, b2⟩
 simp [results, Tryz.results11, go_sem, t0, t1, t2, t3]
end Go.Proofs.YtmpbkfbjmmoapaaGreat
