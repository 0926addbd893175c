/- Canon's closure: what its variables hold. No conditions. -/
import Derived.Test.YtildcdgobdfieaaGreatSY22
import Derived.Test.YtildcdgobdfieaaGreatSY14
import Derived.Test.YtildcdgobdfieaaGreatSY04
import Derived.Test.YtildcdgobdfieaaGreatSY01
set_option linter.unusedVariables false
set_option linter.unusedSimpArgs false
set_option maxRecDepth 100000
set_option maxHeartbeats 32000000
namespace Go.Proofs.YtildcdgobdfieaaGreat
open Go.RowKit
theorem meets_append {kd : Int → List Int} (k : Nat) : ∀ (l m ord : List Int), meets kd k (l ++ m) ord = meets kd k m (meets kd k l ord) := by
 cases k with
 | zero => intro l m ord; rfl
 | succ k =>
  intro l
  induction l with
  | nil => intro m ord; rw [List.nil_append, meets_nil]
  | cons x l ih => intro m ord; rw [List.cons_append, meets_cons, meets_cons, ih]
theorem meets_drop {kd : Int → List Int} {k j : Nat} {l : List Int} {n : Int} {ord : List Int} (h : l[j]? = some n) : meets kd (k + 1) (l.drop j) ord = meets kd (k + 1) (l.drop (j + 1)) (if n < 10 ∨ n ∈ ord then ord else meets kd k (kd n) (ord ++ [n])) := by
 have hk := (List.getElem?_eq_some_iff.1 h).1
 have e : l[j] = n := (List.getElem?_eq_some_iff.1 h).2
 conv => lhs; rw [List.drop_eq_getElem_cons hk, meets_cons]
 rw [e]
def numsOf (ord : List Int) (n : Int) : Option Value := (ord.idxOf? n).map fun k => .int .i64 (10 + (k : Int))
theorem idx_push {ord : List Int} {n : Int} (h : n ∉ ord) (j : Int) : (ord ++ [n]).idxOf? j = if j = n then some ord.length else ord.idxOf? j := by
 induction ord with
 | nil =>
  by_cases hj : j = n
  ·subst hj
   simp [List.idxOf?]
  ·have : (n == j) = false := by simpa using fun e => hj e.symm
   simp [List.idxOf?, hj, this]
 | cons x l ih =>
  have hx : x ≠ n := fun e => h (by simp [e])
  have hl : n ∉ l := fun e => h (by simp [e])
  rw [List.cons_append, List.idxOf?_cons, ih hl]
  by_cases hxj : x = j
  ·subst hxj
   rw [if_neg hx]
   simp [List.idxOf?_cons, hx]
  ·have hb : (x == j) = false := by simpa using hxj
   by_cases hj : j = n
   ·subst hj
    simp [hb]
   ·simp [hb, hj, List.idxOf?_cons]
theorem numsOf_push {ord : List Int} {n : Int} (h : n ∉ ord) : (fun j => if j = n then some (Value.int .i64 (10 + (ord.length : Int))) else numsOf ord j) = numsOf (ord ++ [n]) := by
 funext j
 unfold numsOf
 rw [idx_push h]
 by_cases hj : j = n
 ·rw [if_pos hj, if_pos hj]
  rfl
 ·rw [if_neg hj, if_neg hj]
theorem numsOf_out {ord : List Int} {n : Int} (h : n ∉ ord) : numsOf ord n = none := by
 unfold numsOf
 have : ord.idxOf? n = none := by simpa using h
 rw [this]
 rfl
theorem numsOf_in {ord : List Int} {n : Int} (h : n ∈ ord) : numsOf ord n = some (.int .i64 (anewN ord n)) := by
 obtain ⟨k, h1, _⟩ := idx_some h
 unfold numsOf anewN
 rw [h1]
 rfl
structure CC where
 B : Nat
 pn : Nat
 po : Nat
 pi : Nat
 pm : Nat
 gn : Nat
def CC.blocks (c : CC) : List Nat := [c.pn, c.po, c.pm, c.gn]
def CC.caps (c : CC) : Array Value := #[.pointer (some ⟨c.pn, 0, none⟩), .pointer (some ⟨c.po, 0, none⟩), .pointer (some ⟨c.pi, 0, none⟩), .pointer (some ⟨c.pm, 0, none⟩)]
structure CC.wf (c : CC) : Prop where
 nodup : c.blocks.Nodup
 low : ∀ b ∈ c.blocks, c.B ≤ b
theorem CC.wf.ne {c : CC} (hc : c.wf) : c.pn ≠ c.po ∧ c.pn ≠ c.pm ∧ c.pn ≠ c.gn ∧ c.po ≠ c.pm ∧ c.po ≠ c.gn ∧ c.pm ≠ c.gn := by
 have h := hc.nodup
 unfold CC.blocks at h
 simp only [List.nodup_cons, List.mem_cons, List.not_mem_nil, or_false, not_or] at h
 obtain ⟨⟨a1, a2, a3⟩, ⟨b1, b2⟩, c1, _⟩ := h
 exact ⟨a1, a2, a3, b1, b2, c1⟩
structure CEnv (c : CC) (w0 : World) (nt : Nat) (ord : List Int) (vo : Value) (w : World) : Prop where
 bel : Below c.B w0 w
 bn : Blk w c.pn 189 #[.map (some c.gn)]
 bo : Blk w c.po 25 #[vo]
 bm : Blk w c.pm 190 #[.func (.func 99) #[] c.caps]
 mn : MapI w c.gn (numsOf ord)
 own : w.ownsRow c.B 3 1 vo ord.length (ord.map (Value.int .i64))
 far : ∀ b, vo.ownBlock = some b → b ∉ c.blocks
 nodup : ord.Nodup
 sub : ∀ x ∈ ord, x ∈ nums nt ∧ 10 ≤ x
structure CStep (c : CC) (vo : Value) (w : World) (vo' : Value) (w' : World) : Prop where
 wr : Wr (c.gn :: c.po :: ownL vo) w w'
 own : ∀ g, vo'.ownBlock = some g → vo.ownBlock = some g ∨ w.heap.size ≤ g
structure CSafe (c : CC) (vo : Value) (w : World) (g : Nat) : Prop where
 lt : g < w.heap.size
 n1 : g ≠ c.gn
 n2 : g ≠ c.po
 n3 : vo.ownBlock ≠ some g
section
variable {c : CC} {w0 w w1 w2 W : World} {nt : Nat} {ord ord' : List Int} {vo vo1 vo2 : Value} {g : Nat}
theorem CStep.refl (c : CC) (vo : Value) (w : World) : CStep c vo w vo w := ⟨Wr.refl _ _, fun g h => .inl h⟩
theorem CStep.trans (h : CStep c vo w vo1 w1) (k : CStep c vo1 w1 vo2 w2) : CStep c vo w vo2 w2 := by
 refine ⟨h.wr.trans' k.wr (fun x hx => ?_), fun g hg => ?_⟩
 ·simp only [List.mem_cons] at hx ⊢
  rcases hx with hx | hx | hx
  ·exact .inl (.inl hx)
  ·exact .inl (.inr (.inl hx))
  ·rcases h.own x (mem_ownL.1 hx) with h1 | h1
   ·exact .inl (.inr (.inr (mem_ownL.2 h1)))
   ·exact .inr h1
 ·rcases k.own g hg with h1 | h1
  ·exact h.own g h1
  ·exact .inr (Nat.le_trans h.wr.size h1)
theorem CStep.wr0 (h : CStep c vo w vo1 w1) (r : Wr [] w1 w2) : CStep c vo w vo1 w2 := ⟨h.wr.trans0 r, h.own⟩
theorem CStep.of0 (r : Wr [] w w1) : CStep c vo w vo w1 := ⟨r.nil, fun g h => .inl h⟩
theorem CSafe.step (h : CSafe c vo w g) (k : CStep c vo w vo1 w1) : CSafe c vo1 w1 g := by
 refine ⟨Nat.lt_of_lt_of_le h.lt k.wr.size, h.n1, h.n2, fun e => ?_⟩
 rcases k.own g e with h1 | h1
 ·exact h.n3 h1
 ·have := h.lt; omega
theorem CSafe.not (h : CSafe c vo w g) : g ∉ c.gn :: c.po :: ownL vo := by
 simp only [List.mem_cons, not_or]
 exact ⟨h.n1, h.n2, fun e => h.n3 (mem_ownL.1 e)⟩
theorem CSafe.blk {T : TypeId} {cs : Array Value} (h : CSafe c vo w g) (k : CStep c vo w vo1 w1) (hb : Blk w g T cs) : Blk w1 g T cs := hb.wr k.wr h.not
theorem CSafe.cell {o : Nat} {v : Value} (h : CSafe c vo w g) (k : CStep c vo w vo1 w1) (hb : w.cell? ⟨g, o, none⟩ = some v) : w1.cell? ⟨g, o, none⟩ = some v := k.wr.cellOf hb h.not
theorem CEnv.size (h : CEnv c w0 nt ord vo w) (hB : c.B ≤ w0.heap.size) : c.B ≤ w.heap.size := Nat.le_trans hB h.bel.size
theorem CEnv.safeNew (h : CEnv c w0 nt ord vo w) (o : Obj) : CSafe c vo (w.alloc o) w.heap.size := by
 refine ⟨by simp, fun e => ?_, fun e => ?_, fun e => ?_⟩
 ·have := h.mn.lt; omega
 ·have := h.bo.lt; omega
 ·have := (h.own.lt _ e).2; omega
theorem CEnv.wr0 (h : CEnv c w0 nt ord vo w) (hB : c.B ≤ w0.heap.size) (hw : Wr [] w W) : CEnv c w0 nt ord vo W :=
 ⟨h.bel.trans (hw.below (h.size hB) (fun _ hx => by cases hx)), h.bn.wr0 hw, h.bo.wr0 hw, h.bm.wr0 hw, h.mn.wr hw (by simp), own_keep h.own hw (fun _ _ => by simp), h.far, h.nodup, h.sub⟩
theorem CEnv.len (h : CEnv c w0 nt ord vo w) : ord.length ≤ nt := by
 have := len_sub ord (nums nt) h.nodup (fun x hx => (h.sub x hx).1)
 simpa [nums] using this
theorem CEnv.push (hc : c.wf) (h : CEnv c w0 nt ord vo w) (hB : c.B ≤ w0.heap.size) {n : Int} (hn : n ∉ ord) (hT : n ∈ nums nt) (h10 : 10 ≤ n) {W1 W2 W3 : World} {v' : Value}
  (k1 : Wr [c.gn] w W1) (hm : MapI W1 c.gn (fun j => if j = n then some (.int .i64 (10 + (ord.length : Int))) else numsOf ord j)) (k2 : Wr [] W1 W2)
  (hown : W3.ownsRow c.B 3 1 v' (ord.length + 1) (ord.map (Value.int .i64) ++ [.int .i64 n])) (hg : W2.grownBy W3 vo.ownBlock) (hb : v'.ownBlock = vo.ownBlock ∨ v'.ownBlock = some W2.heap.size) :
  CEnv c w0 nt (ord ++ [n]) v' (W3.setCell ⟨c.po, 0, none⟩ v') ∧ CStep c vo w v' (W3.setCell ⟨c.po, 0, none⟩ v') := by
 obtain ⟨n1, n2, n3, n4, n5, n6⟩ := hc.ne
 have k3 : Wr (ownL vo) W2 W3 := Wr.ofGrownOwn hg
 have hf : ∀ b, b ∈ c.blocks → b ∉ ownL vo := fun b hb hx => h.far b (mem_ownL.1 hx) hb
 have hpo : c.B ≤ c.po := hc.low _ (by simp [CC.blocks])
 have hgn : c.B ≤ c.gn := hc.low _ (by simp [CC.blocks])
 have hlt : ∀ b, b ∈ c.blocks → b < w.heap.size := fun b hm => by
  simp only [CC.blocks, List.mem_cons, List.not_mem_nil, or_false] at hm
  rcases hm with rfl | rfl | rfl | rfl
  ·exact h.bn.lt
  ·exact h.bo.lt
  ·exact h.bm.lt
  ·exact h.mn.lt
 have s12 := Nat.le_trans k1.size k2.size
 have hbv : ∀ b, v'.ownBlock = some b → b ∉ c.blocks := fun b hb' hm => by
  rcases hb with h1 | h1
  ·exact h.far b (h1 ▸ hb') hm
  ·rw [h1] at hb'
   injection hb' with hb'
   have := hlt b hm
   omega
 have k4 : Wr [c.po] W3 (W3.setCell ⟨c.po, 0, none⟩ v') := (Wr.refl [c.po] W3).setOn (by simp) v'
 have m0 : MapI W1 c.gn (numsOf (ord ++ [n])) := by rw [← numsOf_push hn]; exact hm
 have lows : ∀ b, vo.ownBlock = some b → c.B ≤ b := fun b hb => (h.own.lt b hb).1
 refine ⟨⟨?_, ((((h.bn.wr k1 (by simpa using n3)).wr0 k2).wr k3 (hf _ (by simp [CC.blocks]))).wr k4 (by simpa using n1)), ?_, ((((h.bm.wr k1 (by simpa using n6)).wr0 k2).wr k3 (hf _ (by simp [CC.blocks]))).wr k4 (by simpa using fun e => n4 e.symm)), ((m0.wr k2 (by simp)).wr k3 (hf _ (by simp [CC.blocks]))).wr k4 (by simpa using fun e => n5 e.symm), ?_, hbv, ?_, ?_⟩, ⟨?_, ?_⟩⟩
 ·have b1 : Below c.B w W1 := k1.below (h.size hB) (fun x hx => by rw [List.mem_singleton] at hx; rw [hx]; exact hgn)
  have b2 : Below c.B W1 W2 := k2.below (Nat.le_trans (h.size hB) k1.size) (fun x hx => by cases hx)
  have b3 : Below c.B W2 W3 := k3.below (Nat.le_trans (h.size hB) s12) (fun x hx => lows x (mem_ownL.1 hx))
  have b4 : Below c.B W3 (W3.setCell ⟨c.po, 0, none⟩ v') := k4.below (Nat.le_trans (h.size hB) (Nat.le_trans s12 k3.size)) (fun x hx => by rw [List.mem_singleton] at hx; rw [hx]; exact hpo)
  exact (((h.bel.trans b1).trans b2).trans b3).trans b4
 ·have := (((h.bo.wr k1 (by simpa using n5)).wr0 k2).wr k3 (hf _ (by simp [CC.blocks]))).set_ 0 v'
  simpa using this
 ·rw [List.length_append, List.map_append]
  exact own_keep hown k4 (fun b hb hx => hbv b hb (by rw [List.mem_singleton] at hx; rw [hx]; simp [CC.blocks]))
 ·rw [List.nodup_append]
  refine ⟨h.nodup, by simp, fun a ha b hb e => ?_⟩
  rw [List.mem_singleton] at hb
  subst hb
  subst e
  exact hn ha
 ·intro x hx
  rcases List.mem_append.1 hx with h1 | h1
  ·exact h.sub x h1
  ·rw [List.mem_singleton] at h1
   rw [h1]
   exact ⟨hT, h10⟩
 ·refine (((k1.more (fun x hx => by rw [List.mem_singleton] at hx; simp [hx])).trans0 k2).trans (k3.more (fun x hx => by simp [hx]))).trans (k4.more (fun x hx => by rw [List.mem_singleton] at hx; simp [hx]))
 ·intro x hx
  rcases hb with h1 | h1
  ·exact .inl (h1 ▸ hx)
  ·rw [h1] at hx
   injection hx with hx
   exact .inr (by omega)
end
def MetR (c : CC) (w0 : World) (nt : Nat) (ord : List Int) (vo : Value) (w : World) (e : Ending) (w' : World) : Prop :=
 e = .returned (.tuple #[]) ∧ ∃ vo', CEnv c w0 nt ord vo' w' ∧ CStep c vo w vo' w'
end Go.Proofs.YtildcdgobdfieaaGreat

namespace Go.Proofs.YtildcdgobdfieaaGreat
open Go.RowKit
theorem info_int : (Tryz.prog.info? 3).map (fun i => (i.zero, i.size, i.bytes)) = some (some (.int .i64 0), 1, 8) := by kernel_rfl
def MLoop (c : CC) (w0 : World) (ts : List Ty) (k : Nat) (l ord : List Int) (vo : Value) (w : World) (j : Nat) (wr : World) : Prop :=
 ∃ ord' vo', CEnv c w0 ts.length ord' vo' wr ∧ CStep c vo w vo' wr ∧ meets (kidsAt ts) (k + 1) l ord = meets (kidsAt ts) (k + 1) (l.drop j) ord' ∧ fresh (nums ts.length) ord' ≤ fresh (nums ts.length) ord
def MIn (c : CC) (w0 : World) (ts : List Ty) (k : Nat) (tot rest : List Int) (z : Nat) (cs : Array Value) (vo : Value) (w wr : World) : Prop :=
 ∃ ord' vo', CEnv c w0 ts.length ord' vo' wr ∧ CStep c vo w vo' wr ∧ CSafe c vo' wr z ∧ Blk wr z 129 cs ∧ tot = meets (kidsAt ts) k rest ord' ∧ fresh (nums ts.length) ord' < k
theorem MIn.next {c : CC} {w0 w wr W w2 : World} {ts : List Ty} {k : Nat} {tot rest ordf : List Int} {x : List Int} {z : Nat} {cs : Array Value} {vo vof vo2 : Value} (hst : CStep c vo w vof wr) (hs : CSafe c vof wr z) (hb : Blk wr z 129 cs) (ht : tot = meets (kidsAt ts) k (x ++ rest) ordf) (hf : fresh (nums ts.length) ordf < k)
  (r : Wr [] wr W) (E : CEnv c w0 ts.length (meets (kidsAt ts) k x ordf) vo2 w2) (S : CStep c vof W vo2 w2) : MIn c w0 ts k tot rest z cs vo w w2 := by
 have s1 : CStep c vof wr vo2 w2 := (CStep.of0 r).trans S
 refine ⟨_, vo2, E, hst.trans s1, hs.step s1, hs.blk s1 hb, by rw [ht, meets_append], Nat.lt_of_le_of_lt (fresh_mono (fun n hn => meets_more _ _ _ _ hn)) hf⟩
theorem fld_at' {w : World} {P : Nat → Prop} {v : Value} {l : List Fld} (h : SlFlds w P v l) {i : Nat} {x : Fld} (hi : l[i]? = some x) : ∃ b off c, v = .slice (some ⟨b, off, none⟩) l.length c ∧ P b ∧ ∀ j u, x.cells[j]? = some u → w.cell? ⟨b, off + i * 3 + j, none⟩ = some u := by
 obtain ⟨b, off, c, e, _, _, hP, h4⟩ := Sl.thing h (by decide) (List.getElem?_eq_some_iff.1 hi).1
 refine ⟨b, off, c, e, hP, fun j u hj => ?_⟩
 have hj5 : j < 3 := (List.getElem?_eq_some_iff.1 hj).1
 rw [Nat.add_assoc]
 exact h4 j u hj5 (by rw [flatF_at (g := Fld.cells) (size := 3) (fun _ => rfl) l i j x hi hj5]; exact hj)
theorem par_at' {w : World} {P : Nat → Prop} {v : Value} {l : List Par} (h : SlPars w P v l) {i : Nat} {x : Par} (hi : l[i]? = some x) : ∃ b off c, v = .slice (some ⟨b, off, none⟩) l.length c ∧ P b ∧ ∀ j u, x.cells[j]? = some u → w.cell? ⟨b, off + i * 2 + j, none⟩ = some u := by
 obtain ⟨b, off, c, e, _, _, hP, h4⟩ := Sl.thing h (by decide) (List.getElem?_eq_some_iff.1 hi).1
 refine ⟨b, off, c, e, hP, fun j u hj => ?_⟩
 have hj5 : j < 2 := (List.getElem?_eq_some_iff.1 hj).1
 rw [Nat.add_assoc]
 exact h4 j u hj5 (by rw [flatF_at (g := Par.cells) (size := 2) (fun _ => rfl) l i j x hi hj5]; exact hj)
def MeetK (c : CC) (w0 : World) (ts : List Ty) (k : Nat) : Prop :=
 ∀ (l ord : List Int) (vo : Value) (w : World) (q : Nat), CEnv c w0 ts.length ord vo w → fresh (nums ts.length) ord < k → (∀ x ∈ l, tyB ts.length x = true) → l.length ≤ 2 → CSafe c vo w q → (∀ j x, l[j]? = some x → w.cell? ⟨q, j, none⟩ = some (.int .i64 x)) →
  Calls Tryz.prog 99 #[.slice (some ⟨q, 0, none⟩) l.length l.length, .pointer (some ⟨c.pn, 0, none⟩), .pointer (some ⟨c.po, 0, none⟩), .pointer (some ⟨c.pi, 0, none⟩), .pointer (some ⟨c.pm, 0, none⟩)] w (MetR c w0 ts.length (meets (kidsAt ts) k l ord) vo w)
section
variable (c : CC) (hc : c.wf) (w0 : World) (hB : c.B ≤ w0.heap.size) (ts : List Ty) (vt : Value) (ht : SlTys w0 (fun b => b < c.B) vt ts) (hi : w0.cell? ⟨c.pi, 2, none⟩ = some vt) (hpi : c.pi < c.B) (hts : ts.length ≤ 1024) (hfm : ∀ t ∈ ts, tyForm ts.length t = true) (hlf : ∀ t ∈ ts, t.fields.length ≤ 65535 ∧ t.params.length ≤ 65535)
include hc hB ht hi hpi hts hfm hlf
theorem meet_step (k : Nat) (IH : MeetK c w0 ts k) : MeetK c w0 ts (k + 1) := by
  intro l ord vo w q henv hfr htyl hll hsafe hcell
  obtain ⟨i0, hi0, hz0, hz1, hz2⟩ := info_parts info_int
  have HENV := qh henv
  have HFR := qh hfr
  have HTYL := qh htyl
  have HSAFE := qh hsafe
  have HCELL := qh hcell
  have HIH := qh IH
  have HT := qh ht
  have HI := qh hi
  have HFM := qh hfm
  have HLF := qh hlf
  clear IH henv hfr htyl hsafe hcell ht hi hfm hlf
  go_enter Tryz.func99, Tryz.ntmps99
  go_wp2_with fail
  go_loopw [17] (fun s17 wr => ∃ j : Nat, j ≤ l.length ∧ s17 = .int .i64 j ∧ MLoop c w0 ts k l ord vo w j wr) (fun s17 _ => l.length - (intOf s17).toNat)
  case atStart => exact ⟨0, by omega, rfl, ord, vo, HENV.out, CStep.refl _ _ _, by rw [List.drop_zero], Nat.le_refl _⟩
  case round =>
   obtain ⟨j, hj, rfl, ord', vo', he, hst, hmt, hfr⟩ := hrel
   have hlen := he.len
   have y0 := he.bn.cell 0
   have yo := he.bo.cell 0
   simp only [qgaq, qgzq] at y0 yo
   by_cases hlt : j < l.length
   ·obtain ⟨n, hn⟩ : ∃ n, l[j]? = some n := ⟨_, List.getElem?_eq_getElem hlt⟩
    have hcl := HSAFE.out.cell hst (HCELL.out j n hn)
    have hdr := hmt.trans (meets_drop hn)
    have htn := tyB_iff.1 (HTYL.out n (List.mem_of_getElem? hn))
    have hlti : (j : Int) < (l.length : Int) := by omega
    have hj0 : (0 : Int) ≤ (j : Int) := by omega
    have HE := qh he
    have HST := qh hst
    have HFRJ := qh hfr
    have hlk := mapI_look Tryz.underlying189 Tryz.underlying3 he.mn n Tryz.zeroValue3
    by_cases hm : n ∈ ord'
    ·rw [numsOf_in hm] at hlk
     rw [if_pos (.inr hm)] at hdr
     have HDR := qh hdr
     simp only [Option.getD_some, Option.isSome_some] at hlk
     clear hdr hm hst hfr he hn hmt yo
     go_wp2_with fail
     go_roundw
     case rel => exact ⟨j + 1, by omega, by go_num, ord', vo', HE.out, HST.out, HDR.out, HFRJ.out⟩
     case measure => simp [intOf]; omega
    ·by_cases h10 : n < 10
     ·rw [numsOf_out hm] at hlk
      rw [if_pos (.inl h10)] at hdr
      have HDR := qh hdr
      simp only [Option.getD_none, Option.isSome_none] at hlk
      clear hdr hm hst hfr he hn hmt yo
      go_wp2_with fail
      go_roundw
      case rel => exact ⟨j + 1, by omega, by go_num, ord', vo', HE.out, HST.out, HDR.out, HFRJ.out⟩
      case measure => simp [intOf]; omega
     ·have h10' : 10 ≤ n := by omega
      have hnT : n ∈ nums ts.length := nums_iff.2 ⟨h10', htn.2⟩
      have hil : (n - 10).toNat < ts.length := by omega
      obtain ⟨t, htt⟩ : ∃ t, ts[(n - 10).toNat]? = some t := ⟨_, List.getElem?_eq_getElem hil⟩
      have hkd : kidsAt ts n = kids t := by
       unfold kidsAt
       rw [htt]
      have htf := HFM.out t (List.mem_of_getElem? htt)
      have htl := HLF.out t (List.mem_of_getElem? htt)
      have hkf := kids_form htf
      rw [if_neg (fun h => h.elim h10 hm), hkd] at hdr
      have hfr2 : fresh (nums ts.length) (ord' ++ [n]) < k := by
       have := fresh_lt (T := nums ts.length) (o := ord') (o' := ord' ++ [n]) (fun x hx => List.mem_append_left _ hx) hnT hm (by simp)
       have := HFR.out
       omega
      rw [numsOf_out hm] at hlk
      simp only [Option.getD_none, Option.isSome_none] at hlk
      -- the map, the row
      obtain ⟨W1, hu1, k1, hm1⟩ := mapI_upd Tryz.underlying189 Tryz.underlying3 he.mn n (.int .i64 (10 + (ord'.length : Int)))
      have k2 : Wr [] W1 (W1.alloc (.cells #[.int .i64 n] 3)) := (Wr.refl [] W1).alloc _
      have hnew := Blk.new W1 3 #[.int .i64 n]
      have hne := hc.ne
      have hgn := hc.low c.gn (by simp [CC.blocks])
      have own2 : (W1.alloc (.cells #[.int .i64 n] 3)).ownsRow c.B 3 1 vo' ord'.length (ord'.map (Value.int .i64)) := own_keep (own_keep he.own k1 (fun b hb hx => he.far b hb (by rw [List.mem_singleton] at hx; rw [hx]; simp [CC.blocks]))) k2 (fun _ _ => by simp)
      obtain ⟨v', W3, hrun, hown, hgrow, _, hbk⟩ := run_append_own_at (P := Tryz.prog) (W1.alloc (.cells #[.int .i64 n] 3)) c.B 25 25 3 i0 _ 1 8 Tryz.underlying25 hi0 hz0 hz1 hz2 rfl (by decide) vo' ord'.length _ own2 ⟨W1.heap.size, 0, none⟩ 1 1 [.int .i64 n] rfl (fun j u hj => by
       rw [Addr.add_lit, Nat.zero_add, hnew.cell]
       simpa using hj) (by simp [Value.oneCell']) (by unfold maxLen; omega) (by omega) (Nat.le_trans (he.size hB) (Nat.le_trans k1.size k2.size))
      obtain ⟨e4, s4⟩ := he.push hc hB hm hnT h10' k1 hm1 k2 hown hgrow hbk
      obtain ⟨Av, cv, hv'⟩ : ∃ A c, v' = .slice A (ord'.length + 1) c := by
       rcases hown.2 with ⟨_, h0⟩ | ⟨g, cap, cur, e, _⟩
       ·omega
       ·exact ⟨_, _, e⟩
      subst hv'
      have hpoW1 : c.po ∉ [c.gn] := by simpa using hne.2.2.2.2.1
      have bo1 := he.bo.wr k1 hpoW1
      have zo := (bo1.alloc (.cells #[.int .i64 n] 3)).cell 0
      have bo3 := ((bo1.alloc (.cells #[.int .i64 n] 3)).wr (Wr.ofGrownOwn hgrow) (fun hx => he.far _ (mem_ownL.1 hx) (by simp [CC.blocks])))
      have zc := bo3.cell 0
      have zz := bo3.frozen 0
      have zo1 := bo1.cell 0
      have hpo : c.po < W1.heap.size := bo1.lt
      obtain ⟨Aq, nq, cq, hq1⟩ : ∃ A c', ∃ (_ : True), vo' = .slice A ord'.length c' := by
       obtain ⟨A, c', e, _, _⟩ := own_form he.own
       exact ⟨A, c', trivial, e⟩
      subst hq1
      simp only [qgaq, qgzq] at zo zc zo1
      -- the type
      obtain ⟨b, off, c', un, uf, ua, up, evt, hP, hcs, hls⟩ := ty_at HT.out htt
      obtain ⟨⟨B1, m1, rfl, _, _⟩, ⟨B2, m2, rfl, hB1, hB2⟩, ⟨B3, m3, rfl, hC1, hC2⟩, ⟨B4, m4, rfl, hD1, hD2⟩⟩ := hls.forms
      unfold maxLen at hB2 hD2
      subst evt
      have E4 := qh e4
      have S4 := qh (hst.trans s4)
      have HRUN := qh hrun
      have HDR := qh hdr
      have HFR2 := qh hfr2
      have HKF := qh hkf
      have HLS := qh hls
      have HCS := qh hcs
      have HTL := qh htl
      have a1 : (0 : Int) ≤ n - 10 := by omega
      have a2 : n - 10 < (ts.length : Int) := by omega
      have a3 : (ord'.length : Int) ≤ 1024 := by omega
      have a4 : ((ts.length : Nat) : Int) ≤ 1024 := by omega
      clear hst hfr he hn hmt hm htt hkd htf htl hkf hdr hfr2 k1 k2 hm1 hnew hne hgn own2 hrun hown hgrow hbk e4 s4 bo1 bo3 hpoW1 hls hcs hnT htn hil
      go_upto_region 7 with (at_builtin; refine wpList_append_run rfl _ _ _ rfl _ _ rfl rfl _ _ HRUN.out ?_)
      generalize W3.setCell ⟨c.po, 0, none⟩ (.slice Av (ord'.length + 1) cv) = W4 at *
      have ci := (E4.out.bel.cell (p := ⟨c.pi, 2, none⟩) hpi).trans HI.out
      have x0 := (E4.out.bel.cell (p := ⟨b, off + (n - 10).toNat * 12 + 0, none⟩) hP).trans (HCS.out 0 _ rfl)
      have x1 := (E4.out.bel.cell (p := ⟨b, off + (n - 10).toNat * 12 + 1, none⟩) hP).trans (HCS.out 1 _ rfl)
      have x2 := (E4.out.bel.cell (p := ⟨b, off + (n - 10).toNat * 12 + 2, none⟩) hP).trans (HCS.out 2 _ rfl)
      have x3 := (E4.out.bel.cell (p := ⟨b, off + (n - 10).toNat * 12 + 3, none⟩) hP).trans (HCS.out 3 _ rfl)
      have x4 := (E4.out.bel.cell (p := ⟨b, off + (n - 10).toNat * 12 + 4, none⟩) hP).trans (HCS.out 4 _ rfl)
      have x5 := (E4.out.bel.cell (p := ⟨b, off + (n - 10).toNat * 12 + 5, none⟩) hP).trans (HCS.out 5 _ rfl)
      have x6 := (E4.out.bel.cell (p := ⟨b, off + (n - 10).toNat * 12 + 6, none⟩) hP).trans (HCS.out 6 _ rfl)
      have x7 := (E4.out.bel.cell (p := ⟨b, off + (n - 10).toNat * 12 + 7, none⟩) hP).trans (HCS.out 7 _ rfl)
      have x8 := (E4.out.bel.cell (p := ⟨b, off + (n - 10).toNat * 12 + 8, none⟩) hP).trans (HCS.out 8 _ rfl)
      have x9 := (E4.out.bel.cell (p := ⟨b, off + (n - 10).toNat * 12 + 9, none⟩) hP).trans (HCS.out 9 _ rfl)
      have x10 := (E4.out.bel.cell (p := ⟨b, off + (n - 10).toNat * 12 + 10, none⟩) hP).trans (HCS.out 10 _ rfl)
      have x11 := (E4.out.bel.cell (p := ⟨b, off + (n - 10).toNat * 12 + 11, none⟩) hP).trans (HCS.out 11 _ rfl)
      simp only [Nat.add_zero] at x0
      obtain ⟨W5, hw5⟩ : ∃ q, W4.alloc (.cells #[.int .u8 t.kind, .string t.module, .string t.name, .int .i64 t.base, .int .i64 t.index, .int .i64 t.low, .int .i64 t.high, .slice B1 t.names.length m1, .slice B2 t.fields.length m2, .slice B3 t.arms.length m3, .slice B4 t.params.length m4, .int .i64 t.result] 129) = q := ⟨_, rfl⟩
      obtain ⟨z, hz⟩ : ∃ z, W4.heap.size = z := ⟨_, rfl⟩
      have q5 : Wr [] W4 W5 := by rw [← hw5]; exact (Wr.refl [] _).alloc _
      have b5 : Blk W5 z 129 #[.int .u8 t.kind, .string t.module, .string t.name, .int .i64 t.base, .int .i64 t.index, .int .i64 t.low, .int .i64 t.high, .slice B1 t.names.length m1, .slice B2 t.fields.length m2, .slice B3 t.arms.length m3, .slice B4 t.params.length m4, .int .i64 t.result] := by rw [← hw5, ← hz]; exact Blk.new _ _ _
      have sz : CSafe c (.slice Av (ord'.length + 1) cv) W5 z := by rw [← hw5, ← hz]; exact E4.out.safeNew _
      have e5 := E4.out.wr0 hB q5
      have S5 := qh (S4.out.wr0 q5)
      have E5 := qh e5
      have SZ := qh sz
      have BZ := qh b5
      have HW5 := qh hw5
      have HZ := qh hz
      clear hw5 hz q5 b5 sz e5 zo zc zz zo1 hpo yo y0 hcl hu1 hlk
      go_upto_region 8 with (fail)
      rw [HW5.out, HZ.out]
      clear x0 x1 x2 x3 x4 x5 x6 x7 x8 x9 x10 x11 ci
      have m0 := E5.out.bm.cell 0
      have d3 := BZ.out.cell 3
      have d4 := BZ.out.cell 4
      simp only [qgaq, qgzq, qgsq, CC.caps] at m0 d3 d4
      have q6 : Wr [] W5 (W5.alloc (.cells #[.int .i64 t.base, .int .i64 t.index] 3)) := (Wr.refl [] _).alloc _
      have n6 := Blk.new W5 3 #[.int .i64 t.base, .int .i64 t.index]
      have h8 := HIH.out [t.base, t.index] (ord' ++ [n]) _ _ W5.heap.size (E5.out.wr0 hB q6) HFR2.out (fun x hx => HKF.out x (by unfold kids; simp only [List.mem_cons, List.not_mem_nil, or_false] at hx; rcases hx with rfl | rfl <;> simp)) (by simp) (E5.out.safeNew _) (fun jj x hx => by rw [n6.cell]; match jj, hx with | 0, hx => (simp at hx; subst hx; rfl) | 1, hx => (simp at hx; subst hx; rfl))
      simp only [List.length_cons, List.length_nil, Nat.zero_add, Nat.reduceAdd] at h8
      have H8 := qh h8
      have Q6 := qh q6
      clear h8 q6 n6
      go_wp2_with fail
      refine H8.out.mono ?_
      rintro e w7 ⟨rfl, vo7, e7, s7⟩
      obtain ⟨TOT, hTOT⟩ : ∃ TOT, meets (kidsAt ts) k (kids t) (ord' ++ [n]) = TOT := ⟨_, rfl⟩
      have hm7 : MIn c w0 ts k TOT ((t.fields.drop 0).map Fld.type ++ (t.params.map Par.type ++ [t.result])) z #[.int .u8 t.kind, .string t.module, .string t.name, .int .i64 t.base, .int .i64 t.index, .int .i64 t.low, .int .i64 t.high, .slice B1 t.names.length m1, .slice B2 t.fields.length m2, .slice B3 t.arms.length m3, .slice B4 t.params.length m4, .int .i64 t.result] vo w w7 := MIn.next S5.out SZ.out BZ.out (x := [t.base, t.index]) (by rw [← hTOT]; rfl) HFR2.out Q6.out e7 s7
      have c8 := (SZ.out.step (CStep.of0 Q6.out)).blk s7 (BZ.out.wr0 Q6.out)
      have d8 := c8.cell 8
      simp only [qgaq, qgzq, qgsq, CC.caps] at d8
      have HM7 := qh hm7
      have HTOT := qh hTOT
      clear hm7 e7 s7 c8 m0 d3 d4 hTOT S5 E5 SZ BZ HW5 HZ H8 Q6 E4 S4 HRUN
      go_wp2_with fail
      go_loopw [57] (fun s57 wr => ∃ jf : Nat, jf ≤ t.fields.length ∧ s57 = .int .i64 jf ∧ MIn c w0 ts k TOT ((t.fields.drop jf).map Fld.type ++ (t.params.map Par.type ++ [t.result])) z #[.int .u8 t.kind, .string t.module, .string t.name, .int .i64 t.base, .int .i64 t.index, .int .i64 t.low, .int .i64 t.high, .slice B1 t.names.length m1, .slice B2 t.fields.length m2, .slice B3 t.arms.length m3, .slice B4 t.params.length m4, .int .i64 t.result] vo w wr) (fun s57 _ => t.fields.length - (intOf s57).toNat)
      case atStart => exact ⟨0, by omega, rfl, HM7.out⟩
      case round =>
       obtain ⟨jf, hjf, rfl, ordf, vof, ef, stf, sf, bf, tf, ff⟩ := hrel
       by_cases hlin : jf < t.fields.length
       ·skip
        obtain ⟨y, hy⟩ : ∃ y, t.fields[jf]? = some y := ⟨_, List.getElem?_eq_getElem hlin⟩
        obtain ⟨b', off', c'', e, hP', hcf⟩ := fld_at' HLS.out.fields hy
        injection e with e1 _ e3
        subst e1 e3
        have x0 := (ef.bel.cell (p := ⟨b', off' + jf * 3 + 0, none⟩) hP').trans (hcf 0 _ rfl)
        have x1 := (ef.bel.cell (p := ⟨b', off' + jf * 3 + 1, none⟩) hP').trans (hcf 1 _ rfl)
        have x2 := (ef.bel.cell (p := ⟨b', off' + jf * 3 + 2, none⟩) hP').trans (hcf 2 _ rfl)
        simp only [Nat.add_zero] at x0
        have hdr2 : t.fields.drop jf = y :: t.fields.drop (jf + 1) := by
         rw [List.drop_eq_getElem_cons hlin, (List.getElem?_eq_some_iff.1 hy).2]
        rw [hdr2, List.map_cons] at tf
        have hyty : tyB ts.length y.type = true := HKF.out y.type (by unfold kids; simp only [List.mem_cons, List.mem_append, List.mem_map]; exact .inr (.inr (.inl ⟨y, List.mem_of_getElem? hy, rfl⟩)))
        obtain ⟨W8, hw8⟩ : ∃ q, wr.alloc (.cells #[.string y.name, .int .i64 y.type, .int .i64 y.arm] 173) = q := ⟨_, rfl⟩
        obtain ⟨z8, hz8⟩ : ∃ z, wr.heap.size = z := ⟨_, rfl⟩
        have q8 : Wr [] wr W8 := by rw [← hw8]; exact (Wr.refl [] _).alloc _
        have b8 : Blk W8 z8 173 #[.string y.name, .int .i64 y.type, .int .i64 y.arm] := by rw [← hw8, ← hz8]; exact Blk.new _ _ _
        have e8 := ef.wr0 hB q8
        have q9 : Wr [] W8 (W8.alloc (.cells #[.int .i64 y.type] 3)) := (Wr.refl [] _).alloc _
        have n9 := Blk.new W8 3 #[.int .i64 y.type]
        have h9 := HIH.out [y.type] ordf vof _ W8.heap.size (e8.wr0 hB q9) ff (fun x hx => by rw [List.mem_singleton] at hx; rw [hx]; exact hyty) (by simp) (e8.safeNew _) (fun jj x hx => by rw [n9.cell]; match jj, hx with | 0, hx => (simp at hx; subst hx; rfl))
        simp only [List.length_cons, List.length_nil, Nat.zero_add] at h9
        have H9 := qh h9
        have STF := qh stf
        have SF := qh sf
        have BF := qh bf
        have TF := qh tf
        have FF := qh ff
        have Q89 := qh (q8.trans q9)
        have HW8 := qh hw8
        have HZ8 := qh hz8
        have B8 := qh b8
        have E8 := qh e8
        have h0f : (0 : Int) ≤ (jf : Int) := by omega
        have h1f : (jf : Int) < (t.fields.length : Int) := by omega
        clear hy hcf hdr2 hyty q8 b8 e8 q9 n9 h9 stf sf bf tf ff hw8 hz8 ef d8
        go_upto_region 12 with (fail)
        rw [HW8.out, HZ8.out]
        clear x0 x1 x2
        have m0 := E8.out.bm.cell 0
        have d1 := B8.out.cell 1
        simp only [qgaq, qgzq, qgsq, CC.caps] at m0 d1
        go_wp2_with fail
        refine H9.out.mono ?_
        rintro e w9 ⟨rfl, vo9, e9, s9⟩
        have hm9 := MIn.next STF.out SF.out BF.out (x := [y.type]) (rest := (t.fields.drop (jf + 1)).map Fld.type ++ (t.params.map Par.type ++ [t.result])) TF.out FF.out Q89.out e9 s9
        have HM9 := qh hm9
        clear hm9 e9 s9 m0 d1
        go_wp2_with fail
        go_roundw
        case rel => exact ⟨jf + 1, by omega, by go_num, HM9.out⟩
        case measure => simp [intOf]; omega
       ·obtain rfl : jf = t.fields.length := by omega
        rw [List.drop_length, List.map_nil, List.nil_append] at tf
        have d10 := bf.cell 10
        simp only [qgaq, qgzq, qgsq, CC.caps] at d10
        have hm10 : MIn c w0 ts k TOT ((t.params.drop 0).map Par.type ++ [t.result]) z #[.int .u8 t.kind, .string t.module, .string t.name, .int .i64 t.base, .int .i64 t.index, .int .i64 t.low, .int .i64 t.high, .slice B1 t.names.length m1, .slice B2 t.fields.length m2, .slice B3 t.arms.length m3, .slice B4 t.params.length m4, .int .i64 t.result] vo w wr := ⟨ordf, vof, ef, stf, sf, bf, tf, ff⟩
        have HM10 := qh hm10
        clear ef stf sf bf tf ff hm10 d8
        go_wp2_with fail
        go_loopw [70] (fun s70 wr => ∃ jp : Nat, jp ≤ t.params.length ∧ s70 = .int .i64 jp ∧ MIn c w0 ts k TOT ((t.params.drop jp).map Par.type ++ [t.result]) z #[.int .u8 t.kind, .string t.module, .string t.name, .int .i64 t.base, .int .i64 t.index, .int .i64 t.low, .int .i64 t.high, .slice B1 t.names.length m1, .slice B2 t.fields.length m2, .slice B3 t.arms.length m3, .slice B4 t.params.length m4, .int .i64 t.result] vo w wr) (fun s70 _ => t.params.length - (intOf s70).toNat)
        case atStart => exact ⟨0, by omega, rfl, HM10.out⟩
        case round =>
         obtain ⟨jp, hjp, rfl, ordf, vof, ef, stf, sf, bf, tf, ff⟩ := hrel
         by_cases hlin : jp < t.params.length
         ·skip
          obtain ⟨y, hy⟩ : ∃ y, t.params[jp]? = some y := ⟨_, List.getElem?_eq_getElem hlin⟩
          obtain ⟨b', off', c'', e, hP', hcf⟩ := par_at' HLS.out.params hy
          injection e with e1 _ e3
          subst e1 e3
          have x0 := (ef.bel.cell (p := ⟨b', off' + jp * 2 + 0, none⟩) hP').trans (hcf 0 _ rfl)
          have x1 := (ef.bel.cell (p := ⟨b', off' + jp * 2 + 1, none⟩) hP').trans (hcf 1 _ rfl)
          simp only [Nat.add_zero] at x0
          have hdr2 : t.params.drop jp = y :: t.params.drop (jp + 1) := by
           rw [List.drop_eq_getElem_cons hlin, (List.getElem?_eq_some_iff.1 hy).2]
          rw [hdr2, List.map_cons] at tf
          have hyty : tyB ts.length y.type = true := HKF.out y.type (by unfold kids; simp only [List.mem_cons, List.mem_append, List.mem_map]; exact .inr (.inr (.inr (.inl ⟨y, List.mem_of_getElem? hy, rfl⟩))))
          obtain ⟨W8, hw8⟩ : ∃ q, wr.alloc (.cells #[.bool y.var, .int .i64 y.type] 175) = q := ⟨_, rfl⟩
          obtain ⟨z8, hz8⟩ : ∃ z, wr.heap.size = z := ⟨_, rfl⟩
          have q8 : Wr [] wr W8 := by rw [← hw8]; exact (Wr.refl [] _).alloc _
          have b8 : Blk W8 z8 175 #[.bool y.var, .int .i64 y.type] := by rw [← hw8, ← hz8]; exact Blk.new _ _ _
          have e8 := ef.wr0 hB q8
          have q9 : Wr [] W8 (W8.alloc (.cells #[.int .i64 y.type] 3)) := (Wr.refl [] _).alloc _
          have n9 := Blk.new W8 3 #[.int .i64 y.type]
          have h9 := HIH.out [y.type] ordf vof _ W8.heap.size (e8.wr0 hB q9) ff (fun x hx => by rw [List.mem_singleton] at hx; rw [hx]; exact hyty) (by simp) (e8.safeNew _) (fun jj x hx => by rw [n9.cell]; match jj, hx with | 0, hx => (simp at hx; subst hx; rfl))
          simp only [List.length_cons, List.length_nil, Nat.zero_add] at h9
          have H9 := qh h9
          have STF := qh stf
          have SF := qh sf
          have BF := qh bf
          have TF := qh tf
          have FF := qh ff
          have Q89 := qh (q8.trans q9)
          have HW8 := qh hw8
          have HZ8 := qh hz8
          have B8 := qh b8
          have E8 := qh e8
          have h0f : (0 : Int) ≤ (jp : Int) := by omega
          have h1f : (jp : Int) < (t.params.length : Int) := by omega
          clear hy hcf hdr2 hyty q8 b8 e8 q9 n9 h9 stf sf bf tf ff hw8 hz8 ef d10
          go_upto_region 17 with (fail)
          rw [HW8.out, HZ8.out]
          clear x0 x1
          have m0 := E8.out.bm.cell 0
          have d1 := B8.out.cell 1
          simp only [qgaq, qgzq, qgsq, CC.caps] at m0 d1
          go_wp2_with fail
          refine H9.out.mono ?_
          rintro e w9 ⟨rfl, vo9, e9, s9⟩
          have hm9 := MIn.next STF.out SF.out BF.out (x := [y.type]) (rest := (t.params.drop (jp + 1)).map Par.type ++ [t.result]) TF.out FF.out Q89.out e9 s9
          have HM9 := qh hm9
          clear hm9 e9 s9 m0 d1
          go_wp2_with fail
          go_roundw
          case rel => exact ⟨jp + 1, by omega, by go_num, HM9.out⟩
          case measure => simp [intOf]; omega
         ·obtain rfl : jp = t.params.length := by omega
          rw [List.drop_length, List.map_nil, List.nil_append] at tf
          have d11 := bf.cell 11
          have m0 := ef.bm.cell 0
          simp only [qgaq, qgzq, qgsq, CC.caps] at d11 m0
          have hyty : tyB ts.length t.result = true := HKF.out t.result (by unfold kids; simp)
          have q9 : Wr [] wr (wr.alloc (.cells #[.int .i64 t.result] 3)) := (Wr.refl [] _).alloc _
          have n9 := Blk.new wr 3 #[.int .i64 t.result]
          have h9 := HIH.out [t.result] ordf vof _ wr.heap.size (ef.wr0 hB q9) ff (fun x hx => by rw [List.mem_singleton] at hx; rw [hx]; exact hyty) (by simp) (ef.safeNew _) (fun jj x hx => by rw [n9.cell]; match jj, hx with | 0, hx => (simp at hx; subst hx; rfl))
          simp only [List.length_cons, List.length_nil, Nat.zero_add] at h9
          rw [← tf] at h9
          have H9 := qh h9
          have STF := qh (stf.wr0 q9)
          clear hyty q9 n9 h9 stf sf bf tf ff ef d10
          go_wp2_with fail
          refine H9.out.mono ?_
          rintro e w9 ⟨rfl, vo9, e9, s9⟩
          have hfin : MLoop c w0 ts k l ord vo w (j + 1) w9 := by
           have hd := HDR.out
           rw [HTOT.out] at hd
           refine ⟨TOT, vo9, e9, STF.out.trans s9, hd, ?_⟩
           have := fresh_mono (T := nums ts.length) (o := ord' ++ [n]) (o' := TOT) (fun x hx => by rw [← HTOT.out]; exact meets_more _ _ _ _ hx)
           have := fresh_mono (T := nums ts.length) (o := ord') (o' := ord' ++ [n]) (fun x hx => List.mem_append_left _ hx)
           have := HFRJ.out
           omega
          have HFIN := qh hfin
          clear hfin e9 s9 m0 d11
          go_wp2_with fail
          go_roundw
          case rel => exact ⟨j + 1, by omega, by go_num, HFIN.out⟩
          case measure => simp [intOf]; omega
   ·obtain rfl : j = l.length := by omega
    rw [List.drop_length, meets_nil] at hmt
    have HMT := qh hmt
    have HE := qh he
    have HST := qh hst
    clear hmt he hst hfr yo y0
    go_wp2_with fail
    refine bodyPost_end (results_none Tryz.results99 _ _ _) rfl ?_
    rw [HMT.out]
    exact ⟨rfl, vo', HE.out, HST.out⟩
theorem meet_any : ∀ k, MeetK c w0 ts k
 | 0 => fun _ _ _ _ _ _ h => absurd h (by omega)
 | k + 1 => meet_step c hc w0 hB ts vt ht hi hpi hts hfm hlf k (meet_any k)
end
end Go.Proofs.YtildcdgobdfieaaGreat
