/- iface's Encode, of an interface without lists: walked. Conditions: its name is short. -/
import Derived.Test.YtildcdgobdfieaaGreatRD34
import Derived.StillTailTactics
import Derived.Test.YtildcdgobdfieaaGreatRD12
import Derived.Test.YtildcdgobdfieaaGreatRD19
set_option linter.unusedVariables false
set_option linter.unusedSimpArgs false
set_option maxRecDepth 100000
set_option maxHeartbeats 32000000
namespace Go.Proofs.YtildcdgobdfieaaGreat
open Go.RowKit
def encB (m : ByteArray) : ByteArray := bytesN (bytesN (bytesN (textE ⟨#[]⟩ m) 0 2 2) 0 2 2) 0 2 2
theorem textE_size (s t : ByteArray) : (textE s t).size = s.size + 1 + t.size := by
 unfold textE
 rw [ByteArray.size_append, bytesN_size]
theorem ifaceW_bare (b g : Nat) (m : ByteArray) (hm : m.size ≤ 255) (bad : Bool) (hbg : g ≠ b) (w : World) (hb : Wlk w b ⟨#[]⟩ bad) (hg : Blk w g 55 #[.string m, .slice none 0 0, .slice none 0 0, .slice none 0 0]) :
  Calls Tryz.prog 89 #[.pointer (some ⟨b, 0, none⟩), .pointer (some ⟨g, 0, none⟩)] w fun e w' => e = .returned (.tuple #[]) ∧ Wr [b] w w' ∧ Wlk w' b (encB m) bad := by
 have hmf : ∀ (fn : Fn) (first cap : Array Value) (w : World), (Instr.makeFunc fn first cap).run Tryz.prog w = .ok (.func fn first cap) w := fun _ _ _ _ => rfl
 have h1 := fun w hb ct => text_any_w b ⟨g, 0, none⟩ ⟨#[]⟩ m bad hm (by unfold maxLen; show 0 + 1 + m.size ≤ _; omega) w hb ct hbg
 have h2 := fun fv s hr w hb ct => listUse_nil b ⟨g, 1, none⟩ fv s bad hr w hb ct hbg
 have h3 := fun fv s hr w hb ct => listType_nil b ⟨g, 2, none⟩ fv s bad hr w hb ct hbg
 have h4 := fun fv s hr w hb ct => listExport_nil b ⟨g, 3, none⟩ fv s bad hr w hb ct hbg
 have H1 := qh h1
 have H2 := qh h2
 have H3 := qh h3
 have H4 := qh h4
 clear h1 h2 h3 h4
 obtain ⟨w0, hw0⟩ : ∃ w0, w.alloc (.cells #[.pointer (some ⟨b, 0, none⟩)] 158) = w0 := ⟨_, rfl⟩
 obtain ⟨h, hh⟩ : ∃ h, w.heap.size = h := ⟨_, rfl⟩
 have ch : w0.cell? ⟨h, 0, none⟩ = some (.pointer (some ⟨b, 0, none⟩)) := by
  rw [← hw0, ← hh]
  have := (Blk.new w 158 #[.pointer (some ⟨b, 0, none⟩)]).cell 0
  simp
 have hhb : h ≠ b := by have := Blk.lt hb; omega
 have acc : Wr [b] w w0 := by rw [← hw0]; exact (Wr.refl _ _).alloc _
 replace hb : Wlk w0 b ⟨#[]⟩ bad := by rw [← hw0]; exact Blk.alloc hb _
 replace hg := hg.wr acc (by simp [hbg])
 have Hw0 := qh hw0
 have Hh := qh hh
 clear hw0 hh
 go_in
 go_upto_region 1 with (fail)
 rw [Hw0.out, Hh.out]
 go_still_tail 4, (by kernel_rfl)
 change wpList _ _ _ _ _ w0.drew
 replace acc := acc.drew
 replace hb := Blk.drew hb
 replace hg := hg.drew
 replace ch : w0.drew.cell? ⟨h, 0, none⟩ = some (.pointer (some ⟨b, 0, none⟩)) := ch
 generalize w0.drew = wa at *
 have g0 := hg.cell 0
 simp only [qgaq, qgzq] at g0
 go_wp2_with fail
 refine (H1.out _ hb g0).mono ?_
 rintro e w1 ⟨rfl, r1, b1⟩
 replace acc := acc.trans r1
 replace ch := r1.cellOf ch (by simp [hhb])
 replace hg := hg.wr r1 (by simp [hbg])
 clear g0 hb r1
 go_wp2_with fail
 go_still_tail 5, (by kernel_rfl)
 change wpList _ _ _ _ _ w1.drew
 replace acc := acc.drew
 replace b1 := Blk.drew b1
 replace hg := hg.drew
 replace ch : w1.drew.cell? ⟨h, 0, none⟩ = some (.pointer (some ⟨b, 0, none⟩)) := ch
 generalize w1.drew = wa1 at *
 have g0 := hg.cell 1
 simp only [qgaq, qgzq, qgsq] at g0
 go_wp2_with fail
 refine (H2.out _ (textE ⟨#[]⟩ m) (by rw [textE_size]; unfold maxLen; show 0 + 1 + m.size + 2 ≤ _; omega) _ b1 g0).mono ?_
 rintro e w2 ⟨rfl, r1, b2⟩
 replace acc := acc.trans r1
 replace ch := r1.cellOf ch (by simp [hhb])
 replace hg := hg.wr r1 (by simp [hbg])
 clear g0 r1 b1
 go_wp2_with fail
 go_still_tail 6, (by kernel_rfl)
 change wpList _ _ _ _ _ w2.drew
 replace acc := acc.drew
 replace b2 := Blk.drew b2
 replace hg := hg.drew
 replace ch : w2.drew.cell? ⟨h, 0, none⟩ = some (.pointer (some ⟨b, 0, none⟩)) := ch
 generalize w2.drew = wa2 at *
 have g0 := hg.cell 2
 simp only [qgaq, qgzq, qgsq] at g0
 go_wp2_with fail
 refine (H3.out _ (bytesN (textE ⟨#[]⟩ m) 0 2 2) (by rw [bytesN_size, textE_size]; unfold maxLen; show 0 + 1 + m.size + 2 + 2 ≤ _; omega) _ b2 g0).mono ?_
 rintro e w3 ⟨rfl, r1, b3⟩
 replace acc := acc.trans r1
 replace ch := r1.cellOf ch (by simp [hhb])
 replace hg := hg.wr r1 (by simp [hbg])
 clear g0 r1 b2
 go_wp2_with fail
 go_still_tail 5, (by kernel_rfl)
 change wpList _ _ _ _ _ w3.drew
 replace acc := acc.drew
 replace b3 := Blk.drew b3
 replace hg := hg.drew
 replace ch : w3.drew.cell? ⟨h, 0, none⟩ = some (.pointer (some ⟨b, 0, none⟩)) := ch
 generalize w3.drew = wa3 at *
 have g0 := hg.cell 3
 simp only [qgaq, qgzq, qgsq] at g0
 go_wp2_with fail
 refine (H4.out _ (bytesN (bytesN (textE ⟨#[]⟩ m) 0 2 2) 0 2 2) (by rw [bytesN_size, bytesN_size, textE_size]; unfold maxLen; show 0 + 1 + m.size + 2 + 2 + 2 ≤ _; omega) _ b3 g0).mono ?_
 rintro e w4 ⟨rfl, r1, b4⟩
 replace acc := acc.trans r1
 replace ch := r1.cellOf ch (by simp [hhb])
 replace hg := hg.wr r1 (by simp [hbg])
 clear g0 r1 b3
 go_wp2_with fail
 refine bodyPost_end (results_none Tryz.results89 _ _ _) rfl ?_
 exact ⟨rfl, acc, b4⟩
theorem encode_bare (m : ByteArray) (hm : m.size ≤ 255) (w : World) :
  Calls Tryz.prog 74 #[.agg #[.string m, .slice none 0 0, .slice none 0 0, .slice none 0 0]] w fun e w' => e = .returned (.tuple #[.string (encB m), .int .i64 0]) ∧ Wr [] w w' := by
 have h1 := fun w => may_bare m hm w
 have h2 := fun w => clone_bare m w
 have h3 := fun b g hbg w hb hg => ifaceW_bare b g m hm false hbg w hb hg
 have H3 := qh h3
 clear h3
 obtain ⟨w0, hw0⟩ : ∃ w0, w.alloc (.cells #[.string m, .slice none 0 0, .slice none 0 0, .slice none 0 0] 55) = w0 := ⟨_, rfl⟩
 obtain ⟨g, hg⟩ : ∃ g, w.heap.size = g := ⟨_, rfl⟩
 have acc : Wr [] w w0 := by rw [← hw0]; exact (Wr.refl _ _).alloc _
 have bA : Blk w0 g 55 #[.string m, .slice none 0 0, .slice none 0 0, .slice none 0 0] := by rw [← hw0, ← hg]; exact Blk.new _ _ _
 have Hw0 := qh hw0
 have Hg := qh hg
 clear hw0 hg
 go_in
 go_upto_region 1 with (fail)
 rw [Hw0.out, Hg.out]
 obtain ⟨c0, c1, c2, c3⟩ := c4q bA
 obtain ⟨cz0, cz1, cz2, cz3⟩ := z4q bA
 go_wp2_with fail
 refine (h1 _).mono ?_
 rintro e w1 ⟨rfl, k1⟩
 replace acc := acc.trans k1
 replace bA := bA.wr0 k1
 clear c0 c1 c2 c3 cz0 cz1 cz2 cz3
 obtain ⟨c0, c1, c2, c3⟩ := c4q bA
 obtain ⟨cz0, cz1, cz2, cz3⟩ := z4q bA
 go_upto_region 5 with (fail)
 obtain ⟨wp, hwp⟩ : ∃ wp, w1.alloc (.cells #[.string ⟨#[]⟩, .bool false, .bool false] 160) = wp := ⟨_, rfl⟩
 obtain ⟨b, hb⟩ : ∃ b, w1.heap.size = b := ⟨_, rfl⟩
 have bW : Wlk wp b ⟨#[]⟩ false := by rw [← hwp, ← hb]; exact Blk.new _ _ _
 have hgb : g < b := by have := bA.lt; omega
 replace acc : Wr [] w wp := by rw [← hwp]; exact acc.alloc _
 replace bA : Blk wp g 55 #[.string m, .slice none 0 0, .slice none 0 0, .slice none 0 0] := by rw [← hwp]; exact bA.alloc _
 have hwb : w.heap.size ≤ b := by have := Hg.out; omega
 have Hwp := qh hwp
 have Hb := qh hb
 clear hwp hb k1
 clear c0 c1 c2 c3 cz0 cz1 cz2 cz3
 rw [Hwp.out, Hb.out]
 obtain ⟨c0, c1, c2, c3⟩ := c4q bA
 obtain ⟨cz0, cz1, cz2, cz3⟩ := z4q bA
 go_wp2_with fail
 refine (h2 _).mono ?_
 rintro e w2 ⟨rfl, k2⟩
 replace acc := acc.trans k2
 replace bA := bA.wr0 k2
 replace bW : Wlk w2 b ⟨#[]⟩ false := Blk.wr0 bW k2
 clear c0 c1 c2 c3 cz0 cz1 cz2 cz3
 obtain ⟨c0, c1, c2, c3⟩ := c4q bA
 obtain ⟨cz0, cz1, cz2, cz3⟩ := z4q bA
 go_upto_region 6 with (fail)
 have r4 := wr4 w2 g (.string m) (.slice none 0 0) (.slice none 0 0) (.slice none 0 0)
 replace acc := acc.new r4 (by have := Hg.out; omega)
 replace bA := blk4 w2 g 55 _ _ _ _ (.string m) (.slice none 0 0) (.slice none 0 0) (.slice none 0 0) bA
 replace bW : Wlk _ b ⟨#[]⟩ false := Blk.wr bW r4 (by simp; omega)
 clear r4 k2
 clear c0 c1 c2 c3 cz0 cz1 cz2 cz3
 generalize ((((w2.setCell ⟨g, 0, none⟩ (.string m)).setCell ⟨g, 1, none⟩ (.slice none 0 0)).setCell ⟨g, 2, none⟩ (.slice none 0 0)).setCell ⟨g, 3, none⟩ (.slice none 0 0)) = w3 at *
 go_wp2_with fail
 refine (H3.out b g (by omega) _ bW bA).mono ?_
 rintro e w4 ⟨rfl, k4, bW4⟩
 replace acc := acc.new k4 hwb
 have c0 := bW4.cell 0
 simp only [qgaq, qgzq] at c0
 go_wp2_with fail
 go_ret2
 exact ⟨rfl, acc⟩
theorem meets_append {kd : Int → List Int} (k : Nat) : ∀ (l m ord : List Int), meets kd k (l ++ m) ord = meets kd k m (meets kd k l ord) := by
 cases k with
 | zero => intro l m ord; rfl
 | succ k =>
  intro l
  induction l with
  | nil => intro m ord; rw [List.nil_append, meets_nil]
  | cons x l ih => intro m ord; rw [List.cons_append, meets_cons, meets_cons, ih]
def numsOf (ord : List Int) (n : Int) : Option Value := (ord.idxOf? n).map fun k => .int .i64 (10 + (k : Int))
theorem idx_push {ord : List Int} {n : Int} (h : n ∉ ord) (j : Int) : (ord ++ [n]).idxOf? j = if j = n then some ord.length else ord.idxOf? j := by
 induction ord with
 | nil =>
  by_cases hj : j = n
  ·subst hj
   simp [List.idxOf?]
  ·have : (n == j) = false := by simpa using fun e => hj e.symm
   simp [List.idxOf?, hj, this]
 | cons x l ih =>
  have hx : x ≠ n := fun e => h (by simp [e])
  have hl : n ∉ l := fun e => h (by simp [e])
  rw [List.cons_append, List.idxOf?_cons, ih hl]
  by_cases hxj : x = j
  ·subst hxj
   rw [if_neg hx]
   simp [List.idxOf?_cons, hx]
  ·have hb : (x == j) = false := by simpa using hxj
   by_cases hj : j = n
   ·subst hj
    simp [hb]
   ·simp [hb, hj, List.idxOf?_cons]
theorem numsOf_push {ord : List Int} {n : Int} (h : n ∉ ord) : (fun j => if j = n then some (Value.int .i64 (10 + (ord.length : Int))) else numsOf ord j) = numsOf (ord ++ [n]) := by
 funext j
 unfold numsOf
 rw [idx_push h]
 by_cases hj : j = n
 ·rw [if_pos hj, if_pos hj]
  rfl
 ·rw [if_neg hj, if_neg hj]
structure CC where
 B : Nat
 pn : Nat
 po : Nat
 pi : Nat
 pm : Nat
 gn : Nat
def CC.blocks (c : CC) : List Nat := [c.pn, c.po, c.pm, c.gn]
def CC.caps (c : CC) : Array Value := #[.pointer (some ⟨c.pn, 0, none⟩), .pointer (some ⟨c.po, 0, none⟩), .pointer (some ⟨c.pi, 0, none⟩), .pointer (some ⟨c.pm, 0, none⟩)]
structure CC.wf (c : CC) : Prop where
 nodup : c.blocks.Nodup
 low : ∀ b ∈ c.blocks, c.B ≤ b
theorem CC.wf.ne {c : CC} (hc : c.wf) : c.pn ≠ c.po ∧ c.pn ≠ c.pm ∧ c.pn ≠ c.gn ∧ c.po ≠ c.pm ∧ c.po ≠ c.gn ∧ c.pm ≠ c.gn := by
 have h := hc.nodup
 unfold CC.blocks at h
 simp only [List.nodup_cons, qmcq, qnnq, or_false, not_or] at h
 obtain ⟨⟨a1, a2, a3⟩, ⟨b1, b2⟩, c1, _⟩ := h
 exact ⟨a1, a2, a3, b1, b2, c1⟩
structure CEnv (c : CC) (w0 : World) (nt : Nat) (ord : List Int) (vo : Value) (w : World) : Prop where
 bel : Below c.B w0 w
 bn : Blk w c.pn 189 #[.map (some c.gn)]
 bo : Blk w c.po 25 #[vo]
 bm : Blk w c.pm 190 #[.func (.func 99) #[] c.caps]
 mn : MapI w c.gn (numsOf ord)
 own : w.ownsRow c.B 3 1 vo ord.length (ord.map (Value.int .i64))
 far : ∀ b, vo.ownBlock = some b → b ∉ c.blocks
 nodup : ord.Nodup
 sub : ∀ x ∈ ord, x ∈ nums nt ∧ 10 ≤ x
structure CStep (c : CC) (vo : Value) (w : World) (vo' : Value) (w' : World) : Prop where
 wr : Wr (c.gn :: c.po :: ownL vo) w w'
 own : ∀ g, vo'.ownBlock = some g → vo.ownBlock = some g ∨ w.heap.size ≤ g
structure CSafe (c : CC) (vo : Value) (w : World) (g : Nat) : Prop where
 lt : g < w.heap.size
 n1 : g ≠ c.gn
 n2 : g ≠ c.po
 n3 : vo.ownBlock ≠ some g
section
variable {c : CC} {w0 w w1 w2 W : World} {nt : Nat} {ord ord' : List Int} {vo vo1 vo2 : Value} {g : Nat}
theorem CStep.refl (c : CC) (vo : Value) (w : World) : CStep c vo w vo w := ⟨Wr.refl _ _, fun g h => .inl h⟩
theorem CStep.trans (h : CStep c vo w vo1 w1) (k : CStep c vo1 w1 vo2 w2) : CStep c vo w vo2 w2 := by
 refine ⟨h.wr.trans' k.wr (fun x hx => ?_), fun g hg => ?_⟩
 ·simp only [qmcq] at hx ⊢
  rcases hx with hx | hx | hx
  ·exact .inl (.inl hx)
  ·exact .inl (.inr (.inl hx))
  ·rcases h.own x (mem_ownL.1 hx) with h1 | h1
   ·exact .inl (.inr (.inr (mem_ownL.2 h1)))
   ·exact .inr h1
 ·rcases k.own g hg with h1 | h1
  ·exact h.own g h1
  ·exact .inr (Nat.le_trans h.wr.size h1)
theorem CStep.wr0 (h : CStep c vo w vo1 w1) (r : Wr [] w1 w2) : CStep c vo w vo1 w2 := ⟨h.wr.trans0 r, h.own⟩
theorem CStep.of0 (r : Wr [] w w1) : CStep c vo w vo w1 := ⟨r.nil, fun g h => .inl h⟩
theorem CSafe.step (h : CSafe c vo w g) (k : CStep c vo w vo1 w1) : CSafe c vo1 w1 g := by
 refine ⟨Nat.lt_of_lt_of_le h.lt k.wr.size, h.n1, h.n2, fun e => ?_⟩
 rcases k.own g e with h1 | h1
 ·exact h.n3 h1
 ·have := h.lt; omega
theorem CSafe.not (h : CSafe c vo w g) : g ∉ c.gn :: c.po :: ownL vo := by
 simp only [qmcq, not_or]
 exact ⟨h.n1, h.n2, fun e => h.n3 (mem_ownL.1 e)⟩
theorem CSafe.blk {T : TypeId} {cs : Array Value} (h : CSafe c vo w g) (k : CStep c vo w vo1 w1) (hb : Blk w g T cs) : Blk w1 g T cs := hb.wr k.wr h.not
theorem CSafe.cell {o : Nat} {v : Value} (h : CSafe c vo w g) (k : CStep c vo w vo1 w1) (hb : w.cell? ⟨g, o, none⟩ = some v) : w1.cell? ⟨g, o, none⟩ = some v := k.wr.cellOf hb h.not
theorem CEnv.size (h : CEnv c w0 nt ord vo w) (hB : c.B ≤ w0.heap.size) : c.B ≤ w.heap.size := Nat.le_trans hB h.bel.size
theorem CEnv.wr0 (h : CEnv c w0 nt ord vo w) (hB : c.B ≤ w0.heap.size) (hw : Wr [] w W) : CEnv c w0 nt ord vo W :=
 ⟨h.bel.trans (hw.below (h.size hB) (fun _ hx => by cases hx)), h.bn.wr0 hw, h.bo.wr0 hw, h.bm.wr0 hw, h.mn.wr hw (by simp), own_keep h.own hw (fun _ _ => by simp), h.far, h.nodup, h.sub⟩
theorem CEnv.len (h : CEnv c w0 nt ord vo w) : ord.length ≤ nt := by
 have := len_sub ord (nums nt) h.nodup (fun x hx => (h.sub x hx).1)
 simpa [nums] using this
theorem CEnv.push (hc : c.wf) (h : CEnv c w0 nt ord vo w) (hB : c.B ≤ w0.heap.size) {n : Int} (hn : n ∉ ord) (hT : n ∈ nums nt) (h10 : 10 ≤ n) {W1 W2 W3 : World} {v' : Value}
  (k1 : Wr [c.gn] w W1) (hm : MapI W1 c.gn (fun j => if j = n then some (.int .i64 (10 + (ord.length : Int))) else numsOf ord j)) (k2 : Wr [] W1 W2)
  (hown : W3.ownsRow c.B 3 1 v' (ord.length + 1) (ord.map (Value.int .i64) ++ [.int .i64 n])) (hg : W2.grownBy W3 vo.ownBlock) (hb : v'.ownBlock = vo.ownBlock ∨ v'.ownBlock = some W2.heap.size) :
  CEnv c w0 nt (ord ++ [n]) v' (W3.setCell ⟨c.po, 0, none⟩ v') ∧ CStep c vo w v' (W3.setCell ⟨c.po, 0, none⟩ v') := by
 obtain ⟨n1, n2, n3, n4, n5, n6⟩ := hc.ne
 have k3 : Wr (ownL vo) W2 W3 := Wr.ofGrownOwn hg
 have hf : ∀ b, b ∈ c.blocks → b ∉ ownL vo := fun b hb hx => h.far b (mem_ownL.1 hx) hb
 have hpo : c.B ≤ c.po := hc.low _ (by simp [CC.blocks])
 have hgn : c.B ≤ c.gn := hc.low _ (by simp [CC.blocks])
 have hlt : ∀ b, b ∈ c.blocks → b < w.heap.size := fun b hm => by
  simp only [CC.blocks, qmcq, qnnq, or_false] at hm
  rcases hm with rfl | rfl | rfl | rfl
  ·exact h.bn.lt
  ·exact h.bo.lt
  ·exact h.bm.lt
  ·exact h.mn.lt
 have s12 := Nat.le_trans k1.size k2.size
 have hbv : ∀ b, v'.ownBlock = some b → b ∉ c.blocks := fun b hb' hm => by
  rcases hb with h1 | h1
  ·exact h.far b (h1 ▸ hb') hm
  ·rw [h1] at hb'
   injection hb' with hb'
   have := hlt b hm
   omega
 have k4 : Wr [c.po] W3 (W3.setCell ⟨c.po, 0, none⟩ v') := (Wr.refl [c.po] W3).setOn (by simp) v'
 have m0 : MapI W1 c.gn (numsOf (ord ++ [n])) := by rw [← numsOf_push hn]; exact hm
 have lows : ∀ b, vo.ownBlock = some b → c.B ≤ b := fun b hb => (h.own.lt b hb).1
 refine ⟨⟨?_, ((((h.bn.wr k1 (by simpa using n3)).wr0 k2).wr k3 (hf _ (by simp [CC.blocks]))).wr k4 (by simpa using n1)), ?_, ((((h.bm.wr k1 (by simpa using n6)).wr0 k2).wr k3 (hf _ (by simp [CC.blocks]))).wr k4 (by simpa using fun e => n4 e.symm)), ((m0.wr k2 (by simp)).wr k3 (hf _ (by simp [CC.blocks]))).wr k4 (by simpa using fun e => n5 e.symm), ?_, hbv, ?_, ?_⟩, ⟨?_, ?_⟩⟩
 ·have b1 : Below c.B w W1 := k1.below (h.size hB) (fun x hx => by rw [qmsq] at hx; rw [hx]; exact hgn)
  have b2 : Below c.B W1 W2 := k2.below (Nat.le_trans (h.size hB) k1.size) (fun x hx => by cases hx)
  have b3 : Below c.B W2 W3 := k3.below (Nat.le_trans (h.size hB) s12) (fun x hx => lows x (mem_ownL.1 hx))
  have b4 : Below c.B W3 (W3.setCell ⟨c.po, 0, none⟩ v') := k4.below (Nat.le_trans (h.size hB) (Nat.le_trans s12 k3.size)) (fun x hx => by rw [qmsq] at hx; rw [hx]; exact hpo)
  exact (((h.bel.trans b1).trans b2).trans b3).trans b4
 ·have := (((h.bo.wr k1 (by simpa using n5)).wr0 k2).wr k3 (hf _ (by simp [CC.blocks]))).set_ 0 v'
  simpa using this
 ·rw [qlaq, List.map_append]
  exact own_keep hown k4 (fun b hb hx => hbv b hb (by rw [qmsq] at hx; rw [hx]; simp [CC.blocks]))
 ·rw [List.nodup_append]
  refine ⟨h.nodup, by simp, fun a ha b hb e => ?_⟩
  rw [qmsq] at hb
  subst hb
  subst e
  exact hn ha
 ·intro x hx
  rcases List.mem_append.1 hx with h1 | h1
  ·exact h.sub x h1
  ·rw [qmsq] at h1
   rw [h1]
   exact ⟨hT, h10⟩
 ·refine (((k1.more (fun x hx => by rw [qmsq] at hx; simp [hx])).trans0 k2).trans (k3.more (fun x hx => by simp [hx]))).trans (k4.more (fun x hx => by rw [qmsq] at hx; simp [hx]))
 ·intro x hx
  rcases hb with h1 | h1
  ·exact .inl (h1 ▸ hx)
  ·rw [h1] at hx
   injection hx with hx
   exact .inr (by omega)
end
def MIn (c : CC) (w0 : World) (ts : List Ty) (k : Nat) (tot rest : List Int) (z : Nat) (cs : Array Value) (vo : Value) (w wr : World) : Prop :=
 ∃ ord' vo', CEnv c w0 ts.length ord' vo' wr ∧ CStep c vo w vo' wr ∧ CSafe c vo' wr z ∧ Blk wr z 129 cs ∧ tot = meets (kidsAt ts) k rest ord' ∧ fresh (nums ts.length) ord' < k
theorem MIn.next {c : CC} {w0 w wr W w2 : World} {ts : List Ty} {k : Nat} {tot rest ordf : List Int} {x : List Int} {z : Nat} {cs : Array Value} {vo vof vo2 : Value} (hst : CStep c vo w vof wr) (hs : CSafe c vof wr z) (hb : Blk wr z 129 cs) (ht : tot = meets (kidsAt ts) k (x ++ rest) ordf) (hf : fresh (nums ts.length) ordf < k)
  (r : Wr [] wr W) (E : CEnv c w0 ts.length (meets (kidsAt ts) k x ordf) vo2 w2) (S : CStep c vof W vo2 w2) : MIn c w0 ts k tot rest z cs vo w w2 := by
 have s1 : CStep c vof wr vo2 w2 := (CStep.of0 r).trans S
 refine ⟨_, vo2, E, hst.trans s1, hs.step s1, hs.blk s1 hb, by rw [ht, meets_append], Nat.lt_of_le_of_lt (fresh_mono (fun n hn => meets_more _ _ _ _ hn)) hf⟩
theorem fld_at' {w : World} {P : Nat → Prop} {v : Value} {l : List Fld} (h : SlFlds w P v l) {i : Nat} {x : Fld} (hi : l[i]? = some x) : ∃ b off c, v = .slice (some ⟨b, off, none⟩) l.length c ∧ P b ∧ ∀ j u, x.cells[j]? = some u → w.cell? ⟨b, off + i * 3 + j, none⟩ = some u := by
 obtain ⟨b, off, c, e, _, _, hP, h4⟩ := Sl.thing h (by decide) (List.getElem?_eq_some_iff.1 hi).1
 refine ⟨b, off, c, e, hP, fun j u hj => ?_⟩
 have hj5 : j < 3 := (List.getElem?_eq_some_iff.1 hj).1
 rw [Nat.add_assoc]
 exact h4 j u hj5 (by rw [flatF_at (g := Fld.cells) (size := 3) (fun _ => rfl) l i j x hi hj5]; exact hj)
theorem par_at' {w : World} {P : Nat → Prop} {v : Value} {l : List Par} (h : SlPars w P v l) {i : Nat} {x : Par} (hi : l[i]? = some x) : ∃ b off c, v = .slice (some ⟨b, off, none⟩) l.length c ∧ P b ∧ ∀ j u, x.cells[j]? = some u → w.cell? ⟨b, off + i * 2 + j, none⟩ = some u := by
 obtain ⟨b, off, c, e, _, _, hP, h4⟩ := Sl.thing h (by decide) (List.getElem?_eq_some_iff.1 hi).1
 refine ⟨b, off, c, e, hP, fun j u hj => ?_⟩
 have hj5 : j < 2 := (List.getElem?_eq_some_iff.1 hj).1
 rw [Nat.add_assoc]
 exact h4 j u hj5 (by rw [flatF_at (g := Par.cells) (size := 2) (fun _ => rfl) l i j x hi hj5]; exact hj)
section
variable (c : CC) (hc : c.wf) (w0 : World) (hB : c.B ≤ w0.heap.size) (ts : List Ty) (vt : Value) (ht : SlTys w0 (fun b => b < c.B) vt ts) (hi : w0.cell? ⟨c.pi, 2, none⟩ = some vt) (hpi : c.pi < c.B) (hts : ts.length ≤ 1024) (hfm : ∀ t ∈ ts, tyForm ts.length t = true) (hlf : ∀ t ∈ ts, t.fields.length ≤ 65535 ∧ t.params.length ≤ 65535)
include hc hB ht hi hpi hts hfm hlf
end
theorem setCell_self {w : World} {a : Addr} {v : Value} (h : w.cell? a = some v) : w.setCell a v = w := by
 unfold World.cell? at h
 have e : (w.heap.modify a.block fun
   | .cells c elem frozen => .cells (if a.spot.isSome then c else c.setIfInBounds a.off v) elem frozen
   | o => o) = w.heap := by
  apply Array.ext_getElem?
  intro i
  rw [Array.getElem?_modify]
  by_cases hi : a.block = i
  ·subst hi
   rw [if_pos rfl]
   cases ho : w.heap[a.block]? with
   | none => rfl
   | some o =>
    rw [ho] at h
    cases o with
    | cells c t z =>
     simp only [Option.map_some, Option.some.injEq]
     by_cases hs : a.spot.isSome = true
     ·rw [if_pos hs]
     ·rw [if_neg hs]
      simp only [hs] at h
      congr 1
      apply Array.ext_getElem?
      intro j
      rw [Array.getElem?_setIfInBounds]
      by_cases hj : a.off = j
      ·subst hj
       rw [if_pos rfl]
       have := (Array.getElem?_eq_some_iff.1 h).1
       rw [if_pos this]
       exact h.symm
      ·rw [if_neg hj]
    | _ => rfl
  ·rw [if_neg hi]
 have k : ∀ h, h = w.heap → ({ w with heap := h } : World) = w := fun h e => by subst e; rfl
 exact k _ e
structure Own (w : World) (p : Addr) (v : Value) : Prop where
 cell : w.cell? p = some v
 frozen : w.frozen? p = false
theorem Own.keep {w w' : World} {p : Addr} {v : Value} {ls : List Nat} (h : Own w p v) (r : Wr ls w w') (hp : p.block ∉ ls) : Own w' p v := ⟨r.cellOf h.cell hp, r.frozenOf h.cell h.frozen hp⟩
theorem Own.lt {w : World} {p : Addr} {v : Value} (h : Own w p v) : p.block < w.heap.size := World.block_lt_of_cell? w p h.cell
def addL (s : ByteArray) (l : List UInt8) : ByteArray := ⟨s.data ++ l.toArray⟩
theorem addL_add (s : ByteArray) (l m : List UInt8) : addL (addL s l) m = addL s (l ++ m) := by
 unfold addL
 simp
def EncQ (b : Nat) (s : ByteArray) (l : List UInt8) (bad : Bool) (w : World) (e : Ending) (w' : World) : Prop := e = .returned (.tuple #[]) ∧ Wr [b] w w' ∧ Wlk w' b (addL s l) bad
theorem EncQ.then {b : Nat} {s : ByteArray} {l m : List UInt8} {bad : Bool} {w w1 w2 : World} {e : Ending} (r : Wr [b] w w1) (h : EncQ b (addL s l) m bad w1 e w2) : EncQ b s (l ++ m) bad w e w2 :=
 ⟨h.1, r.trans h.2.1, by rw [← addL_add]; exact h.2.2⟩
section
variable {P : Program} {md : Region.Mode} {ops : Array Oper}
end
theorem wr_set {w wd w' : World} {g o : Nat} {u : Value} (r : Wr [] w wd) (e : w' = wd.setCell ⟨g, o, none⟩ u) : Wr [g] w w' := by
 subst e
 exact r.nil.setOn (by simp) u
theorem row_set {w wd w' : World} {B g o size n : Nat} {T : TypeId} {v u : Value} {xs : List Value} (h : w.ownsRow B T size v n xs) (hg : v.ownBlock = some g) (hh : wd.heap = w.heap) (e : w' = wd.setCell ⟨g, o, none⟩ u) : w'.ownsRow B T size v n (xs.set o u) := by
 subst e
 have h1 : wd.ownsRow B T size v n xs := by
  refine ⟨h.1, ?_⟩
  rcases h.2 with h0 | ⟨g', cap, cur, rfl, hb, hh', rest⟩
  ·exact .inl h0
  ·exact .inr ⟨g', cap, cur, rfl, hb, by rw [hh]; exact hh', rest⟩
 rcases h1.2 with ⟨rfl, _⟩ | ⟨g', cap, cur, rfl, _⟩
 ·cases hg
 ·obtain rfl : g' = g := by simpa [Value.ownBlock] using hg
  exact (h1.stored o u).1
def stage {α : Type} (g : α → α) (k : Nat) (l : List α) : List α := (l.take k).map g ++ l.drop k
section
variable {α : Type} {g : α → α} {k : Nat} {l : List α} {x : α}
end
theorem flat_set {α : Type} {g : α → List Value} {size : Nat} (hg : ∀ x, (g x).length = size) : ∀ (l : List α) (k j : Nat) (x y : α) (u : Value), l[k]? = some x → j < size → (g x).set j u = g y → (l.flatMap g).set (k * size + j) u = (l.set k y).flatMap g
 | [], k, j, x, y, u, h, _, _ => by simp at h
 | z :: l, 0, j, x, y, u, h, hj, e => by
  simp only [qgzq, Option.some.injEq] at h
  subst h
  rw [qfcq, Nat.zero_mul, Nat.zero_add, List.set_append_left _ _ (by rw [hg]; exact hj), e, qszq, qfcq]
 | z :: l, k + 1, j, x, y, u, h, hj, e => by
  rw [qgsq] at h
  rw [qfcq, List.set_append_right _ _ (by rw [hg, Nat.succ_mul]; omega), hg, show (k + 1) * size + j - size = k * size + j by rw [Nat.succ_mul]; omega, flat_set hg l k j x y u h hj e, qssq, qfcq]
def gV (xs : List Value) (j : Nat) : Value := (xs[j]?).getD undef
def tyK (ord : List Int) (k i : Nat) (t : Ty) : Ty := if (10 + (i : Int)) ∈ ord.take k then anewT ord t else t
def TyV (w : World) (S : Nat) (lab : Nat → Nat × Nat) (xs : List Value) (i : Nat) (t : Ty) : Prop := TyO w S lab i (gV xs (i * 12 + 7)) (gV xs (i * 12 + 8)) (gV xs (i * 12 + 9)) (gV xs (i * 12 + 10)) t
def cellsV (xs : List Value) (i : Nat) (t : Ty) : List Value := t.cells (gV xs (i * 12 + 7)) (gV xs (i * 12 + 8)) (gV xs (i * 12 + 9)) (gV xs (i * 12 + 10))
def TysD (w : World) (S : Nat) (lab : Nat → Nat × Nat) (xs : List Value) (ts : List Ty) (ord : List Int) (k : Nat) : Prop := ∀ i t, ts[i]? = some t → TyV w S lab xs i (tyK ord k i t)
def NewTys (xs xs' : List Value) (ts : List Ty) (ord : List Int) (k : Nat) : Prop := ∀ j n, j < k → ord[j]? = some n → ∃ t, ts[(n - 10).toNat]? = some t ∧ ∀ jj u, (cellsV xs (n - 10).toNat (anewT ord t))[jj]? = some u → xs'[j * 12 + jj]? = some u
theorem TyO.same {w : World} {S i : Nat} {lab : Nat → Nat × Nat} {vn vf va vp : Value} {t t' : Ty} (h : TyO w S lab i vn vf va vp t) (h1 : t'.names = t.names) (h2 : t'.fields = t.fields) (h3 : t'.arms = t.arms) (h4 : t'.params = t.params) : TyO w S lab i vn vf va vp t' := by
 obtain ⟨a, b, c, d⟩ := h
 exact ⟨by rw [h1]; exact a, by rw [h2]; exact b, by rw [h3]; exact c, by rw [h4]; exact d⟩
structure CP where
 w00 : World
 f : FaceD
 ord : List Int
 pi : Nat
 pn : Nat
 gn : Nat
 b0 : Nat
 S : Nat
 B : Nat
 NB : Nat
 vu : Value
 vt : Value
 vi : Value
 vo : Value
 xs : List Value
 lab : Nat → Nat × Nat
structure CP.ok (c : CP) : Prop where
 p1 : c.w00.heap.size ≤ c.pi
 p2 : c.pi + 1 < c.b0
 p3 : c.b0 ≤ c.S
 p4 : c.S ≤ c.B
 p5 : c.B ≤ c.NB
 n1 : c.B ≤ c.pn
 n2 : c.pn < c.NB
 g1 : c.B ≤ c.gn
 g2 : c.gn < c.NB
 ng : c.pn ≠ c.gn
 o1 : ∀ b, c.vo.ownBlock = some b → c.B ≤ b ∧ b < c.NB
 u1 : ∀ b, c.vu.ownBlock = some b → b < c.S ∧ c.vt.ownBlock ≠ some b ∧ c.vi.ownBlock ≠ some b
 t1 : ∀ b, c.vt.ownBlock = some b → b < c.S ∧ c.vi.ownBlock ≠ some b
 i1 : ∀ b, c.vi.ownBlock = some b → b < c.S
 lb : ∀ b, c.B ≤ b → c.f.types.length ≤ (c.lab b).1
 nd : c.ord.Nodup
 sb : ∀ x ∈ c.ord, x ∈ nums c.f.types.length ∧ 10 ≤ x
 cl : ∀ i t, c.f.types[i]? = some t → ∀ j u, (cellsV c.xs i t)[j]? = some u → c.xs[i * 12 + j]? = some u
structure Core (c : CP) (k : Nat) (vt' : Value) (xs' : List Value) (its : List ItmD) (w : World) : Prop where
 acc : Wr [] c.w00 w
 bi : Blk w c.pi 55 #[.string c.f.module, c.vu, vt', c.vi]
 br : Blk w (c.pi + 1) 55 #[.string ⟨#[]⟩, .slice none 0 0, .slice none 0 0, .slice none 0 0]
 bn : Blk w c.pn 189 #[.map (some c.gn)]
 mn : MapI w c.gn (numsOf c.ord)
 od : w.ownsRow c.B 3 1 c.vo c.ord.length (c.ord.map (Value.int .i64))
 tr : w.ownsRow c.b0 129 12 c.vt c.f.types.length c.xs
 ur : w.ownsRow c.b0 72 2 c.vu c.f.uses.length (c.f.uses.flatMap UseD.cellsF)
 ir : w.ownsRow c.b0 136 5 c.vi its.length (its.flatMap ItmD.cells)
 nr : w.ownsRow c.NB 129 12 vt' k xs'
 nt : NewTys c.xs xs' c.f.types c.ord k
 one : ∀ u ∈ xs', u.oneCell' = true
 nb : c.NB ≤ w.heap.size
section
variable {c : CP} {k : Nat} {vt' : Value} {xs' : List Value} {its : List ItmD} {w w' wd : World} {ls : List Nat}
theorem Core.keep (hc : c.ok) (h : Core c k vt' xs' its w) (r : Wr ls w w') (hl : ∀ x ∈ ls, c.w00.heap.size ≤ x ∧ ((c.S ≤ x ∧ x < c.B) ∨ (c.NB ≤ x ∧ vt'.ownBlock ≠ some x))) : Core c k vt' xs' its w' := by
 have low : ∀ b, b < c.S → b ∉ ls := fun b hb hm => by have := (hl b hm).2; have := hc.p4; have := hc.p5; omega
 have mid : ∀ b, c.B ≤ b → b < c.NB → b ∉ ls := fun b h1 h2 hm => by have := (hl b hm).2; omega
 have hpi : c.pi ∉ ls := low _ (by have := hc.p2; have := hc.p3; omega)
 have hpi1 : c.pi + 1 ∉ ls := low _ (by have := hc.p2; have := hc.p3; omega)
 refine ⟨h.acc.trans' r (fun x hx => .inr (hl x hx).1), h.bi.wr r hpi, h.br.wr r hpi1, h.bn.wr r (mid _ hc.n1 hc.n2), h.mn.wr r (mid _ hc.g1 hc.g2), own_keep h.od r (fun g hg => mid g (hc.o1 g hg).1 (hc.o1 g hg).2), own_keep h.tr r (fun g hg => low g (hc.t1 g hg).1), own_keep h.ur r (fun g hg => low g (hc.u1 g hg).1), own_keep h.ir r (fun g hg => low g (hc.i1 g hg)), own_keep h.nr r (fun g hg hm => ?_), h.nt, h.one, Nat.le_trans h.nb r.size⟩
 rcases (hl g hm).2 with h1 | h1
 ·have := (h.nr.lt g hg).1
  have := hc.p5
  omega
 ·exact h1.2 hg
theorem Core.wr0 (hc : c.ok) (h : Core c k vt' xs' its w) (r : Wr [] w w') : Core c k vt' xs' its w' := h.keep hc r (fun x hx => by cases hx)
theorem TyV.keep {S i : Nat} {lab : Nat → Nat × Nat} {xs : List Value} {t : Ty} (h : TyV w S lab xs i t) (r : Wr ls w w') (hl : ∀ x ∈ ls, S ≤ x → (lab x).1 ≠ i) : TyV w' S lab xs i t := TyO.keep h r hl
theorem TysD.keep {S : Nat} {lab : Nat → Nat × Nat} {xs : List Value} {ts : List Ty} {ord : List Int} (h : TysD w S lab xs ts ord k) (r : Wr ls w w') (hl : ∀ x ∈ ls, S ≤ x → ts.length ≤ (lab x).1) : TysD w' S lab xs ts ord k := fun i t ht =>
 (h i t ht).keep r (fun x hx hs e => by have := hl x hx hs; have := (List.getElem?_eq_some_iff.1 ht).1; omega)
def TysB (w : World) (S : Nat) (lab : Nat → Nat × Nat) (xs : List Value) (ts : List Ty) (ord : List Int) (k i0 : Nat) : Prop := ∀ i t, i ≠ i0 → ts[i]? = some t → TyV w S lab xs i (tyK ord k i t)
theorem TysB.keep {S i0 : Nat} {lab : Nat → Nat × Nat} {xs : List Value} {ts : List Ty} {ord : List Int} (h : TysB w S lab xs ts ord k i0) (r : Wr ls w w') (hl : ∀ x ∈ ls, S ≤ x → ts.length ≤ (lab x).1 ∨ (lab x).1 = i0) : TysB w' S lab xs ts ord k i0 := fun i t hi ht =>
 (h i t hi ht).keep r (fun x hx hs e => by have := hl x hx hs; have := (List.getElem?_eq_some_iff.1 ht).1; omega)
theorem TysB.all {S i0 : Nat} {lab : Nat → Nat × Nat} {xs : List Value} {ts : List Ty} {ord : List Int} (hn : ord.Nodup) {n : Int} {t : Ty} (h : TysB w S lab xs ts ord k i0) (hk : ord[k]? = some n) (h0 : 10 + (i0 : Int) = n) (ht : ts[i0]? = some t) (hv : TyV w S lab xs i0 (anewT ord t)) : TysD w S lab xs ts ord (k + 1) := fun i t' ht' => by
 have hkl := (List.getElem?_eq_some_iff.1 hk).1
 have e : ord.take (k + 1) = ord.take k ++ [n] := by rw [List.take_succ_eq_append_getElem hkl, (List.getElem?_eq_some_iff.1 hk).2]
 by_cases hi : i = i0
 ·subst hi
  rw [ht] at ht'
  injection ht' with ht'
  subst ht'
  unfold tyK
  rw [if_pos (by rw [e, h0]; simp)]
  exact hv
 ·have := h i t' hi ht'
  unfold tyK at this ⊢
  have hne : (10 + (i : Int)) ≠ n := by omega
  by_cases hm : (10 + (i : Int)) ∈ ord.take k
  ·rw [if_pos hm] at this
   rw [if_pos (by rw [e]; exact List.mem_append_left _ hm)]
   exact this
  ·rw [if_neg hm] at this
   rw [if_neg (by rw [e]; simp [hm, hne])]
   exact this
theorem NewTys.next {xs ys : List Value} {ts : List Ty} {ord : List Int} {n : Int} {t : Ty} (h : NewTys xs xs' ts ord k) (hl : xs'.length = k * 12) (hk : ord[k]? = some n) (ht : ts[(n - 10).toNat]? = some t) (hy : ys = cellsV xs (n - 10).toNat (anewT ord t)) : NewTys xs (xs' ++ ys) ts ord (k + 1) := fun j m hj hm => by
 have h12 : ys.length = 12 := by rw [hy]; rfl
 rcases Nat.lt_or_ge j k with hjk | hjk
 ·obtain ⟨t', ht', hc⟩ := h j m hjk hm
  refine ⟨t', ht', fun jj u hu => ?_⟩
  have hj12 : jj < 12 := (List.getElem?_eq_some_iff.1 hu).1
  rw [qglq (by omega)]
  exact hc jj u hu
 ·obtain rfl : j = k := by omega
  rw [hk] at hm
  injection hm with hm
  subst hm
  refine ⟨t, ht, fun jj u hu => ?_⟩
  rw [qgrq (by omega), hl, Nat.add_sub_cancel_left, hy]
  exact hu
end
theorem Core.setItem {c : CP} {k j J gi : Nat} {vt' u : Value} {xs' : List Value} {its : List ItmD} {x y : ItmD} {w wd w' : World} (hc : c.ok) (h : Core c k vt' xs' its w) (hx : its[j]? = some x) (hJ : J < 5) (hy : x.cells.set J u = y.cells) (hg : c.vi.ownBlock = some gi) (r : Wr [] w wd) (hh : wd.heap = w.heap) (e : w' = wd.setCell ⟨gi, j * 5 + J, none⟩ u) : Core c k vt' xs' (its.set j y) w' := by
 have r1 := wr_set r e
 have hgi := hc.i1 gi hg
 have hgb := (h.ir.lt gi hg).1
 have off : ∀ b, b ≠ gi → b ∉ [gi] := fun b hb hm => hb (List.mem_singleton.1 hm)
 have h2 := hc.p2
 have h3 := hc.p3
 have h4 := hc.p4
 have h5 := hc.p5
 have h6 := hc.n1
 have h7 := hc.g1
 refine ⟨h.acc.trans' r1 (fun x hx => .inr ?_), h.bi.wr r1 (off _ (by omega)), h.br.wr r1 (off _ (by omega)), h.bn.wr r1 (off _ (by omega)), h.mn.wr r1 (off _ (by omega)), own_keep h.od r1 (fun g hg' => off _ (by have := (hc.o1 g hg').1; omega)), own_keep h.tr r1 (fun g hg' => off _ (fun e => (hc.t1 g hg').2 (by rw [e]; exact hg))), own_keep h.ur r1 (fun g hg' => off _ (fun e => (hc.u1 g hg').2.2 (by rw [e]; exact hg))), ?_, own_keep h.nr r1 (fun g hg' => off _ (by have := (h.nr.lt g hg').1; omega)), h.nt, h.one, Nat.le_trans h.nb r1.size⟩
 ·rw [qmsq] at hx
  subst hx
  have := hc.p1
  omega
 ·have := row_set h.ir hg hh e
  rw [flat_set (g := ItmD.cells) (size := 5) itm_len its j J x y u hx hJ hy] at this
  rw [List.length_set]
  exact this
theorem Core.fin {c : CP} {vt' : Value} {xs' : List Value} {w : World} (hc : c.ok) (hord : c.ord = ordOf c.f) (h : Core c c.ord.length vt' xs' (c.f.items.map (anewI c.ord)) w) (ht : TysD w c.S c.lab c.xs c.f.types c.ord c.ord.length) : FaceL w (fun b => c.b0 ≤ b) c.vu vt' c.vi (canonF c.f) := by
 refine ⟨Sl.ofOwn h.ur (fun b hbk => (h.ur.lt b hbk).1), ⟨xs', ?_, h.one, fun i t' hi => ?_⟩, ?_⟩
 ·have := Sl.ofOwn h.nr (P := fun b => c.b0 ≤ b) (fun b hbk => by have := (h.nr.lt b hbk).1; have := hc.p3; have := hc.p4; have := hc.p5; omega)
  unfold canonF
  rw [qlmq, ← hord]
  exact this
 ·unfold canonF at hi
  rw [← hord, qgmq] at hi
  cases hn : c.ord[i]? with
  | none => rw [hn] at hi; cases hi
  | some n =>
   rw [hn] at hi
   obtain ⟨t, htt, hcell⟩ := h.nt i n (List.getElem?_eq_some_iff.1 hn).1 hn
   simp only [Option.map_some, Option.some.injEq, htt, Option.getD_some] at hi
   subst hi
   refine ⟨_, _, _, _, hcell, ?_⟩
   have := ht _ t htt
   unfold tyK at this
   have hm := List.mem_of_getElem? hn
   have h10 := (hc.sb n hm).2
   rw [List.take_length, if_pos (by rw [show 10 + (((n - 10).toNat : Nat) : Int) = n by omega]; exact hm)] at this
   exact (TyO.lists this).into (fun b hb' _ => by have := hc.p3; omega)
 ·have := Sl.ofOwn h.ir (P := fun b => c.b0 ≤ b) (fun b hbk => (h.ir.lt b hbk).1)
  show SlItms w _ c.vi (c.f.items.map (anewI (ordOf c.f)))
  rw [← hord]
  exact this
def L2 (c : CP) (j : Nat) (w : World) : Prop := ∃ vt' xs', Core c j vt' xs' c.f.items w ∧ TysD w c.S c.lab c.xs c.f.types c.ord j
def L5 (c : CP) (j : Nat) (w : World) : Prop := ∃ vt' xs', Core c c.ord.length vt' xs' (stage (anewI c.ord) j c.f.items) w ∧ TysD w c.S c.lab c.xs c.f.types c.ord c.ord.length
def L3 (c : CP) (j i z : Nat) (t : Ty) (cs : Array Value) (vt' : Value) (xs' : List Value) (w : World) : Prop :=
 Core c j vt' xs' c.f.items w ∧ TysB w c.S c.lab c.xs c.f.types c.ord j i ∧ TyV w c.S c.lab c.xs i t ∧ Blk w z 129 cs ∧ c.NB ≤ z ∧ vt'.ownBlock ≠ some z
end Go.Proofs.YtildcdgobdfieaaGreat
