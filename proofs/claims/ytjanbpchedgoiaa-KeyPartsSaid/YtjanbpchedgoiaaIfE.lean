/- iface's Canon, of an interface without items: walked. Conditions: what its May and its clone answer. -/
import Derived.Test.YtjanbpchedgoiaaIfD
import Derived.Laws.EntriesVeiled
namespace Go.Proofs.Ytjanbpchedgoiaa
open Go.RowKit
set_option linter.unusedVariables false
set_option linter.unusedSimpArgs false

def bareI (m : ByteArray) (ts : Value) : Value := .agg #[.string m, .slice none 0 0, ts, .slice none 0 0]
/-- What is so stays so while nobody's memory is written. -/
def Holds (G : World → Prop) : Prop := ∀ w w', G w → Wr [] w w' → G w'
set_option maxRecDepth 100000 in
set_option maxHeartbeats 4000000 in
theorem canon_plain (m : ByteArray) (A : Option Addr) (n c : Nat) (G : World → Prop) (hG : Holds G)
    (h1 : ∀ w, G w → Calls Try.prog 19 #[bareI m (.slice A n c)] w fun e w' => e = .returned (.int .i64 0) ∧ Wr [] w w')
    (h2 : ∀ w, G w → Calls Try.prog 20 #[bareI m (.slice A n c)] w fun e w' => (∃ A' n' c', e = .returned (bareI m (.slice A' n' c'))) ∧ Wr [] w w')
    (w : World) (hw : G w) : Calls Try.prog 13 #[bareI m (.slice A n c)] w fun e w' => e = .returned (.tuple #[bareI m (.slice none 0 0), .int .i64 0]) ∧ Wr [] w w' := by
  have hmf : ∀ (fn : Fn) (first cap : Array Value) (w : World), (Instr.makeFunc fn first cap).run Try.prog w = .ok (.func fn first cap) w := fun _ _ _ _ => rfl
  have hmm := @run_makeMap Try.prog
  unfold bareI at *
  obtain ⟨wb, hwb⟩ : ∃ wb, (w.alloc (.cells #[.string m, .slice none 0 0, .slice A n c, .slice none 0 0] 39)).alloc (.cells #[.string ⟨#[]⟩, .slice none 0 0, .slice none 0 0, .slice none 0 0] 39) = wb := ⟨_, rfl⟩
  obtain ⟨g, hg⟩ : ∃ g, w.heap.size = g := ⟨_, rfl⟩
  have acc : Wr [] w wb := by rw [← hwb]; exact ((Wr.refl _ _).alloc _).alloc _
  have bA : Blk wb g 39 #[.string m, .slice none 0 0, .slice A n c, .slice none 0 0] := by rw [← hwb, ← hg]; exact (Blk.new _ _ _).alloc _
  have bR : Blk wb (g + 1) 39 #[.string ⟨#[]⟩, .slice none 0 0, .slice none 0 0, .slice none 0 0] := by
    have hb := Blk.new (w.alloc (.cells #[.string m, .slice none 0 0, .slice A n c, .slice none 0 0] 39)) 39 #[.string ⟨#[]⟩, .slice none 0 0, .slice none 0 0, .slice none 0 0]
    rw [show (w.alloc (.cells #[.string m, .slice none 0 0, .slice A n c, .slice none 0 0] 39)).heap.size = g + 1 by simp [hg], hwb] at hb
    exact hb
  have Hwb := Lib.hid hwb
  have Hg := Lib.hid hg
  clear hwb hg
  go_enter Try.func13, Try.ntmps13
  go_upto_region 1 with (fail)
  rw [Hwb.out, Hg.out]
  have gw := hG _ _ hw acc
  have c0 := bA.cell 0
  have c1 := bA.cell 1
  have c2 := bA.cell 2
  have c3 := bA.cell 3
  simp only [List.getElem?_toArray, List.getElem?_cons_zero, List.getElem?_cons_succ] at c0 c1 c2 c3
  have cz0 := bA.frozen 0
  have cz1 := bA.frozen 1
  have cz2 := bA.frozen 2
  have cz3 := bA.frozen 3
  go_wp2_with fail
  refine (h1 _ gw).mono ?_
  rintro e w1 ⟨rfl, k1⟩
  replace acc := acc.trans k1
  replace bA := bA.wr0 k1
  replace bR := bR.wr0 k1
  replace gw := hG _ _ gw k1
  clear c0 c1 c2 c3 cz0 cz1 cz2 cz3
  have c0 := bA.cell 0
  have c1 := bA.cell 1
  have c2 := bA.cell 2
  have c3 := bA.cell 3
  simp only [List.getElem?_toArray, List.getElem?_cons_zero, List.getElem?_cons_succ] at c0 c1 c2 c3
  have cz0 := bA.frozen 0
  have cz1 := bA.frozen 1
  have cz2 := bA.frozen 2
  have cz3 := bA.frozen 3
  go_wp2_with fail
  refine (h2 _ gw).mono ?_
  rintro e w2 ⟨⟨A', n', c', rfl⟩, k2⟩
  replace acc := acc.trans k2
  replace bA := bA.wr0 k2
  replace bR := bR.wr0 k2
  clear c0 c1 c2 c3 cz0 cz1 cz2 cz3
  have c0 := bA.cell 0
  have c1 := bA.cell 1
  have c2 := bA.cell 2
  have c3 := bA.cell 3
  simp only [List.getElem?_toArray, List.getElem?_cons_zero, List.getElem?_cons_succ] at c0 c1 c2 c3
  have cz0 := bA.frozen 0
  have cz1 := bA.frozen 1
  have cz2 := bA.frozen 2
  have cz3 := bA.frozen 3
  go_upto_region 5 with (fail)
  have acc2 := acc.new (wr4 w2 g (.string m) (.slice none 0 0) (.slice A' n' c') (.slice none 0 0)) (by have := Hg.out; omega)
  replace bA := blk4 w2 g 39 _ _ _ _ (.string m) (.slice none 0 0) (.slice A' n' c') (.slice none 0 0) bA
  replace bR := bR.wr (wr4 w2 g (.string m) (.slice none 0 0) (.slice A' n' c') (.slice none 0 0)) (by simp)
  clear c0 c1 c2 c3 cz0 cz1 cz2 cz3
  generalize ((((w2.setCell ⟨g, 0, none⟩ (.string m)).setCell ⟨g, 1, none⟩ (.slice none 0 0)).setCell ⟨g, 2, none⟩ (.slice A' n' c')).setCell ⟨g, 3, none⟩ (.slice none 0 0)) = wx at *
  have c0 := bA.cell 0
  have c1 := bA.cell 1
  have c2 := bA.cell 2
  have c3 := bA.cell 3
  simp only [List.getElem?_toArray, List.getElem?_cons_zero, List.getElem?_cons_succ] at c0 c1 c2 c3
  have cz0 := bA.frozen 0
  have cz1 := bA.frozen 1
  have cz2 := bA.frozen 2
  have cz3 := bA.frozen 3
  have r0 := bR.cell 0
  have r1 := bR.cell 1
  have r2 := bR.cell 2
  have r3 := bR.cell 3
  simp only [List.getElem?_toArray, List.getElem?_cons_zero, List.getElem?_cons_succ] at r0 r1 r2 r3
  have rz0 := bR.frozen 0
  have rz1 := bR.frozen 1
  have rz2 := bR.frozen 2
  have rz3 := bR.frozen 3
  go_upto_region 8 with (fail)
  obtain ⟨k, hk⟩ : ∃ k, wx.heap.size = k := ⟨_, rfl⟩
  rw [hk]
  obtain ⟨wy, hwy⟩ : ∃ wy, (((((wx.alloc (.map #[] 0)).alloc (.cells #[] 3)).alloc (.cells #[.map (some k)] 70)).alloc (.cells #[.slice (some ⟨k + 1, 0, none⟩) 0 0] 71)).alloc (.cells #[.func (.func 21) #[] #[.pointer (some ⟨k + 1 + 1, 0, none⟩), .pointer (some ⟨k + 1 + 1 + 1, 0, none⟩), .pointer (some ⟨g, 0, none⟩), .pointer (some ⟨k + 1 + 1 + 1 + 1, 0, none⟩)]] 72)) = wy := ⟨_, rfl⟩
  rw [hwy]
  have rY : Wr [] wx wy := by rw [← hwy]; exact (((((Wr.refl [] wx).alloc _).alloc _).alloc _).alloc _).alloc _
  have d6 : wy.cell? ⟨k + 1 + 1 + 1, 0, none⟩ = some (.slice (some ⟨k + 1, 0, none⟩) 0 0) := by
    have hb := (Blk.new ((((wx.alloc (.map #[] 0)).alloc (.cells #[] 3)).alloc (.cells #[.map (some k)] 70))) 71 #[.slice (some ⟨k + 1, 0, none⟩) 0 0]).alloc (.cells #[.func (.func 21) #[] #[.pointer (some ⟨k + 1 + 1, 0, none⟩), .pointer (some ⟨k + 1 + 1 + 1, 0, none⟩), .pointer (some ⟨g, 0, none⟩), .pointer (some ⟨k + 1 + 1 + 1 + 1, 0, none⟩)]] 72)
    rw [hwy] at hb
    have := hb.cell 0
    simpa [World.size_alloc, hk] using this
  have bX := bA
  have Hk := Lib.hid hk
  clear hk hwy
  replace acc2 := acc2.trans rY
  replace bA := bA.wr0 rY
  replace bR := bR.wr0 rY
  clear c0 c1 c2 c3 cz0 cz1 cz2 cz3
  clear r0 r1 r2 r3 rz0 rz1 rz2 rz3
  have c0 := bA.cell 0
  have c1 := bA.cell 1
  have c2 := bA.cell 2
  have c3 := bA.cell 3
  simp only [List.getElem?_toArray, List.getElem?_cons_zero, List.getElem?_cons_succ] at c0 c1 c2 c3
  have cz0 := bA.frozen 0
  have cz1 := bA.frozen 1
  have cz2 := bA.frozen 2
  have cz3 := bA.frozen 3
  have r0 := bR.cell 0
  have r1 := bR.cell 1
  have r2 := bR.cell 2
  have r3 := bR.cell 3
  simp only [List.getElem?_toArray, List.getElem?_cons_zero, List.getElem?_cons_succ] at r0 r1 r2 r3
  have rz0 := bR.frozen 0
  have rz1 := bR.frozen 1
  have rz2 := bR.frozen 2
  have rz3 := bR.frozen 3
  go_wp2_with fail
  refine wp_loop_rounds 1 ?_
  rw [rounds_succ]
  go_upto_region 19 with (fail)
  have hne : g ≠ k + 1 + 1 + 1 := by
    have := bX.lt
    have := Hk.out
    omega
  have rZ : Wr [g] wy (wy.setCell ⟨g, 2, none⟩ (.slice none 0 0)) := (Wr.refl [g] wy).setOn (by simp) _
  replace d6 := rZ.cellOf d6 (by simp [Ne.symm hne])
  replace acc2 := acc2.new rZ (by have := Hg.out; omega)
  replace bA : Blk (wy.setCell ⟨g, 2, none⟩ (.slice none 0 0)) g 39 #[.string m, .slice none 0 0, .slice none 0 0, .slice none 0 0] := by
    have := bA.set_ 2 (.slice none 0 0)
    simpa using this
  replace bR := bR.wr rZ (by simp)
  clear rY rZ hne bX
  clear c0 c1 c2 c3 cz0 cz1 cz2 cz3
  clear r0 r1 r2 r3 rz0 rz1 rz2 rz3
  generalize wy.setCell ⟨g, 2, none⟩ (.slice none 0 0) = wz at *
  have c0 := bA.cell 0
  have c1 := bA.cell 1
  have c2 := bA.cell 2
  have c3 := bA.cell 3
  simp only [List.getElem?_toArray, List.getElem?_cons_zero, List.getElem?_cons_succ] at c0 c1 c2 c3
  have cz0 := bA.frozen 0
  have cz1 := bA.frozen 1
  have cz2 := bA.frozen 2
  have cz3 := bA.frozen 3
  have r0 := bR.cell 0
  have r1 := bR.cell 1
  have r2 := bR.cell 2
  have r3 := bR.cell 3
  simp only [List.getElem?_toArray, List.getElem?_cons_zero, List.getElem?_cons_succ] at r0 r1 r2 r3
  have rz0 := bR.frozen 0
  have rz1 := bR.frozen 1
  have rz2 := bR.frozen 2
  have rz3 := bR.frozen 3
  go_wp2_with fail
  refine wp_loop_rounds 1 ?_
  rw [rounds_succ]
  go_wp2_with fail
  refine wp_loop_rounds 1 ?_
  rw [rounds_succ]
  go_wp2_with fail
  refine bodyPost_ret (v := .tuple #[.agg #[.string m, .slice none 0 0, .slice none 0 0, .slice none 0 0], .int .i64 0]) ?_ rfl ⟨rfl, ?_⟩
  · have cc := blk4 wz (g + 1) 39 _ _ _ _ (.string m) (.slice none 0 0) (.slice none 0 0) (.slice none 0 0) bR
    have t0 := cc.cell 0
    have t1 := cc.cell 1
    have t2 := cc.cell 2
    have t3 := cc.cell 3
    simp only [List.getElem?_toArray, List.getElem?_cons_zero, List.getElem?_cons_succ] at t0 t1 t2 t3
    simp [results, Try.results13, go_sem, t0, t1, t2, t3]
  · have e := Hg.out
    exact acc2.new (wr4 wz (g + 1) _ _ _ _) (by omega)
set_option maxRecDepth 100000 in
set_option maxHeartbeats 4000000 in
/-- Canon, of what may not be. -/
theorem canon_bad (x : Array Value) (hx : ∃ a b c d, x = #[a, b, c, d]) (en : Int) (he : en ≠ 0) (w : World)
    (h1 : ∀ w', Wr [] w w' → Calls Try.prog 19 #[.agg x] w' fun e w2 => e = .returned (.int .i64 en) ∧ Wr [] w' w2) :
    Calls Try.prog 13 #[.agg x] w fun e w' => e = .returned (.tuple #[bareI ⟨#[]⟩ (.slice none 0 0), .int .i64 en]) ∧ Wr [] w w' := by
  obtain ⟨xa, xb, xc, xd, rfl⟩ := hx
  have hd : decide (en = 0) = false := by simpa using he
  unfold bareI
  obtain ⟨wb, hwb⟩ : ∃ wb, (w.alloc (.cells #[xa, xb, xc, xd] 39)).alloc (.cells #[.string ⟨#[]⟩, .slice none 0 0, .slice none 0 0, .slice none 0 0] 39) = wb := ⟨_, rfl⟩
  obtain ⟨g, hg⟩ : ∃ g, w.heap.size = g := ⟨_, rfl⟩
  have acc : Wr [] w wb := by rw [← hwb]; exact ((Wr.refl _ _).alloc _).alloc _
  have bA : Blk wb g 39 #[xa, xb, xc, xd] := by rw [← hwb, ← hg]; exact (Blk.new _ _ _).alloc _
  have bR : Blk wb (g + 1) 39 #[.string ⟨#[]⟩, .slice none 0 0, .slice none 0 0, .slice none 0 0] := by
    have hb := Blk.new (w.alloc (.cells #[xa, xb, xc, xd] 39)) 39 #[.string ⟨#[]⟩, .slice none 0 0, .slice none 0 0, .slice none 0 0]
    rw [show (w.alloc (.cells #[xa, xb, xc, xd] 39)).heap.size = g + 1 by simp [hg], hwb] at hb
    exact hb
  have Hwb := Lib.hid hwb
  have Hg := Lib.hid hg
  clear hwb hg
  go_enter Try.func13, Try.ntmps13
  go_upto_region 1 with (fail)
  rw [Hwb.out, Hg.out]
  have c0 := bA.cell 0
  have c1 := bA.cell 1
  have c2 := bA.cell 2
  have c3 := bA.cell 3
  simp only [List.getElem?_toArray, List.getElem?_cons_zero, List.getElem?_cons_succ] at c0 c1 c2 c3
  have cz0 := bA.frozen 0
  have cz1 := bA.frozen 1
  have cz2 := bA.frozen 2
  have cz3 := bA.frozen 3
  have r0 := bR.cell 0
  have r1 := bR.cell 1
  have r2 := bR.cell 2
  have r3 := bR.cell 3
  simp only [List.getElem?_toArray, List.getElem?_cons_zero, List.getElem?_cons_succ] at r0 r1 r2 r3
  have rz0 := bR.frozen 0
  have rz1 := bR.frozen 1
  have rz2 := bR.frozen 2
  have rz3 := bR.frozen 3
  go_wp2_with fail
  refine (h1 _ acc).mono ?_
  rintro e w1 ⟨rfl, k1⟩
  replace acc := acc.trans k1
  replace bA := bA.wr0 k1
  replace bR := bR.wr0 k1
  clear c0 c1 c2 c3 cz0 cz1 cz2 cz3
  clear r0 r1 r2 r3 rz0 rz1 rz2 rz3
  have c0 := bA.cell 0
  have c1 := bA.cell 1
  have c2 := bA.cell 2
  have c3 := bA.cell 3
  simp only [List.getElem?_toArray, List.getElem?_cons_zero, List.getElem?_cons_succ] at c0 c1 c2 c3
  have cz0 := bA.frozen 0
  have cz1 := bA.frozen 1
  have cz2 := bA.frozen 2
  have cz3 := bA.frozen 3
  have r0 := bR.cell 0
  have r1 := bR.cell 1
  have r2 := bR.cell 2
  have r3 := bR.cell 3
  simp only [List.getElem?_toArray, List.getElem?_cons_zero, List.getElem?_cons_succ] at r0 r1 r2 r3
  have rz0 := bR.frozen 0
  have rz1 := bR.frozen 1
  have rz2 := bR.frozen 2
  have rz3 := bR.frozen 3
  go_wp2_with fail
  refine bodyPost_ret (v := .tuple #[.agg #[.string ⟨#[]⟩, .slice none 0 0, .slice none 0 0, .slice none 0 0], .int .i64 en]) ?_ rfl ⟨rfl, ?_⟩
  · have cc := blk4 w1 (g + 1) 39 _ _ _ _ (.string ⟨#[]⟩) (.slice none 0 0) (.slice none 0 0) (.slice none 0 0) bR
    have t0 := cc.cell 0
    have t1 := cc.cell 1
    have t2 := cc.cell 2
    have t3 := cc.cell 3
    simp only [List.getElem?_toArray, List.getElem?_cons_zero, List.getElem?_cons_succ] at t0 t1 t2 t3
    simp [results, Try.results13, go_sem, t0, t1, t2, t3]
  · have e := Hg.out
    exact acc.new (wr4 w1 (g + 1) _ _ _ _) (by omega)
end Go.Proofs.Ytjanbpchedgoiaa
