/- iface's walk, reading: arms: walked. Conditions: the walk reads. -/
import Derived.Test.YtildcdgobdfieaaGreatRD14
set_option linter.unusedVariables false
set_option linter.unusedSimpArgs false
set_option maxRecDepth 100000
set_option maxHeartbeats 32000000
namespace Go.Proofs.YtildcdgobdfieaaGreat
open Go.RowKit
section
variable {P : Program} {md : Region.Mode} {ops : Array Oper} {Q : Exit → Act → World → Prop} {S : Array Bool → World → Prop}
theorem wpAnyL_two {i j : Nat} {oi oj : Oper} {fuel : Nat} {listed : Array Bool} {a : Act} {w : World} (hi : ops[i]? = some oi) (hj : ops[j]? = some oj) (hr : Region.ready md ops listed = [i, j]) (hc : ClosedL md ops listed)
  (h1 : ∀ K : Act → World → Prop, (∀ a' w', S (listed.setIfInBounds i true) w' → (ClosedL md ops (listed.setIfInBounds i true) → wpAnyL P md ops Q S fuel (listed.setIfInBounds i true) a' w') → K a' w') → if Region.wanted oi (yielded ops a.tmps) = true then Oper.wp P oi a w K Q else K (a.put oi.dst undef) w)
  (h2 : ∀ K : Act → World → Prop, (∀ a' w', S (listed.setIfInBounds j true) w' → (ClosedL md ops (listed.setIfInBounds j true) → wpAnyL P md ops Q S fuel (listed.setIfInBounds j true) a' w') → K a' w') → if Region.wanted oj (yielded ops a.tmps) = true then Oper.wp P oj a w K Q else K (a.put oj.dst undef) w) : wpAnyL P md ops Q S (fuel + 1) listed a w := by
 refine ⟨fun h0 => absurd (h0.symm.trans hr) (by simp), fun k hk => ?_⟩
 have key : ∀ (i : Nat) (oi : Oper), ops[i]? = some oi → i ∈ Region.ready md ops listed → (∀ K : Act → World → Prop, (∀ a' w', S (listed.setIfInBounds i true) w' → (ClosedL md ops (listed.setIfInBounds i true) → wpAnyL P md ops Q S fuel (listed.setIfInBounds i true) a' w') → K a' w') → if Region.wanted oi (yielded ops a.tmps) = true then Oper.wp P oi a w K Q else K (a.put oi.dst undef) w) → wpOp P ops Q i (fun a' w' => S (listed.setIfInBounds i true) w' ∧ wpAnyL P md ops Q S fuel (listed.setIfInBounds i true) a' w') a w := by
  intro i oi hi hm h
  unfold wpOp
  simp only [hi]
  have := h (fun a' w' => S (listed.setIfInBounds i true) w' ∧ wpAnyL P md ops Q S fuel (listed.setIfInBounds i true) a' w') (fun a' w' h1 h2 => ⟨h1, h2 (hc.set hm)⟩)
  by_cases hw : Region.wanted oi (yielded ops a.tmps) = true
  ·rw [if_pos hw] at this ⊢
   exact .inl this
  ·rw [if_neg hw] at this ⊢
   exact this
 have hk2 := hk
 rw [hr] at hk2
 simp only [qmcq, qnnq, or_false] at hk2
 rcases hk2 with rfl | rfl
 ·exact key _ _ hi hk h1
 ·exact key _ _ hj hk h2
end
theorem yields_pure {P : Program} {md : Region.Mode} {ops : Array Oper} {S : Array Bool → World → Prop} {i : Nat} {o : Oper} {v : Value} {a : Act} (hw : Region.wanted o (yielded ops a.tmps) = true) (hv : ∀ w, (execOp a.eval o).run P w = .ok (.value v) w) : YieldsL P md ops S i o v a := .inl ⟨hw, fun l w _ _ _ => hv w⟩
def ArmAtR (w : World) (b g n : Nat) (els : Bool) (r0 : Rd) (k : Nat) (wr : World) : Prop :=
 ∃ (acc : List (Int × Int)) (r' : Rd) (vf vt : Value), k ≤ n ∧ acc.length = k ∧ Rd.list Rd.pair n r0 = (acc ++ (Rd.list Rd.pair (n - k) r').1, (Rd.list Rd.pair (n - k) r').2) ∧ WlkR wr b r' ∧ Blk wr g 187 #[vf, vt, .bool els] ∧
  wr.ownsRow w.heap.size 2 1 vf k ((acc.map Prod.fst).map (Value.int .i64)) ∧ wr.ownsRow w.heap.size 2 1 vt k ((acc.map Prod.snd).map (Value.int .i64)) ∧ (∀ q, vf.ownBlock = some q → vt.ownBlock ≠ some q) ∧ Wr [b, g] w wr
theorem push0 {w : World} {base k : Nat} {v : Value} {xs : List Value} (h : w.ownsRow base 2 1 v k xs) {B : Nat} (hB : Blk w B 2 #[.int .i64 0]) (hbase : base ≤ w.heap.size) (hk : k ≤ 65535) :
  ∃ A c w', (Builtin.append_ #[185, 185] 185 #[v, .slice (some ⟨B, 0, none⟩) 1 1]).run Tryz.prog w = .ok (.slice A (k + 1) c) w' ∧ w'.ownsRow base 2 1 (.slice A (k + 1) c) (k + 1) (xs ++ [.int .i64 0]) ∧ Wr (ownL v) w w' ∧ ((Value.slice A (k + 1) c).ownBlock = v.ownBlock ∨ (Value.slice A (k + 1) c).ownBlock = some w.heap.size) := by
 obtain ⟨i0, hi0, hz0, hz1, hz2⟩ := info_parts info_i64
 obtain ⟨v', w', hrun, hown, hgrow, _, hbk⟩ := run_append_own_at (P := Tryz.prog) w base 185 185 2 i0 _ 1 8 Tryz.underlying185 hi0 hz0 hz1 hz2 rfl (by decide) v k _ h ⟨B, 0, none⟩ 1 1 [.int .i64 0] rfl (fun jj u hu => by
  rw [Addr.add_lit, Nat.zero_add, hB.cell, qgaq]
  exact hu) (fun u hu => by simp only [qmcq, qnnq, or_false] at hu; rw [hu]; rfl) (by unfold maxLen; omega) (by omega) hbase
 obtain ⟨A7, c7, hv7⟩ : ∃ A c, v' = .slice A (k + 1) c := by
  rcases hown.2 with ⟨_, h0⟩ | ⟨gg, cap, cur, e, _⟩
  ·omega
  ·exact ⟨_, _, e⟩
 subst hv7
 exact ⟨A7, c7, w', hrun, hown, Wr.ofGrownOwn hgrow, hbk⟩
structure MidR (wr W : World) (base k : Nat) (Af : Option Addr) (cf : Nat) (At : Option Addr) (ct : Nat) (xf xt : List Value) (Af' : Option Addr) (cf' : Nat) (At' : Option Addr) (ct' : Nat) : Prop where
 ownF : W.ownsRow base 2 1 (.slice Af' (k + 1) cf') (k + 1) (xf ++ [.int .i64 0])
 ownT : W.ownsRow base 2 1 (.slice At' (k + 1) ct') (k + 1) (xt ++ [.int .i64 0])
 apart : ∀ q, (Value.slice Af' (k + 1) cf').ownBlock = some q → (Value.slice At' (k + 1) ct').ownBlock ≠ some q
 wr : Wr (ownL (.slice Af k cf) ++ ownL (.slice At k ct)) wr W
theorem midR {wr X W7 Y W : World} {base k : Nat} {Af At Af' At' : Option Addr} {cf ct cf' ct' : Nat} {xf xt : List Value}
  (owf : wr.ownsRow base 2 1 (.slice Af k cf) k xf) (owt : wr.ownsRow base 2 1 (.slice At k ct) k xt) (hFT : ∀ q, q ∈ ownL (.slice Af k cf) → q ∉ ownL (.slice At k ct))
  (k1 : Wr [] wr X) (o7 : W7.ownsRow base 2 1 (.slice Af' (k + 1) cf') (k + 1) (xf ++ [.int .i64 0])) (r7 : Wr (ownL (.slice Af k cf)) X W7) (b7 : (Value.slice Af' (k + 1) cf').ownBlock = (Value.slice Af k cf).ownBlock ∨ (Value.slice Af' (k + 1) cf').ownBlock = some X.heap.size)
  (k2 : Wr [] W7 Y) (o13 : W.ownsRow base 2 1 (.slice At' (k + 1) ct') (k + 1) (xt ++ [.int .i64 0])) (r13 : Wr (ownL (.slice At k ct)) Y W) (b13 : (Value.slice At' (k + 1) ct').ownBlock = (Value.slice At k ct).ownBlock ∨ (Value.slice At' (k + 1) ct').ownBlock = some Y.heap.size) :
  MidR wr W base k Af cf At ct xf xt Af' cf' At' ct' := by
 have s1 := k1.size
 have s2 := r7.size
 have s3 := k2.size
 have hin : ∀ q, (Value.slice Af' (k + 1) cf').ownBlock = some q → q ∉ ownL (.slice At k ct) := by
  intro q hq hm
  have hl := (owt.lt q (mem_ownL.1 hm)).2
  rcases b7 with h | h
  ·exact hFT q (mem_ownL.2 (h ▸ hq)) hm
  ·rw [h] at hq
   injection hq with hq
   omega
 refine ⟨own_keep (own_keep o7 k2 (fun _ _ => by simp)) r13 hin, o13, fun q hq hq' => ?_, ?_⟩
 ·have h1 := hin q hq
  have h2 := (o7.lt q hq).2
  rcases b13 with h | h
  ·exact h1 (mem_ownL.2 (h ▸ hq'))
  ·rw [h] at hq'
   injection hq' with hq'
   omega
 ·exact ((k1.nil.trans (r7.more (fun x hx => List.mem_append_left _ hx))).trans0 k2).trans (r13.more (fun x hx => List.mem_append_right _ hx))
structure UpR (w W : World) (b g : Nat) (els : Bool) (r : Rd) (n g7 c7 g13 c13 : Nat) (xs ys : List Value) : Prop where
 walk : WlkR W b r
 blk : Blk W g 187 #[.slice (some ⟨g7, 0, none⟩) n c7, .slice (some ⟨g13, 0, none⟩) n c13, .bool els]
 f : W.ownsRow w.heap.size 2 1 (.slice (some ⟨g7, 0, none⟩) n c7) n xs
 t : W.ownsRow w.heap.size 2 1 (.slice (some ⟨g13, 0, none⟩) n c13) n ys
 ne : g7 ≠ g13
 wr : Wr [b, g] w W
section
variable {w W : World} {b g : Nat} {els : Bool} {r r' : Rd} {n g7 c7 g13 c13 : Nat} {xs ys : List Value} (h : UpR w W b g els r n g7 c7 g13 c13 xs ys) (hb : b < w.heap.size) (hg : g < w.heap.size) (hgb : g ≠ b)
include h
theorem UpR.drew : UpR w W.drew b g els r n g7 c7 g13 c13 xs ys := ⟨Blk.drew h.walk, h.blk.drew, h.f.drew, h.t.drew, h.ne, h.wr.drew⟩
include hb hg hgb
theorem UpR.setF {j : Nat} {v : Int} {e : Ending} {W' : World} (p : PutL b ⟨g7, j, none⟩ (.int .i64 v) r' W e W') : UpR w W' b g els r' n g7 c7 g13 c13 (xs.set j (.int .i64 v)) ys := by
 obtain ⟨rfl, w1, r1, b1, rfl⟩ := p
 have h7 := (h.f.lt g7 rfl).1
 have h13 := (h.t.lt g13 rfl).1
 have n7 : g7 ≠ b := by omega
 have n13 : g13 ≠ b := by omega
 have m7 : g7 ≠ g := by omega
 have m13 : g13 ≠ g := by omega
 have f1 := own_keep h.f r1 (fun q hq hm => by
  obtain rfl : g7 = q := by simpa [Value.ownBlock] using hq
  exact n7 (List.mem_singleton.1 hm))
 have t1 := own_keep h.t r1 (fun q hq hm => by
  obtain rfl : g13 = q := by simpa [Value.ownBlock] using hq
  exact n13 (List.mem_singleton.1 hm))
 have k1 : Wr [g7] w1 (w1.setCell ⟨g7, j, none⟩ (.int .i64 v)) := (Wr.refl _ _).setOn (by simp) _
 refine ⟨Blk.far b1 (Ne.symm n7) _, Blk.far (h.blk.wr r1 (by simpa using hgb)) (Ne.symm m7) _, (f1.stored j _).1, own_keep t1 k1 (fun q hq hm => ?_), h.ne, (h.wr.trans (r1.more (by simp))).setNew h7 _⟩
 obtain rfl : g13 = q := by simpa [Value.ownBlock] using hq
 exact h.ne (List.mem_singleton.1 hm).symm
theorem UpR.setT {j : Nat} {v : Int} {e : Ending} {W' : World} (p : PutL b ⟨g13, j, none⟩ (.int .i64 v) r' W e W') : UpR w W' b g els r' n g7 c7 g13 c13 xs (ys.set j (.int .i64 v)) := by
 obtain ⟨rfl, w1, r1, b1, rfl⟩ := p
 have h7 := (h.f.lt g7 rfl).1
 have h13 := (h.t.lt g13 rfl).1
 have n7 : g7 ≠ b := by omega
 have n13 : g13 ≠ b := by omega
 have m7 : g7 ≠ g := by omega
 have m13 : g13 ≠ g := by omega
 have f1 := own_keep h.f r1 (fun q hq hm => by
  obtain rfl : g7 = q := by simpa [Value.ownBlock] using hq
  exact n7 (List.mem_singleton.1 hm))
 have t1 := own_keep h.t r1 (fun q hq hm => by
  obtain rfl : g13 = q := by simpa [Value.ownBlock] using hq
  exact n13 (List.mem_singleton.1 hm))
 have k1 : Wr [g13] w1 (w1.setCell ⟨g13, j, none⟩ (.int .i64 v)) := (Wr.refl _ _).setOn (by simp) _
 refine ⟨Blk.far b1 (Ne.symm n13) _, Blk.far (h.blk.wr r1 (by simpa using hgb)) (Ne.symm m13) _, own_keep f1 k1 (fun q hq hm => ?_), (t1.stored j _).1, h.ne, (h.wr.trans (r1.more (by simp))).setNew h13 _⟩
 obtain rfl : g7 = q := by simpa [Value.ownBlock] using hq
 exact h.ne (List.mem_singleton.1 hm)
end
theorem mid_up {w wr W : World} {b g k : Nat} {els : Bool} {r : Rd} {Af At A7 A13 : Option Addr} {cf ct c7 c13 : Nat} {xf xt : List Value} {v1 v2 : Value} (hb : b < w.heap.size) (hg : g < w.heap.size) (hgb : g ≠ b)
  (mid : MidR wr W w.heap.size k Af cf At ct xf xt A7 c7 A13 c13) (bk : WlkR wr b r) (x : Blk W g 187 #[v1, v2, .bool els]) (rk : Wr [b, g] w wr)
  (hF : ∀ q, q ∈ ownL (.slice Af k cf) → w.heap.size ≤ q ∧ q < wr.heap.size) (hT : ∀ q, q ∈ ownL (.slice At k ct) → w.heap.size ≤ q ∧ q < wr.heap.size) :
  ∃ g7 g13, A7 = some ⟨g7, 0, none⟩ ∧ A13 = some ⟨g13, 0, none⟩ ∧ UpR w ((W.setCell ⟨g, 0, none⟩ (.slice A7 (k + 1) c7)).setCell ⟨g, 1, none⟩ (.slice A13 (k + 1) c13)) b g els r (k + 1) g7 c7 g13 c13 (xf ++ [.int .i64 0]) (xt ++ [.int .i64 0]) := by
 have form1 : ∀ {A : Option Addr} {c : Nat} {xs : List Value}, W.ownsRow w.heap.size 2 1 (.slice A (k + 1) c) (k + 1) xs → ∃ g, A = some ⟨g, 0, none⟩ := by
  intro A c xs h
  rcases h.2 with ⟨_, h0⟩ | ⟨gg, cap, cur, e, _⟩
  ·omega
  ·injection e with e _ _
   exact ⟨gg, e⟩
 obtain ⟨g7, rfl⟩ := form1 mid.ownF
 obtain ⟨g13, rfl⟩ := form1 mid.ownT
 have h7 := (mid.ownF.lt g7 rfl).1
 have h13 := (mid.ownT.lt g13 rfl).1
 have hlow : ∀ q, q ∈ ownL (.slice Af k cf) ++ ownL (.slice At k ct) → w.heap.size ≤ q := fun q hq => by
  rcases List.mem_append.1 hq with h | h
  ·exact (hF q h).1
  ·exact (hT q h).1
 have b1 := Blk.wr bk mid.wr (fun hm => by have := hlow _ hm; omega)
 have k1 : Wr [g] W ((W.setCell ⟨g, 0, none⟩ (.slice (some ⟨g7, 0, none⟩) (k + 1) c7)).setCell ⟨g, 1, none⟩ (.slice (some ⟨g13, 0, none⟩) (k + 1) c13)) := ((Wr.refl _ _).setOn (by simp) _).setOn (by simp) _
 refine ⟨g7, g13, rfl, rfl, Blk.wr b1 k1 (by simpa using Ne.symm hgb), ?_, own_keep mid.ownF k1 (fun q hq hm => ?_), own_keep mid.ownT k1 (fun q hq hm => ?_), fun e => mid.apart g7 rfl (by rw [e]; rfl), ((rk.trans' mid.wr (fun q hq => .inr (hlow q hq)))).trans (k1.more (by simp))⟩
 ·have := (x.set_ 0 (.slice (some ⟨g7, 0, none⟩) (k + 1) c7)).set_ 1 (.slice (some ⟨g13, 0, none⟩) (k + 1) c13)
  simpa using this
 ·obtain rfl : g7 = q := by simpa [Value.ownBlock] using hq
  have := List.mem_singleton.1 hm
  omega
 ·obtain rfl : g13 = q := by simpa [Value.ownBlock] using hq
  have := List.mem_singleton.1 hm
  omega
theorem arm_r (b g : Nat) (r : Rd) (w : World) (hb : WlkR w b r) (hg : g ≠ b) (hx : Blk w g 187 #[.slice none 0 0, .slice none 0 0, .bool false]) :
  Calls Tryz.prog 147 #[.pointer (some ⟨b, 0, none⟩), .pointer (some ⟨g, 0, none⟩)] w fun e w' => e = .returned (.tuple #[]) ∧ Wr [b, g] w w' ∧ WlkR w' b (Rd.arm r).2 ∧ ∃ Af cf At ct, Blk w' g 187 #[.slice Af (Rd.arm r).1.frm.length cf, .slice At (Rd.arm r).1.to.length ct, .bool (Rd.arm r).1.els] ∧
   SlInts w' (fun bl => w.heap.size ≤ bl) (.slice Af (Rd.arm r).1.frm.length cf) (Rd.arm r).1.frm ∧ SlInts w' (fun bl => w.heap.size ≤ bl) (.slice At (Rd.arm r).1.to.length ct) (Rd.arm r).1.to := by
 have hbl := hb.lt
 have hgl := hx.lt
 obtain ⟨i0, hi0, hz0, hz1, hz2⟩ := info_parts info_i64
 have h := fun m => count_r b r w hb m
 have hlt := num_lt (k := 2) (by omega) r
 unfold Rd.arm
 generalize r.num 2 = rr at *
 obtain ⟨n, r1⟩ := rr
 simp only at hlt h ⊢
 obtain ⟨LL, hLL⟩ : ∃ LL, Rd.list Rd.pair n r1 = LL := ⟨_, rfl⟩
 rw [hLL]
 obtain ⟨L1, L2⟩ := LL
 simp only
 have lc := hx.cell 0
 simp only [qgaq, qgzq, qgsq] at lc
 have H := qh h
 have HX := qh hx
 have HLL := qh hLL
 clear hLL hb h hx
 go_in
 go_wp2_with fail
 refine (H.out _).mono ?_
 rintro e w1 ⟨rfl, rw1, b1⟩
 clear lc
 have hx1 := HX.out.wr rw1 (by simpa using hg)
 obtain ⟨l0, l1⟩ := c2q hx1
 obtain ⟨q0, q1⟩ := z2q hx1
 have d1 := b1.cell 1
 simp only [qgaq, qgzq, qgsq] at d1
 obtain ⟨w2, hw2⟩ : ∃ q, (w1.setCell ⟨g, 0, none⟩ (.slice none 0 0)).setCell ⟨g, 1, none⟩ (.slice none 0 0) = q := ⟨_, rfl⟩
 have r2 : Wr [b, g] w w2 := by rw [← hw2]; exact ((rw1.more (by simp)).setOn (by simp) _).setOn (by simp) _
 have b2 : WlkR w2 b r1 := by rw [← hw2]; exact Blk.far (Blk.far b1 (fun e => hg e.symm) _) (fun e => hg e.symm) _
 have x2 : Blk w2 g 187 #[.slice none 0 0, .slice none 0 0, .bool false] := by
  rw [← hw2]
  have := (hx1.set_ 0 (.slice none 0 0)).set_ 1 (.slice none 0 0)
  simp only [qsaq, qszq, qssq] at this
  exact this
 have hat : ArmAtR w b g n false r1 0 w2 := ⟨[], r1, .slice none 0 0, .slice none 0 0, by omega, rfl, by simp, b2, x2, by simpa using World.ownsRow_nil _ _ _ _, by simpa using World.ownsRow_nil _ _ _ _, fun q hq => (by simp [Value.ownBlock] at hq), r2⟩
 have HAT := qh hat
 have HW2 := qh hw2
 clear b1 hx1 r2 b2 x2 hat hw2 rw1
 go_upto_region 3 with (fail)
 rw [HW2.out]
 clear l0 l1 q0 q1 d1
 go_wp2_with fail
 go_loopw [5] (fun s5 wr => ∃ k : Nat, s5 = .int .i64 k ∧ ArmAtR w b g n false r1 k wr) (fun s5 _ => n - (intOf s5).toNat)
 case atStart => exact ⟨0, rfl, HAT.out⟩
 case round =>
  obtain ⟨k, rfl, acc, r', vf, vt, hkn, hlen, hlist, bk, xk, owf, owt, hne, rk⟩ := hrel
  obtain ⟨l, bad⟩ := r'
  have d2 := bk.cell 2
  have d1 := bk.cell 1
  obtain ⟨l0, l1⟩ := c2q xk
  simp only [qgaq, qgzq, qgsq] at d1 d2
  by_cases hgo : k < n ∧ bad = false
  ·obtain ⟨hkn', rfl⟩ := hgo
   have hk1 : (k : Int) < (n : Int) := by omega
   obtain ⟨Af, cf, hvf, _, _⟩ := own_form owf
   subst hvf
   obtain ⟨At, ct, hvt, _, _⟩ := own_form owt
   subst hvt
   have hF : ∀ q, q ∈ ownL (.slice Af k cf) → w.heap.size ≤ q ∧ q < wr.heap.size := fun q hq => owf.lt q (mem_ownL.1 hq)
   have hT : ∀ q, q ∈ ownL (.slice At k ct) → w.heap.size ≤ q ∧ q < wr.heap.size := fun q hq => owt.lt q (mem_ownL.1 hq)
   have hFT : ∀ q, q ∈ ownL (.slice Af k cf) → q ∉ ownL (.slice At k ct) := fun q hq hq' => hne q (mem_ownL.1 hq) (mem_ownL.1 hq')
   have hgn : g ∉ ownL (.slice Af k cf) ++ ownL (.slice At k ct) := fun hm => by
    rcases List.mem_append.1 hm with h | h
    ·have := (hF _ h).1; omega
    ·have := (hT _ h).1; omega
   have hwr : w.heap.size ≤ wr.heap.size := rk.size
   have hk65 : k ≤ 65535 := by omega
   have OWF := qh owf
   have OWT := qh owt
   have HF := qh hF
   have HT := qh hT
   have HFT := qh hFT
   have HGN := qh hgn
   have BK := qh bk
   have XK := qh xk
   have RK := qh rk
   have HLIST := qh hlist
   clear owf owt hF hT hFT hgn bk xk rk hlist hne
   go_upto_region 7 with (fail)
   refine begin1 16 (ownL (.slice Af k cf) ++ ownL (.slice At k ct)) (fun w' => w'.cell? ⟨g, 0, none⟩ = some (.slice Af k cf) ∧ w'.cell? ⟨g, 1, none⟩ = some (.slice At k ct)) (by kernel_rfl) (fun W hW => ⟨hW.cellOf l0 HGN.out, hW.cellOf l1 HGN.out⟩) fun HC hcl hS => ?_
   refine mvu 0 (by rfl) (by kernel_rfl) (by rfl) (fun w' hS => by (try go_split_ands); go_simp; try rfl) hcl hS fun hcl1 hS1 => ?_
   clear hcl hS
   try simp only [Act.put, qsaq, qszq, qssq]
   refine wpAnyL_take (i := 1) (oi := ?oi2) (v := ?v2) ?hi2 (by kernel_rfl) (by kernel_rfl) (by kernel_rfl) (fun _ _ _ h => h) (until_take 16 _ (by decide)) ?hy2 hcl1 hS1 ?rest2
   case hi2 =>
    simp only [qgaq, qgsq, qgzq]
    rfl
   case hy2 =>
    refine yields_pure (by rfl) (fun w' => ?_)
    try go_split_ands
    go_simp
    try rfl
   case rest2 =>
   intro hcl2 hS2
   clear hcl1 hS1
   try simp only [Act.put, qsaq, qszq, qssq]
   refine mvu 2 (by rfl) (by kernel_rfl) (by rfl) (fun w' hS => by (try go_split_ands); go_simp; try rfl) hcl2 hS2 fun hcl3 hS3 => ?_
   clear hcl2 hS2
   try simp only [Act.put, qsaq, qszq, qssq]
   refine mvu 3 (by rfl) (by kernel_rfl) (by rfl) (fun w' hS => by (try go_split_ands); go_simp; try rfl) hcl3 hS3 fun hcl4 hS4 => ?_
   clear hcl3 hS3
   try simp only [Act.put, qsaq, qszq, qssq]
   refine mvu 4 (by rfl) (by kernel_rfl) (by rfl) (fun w' hS => by (try go_split_ands); go_simp; try rfl) hcl4 hS4 fun hcl5 hS5 => ?_
   clear hcl4 hS4
   try simp only [Act.put, qsaq, qszq, qssq]
   refine mvu 5 (by rfl) (by kernel_rfl) (by rfl) (fun w' hS => by (try go_split_ands); go_simp; try rfl) hcl5 hS5 fun hcl6 hS6 => ?_
   clear hcl5 hS5
   try simp only [Act.put, qsaq, qszq, qssq]
   refine wpAnyL_take (i := 8) (oi := ?oi7) (v := ?v7) ?hi7 (by kernel_rfl) (by kernel_rfl) (by kernel_rfl) (fun _ _ _ h => h) (until_take 16 _ (by decide)) ?hy7 hcl6 hS6 ?rest7
   case hi7 =>
    simp only [qgaq, qgsq, qgzq]
    rfl
   case hy7 =>
    refine yields_pure (by rfl) (fun w' => ?_)
    try go_split_ands
    go_simp
    try rfl
   case rest7 =>
   intro hcl7 hS7
   clear hcl6 hS6
   try simp only [Act.put, qsaq, qszq, qssq]
   refine wpAnyL_take (i := 9) (oi := ?oi8) (v := ?v8) ?hi8 (by kernel_rfl) (by kernel_rfl) (by kernel_rfl) (fun _ _ _ h => h) (until_take 16 _ (by decide)) ?hy8 hcl7 hS7 ?rest8
   case hi8 =>
    simp only [qgaq, qgsq, qgzq]
    rfl
   case hy8 =>
    refine yields_pure (by rfl) (fun w' => ?_)
    try go_split_ands
    go_simp
    try rfl
   case rest8 =>
   intro hcl8 hS8
   clear hcl7 hS7
   try simp only [Act.put, qsaq, qszq, qssq]
   refine wpAnyL_take (i := 10) (oi := ?oi9) (v := ?v9) ?hi9 (by kernel_rfl) (by kernel_rfl) (by kernel_rfl) (fun _ _ _ h => h) (until_take 16 _ (by decide)) ?hy9 hcl8 hS8 ?rest9
   case hi9 =>
    simp only [qgaq, qgsq, qgzq]
    rfl
   case hy9 =>
    refine yields_pure (by rfl) (fun w' => ?_)
    try go_split_ands
    go_simp
    try rfl
   case rest9 =>
   intro hcl9 hS9
   clear hcl8 hS8
   try simp only [Act.put, qsaq, qszq, qssq]
   refine mvu 11 (by rfl) (by kernel_rfl) (by rfl) (fun w' hS => by (try go_split_ands); go_simp; try rfl) hcl9 hS9 fun hcl10 hS10 => ?_
   clear hcl9 hS9
   try simp only [Act.put, qsaq, qszq, qssq]
   refine wpAnyL_two (i := 6) (j := 12) (oi := ?oi11) (oj := ?oj11) ?hi11 ?hj11 (by kernel_rfl) hcl10 ?resta11 ?restb11
   case hi11 =>
    simp only [qgaq, qgsq, qgzq]
    rfl
   case hj11 =>
    simp only [qgaq, qgsq, qgzq]
    rfl
   case resta11 =>
    intro K hK
    go_simp
    obtain ⟨Wa, hWa⟩ : ∃ q, (wr.alloc (.cells #[.int .i64 0] 2)).drew = q := ⟨_, rfl⟩
    rw [hWa]
    have kWa : Wr [] wr Wa := by rw [← hWa]; exact ((Wr.refl [] wr).alloc _).drew
    have nWa : Blk Wa wr.heap.size 2 #[.int .i64 0] := by rw [← hWa]; exact (Blk.new _ _ _).drew
    clear hWa
    refine hK _ _ (fun _ => HC.out _ (kWa.nil)) (fun hcl11 => ?_)
    clear hK K hcl10 hS10
    try simp only [Act.put, qsaq, qszq, qssq]
    refine wpAnyL_two (i := 7) (j := 12) (oi := ?oi12) (oj := ?oj12) ?hi12 ?hj12 (by kernel_rfl) hcl11 ?resta12 ?restb12
    case hi12 =>
     simp only [qgaq, qgsq, qgzq]
     rfl
    case hj12 =>
     simp only [qgaq, qgsq, qgzq]
     rfl
    case resta12 =>
     intro K hK
     have KX : Wr [] wr Wa := kWa
     obtain ⟨A7, c7, W7, hrun7, own7, rw7, ob7⟩ := push0 (own_keep OWF.out KX (fun _ _ => by simp)) (nWa) (by have := KX.size; omega) hk65
     have acc7 : Wr (ownL (.slice Af k cf) ++ ownL (.slice At k ct)) wr W7 := KX.nil.trans (rw7.more (fun x hx => List.mem_append_left _ hx))
     refine step_append_run (by rfl) _ _ _ (by rfl) _ _ (by rfl) (by rfl) _ _ hrun7 ?_
     refine hK _ _ (fun _ => HC.out _ acc7) (fun hcl12 => ?_)
     clear hK K hcl11
     try simp only [Act.put, qsaq, qszq, qssq]
     refine st0 12 (by rfl) (by kernel_rfl) hcl12 fun K hK => ?_
     go_simp
     obtain ⟨We, hWe⟩ : ∃ q, W7.alloc (.cells #[.int .i64 0] 2) = q := ⟨_, rfl⟩
     rw [hWe]
     have kWe : Wr [] W7 We := by rw [← hWe]; exact (Wr.refl [] W7).alloc _
     have nWe : Blk We W7.heap.size 2 #[.int .i64 0] := by rw [← hWe]; exact Blk.new _ _ _
     clear hWe
     refine hK _ _ (fun _ => HC.out _ (acc7.trans0 kWe)) (fun hcl13 => ?_)
     clear hK K hcl12
     try simp only [Act.put, qsaq, qszq, qssq]
     refine st0 13 (by rfl) (by kernel_rfl) hcl13 fun K hK => ?_
     have KY : Wr [] W7 We := kWe
     have owT7 := own_keep (own_keep (own_keep OWT.out KX (fun _ _ => by simp)) rw7 (fun q hq hm => HFT.out q hm (mem_ownL.2 hq))) KY (fun _ _ => by simp)
     obtain ⟨A13, c13, W13, hrun13, own13, rw13, ob13⟩ := push0 owT7 (nWe) (by have h1 := KX.size; have h2 := rw7.size; have h3 := KY.size; omega) hk65
     have mid := midR OWF.out OWT.out HFT.out KX own7 rw7 ob7 KY own13 rw13 ob13
     refine step_append_run (by rfl) _ _ _ (by rfl) _ _ (by rfl) (by rfl) _ _ hrun13 ?_
     refine hK _ _ (fun _ => HC.out _ mid.wr) (fun hcl14 => ?_)
     clear hK K hcl13
     try simp only [Act.put, qsaq, qszq, qssq]
     refine st0 14 (by rfl) (by kernel_rfl) hcl14 fun K hK => ?_
     go_simp
     refine hK _ _ (fun _ => HC.out _ mid.wr) (fun hcl15 => ?_)
     clear hK K hcl14
     try simp only [Act.put, qsaq, qszq, qssq]
     refine st0 15 (by rfl) (by kernel_rfl) hcl15 fun K hK => ?_
     go_simp
     refine hK _ _ (fun _ => HC.out _ mid.wr) (fun hcl16 => ?_)
     clear hK K hcl15
     try simp only [Act.put, qsaq, qszq, qssq]
     refine st0 16 (by rfl) (by kernel_rfl) hcl16 fun K hK => ?_
     have x13 := XK.out.wr mid.wr HGN.out
     obtain ⟨g0, g1⟩ := c2q x13
     obtain ⟨f0, f1⟩ := z2q x13
     go_simp
     refine hK _ _ (fun hb => absurd hb (by decide)) (fun hcl17 => ?_)
     clear hK K hcl16
     try simp only [Act.put, qsaq, qszq, qssq]
     refine st0 17 (by rfl) (by kernel_rfl) hcl17 fun K hK => ?_
     go_simp
     refine hK _ _ (fun hb => absurd hb (by decide)) (fun hcl18 => ?_)
     clear hK K hcl17
     try simp only [Act.put, qsaq, qszq, qssq]
     refine st0 18 (by rfl) (by kernel_rfl) hcl18 fun K hK => ?_
     go_simp
     refine hK _ _ (fun hb => absurd hb (by decide)) (fun hcl19 => ?_)
     clear hK K hcl18
     try simp only [Act.put, qsaq, qszq, qssq]
     refine st0 19 (by rfl) (by kernel_rfl) hcl19 fun K hK => ?_
     go_simp
     refine hK _ _ (fun hb => absurd hb (by decide)) (fun hcl999 => ?_)
     clear hK K hcl19
     refine wpAnyL_done (by kernel_rfl) (NoPanic.normal ?_) _
     try simp only [Act.put, qsaq, qszq, qssq]
     obtain ⟨g7, g13, rfl, rfl, up⟩ := mid_up hbl hgl hg mid BK.out x13 RK.out HF.out HT.out
     generalize (W13.setCell ⟨g, 0, none⟩ (.slice (some ⟨g7, 0, none⟩) (k + 1) c7)).setCell ⟨g, 1, none⟩ (.slice (some ⟨g13, 0, none⟩) (k + 1) c13) = W8 at *
     clear g0 g1 f0 f1 x13 mid
     have h7 := (up.f.lt g7 rfl).1
     have h13 := (up.t.lt g13 rfl).1
     have n7 : g7 ≠ b := by omega
     have n13 : g13 ≠ b := by omega
     have hxl : ((acc.map Prod.fst).map (Value.int .i64)).length = k := by simp [hlen]
     have hyl : ((acc.map Prod.snd).map (Value.int .i64)).length = k := by simp [hlen]
     have p0 : W8.cell? ⟨g7, k, none⟩ = some (.int .i64 0) := by
      rw [up.f.cellAt k (by omega), qgrq (by rw [hxl]; exact Nat.le_refl _), hxl, Nat.sub_self]
      rfl
     have hc1 := number_r b g7 k _ W8 up.walk n7 0 p0 (up.f.frozenAt k)
     obtain ⟨F1, hF1⟩ : ∃ F, (Rd.mk l false).four = F := ⟨_, rfl⟩
     obtain ⟨v1, r9⟩ := F1
     obtain ⟨F2, hF2⟩ : ∃ F, r9.four = F := ⟨_, rfl⟩
     obtain ⟨u1, r10⟩ := F2
     rw [hF1] at hc1
     have hpair : Rd.pair ⟨l, false⟩ = ((v1, u1), r10) := by unfold Rd.pair; rw [hF1]; simp only; rw [hF2]
     have y0 := up.blk.cell 0
     simp only [qgaq, qgzq, qgsq] at y0
     have hki : (k : Int) < ((k + 1 : Nat) : Int) := by omega
     have hk0 : (0 : Int) ≤ (k : Int) := by omega
     have HC1 := qh hc1
     have UP := qh up
     have HP := qh hpair
     have HX := qh hxl
     have HY := qh hyl
     have HL := qh hlen
     have HF2 := qh hF2
     clear hc1 up hpair hxl hyl p0 hF1 hF2 h7 h13 hlen
     go_wp2_with fail
     refine HC1.out.mono ?_
     rintro e w9 h9
     have up9 := UP.out.setF hbl hgl hg h9
     obtain ⟨rfl, _⟩ := h9
     have p1 : w9.cell? ⟨g13, k, none⟩ = some (.int .i64 0) := by
      rw [up9.t.cellAt k (by omega), qgrq (by rw [HY.out]; exact Nat.le_refl _), HY.out, Nat.sub_self]
      rfl
     have hc2 := number_r b g13 k _ w9 up9.walk n13 0 p1 (up9.t.frozenAt k)
     have hF2 := HF2.out
     try simp only at hc2
     rw [hF2] at hc2
     clear y0 hF2
     have y1 := up9.blk.cell 1
     simp only [qgaq, qgzq, qgsq] at y1
     have HC2 := qh hc2
     have UP9 := qh up9
     clear hc2 up9 p1
     go_wp2_with fail
     refine HC2.out.mono ?_
     rintro e w10 h10
     have up10 := UP9.out.setT hbl hgl hg h10
     obtain ⟨rfl, _⟩ := h10
     have hat : ArmAtR w b g n false r1 (k + 1) w10 := by
      refine ⟨acc ++ [(v1, u1)], r10, .slice (some ⟨g7, 0, none⟩) (k + 1) c7, .slice (some ⟨g13, 0, none⟩) (k + 1) c13, by omega, by rw [qlaq, HL.out]; rfl, ?_, up10.walk, up10.blk, ?_, ?_, ?_, up10.wr⟩
      ·rw [HLIST.out, show n - k = (n - (k + 1)) + 1 by omega, list_good _ _ _ rfl, HP.out, qapq]
       rfl
      ·have h := up10.f
       rw [List.set_append_right _ _ (by rw [HX.out]; exact Nat.le_refl _), HX.out, Nat.sub_self] at h
       rw [List.map_append, List.map_append]
       exact h
      ·have h := up10.t
       rw [List.set_append_right _ _ (by rw [HY.out]; exact Nat.le_refl _), HY.out, Nat.sub_self] at h
       rw [List.map_append, List.map_append]
       exact h
      ·intro q hq hq'
       obtain rfl : g7 = q := by simpa [Value.ownBlock] using hq
       obtain rfl : g13 = g7 := by simpa [Value.ownBlock] using hq'
       exact up10.ne rfl
     have HAT2 := qh hat
     clear hat up10 y1
     go_wp2_with fail
     go_roundw
     case rel => exact ⟨k + 1, by first | rfl | (go_num), HAT2.out⟩
     case measure => first | (simp [intOf]; done) | (simp [intOf]; omega)
    case restb12 =>
     intro K hK
     go_simp
     obtain ⟨Wc, hWc⟩ : ∃ q, Wa.alloc (.cells #[.int .i64 0] 2) = q := ⟨_, rfl⟩
     rw [hWc]
     have kWc : Wr [] Wa Wc := by rw [← hWc]; exact (Wr.refl [] Wa).alloc _
     have nWc : Blk Wc Wa.heap.size 2 #[.int .i64 0] := by rw [← hWc]; exact Blk.new _ _ _
     clear hWc
     refine hK _ _ (fun _ => HC.out _ ((kWa.trans kWc).nil)) (fun hcl12 => ?_)
     clear hK K hcl11
     try simp only [Act.put, qsaq, qszq, qssq]
     refine st0 7 (by rfl) (by kernel_rfl) hcl12 fun K hK => ?_
     have KX : Wr [] wr Wc := kWa.trans kWc
     obtain ⟨A7, c7, W7, hrun7, own7, rw7, ob7⟩ := push0 (own_keep OWF.out KX (fun _ _ => by simp)) (nWa.wr0 kWc) (by have := KX.size; omega) hk65
     have acc7 : Wr (ownL (.slice Af k cf) ++ ownL (.slice At k ct)) wr W7 := KX.nil.trans (rw7.more (fun x hx => List.mem_append_left _ hx))
     refine step_append_run (by rfl) _ _ _ (by rfl) _ _ (by rfl) (by rfl) _ _ hrun7 ?_
     refine hK _ _ (fun _ => HC.out _ acc7) (fun hcl213 => ?_)
     clear hK K hcl12
     try simp only [Act.put, qsaq, qszq, qssq]
     refine st0 13 (by rfl) (by kernel_rfl) hcl213 fun K hK => ?_
     have KY : Wr [] W7 W7 := Wr.refl _ _
     have owT7 := own_keep (own_keep (own_keep OWT.out KX (fun _ _ => by simp)) rw7 (fun q hq hm => HFT.out q hm (mem_ownL.2 hq))) KY (fun _ _ => by simp)
     obtain ⟨A13, c13, W13, hrun13, own13, rw13, ob13⟩ := push0 owT7 (nWc.wr rw7 (fun hm => by have h1 := (HF.out _ hm).2; have h2 := kWa.size; omega)) (by have h1 := KX.size; have h2 := rw7.size; have h3 := KY.size; omega) hk65
     have mid := midR OWF.out OWT.out HFT.out KX own7 rw7 ob7 KY own13 rw13 ob13
     refine step_append_run (by rfl) _ _ _ (by rfl) _ _ (by rfl) (by rfl) _ _ hrun13 ?_
     refine hK _ _ (fun _ => HC.out _ mid.wr) (fun hcl214 => ?_)
     clear hK K hcl213
     try simp only [Act.put, qsaq, qszq, qssq]
     refine st0 14 (by rfl) (by kernel_rfl) hcl214 fun K hK => ?_
     go_simp
     refine hK _ _ (fun _ => HC.out _ mid.wr) (fun hcl215 => ?_)
     clear hK K hcl214
     try simp only [Act.put, qsaq, qszq, qssq]
     refine st0 15 (by rfl) (by kernel_rfl) hcl215 fun K hK => ?_
     go_simp
     refine hK _ _ (fun _ => HC.out _ mid.wr) (fun hcl216 => ?_)
     clear hK K hcl215
     try simp only [Act.put, qsaq, qszq, qssq]
     refine st0 16 (by rfl) (by kernel_rfl) hcl216 fun K hK => ?_
     have x13 := XK.out.wr mid.wr HGN.out
     obtain ⟨g0, g1⟩ := c2q x13
     obtain ⟨f0, f1⟩ := z2q x13
     go_simp
     refine hK _ _ (fun hb => absurd hb (by decide)) (fun hcl217 => ?_)
     clear hK K hcl216
     try simp only [Act.put, qsaq, qszq, qssq]
     refine st0 17 (by rfl) (by kernel_rfl) hcl217 fun K hK => ?_
     go_simp
     refine hK _ _ (fun hb => absurd hb (by decide)) (fun hcl218 => ?_)
     clear hK K hcl217
     try simp only [Act.put, qsaq, qszq, qssq]
     refine st0 18 (by rfl) (by kernel_rfl) hcl218 fun K hK => ?_
     go_simp
     refine hK _ _ (fun hb => absurd hb (by decide)) (fun hcl219 => ?_)
     clear hK K hcl218
     try simp only [Act.put, qsaq, qszq, qssq]
     refine st0 19 (by rfl) (by kernel_rfl) hcl219 fun K hK => ?_
     go_simp
     refine hK _ _ (fun hb => absurd hb (by decide)) (fun hcl999 => ?_)
     clear hK K hcl219
     refine wpAnyL_done (by kernel_rfl) (NoPanic.normal ?_) _
     try simp only [Act.put, qsaq, qszq, qssq]
     obtain ⟨g7, g13, rfl, rfl, up⟩ := mid_up hbl hgl hg mid BK.out x13 RK.out HF.out HT.out
     generalize (W13.setCell ⟨g, 0, none⟩ (.slice (some ⟨g7, 0, none⟩) (k + 1) c7)).setCell ⟨g, 1, none⟩ (.slice (some ⟨g13, 0, none⟩) (k + 1) c13) = W8 at *
     clear g0 g1 f0 f1 x13 mid
     have h7 := (up.f.lt g7 rfl).1
     have h13 := (up.t.lt g13 rfl).1
     have n7 : g7 ≠ b := by omega
     have n13 : g13 ≠ b := by omega
     have hxl : ((acc.map Prod.fst).map (Value.int .i64)).length = k := by simp [hlen]
     have hyl : ((acc.map Prod.snd).map (Value.int .i64)).length = k := by simp [hlen]
     have p0 : W8.cell? ⟨g7, k, none⟩ = some (.int .i64 0) := by
      rw [up.f.cellAt k (by omega), qgrq (by rw [hxl]; exact Nat.le_refl _), hxl, Nat.sub_self]
      rfl
     have hc1 := number_r b g7 k _ W8 up.walk n7 0 p0 (up.f.frozenAt k)
     obtain ⟨F1, hF1⟩ : ∃ F, (Rd.mk l false).four = F := ⟨_, rfl⟩
     obtain ⟨v1, r9⟩ := F1
     obtain ⟨F2, hF2⟩ : ∃ F, r9.four = F := ⟨_, rfl⟩
     obtain ⟨u1, r10⟩ := F2
     rw [hF1] at hc1
     have hpair : Rd.pair ⟨l, false⟩ = ((v1, u1), r10) := by unfold Rd.pair; rw [hF1]; simp only; rw [hF2]
     have y0 := up.blk.cell 0
     simp only [qgaq, qgzq, qgsq] at y0
     have hki : (k : Int) < ((k + 1 : Nat) : Int) := by omega
     have hk0 : (0 : Int) ≤ (k : Int) := by omega
     have HC1 := qh hc1
     have UP := qh up
     have HP := qh hpair
     have HX := qh hxl
     have HY := qh hyl
     have HL := qh hlen
     have HF2 := qh hF2
     clear hc1 up hpair hxl hyl p0 hF1 hF2 h7 h13 hlen
     go_wp2_with fail
     refine HC1.out.mono ?_
     rintro e w9 h9
     have up9 := UP.out.setF hbl hgl hg h9
     obtain ⟨rfl, _⟩ := h9
     have p1 : w9.cell? ⟨g13, k, none⟩ = some (.int .i64 0) := by
      rw [up9.t.cellAt k (by omega), qgrq (by rw [HY.out]; exact Nat.le_refl _), HY.out, Nat.sub_self]
      rfl
     have hc2 := number_r b g13 k _ w9 up9.walk n13 0 p1 (up9.t.frozenAt k)
     have hF2 := HF2.out
     try simp only at hc2
     rw [hF2] at hc2
     clear y0 hF2
     have y1 := up9.blk.cell 1
     simp only [qgaq, qgzq, qgsq] at y1
     have HC2 := qh hc2
     have UP9 := qh up9
     clear hc2 up9 p1
     go_wp2_with fail
     refine HC2.out.mono ?_
     rintro e w10 h10
     have up10 := UP9.out.setT hbl hgl hg h10
     obtain ⟨rfl, _⟩ := h10
     have hat : ArmAtR w b g n false r1 (k + 1) w10 := by
      refine ⟨acc ++ [(v1, u1)], r10, .slice (some ⟨g7, 0, none⟩) (k + 1) c7, .slice (some ⟨g13, 0, none⟩) (k + 1) c13, by omega, by rw [qlaq, HL.out]; rfl, ?_, up10.walk, up10.blk, ?_, ?_, ?_, up10.wr⟩
      ·rw [HLIST.out, show n - k = (n - (k + 1)) + 1 by omega, list_good _ _ _ rfl, HP.out, qapq]
       rfl
      ·have h := up10.f
       rw [List.set_append_right _ _ (by rw [HX.out]; exact Nat.le_refl _), HX.out, Nat.sub_self] at h
       rw [List.map_append, List.map_append]
       exact h
      ·have h := up10.t
       rw [List.set_append_right _ _ (by rw [HY.out]; exact Nat.le_refl _), HY.out, Nat.sub_self] at h
       rw [List.map_append, List.map_append]
       exact h
      ·intro q hq hq'
       obtain rfl : g7 = q := by simpa [Value.ownBlock] using hq
       obtain rfl : g13 = g7 := by simpa [Value.ownBlock] using hq'
       exact up10.ne rfl
     have HAT2 := qh hat
     clear hat up10 y1
     go_wp2_with fail
     go_roundw
     case rel => exact ⟨k + 1, by first | rfl | (go_num), HAT2.out⟩
     case measure => first | (simp [intOf]; done) | (simp [intOf]; omega)
   case restb11 =>
    intro K hK
    go_simp
    obtain ⟨Wb, hWb⟩ : ∃ q, (wr.alloc (.cells #[.int .i64 0] 2)).drew = q := ⟨_, rfl⟩
    rw [hWb]
    have kWb : Wr [] wr Wb := by rw [← hWb]; exact ((Wr.refl [] wr).alloc _).drew
    have nWb : Blk Wb wr.heap.size 2 #[.int .i64 0] := by rw [← hWb]; exact (Blk.new _ _ _).drew
    clear hWb
    refine hK _ _ (fun _ => HC.out _ (kWb.nil)) (fun hcl11 => ?_)
    clear hK K hcl10 hS10
    try simp only [Act.put, qsaq, qszq, qssq]
    refine st0 6 (by rfl) (by kernel_rfl) hcl11 fun K hK => ?_
    go_simp
    obtain ⟨Wd, hWd⟩ : ∃ q, Wb.alloc (.cells #[.int .i64 0] 2) = q := ⟨_, rfl⟩
    rw [hWd]
    have kWd : Wr [] Wb Wd := by rw [← hWd]; exact (Wr.refl [] Wb).alloc _
    have nWd : Blk Wd Wb.heap.size 2 #[.int .i64 0] := by rw [← hWd]; exact Blk.new _ _ _
    clear hWd
    refine hK _ _ (fun _ => HC.out _ ((kWb.trans kWd).nil)) (fun hcl112 => ?_)
    clear hK K hcl11
    try simp only [Act.put, qsaq, qszq, qssq]
    refine st0 7 (by rfl) (by kernel_rfl) hcl112 fun K hK => ?_
    have KX : Wr [] wr Wd := kWb.trans kWd
    obtain ⟨A7, c7, W7, hrun7, own7, rw7, ob7⟩ := push0 (own_keep OWF.out KX (fun _ _ => by simp)) (nWd) (by have := KX.size; omega) hk65
    have acc7 : Wr (ownL (.slice Af k cf) ++ ownL (.slice At k ct)) wr W7 := KX.nil.trans (rw7.more (fun x hx => List.mem_append_left _ hx))
    refine step_append_run (by rfl) _ _ _ (by rfl) _ _ (by rfl) (by rfl) _ _ hrun7 ?_
    refine hK _ _ (fun _ => HC.out _ acc7) (fun hcl113 => ?_)
    clear hK K hcl112
    try simp only [Act.put, qsaq, qszq, qssq]
    refine st0 13 (by rfl) (by kernel_rfl) hcl113 fun K hK => ?_
    have KY : Wr [] W7 W7 := Wr.refl _ _
    have owT7 := own_keep (own_keep (own_keep OWT.out KX (fun _ _ => by simp)) rw7 (fun q hq hm => HFT.out q hm (mem_ownL.2 hq))) KY (fun _ _ => by simp)
    obtain ⟨A13, c13, W13, hrun13, own13, rw13, ob13⟩ := push0 owT7 ((nWb.wr0 kWd).wr rw7 (fun hm => by have h1 := (HF.out _ hm).2; omega)) (by have h1 := KX.size; have h2 := rw7.size; have h3 := KY.size; omega) hk65
    have mid := midR OWF.out OWT.out HFT.out KX own7 rw7 ob7 KY own13 rw13 ob13
    refine step_append_run (by rfl) _ _ _ (by rfl) _ _ (by rfl) (by rfl) _ _ hrun13 ?_
    refine hK _ _ (fun _ => HC.out _ mid.wr) (fun hcl114 => ?_)
    clear hK K hcl113
    try simp only [Act.put, qsaq, qszq, qssq]
    refine st0 14 (by rfl) (by kernel_rfl) hcl114 fun K hK => ?_
    go_simp
    refine hK _ _ (fun _ => HC.out _ mid.wr) (fun hcl115 => ?_)
    clear hK K hcl114
    try simp only [Act.put, qsaq, qszq, qssq]
    refine st0 15 (by rfl) (by kernel_rfl) hcl115 fun K hK => ?_
    go_simp
    refine hK _ _ (fun _ => HC.out _ mid.wr) (fun hcl116 => ?_)
    clear hK K hcl115
    try simp only [Act.put, qsaq, qszq, qssq]
    refine st0 16 (by rfl) (by kernel_rfl) hcl116 fun K hK => ?_
    have x13 := XK.out.wr mid.wr HGN.out
    obtain ⟨g0, g1⟩ := c2q x13
    obtain ⟨f0, f1⟩ := z2q x13
    go_simp
    refine hK _ _ (fun hb => absurd hb (by decide)) (fun hcl117 => ?_)
    clear hK K hcl116
    try simp only [Act.put, qsaq, qszq, qssq]
    refine st0 17 (by rfl) (by kernel_rfl) hcl117 fun K hK => ?_
    go_simp
    refine hK _ _ (fun hb => absurd hb (by decide)) (fun hcl118 => ?_)
    clear hK K hcl117
    try simp only [Act.put, qsaq, qszq, qssq]
    refine st0 18 (by rfl) (by kernel_rfl) hcl118 fun K hK => ?_
    go_simp
    refine hK _ _ (fun hb => absurd hb (by decide)) (fun hcl119 => ?_)
    clear hK K hcl118
    try simp only [Act.put, qsaq, qszq, qssq]
    refine st0 19 (by rfl) (by kernel_rfl) hcl119 fun K hK => ?_
    go_simp
    refine hK _ _ (fun hb => absurd hb (by decide)) (fun hcl999 => ?_)
    clear hK K hcl119
    refine wpAnyL_done (by kernel_rfl) (NoPanic.normal ?_) _
    try simp only [Act.put, qsaq, qszq, qssq]
    obtain ⟨g7, g13, rfl, rfl, up⟩ := mid_up hbl hgl hg mid BK.out x13 RK.out HF.out HT.out
    generalize (W13.setCell ⟨g, 0, none⟩ (.slice (some ⟨g7, 0, none⟩) (k + 1) c7)).setCell ⟨g, 1, none⟩ (.slice (some ⟨g13, 0, none⟩) (k + 1) c13) = W8 at *
    clear g0 g1 f0 f1 x13 mid
    have h7 := (up.f.lt g7 rfl).1
    have h13 := (up.t.lt g13 rfl).1
    have n7 : g7 ≠ b := by omega
    have n13 : g13 ≠ b := by omega
    have hxl : ((acc.map Prod.fst).map (Value.int .i64)).length = k := by simp [hlen]
    have hyl : ((acc.map Prod.snd).map (Value.int .i64)).length = k := by simp [hlen]
    have p0 : W8.cell? ⟨g7, k, none⟩ = some (.int .i64 0) := by
     rw [up.f.cellAt k (by omega), qgrq (by rw [hxl]; exact Nat.le_refl _), hxl, Nat.sub_self]
     rfl
    have hc1 := number_r b g7 k _ W8 up.walk n7 0 p0 (up.f.frozenAt k)
    obtain ⟨F1, hF1⟩ : ∃ F, (Rd.mk l false).four = F := ⟨_, rfl⟩
    obtain ⟨v1, r9⟩ := F1
    obtain ⟨F2, hF2⟩ : ∃ F, r9.four = F := ⟨_, rfl⟩
    obtain ⟨u1, r10⟩ := F2
    rw [hF1] at hc1
    have hpair : Rd.pair ⟨l, false⟩ = ((v1, u1), r10) := by unfold Rd.pair; rw [hF1]; simp only; rw [hF2]
    have y0 := up.blk.cell 0
    simp only [qgaq, qgzq, qgsq] at y0
    have hki : (k : Int) < ((k + 1 : Nat) : Int) := by omega
    have hk0 : (0 : Int) ≤ (k : Int) := by omega
    have HC1 := qh hc1
    have UP := qh up
    have HP := qh hpair
    have HX := qh hxl
    have HY := qh hyl
    have HL := qh hlen
    have HF2 := qh hF2
    clear hc1 up hpair hxl hyl p0 hF1 hF2 h7 h13 hlen
    go_wp2_with fail
    refine HC1.out.mono ?_
    rintro e w9 h9
    have up9 := UP.out.setF hbl hgl hg h9
    obtain ⟨rfl, _⟩ := h9
    have p1 : w9.cell? ⟨g13, k, none⟩ = some (.int .i64 0) := by
     rw [up9.t.cellAt k (by omega), qgrq (by rw [HY.out]; exact Nat.le_refl _), HY.out, Nat.sub_self]
     rfl
    have hc2 := number_r b g13 k _ w9 up9.walk n13 0 p1 (up9.t.frozenAt k)
    have hF2 := HF2.out
    try simp only at hc2
    rw [hF2] at hc2
    clear y0 hF2
    have y1 := up9.blk.cell 1
    simp only [qgaq, qgzq, qgsq] at y1
    have HC2 := qh hc2
    have UP9 := qh up9
    clear hc2 up9 p1
    go_wp2_with fail
    refine HC2.out.mono ?_
    rintro e w10 h10
    have up10 := UP9.out.setT hbl hgl hg h10
    obtain ⟨rfl, _⟩ := h10
    have hat : ArmAtR w b g n false r1 (k + 1) w10 := by
     refine ⟨acc ++ [(v1, u1)], r10, .slice (some ⟨g7, 0, none⟩) (k + 1) c7, .slice (some ⟨g13, 0, none⟩) (k + 1) c13, by omega, by rw [qlaq, HL.out]; rfl, ?_, up10.walk, up10.blk, ?_, ?_, ?_, up10.wr⟩
     ·rw [HLIST.out, show n - k = (n - (k + 1)) + 1 by omega, list_good _ _ _ rfl, HP.out, qapq]
      rfl
     ·have h := up10.f
      rw [List.set_append_right _ _ (by rw [HX.out]; exact Nat.le_refl _), HX.out, Nat.sub_self] at h
      rw [List.map_append, List.map_append]
      exact h
     ·have h := up10.t
      rw [List.set_append_right _ _ (by rw [HY.out]; exact Nat.le_refl _), HY.out, Nat.sub_self] at h
      rw [List.map_append, List.map_append]
      exact h
     ·intro q hq hq'
      obtain rfl : g7 = q := by simpa [Value.ownBlock] using hq
      obtain rfl : g13 = g7 := by simpa [Value.ownBlock] using hq'
      exact up10.ne rfl
    have HAT2 := qh hat
    clear hat up10 y1
    go_wp2_with fail
    go_roundw
    case rel => exact ⟨k + 1, by first | rfl | (go_num), HAT2.out⟩
    case measure => first | (simp [intOf]; done) | (simp [intOf]; omega)
  ·have hend : Rd.list Rd.pair (n - k) ⟨l, bad⟩ = ([], ⟨l, bad⟩) := by
    by_cases hb : bad = true
    ·exact list_bad _ _ _ hb
    ·have : bad = false := by cases bad <;> simp_all
     have h0 : ¬ k < n := fun h => hgo ⟨h, this⟩
     rw [show n - k = 0 by omega]
     rfl
   rw [hend] at hlist
   simp only [List.append_nil] at hlist
   have hLL := HLL.out
   rw [hlist] at hLL
   injection hLL with hL1 hL2
   subst hL1 hL2
   obtain ⟨Af, cf, hvf, _, _⟩ := own_form owf
   subst hvf
   obtain ⟨At, ct, hvt, _, _⟩ := own_form owt
   subst hvt
   have l2 := xk.cell 2
   have z2 := xk.frozen 2
   simp only [qgaq, qgzq, qgsq] at l2
   have ht := (truth_r b g 2 ⟨l, bad⟩ wr bk hg false l2 z2).mono fun e w' h => PutL.toB hg h
   have s1 : SlInts wr (fun bl => w.heap.size ≤ bl) (.slice Af acc.length cf) (acc.map Prod.fst) := by
    unfold SlInts
    rw [qlmq, hlen]
    exact Sl.ofOwn owf (fun b hb => (owf.lt b hb).1)
   have s2 : SlInts wr (fun bl => w.heap.size ≤ bl) (.slice At acc.length ct) (acc.map Prod.snd) := by
    unfold SlInts
    rw [qlmq, hlen]
    exact Sl.ofOwn owt (fun b hb => (owt.lt b hb).1)
   have h0 : k = n ∨ (k < n ∧ bad = true) := by
    rcases Nat.lt_or_ge k n with h | h
    ·refine .inr ⟨h, ?_⟩
     cases bad with
     | true => rfl
     | false => exact absurd ⟨h, rfl⟩ hgo
    ·exact .inl (by omega)
   have HT := qh ht
   have XK := qh xk
   have RK := qh rk
   have S1 := qh s1
   have S2 := qh s2
   have HL := qh hlen
   clear ht xk rk s1 s2 hlist hend hgo bk owf owt hne l0 l1 l2 z2 hlen
   have hfin : ∀ w2, PutB b g 2 (.bool (Rd.mk l bad).truth.1) (Rd.mk l bad).truth.2 wr (.returned (.tuple #[])) w2 → (Ending.returned (.tuple #[]) = .returned (.tuple #[])) ∧ Wr [b, g] w w2 ∧ WlkR w2 b (Rd.mk l bad).truth.2 ∧ ∃ Af cf At ct, Blk w2 g 187 #[.slice Af (acc.map Prod.fst).length cf, .slice At (acc.map Prod.snd).length ct, .bool (Rd.mk l bad).truth.1] ∧
     SlInts w2 (fun bl => w.heap.size ≤ bl) (.slice Af (acc.map Prod.fst).length cf) (acc.map Prod.fst) ∧ SlInts w2 (fun bl => w.heap.size ≤ bl) (.slice At (acc.map Prod.snd).length ct) (acc.map Prod.snd) := by
    rintro w2 ⟨_, k2, b2, x2⟩
    have x3 := x2 _ _ XK.out
    simp only [qsaq, qszq, qssq] at x3
    have hP : ∀ bl, w.heap.size ≤ bl → bl ∉ [b, g] := fun bl hbl' hm => by
     simp only [qmcq, qnnq, or_false] at hm
     omega
    refine ⟨rfl, RK.out.trans k2, b2, Af, cf, At, ct, ?_, ?_, ?_⟩
    ·rw [qlmq, qlmq, HL.out]
     exact x3
    ·rw [qlmq]
     exact Sl.keep S1.out k2 hP
    ·rw [qlmq]
     exact Sl.keep S2.out k2 hP
   have HFIN := qh hfin
   clear hfin
   rcases h0 with rfl | ⟨hkn2, rfl⟩
   ·go_wp2_with fail
    refine HT.out.mono ?_
    rintro e w2 hp
    have hf := HFIN.out w2 (by obtain ⟨rfl, _⟩ := id hp; exact hp)
    obtain ⟨rfl, _⟩ := hp
    go_wp2_with fail
    refine bodyPost_end (results_none Tryz.results147 _ _ _) rfl ?_
    exact ⟨rfl, hf.2⟩
   ·have hki : (k : Int) < (n : Int) := by omega
    go_wp2_with fail
    refine HT.out.mono ?_
    rintro e w2 hp
    have hf := HFIN.out w2 (by obtain ⟨rfl, _⟩ := id hp; exact hp)
    obtain ⟨rfl, _⟩ := hp
    go_wp2_with fail
    refine bodyPost_end (results_none Tryz.results147 _ _ _) rfl ?_
    exact ⟨rfl, hf.2⟩
end Go.Proofs.YtildcdgobdfieaaGreat
