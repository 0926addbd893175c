/- Rows of numbers of one's own; ref 14's names, anew: walked. Conditions: the type's lists are short. -/
import Derived.Test.YtjanbpchedgoiaaGreatKT15
import Derived.Test.YtjanbpchedgoiaaGreatKT24
set_option linter.unusedVariables false
set_option linter.unusedSimpArgs false
set_option maxRecDepth 100000
set_option maxHeartbeats 32000000
namespace Go.Proofs.YtjanbpchedgoiaaGreat
open Go.RowKit
def IOwn (B : Nat) (v : Value) (l : List Int) (w : World) : Prop := w.ownsRow B 3 1 v l.length (l.map (Value.int .i64))
def AppI (v u : Value) (w : World) (v' : Value) (w' : World) : Prop := (Builtin.append_ #[80, 80] 80 #[v, u]).run Tryz.prog w = .ok v' w'
section
variable {B : Nat} {v u : Value} {l k : List Int} {w w' w0 wr w1 : World}
theorem IOwn.keep0 (h : IOwn B v l w) (r : Wr [] w w') : IOwn B v l w' := own_wr0 h r
theorem IOwn.sl (h : IOwn B v l w) : Sl w (fun b => b ∈ ownL v) 1 v l.length (l.map (Value.int .i64)) := Sl.ofOwn h (fun b hb => mem_ownL.2 hb)
theorem IOwn.form (h : IOwn B v l w) : ∃ A c, v = .slice A l.length c ∧ l.length ≤ c ∧ c ≤ maxLen := own_form h
theorem IOwn.lo (h : IOwn B v l w) : ∀ q ∈ ownL v, B ≤ q ∧ q < w.heap.size := fun q hq => h.lt q (mem_ownL.1 hq)
theorem IOwn.app (h : IOwn B v l w) {P : Nat → Prop} (hu : Sl w P 1 u k.length (k.map (Value.int .i64))) (hl : l.length + k.length ≤ 1000000000000) (hB : B ≤ w.heap.size) :
  ∃ v' w', AppI v u w v' w' ∧ IOwn B v' (l ++ k) w' ∧ Wr (ownL v) w w' ∧ ∀ z, z < w.heap.size → z ∉ ownL v → z ∉ ownL v' := by
 obtain ⟨i0, hi, hz0, hz1, hz2⟩ := info_parts info_int
 obtain ⟨v', w', hrun, hown, hgrow, hbk⟩ := run_append_sl (P := Tryz.prog) w B 80 80 3 i0 _ 1 8 Tryz.underlying80 hi hz0 hz1 hz2 rfl (by decide) v l.length _ h P u k.length _ hu (one_ints k) (by unfold maxLen; omega) (by omega) hB
 refine ⟨v', w', hrun, ?_, Wr.ofGrownOwn hgrow, fun z hz hn hm => ?_⟩
 ·unfold IOwn
  rw [qlaq, List.map_append]
  exact hown
 ·have hm' := mem_ownL.1 hm
  rcases hbk with h1 | h1
  ·exact hn (mem_ownL.2 (h1 ▸ hm'))
  ·rw [h1] at hm'
   injection hm' with hm'
   omega
theorem IOwn.blk {g : Nat} (hb : Blk w g 3 (l.map (Value.int .i64)).toArray) (hB : B ≤ g) (hl : l.length ≤ maxLen) : IOwn B (.slice (some ⟨g, 0, none⟩) l.length l.length) l w :=
 ⟨by simp, .inr ⟨g, l.length, (l.map (Value.int .i64)).toArray, rfl, hB, hb, Nat.le_refl _, hl, by simp, by rw [List.take_of_length_le (by simp)]⟩⟩
theorem IOwn.le {B' : Nat} (h : IOwn B v l w) (hb : B' ≤ B) : IOwn B' v l w :=
 ⟨h.1, h.2.imp id (fun ⟨g, cap, cur, h1, h2, h3⟩ => ⟨g, cap, cur, h1, Nat.le_trans hb h2, h3⟩)⟩
def ISt (w0 : World) (v : Value) (l : List Int) (wr : World) : Prop := IOwn w0.heap.size v l wr ∧ Wr [] w0 wr
theorem ISt.cell (h : ISt w0 v l wr) {p : Addr} {x : Value} (hc : w0.cell? p = some x) : wr.cell? p = some x := h.2.cellOf hc (by simp)
theorem ISt.keep (h : ISt w0 v l wr) (r : Wr [] wr w1) : ISt w0 v l w1 := ⟨h.1.keep0 r, h.2.trans r⟩
theorem ISt.app (h : ISt w0 v l wr) {P : Nat → Prop} (hu : Sl wr P 1 u k.length (k.map (Value.int .i64))) (hl : l.length + k.length ≤ 1000000000000) :
  ∃ v' w', AppI v u wr v' w' ∧ ISt w0 v' (l ++ k) w' := by
 obtain ⟨v', w', h1, h2, h3, _⟩ := h.1.app hu hl h.2.size
 exact ⟨v', w', h1, h2, h.2.trans' h3 (fun x hx => .inr (h.1.lo x hx).1)⟩
theorem row_new (wr : World) (k : List Int) (hk : k.length ≤ 1000) : Sl (wr.alloc (.cells (k.map (Value.int .i64)).toArray 3)) (fun b => b = wr.heap.size) 1 (.slice (some ⟨wr.heap.size, 0, none⟩) k.length k.length) k.length (k.map (Value.int .i64)) := by
 have := (IOwn.blk (B := 0) (l := k) (Blk.new wr 3 (k.map (Value.int .i64)).toArray) (Nat.zero_le _) (by unfold maxLen; omega)).sl
 refine Sl.mono this (fun b hb => ?_)
 have := mem_ownL.1 hb
 injection this with this
 exact this.symm
theorem ISt.one (h : ISt w0 v l wr) (x : Int) (hl : l.length + 1 ≤ 1000000000000) :
  ∃ v' w', AppI v (.slice (some ⟨wr.heap.size, 0, none⟩) 1 1) (wr.alloc (.cells #[.int .i64 x] 3)) v' w' ∧ ISt w0 v' (l ++ [x]) w' :=
 (h.keep ((Wr.refl [] wr).alloc (.cells #[.int .i64 x] 3))).app (k := [x]) (row_new wr [x] (by simp)) hl
theorem ISt.two (w : World) (a b : Int) : ISt w (.slice (some ⟨w.heap.size, 0, none⟩) 2 2) [a, b] (w.alloc (.cells #[.int .i64 a, .int .i64 b] 3)) :=
 ⟨IOwn.blk (l := [a, b]) (Blk.new w 3 #[.int .i64 a, .int .i64 b]) (Nat.le_refl _) (by unfold maxLen; simp), (Wr.refl _ _).alloc _⟩
theorem ISt.done (h : ISt w0 v l wr) {w : World} (a : Wr [] w w0) : IOwn w.heap.size v l wr ∧ Wr [] w wr := ⟨h.1.le a.size, a.trans h.2⟩
end
theorem kids_eq (t : Ty) : kids t = [t.base, t.index] ++ t.fields.map Fld.type ++ t.params.map Par.type ++ [t.result] := by
 unfold kids
 simp
theorem map_snoc {α : Type} (f : α → Int) {l : List α} {k : Nat} {x : α} (h : l[k]? = some x) : (l.take (k + 1)).map f = (l.take k).map f ++ [f x] := by
 rw [List.take_add_one, h, List.map_append]
 rfl
theorem names_b (t : Ty) (vn vf va vp : Value) (P : Nat → Prop) (w : World) (h : Lists w P vn vf va vp t) (nf : t.fields.length ≤ 65535) (np : t.params.length ≤ 65535) :
  Calls Tryz.prog 69 #[.agg #[.int .u8 t.kind, .string t.module, .string t.name, .int .i64 t.base, .int .i64 t.index, .int .i64 t.low, .int .i64 t.high, vn, vf, va, vp, .int .i64 t.result]] w fun e w' => ∃ v, e = .returned v ∧ IOwn w.heap.size v (kids t) w' ∧ Wr [] w w' := by
 obtain ⟨⟨A1, k1, rfl, hn1, hn2⟩, ⟨A2, k2, rfl, hf1, hf2⟩, ⟨A3, k3, rfl, ha1, ha2⟩, ⟨A4, k4, rfl, hp1, hp2⟩⟩ := h.forms
 obtain ⟨w0, hw0⟩ : ∃ q, w.alloc (.cells #[.int .u8 t.kind, .string t.module, .string t.name, .int .i64 t.base, .int .i64 t.index, .int .i64 t.low, .int .i64 t.high, .slice A1 t.names.length k1, .slice A2 t.fields.length k2, .slice A3 t.arms.length k3, .slice A4 t.params.length k4, .int .i64 t.result] 52) = q := ⟨_, rfl⟩
 obtain ⟨g, hg⟩ : ∃ g, w.heap.size = g := ⟨_, rfl⟩
 have acc : Wr [] w w0 := by rw [← hw0]; exact (Wr.refl [] _).alloc _
 have bA : Blk w0 g 52 #[.int .u8 t.kind, .string t.module, .string t.name, .int .i64 t.base, .int .i64 t.index, .int .i64 t.low, .int .i64 t.high, .slice A1 t.names.length k1, .slice A2 t.fields.length k2, .slice A3 t.arms.length k3, .slice A4 t.params.length k4, .int .i64 t.result] := by rw [← hw0, ← hg]; exact Blk.new _ _ _
 have s0 := ISt.two w0 t.base t.index
 have S0 := qh s0
 have HW0 := qh hw0
 have HG := qh hg
 have ACC := qh acc
 have HH := qh (h.wr0 acc)
 have NF := qh nf
 have NP := qh np
 have c3 := bA.cell 3
 have c4 := bA.cell 4
 have c8 := bA.cell 8
 have c10 := bA.cell 10
 have c11 := bA.cell 11
 simp only [qgaq, qgzq, qgsq] at c3 c4 c8 c10 c11
 have C8 := qh c8
 have C10 := qh c10
 have C11 := qh c11
 clear hw0 hg acc bA s0 h nf np c8 c10 c11 hn1 hn2 hf1 hf2 ha1 ha2 hp1 hp2
 go_enter Tryz.func69, Tryz.ntmps69
 go_upto_region 1 with (fail)
 rw [HG.out, HW0.out]
 go_upto_region 2 with (fail)
 generalize w0.alloc (.cells #[.int .i64 t.base, .int .i64 t.index] 3) = wa at *
 generalize w0.heap.size = z at *
 clear c3 c4
 go_wp2_with fail
 go_loopw [3, 4] (fun sb si wr => ∃ k : Nat, k ≤ t.fields.length ∧ si = .int .i64 k ∧ ISt w0 sb ([t.base, t.index] ++ (t.fields.take k).map Fld.type) wr) (fun _ si _ => t.fields.length - (intOf si).toNat)
 case atStart => exact ⟨0, by omega, rfl, by simpa using S0.out⟩
 case round =>
  obtain ⟨k, hk, rfl, s9⟩ := hrel
  have S9 := qh s9
  have d8 := s9.cell C8.out
  clear s9
  by_cases hlt : k < t.fields.length
  ·obtain ⟨x, hx⟩ : ∃ x, t.fields[k]? = some x := ⟨_, qgeq hlt⟩
   have HX := qh hx
   have hkn : k < 65535 := by have := NF.out; omega
   have hlti : (k : Int) < (t.fields.length : Int) := by omega
   have hk0 : (0 : Int) ≤ (k : Int) := by omega
   obtain ⟨b, off, c', e, _, hc⟩ := fld_at HH.out.fields hx
   injection e with e1 e2 e3
   subst e1 e3
   have x1 := S9.out.cell (hc 1 _ rfl)
   obtain ⟨v1, w1, hrun, s1⟩ := S9.out.one x.type (by simp only [qlaq, qlmq, List.length_take, List.length_cons, List.length_nil]; omega)
   rw [qapq, ← map_snoc Fld.type hx] at s1
   have S1 := qh s1
   have HRUN := qh hrun
   clear hc hx e2 s1 hrun
   go_wp2_with (at_builtin; refine wpList_append_run rfl _ _ _ rfl _ _ rfl rfl _ _ HRUN.out ?_)
   go_roundw
   case rel => exact ⟨k + 1, by omega, by go_num, S1.out⟩
   case measure => simp [intOf]; omega
  ·obtain rfl : k = t.fields.length := by omega
   have s9 := S9.out
   rw [List.take_length] at s9
   replace S9 := qh s9
   clear s9 hlt hk
   go_wp2_with fail
   clear d8
   go_loopw [3, 5] (fun sb si wr => ∃ k : Nat, k ≤ t.params.length ∧ si = .int .i64 k ∧ ISt w0 sb ([t.base, t.index] ++ t.fields.map Fld.type ++ (t.params.take k).map Par.type) wr) (fun _ si _ => t.params.length - (intOf si).toNat)
   case atStart => exact ⟨0, by omega, rfl, by simpa using S9.out⟩
   case round =>
    obtain ⟨k, hk, rfl, s9⟩ := hrel
    have S9 := qh s9
    have d10 := s9.cell C10.out
    clear s9
    by_cases hlt : k < t.params.length
    ·obtain ⟨x, hx⟩ : ∃ x, t.params[k]? = some x := ⟨_, qgeq hlt⟩
     have HX := qh hx
     have hkn : k < 65535 := by have := NP.out; omega
     have hlti : (k : Int) < (t.params.length : Int) := by omega
     have hk0 : (0 : Int) ≤ (k : Int) := by omega
     obtain ⟨b, off, c', e, _, hc⟩ := par_at HH.out.params hx
     injection e with e1 e2 e3
     subst e1 e3
     have x1 := S9.out.cell (hc 1 _ rfl)
     obtain ⟨v1, w1, hrun, s1⟩ := S9.out.one x.type (by have := NF.out; simp only [qlaq, qlmq, List.length_take, List.length_cons, List.length_nil]; omega)
     rw [qapq, ← map_snoc Par.type hx] at s1
     have S1 := qh s1
     have HRUN := qh hrun
     clear hc hx e2 s1 hrun
     go_wp2_with (at_builtin; refine wpList_append_run rfl _ _ _ rfl _ _ rfl rfl _ _ HRUN.out ?_)
     go_roundw
     case rel => exact ⟨k + 1, by omega, by go_num, S1.out⟩
     case measure => simp [intOf]; omega
    ·obtain rfl : k = t.params.length := by omega
     have s9 := S9.out
     rw [List.take_length] at s9
     have d11 := s9.cell C11.out
     obtain ⟨v1, w1, hrun, s1⟩ := s9.one t.result (by have := NF.out; have := NP.out; simp only [qlaq, qlmq, List.length_cons, List.length_nil]; omega)
     rw [← kids_eq] at s1
     have S1 := qh s1
     have HRUN := qh hrun
     clear s9 hlt hk s1 hrun
     go_wp2_with (at_builtin; refine wpList_append_run rfl _ _ _ rfl _ _ rfl rfl _ _ HRUN.out ?_)
     go_ret
     obtain ⟨h1, h2⟩ := S1.out.done ACC.out
     exact ⟨_, rfl, h1, h2⟩
def OrdL (w : World) (P : Nat → Prop) (vo : Value) (ord : List Int) : Prop := Sl w P 1 vo ord.length ((ord.map (· - 10)).map (Value.int .i64))
theorem anew_b (ord : List Int) (hnd : ord.Nodup) (hol : ord.length ≤ 1024) (hor : ∀ x ∈ ord, 10 ≤ x ∧ x ≤ 2000) (vo : Value) (P : Nat → Prop) (n : Int) (h0 : 0 ≤ n) (h1 : n ≤ 2000) (w : World) (h : OrdL w P vo ord) :
  Calls Tryz.prog 32 #[vo, .int .i64 n] w fun e w' => e = .returned (.int .i64 (anewN ord n)) ∧ w = w' := by
 obtain ⟨A, c, rfl, hc1, hc2⟩ := Sl.form h
 obtain ⟨an, han⟩ : ∃ q, anewN ord n = q := ⟨_, rfl⟩
 rw [han]
 have q10 : wrap64 (n - 10) = n - 10 := by unfold wrap64; omega
 have HH := qh h
 have HAN := qh han
 have HND := qh hnd
 have HOR := qh hor
 have HOL := qh hol
 clear h han hnd hor hc1 hc2
 go_enter Tryz.func32, Tryz.ntmps32
 go_wp2_with fail
 go_loop [5] (fun i => ∃ k : Nat, k ≤ ord.length ∧ i = .int .i64 k ∧ n ∉ ord.take k) (fun i => ord.length - (intOf i).toNat)
 case atStart => exact ⟨0, by omega, rfl, by simp⟩
 case round =>
  obtain ⟨k, hk, rfl, hn⟩ := hrel
  have HN := qh hn
  clear hn
  by_cases hlt : k < ord.length
  ·obtain ⟨x, hx⟩ : ∃ x, ord[k]? = some x := ⟨_, qgeq hlt⟩
   obtain ⟨b, off, c', e, _, _, _, hc⟩ := Sl.at_ HH.out (j := k) (u := .int .i64 (x - 10)) (by rw [qgmq, qgmq, hx]; rfl)
   injection e with e1 e2 e3
   subst e1 e3
   have x0 := hc
   have hlti : (k : Int) < (ord.length : Int) := by omega
   have hk0 : (0 : Int) ≤ (k : Int) := by omega
   have hx2 := HOR.out x (List.mem_of_getElem? hx)
   have HX := qh hx
   clear hc hx e2
   by_cases hxn : x = n
   ·subst hxn
    have qk : wrap64 (10 + (k : Int)) = 10 + (k : Int) := by unfold wrap64; omega
    obtain rfl : an = 10 + (k : Int) := by rw [← HAN.out]; exact anewN_at HND.out HX.out
    go_wp2_with fail
    go_ret
    exact ⟨rfl, rfl⟩
   ·have hne : (x - 10 == n - 10) = false := by simp; omega
    have hne2 : ¬ (x - 10 = n - 10) := by omega
    have hs : n ∉ ord.take (k + 1) := by
     rw [List.take_add_one, HX.out]
     intro hm
     rcases List.mem_append.1 hm with h | h
     ·exact HN.out h
     ·simp at h
      exact hxn h.symm
    have HS := qh hs
    clear hs
    go_wp2_with fail
    exact ⟨⟨k + 1, by omega, rfl, HS.out⟩, by show _ - ((k + 1 : Nat) : Int).toNat < _ - (k : Int).toNat; omega⟩
  ·obtain rfl : k = ord.length := by omega
   have hn := HN.out
   rw [List.take_length] at hn
   obtain rfl : an = n := by rw [← HAN.out]; exact anewN_out hn
   clear hn
   go_wp2_with fail
   go_ret
   exact ⟨rfl, rfl⟩
end Go.Proofs.YtjanbpchedgoiaaGreat
namespace Go.Proofs.YtjanbpchedgoiaaGreat
open Go
section
variable {P : Program} {ops : Array Oper} {md : Region.Mode}
def AlwO (C : World → Prop) : Array Bool → World → Prop := fun _ w => C w
theorem alwO_take (C : World → Prop) {i : Nat} (l : Array Bool) (w : World) : AlwO C (l.setIfInBounds i true) w ↔ AlwO C l w := Iff.rfl
theorem yields_alwO {C : World → Prop} {i : Nat} {o : Oper} {v : Value} {a : Act}
  (h : (Region.wanted o (yielded ops a.tmps) = true ∧ ∀ w, C w → (execOp a.eval o).run P w = .ok (.value v) w) ∨ (Region.wanted o (yielded ops a.tmps) = false ∧ v = undef)) : YieldsL P md ops (AlwO C) i o v a :=
 h.imp (fun ⟨hw, hv⟩ => ⟨hw, fun l w hc hun hS => hv w hS⟩) id
end
section
variable {P : Program} {ops : Array Oper} {Q : Exit → Act → World → Prop} {md : Region.Mode} {S : Array Bool → World → Prop}
def Cs (w : World) : List (Nat × Nat × Value) → Prop
 | [] => True
 | c :: l => w.cell? ⟨c.1, c.2.1, none⟩ = some c.2.2 ∧ Cs w l
theorem Cs.app {w : World} : ∀ {l l' : List (Nat × Nat × Value)}, Cs w l → Cs w l' → Cs w (l ++ l')
 | [], _, _, k => k
 | _ :: _, _, h, k => ⟨h.1, Cs.app h.2 k⟩
theorem Cs.wr {l : List Nat} {w w' : World} (k : Wr l w w') : ∀ {cs : List (Nat × Nat × Value)}, (∀ c ∈ cs, c.1 ∉ l) → Cs w cs → Cs w' cs
 | [], _, _ => trivial
 | _ :: _, hl, h => ⟨k.cellOf h.1 (hl _ (List.mem_cons_self ..)), Cs.wr k (fun c hc => hl c (List.mem_cons_of_mem _ hc)) h.2⟩
def GoL (P : Program) (md : Region.Mode) (ops : Array Oper) (Q : Exit → Act → World → Prop) (S : Array Bool → World → Prop) (fuel : Nat) (listed : Array Bool) (a : Act) (w : World) : Prop :=
 ClosedL md ops listed → S listed w → wpAnyL P md ops Q S fuel listed a w
theorem beginL {id : Nat} {a : Act} {w : World} (S : Array Bool → World → Prop) (hm : P.follows .mixedOrders = true) (hS : S (Array.replicate ops.size false) w.drew)
  (h : GoL P .any ops (NoPanic Q) S ops.size (Array.replicate ops.size false) a w.drew) : (Code.region id ops true).wp P Q a w :=
 wp_region_noPanic (wp_region_L S hm (fun hcl => h hcl hS))
theorem beginA {id : Nat} {a : Act} {w : World} (l : List Nat) (cs : List (Nat × Nat × Value)) (hm : P.follows .mixedOrders = true) (h0 : Cs w cs) (hl : ∀ c ∈ cs, c.1 ∉ l)
  (h : RowKit.Hid (∀ W, Wr l w W → Cs W cs) → GoL P .any ops (NoPanic Q) (AlwO fun w' => Cs w' cs) ops.size (Array.replicate ops.size false) a w.drew) : (Code.region id ops true).wp P Q a w :=
 have hc : ∀ W, Wr l w W → Cs W cs := fun W hW => Cs.wr hW hl h0
 beginL _ hm (hc _ (Wr.refl _ _).drew) (h (qh hc))
theorem op_at {i : Nat} {oi : Oper} (h : ops.toList[i]? = some oi) : ops[i]? = some oi := by rw [← Array.getElem?_toList]; exact h
def mvA (md : Region.Mode) (ops : Array Oper) (listed : Array Bool) (i : Nat) : Bool := Region.noSelect ops && Region.free md ops listed i && (Region.ready md ops listed).contains i
theorem mvB (i : Nat) {oi : Oper} {v : Value} {fuel : Nat} {listed : Array Bool} {a : Act} {w : World} {C : World → Prop} (hi' : ops.toList[i]? = some oi) (hk : mvA md ops listed i = true)
  (hw : Region.wanted oi (yielded ops a.tmps) = true) (hy : ∀ w, C w → (execOp a.eval oi).run P w = .ok (.value v) w)
  (h : GoL P md ops (NoPanic Q) (AlwO C) fuel (listed.setIfInBounds i true) (a.put oi.dst v) w) : GoL P md ops (NoPanic Q) (AlwO C) (fuel + 1) listed a w := by
 unfold mvA at hk
 simp only [Bool.and_eq_true] at hk
 exact fun hc hS => wpAnyL_take (op_at hi') hk.1.1 hk.1.2 hk.2 (fun _ _ _ h => h) (alwO_take C) (yields_alwO (.inl ⟨hw, hy⟩)) hc hS (fun h1 h2 => h h1 h2)
theorem stL (i : Nat) {o : Oper} {fuel : Nat} {listed : Array Bool} {a : Act} {w : World} (hi' : ops.toList[i]? = some o) (hr : Region.ready md ops listed = [i])
  (h : ∀ K : Act → World → Prop, (∀ a' w', S (listed.setIfInBounds i true) w' → GoL P md ops Q S fuel (listed.setIfInBounds i true) a' w' → K a' w') → if Region.wanted o (yielded ops a.tmps) = true then Oper.wp P o a w K Q else K (a.put o.dst undef) w) : GoL P md ops Q S (fuel + 1) listed a w :=
 fun hc _ => wpAnyL_step (op_at hi') hr hc (fun K hK => h K (fun a' w' h1 h2 => hK a' w' h1 (fun h3 => h2 h3 h1)))
theorem endL {listed : Array Bool} {a : Act} {w : World} {fuel : Nat} (hr : Region.ready md ops listed = []) (h : Q .normal a w) : GoL P md ops (NoPanic Q) S fuel listed a w :=
 fun _ _ => wpAnyL_done hr (NoPanic.normal h) _
end
end Go.Proofs.YtjanbpchedgoiaaGreat
