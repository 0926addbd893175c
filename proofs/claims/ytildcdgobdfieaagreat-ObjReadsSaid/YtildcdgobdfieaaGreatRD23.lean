/- obj.Pack: what it holds, bounds of a module, laws of a builder. Conditions: none but those named. -/
import Derived.Test.YtildcdgobdfieaaGreatRD22
import Derived.Test.YtildcdgobdfieaaGreatRD20
set_option linter.unusedVariables false
set_option linter.unusedSimpArgs false
set_option maxRecDepth 100000
set_option maxHeartbeats 32000000
namespace Go.Proofs.YtildcdgobdfieaaGreat
open Go.RowKit
def Bld (b : Nat) (l : List UInt8) (w : World) : Prop := Lib.IsBuilder 92 5 b b (Lib.byteCells l) w
section
variable {b : Nat} {l : List UInt8} {w w' : World}
theorem Bld.lt (h : Bld b l w) : b < w.heap.size := by
 rcases h with h | h <;> exact h.lt
theorem Bld.new (w : World) : Bld w.heap.size [] (w.alloc (.cells #[.pointer none, .slice none 0 0] 92)) := Lib.fresh_isBuilder 92 5 w
theorem bldAt_keep {p : Value} {bs : List Value} (h : Lib.BuilderAt 92 5 b b p bs w) (r : Wr [] w w') : Lib.BuilderAt 92 5 b b p bs w' := by
 have hl := h.lt
 obtain ⟨h1, v, h2, h3, h4⟩ := h
 exact ⟨h1, v, (r.block b hl (by simp)).trans h2, own_wr0 h3 r, h4⟩
theorem Bld.keep (h : Bld b l w) (r : Wr [] w w') : Bld b l w' := h.imp (fun h => bldAt_keep h r) (fun h => bldAt_keep h r)
theorem bel_cell {p : Addr} {v : Value} (hw : Below b w w') (hc : w.cell? p = some v) (hp : p.block < b) : w'.cell? p = some v := (hw.cell hp).trans hc
theorem wr_bel (r : Wr [] w w') (hb : b ≤ w.heap.size) : Below b w w' := r.below hb (fun _ hx => by cases hx)
theorem bel_wr {w0 : World} (r : Wr [] w0 w) (hb : w0.heap.size ≤ b) (h : Below b w w') : Wr [] w0 w' :=
 ⟨h.os.trans r.os, h.tape.trans r.tape, h.output.trans r.output, Nat.le_trans r.size h.size, fun k hk hn => (h.block k (by omega)).trans (r.block k hk hn)⟩
def WrtR (b : Nat) (l : List UInt8) (s : ByteArray) (w : World) (e : Ending) (w' : World) : Prop := ∃ n : Int, e = .returned (.tuple #[.int .i64 n, .nilIface]) ∧ Bld b (l ++ s.data.toList) w' ∧ Below b w w'
theorem write_b (b : Nat) (l : List UInt8) (s : ByteArray) (w : World) (h : Bld b l w) (hl : l.length ≤ 10000000) (hs : s.size ≤ 10000000) :
  Calls Tryz.prog 44 #[.pointer (some ⟨b, 0, none⟩), .string s] w (WrtR b l s w) := by
 refine (writeString_any b b (Lib.byteCells l) s w h (by rw [Lib.byteCells_length]; omega) (Nat.le_of_lt h.lt)).mono ?_
 rintro e w' ⟨rfl, h1, h2⟩
 refine ⟨_, rfl, ?_, h2⟩
 rw [Lib.strCells_eq, ← Lib.byteCells_append] at h1
 exact Or.inr h1
theorem string_b (b : Nat) (l : List UInt8) (w : World) (h : Bld b l w) :
  Calls Tryz.prog 46 #[.pointer (some ⟨b, 0, none⟩)] w fun e w' => e = .returned (.string ⟨l.toArray⟩) ∧ Below b w w' := string_any b b l w h (Nat.le_of_lt h.lt)
end
theorem u16_at {w : World} {P : Nat → Prop} {v : Value} {l : List Int} (h : SlU16 w P v l) {i : Nat} {x : Int} (hi : l[i]? = some x) : ∃ b off c, v = .slice (some ⟨b, off, none⟩) l.length c ∧ l.length ≤ c ∧ c ≤ maxLen ∧ w.cell? ⟨b, off + i, none⟩ = some (.int .u16 x) := by
 obtain ⟨b, off, c, e, h1, h2, _, hc⟩ := Sl.at_ h (j := i) (u := .int .u16 x) (by rw [qgmq, hi]; rfl)
 exact ⟨b, off, c, e, h1, h2, hc⟩
structure PrcOk (p : PrcD) : Prop where
 a : 0 ≤ p.at_ ∧ p.at_ ≤ 65535
 b : 0 ≤ p.params ∧ p.params ≤ 65535
 c : 0 ≤ p.locals ∧ p.locals ≤ 65535
 d : 0 ≤ p.depth ∧ p.depth ≤ 65535
 e : 0 ≤ p.level ∧ p.level ≤ 16
structure ModOk (m : ModD) : Prop where
 code : m.code.size ≤ 65535
 procs : m.procs.length ≤ 1024
 prc : ∀ p ∈ m.procs, PrcOk p
 imports : m.imports.length ≤ 255
 imp : ∀ i ∈ m.imports, 0 ≤ i ∧ i ≤ 63
 data : 0 ≤ m.data ∧ m.data ≤ 65535
 init : m.init.length ≤ 65535
theorem mod_ok {m : ModD} (h : omodB m = true) : ModOk m := by
 unfold omodB modB at h
 simp only [Bool.and_eq_true, decide_eq_true_eq, List.all_eq_true, inBi] at h
 obtain ⟨⟨a1, a2⟩, ⟨⟨⟨⟨⟨⟨⟨b1, b2⟩, b3⟩, b4⟩, b5⟩, b6⟩, b7⟩, b8⟩⟩ := h
 refine ⟨b1, b3, fun p hp => ?_, a1, a2, ⟨by omega, b5.2⟩, by have := b5.1; have := b5.2; omega⟩
 have q := b6 p hp
 unfold prcB at q
 simp only [Bool.and_eq_true, inBi] at q
 obtain ⟨⟨⟨⟨h1, h2⟩, h3⟩, h4⟩, h5⟩ := q
 exact ⟨⟨h4.1, by omega⟩, h1, h2, h3, ⟨by omega, h5.2⟩⟩
theorem numI (x : Int) (size : Nat) (h0 : 0 ≤ x) (h1 : x ≤ 65535) (hs : 1 ≤ size) (h8 : size ≤ 8) (w : World) :
  Calls Tryz.prog 37 #[.int .i64 x, .int .i64 (size : Int)] w fun e w' => e = .returned (.string (numS x.toNat size)) ∧ Wr [] w w' := by
 have := number_int x.toNat size (by omega) hs h8 w
 rw [Int.toNat_of_nonneg h0] at this
 exact this
theorem numW (x : Int) (size : Nat) (h0 : 0 ≤ x) (h1 : x ≤ 65535) (hs : 1 ≤ size) (h8 : size ≤ 8) (w : World) :
  Calls Tryz.prog 45 #[.int .u16 x, .int .i64 (size : Int)] w fun e w' => e = .returned (.string (numS x.toNat size)) ∧ Wr [] w w' := by
 have := number_uint16 x.toNat size (by omega) hs h8 w
 rw [Int.toNat_of_nonneg h0] at this
 exact this
theorem truS_size (b : Bool) : (truS b).size = 1 := by cases b <;> rfl
theorem prcL_len (p : PrcD) : (prcL p).length = 10 := by
 unfold prcL
 simp only [qlaq, numL_len]
 cases p.func <;> rfl
theorem flat_const {α : Type} (f : α → List UInt8) (c : Nat) (h : ∀ x, (f x).length = c) : ∀ l : List α, (l.flatMap f).length = l.length * c
 | [] => by simp
 | x :: l => by rw [qfcq, qlaq, h, flat_const f c h l, List.length_cons, Nat.succ_mul]; omega
def packA (m : ModD) : List UInt8 := numL m.code.size 2 ++ m.code.data.toList ++ numL m.procs.length 2
def packB (m : ModD) : List UInt8 := packA m ++ m.procs.flatMap prcL
def packC (m : ModD) : List UInt8 := packB m ++ numL m.imports.length 1
def packD (m : ModD) : List UInt8 := packC m ++ m.imports.flatMap (fun i => numL i.toNat 1)
def packE (m : ModD) : List UInt8 := packD m ++ (numL m.data.toNat 2 ++ numL m.init.length 2)
theorem pack_eq (m : ModD) : packL m = packE m ++ m.init.flatMap (fun i => numL i.toNat 2) := by
 unfold packL packE packD packC packB packA
 simp only [qapq]
theorem packA_len {m : ModD} (h : ModOk m) : (packA m).length ≤ 70000 := by
 have e : m.code.data.toList.length = m.code.size := rfl
 have := h.code
 unfold packA
 simp only [qlaq, numL_len, e]
 omega
theorem packB_len {m : ModD} (h : ModOk m) : (packB m).length ≤ 90000 := by
 have := packA_len h
 have := h.procs
 unfold packB
 rw [qlaq, flat_const prcL 10 prcL_len]
 omega
theorem packC_len {m : ModD} (h : ModOk m) : (packC m).length ≤ 90001 := by
 have := packB_len h
 unfold packC
 rw [qlaq, numL_len]
 omega
theorem packD_len {m : ModD} (h : ModOk m) : (packD m).length ≤ 90300 := by
 have := packC_len h
 have := h.imports
 unfold packD
 rw [qlaq, flat_const _ 1 (fun i => numL_len _ _)]
 omega
theorem packE_len {m : ModD} (h : ModOk m) : (packE m).length ≤ 90304 := by
 have := packD_len h
 unfold packE
 simp only [qlaq, numL_len]
 omega
theorem flat_take_len {α : Type} (f : α → List UInt8) (c n : Nat) (h : ∀ x, (f x).length = c) (l : List α) (k : Nat) (hk : k ≤ n) : ((l.take k).flatMap f).length ≤ n * c := by
 rw [flat_const f c h]
 exact Nat.mul_le_mul (by rw [List.length_take]; omega) (Nat.le_refl c)
theorem flat_take_succ {α : Type} (f : α → List UInt8) {l : List α} {k : Nat} {x : α} (h : l[k]? = some x) : (l.take (k + 1)).flatMap f = (l.take k).flatMap f ++ f x := by
 rw [List.take_add_one, h, qfaq]
 simp
theorem bytes_app (a b : ByteArray) : (a ++ b).data.toList = a.data.toList ++ b.data.toList := by
 rw [ByteArray.data_append, Array.toList_append]
theorem numS_list (n k : Nat) : (numS n k).data.toList = numL n k := rfl
theorem truS_list (b : Bool) : (truS b).data.toList = truL b := rfl
theorem bytesA (m : ModD) : [] ++ (numS m.code.size 2 ++ m.code ++ numS m.procs.length 2).data.toList = packA m := by
 rw [bytes_app, bytes_app]
 rfl
theorem bytesP (p : PrcD) : (numS p.at_.toNat 2 ++ numS p.params.toNat 2 ++ numS p.locals.toNat 2 ++ numS p.depth.toNat 2 ++ numS p.level.toNat 1 ++ truS p.func).data.toList = prcL p := by
 simp only [bytes_app, numS_list, truS_list]
 rfl
theorem bytesE (m : ModD) : packD m ++ (numS m.data.toNat 2 ++ numS m.init.length 2).data.toList = packE m := by
 rw [bytes_app]
 rfl
def PkAt (b : Nat) (wb : World) (l : List UInt8) (wr : World) : Prop := Below b wb wr ∧ Bld b l wr
structure MdS (T : TypeId) (b z : Nat) (w : World) (r : Rd) (cs : Array Value) (wr : World) : Prop where
 blk : Blk wr z T cs
 rd : RdO wr b r
 wr : Wr [b] w wr
section
variable {T : TypeId} {b z : Nat} {w wr w' : World} {r r' : Rd} {cs : Array Value}
theorem MdS.call (h : MdS T b z w r cs wr) (k : Wr [b] wr w') (hz : z ≠ b) (b' : RdO w' b r') : MdS T b z w r' cs w' :=
 ⟨h.blk.wr k (by simpa using hz), b', h.wr.trans k⟩
theorem MdS.set (h : MdS T b z w r cs wr) (hz : z ≠ b) (hw : w.heap.size ≤ z) (j : Nat) (u : Value) : MdS T b z w r (cs.setIfInBounds j u) (wr.setCell ⟨z, j, none⟩ u) :=
 ⟨h.blk.set_ j u, Blk.far h.rd (fun e => hz e.symm) _, h.wr.setNew hw _⟩
theorem sl_own {base n size : Nat} {v : Value} {xs : List Value} (h : w.ownsRow base T size v n xs) (hb : z < base) : Sl w (fun x => z < x) size v n xs :=
 Sl.ofOwn h (fun g hg => Nat.lt_of_lt_of_le hb (own_ge h g (mem_ownL.2 hg)))
theorem sl_b {v : Value} {n size : Nat} {xs : List Value} (h : Sl w (fun x => z < x) size v n xs) (k : Wr [b] w w') (hb : b < z) : Sl w' (fun x => z < x) size v n xs :=
 h.keep k (fun x hx => by rw [qmsq]; omega)
theorem sl_z {v : Value} {n size : Nat} {xs : List Value} (h : Sl w (fun x => z < x) size v n xs) (j : Nat) (u : Value) : Sl (w.setCell ⟨z, j, none⟩ u) (fun x => z < x) size v n xs :=
 h.keep ((Wr.refl [z] w).setOn (by simp) u) (fun x hx => by rw [qmsq]; omega)
end
theorem flat_one {α : Type} (f : α → Value) (l : List α) : l.flatMap (fun x => [f x]) = l.map f := by
 induction l with
 | nil => rfl
 | cons x l ih => rw [qfcq, ih]; rfl
def OModR (b : Nat) (q : ModD × Rd) (w : World) (e : Ending) (w' : World) : Prop :=
 ∃ vp vi vn, e = .returned (q.1.val vp vi vn) ∧ Wr [b] w w' ∧ RdO w' b q.2 ∧ ModL w' (fun x => w.heap.size ≤ x) vp vi vn q.1
theorem omodule_o (b : Nat) (r : Rd) (w : World) (hb : RdO w b r) :
  Calls Tryz.prog 61 #[.pointer (some ⟨b, 0, none⟩)] w (OModR b (Rd.module r) w) := by
 have hbl := hb.lt
 unfold Rd.module
 obtain ⟨p0, hp0⟩ : ∃ p, Rd.num r 2 = p := ⟨_, rfl⟩
 obtain ⟨v0, r0⟩ := p0
 obtain ⟨p1, hp1⟩ : ∃ p, Rd.raw r0 v0 = p := ⟨_, rfl⟩
 obtain ⟨v1, r1⟩ := p1
 obtain ⟨p2, hp2⟩ : ∃ p, Rd.num r1 2 = p := ⟨_, rfl⟩
 obtain ⟨v2, r2⟩ := p2
 obtain ⟨p3, hp3⟩ : ∃ p, Rd.list Rd.proc v2 r2 = p := ⟨_, rfl⟩
 obtain ⟨v3, r3⟩ := p3
 obtain ⟨p4, hp4⟩ : ∃ p, Rd.num r3 1 = p := ⟨_, rfl⟩
 obtain ⟨v4, r4⟩ := p4
 obtain ⟨p5, hp5⟩ : ∃ p, Rd.list Rd.one v4 r4 = p := ⟨_, rfl⟩
 obtain ⟨v5, r5⟩ := p5
 obtain ⟨p6, hp6⟩ : ∃ p, Rd.two r5 = p := ⟨_, rfl⟩
 obtain ⟨v6, r6⟩ := p6
 obtain ⟨p7, hp7⟩ : ∃ p, Rd.num r6 2 = p := ⟨_, rfl⟩
 obtain ⟨v7, r7⟩ := p7
 obtain ⟨p8, hp8⟩ : ∃ p, Rd.list Rd.two v7 r7 = p := ⟨_, rfl⟩
 obtain ⟨v8, r8⟩ := p8
 simp only [hp0, hp1, hp2, hp3, hp4, hp5, hp6, hp7, hp8]
 have l0 := num_ltO (k := 2) (by omega) r
 rw [hp0] at l0
 simp only at l0
 have l2 := num_ltO (k := 2) (by omega) r1
 rw [hp2] at l2
 simp only at l2
 have l4 := num_ltO (k := 1) (by omega) r3
 rw [hp4] at l4
 simp only at l4
 have l7 := num_ltO (k := 2) (by omega) r6
 rw [hp7] at l7
 simp only at l7
 have h0 := fun W (hW : RdO W b r) => two_o b r W hW
 unfold Rd.two at h0
 rw [hp0] at h0
 simp only at h0
 have H0 := qh h0
 have h1 := fun W (hW : RdO W b r0) => raw_o b v0 r0 (by omega) W hW
 rw [hp1] at h1
 simp only at h1
 have H1 := qh h1
 have h2 := fun W (hW : RdO W b r1) => two_o b r1 W hW
 unfold Rd.two at h2
 rw [hp2] at h2
 simp only at h2
 have H2 := qh h2
 have h3 := fun W (hW : RdO W b r2) => list_prc b v2 (by omega) r2 W hW
 unfold OListR at h3
 rw [hp3] at h3
 simp only at h3
 have H3 := qh h3
 have h4 := fun W (hW : RdO W b r3) => one_o b r3 W hW
 unfold Rd.one at h4
 rw [hp4] at h4
 simp only at h4
 have H4 := qh h4
 have h5 := fun W (hW : RdO W b r4) => list_i64 b v4 (by omega) r4 W hW
 unfold OListR at h5
 rw [hp5] at h5
 simp only at h5
 have H5 := qh h5
 have h6 := fun W (hW : RdO W b r5) => two_o b r5 W hW
 rw [hp6] at h6
 simp only at h6
 have H6 := qh h6
 have h7 := fun W (hW : RdO W b r6) => two_o b r6 W hW
 unfold Rd.two at h7
 rw [hp7] at h7
 simp only at h7
 have H7 := qh h7
 have h8 := fun W (hW : RdO W b r7) => list_u16 b v7 (by omega) r7 W hW
 unfold OListR at h8
 rw [hp8] at h8
 simp only at h8
 have H8 := qh h8
 clear h0 hp0 h1 hp1 h2 hp2 h3 hp3 h4 hp4 h5 hp5 h6 hp6 h7 hp7 h8 hp8
 obtain ⟨md, hmd⟩ : ∃ q : ModD, (⟨⟨v1.toArray⟩, v3, v5, v6, v8⟩ : ModD) = q := ⟨_, rfl⟩
 have HMD := qh hmd
 rw [hmd]
 obtain ⟨rf, hrf⟩ : ∃ q : Rd, (⟨r8.s, r8.bad || !omodB md⟩ : Rd) = q := ⟨_, rfl⟩
 rw [hrf]
 have HRF := qh hrf
 clear hmd hrf
 unfold OModR
 simp only
 have zn := Blk.new w 28 #[.string ⟨#[]⟩, .slice none 0 0, .slice none 0 0, .int .i64 0, .slice none 0 0]
 have rn := (Wr.refl [b] w).alloc (.cells #[.string ⟨#[]⟩, .slice none 0 0, .slice none 0 0, .int .i64 0, .slice none 0 0] 28)
 have bn := Blk.wr0 hb ((Wr.refl [] w).alloc (.cells #[.string ⟨#[]⟩, .slice none 0 0, .slice none 0 0, .int .i64 0, .slice none 0 0] 28))
 obtain ⟨wn, hwn⟩ : ∃ q, w.alloc (.cells #[.string ⟨#[]⟩, .slice none 0 0, .slice none 0 0, .int .i64 0, .slice none 0 0] 28) = q := ⟨_, rfl⟩
 obtain ⟨z, hz⟩ : ∃ q, w.heap.size = q := ⟨_, rfl⟩
 rw [hwn] at zn rn bn
 rw [hz] at zn
 have hzb : z ≠ b := by omega
 have hbz : b < z := by omega
 have hwz : w.heap.size ≤ z := by omega
 have M0 : Hid (MdS 28 b z w r #[.string ⟨#[]⟩, .slice none 0 0, .slice none 0 0, .int .i64 0, .slice none 0 0] wn) := qh ⟨zn, bn, rn⟩
 have HWN := qh hwn
 have HZ := qh hz
 have hmf : ∀ (fn : Fn) (first cap : Array Value) (w : World), (Instr.makeFunc fn first cap).run Tryz.prog w = .ok (.func fn first cap) w := fun _ _ _ _ => rfl
 clear hwn hz hb zn rn bn
 go_in
 go_upto_region 1 with (fail)
 rw [HZ.out, HWN.out]
 go_wp2_with fail
 refine (H0.out _ M0.out.rd).mono ?_
 rintro e w1 ⟨rfl, k1, b1⟩
 have m1 := M0.out.call k1 hzb b1
 have M1 := qh m1
 clear m1 k1 b1
 go_wp2_with fail
 refine (H1.out _ M1.out.rd).mono ?_
 rintro e w2 ⟨rfl, k2, b2⟩
 have m2 := M1.out.call k2 hzb b2
 have M2 := qh m2
 clear m2 k2 b2
 have mm := M2.out
 have f0 := mm.blk.frozen 0
 have y0 := mm.blk.cell 0
 simp only [qgaq, qgzq, qgsq] at y0
 have mz := mm
 replace mz := mz.set hzb hwz 0 (.string (ansS v1))
 simp only [qsaq, qszq, qssq] at mz
 have M3 := qh mz
 clear mm mz
 go_upto_region 2 with (fail)
 generalize (w2.setCell ⟨z, 0, none⟩ (.string (ansS v1))) = w3 at *
 clear f0 y0
 go_wp2_with fail
 refine (H2.out _ M3.out.rd).mono ?_
 rintro e w4 ⟨rfl, k4, b4⟩
 have m4 := M3.out.call k4 hzb b4
 have M4 := qh m4
 clear m4 k4 b4
 go_wp2_with fail
 refine (H3.out _ M4.out.rd).mono ?_
 rintro e w5 ⟨xp, rfl, k5, b5, ownp⟩
 have slp := sl_own (z := z) ownp M4.out.blk.lt
 obtain ⟨Ap, cp, rfl, _, _⟩ := Sl.form slp
 have m5 := M4.out.call k5 hzb b5
 have M5 := qh m5
 have Lp := qh slp
 clear m5 k5 b5 slp ownp
 have mm := M5.out
 have f1 := mm.blk.frozen 1
 have y1 := mm.blk.cell 1
 simp only [qgaq, qgzq, qgsq] at y1
 have mz := mm
 replace mz := mz.set hzb hwz 1 (.slice Ap v3.length cp)
 simp only [qsaq, qszq, qssq] at mz
 have Lpn := (sl_z Lp.out 1 (.slice Ap v3.length cp))
 have Lp := qh Lpn
 clear Lpn
 have M6 := qh mz
 clear mm mz
 go_upto_region 3 with (fail)
 generalize (w5.setCell ⟨z, 1, none⟩ (.slice Ap v3.length cp)) = w6 at *
 clear f1 y1
 go_wp2_with fail
 refine (H4.out _ M6.out.rd).mono ?_
 rintro e w7 ⟨rfl, k7, b7⟩
 have m7 := M6.out.call k7 hzb b7
 have Lpn := sl_b Lp.out k7 hbz
 have Lp := qh Lpn
 clear Lpn
 have M7 := qh m7
 clear m7 k7 b7
 go_wp2_with fail
 refine (H5.out _ M7.out.rd).mono ?_
 rintro e w8 ⟨xi, rfl, k8, b8, owni⟩
 have sli := sl_own (z := z) owni M7.out.blk.lt
 rw [flat_one] at sli
 obtain ⟨Ai, ci, rfl, _, _⟩ := Sl.form sli
 have m8 := M7.out.call k8 hzb b8
 have Lpn := sl_b Lp.out k8 hbz
 have Lp := qh Lpn
 clear Lpn
 have M8 := qh m8
 have Li := qh sli
 clear m8 k8 b8 sli owni
 have mm := M8.out
 have f2 := mm.blk.frozen 2
 have y2 := mm.blk.cell 2
 simp only [qgaq, qgzq, qgsq] at y2
 have mz := mm
 replace mz := mz.set hzb hwz 2 (.slice Ai v5.length ci)
 simp only [qsaq, qszq, qssq] at mz
 have Lpn := (sl_z Lp.out 2 (.slice Ai v5.length ci))
 have Lin := (sl_z Li.out 2 (.slice Ai v5.length ci))
 have Lp := qh Lpn
 clear Lpn
 have Li := qh Lin
 clear Lin
 have M9 := qh mz
 clear mm mz
 go_upto_region 4 with (fail)
 generalize (w8.setCell ⟨z, 2, none⟩ (.slice Ai v5.length ci)) = w9 at *
 clear f2 y2
 go_wp2_with fail
 refine (H6.out _ M9.out.rd).mono ?_
 rintro e w10 ⟨rfl, k10, b10⟩
 have m10 := M9.out.call k10 hzb b10
 have Lpn := sl_b Lp.out k10 hbz
 have Lin := sl_b Li.out k10 hbz
 have Lp := qh Lpn
 clear Lpn
 have Li := qh Lin
 clear Lin
 have M10 := qh m10
 clear m10 k10 b10
 have mm := M10.out
 have f3 := mm.blk.frozen 3
 have y3 := mm.blk.cell 3
 simp only [qgaq, qgzq, qgsq] at y3
 have mz := mm
 replace mz := mz.set hzb hwz 3 (.int .i64 v6)
 simp only [qsaq, qszq, qssq] at mz
 have Lpn := (sl_z Lp.out 3 (.int .i64 v6))
 have Lin := (sl_z Li.out 3 (.int .i64 v6))
 have Lp := qh Lpn
 clear Lpn
 have Li := qh Lin
 clear Lin
 have M11 := qh mz
 clear mm mz
 go_upto_region 5 with (fail)
 generalize (w10.setCell ⟨z, 3, none⟩ (.int .i64 v6)) = w11 at *
 clear f3 y3
 go_wp2_with fail
 refine (H7.out _ M11.out.rd).mono ?_
 rintro e w12 ⟨rfl, k12, b12⟩
 have m12 := M11.out.call k12 hzb b12
 have Lpn := sl_b Lp.out k12 hbz
 have Lin := sl_b Li.out k12 hbz
 have Lp := qh Lpn
 clear Lpn
 have Li := qh Lin
 clear Lin
 have M12 := qh m12
 clear m12 k12 b12
 go_wp2_with fail
 refine (H8.out _ M12.out.rd).mono ?_
 rintro e w13 ⟨xn, rfl, k13, b13, ownn⟩
 have sln := sl_own (z := z) ownn M12.out.blk.lt
 rw [flat_one] at sln
 obtain ⟨An, cn, rfl, _, _⟩ := Sl.form sln
 have m13 := M12.out.call k13 hzb b13
 have Lpn := sl_b Lp.out k13 hbz
 have Lin := sl_b Li.out k13 hbz
 have Lp := qh Lpn
 clear Lpn
 have Li := qh Lin
 clear Lin
 have M13 := qh m13
 have Ln := qh sln
 clear m13 k13 b13 sln ownn
 have mm := M13.out
 have f4 := mm.blk.frozen 4
 have y4 := mm.blk.cell 4
 simp only [qgaq, qgzq, qgsq] at y4
 have mz := mm
 replace mz := mz.set hzb hwz 4 (.slice An v8.length cn)
 simp only [qsaq, qszq, qssq] at mz
 have Lpn := (sl_z Lp.out 4 (.slice An v8.length cn))
 have Lin := (sl_z Li.out 4 (.slice An v8.length cn))
 have Lnn := (sl_z Ln.out 4 (.slice An v8.length cn))
 have Lp := qh Lpn
 clear Lpn
 have Li := qh Lin
 clear Lin
 have Ln := qh Lnn
 clear Lnn
 have M14 := qh mz
 clear mm mz
 go_upto_region 6 with (fail)
 generalize (w13.setCell ⟨z, 4, none⟩ (.slice An v8.length cn)) = w14 at *
 clear f4 y4
 have cb := M14.out.rd.cell 1
 have fb := M14.out.rd.frozen 1
 simp only [qgaq, qgzq, qgsq] at cb
 cases hbad : r8.bad with
 | true =>
  rw [hbad] at cb
  have hrf2 : rf = ⟨r8.s, true⟩ := by rw [← HRF.out, hbad, Bool.true_or]
  have HRF2 := qh hrf2
  clear hbad hrf2
  have mb : MdS 28 b z w ⟨r8.s, true⟩ #[.string (ansS v1), .slice Ap v3.length cp, .slice Ai v5.length ci, .int .i64 v6, .slice An v8.length cn] (w14.setCell ⟨b, 1, none⟩ (.bool (true))) :=
   ⟨Blk.far M14.out.blk hzb _, Blk.set_ M14.out.rd 1 (.bool (true)), M14.out.wr.setOn (by simp) _⟩
  have kb : Wr [b] w14 (w14.setCell ⟨b, 1, none⟩ (.bool (true))) := (Wr.refl _ _).setOn (by simp) _
  have Lpn := sl_b Lp.out kb hbz
  have Lin := sl_b Li.out kb hbz
  have Lnn := sl_b Ln.out kb hbz
  have Lp := qh Lpn
  have Li := qh Lin
  have Ln := qh Lnn
  have MB := qh mb
  clear Lpn Lin Lnn mb kb
  go_upto_region 7 with (fail)
  generalize w14.setCell ⟨b, 1, none⟩ (.bool (true)) = wB at *
  clear cb fb
  have zf := MB.out.blk
  obtain ⟨y0, y1, y2, y3, y4⟩ := c5q zf
  obtain ⟨f0, f1, f2, f3, f4⟩ := z5q zf
  clear zf
  go_wp2_with fail
  refine bodyPost_ret (v := .agg #[.string (ansS v1), .slice Ap v3.length cp, .slice Ai v5.length ci, .int .i64 v6, .slice An v8.length cn]) ?_ rfl ?_
  ·simp [results, Tryz.results61, go_sem, y0, y1, y2, y3, y4]
  ·rw [← HMD.out]
   have mz := ((((MB.out.set hzb hwz 0 (.string (ansS v1))).set hzb hwz 1 (.slice Ap v3.length cp)).set hzb hwz 2 (.slice Ai v5.length ci)).set hzb hwz 3 (.int .i64 v6)).set hzb hwz 4 (.slice An v8.length cn)
   have q1 := sl_z (sl_z (sl_z (sl_z (sl_z Lp.out 0 (.string (ansS v1))) 1 (.slice Ap v3.length cp)) 2 (.slice Ai v5.length ci)) 3 (.int .i64 v6)) 4 (.slice An v8.length cn)
   have q2 := sl_z (sl_z (sl_z (sl_z (sl_z Li.out 0 (.string (ansS v1))) 1 (.slice Ap v3.length cp)) 2 (.slice Ai v5.length ci)) 3 (.int .i64 v6)) 4 (.slice An v8.length cn)
   have q3 := sl_z (sl_z (sl_z (sl_z (sl_z Ln.out 0 (.string (ansS v1))) 1 (.slice Ap v3.length cp)) 2 (.slice Ai v5.length ci)) 3 (.int .i64 v6)) 4 (.slice An v8.length cn)
   refine ⟨_, _, _, rfl, mz.wr, ?_, q1.mono (fun x hx => by omega), q2.mono (fun x hx => by omega), q3.mono (fun x hx => by omega)⟩
   have := mz.rd
   rw [HRF2.out]; exact this
 | false =>
  rw [hbad] at cb
  have hmod : ModL w14 (fun x => z < x) (.slice Ap v3.length cp) (.slice Ai v5.length ci) (.slice An v8.length cn) ⟨⟨v1.toArray⟩, v3, v5, v6, v8⟩ := ⟨Lp.out, Li.out, Ln.out⟩
  have hcm := omod_any _ _ _ _ _ _ hmod
  unfold ModD.val ModD.cells at hcm
  rw [HMD.out] at hcm
  obtain ⟨ok, hok⟩ : ∃ q, omodB md = q := ⟨_, rfl⟩
  rw [hok] at hcm
  have hrf2 : rf = ⟨r8.s, !ok⟩ := by rw [← HRF.out, hbad, Bool.false_or, hok]
  have HRF2 := qh hrf2
  clear hbad hrf2
  have HCM := qh hcm
  have zf := M14.out.blk
  obtain ⟨y0, y1, y2, y3, y4⟩ := c5q zf
  clear hcm hok hmod zf
  go_wp2_with fail
  have hq := HCM.out
  rw [← HMD.out] at hq
  refine hq.mono ?_
  rintro e wq ⟨rfl, kq⟩
  have mq := M14.out.call kq.nil hzb (M14.out.rd.keep kq (by simp))
  have Lpn := Lp.out.wr0 kq
  have Lin := Li.out.wr0 kq
  have Lnn := Ln.out.wr0 kq
  have Lp := qh Lpn
  have Li := qh Lin
  have Ln := qh Lnn
  have MQ := qh mq
  have cb := mq.rd.cell 1
  have fb := mq.rd.frozen 1
  simp only [qgaq, qgzq, qgsq] at cb
  clear y0 y1 y2 y3 y4 mq Lpn Lin Lnn kq
  cases ok with
  | true =>
   have mb : MdS 28 b z w ⟨r8.s, false⟩ #[.string (ansS v1), .slice Ap v3.length cp, .slice Ai v5.length ci, .int .i64 v6, .slice An v8.length cn] (wq.setCell ⟨b, 1, none⟩ (.bool (false))) :=
    ⟨Blk.far MQ.out.blk hzb _, Blk.set_ MQ.out.rd 1 (.bool (false)), MQ.out.wr.setOn (by simp) _⟩
   have kb : Wr [b] wq (wq.setCell ⟨b, 1, none⟩ (.bool (false))) := (Wr.refl _ _).setOn (by simp) _
   have Lpn := sl_b Lp.out kb hbz
   have Lin := sl_b Li.out kb hbz
   have Lnn := sl_b Ln.out kb hbz
   have Lp := qh Lpn
   have Li := qh Lin
   have Ln := qh Lnn
   have MB := qh mb
   clear Lpn Lin Lnn mb kb
   go_upto_region 7 with (fail)
   generalize wq.setCell ⟨b, 1, none⟩ (.bool (false)) = wB at *
   clear cb fb
   have zf := MB.out.blk
   obtain ⟨y0, y1, y2, y3, y4⟩ := c5q zf
   obtain ⟨f0, f1, f2, f3, f4⟩ := z5q zf
   clear zf
   go_wp2_with fail
   refine bodyPost_ret (v := .agg #[.string (ansS v1), .slice Ap v3.length cp, .slice Ai v5.length ci, .int .i64 v6, .slice An v8.length cn]) ?_ rfl ?_
   ·simp [results, Tryz.results61, go_sem, y0, y1, y2, y3, y4]
   ·rw [← HMD.out]
    have mz := ((((MB.out.set hzb hwz 0 (.string (ansS v1))).set hzb hwz 1 (.slice Ap v3.length cp)).set hzb hwz 2 (.slice Ai v5.length ci)).set hzb hwz 3 (.int .i64 v6)).set hzb hwz 4 (.slice An v8.length cn)
    have q1 := sl_z (sl_z (sl_z (sl_z (sl_z Lp.out 0 (.string (ansS v1))) 1 (.slice Ap v3.length cp)) 2 (.slice Ai v5.length ci)) 3 (.int .i64 v6)) 4 (.slice An v8.length cn)
    have q2 := sl_z (sl_z (sl_z (sl_z (sl_z Li.out 0 (.string (ansS v1))) 1 (.slice Ap v3.length cp)) 2 (.slice Ai v5.length ci)) 3 (.int .i64 v6)) 4 (.slice An v8.length cn)
    have q3 := sl_z (sl_z (sl_z (sl_z (sl_z Ln.out 0 (.string (ansS v1))) 1 (.slice Ap v3.length cp)) 2 (.slice Ai v5.length ci)) 3 (.int .i64 v6)) 4 (.slice An v8.length cn)
    refine ⟨_, _, _, rfl, mz.wr, ?_, q1.mono (fun x hx => by omega), q2.mono (fun x hx => by omega), q3.mono (fun x hx => by omega)⟩
    have := mz.rd
    rw [HRF2.out]; exact this
  | false =>
   have mb : MdS 28 b z w ⟨r8.s, true⟩ #[.string (ansS v1), .slice Ap v3.length cp, .slice Ai v5.length ci, .int .i64 v6, .slice An v8.length cn] (wq.setCell ⟨b, 1, none⟩ (.bool (true))) :=
    ⟨Blk.far MQ.out.blk hzb _, Blk.set_ MQ.out.rd 1 (.bool (true)), MQ.out.wr.setOn (by simp) _⟩
   have kb : Wr [b] wq (wq.setCell ⟨b, 1, none⟩ (.bool (true))) := (Wr.refl _ _).setOn (by simp) _
   have Lpn := sl_b Lp.out kb hbz
   have Lin := sl_b Li.out kb hbz
   have Lnn := sl_b Ln.out kb hbz
   have Lp := qh Lpn
   have Li := qh Lin
   have Ln := qh Lnn
   have MB := qh mb
   clear Lpn Lin Lnn mb kb
   go_upto_region 7 with (fail)
   generalize wq.setCell ⟨b, 1, none⟩ (.bool (true)) = wB at *
   clear cb fb
   have zf := MB.out.blk
   obtain ⟨y0, y1, y2, y3, y4⟩ := c5q zf
   obtain ⟨f0, f1, f2, f3, f4⟩ := z5q zf
   clear zf
   go_wp2_with fail
   refine bodyPost_ret (v := .agg #[.string (ansS v1), .slice Ap v3.length cp, .slice Ai v5.length ci, .int .i64 v6, .slice An v8.length cn]) ?_ rfl ?_
   ·simp [results, Tryz.results61, go_sem, y0, y1, y2, y3, y4]
   ·rw [← HMD.out]
    have mz := ((((MB.out.set hzb hwz 0 (.string (ansS v1))).set hzb hwz 1 (.slice Ap v3.length cp)).set hzb hwz 2 (.slice Ai v5.length ci)).set hzb hwz 3 (.int .i64 v6)).set hzb hwz 4 (.slice An v8.length cn)
    have q1 := sl_z (sl_z (sl_z (sl_z (sl_z Lp.out 0 (.string (ansS v1))) 1 (.slice Ap v3.length cp)) 2 (.slice Ai v5.length ci)) 3 (.int .i64 v6)) 4 (.slice An v8.length cn)
    have q2 := sl_z (sl_z (sl_z (sl_z (sl_z Li.out 0 (.string (ansS v1))) 1 (.slice Ap v3.length cp)) 2 (.slice Ai v5.length ci)) 3 (.int .i64 v6)) 4 (.slice An v8.length cn)
    have q3 := sl_z (sl_z (sl_z (sl_z (sl_z Ln.out 0 (.string (ansS v1))) 1 (.slice Ap v3.length cp)) 2 (.slice Ai v5.length ci)) 3 (.int .i64 v6)) 4 (.slice An v8.length cn)
    refine ⟨_, _, _, rfl, mz.wr, ?_, q1.mono (fun x hx => by omega), q2.mono (fun x hx => by omega), q3.mono (fun x hx => by omega)⟩
    have := mz.rd
    rw [HRF2.out]; exact this
end Go.Proofs.YtildcdgobdfieaaGreat
