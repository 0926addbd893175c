/- ObjLong: the plain law; zeros made, bytes made a text. No conditions. -/
import Derived.Test.YtildcdgobdfieaaGreatOL43
import Derived.Laws.IdiomStrings
import Derived.Laws.MakeOwn
import Derived.Test.YtildcdgobdfieaaGreatOL01
namespace Go.Proofs.YtildcdgobdfieaaGreat
open Go.RowKit
set_option linter.unusedVariables false
set_option linter.unusedSimpArgs false
def zerosO (n : Nat) : ByteArray := ⟨(List.replicate n (0 : UInt8)).toArray⟩
theorem zerosO_size (n : Nat) : (zerosO n).size = n := by
 show (List.replicate n (0 : UInt8)).toArray.size = n
 simp
theorem made_bytesO (n : Nat) (hn : n ≤ 1000) (w : World) : (Instr.makeSlice 42 (.int .i64 (n : Int)) (.int .i64 (n : Int))).run Tryz.prog w = .ok (.slice (some ⟨w.heap.size, 0, none⟩) n n) (w.alloc (.cells (madeCells #[.int .u8 0] n) 5)) := by
 obtain ⟨i1, hi1, hy0, hy1, hy2⟩ := info_parts info_u8
 have := run_make (P := Tryz.prog) w 42 5 i1 (.int .u8 0) Tryz.underlying42 hi1 hy0 .i64 .i64 (n : Int) (n : Int) (by omega) (Int.le_refl _) (by rw [hy2]; omega) (by omega)
 rw [hy1, Nat.mul_one, Int.toNat_natCast] at this
 exact this
theorem conv_zerosO (n : Nat) (w : World) (g : Nat) (h : Blk w g 5 (madeCells #[.int .u8 0] n)) : (convert 42 9 (.slice (some ⟨g, 0, none⟩) n n)).run Tryz.prog w = .ok (.string (zerosO n)) w := by
 have := run_convert_bytes_back (P := Tryz.prog) w 42 9 5 ⟨g, 0, none⟩ n (List.replicate n 0) Tryz.underlying42 Tryz.underlying5 Tryz.underlying9 (fun j hj => by
  rw [Addr.add_lit, Nat.zero_add, h.cell]
  rw [List.length_replicate] at hj
  simp [madeCells, hj, Nat.mod_one])
 rw [List.length_replicate] at this
 exact this
theorem conv_twoO (w : World) (g : Nat) (a b : Int) (hc : w.cell? ⟨g, 0, none⟩ = some (.int .u8 a)) (hd : w.cell? ⟨g, 1, none⟩ = some (.int .u8 b)) :
  (convert 42 9 (.slice (some ⟨g, 0, none⟩) 2 2)).run Tryz.prog w = .ok (.string ⟨#[UInt8.ofNat a.toNat, UInt8.ofNat b.toNat]⟩) w := by
 rw [run_convert_bytes_string w _ _ 5 _ 2 2 Tryz.underlying42 Tryz.underlying5 Tryz.underlying9,
  run_bytesToString w ⟨g, 0, none⟩ 2 2 [a, b] (by simp [loadCells, loadCellsFrom, run_load, hc, hd, Sem.run_bind, Result.andThen, Sem.run_pure, Addr.add])]
 rfl
def olName (i : Nat) : ByteArray := ⟨#[117, UInt8.ofNat (i % 256), UInt8.ofNat (i / 256)]⟩
theorem olName_eq (i : Nat) : (⟨#[117]⟩ : ByteArray) ++ ⟨#[UInt8.ofNat ((i % 256 : Nat) : Int).toNat, UInt8.ofNat ((i / 256 : Nat) : Int).toNat]⟩ = olName i := by
 unfold olName
 apply ByteArray.ext
 rw [ByteArray.data_append]
 rw [Int.toNat_natCast, Int.toNat_natCast]
 rfl
theorem olName_inj {i j : Nat} (hi : i < 65536) (hj : j < 65536) (h : olName i = olName j) : i = j := by
 unfold olName at h
 have h1 := congrArg (fun x : ByteArray => x.data.toList) h
 simp only [List.cons.injEq, and_true, true_and] at h1
 obtain ⟨e1, e2⟩ := h1
 have f1 := congrArg UInt8.toNat e1
 have f2 := congrArg UInt8.toNat e2
 simp only [UInt8.toNat_ofNat', Nat.reducePow] at f1 f2
 omega
def olUse (i : Nat) : UseD := ⟨olName i, 0⟩
def olUses (n : Nat) : List UseD := (List.range n).map olUse
theorem olUses_succ (n : Nat) : olUses (n + 1) = olUses n ++ [olUse n] := by
 unfold olUses
 rw [List.range_succ, List.map_append]
 rfl
theorem olUses_len (n : Nat) : (olUses n).length = n := by
 unfold olUses
 rw [List.length_map, List.length_range]
def nameO (n : Nat) : ObjD := ⟨zerosO n, false, 7, [], ⟨⟨#[]⟩, [plainPr], [], 0, []⟩⟩
def usesO (n : Nat) : ObjD := ⟨⟨#[77]⟩, false, 7, olUses n, ⟨⟨#[]⟩, [plainPr], [], 0, []⟩⟩
theorem plain_mod : omodB ⟨⟨#[]⟩, [plainPr], [], 0, []⟩ = true := by decide +kernel
theorem nameO_b (n : Nat) (h : 1 ≤ n) : objB (nameO n) = decide (n ≤ 255) := by
 unfold objB nameO nameB
 simp only [zerosO_size, plain_mod, List.length_nil, usesB]
 simp [h]
theorem usesB_all : ∀ (l : List UseD) (seen : List ByteArray), (∀ u ∈ l, nameB u.module = true) → (seen ++ l.map UseD.module).Nodup → usesB seen l = true
 | [], seen, _, _ => rfl
 | u :: l, seen, hn, h => by
  have h2 : ((seen ++ [u.module]) ++ l.map UseD.module).Nodup := by simpa using h
  have hs : u.module ∉ seen := by
   intro hm
   have := (List.nodup_append.1 h).2.2 u.module hm u.module (by simp)
   exact this rfl
  have hin : inL u.module seen = false := by
   cases hc : inL u.module seen with
   | false => rfl
   | true => exact absurd (inL_iff.1 hc) hs
  unfold usesB
  rw [hn u (by simp), hin, usesB_all l _ (fun v hv => hn v (by simp [hv])) h2]
  rfl
theorem usesO_b (n : Nat) (h : n ≤ 65536) : objB (usesO n) = decide (n ≤ 255) := by
 have hu : usesB [⟨#[77]⟩] (olUses n) = true := by
  refine usesB_all _ _ (fun u hu => ?_) ?_
  ·unfold olUses at hu
   obtain ⟨i, _, rfl⟩ := List.mem_map.1 hu
   show (decide (1 ≤ 3) && decide (3 ≤ 255)) = true
   rfl
  ·rw [List.nodup_append]
   refine ⟨by simp, ?_, ?_⟩
   ·unfold olUses
    rw [List.map_map, List.Nodup, List.pairwise_map]
    refine List.Pairwise.imp_of_mem ?_ (List.pairwise_lt_range (n := n))
    intro x y hx hy hlt e
    have hx := List.mem_range.1 hx
    have hy := List.mem_range.1 hy
    have := olName_inj (by omega) (by omega) e
    omega
   ·intro a ha b hb e
    rw [List.mem_singleton] at ha
    subst ha
    obtain ⟨u, hu, rfl⟩ := List.mem_map.1 hb
    unfold olUses at hu
    obtain ⟨i, _, rfl⟩ := List.mem_map.1 hu
    have := congrArg (fun x : ByteArray => x.size) e
    exact absurd this (by show ¬ (1 = 3); decide)
 unfold objB usesO
 simp only [hu, plain_mod, olUses_len]
 simp [nameB]
 intro _
 exact ⟨by decide, by decide⟩
theorem usesO_w (n : Nat) : objW (usesO n) := ⟨(by decide : (0 : Int) ≤ 7 ∧ (7 : Int) < 18446744073709551616), fun u hu => by
 unfold usesO olUses at hu
 obtain ⟨i, _, rfl⟩ := List.mem_map.1 hu
 exact (by decide : (0 : Int) ≤ 0 ∧ (0 : Int) < 18446744073709551616), by intro i hi; simp [usesO] at hi⟩
end Go.Proofs.YtildcdgobdfieaaGreat

/- ObjLong: walked. Conditions: the number is of its kind. -/
namespace Go.Proofs.YtildcdgobdfieaaGreat
open Go.RowKit
set_option linter.unusedVariables false
set_option linter.unusedSimpArgs false
def OlAt (ws : World) (z4 g2 k : Nat) (wr : World) : Prop := ∃ v, Wr [z4] ws wr ∧ Blk wr z4 30 #[.string ⟨#[77]⟩, .bool false, .int .u64 7, v, .string ⟨#[]⟩, .slice (some ⟨g2, 0, none⟩) 1 1, .slice none 0 0, .int .i64 0, .slice none 0 0] ∧ wr.ownsRow ws.heap.size 72 2 v k ((olUses k).flatMap UseD.cells)
theorem infoOl_use : (Tryz.prog.info? 72).map (fun i => (i.zero, i.size, i.bytes)) = some (some (.agg #[.string ⟨#[]⟩, .int .u64 0]), 2, 24) := by kernel_rfl
theorem name_objL {w : World} {g : Nat} (n : Nat) (h : Blk w g 98 #[.int .i64 0, .int .i64 0, .int .i64 0, .int .i64 0, .int .i64 1, .bool false]) : ObjL w (fun _ => True) (.slice none 0 0) (.slice (some ⟨g, 0, none⟩) 1 1) (.slice none 0 0) (.slice none 0 0) (nameO n) :=
 ⟨Sl.nil _ _ 2, plain_procs h, Sl.nil _ _ 1, Sl.nil _ _ 1⟩
theorem uses_objL {w : World} {g n : Nat} {v : Value} (h : Blk w g 98 #[.int .i64 0, .int .i64 0, .int .i64 0, .int .i64 0, .int .i64 1, .bool false]) (k : Sl w (fun _ => True) 2 v n ((olUses n).flatMap UseD.cells)) : ObjL w (fun _ => True) v (.slice (some ⟨g, 0, none⟩) 1 1) (.slice none 0 0) (.slice none 0 0) (usesO n) := by
 refine ⟨?_, plain_procs h, Sl.nil _ _ 1, Sl.nil _ _ 1⟩
 show Sl w _ 2 v (olUses n).length _
 rw [olUses_len]
 exact k
set_option maxRecDepth 100000 in
set_option maxHeartbeats 16000000 in
theorem objLong_any (over : Int) (ho : -128 ≤ over ∧ over ≤ 127) (w : World) : Calls Tryz.prog 6 #[.int .i8 over] w fun e w' => e = .returned (.bool true) ∧ Wr [] w w' := by
 obtain ⟨i0, hi0, hz0, hz1, hz2⟩ := info_parts infoOl_use
 obtain ⟨ho1, ho2⟩ := ho
 obtain ⟨n, hn⟩ : ∃ N : Nat, (N : Int) = 255 + over := ⟨(255 + over).toNat, by omega⟩
 have w1 : IntKind.i64.wrap over = over := by rw [IntKind.wrap_i64]; omega
 have hn1 : 127 ≤ n := by omega
 have hn2 : n ≤ 382 := by omega
 have e1 : 255 + over = (n : Int) := hn.symm
 have hle : decide (over ≤ 0) = decide (n ≤ 255) := decide_eq_decide.2 (by omega)
 have hmax : max (n : Int) 0 = (n : Int) := by omega
 have HN := Lib.hid hn
 have HLE := Lib.hid hle
 have HPE := Lib.hid plain_e
 have HAL := Lib.hid alive21
 clear hn hle
 go_enter Tryz.func6, Tryz.ntmps6
 go_wp2_with fail
 refine (HPE.out _).mono ?_
 rintro e wa ⟨g1, rfl, k1, _, b1⟩
 go_wp2_with fail
 refine (HPE.out _).mono ?_
 rintro e wb ⟨g2, rfl, k2, _, b2⟩
 have b1 := b1.wr0 k2
 have z3 := Blk.new wb 30 #[.string ⟨#[77]⟩, .bool false, .int .u64 7, .slice none 0 0, .string ⟨#[]⟩, .slice (some ⟨g1, 0, none⟩) 1 1, .slice none 0 0, .int .i64 0, .slice none 0 0]
 have m3 := (Wr.refl [] wb).alloc (.cells #[.string ⟨#[77]⟩, .bool false, .int .u64 7, .slice none 0 0, .string ⟨#[]⟩, .slice (some ⟨g1, 0, none⟩) 1 1, .slice none 0 0, .int .i64 0, .slice none 0 0] 30)
 have z4 := Blk.new (wb.alloc (.cells #[.string ⟨#[77]⟩, .bool false, .int .u64 7, .slice none 0 0, .string ⟨#[]⟩, .slice (some ⟨g1, 0, none⟩) 1 1, .slice none 0 0, .int .i64 0, .slice none 0 0] 30)) 30 #[.string ⟨#[77]⟩, .bool false, .int .u64 7, .slice none 0 0, .string ⟨#[]⟩, .slice (some ⟨g2, 0, none⟩) 1 1, .slice none 0 0, .int .i64 0, .slice none 0 0]
 have m4 := (Wr.refl [] (wb.alloc (.cells #[.string ⟨#[77]⟩, .bool false, .int .u64 7, .slice none 0 0, .string ⟨#[]⟩, .slice (some ⟨g1, 0, none⟩) 1 1, .slice none 0 0, .int .i64 0, .slice none 0 0] 30))).alloc (.cells #[.string ⟨#[77]⟩, .bool false, .int .u64 7, .slice none 0 0, .string ⟨#[]⟩, .slice (some ⟨g2, 0, none⟩) 1 1, .slice none 0 0, .int .i64 0, .slice none 0 0] 30)
 have z3 := z3.wr0 m4
 have mm := m3.trans m4
 rw [World.size_alloc] at z4
 have b1 := b1.wr0 mm
 have b2 := b2.wr0 mm
 have acc := (k1.trans k2).trans mm
 have l1 := k1.size
 have l2 := k2.size
 have g1l := (Blk.lt b1)
 go_upto_region 2 with (fail)
 generalize (wb.alloc (.cells #[.string ⟨#[77]⟩, .bool false, .int .u64 7, .slice none 0 0, .string ⟨#[]⟩, .slice (some ⟨g1, 0, none⟩) 1 1, .slice none 0 0, .int .i64 0, .slice none 0 0] 30)).alloc (.cells #[.string ⟨#[77]⟩, .bool false, .int .u64 7, .slice none 0 0, .string ⟨#[]⟩, .slice (some ⟨g2, 0, none⟩) 1 1, .slice none 0 0, .int .i64 0, .slice none 0 0] 30) = wc at *
 have hzz : wb.heap.size ≠ wb.heap.size + 1 := by omega
 have hwz : w.heap.size ≤ wb.heap.size := by omega
 have hcb1 : g1 ≠ wb.heap.size := by
  intro e
  rw [e] at b1
  have h1 := b1.cell 0
  have h2 := z3.cell 0
  rw [h1] at h2
  simp at h2
 have hcb2 : g2 ≠ wb.heap.size := by
  intro e
  rw [e] at b2
  have h1 := b2.cell 0
  have h2 := z3.cell 0
  rw [h1] at h2
  simp at h2
 have hcb3 : g1 ≠ wb.heap.size + 1 := by
  intro e
  rw [e] at b1
  have h1 := b1.cell 0
  have h2 := z4.cell 0
  rw [h1] at h2
  simp at h2
 have hcb4 : g2 ≠ wb.heap.size + 1 := by
  intro e
  rw [e] at b2
  have h1 := b2.cell 0
  have h2 := z4.cell 0
  rw [h1] at h2
  simp at h2
 generalize hq3 : wb.heap.size = q3 at *
 generalize hq4 : q3 + 1 = q4 at *
 have hw4 : w.heap.size ≤ q4 := by omega
 clear k1 k2 m3 m4 mm l1 l2 g1l hq3
 -- the long name
 have hmk := made_bytesO n (by omega) wc
 have hbz := Blk.new wc 5 (madeCells #[.int .u8 0] n)
 have mz := (Wr.refl [] wc).alloc (.cells (madeCells #[.int .u8 0] n) 5)
 have hcv := conv_zerosO n (wc.alloc (.cells (madeCells #[.int .u8 0] n) 5)) wc.heap.size hbz
 have z3a := z3.wr0 mz
 have f0 := z3a.frozen 0
 have y0 := z3a.cell 0
 simp only [qgaq, qgzq, qgsq] at y0
 go_upto_region 3 with (fail)
 have ks : Wr [q3] (wc.alloc (.cells (madeCells #[.int .u8 0] n) 5)) ((wc.alloc (.cells (madeCells #[.int .u8 0] n) 5)).setCell ⟨q3, 0, none⟩ (.string (zerosO n))) := (Wr.refl _ _).setOn (by simp) _
 have z3d := z3a.set_ 0 (.string (zerosO n))
 simp only [qsaq, qszq, qssq] at z3d
 have z4d := (z4.wr0 mz).wr ks (by simp; omega)
 have b1d := (b1.wr0 mz).wr ks (by simpa using hcb1)
 have b2d := (b2.wr0 mz).wr ks (by simpa using hcb2)
 have accd := (acc.trans mz).setNew (b := q3) (o := 0) hwz (.string (zerosO n))
 generalize (wc.alloc (.cells (madeCells #[.int .u8 0] n) 5)).setCell ⟨q3, 0, none⟩ (.string (zerosO n)) = wd at *
 have Z3 := Lib.hid z3d
 have B1 := Lib.hid b1d
 have B2 := Lib.hid b2d
 have ACC := Lib.hid accd
 have Z4 := Lib.hid z4d
 have hl3 := z3d.lt
 have hl4 := z4d.lt
 have hlb1 := b1d.lt
 have hlb2 := b2d.lt
 clear hmk hbz mz hcv z3a f0 y0 ks z3d z4d b1d b2d accd z3 z4 b1 b2 acc
 go_wp2_with fail
 go_loopw [5] (fun sl wr => ∃ k : Nat, k ≤ n ∧ sl = .int .i64 k ∧ OlAt wd q4 g2 k wr) (fun sl _ => n - (intOf sl).toNat)
 case atStart => exact ⟨0, by omega, rfl, _, Wr.refl _ _, Z4.out, ⟨rfl, .inl ⟨rfl, rfl⟩⟩⟩
 case round =>
  obtain ⟨k, hk, rfl, v, kr, zr, own⟩ := hrel
  have hrs := kr.size
  by_cases hlt : k < n
  ·have hlti : (k : Int) < (n : Int) := by omega
   have hk0 : (0 : Int) ≤ (k : Int) := by omega
   obtain ⟨a, ha⟩ : ∃ a, k % 256 = a := ⟨_, rfl⟩
   obtain ⟨b, hb⟩ : ∃ b, k / 256 = b := ⟨_, rfl⟩
   have c1 : IntKind.u8.wrap (k : Int) = (a : Int) := by rw [IntKind.wrap_u8, ← ha]; omega
   have c2 : IntKind.u8.wrap ((k : Int) / 256) = (b : Int) := by rw [IntKind.wrap_u8, ← hb]; omega
   have hnm := olName_eq k
   rw [ha, hb] at hnm
   have bA := Blk.new wr 5 #[.int .u8 (a : Int), .int .u8 (b : Int)]
   have mA := (Wr.refl [] wr).alloc (.cells #[.int .u8 (a : Int), .int .u8 (b : Int)] 5)
   have hcv := conv_twoO (wr.alloc (.cells #[.int .u8 (a : Int), .int .u8 (b : Int)] 5)) wr.heap.size (a : Int) (b : Int) (bA.cell 0) (bA.cell 1)
   obtain ⟨XY, hXY⟩ : ∃ q : ByteArray, ⟨#[UInt8.ofNat (a : Int).toNat, UInt8.ofNat (b : Int).toNat]⟩ = q := ⟨_, rfl⟩
   have hxs : XY.size = 2 := by rw [← hXY]; rfl
   rw [hXY] at hcv hnm
   obtain ⟨NM, hNM⟩ : ∃ q, olName k = q := ⟨_, rfl⟩
   rw [hNM] at hnm
   obtain ⟨wA, hwA⟩ : ∃ q, wr.alloc (.cells #[.int .u8 (a : Int), .int .u8 (b : Int)] 5) = q := ⟨_, rfl⟩
   have bU := Blk.new wA 72 #[.string NM, .int .u64 0]
   have hsA : wA.heap.size = wr.heap.size + 1 := by rw [← hwA, World.size_alloc]
   rw [hsA] at bU
   have mU := (Wr.refl [] wA).alloc (.cells #[.string NM, .int .u64 0] 72)
   have mAU : Wr [] wr (wA.alloc (.cells #[.string NM, .int .u64 0] 72)) := by rw [← hwA]; exact mA.trans (by rw [hwA]; exact mU)
   have ownU := own_wr0 own mAU
   obtain ⟨A', c', w3, hrun, hown', r3, _⟩ := push_obj (ys := [.string NM, .int .u64 0]) Tryz.underlying23 hi0 hz0 hz1 hz2 rfl (by decide) ownU bU rfl (by intro u hu; simp only [List.mem_cons, List.not_mem_nil, or_false] at hu; rcases hu with rfl | rfl <;> rfl) (by omega) (by decide) (Nat.le_trans hrs mAU.size)
   have hnb : q4 ∉ ownL v := fun hx => by have := own_ge own _ hx; omega
   have zr1 := zr.wr0 mAU
   have zr3 := zr1.wr r3 hnb
   have f3 := zr3.frozen 3
   have y3 := zr3.cell 3
   have x3 := zr.cell 3
   have x3b := zr1.cell 3
   simp only [qgaq, qgzq, qgsq] at y3 x3 x3b
   have zr4 := zr3.set_ 3 (.slice A' (k + 1) c')
   simp only [qsaq, qszq, qssq] at zr4
   have own4 : (w3.setCell ⟨q4, 3, none⟩ (.slice A' (k + 1) c')).ownsRow wd.heap.size 72 2 (.slice A' (k + 1) c') (k + 1) ((olUses (k + 1)).flatMap UseD.cells) := by
    have h2 := own_wrb hown' ((Wr.refl [q4] w3).setOn (by simp) (.slice A' (k + 1) c') : Wr [q4] w3 (w3.setCell ⟨q4, 3, none⟩ (.slice A' (k + 1) c'))) hl4
    rw [olUses_succ, List.flatMap_append]
    have e : [olUse k].flatMap UseD.cells = [.string NM, .int .u64 0] := by rw [← hNM]; rfl
    rw [e]
    exact h2
   have kr4 : Wr [q4] wd (w3.setCell ⟨q4, 3, none⟩ (.slice A' (k + 1) c')) := ((kr.trans mAU.nil).trans' r3 (fun x hx => .inr (own_ge own x hx))).setOn (by simp) _
   have HFIN := Lib.hid (show OlAt wd q4 g2 (k + 1) (w3.setCell ⟨q4, 3, none⟩ (.slice A' (k + 1) c')) from ⟨_, kr4, zr4, own4⟩)
   have HRUN := Lib.hid hrun
   have HWA := Lib.hid hwA
   have hsv : ∃ A c, v = .slice A k c := by
    rcases own.2 with ⟨e1, e2⟩ | ⟨g, cap, cur, e, _⟩
    ·exact ⟨none, 0, by rw [e1, e2]⟩
    ·exact ⟨_, _, e⟩
   obtain ⟨Av, cv, rfl⟩ := hsv
   clear ha hb hsA bA mA hXY hNM hwA bU mU mAU ownU hrun hown' r3 hnb zr1 zr3 zr4 own4 kr4 own kr zr hrs
   go_wp2_with (at_builtin; rw [HWA.out]; refine wpList_append_run rfl _ _ _ rfl _ _ rfl rfl _ _ HRUN.out ?_)
   refine ⟨⟨k + 1, by omega, by push_cast; rfl, HFIN.out⟩, by simp only [intOf]; omega⟩
  ·obtain rfl : k = n := by omega
   have hsl : Sl wr (fun _ => True) 2 v k ((olUses k).flatMap UseD.cells) := Sl.ofOwn own (fun _ _ => trivial)
   obtain ⟨Av, cv, rfl, _, _⟩ := Sl.form hsl
   have b1w := B1.out.wr kr (by simpa using hcb3)
   have b2w := B2.out.wr kr (by simpa using hcb4)
   have z3w := Z3.out.wr kr (by simpa using hzz)
   have hoe := oenc_any (usesO k) _ _ _ _ _ (usesO_w k) wr (uses_objL b2w hsl)
   have hm1 := fun W (hW : Wr [] wr W) => omay_any (nameO k) _ _ _ _ _ W ((name_objL k b1w).wr0 hW)
   have hm2 := fun W (hW : Wr [] wr W) => omay_any (usesO k) _ _ _ _ _ W ((uses_objL b2w hsl).wr0 hW)
   unfold OEncR encodeP at hoe
   rw [nameO_b k (by omega)] at hm1
   rw [usesO_b k (by omega)] at hm2 hoe
   simp only [ObjD.val, ObjD.cells] at hoe hm1 hm2
   have hlen : (usesO k).uses.length = k := olUses_len k
   have accw : Wr [] w wr := wr_own2 (ACC.out.nil (l := [q4])) kr hw4 hw4
   have y0 := (zr).cell 0
   have y1 := (zr).cell 1
   have y2 := (zr).cell 2
   have y3 := (zr).cell 3
   have y4 := (zr).cell 4
   have y5 := (zr).cell 5
   have y6 := (zr).cell 6
   have y7 := (zr).cell 7
   have y8 := (zr).cell 8
   simp only [qgaq, qgzq, qgsq] at y0 y1 y2 y3 y4 y5 y6 y7 y8
   have HE := HLE.out
   have Z3W := Lib.hid z3w
   have ZRW := Lib.hid zr
   have HM1 := Lib.hid hm1
   have HM2 := Lib.hid hm2
   have AW := Lib.hid accw
   cases hd : decide (k ≤ 255) with
   | true =>
    rw [hd] at HE
    have hm1 := HM1.out
    have hm2 := HM2.out
    rw [hd] at hm1 hm2
    simp only [hd, if_true, if_false, Bool.false_eq_true] at hoe
    obtain ⟨ES, hES⟩ : ∃ q : ByteArray, ⟨(fileL objKind (bodyL (usesO k))).toArray⟩ = q := ⟨_, rfl⟩
    simp only [hES] at hoe
    clear hES
    simp only [usesO] at hoe hm2
    simp only [nameO] at hm1
    have hov : over ≤ 0 := of_decide_eq_true HE
    have HOE := Lib.hid hoe
    have HN1 := Lib.hid hm1
    have HN2 := Lib.hid hm2
    clear hoe hm1 hm2 HM1 HM2 hd HLE own kr zr hsl b1w b2w z3w hlen accw
    go_wp2_with fail
    refine HOE.out.mono ?_
    rintro e w5 ⟨rfl, k5⟩
    have z5 := Z3W.out.wr0 k5
    have x0 := (z5).cell 0
    have x1 := (z5).cell 1
    have x2 := (z5).cell 2
    have x3 := (z5).cell 3
    have x4 := (z5).cell 4
    have x5 := (z5).cell 5
    have x6 := (z5).cell 6
    have x7 := (z5).cell 7
    have x8 := (z5).cell 8
    simp only [qgaq, qgzq, qgsq] at x0 x1 x2 x3 x4 x5 x6 x7 x8
    have c1 := HN1.out _ k5
    have HC1 := Lib.hid c1
    have K5 := Lib.hid k5
    clear z5 c1 k5
    go_wp2_with fail
    refine HC1.out.mono ?_
    rintro e w6 ⟨rfl, k6⟩
    have k56 := K5.out.trans k6
    have z6 := ZRW.out.wr0 k56
    have v0 := (z6).cell 0
    have v1 := (z6).cell 1
    have v2 := (z6).cell 2
    have v3 := (z6).cell 3
    have v4 := (z6).cell 4
    have v5 := (z6).cell 5
    have v6 := (z6).cell 6
    have v7 := (z6).cell 7
    have v8 := (z6).cell 8
    simp only [qgaq, qgzq, qgsq] at v0 v1 v2 v3 v4 v5 v6 v7 v8
    have c2 := HN2.out _ k56
    have HC2 := Lib.hid c2
    have K6 := Lib.hid k56
    clear z6 c2 k56 k6
    go_wp2_with fail
    refine HC2.out.mono ?_
    rintro e w7 ⟨rfl, k7⟩
    have K7 := Lib.hid (K6.out.trans k7)
    clear k7
    go_wp2_with fail
    refine (HAL.out _).mono ?_
    rintro e w8 ⟨rfl, k8⟩
    have K8 := Lib.hid (K7.out.trans k8)
    clear k8
    go_wp2_with fail
    go_ret
    exact ⟨rfl, AW.out.trans K8.out⟩
   | false =>
    rw [hd] at HE
    have hm1 := HM1.out
    have hm2 := HM2.out
    rw [hd] at hm1 hm2
    simp only [hd, if_true, if_false, Bool.false_eq_true] at hoe
    simp only [usesO] at hoe hm2
    simp only [nameO] at hm1
    have hov : ¬ over ≤ 0 := of_decide_eq_false HE
    have HOE := Lib.hid hoe
    have HN1 := Lib.hid hm1
    have HN2 := Lib.hid hm2
    clear hoe hm1 hm2 HM1 HM2 hd HLE own kr zr hsl b1w b2w z3w hlen accw
    go_wp2_with fail
    refine HOE.out.mono ?_
    rintro e w5 ⟨rfl, k5⟩
    have z5 := Z3W.out.wr0 k5
    have x0 := (z5).cell 0
    have x1 := (z5).cell 1
    have x2 := (z5).cell 2
    have x3 := (z5).cell 3
    have x4 := (z5).cell 4
    have x5 := (z5).cell 5
    have x6 := (z5).cell 6
    have x7 := (z5).cell 7
    have x8 := (z5).cell 8
    simp only [qgaq, qgzq, qgsq] at x0 x1 x2 x3 x4 x5 x6 x7 x8
    have c1 := HN1.out _ k5
    have HC1 := Lib.hid c1
    have K5 := Lib.hid k5
    clear z5 c1 k5
    go_wp2_with fail
    refine HC1.out.mono ?_
    rintro e w6 ⟨rfl, k6⟩
    have k56 := K5.out.trans k6
    have z6 := ZRW.out.wr0 k56
    have v0 := (z6).cell 0
    have v1 := (z6).cell 1
    have v2 := (z6).cell 2
    have v3 := (z6).cell 3
    have v4 := (z6).cell 4
    have v5 := (z6).cell 5
    have v6 := (z6).cell 6
    have v7 := (z6).cell 7
    have v8 := (z6).cell 8
    simp only [qgaq, qgzq, qgsq] at v0 v1 v2 v3 v4 v5 v6 v7 v8
    have c2 := HN2.out _ k56
    have HC2 := Lib.hid c2
    have K6 := Lib.hid k56
    clear z6 c2 k56 k6
    go_wp2_with fail
    refine HC2.out.mono ?_
    rintro e w7 ⟨rfl, k7⟩
    have K7 := Lib.hid (K6.out.trans k7)
    clear k7
    go_wp2_with fail
    refine (HAL.out _).mono ?_
    rintro e w8 ⟨rfl, k8⟩
    have K8 := Lib.hid (K7.out.trans k8)
    clear k8
    go_wp2_with fail
    go_ret
    exact ⟨rfl, AW.out.trans K8.out⟩
end Go.Proofs.YtildcdgobdfieaaGreat

/- ObjLong, over the argument as it is opened. No conditions. -/
namespace Go.Proofs.YtildcdgobdfieaaGreat
open Go.RowKit
theorem objLong_walk (w : World) (a : Int) (ha : (Lit.int .i8 a).wf = true) : Calls Tryz.prog 6 #[.int .i8 a] w fun e w' => e = .returned (.bool true) ∧ Wr [] w w' := by
 have hb : -128 ≤ a ∧ a ≤ 127 := by
  have := ha
  simp [Lit.wf, IntKind.min, IntKind.max, IntKind.bits, IntKind.signed] at this
  omega
 exact objLong_any a hb w
end Go.Proofs.YtildcdgobdfieaaGreat
