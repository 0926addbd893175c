/- Rec.Type, walked. Conditions: its fields are such as Go has; it stands behind some types; not too many labels. -/
import Derived.Test.YtloihffdolehhaaLyT
import Derived.Test.YtloihffdolehhaaRegL
namespace Go.Proofs.Ytloihffdolehhaa
open Go.RowKit
set_option linter.unusedVariables false
set_option linter.unusedSimpArgs false
attribute [local go_sem ↓] Go.wp_at_zero Go.wp_at_succ

theorem conv_name (w : World) (g : Nat) (i : Nat) (hi : i < 100) (hc : w.cell? ⟨g, 0, none⟩ = some (.int .u8 (97 + (i : Int)))) :
    (convert 51 9 (.slice (some ⟨g, 0, none⟩) 1 1)).run Try.prog w = .ok (.string (nmOf i)) w := by
  rw [run_convert_bytes_string w _ _ 5 _ 1 1 Try.underlying51 Try.underlying5 Try.underlying9,
    run_bytesToString w ⟨g, 0, none⟩ 1 1 [97 + (i : Int)] (by simp [loadCells, loadCellsFrom, run_load, hc, Sem.run_bind, Result.andThen, Sem.run_pure, Addr.add])]
  have e : (97 + (i : Int)).toNat = 97 + i := by omega
  simp only [List.foldl_cons, List.foldl_nil, e]
  rfl

/-- At the head of a round of the first loop. -/
def FldsAt (w1 : World) (m : RecD) (n : Int) (h : Nat) (s6 : Value) (wr : World) : Prop :=
  ∃ (i : Nat) (vf : Value), i ≤ min m.ts.length 8 ∧ s6 = .int .i64 i ∧ Wr [h] w1 wr ∧ Blk wr h 38 #[.int .u8 12, .string ⟨#[]⟩, .string ⟨#[]⟩, .int .i64 0, .int .i64 0, .int .i64 0, .int .i64 0, .slice none 0 0, vf, .slice none 0 0, .slice none 0 0, .int .i64 0] ∧ wr.ownsRow (h + 1) 45 3 vf i ((m.flds n i).flatMap Fld.cells)
/-- Of the second. -/
def ArmsAt (w2 : World) (m : RecD) (h : Nat) (vf : Value) (s8 : Value) (wr : World) : Prop :=
  ∃ (i : Nat) (va : Value) (xs : List Value), i ≤ 3 ∧ s8 = .int .i64 i ∧ Wr [h] w2 wr ∧ Blk wr h 38 #[.int .u8 12, .string ⟨#[]⟩, .string ⟨#[]⟩, .int .i64 0, .int .i64 0, .int .i64 0, .int .i64 0, .slice none 0 0, vf, va, .slice none 0 0, .int .i64 0] ∧ ArmsOk wr w2.heap.size (fun b => w2.heap.size ≤ b ∧ b ∉ ownL va) va xs (m.arms i)
/-- Of the one within it. -/
def PickAt (w9 : World) (m : RecD) (i g : Nat) (bl : Bool) (s10 : Value) (wr : World) : Prop :=
  ∃ (j k : Nat) (sF sT : Value), j ≤ m.cnt i ∧ k = i + 3 * j ∧ s10 = .int .i64 k ∧ Wr [g] w9 wr ∧ Blk wr g 54 #[sF, sT, .bool bl] ∧
    wr.ownsRow w9.heap.size 2 1 sF j ((pickL m.fs i j).map (Value.int .i64)) ∧ wr.ownsRow w9.heap.size 2 1 sT j ((pickL m.tos i j).map (Value.int .i64)) ∧ (∀ x ∈ ownL sF, x ∉ ownL sT)
theorem pick_len (l : List Int) (i c : Nat) : (pickL l i c).length = c := by simp [pickL]
theorem nil_own : ownL (.slice none 0 0) = [] := rfl

set_option maxRecDepth 100000 in
set_option maxHeartbeats 8000000 in
theorem rec_any (w : World) (m : RecD) (n : Int) (AT AA AF AO : Option Addr) (cT cA cF cO : Nat) (hT : IntsAt w .u16 AT cT m.ts) (hA : IntsAt w .u8 AA cA m.ars) (hF : IntsAt w .i16 AF cF m.fs) (hO : IntsAt w .i16 AO cO m.tos) (hn : 1 ≤ n ∧ n ≤ 4096) (hf : m.fs.length ≤ 200) :
    Calls Try.prog 19 #[.agg #[.slice AT m.ts.length cT, .slice AA m.ars.length cA, .slice AF m.fs.length cF, .slice AO m.tos.length cO], .int .i64 n] w (CopyP w (m.ty n)) := by
  obtain ⟨n0, n1⟩ := hn
  have lT := And.intro hT.1 hT.2.1
  have lA := And.intro hA.1 hA.2.1
  have lF := And.intro hF.1 hF.2.1
  have lO := And.intro hO.1 hO.2.1
  unfold maxLen at lT lA lF lO
  have HT := Lib.hid hT
  have HA := Lib.hid hA
  have HF := Lib.hid hF
  have HO := Lib.hid hO
  clear hT hA hF hO
  go_enter Try.func19, Try.ntmps19
  go_wp2_with fail
  have hbb := ((Blk.new w 67 #[.slice AT m.ts.length cT, .slice AA m.ars.length cA, .slice AF m.fs.length cF, .slice AO m.tos.length cO]).alloc (.cells #[.int .u8 0, .string ⟨#[]⟩, .string ⟨#[]⟩, .int .i64 0, .int .i64 0, .int .i64 0, .int .i64 0, .slice none 0 0, .slice none 0 0, .slice none 0 0, .slice none 0 0, .int .i64 0] 38)).alloc (.cells #[.int .u8 12, .string ⟨#[]⟩, .string ⟨#[]⟩, .int .i64 0, .int .i64 0, .int .i64 0, .int .i64 0, .slice none 0 0, .slice none 0 0, .slice none 0 0, .slice none 0 0, .int .i64 0] 38)
  have hbz := (Blk.new (w.alloc (.cells #[.slice AT m.ts.length cT, .slice AA m.ars.length cA, .slice AF m.fs.length cF, .slice AO m.tos.length cO] 67)) 38 #[.int .u8 0, .string ⟨#[]⟩, .string ⟨#[]⟩, .int .i64 0, .int .i64 0, .int .i64 0, .int .i64 0, .slice none 0 0, .slice none 0 0, .slice none 0 0, .slice none 0 0, .int .i64 0]).alloc (.cells #[.int .u8 12, .string ⟨#[]⟩, .string ⟨#[]⟩, .int .i64 0, .int .i64 0, .int .i64 0, .int .i64 0, .slice none 0 0, .slice none 0 0, .slice none 0 0, .slice none 0 0, .int .i64 0] 38)
  have hbt := Blk.new ((w.alloc (.cells #[.slice AT m.ts.length cT, .slice AA m.ars.length cA, .slice AF m.fs.length cF, .slice AO m.tos.length cO] 67)).alloc (.cells #[.int .u8 0, .string ⟨#[]⟩, .string ⟨#[]⟩, .int .i64 0, .int .i64 0, .int .i64 0, .int .i64 0, .slice none 0 0, .slice none 0 0, .slice none 0 0, .slice none 0 0, .int .i64 0] 38)) 38 #[.int .u8 12, .string ⟨#[]⟩, .string ⟨#[]⟩, .int .i64 0, .int .i64 0, .int .i64 0, .int .i64 0, .slice none 0 0, .slice none 0 0, .slice none 0 0, .slice none 0 0, .int .i64 0]
  have acc := (((Wr.refl [] w).alloc (.cells #[.slice AT m.ts.length cT, .slice AA m.ars.length cA, .slice AF m.fs.length cF, .slice AO m.tos.length cO] 67)).alloc (.cells #[.int .u8 0, .string ⟨#[]⟩, .string ⟨#[]⟩, .int .i64 0, .int .i64 0, .int .i64 0, .int .i64 0, .slice none 0 0, .slice none 0 0, .slice none 0 0, .slice none 0 0, .int .i64 0] 38)).alloc (.cells #[.int .u8 12, .string ⟨#[]⟩, .string ⟨#[]⟩, .int .i64 0, .int .i64 0, .int .i64 0, .int .i64 0, .slice none 0 0, .slice none 0 0, .slice none 0 0, .slice none 0 0, .int .i64 0] 38)
  simp only [World.size_alloc] at hbz hbt
  have HBB := Lib.hid hbb
  have HBZ := Lib.hid hbz
  have ACC := Lib.hid acc
  have at0 : FldsAt _ m n (w.heap.size + 1 + 1) (.int .i64 0) _ := ⟨0, .slice none 0 0, Nat.zero_le _, rfl, Wr.refl _ _, hbt, World.ownsRow_nil _ _ _ _⟩
  have zt := hbt.lt
  have sz : (((w.alloc (.cells #[.slice AT m.ts.length cT, .slice AA m.ars.length cA, .slice AF m.fs.length cF, .slice AO m.tos.length cO] 67)).alloc (.cells #[.int .u8 0, .string ⟨#[]⟩, .string ⟨#[]⟩, .int .i64 0, .int .i64 0, .int .i64 0, .int .i64 0, .slice none 0 0, .slice none 0 0, .slice none 0 0, .slice none 0 0, .int .i64 0] 38)).alloc (.cells #[.int .u8 12, .string ⟨#[]⟩, .string ⟨#[]⟩, .int .i64 0, .int .i64 0, .int .i64 0, .int .i64 0, .slice none 0 0, .slice none 0 0, .slice none 0 0, .slice none 0 0, .int .i64 0] 38)).heap.size = w.heap.size + 1 + 1 + 1 := by rw [World.size_alloc, World.size_alloc, World.size_alloc]
  generalize ((w.alloc (.cells #[.slice AT m.ts.length cT, .slice AA m.ars.length cA, .slice AF m.fs.length cF, .slice AO m.tos.length cO] 67)).alloc (.cells #[.int .u8 0, .string ⟨#[]⟩, .string ⟨#[]⟩, .int .i64 0, .int .i64 0, .int .i64 0, .int .i64 0, .slice none 0 0, .slice none 0 0, .slice none 0 0, .slice none 0 0, .int .i64 0] 38)).alloc (.cells #[.int .u8 12, .string ⟨#[]⟩, .string ⟨#[]⟩, .int .i64 0, .int .i64 0, .int .i64 0, .int .i64 0, .slice none 0 0, .slice none 0 0, .slice none 0 0, .slice none 0 0, .int .i64 0] 38) = w1 at *
  generalize hh : w.heap.size + 1 + 1 = h at *
  have hgh : w.heap.size + 1 < h := by omega
  clear hh
  have AT0 := Lib.hid at0
  clear hbb hbz hbt acc at0
  go_loopw [6] (fun s6 wr => FldsAt w1 m n h s6 wr) (fun s6 _ => 8 - (intOf s6).toNat)
  case atStart => exact AT0.out
  case round =>
    clear AT0
    obtain ⟨i, vf, hi, rfl, hr, hb, ho⟩ := hrel
    obtain ⟨Ao, co, hvo, _, _⟩ := Sl.form (P := fun _ => True) (Sl.ofOwn ho (fun _ _ => trivial))
    subst hvo
    have hbb := HBB.out.wr hr (by simp; omega)
    have m0 := hbb.cell 0
    have m1 := hbb.cell 1
    have t8 := hb.cell 8
    have zb := hbb.lt
    have zh := hb.lt
    have zr := hr.size
    simp only [List.getElem?_toArray, List.getElem?_cons_zero, List.getElem?_cons_succ] at m0 m1 t8
    have HR := Lib.hid hr
    have HB := Lib.hid hb
    have HO1 := Lib.hid ho
    obtain ⟨lT0, lT1⟩ := lT
    obtain ⟨lA0, lA1⟩ := lA
    clear hr hb ho hbb
    by_cases hlt : i < min m.ts.length 8
    · obtain ⟨bT, oT, rfl, cT0⟩ := HT.out.2.2.2 i (by omega)
      have hbT := World.block_lt_of_cell? w _ cT0
      simp only at hbT
      have HNO := Lib.hid (fun (y : Nat) (hy : y ≤ h) (hm : y ∈ ownL (Value.slice Ao i co)) => (by have := (HO1.out.lt y (mem_ownL.1 hm)).1; omega : False))
      replace cT0 := HR.out.cellOf (ACC.out.cellOf cT0 (by simp)) (fun hm => by have hz := World.block_lt_of_cell? w _ cT0; simp at hm hz; omega)
      obtain ⟨y0, y1⟩ := Go.bounds_u16 (HT.out.2.2.1 i (by omega))
      obtain ⟨tt, htt⟩ : ∃ tt, tt = m.ts.getD i 0 := ⟨_, rfl⟩
      rw [← htt] at cT0 y0 y1
      have q1 : IntKind.i64.wrap tt = tt := by rw [IntKind.wrap_i64]; omega
      have q2 : Int.tmod tt n = tt % n := Int.tmod_eq_emod_of_nonneg y0
      have q3 : IntKind.u8.wrap (i : Int) = i := by rw [IntKind.wrap_u8]; omega
      have q4 : IntKind.u8.wrap (97 + (i : Int)) = 97 + i := by rw [IntKind.wrap_u8]; omega
      have hi0 : (0 : Int) ≤ (i : Int) := by omega
      have hi1 : (i : Int) < (m.ts.length : Int) := by omega
      have hi2 : (i : Int) < 8 := by omega
      have hn0 : ¬n = 0 := by omega
      have e0 := ((Wr.refl [] wr).alloc (.cells #[.int .u8 (97 + (i : Int))] 5)).cellOf m0 (by simp)
      have e1 := ((Wr.refl [] wr).alloc (.cells #[.int .u8 (97 + (i : Int))] 5)).cellOf cT0 (by simp)
      have e8 := ((Wr.refl [] wr).alloc (.cells #[.int .u8 (97 + (i : Int))] 5)).cellOf t8 (by simp)
      by_cases hia : i < m.ars.length
      · obtain ⟨bA, oA, rfl, cA0⟩ := HA.out.2.2.2 i hia
        have hbA := World.block_lt_of_cell? w _ cA0
        simp only at hbA
        replace cA0 := HR.out.cellOf (ACC.out.cellOf cA0 (by simp)) (fun hm => by have hz := World.block_lt_of_cell? w _ cA0; simp at hm hz; omega)
        obtain ⟨k0, k1⟩ := Go.bounds_u8 (HA.out.2.2.1 i hia)
        obtain ⟨aa, haa⟩ : ∃ aa, aa = m.ars.getD i 0 := ⟨_, rfl⟩
        rw [← haa] at cA0 k0 k1
        have q5 : Int.tmod aa 5 = aa % 5 := Int.tmod_eq_emod_of_nonneg k0
        have q6 : IntKind.i64.wrap (aa % 5) = aa % 5 := by rw [IntKind.wrap_i64]; omega
        have q7 : IntKind.u8.wrap (aa % 5) = aa % 5 := by rw [IntKind.wrap_u8]; omega
        have hia1 : (i : Int) < (m.ars.length : Int) := by omega
        have hfl : m.fld n i = ⟨nmOf i, tt % n, aa % 5⟩ := by rw [RecD.fld, ← htt, ← haa, if_pos hia]
        clear haa
        obtain ⟨v3, w3, hrun, ho3, r3, hat3⟩ := append_fld (h + 1) _ i _ ((wr.alloc (.cells #[.int .u8 (97 + (i : Int))] 5)).drew) (HO1.out.alloc _).drew (m.fld n i) (by omega) (by show h + 1 ≤ (wr.alloc (.cells #[.int .u8 (97 + (i : Int))] 5)).heap.size; rw [World.size_alloc]; omega)
        obtain ⟨g3, cap3, rfl, hcap3, hlt3⟩ := ho3.form (by omega)
        rw [hfl] at hrun
        have hsz : (wr.alloc (.cells #[.int .u8 (97 + (i : Int))] 5)).drew.heap.size = wr.heap.size + 1 := World.size_alloc wr _
        simp only [hsz] at hrun
        have HRUN := Lib.hid hrun
        have hcn := conv_name ((wr.alloc (.cells #[.int .u8 (97 + (i : Int))] 5)).drew) wr.heap.size i (by omega) ((Blk.new wr 5 #[.int .u8 (97 + (i : Int))]).drew.cell 0)
        have hb3 := (HB.out.alloc (.cells #[.int .u8 (97 + (i : Int))] 5)).drew.wr r3 (fun hm => by have := (HO1.out.lt h (mem_ownL.1 hm)).1; omega)
        have a3 := hb3.cell 8
        have f3 := hb3.frozen 8
        have z3 := hb3.lt
        simp only [List.getElem?_toArray, List.getElem?_cons_zero, List.getElem?_cons_succ] at a3
        have HB3 := Lib.hid hb3
        have HO3 := Lib.hid ho3
        have R3 := Lib.hid r3
        clear hrun ho3 r3 hat3 hfl htt hb3
        go_wp2_with fail
        have hC : ∀ W, Wr (ownL (Value.slice Ao i co)) wr W → W.cell? ⟨h, 8, none⟩ = some (.slice Ao i co) ∧ W.cell? ⟨w.heap.size, 0, none⟩ = some (.slice (some ⟨bT, oT, none⟩) m.ts.length cT) ∧ W.cell? ⟨bT, oT + i, none⟩ = some (.int .u16 tt) := fun W hW => ⟨hW.cellOf t8 (HNO.out h (by omega)), hW.cellOf m0 (HNO.out w.heap.size (by omega)), hW.cellOf cT0 (HNO.out bT (by omega))⟩
        have HC := Lib.hid hC
        clear hC
        refine wp_region_noPanic ?_
        refine wp_region_L (Until 20 fun w' => w'.cell? ⟨h, 8, none⟩ = some (.slice Ao i co) ∧ w'.cell? ⟨w.heap.size, 0, none⟩ = some (.slice (some ⟨bT, oT, none⟩) m.ts.length cT) ∧ w'.cell? ⟨bT, oT + i, none⟩ = some (.int .u16 tt)) (by kernel_rfl) (fun hcl => ?_)
        have hS : Until 20 (fun w' => w'.cell? ⟨h, 8, none⟩ = some (.slice Ao i co) ∧ w'.cell? ⟨w.heap.size, 0, none⟩ = some (.slice (some ⟨bT, oT, none⟩) m.ts.length cT) ∧ w'.cell? ⟨bT, oT + i, none⟩ = some (.int .u16 tt)) (Array.replicate 21 false) wr.drew := fun _ => ⟨t8, m0, cT0⟩
        refine wpAnyL_take (i := 0) (oi := ?oi251) (v := ?v251) ?hi251 (by kernel_rfl) (by kernel_rfl) (by kernel_rfl) (fun _ _ _ h => h) (until_take 20 _ (by decide)) ?hy251 hcl hS ?rest251
        case hi251 =>
          simp only [List.getElem?_toArray, List.getElem?_cons_succ, List.getElem?_cons_zero]
          rfl
        case hy251 =>
          refine yields_until (by kernel_rfl) (Or.inl ⟨by rfl, fun w' hS => ?_⟩)
          try go_split_ands
          go_simp
          try rfl
        case rest251 =>
        intro hcl1 hS1
        clear hcl hS
        try simp only [Act.put, List.setIfInBounds_toArray, List.set_cons_zero, List.set_cons_succ]
        refine wpAnyL_take (i := 1) (oi := ?oi252) (v := ?v252) ?hi252 (by kernel_rfl) (by kernel_rfl) (by kernel_rfl) (fun _ _ _ h => h) (until_take 20 _ (by decide)) ?hy252 hcl1 hS1 ?rest252
        case hi252 =>
          simp only [List.getElem?_toArray, List.getElem?_cons_succ, List.getElem?_cons_zero]
          rfl
        case hy252 =>
          refine yields_until (by kernel_rfl) (Or.inl ⟨by rfl, fun w' hS => ?_⟩)
          try go_split_ands
          go_simp
          try rfl
        case rest252 =>
        intro hcl2 hS2
        clear hcl1 hS1
        try simp only [Act.put, List.setIfInBounds_toArray, List.set_cons_zero, List.set_cons_succ]
        refine wpAnyL_take (i := 2) (oi := ?oi253) (v := ?v253) ?hi253 (by kernel_rfl) (by kernel_rfl) (by kernel_rfl) (fun _ _ _ h => h) (until_take 20 _ (by decide)) ?hy253 hcl2 hS2 ?rest253
        case hi253 =>
          simp only [List.getElem?_toArray, List.getElem?_cons_succ, List.getElem?_cons_zero]
          rfl
        case hy253 =>
          refine yields_until (by kernel_rfl) (Or.inl ⟨by rfl, fun w' hS => ?_⟩)
          try go_split_ands
          go_simp
          try rfl
        case rest253 =>
        intro hcl3 hS3
        clear hcl2 hS2
        try simp only [Act.put, List.setIfInBounds_toArray, List.set_cons_zero, List.set_cons_succ]
        refine wpAnyL_take (i := 3) (oi := ?oi254) (v := ?v254) ?hi254 (by kernel_rfl) (by kernel_rfl) (by kernel_rfl) (fun _ _ _ h => h) (until_take 20 _ (by decide)) ?hy254 hcl3 hS3 ?rest254
        case hi254 =>
          simp only [List.getElem?_toArray, List.getElem?_cons_succ, List.getElem?_cons_zero]
          rfl
        case hy254 =>
          refine yields_until (by kernel_rfl) (Or.inl ⟨by rfl, fun w' hS => ?_⟩)
          try go_split_ands
          go_simp
          try rfl
        case rest254 =>
        intro hcl4 hS4
        clear hcl3 hS3
        try simp only [Act.put, List.setIfInBounds_toArray, List.set_cons_zero, List.set_cons_succ]
        refine wpAnyL_take (i := 4) (oi := ?oi255) (v := ?v255) ?hi255 (by kernel_rfl) (by kernel_rfl) (by kernel_rfl) (fun _ _ _ h => h) (until_take 20 _ (by decide)) ?hy255 hcl4 hS4 ?rest255
        case hi255 =>
          simp only [List.getElem?_toArray, List.getElem?_cons_succ, List.getElem?_cons_zero]
          rfl
        case hy255 =>
          refine yields_until (by kernel_rfl) (Or.inl ⟨by rfl, fun w' hS => ?_⟩)
          try go_split_ands
          go_simp
          try rfl
        case rest255 =>
        intro hcl5 hS5
        clear hcl4 hS4
        try simp only [Act.put, List.setIfInBounds_toArray, List.set_cons_zero, List.set_cons_succ]
        refine wpAnyL_take (i := 7) (oi := ?oi256) (v := ?v256) ?hi256 (by kernel_rfl) (by kernel_rfl) (by kernel_rfl) (fun _ _ _ h => h) (until_take 20 _ (by decide)) ?hy256 hcl5 hS5 ?rest256
        case hi256 =>
          simp only [List.getElem?_toArray, List.getElem?_cons_succ, List.getElem?_cons_zero]
          rfl
        case hy256 =>
          refine yields_until (by kernel_rfl) (Or.inl ⟨by rfl, fun w' hS => ?_⟩)
          try go_split_ands
          go_simp
          try rfl
        case rest256 =>
        intro hcl6 hS6
        clear hcl5 hS5
        try simp only [Act.put, List.setIfInBounds_toArray, List.set_cons_zero, List.set_cons_succ]
        refine wpAnyL_take (i := 8) (oi := ?oi257) (v := ?v257) ?hi257 (by kernel_rfl) (by kernel_rfl) (by kernel_rfl) (fun _ _ _ h => h) (until_take 20 _ (by decide)) ?hy257 hcl6 hS6 ?rest257
        case hi257 =>
          simp only [List.getElem?_toArray, List.getElem?_cons_succ, List.getElem?_cons_zero]
          rfl
        case hy257 =>
          refine yields_until (by kernel_rfl) (Or.inl ⟨by rfl, fun w' hS => ?_⟩)
          try go_split_ands
          go_simp
          try rfl
        case rest257 =>
        intro hcl7 hS7
        clear hcl6 hS6
        try simp only [Act.put, List.setIfInBounds_toArray, List.set_cons_zero, List.set_cons_succ]
        refine wpAnyL_take (i := 9) (oi := ?oi258) (v := ?v258) ?hi258 (by kernel_rfl) (by kernel_rfl) (by kernel_rfl) (fun _ _ _ h => h) (until_take 20 _ (by decide)) ?hy258 hcl7 hS7 ?rest258
        case hi258 =>
          simp only [List.getElem?_toArray, List.getElem?_cons_succ, List.getElem?_cons_zero]
          rfl
        case hy258 =>
          refine yields_until (by kernel_rfl) (Or.inl ⟨by rfl, fun w' hS => ?_⟩)
          try go_split_ands
          go_simp
          try rfl
        case rest258 =>
        intro hcl8 hS8
        clear hcl7 hS7
        try simp only [Act.put, List.setIfInBounds_toArray, List.set_cons_zero, List.set_cons_succ]
        refine wpAnyL_take (i := 10) (oi := ?oi259) (v := ?v259) ?hi259 (by kernel_rfl) (by kernel_rfl) (by kernel_rfl) (fun _ _ _ h => h) (until_take 20 _ (by decide)) ?hy259 hcl8 hS8 ?rest259
        case hi259 =>
          simp only [List.getElem?_toArray, List.getElem?_cons_succ, List.getElem?_cons_zero]
          rfl
        case hy259 =>
          refine yields_until (by kernel_rfl) (Or.inl ⟨by rfl, fun w' hS => ?_⟩)
          try go_split_ands
          go_simp
          try rfl
        case rest259 =>
        intro hcl9 hS9
        clear hcl8 hS8
        try simp only [Act.put, List.setIfInBounds_toArray, List.set_cons_zero, List.set_cons_succ]
        refine wpAnyL_take (i := 11) (oi := ?oi260) (v := ?v260) ?hi260 (by kernel_rfl) (by kernel_rfl) (by kernel_rfl) (fun _ _ _ h => h) (until_take 20 _ (by decide)) ?hy260 hcl9 hS9 ?rest260
        case hi260 =>
          simp only [List.getElem?_toArray, List.getElem?_cons_succ, List.getElem?_cons_zero]
          rfl
        case hy260 =>
          refine yields_until (by kernel_rfl) (Or.inl ⟨by rfl, fun w' hS => ?_⟩)
          try go_split_ands
          go_simp
          try rfl
        case rest260 =>
        intro hcl10 hS10
        clear hcl9 hS9
        try simp only [Act.put, List.setIfInBounds_toArray, List.set_cons_zero, List.set_cons_succ]
        refine wpAnyL_take (i := 12) (oi := ?oi261) (v := ?v261) ?hi261 (by kernel_rfl) (by kernel_rfl) (by kernel_rfl) (fun _ _ _ h => h) (until_take 20 _ (by decide)) ?hy261 hcl10 hS10 ?rest261
        case hi261 =>
          simp only [List.getElem?_toArray, List.getElem?_cons_succ, List.getElem?_cons_zero]
          rfl
        case hy261 =>
          refine yields_until (by kernel_rfl) (Or.inl ⟨by rfl, fun w' hS => ?_⟩)
          try go_split_ands
          go_simp
          try rfl
        case rest261 =>
        intro hcl11 hS11
        clear hcl10 hS10
        try simp only [Act.put, List.setIfInBounds_toArray, List.set_cons_zero, List.set_cons_succ]
        refine wpAnyL_take (i := 13) (oi := ?oi262) (v := ?v262) ?hi262 (by kernel_rfl) (by kernel_rfl) (by kernel_rfl) (fun _ _ _ h => h) (until_take 20 _ (by decide)) ?hy262 hcl11 hS11 ?rest262
        case hi262 =>
          simp only [List.getElem?_toArray, List.getElem?_cons_succ, List.getElem?_cons_zero]
          rfl
        case hy262 =>
          refine yields_until (by kernel_rfl) (Or.inl ⟨by rfl, fun w' hS => ?_⟩)
          try go_split_ands
          go_simp
          try rfl
        case rest262 =>
        intro hcl12 hS12
        clear hcl11 hS11
        try simp only [Act.put, List.setIfInBounds_toArray, List.set_cons_zero, List.set_cons_succ]
        refine wpAnyL_take (i := 14) (oi := ?oi263) (v := ?v263) ?hi263 (by kernel_rfl) (by kernel_rfl) (by kernel_rfl) (fun _ _ _ h => h) (until_take 20 _ (by decide)) ?hy263 hcl12 hS12 ?rest263
        case hi263 =>
          simp only [List.getElem?_toArray, List.getElem?_cons_succ, List.getElem?_cons_zero]
          rfl
        case hy263 =>
          refine yields_until (by kernel_rfl) (Or.inl ⟨by rfl, fun w' hS => ?_⟩)
          try go_split_ands
          go_simp
          try rfl
        case rest263 =>
        intro hcl13 hS13
        clear hcl12 hS12
        try simp only [Act.put, List.setIfInBounds_toArray, List.set_cons_zero, List.set_cons_succ]
        refine wpAnyL_take (i := 15) (oi := ?oi264) (v := ?v264) ?hi264 (by kernel_rfl) (by kernel_rfl) (by kernel_rfl) (fun _ _ _ h => h) (until_take 20 _ (by decide)) ?hy264 hcl13 hS13 ?rest264
        case hi264 =>
          simp only [List.getElem?_toArray, List.getElem?_cons_succ, List.getElem?_cons_zero]
          rfl
        case hy264 =>
          refine yields_until (by kernel_rfl) (Or.inl ⟨by rfl, fun w' hS => ?_⟩)
          try go_split_ands
          go_simp
          try rfl
        case rest264 =>
        intro hcl14 hS14
        clear hcl13 hS13
        try simp only [Act.put, List.setIfInBounds_toArray, List.set_cons_zero, List.set_cons_succ]
        refine wpAnyL_step (i := 5) (o := ?oi265) ?hi265 (by kernel_rfl) hcl14 ?rest265
        case hi265 =>
          simp only [List.getElem?_toArray, List.getElem?_cons_succ, List.getElem?_cons_zero]
          rfl
        case rest265 =>
        intro K hK
        go_simp
        refine hK _ _ (fun _ => HC.out _ (((Wr.refl _ wr).alloc _).drew)) (fun hcl15 => ?_)
        clear hK K hcl14 hS14
        try simp only [Act.put, List.setIfInBounds_toArray, List.set_cons_zero, List.set_cons_succ]
        refine wpAnyL_step (i := 6) (o := ?oi266) ?hi266 (by kernel_rfl) hcl15 ?rest266
        case hi266 =>
          simp only [List.getElem?_toArray, List.getElem?_cons_succ, List.getElem?_cons_zero]
          rfl
        case rest266 =>
        intro K hK
        go_simp
        refine hK _ _ (fun _ => HC.out _ (((Wr.refl _ wr).alloc _).drew)) (fun hcl16 => ?_)
        clear hK K hcl15
        try simp only [Act.put, List.setIfInBounds_toArray, List.set_cons_zero, List.set_cons_succ]
        refine wpAnyL_take (i := 16) (oi := ?oi267) (v := ?v267) ?hi267 (by kernel_rfl) (by kernel_rfl) (by kernel_rfl) (fun _ _ _ h => h) (until_take 20 _ (by decide)) ?hy267 hcl16 (fun _ => HC.out _ (((Wr.refl _ wr).alloc _).drew)) ?rest267
        case hi267 =>
          simp only [List.getElem?_toArray, List.getElem?_cons_succ, List.getElem?_cons_zero]
          rfl
        case hy267 =>
          refine yields_until (by kernel_rfl) (Or.inl ⟨by rfl, fun w' hS => ?_⟩)
          try go_split_ands
          go_simp
          try rfl
        case rest267 =>
        intro hcl17 hS17
        clear hcl16
        try simp only [Act.put, List.setIfInBounds_toArray, List.set_cons_zero, List.set_cons_succ]
        refine wpAnyL_step (i := 17) (o := ?oi268) ?hi268 (by kernel_rfl) hcl17 ?rest268
        case hi268 =>
          simp only [List.getElem?_toArray, List.getElem?_cons_succ, List.getElem?_cons_zero]
          rfl
        case rest268 =>
        intro K hK
        go_simp
        refine hK _ _ (fun _ => HC.out _ ((((Wr.refl _ wr).alloc _).alloc _).drew)) (fun hcl18 => ?_)
        clear hK K hcl17 hS17
        try simp only [Act.put, List.setIfInBounds_toArray, List.set_cons_zero, List.set_cons_succ]
        refine wpAnyL_step (i := 18) (o := ?oi269) ?hi269 (by kernel_rfl) hcl18 ?rest269
        case hi269 =>
          simp only [List.getElem?_toArray, List.getElem?_cons_succ, List.getElem?_cons_zero]
          rfl
        case rest269 =>
        intro K hK
        refine step_append_run (by rfl) _ _ _ (by rfl) _ _ (by rfl) (by rfl) _ _ HRUN.out ?_
        refine hK _ _ (fun _ => HC.out _ ((((Wr.refl _ wr).alloc _).drew).trans R3.out)) (fun hcl19 => ?_)
        clear hK K hcl18
        try simp only [Act.put, List.setIfInBounds_toArray, List.set_cons_zero, List.set_cons_succ]
        refine wpAnyL_take (i := 19) (oi := ?oi270) (v := ?v270) ?hi270 (by kernel_rfl) (by kernel_rfl) (by kernel_rfl) (fun _ _ _ h => h) (until_take 20 _ (by decide)) ?hy270 hcl19 (fun _ => HC.out _ ((((Wr.refl _ wr).alloc _).drew).trans R3.out)) ?rest270
        case hi270 =>
          simp only [List.getElem?_toArray, List.getElem?_cons_succ, List.getElem?_cons_zero]
          rfl
        case hy270 =>
          refine yields_until (by kernel_rfl) (Or.inl ⟨by rfl, fun w' hS => ?_⟩)
          try go_split_ands
          go_simp
          try rfl
        case rest270 =>
        intro hcl20 hS20
        clear hcl19
        try simp only [Act.put, List.setIfInBounds_toArray, List.set_cons_zero, List.set_cons_succ]
        refine wpAnyL_step (i := 20) (o := ?oi271) ?hi271 (by kernel_rfl) hcl20 ?rest271
        case hi271 =>
          simp only [List.getElem?_toArray, List.getElem?_cons_succ, List.getElem?_cons_zero]
          rfl
        case rest271 =>
        intro K hK
        go_simp
        refine hK _ _ (fun hb => absurd hb (by decide)) (fun hcl999 => ?_)
        clear hK K hcl20 hS20
        refine wpAnyL_done (by kernel_rfl) (NoPanic.normal ?_) _
        try simp only [Act.put, List.setIfInBounds_toArray, List.set_cons_zero, List.set_cons_succ]
        all_goals
          go_wp2_with fail
          go_roundw
          case rel =>
            have hWs : Wr [h] w3 (w3.setCell ⟨h, 8, none⟩ (.slice (some ⟨g3, 0, none⟩) (i + 1) cap3)) := (Wr.refl _ _).setOn (by simp) _
            refine ⟨i + 1, _, by omega, by go_num, (((HR.out.alloc _).drew).trans' R3.out (fun x hx => .inr ?_)).setOn (by simp) _, HB3.out.set_ 8 _, ?_⟩
            · have := (HO1.out.lt x (mem_ownL.1 hx)).1
              omega
            · rw [flds_succ, List.flatMap_append]
              simp only [List.flatMap_cons, List.flatMap_nil, List.append_nil]
              exact ownsRow_wr HO3.out hWs (fun y hy hm => by
                rw [List.mem_singleton] at hm
                have := (HO3.out.lt y hy).1
                omega)
          case measure => simp [intOf]; omega
      · have hfl : m.fld n i = ⟨nmOf i, tt % n, 0⟩ := by rw [RecD.fld, ← htt, if_neg hia]
        have hia1 : ¬(i : Int) < (m.ars.length : Int) := by omega
        obtain ⟨v3, w3, hrun, ho3, r3, hat3⟩ := append_fld (h + 1) _ i _ ((wr.alloc (.cells #[.int .u8 (97 + (i : Int))] 5)).drew) (HO1.out.alloc _).drew (m.fld n i) (by omega) (by show h + 1 ≤ (wr.alloc (.cells #[.int .u8 (97 + (i : Int))] 5)).heap.size; rw [World.size_alloc]; omega)
        obtain ⟨g3, cap3, rfl, hcap3, hlt3⟩ := ho3.form (by omega)
        rw [hfl] at hrun
        have hsz : (wr.alloc (.cells #[.int .u8 (97 + (i : Int))] 5)).drew.heap.size = wr.heap.size + 1 := World.size_alloc wr _
        simp only [hsz] at hrun
        have HRUN := Lib.hid hrun
        have hcn := conv_name ((wr.alloc (.cells #[.int .u8 (97 + (i : Int))] 5)).drew) wr.heap.size i (by omega) ((Blk.new wr 5 #[.int .u8 (97 + (i : Int))]).drew.cell 0)
        have hb3 := (HB.out.alloc (.cells #[.int .u8 (97 + (i : Int))] 5)).drew.wr r3 (fun hm => by have := (HO1.out.lt h (mem_ownL.1 hm)).1; omega)
        have a3 := hb3.cell 8
        have f3 := hb3.frozen 8
        have z3 := hb3.lt
        simp only [List.getElem?_toArray, List.getElem?_cons_zero, List.getElem?_cons_succ] at a3
        have HB3 := Lib.hid hb3
        have HO3 := Lib.hid ho3
        have R3 := Lib.hid r3
        clear hrun ho3 r3 hat3 hfl htt hb3
        go_wp2_with fail
        have hC : ∀ W, Wr (ownL (Value.slice Ao i co)) wr W → W.cell? ⟨h, 8, none⟩ = some (.slice Ao i co) ∧ W.cell? ⟨w.heap.size, 0, none⟩ = some (.slice (some ⟨bT, oT, none⟩) m.ts.length cT) ∧ W.cell? ⟨bT, oT + i, none⟩ = some (.int .u16 tt) := fun W hW => ⟨hW.cellOf t8 (HNO.out h (by omega)), hW.cellOf m0 (HNO.out w.heap.size (by omega)), hW.cellOf cT0 (HNO.out bT (by omega))⟩
        have HC := Lib.hid hC
        clear hC
        refine wp_region_noPanic ?_
        refine wp_region_L (Until 20 fun w' => w'.cell? ⟨h, 8, none⟩ = some (.slice Ao i co) ∧ w'.cell? ⟨w.heap.size, 0, none⟩ = some (.slice (some ⟨bT, oT, none⟩) m.ts.length cT) ∧ w'.cell? ⟨bT, oT + i, none⟩ = some (.int .u16 tt)) (by kernel_rfl) (fun hcl => ?_)
        have hS : Until 20 (fun w' => w'.cell? ⟨h, 8, none⟩ = some (.slice Ao i co) ∧ w'.cell? ⟨w.heap.size, 0, none⟩ = some (.slice (some ⟨bT, oT, none⟩) m.ts.length cT) ∧ w'.cell? ⟨bT, oT + i, none⟩ = some (.int .u16 tt)) (Array.replicate 21 false) wr.drew := fun _ => ⟨t8, m0, cT0⟩
        refine wpAnyL_take (i := 0) (oi := ?oi301) (v := ?v301) ?hi301 (by kernel_rfl) (by kernel_rfl) (by kernel_rfl) (fun _ _ _ h => h) (until_take 20 _ (by decide)) ?hy301 hcl hS ?rest301
        case hi301 =>
          simp only [List.getElem?_toArray, List.getElem?_cons_succ, List.getElem?_cons_zero]
          rfl
        case hy301 =>
          refine yields_until (by kernel_rfl) (Or.inl ⟨by rfl, fun w' hS => ?_⟩)
          try go_split_ands
          go_simp
          try rfl
        case rest301 =>
        intro hcl1 hS1
        clear hcl hS
        try simp only [Act.put, List.setIfInBounds_toArray, List.set_cons_zero, List.set_cons_succ]
        refine wpAnyL_take (i := 1) (oi := ?oi302) (v := ?v302) ?hi302 (by kernel_rfl) (by kernel_rfl) (by kernel_rfl) (fun _ _ _ h => h) (until_take 20 _ (by decide)) ?hy302 hcl1 hS1 ?rest302
        case hi302 =>
          simp only [List.getElem?_toArray, List.getElem?_cons_succ, List.getElem?_cons_zero]
          rfl
        case hy302 =>
          refine yields_until (by kernel_rfl) (Or.inl ⟨by rfl, fun w' hS => ?_⟩)
          try go_split_ands
          go_simp
          try rfl
        case rest302 =>
        intro hcl2 hS2
        clear hcl1 hS1
        try simp only [Act.put, List.setIfInBounds_toArray, List.set_cons_zero, List.set_cons_succ]
        refine wpAnyL_take (i := 2) (oi := ?oi303) (v := ?v303) ?hi303 (by kernel_rfl) (by kernel_rfl) (by kernel_rfl) (fun _ _ _ h => h) (until_take 20 _ (by decide)) ?hy303 hcl2 hS2 ?rest303
        case hi303 =>
          simp only [List.getElem?_toArray, List.getElem?_cons_succ, List.getElem?_cons_zero]
          rfl
        case hy303 =>
          refine yields_until (by kernel_rfl) (Or.inl ⟨by rfl, fun w' hS => ?_⟩)
          try go_split_ands
          go_simp
          try rfl
        case rest303 =>
        intro hcl3 hS3
        clear hcl2 hS2
        try simp only [Act.put, List.setIfInBounds_toArray, List.set_cons_zero, List.set_cons_succ]
        refine wpAnyL_take (i := 3) (oi := ?oi304) (v := ?v304) ?hi304 (by kernel_rfl) (by kernel_rfl) (by kernel_rfl) (fun _ _ _ h => h) (until_take 20 _ (by decide)) ?hy304 hcl3 hS3 ?rest304
        case hi304 =>
          simp only [List.getElem?_toArray, List.getElem?_cons_succ, List.getElem?_cons_zero]
          rfl
        case hy304 =>
          refine yields_until (by kernel_rfl) (Or.inl ⟨by rfl, fun w' hS => ?_⟩)
          try go_split_ands
          go_simp
          try rfl
        case rest304 =>
        intro hcl4 hS4
        clear hcl3 hS3
        try simp only [Act.put, List.setIfInBounds_toArray, List.set_cons_zero, List.set_cons_succ]
        refine wpAnyL_take (i := 4) (oi := ?oi305) (v := ?v305) ?hi305 (by kernel_rfl) (by kernel_rfl) (by kernel_rfl) (fun _ _ _ h => h) (until_take 20 _ (by decide)) ?hy305 hcl4 hS4 ?rest305
        case hi305 =>
          simp only [List.getElem?_toArray, List.getElem?_cons_succ, List.getElem?_cons_zero]
          rfl
        case hy305 =>
          refine yields_until (by kernel_rfl) (Or.inl ⟨by rfl, fun w' hS => ?_⟩)
          try go_split_ands
          go_simp
          try rfl
        case rest305 =>
        intro hcl5 hS5
        clear hcl4 hS4
        try simp only [Act.put, List.setIfInBounds_toArray, List.set_cons_zero, List.set_cons_succ]
        refine wpAnyL_take (i := 7) (oi := ?oi306) (v := ?v306) ?hi306 (by kernel_rfl) (by kernel_rfl) (by kernel_rfl) (fun _ _ _ h => h) (until_take 20 _ (by decide)) ?hy306 hcl5 hS5 ?rest306
        case hi306 =>
          simp only [List.getElem?_toArray, List.getElem?_cons_succ, List.getElem?_cons_zero]
          rfl
        case hy306 =>
          refine yields_until (by kernel_rfl) (Or.inl ⟨by rfl, fun w' hS => ?_⟩)
          try go_split_ands
          go_simp
          try rfl
        case rest306 =>
        intro hcl6 hS6
        clear hcl5 hS5
        try simp only [Act.put, List.setIfInBounds_toArray, List.set_cons_zero, List.set_cons_succ]
        refine wpAnyL_take (i := 8) (oi := ?oi307) (v := ?v307) ?hi307 (by kernel_rfl) (by kernel_rfl) (by kernel_rfl) (fun _ _ _ h => h) (until_take 20 _ (by decide)) ?hy307 hcl6 hS6 ?rest307
        case hi307 =>
          simp only [List.getElem?_toArray, List.getElem?_cons_succ, List.getElem?_cons_zero]
          rfl
        case hy307 =>
          refine yields_until (by kernel_rfl) (Or.inl ⟨by rfl, fun w' hS => ?_⟩)
          try go_split_ands
          go_simp
          try rfl
        case rest307 =>
        intro hcl7 hS7
        clear hcl6 hS6
        try simp only [Act.put, List.setIfInBounds_toArray, List.set_cons_zero, List.set_cons_succ]
        refine wpAnyL_take (i := 9) (oi := ?oi308) (v := ?v308) ?hi308 (by kernel_rfl) (by kernel_rfl) (by kernel_rfl) (fun _ _ _ h => h) (until_take 20 _ (by decide)) ?hy308 hcl7 hS7 ?rest308
        case hi308 =>
          simp only [List.getElem?_toArray, List.getElem?_cons_succ, List.getElem?_cons_zero]
          rfl
        case hy308 =>
          refine yields_until (by kernel_rfl) (Or.inl ⟨by rfl, fun w' hS => ?_⟩)
          try go_split_ands
          go_simp
          try rfl
        case rest308 =>
        intro hcl8 hS8
        clear hcl7 hS7
        try simp only [Act.put, List.setIfInBounds_toArray, List.set_cons_zero, List.set_cons_succ]
        refine wpAnyL_take (i := 10) (oi := ?oi309) (v := ?v309) ?hi309 (by kernel_rfl) (by kernel_rfl) (by kernel_rfl) (fun _ _ _ h => h) (until_take 20 _ (by decide)) ?hy309 hcl8 hS8 ?rest309
        case hi309 =>
          simp only [List.getElem?_toArray, List.getElem?_cons_succ, List.getElem?_cons_zero]
          rfl
        case hy309 =>
          refine yields_until (by kernel_rfl) (Or.inl ⟨by rfl, fun w' hS => ?_⟩)
          try go_split_ands
          go_simp
          try rfl
        case rest309 =>
        intro hcl9 hS9
        clear hcl8 hS8
        try simp only [Act.put, List.setIfInBounds_toArray, List.set_cons_zero, List.set_cons_succ]
        refine wpAnyL_take (i := 11) (oi := ?oi310) (v := ?v310) ?hi310 (by kernel_rfl) (by kernel_rfl) (by kernel_rfl) (fun _ _ _ h => h) (until_take 20 _ (by decide)) ?hy310 hcl9 hS9 ?rest310
        case hi310 =>
          simp only [List.getElem?_toArray, List.getElem?_cons_succ, List.getElem?_cons_zero]
          rfl
        case hy310 =>
          refine yields_until (by kernel_rfl) (Or.inl ⟨by rfl, fun w' hS => ?_⟩)
          try go_split_ands
          go_simp
          try rfl
        case rest310 =>
        intro hcl10 hS10
        clear hcl9 hS9
        try simp only [Act.put, List.setIfInBounds_toArray, List.set_cons_zero, List.set_cons_succ]
        refine wpAnyL_take (i := 12) (oi := ?oi311) (v := ?v311) ?hi311 (by kernel_rfl) (by kernel_rfl) (by kernel_rfl) (fun _ _ _ h => h) (until_take 20 _ (by decide)) ?hy311 hcl10 hS10 ?rest311
        case hi311 =>
          simp only [List.getElem?_toArray, List.getElem?_cons_succ, List.getElem?_cons_zero]
          rfl
        case hy311 =>
          refine yields_until (by kernel_rfl) (Or.inl ⟨by rfl, fun w' hS => ?_⟩)
          try go_split_ands
          go_simp
          try rfl
        case rest311 =>
        intro hcl11 hS11
        clear hcl10 hS10
        try simp only [Act.put, List.setIfInBounds_toArray, List.set_cons_zero, List.set_cons_succ]
        refine wpAnyL_take (i := 13) (oi := ?oi312) (v := ?v312) ?hi312 (by kernel_rfl) (by kernel_rfl) (by kernel_rfl) (fun _ _ _ h => h) (until_take 20 _ (by decide)) ?hy312 hcl11 hS11 ?rest312
        case hi312 =>
          simp only [List.getElem?_toArray, List.getElem?_cons_succ, List.getElem?_cons_zero]
          rfl
        case hy312 =>
          refine yields_until (by kernel_rfl) (Or.inl ⟨by rfl, fun w' hS => ?_⟩)
          try go_split_ands
          go_simp
          try rfl
        case rest312 =>
        intro hcl12 hS12
        clear hcl11 hS11
        try simp only [Act.put, List.setIfInBounds_toArray, List.set_cons_zero, List.set_cons_succ]
        refine wpAnyL_take (i := 14) (oi := ?oi313) (v := ?v313) ?hi313 (by kernel_rfl) (by kernel_rfl) (by kernel_rfl) (fun _ _ _ h => h) (until_take 20 _ (by decide)) ?hy313 hcl12 hS12 ?rest313
        case hi313 =>
          simp only [List.getElem?_toArray, List.getElem?_cons_succ, List.getElem?_cons_zero]
          rfl
        case hy313 =>
          refine yields_until (by kernel_rfl) (Or.inl ⟨by rfl, fun w' hS => ?_⟩)
          try go_split_ands
          go_simp
          try rfl
        case rest313 =>
        intro hcl13 hS13
        clear hcl12 hS12
        try simp only [Act.put, List.setIfInBounds_toArray, List.set_cons_zero, List.set_cons_succ]
        refine wpAnyL_take (i := 15) (oi := ?oi314) (v := ?v314) ?hi314 (by kernel_rfl) (by kernel_rfl) (by kernel_rfl) (fun _ _ _ h => h) (until_take 20 _ (by decide)) ?hy314 hcl13 hS13 ?rest314
        case hi314 =>
          simp only [List.getElem?_toArray, List.getElem?_cons_succ, List.getElem?_cons_zero]
          rfl
        case hy314 =>
          refine yields_until (by kernel_rfl) (Or.inl ⟨by rfl, fun w' hS => ?_⟩)
          try go_split_ands
          go_simp
          try rfl
        case rest314 =>
        intro hcl14 hS14
        clear hcl13 hS13
        try simp only [Act.put, List.setIfInBounds_toArray, List.set_cons_zero, List.set_cons_succ]
        refine wpAnyL_step (i := 5) (o := ?oi315) ?hi315 (by kernel_rfl) hcl14 ?rest315
        case hi315 =>
          simp only [List.getElem?_toArray, List.getElem?_cons_succ, List.getElem?_cons_zero]
          rfl
        case rest315 =>
        intro K hK
        go_simp
        refine hK _ _ (fun _ => HC.out _ (((Wr.refl _ wr).alloc _).drew)) (fun hcl15 => ?_)
        clear hK K hcl14 hS14
        try simp only [Act.put, List.setIfInBounds_toArray, List.set_cons_zero, List.set_cons_succ]
        refine wpAnyL_step (i := 6) (o := ?oi316) ?hi316 (by kernel_rfl) hcl15 ?rest316
        case hi316 =>
          simp only [List.getElem?_toArray, List.getElem?_cons_succ, List.getElem?_cons_zero]
          rfl
        case rest316 =>
        intro K hK
        go_simp
        refine hK _ _ (fun _ => HC.out _ (((Wr.refl _ wr).alloc _).drew)) (fun hcl16 => ?_)
        clear hK K hcl15
        try simp only [Act.put, List.setIfInBounds_toArray, List.set_cons_zero, List.set_cons_succ]
        refine wpAnyL_take (i := 16) (oi := ?oi317) (v := ?v317) ?hi317 (by kernel_rfl) (by kernel_rfl) (by kernel_rfl) (fun _ _ _ h => h) (until_take 20 _ (by decide)) ?hy317 hcl16 (fun _ => HC.out _ (((Wr.refl _ wr).alloc _).drew)) ?rest317
        case hi317 =>
          simp only [List.getElem?_toArray, List.getElem?_cons_succ, List.getElem?_cons_zero]
          rfl
        case hy317 =>
          refine yields_until (by kernel_rfl) (Or.inl ⟨by rfl, fun w' hS => ?_⟩)
          try go_split_ands
          go_simp
          try rfl
        case rest317 =>
        intro hcl17 hS17
        clear hcl16
        try simp only [Act.put, List.setIfInBounds_toArray, List.set_cons_zero, List.set_cons_succ]
        refine wpAnyL_step (i := 17) (o := ?oi318) ?hi318 (by kernel_rfl) hcl17 ?rest318
        case hi318 =>
          simp only [List.getElem?_toArray, List.getElem?_cons_succ, List.getElem?_cons_zero]
          rfl
        case rest318 =>
        intro K hK
        go_simp
        refine hK _ _ (fun _ => HC.out _ ((((Wr.refl _ wr).alloc _).alloc _).drew)) (fun hcl18 => ?_)
        clear hK K hcl17 hS17
        try simp only [Act.put, List.setIfInBounds_toArray, List.set_cons_zero, List.set_cons_succ]
        refine wpAnyL_step (i := 18) (o := ?oi319) ?hi319 (by kernel_rfl) hcl18 ?rest319
        case hi319 =>
          simp only [List.getElem?_toArray, List.getElem?_cons_succ, List.getElem?_cons_zero]
          rfl
        case rest319 =>
        intro K hK
        refine step_append_run (by rfl) _ _ _ (by rfl) _ _ (by rfl) (by rfl) _ _ HRUN.out ?_
        refine hK _ _ (fun _ => HC.out _ ((((Wr.refl _ wr).alloc _).drew).trans R3.out)) (fun hcl19 => ?_)
        clear hK K hcl18
        try simp only [Act.put, List.setIfInBounds_toArray, List.set_cons_zero, List.set_cons_succ]
        refine wpAnyL_take (i := 19) (oi := ?oi320) (v := ?v320) ?hi320 (by kernel_rfl) (by kernel_rfl) (by kernel_rfl) (fun _ _ _ h => h) (until_take 20 _ (by decide)) ?hy320 hcl19 (fun _ => HC.out _ ((((Wr.refl _ wr).alloc _).drew).trans R3.out)) ?rest320
        case hi320 =>
          simp only [List.getElem?_toArray, List.getElem?_cons_succ, List.getElem?_cons_zero]
          rfl
        case hy320 =>
          refine yields_until (by kernel_rfl) (Or.inl ⟨by rfl, fun w' hS => ?_⟩)
          try go_split_ands
          go_simp
          try rfl
        case rest320 =>
        intro hcl20 hS20
        clear hcl19
        try simp only [Act.put, List.setIfInBounds_toArray, List.set_cons_zero, List.set_cons_succ]
        refine wpAnyL_step (i := 20) (o := ?oi321) ?hi321 (by kernel_rfl) hcl20 ?rest321
        case hi321 =>
          simp only [List.getElem?_toArray, List.getElem?_cons_succ, List.getElem?_cons_zero]
          rfl
        case rest321 =>
        intro K hK
        go_simp
        refine hK _ _ (fun hb => absurd hb (by decide)) (fun hcl999 => ?_)
        clear hK K hcl20 hS20
        refine wpAnyL_done (by kernel_rfl) (NoPanic.normal ?_) _
        try simp only [Act.put, List.setIfInBounds_toArray, List.set_cons_zero, List.set_cons_succ]
        all_goals
          go_wp2_with fail
          go_roundw
          case rel =>
            have hWs : Wr [h] w3 (w3.setCell ⟨h, 8, none⟩ (.slice (some ⟨g3, 0, none⟩) (i + 1) cap3)) := (Wr.refl _ _).setOn (by simp) _
            refine ⟨i + 1, _, by omega, by go_num, (((HR.out.alloc _).drew).trans' R3.out (fun x hx => .inr ?_)).setOn (by simp) _, HB3.out.set_ 8 _, ?_⟩
            · have := (HO1.out.lt x (mem_ownL.1 hx)).1
              omega
            · rw [flds_succ, List.flatMap_append]
              simp only [List.flatMap_cons, List.flatMap_nil, List.append_nil]
              exact ownsRow_wr HO3.out hWs (fun y hy hm => by
                rw [List.mem_singleton] at hm
                have := (HO3.out.lt y hy).1
                omega)
          case measure => simp [intOf]; omega
    · obtain ⟨nf, hnf⟩ : ∃ nf, nf = i := ⟨_, rfl⟩
      subst hnf
      have hq1 : nf ≤ m.ts.length := by omega
      have hq2 : nf = m.ts.length ∨ nf = 8 := by omega
      have hq3 : nf = min m.ts.length 8 := by omega
      have HQ3 := Lib.hid hq3
      clear lT0 lT1 lA0 lA1 HT HA t8 m1 hlt hq3 hi
      go_upto_region 3 with (fail)
      go_cut [20] (fun s20 wx => s20 = .bool false ∧ wr = wx)
      case first =>
        by_cases hj : nf < m.ts.length
        · have hj8 : ¬(nf : Int) < 8 := by omega
          have hj9 : (nf : Int) < (m.ts.length : Int) := by omega
          clear hq1 hq2
          go_wp2_with fail
          go_meet
          exact ⟨rfl, rfl⟩
        · have hj8 : ¬(nf : Int) < (m.ts.length : Int) := by omega
          clear hq1 hq2
          go_wp2_with fail
          go_meet
          exact ⟨rfl, rfl⟩
      case rest =>
        obtain ⟨rfl, rfl⟩ := hcut
        clear m0
        have at1 : ArmsAt wr m h (.slice Ao nf co) (.int .i64 0) wr := ⟨0, .slice none 0 0, [], by omega, rfl, Wr.refl _ _, HB.out, ⟨World.ownsRow_nil _ _ _ _, by simp, fun i x hi => by simp [RecD.arms] at hi⟩⟩
        have AT1 := Lib.hid at1
        clear at1
        go_wp2_with fail
        go_loopw [8] (fun s8 wq => ArmsAt wr m h (.slice Ao nf co) s8 wq) (fun s8 _ => 3 - (intOf s8).toNat)
        case atStart => exact AT1.out
        case round =>
          clear AT1
          rename World => wq
          obtain ⟨i, va, xs, hi3, rfl, hq, hbq, hok⟩ := hrel
          have hlen : (m.arms i).length = i := by simp [RecD.arms]
          have hrw := hok.row
          rw [hlen] at hrw
          obtain ⟨Aa, ca, hva, hal, _⟩ := Sl.form (P := fun _ => True) (Sl.ofOwn hrw (fun _ _ => trivial))
          subst hva
          clear hrw
          have zq := hq.size
          have zbq := hbq.lt
          have HQ := Lib.hid hq
          have HBQ := Lib.hid hbq
          have HOK := Lib.hid hok
          clear hq hbq hok
          by_cases hlt : i < 3
          · have hi0 : (0 : Int) ≤ (i : Int) := by omega
            have hi1 : (i : Int) < 3 := by omega
            have hel : ((i : Int) == 2) = (i == 2) := by rw [Bool.eq_iff_iff]; simp; omega
            obtain ⟨bl, hbl⟩ : ∃ bl, bl = (i == 2) := ⟨_, rfl⟩
            rw [← hbl] at hel
            have HBL := Lib.hid hbl
            clear hbl
            go_wp2_with fail
            have b9 := Blk.new wq 54 #[.slice none 0 0, .slice none 0 0, .bool bl]
            have h19 : Wr [h] w1 (wq.alloc (.cells #[.slice none 0 0, .slice none 0 0, .bool bl] 54)) := (HR.out.trans HQ.out).alloc _
            have hq9 : Wr [] wq (wq.alloc (.cells #[.slice none 0 0, .slice none 0 0, .bool bl] 54)) := (Wr.refl [] wq).alloc _
            have s9 : (wq.alloc (.cells #[.slice none 0 0, .slice none 0 0, .bool bl] 54)).heap.size = wq.heap.size + 1 := World.size_alloc _ _
            have at2 : PickAt (wq.alloc (.cells #[.slice none 0 0, .slice none 0 0, .bool bl] 54)) m i wq.heap.size bl (.int .i64 i) (wq.alloc (.cells #[.slice none 0 0, .slice none 0 0, .bool bl] 54)) :=
              ⟨0, i, .slice none 0 0, .slice none 0 0, Nat.zero_le _, by omega, rfl, Wr.refl _ _, b9, World.ownsRow_nil _ _ _ _, World.ownsRow_nil _ _ _ _, by rw [nil_own]; simp⟩
            generalize wq.alloc (.cells #[.slice none 0 0, .slice none 0 0, .bool bl] 54) = w9 at *
            generalize hg9 : wq.heap.size = g9 at *
            have AT2 := Lib.hid at2
            have H19 := Lib.hid h19
            have HQ9 := Lib.hid hq9
            have HG9 := Lib.hid hg9
            clear hg9
            have zg9 : h < g9 := by omega
            have zg1 : w1.heap.size ≤ g9 := by omega
            clear at2 h19 hq9 b9
            go_loopw [10] (fun s10 wp => PickAt w9 m i g9 bl s10 wp) (fun s10 _ => 210 - (intOf s10).toNat)
            case atStart => exact AT2.out
            case round =>
              clear AT2
              rename World => wp
              obtain ⟨j, k, sF, sT, hj, hk, rfl, hp, hbp, hoF, hoT, hdis⟩ := hrel
              obtain ⟨AF1, cF1, hsF, _, _⟩ := Sl.form (P := fun _ => True) (Sl.ofOwn hoF (fun _ _ => trivial))
              subst hsF
              obtain ⟨AT1, cT1, hsT, _, _⟩ := Sl.form (P := fun _ => True) (Sl.ofOwn hoT (fun _ _ => trivial))
              subst hsT
              have h1p := H19.out.new hp zg1
              have hbb := HBB.out.wr h1p (by simp; omega)
              have m2 := hbb.cell 2
              have m3 := hbb.cell 3
              have p0 := hbp.cell 0
              have p1 := hbp.cell 1
              have p2 := hbp.cell 2
              simp only [List.getElem?_toArray, List.getElem?_cons_zero, List.getElem?_cons_succ] at m2 m3 p0 p1 p2
              have zp := hp.size
              have zgp := hbp.lt
              have zbp := hbb.lt
              have HNF := Lib.hid (fun (y : Nat) (hy : y < w9.heap.size) (hm : y ∈ ownL (Value.slice AF1 j cF1)) => (by have := (hoF.lt y (mem_ownL.1 hm)).1; omega : False))
              have HNT := Lib.hid (fun (y : Nat) (hy : y < w9.heap.size) (hm : y ∈ ownL (Value.slice AT1 j cT1)) => (by have := (hoT.lt y (mem_ownL.1 hm)).1; omega : False))
              have HP := Lib.hid hp
              have HBP := Lib.hid hbp
              have HOF := Lib.hid hoF
              have HOT := Lib.hid hoT
              have HDIS := Lib.hid hdis
              have H1P := Lib.hid h1p
              clear hp hbp hoF hoT hdis h1p hbb
              by_cases hin : k < min m.fs.length m.tos.length
              · obtain ⟨bF, oF, rfl, cF0⟩ := HF.out.2.2.2 k (by omega)
                obtain ⟨bO, oO, rfl, cO0⟩ := HO.out.2.2.2 k (by omega)
                have hbF := World.block_lt_of_cell? w _ cF0
                have hbO := World.block_lt_of_cell? w _ cO0
                simp only at hbF hbO
                have HCO := Lib.hid cO0
                clear cO0
                replace cF0 := H1P.out.cellOf (ACC.out.cellOf cF0 (by simp)) (by simp; omega)
                obtain ⟨x0, x1⟩ := Go.bounds_i16 (HF.out.2.2.1 k (by omega))
                obtain ⟨y0, y1⟩ := Go.bounds_i16 (HO.out.2.2.1 k (by omega))
                obtain ⟨xf, hxf⟩ : ∃ x, x = m.fs.getD k 0 := ⟨_, rfl⟩
                obtain ⟨xo, hxo⟩ : ∃ x, x = m.tos.getD k 0 := ⟨_, rfl⟩
                rw [← hxf] at cF0 x0 x1
                rw [← hxo] at HCO y0 y1
                have wf : IntKind.i64.wrap xf = xf := by rw [IntKind.wrap_i64]; omega
                have wo : IntKind.i64.wrap xo = xo := by rw [IntKind.wrap_i64]; omega
                have hF1 : pickL m.fs i (j + 1) = pickL m.fs i j ++ [xf] := by rw [pick_succ, hxf, hk]
                have hO1 : pickL m.tos i (j + 1) = pickL m.tos i j ++ [xo] := by rw [pick_succ, hxo, hk]
                have hk0 : (0 : Int) ≤ (k : Int) := by omega
                have hk1 : (k : Int) < (m.fs.length : Int) := by omega
                have hk2 : (k : Int) < (m.tos.length : Int) := by omega
                have hjc : j + 1 ≤ m.cnt i := by unfold RecD.cnt; omega
                have hk2b : k ≤ 200 := by omega
                obtain ⟨lF0, lF1⟩ := lF
                obtain ⟨lO0, lO1⟩ := lO
                obtain ⟨v3, w3, hrun, ho3, r3, hat3⟩ := append_i64 w9.heap.size (.slice AF1 j cF1) (pickL m.fs i j) wp.drew (by rw [pick_len]; exact HOF.out.drew) xf (by rw [pick_len]; omega) zp
                rw [← hF1, pick_len] at ho3
                obtain ⟨g3, cap3, rfl, hcap3, hlt3⟩ := ho3.form (by omega)
                have hb3 := HBP.out.drew.wr r3 (HNF.out g9 (by omega))
                have a3 := hb3.cell 0
                have f3 := hb3.frozen 0
                have z3 := hb3.lt
                simp only [List.getElem?_toArray, List.getElem?_cons_zero, List.getElem?_cons_succ] at a3
                have HRUN := Lib.hid hrun
                have HB3 := Lib.hid hb3
                have HO3 := Lib.hid ho3
                have R3 := Lib.hid r3
                have HAT3 := Lib.hid hat3
                have HF1 := Lib.hid hF1
                have HO1x := Lib.hid hO1
                have HK := Lib.hid hk
                clear hrun hb3 ho3 r3 hat3 hF1 hO1 hxf hxo hj hk p2
                go_wp2_with fail
                have hC : ∀ W, Wr (ownL (Value.slice AF1 j cF1)) wp W → W.cell? ⟨g9, 0, none⟩ = some (.slice AF1 j cF1) ∧ W.cell? ⟨w.heap.size, 2, none⟩ = some (.slice (some ⟨bF, oF, none⟩) m.fs.length cF) ∧ W.cell? ⟨bF, oF + k, none⟩ = some (.int .i16 xf) := fun W hW => ⟨hW.cellOf p0 (HNF.out g9 (by omega)), hW.cellOf m2 (HNF.out w.heap.size (by omega)), hW.cellOf cF0 (HNF.out bF (by omega))⟩
                have HC := Lib.hid hC
                clear hC
                refine wp_region_noPanic ?_
                refine wp_region_L (Until 11 fun w' => w'.cell? ⟨g9, 0, none⟩ = some (.slice AF1 j cF1) ∧ w'.cell? ⟨w.heap.size, 2, none⟩ = some (.slice (some ⟨bF, oF, none⟩) m.fs.length cF) ∧ w'.cell? ⟨bF, oF + k, none⟩ = some (.int .i16 xf)) (by kernel_rfl) (fun hcl => ?_)
                have hS : Until 11 (fun w' => w'.cell? ⟨g9, 0, none⟩ = some (.slice AF1 j cF1) ∧ w'.cell? ⟨w.heap.size, 2, none⟩ = some (.slice (some ⟨bF, oF, none⟩) m.fs.length cF) ∧ w'.cell? ⟨bF, oF + k, none⟩ = some (.int .i16 xf)) (Array.replicate 12 false) wp.drew := fun _ => ⟨p0, m2, cF0⟩
                refine wpAnyL_take (i := 0) (oi := ?oi1) (v := ?v1) ?hi1 (by kernel_rfl) (by kernel_rfl) (by kernel_rfl) (fun _ _ _ h => h) (until_take 11 _ (by decide)) ?hy1 hcl hS ?rest1
                case hi1 =>
                  simp only [List.getElem?_toArray, List.getElem?_cons_succ, List.getElem?_cons_zero]
                  rfl
                case hy1 =>
                  refine yields_until (by kernel_rfl) (Or.inl ⟨by rfl, fun w' hS => ?_⟩)
                  try go_split_ands
                  go_simp
                  try rfl
                case rest1 =>
                intro hcl1 hS1
                clear hcl hS
                try simp only [Act.put, List.setIfInBounds_toArray, List.set_cons_zero, List.set_cons_succ]
                refine wpAnyL_take (i := 1) (oi := ?oi2) (v := ?v2) ?hi2 (by kernel_rfl) (by kernel_rfl) (by kernel_rfl) (fun _ _ _ h => h) (until_take 11 _ (by decide)) ?hy2 hcl1 hS1 ?rest2
                case hi2 =>
                  simp only [List.getElem?_toArray, List.getElem?_cons_succ, List.getElem?_cons_zero]
                  rfl
                case hy2 =>
                  refine yields_until (by kernel_rfl) (Or.inl ⟨by rfl, fun w' hS => ?_⟩)
                  try go_split_ands
                  go_simp
                  try rfl
                case rest2 =>
                intro hcl2 hS2
                clear hcl1 hS1
                try simp only [Act.put, List.setIfInBounds_toArray, List.set_cons_zero, List.set_cons_succ]
                refine wpAnyL_take (i := 2) (oi := ?oi3) (v := ?v3) ?hi3 (by kernel_rfl) (by kernel_rfl) (by kernel_rfl) (fun _ _ _ h => h) (until_take 11 _ (by decide)) ?hy3 hcl2 hS2 ?rest3
                case hi3 =>
                  simp only [List.getElem?_toArray, List.getElem?_cons_succ, List.getElem?_cons_zero]
                  rfl
                case hy3 =>
                  refine yields_until (by kernel_rfl) (Or.inl ⟨by rfl, fun w' hS => ?_⟩)
                  try go_split_ands
                  go_simp
                  try rfl
                case rest3 =>
                intro hcl3 hS3
                clear hcl2 hS2
                try simp only [Act.put, List.setIfInBounds_toArray, List.set_cons_zero, List.set_cons_succ]
                refine wpAnyL_take (i := 3) (oi := ?oi4) (v := ?v4) ?hi4 (by kernel_rfl) (by kernel_rfl) (by kernel_rfl) (fun _ _ _ h => h) (until_take 11 _ (by decide)) ?hy4 hcl3 hS3 ?rest4
                case hi4 =>
                  simp only [List.getElem?_toArray, List.getElem?_cons_succ, List.getElem?_cons_zero]
                  rfl
                case hy4 =>
                  refine yields_until (by kernel_rfl) (Or.inl ⟨by rfl, fun w' hS => ?_⟩)
                  try go_split_ands
                  go_simp
                  try rfl
                case rest4 =>
                intro hcl4 hS4
                clear hcl3 hS3
                try simp only [Act.put, List.setIfInBounds_toArray, List.set_cons_zero, List.set_cons_succ]
                refine wpAnyL_take (i := 4) (oi := ?oi5) (v := ?v5) ?hi5 (by kernel_rfl) (by kernel_rfl) (by kernel_rfl) (fun _ _ _ h => h) (until_take 11 _ (by decide)) ?hy5 hcl4 hS4 ?rest5
                case hi5 =>
                  simp only [List.getElem?_toArray, List.getElem?_cons_succ, List.getElem?_cons_zero]
                  rfl
                case hy5 =>
                  refine yields_until (by kernel_rfl) (Or.inl ⟨by rfl, fun w' hS => ?_⟩)
                  try go_split_ands
                  go_simp
                  try rfl
                case rest5 =>
                intro hcl5 hS5
                clear hcl4 hS4
                try simp only [Act.put, List.setIfInBounds_toArray, List.set_cons_zero, List.set_cons_succ]
                refine wpAnyL_take (i := 5) (oi := ?oi6) (v := ?v6) ?hi6 (by kernel_rfl) (by kernel_rfl) (by kernel_rfl) (fun _ _ _ h => h) (until_take 11 _ (by decide)) ?hy6 hcl5 hS5 ?rest6
                case hi6 =>
                  simp only [List.getElem?_toArray, List.getElem?_cons_succ, List.getElem?_cons_zero]
                  rfl
                case hy6 =>
                  refine yields_until (by kernel_rfl) (Or.inl ⟨by rfl, fun w' hS => ?_⟩)
                  try go_split_ands
                  go_simp
                  try rfl
                case rest6 =>
                intro hcl6 hS6
                clear hcl5 hS5
                try simp only [Act.put, List.setIfInBounds_toArray, List.set_cons_zero, List.set_cons_succ]
                refine wpAnyL_take (i := 6) (oi := ?oi7) (v := ?v7) ?hi7 (by kernel_rfl) (by kernel_rfl) (by kernel_rfl) (fun _ _ _ h => h) (until_take 11 _ (by decide)) ?hy7 hcl6 hS6 ?rest7
                case hi7 =>
                  simp only [List.getElem?_toArray, List.getElem?_cons_succ, List.getElem?_cons_zero]
                  rfl
                case hy7 =>
                  refine yields_until (by kernel_rfl) (Or.inl ⟨by rfl, fun w' hS => ?_⟩)
                  try go_split_ands
                  go_simp
                  try rfl
                case rest7 =>
                intro hcl7 hS7
                clear hcl6 hS6
                try simp only [Act.put, List.setIfInBounds_toArray, List.set_cons_zero, List.set_cons_succ]
                refine wpAnyL_take (i := 7) (oi := ?oi8) (v := ?v8) ?hi8 (by kernel_rfl) (by kernel_rfl) (by kernel_rfl) (fun _ _ _ h => h) (until_take 11 _ (by decide)) ?hy8 hcl7 hS7 ?rest8
                case hi8 =>
                  simp only [List.getElem?_toArray, List.getElem?_cons_succ, List.getElem?_cons_zero]
                  rfl
                case hy8 =>
                  refine yields_until (by kernel_rfl) (Or.inl ⟨by rfl, fun w' hS => ?_⟩)
                  try go_split_ands
                  go_simp
                  try rfl
                case rest8 =>
                intro hcl8 hS8
                clear hcl7 hS7
                try simp only [Act.put, List.setIfInBounds_toArray, List.set_cons_zero, List.set_cons_succ]
                refine wpAnyL_step (i := 8) (o := ?oi9) ?hi9 (by kernel_rfl) hcl8 ?rest9
                case hi9 =>
                  simp only [List.getElem?_toArray, List.getElem?_cons_succ, List.getElem?_cons_zero]
                  rfl
                case rest9 =>
                intro K hK
                go_simp
                refine hK _ _ (fun _ => HC.out _ (((Wr.refl _ wp).alloc _).drew)) (fun hcl9 => ?_)
                clear hK K hcl8 hS8
                try simp only [Act.put, List.setIfInBounds_toArray, List.set_cons_zero, List.set_cons_succ]
                refine wpAnyL_step (i := 9) (o := ?oi10) ?hi10 (by kernel_rfl) hcl9 ?rest10
                case hi10 =>
                  simp only [List.getElem?_toArray, List.getElem?_cons_succ, List.getElem?_cons_zero]
                  rfl
                case rest10 =>
                intro K hK
                refine step_append_run (by rfl) _ _ _ (by rfl) _ _ (by rfl) (by rfl) _ _ HRUN.out ?_
                refine hK _ _ (fun _ => HC.out _ ((Wr.refl _ wp).drew.trans R3.out)) (fun hcl10 => ?_)
                clear hK K hcl9
                try simp only [Act.put, List.setIfInBounds_toArray, List.set_cons_zero, List.set_cons_succ]
                refine wpAnyL_take (i := 10) (oi := ?oi11) (v := ?v11) ?hi11 (by kernel_rfl) (by kernel_rfl) (by kernel_rfl) (fun _ _ _ h => h) (until_take 11 _ (by decide)) ?hy11 hcl10 (fun _ => HC.out _ ((Wr.refl _ wp).drew.trans R3.out)) ?rest11
                case hi11 =>
                  simp only [List.getElem?_toArray, List.getElem?_cons_succ, List.getElem?_cons_zero]
                  rfl
                case hy11 =>
                  refine yields_until (by kernel_rfl) (Or.inl ⟨by rfl, fun w' hS => ?_⟩)
                  try go_split_ands
                  go_simp
                  try rfl
                case rest11 =>
                intro hcl11 hS11
                clear hcl10
                try simp only [Act.put, List.setIfInBounds_toArray, List.set_cons_zero, List.set_cons_succ]
                refine wpAnyL_step (i := 11) (o := ?oi12) ?hi12 (by kernel_rfl) hcl11 ?rest12
                case hi12 =>
                  simp only [List.getElem?_toArray, List.getElem?_cons_succ, List.getElem?_cons_zero]
                  rfl
                case rest12 =>
                intro K hK
                go_simp
                refine hK _ _ (fun hb => absurd hb (by decide)) (fun hcl999 => ?_)
                clear hK K hcl11 hS11
                refine wpAnyL_done (by kernel_rfl) (NoPanic.normal ?_) _
                try simp only [Act.put, List.setIfInBounds_toArray, List.set_cons_zero, List.set_cons_succ]

                all_goals
                  have z3p : wp.heap.size ≤ w3.heap.size := R3.out.size
                  have r5 : Wr (g9 :: ownL (Value.slice AF1 j cF1)) wp (w3.setCell ⟨g9, 0, none⟩ (.slice (some ⟨g3, 0, none⟩) (j + 1) cap3)) := (((Wr.refl _ wp).drew).trans (R3.out.more (fun x hx => List.mem_cons_of_mem _ hx))).setOn (by simp) _
                  have s5a : (w3.setCell ⟨g9, 0, none⟩ (.slice (some ⟨g3, 0, none⟩) (j + 1) cap3)).heap.size ≤ w3.heap.size := by rw [World.size_setCell]; exact Nat.le_refl _
                  have s5b : w3.heap.size ≤ (w3.setCell ⟨g9, 0, none⟩ (.slice (some ⟨g3, 0, none⟩) (j + 1) cap3)).heap.size := by rw [World.size_setCell]; exact Nat.le_refl _
                  have hb5 : Blk (w3.setCell ⟨g9, 0, none⟩ (.slice (some ⟨g3, 0, none⟩) (j + 1) cap3)) g9 54 #[.slice (some ⟨g3, 0, none⟩) (j + 1) cap3, .slice AT1 j cT1, .bool bl] := HB3.out.set_ 0 (.slice (some ⟨g3, 0, none⟩) (j + 1) cap3)
                  have ho5 := ownsRow_wr HO3.out ((Wr.refl [g9] w3).setOn (b := g9) (o := 0) (by simp) (.slice (some ⟨g3, 0, none⟩) (j + 1) cap3)) (fun y hy hm => by
                    rw [List.mem_singleton] at hm
                    have := (HO3.out.lt y hy).1
                    omega)
                  generalize w3.setCell ⟨g9, 0, none⟩ (.slice (some ⟨g3, 0, none⟩) (j + 1) cap3) = w5 at *
                  have h15 : Wr [h] w1 w5 := H1P.out.trans' r5 (fun x hx => .inr (by
                    rcases List.mem_cons.1 hx with e | e
                    · omega
                    · have := (HOF.out.lt x (mem_ownL.1 e)).1
                      omega))
                  have cO5 := h15.cellOf (ACC.out.cellOf HCO.out (by simp)) (by simp; omega)
                  have hbb5 := HBB.out.wr h15 (by simp; omega)
                  have n3 := hbb5.cell 3
                  have o0 := hb5.cell 0
                  have o1 := hb5.cell 1
                  simp only [List.getElem?_toArray, List.getElem?_cons_zero, List.getElem?_cons_succ] at n3 o0 o1
                  have hoT5 := ownsRow_wr HOT.out r5 (fun y hy hm => by
                    rcases List.mem_cons.1 hm with e | e
                    · exact HNT.out y (by omega) (mem_ownL.2 hy)
                    · exact HDIS.out y e (mem_ownL.2 hy))
                  have zg5 := hb5.lt
                  have zbb5 := hbb5.lt
                  obtain ⟨v6, w6, hrun6, ho6, r6, hat6⟩ := append_i64 w9.heap.size (.slice AT1 j cT1) (pickL m.tos i j) w5.drew (by rw [pick_len]; exact hoT5.drew) xo (by rw [pick_len]; have := HK.out; omega) (by show w9.heap.size ≤ w5.heap.size; omega)
                  rw [← HO1x.out, pick_len] at ho6
                  obtain ⟨g6, cap6, rfl, hcap6, hlt6⟩ := ho6.form (by omega)
                  have hb6 := hb5.drew.wr r6 (HNT.out g9 (by omega))
                  have a6 := hb6.cell 1
                  have f6 := hb6.frozen 1
                  have z6 := hb6.lt
                  simp only [List.getElem?_toArray, List.getElem?_cons_zero, List.getElem?_cons_succ] at a6
                  have HRUN6 := Lib.hid hrun6
                  have HB6 := Lib.hid hb6
                  have HO6 := Lib.hid ho6
                  have R6 := Lib.hid r6
                  have HAT6 := Lib.hid hat6
                  have R5 := Lib.hid r5
                  have HO5 := Lib.hid ho5
                  clear hrun6 hb6 ho6 r6 hat6 r5 ho5 h15 hbb5 hb5 hoT5 m2 m3 p0 p1 cF0 a3 f3
                  go_wp2_with fail
                  have hC : ∀ W, Wr (ownL (Value.slice AT1 j cT1)) w5 W → W.cell? ⟨g9, 1, none⟩ = some (.slice AT1 j cT1) ∧ W.cell? ⟨w.heap.size, 3, none⟩ = some (.slice (some ⟨bO, oO, none⟩) m.tos.length cO) ∧ W.cell? ⟨bO, oO + k, none⟩ = some (.int .i16 xo) := fun W hW => ⟨hW.cellOf o1 (HNT.out g9 (by omega)), hW.cellOf n3 (HNT.out w.heap.size (by omega)), hW.cellOf cO5 (HNT.out bO (by omega))⟩
                  have HC := Lib.hid hC
                  clear hC
                  refine wp_region_noPanic ?_
                  refine wp_region_L (Until 11 fun w' => w'.cell? ⟨g9, 1, none⟩ = some (.slice AT1 j cT1) ∧ w'.cell? ⟨w.heap.size, 3, none⟩ = some (.slice (some ⟨bO, oO, none⟩) m.tos.length cO) ∧ w'.cell? ⟨bO, oO + k, none⟩ = some (.int .i16 xo)) (by kernel_rfl) (fun hcl => ?_)
                  have hS : Until 11 (fun w' => w'.cell? ⟨g9, 1, none⟩ = some (.slice AT1 j cT1) ∧ w'.cell? ⟨w.heap.size, 3, none⟩ = some (.slice (some ⟨bO, oO, none⟩) m.tos.length cO) ∧ w'.cell? ⟨bO, oO + k, none⟩ = some (.int .i16 xo)) (Array.replicate 12 false) w5.drew := fun _ => ⟨o1, n3, cO5⟩
                  refine wpAnyL_take (i := 0) (oi := ?oi101) (v := ?v101) ?hi101 (by kernel_rfl) (by kernel_rfl) (by kernel_rfl) (fun _ _ _ h => h) (until_take 11 _ (by decide)) ?hy101 hcl hS ?rest101
                  case hi101 =>
                    simp only [List.getElem?_toArray, List.getElem?_cons_succ, List.getElem?_cons_zero]
                    rfl
                  case hy101 =>
                    refine yields_until (by kernel_rfl) (Or.inl ⟨by rfl, fun w' hS => ?_⟩)
                    try go_split_ands
                    go_simp
                    try rfl
                  case rest101 =>
                  intro hcl101 hS101
                  clear hcl hS
                  try simp only [Act.put, List.setIfInBounds_toArray, List.set_cons_zero, List.set_cons_succ]
                  refine wpAnyL_take (i := 1) (oi := ?oi102) (v := ?v102) ?hi102 (by kernel_rfl) (by kernel_rfl) (by kernel_rfl) (fun _ _ _ h => h) (until_take 11 _ (by decide)) ?hy102 hcl101 hS101 ?rest102
                  case hi102 =>
                    simp only [List.getElem?_toArray, List.getElem?_cons_succ, List.getElem?_cons_zero]
                    rfl
                  case hy102 =>
                    refine yields_until (by kernel_rfl) (Or.inl ⟨by rfl, fun w' hS => ?_⟩)
                    try go_split_ands
                    go_simp
                    try rfl
                  case rest102 =>
                  intro hcl102 hS102
                  clear hcl101 hS101
                  try simp only [Act.put, List.setIfInBounds_toArray, List.set_cons_zero, List.set_cons_succ]
                  refine wpAnyL_take (i := 2) (oi := ?oi103) (v := ?v103) ?hi103 (by kernel_rfl) (by kernel_rfl) (by kernel_rfl) (fun _ _ _ h => h) (until_take 11 _ (by decide)) ?hy103 hcl102 hS102 ?rest103
                  case hi103 =>
                    simp only [List.getElem?_toArray, List.getElem?_cons_succ, List.getElem?_cons_zero]
                    rfl
                  case hy103 =>
                    refine yields_until (by kernel_rfl) (Or.inl ⟨by rfl, fun w' hS => ?_⟩)
                    try go_split_ands
                    go_simp
                    try rfl
                  case rest103 =>
                  intro hcl103 hS103
                  clear hcl102 hS102
                  try simp only [Act.put, List.setIfInBounds_toArray, List.set_cons_zero, List.set_cons_succ]
                  refine wpAnyL_take (i := 3) (oi := ?oi104) (v := ?v104) ?hi104 (by kernel_rfl) (by kernel_rfl) (by kernel_rfl) (fun _ _ _ h => h) (until_take 11 _ (by decide)) ?hy104 hcl103 hS103 ?rest104
                  case hi104 =>
                    simp only [List.getElem?_toArray, List.getElem?_cons_succ, List.getElem?_cons_zero]
                    rfl
                  case hy104 =>
                    refine yields_until (by kernel_rfl) (Or.inl ⟨by rfl, fun w' hS => ?_⟩)
                    try go_split_ands
                    go_simp
                    try rfl
                  case rest104 =>
                  intro hcl104 hS104
                  clear hcl103 hS103
                  try simp only [Act.put, List.setIfInBounds_toArray, List.set_cons_zero, List.set_cons_succ]
                  refine wpAnyL_take (i := 4) (oi := ?oi105) (v := ?v105) ?hi105 (by kernel_rfl) (by kernel_rfl) (by kernel_rfl) (fun _ _ _ h => h) (until_take 11 _ (by decide)) ?hy105 hcl104 hS104 ?rest105
                  case hi105 =>
                    simp only [List.getElem?_toArray, List.getElem?_cons_succ, List.getElem?_cons_zero]
                    rfl
                  case hy105 =>
                    refine yields_until (by kernel_rfl) (Or.inl ⟨by rfl, fun w' hS => ?_⟩)
                    try go_split_ands
                    go_simp
                    try rfl
                  case rest105 =>
                  intro hcl105 hS105
                  clear hcl104 hS104
                  try simp only [Act.put, List.setIfInBounds_toArray, List.set_cons_zero, List.set_cons_succ]
                  refine wpAnyL_take (i := 5) (oi := ?oi106) (v := ?v106) ?hi106 (by kernel_rfl) (by kernel_rfl) (by kernel_rfl) (fun _ _ _ h => h) (until_take 11 _ (by decide)) ?hy106 hcl105 hS105 ?rest106
                  case hi106 =>
                    simp only [List.getElem?_toArray, List.getElem?_cons_succ, List.getElem?_cons_zero]
                    rfl
                  case hy106 =>
                    refine yields_until (by kernel_rfl) (Or.inl ⟨by rfl, fun w' hS => ?_⟩)
                    try go_split_ands
                    go_simp
                    try rfl
                  case rest106 =>
                  intro hcl106 hS106
                  clear hcl105 hS105
                  try simp only [Act.put, List.setIfInBounds_toArray, List.set_cons_zero, List.set_cons_succ]
                  refine wpAnyL_take (i := 6) (oi := ?oi107) (v := ?v107) ?hi107 (by kernel_rfl) (by kernel_rfl) (by kernel_rfl) (fun _ _ _ h => h) (until_take 11 _ (by decide)) ?hy107 hcl106 hS106 ?rest107
                  case hi107 =>
                    simp only [List.getElem?_toArray, List.getElem?_cons_succ, List.getElem?_cons_zero]
                    rfl
                  case hy107 =>
                    refine yields_until (by kernel_rfl) (Or.inl ⟨by rfl, fun w' hS => ?_⟩)
                    try go_split_ands
                    go_simp
                    try rfl
                  case rest107 =>
                  intro hcl107 hS107
                  clear hcl106 hS106
                  try simp only [Act.put, List.setIfInBounds_toArray, List.set_cons_zero, List.set_cons_succ]
                  refine wpAnyL_take (i := 7) (oi := ?oi108) (v := ?v108) ?hi108 (by kernel_rfl) (by kernel_rfl) (by kernel_rfl) (fun _ _ _ h => h) (until_take 11 _ (by decide)) ?hy108 hcl107 hS107 ?rest108
                  case hi108 =>
                    simp only [List.getElem?_toArray, List.getElem?_cons_succ, List.getElem?_cons_zero]
                    rfl
                  case hy108 =>
                    refine yields_until (by kernel_rfl) (Or.inl ⟨by rfl, fun w' hS => ?_⟩)
                    try go_split_ands
                    go_simp
                    try rfl
                  case rest108 =>
                  intro hcl108 hS108
                  clear hcl107 hS107
                  try simp only [Act.put, List.setIfInBounds_toArray, List.set_cons_zero, List.set_cons_succ]
                  refine wpAnyL_step (i := 8) (o := ?oi109) ?hi109 (by kernel_rfl) hcl108 ?rest109
                  case hi109 =>
                    simp only [List.getElem?_toArray, List.getElem?_cons_succ, List.getElem?_cons_zero]
                    rfl
                  case rest109 =>
                  intro K hK
                  go_simp
                  refine hK _ _ (fun _ => HC.out _ (((Wr.refl _ w5).alloc _).drew)) (fun hcl109 => ?_)
                  clear hK K hcl108 hS108
                  try simp only [Act.put, List.setIfInBounds_toArray, List.set_cons_zero, List.set_cons_succ]
                  refine wpAnyL_step (i := 9) (o := ?oi110) ?hi110 (by kernel_rfl) hcl109 ?rest110
                  case hi110 =>
                    simp only [List.getElem?_toArray, List.getElem?_cons_succ, List.getElem?_cons_zero]
                    rfl
                  case rest110 =>
                  intro K hK
                  refine step_append_run (by rfl) _ _ _ (by rfl) _ _ (by rfl) (by rfl) _ _ HRUN6.out ?_
                  refine hK _ _ (fun _ => HC.out _ ((Wr.refl _ w5).drew.trans R6.out)) (fun hcl110 => ?_)
                  clear hK K hcl109
                  try simp only [Act.put, List.setIfInBounds_toArray, List.set_cons_zero, List.set_cons_succ]
                  refine wpAnyL_take (i := 10) (oi := ?oi111) (v := ?v111) ?hi111 (by kernel_rfl) (by kernel_rfl) (by kernel_rfl) (fun _ _ _ h => h) (until_take 11 _ (by decide)) ?hy111 hcl110 (fun _ => HC.out _ ((Wr.refl _ w5).drew.trans R6.out)) ?rest111
                  case hi111 =>
                    simp only [List.getElem?_toArray, List.getElem?_cons_succ, List.getElem?_cons_zero]
                    rfl
                  case hy111 =>
                    refine yields_until (by kernel_rfl) (Or.inl ⟨by rfl, fun w' hS => ?_⟩)
                    try go_split_ands
                    go_simp
                    try rfl
                  case rest111 =>
                  intro hcl111 hS111
                  clear hcl110
                  try simp only [Act.put, List.setIfInBounds_toArray, List.set_cons_zero, List.set_cons_succ]
                  refine wpAnyL_step (i := 11) (o := ?oi112) ?hi112 (by kernel_rfl) hcl111 ?rest112
                  case hi112 =>
                    simp only [List.getElem?_toArray, List.getElem?_cons_succ, List.getElem?_cons_zero]
                    rfl
                  case rest112 =>
                  intro K hK
                  go_simp
                  refine hK _ _ (fun hb => absurd hb (by decide)) (fun hcl999 => ?_)
                  clear hK K hcl111 hS111
                  refine wpAnyL_done (by kernel_rfl) (NoPanic.normal ?_) _
                  try simp only [Act.put, List.setIfInBounds_toArray, List.set_cons_zero, List.set_cons_succ]

                  go_wp2_with fail
                  go_roundw
                  case rel =>
                    have z56 : w5.heap.size ≤ w6.heap.size := R6.out.size
                    have rL : Wr (g9 :: ownL (Value.slice AT1 j cT1)) w5 (w6.setCell ⟨g9, 1, none⟩ (.slice (some ⟨g6, 0, none⟩) (j + 1) cap6)) := (((Wr.refl _ w5).drew).trans (R6.out.more (fun x hx => List.mem_cons_of_mem _ hx))).setOn (by simp) _
                    have hg3s : ∀ x, x ∈ ownL (Value.slice (some ⟨g3, 0, none⟩) (j + 1) cap3) → x ∈ ownL (Value.slice AF1 j cF1) ∨ (wp.heap.size ≤ x ∧ x < w5.heap.size) := fun x hx => by
                      have hx1 := mem_ownL.1 hx
                      have hx2 := (HO5.out.lt x hx1).2
                      rcases HAT3.out with e | ⟨k', e, hk'⟩
                      · exact .inl (mem_ownL.2 (e.symm.trans hx1))
                      · rw [e] at hx1
                        injection hx1 with hx1
                        have : wp.heap.size ≤ k' := hk'
                        exact .inr ⟨by omega, hx2⟩
                    have hg6s : ∀ x, x ∈ ownL (Value.slice (some ⟨g6, 0, none⟩) (j + 1) cap6) → x ∈ ownL (Value.slice AT1 j cT1) ∨ w5.heap.size ≤ x := fun x hx => by
                      have hx1 := mem_ownL.1 hx
                      rcases HAT6.out with e | ⟨k', e, hk'⟩
                      · exact .inl (mem_ownL.2 (e.symm.trans hx1))
                      · rw [e] at hx1
                        injection hx1 with hx1
                        have : w5.heap.size ≤ k' := hk'
                        exact .inr (by omega)
                    have hT5 : ∀ x, x ∈ ownL (Value.slice AT1 j cT1) → x < wp.heap.size := fun x hx => (HOT.out.lt x (mem_ownL.1 hx)).2
                    have hF5 : ∀ x, x ∈ ownL (Value.slice AF1 j cF1) → x < wp.heap.size := fun x hx => (HOF.out.lt x (mem_ownL.1 hx)).2
                    refine ⟨j + 1, k + 3, _, _, hjc, by have := HK.out; omega, by go_num, (HP.out.trans' R5.out (fun x hx => ?_)).trans' rL (fun x hx => ?_), HB6.out.set_ 1 _, ?_, ?_, fun x hx hm => ?_⟩
                    · rcases List.mem_cons.1 hx with e | e
                      · exact .inl (by simp [e])
                      · exact .inr (HOF.out.lt x (mem_ownL.1 e)).1
                    · rcases List.mem_cons.1 hx with e | e
                      · exact .inl (by simp [e])
                      · exact .inr (HOT.out.lt x (mem_ownL.1 e)).1
                    · refine ownsRow_wr HO5.out rL (fun y hy hm => ?_)
                      rcases List.mem_cons.1 hm with e | e
                      · have := (HO5.out.lt y hy).1
                        omega
                      · rcases hg3s y (mem_ownL.2 hy) with q | q
                        · exact HDIS.out y q e
                        · have := hT5 y e
                          omega
                    · refine ownsRow_wr HO6.out ((Wr.refl [g9] w6).setOn (b := g9) (o := 1) (by simp) _) (fun y hy hm => ?_)
                      rw [List.mem_singleton] at hm
                      have := (HO6.out.lt y hy).1
                      omega
                    · rcases hg3s x hx with q | q <;> rcases hg6s x hm with q' | q'
                      · exact HDIS.out x q q'
                      · have := hF5 x q
                        omega
                      · have := hT5 x q'
                        omega
                      · omega
                  case measure => simp [intOf]; omega
              · have hjc : j = m.cnt i := by unfold RecD.cnt at hj ⊢; omega
                have HJC := Lib.hid hjc
                clear hjc
                go_upto_region 14 with (fail)
                go_cut [74] (fun s74 wx => s74 = .bool false ∧ wp = wx)
                case first =>
                  by_cases hj2 : k < m.fs.length
                  · have hj8 : ¬(k : Int) < (m.tos.length : Int) := by omega
                    have hj9 : (k : Int) < (m.fs.length : Int) := by omega
                    clear hin hj hk
                    go_wp2_with fail
                    go_meet
                    exact ⟨rfl, rfl⟩
                  · have hj8 : ¬(k : Int) < (m.fs.length : Int) := by omega
                    clear hin hj hk
                    go_wp2_with fail
                    go_meet
                    exact ⟨rfl, rfl⟩
                case rest =>
                  obtain ⟨rfl, rfl⟩ := hcut
                  have hbqp := (HBQ.out.wr0 HQ9.out).wr HP.out (by simp; omega)
                  have t9 := hbqp.cell 9
                  simp only [List.getElem?_toArray, List.getElem?_cons_zero, List.getElem?_cons_succ] at t9
                  have HBQP := Lib.hid hbqp
                  have hqp : Wr [] wq wp := HQ9.out.new HP.out (by have := HG9.out; omega)
                  have hrowp := ownsRow_wr0 HOK.out.row hqp
                  rw [hlen] at hrowp
                  have zqp := hqp.size
                  rw [HG9.out] at zqp
                  have zhp := hbqp.lt
                  obtain ⟨v7, w7, hrun7, ho7, r7, hat7⟩ := append_arm wr.heap.size (.slice Aa i ca) i xs wp hrowp AF1 j cF1 AT1 j cT1 bl (by omega) (by omega)
                  obtain ⟨g7, cap7, rfl, hcap7, hlt7⟩ := ho7.form (by omega)
                  have hb7 := HBQP.out.wr r7 (fun hm => by have := (hrowp.lt h (mem_ownL.1 hm)).1; omega)
                  have a7 := hb7.cell 9
                  have f7 := hb7.frozen 9
                  have z7 := hb7.lt
                  simp only [List.getElem?_toArray, List.getElem?_cons_zero, List.getElem?_cons_succ] at a7
                  have HRUN7 := Lib.hid hrun7
                  have HB7 := Lib.hid hb7
                  have HO7 := Lib.hid ho7
                  have R7 := Lib.hid r7
                  have HAT7 := Lib.hid hat7
                  have HQP := Lib.hid hqp
                  have HROWP := Lib.hid hrowp
                  clear hrun7 hb7 ho7 r7 hat7 hqp hrowp hbqp m2 m3 hin hj hk
                  go_wp2_with (at_builtin; refine wpList_append_run rfl _ _ _ rfl _ _ rfl rfl _ _ HRUN7.out ?_)
                  go_roundw
                  case rel =>
                    have harm : m.arm i = ⟨pickL m.fs i j, pickL m.tos i j, bl⟩ := by rw [RecD.arm, ← HJC.out, ← HBL.out]
                    have hvs := fun x hx => HOK.out.row.lt x hx
                    have hpq := fun x hx => HROWP.out.lt x hx
                    have zqg := HG9.out
                    have z79 : wp.heap.size ≤ w7.heap.size := R7.out.size
                    have rW : Wr (h :: ownL (Value.slice Aa i ca)) wp (w7.setCell ⟨h, 9, none⟩ (.slice (some ⟨g7, 0, none⟩) (i + 1) cap7)) := (R7.out.more (fun x hx => List.mem_cons_of_mem _ hx)).setOn (by simp) _
                    have rQ : Wr (h :: ownL (Value.slice Aa i ca)) wq (w7.setCell ⟨h, 9, none⟩ (.slice (some ⟨g7, 0, none⟩) (i + 1) cap7)) := HQP.out.nil.trans rW
                    have h7s : ∀ x, x ∈ ownL (Value.slice (some ⟨g7, 0, none⟩) (i + 1) cap7) → x ∈ ownL (Value.slice Aa i ca) ∨ wp.heap.size ≤ x := fun x hx => by
                      have hx1 := mem_ownL.1 hx
                      rcases HAT7.out with e | ⟨k', e, hk'⟩
                      · exact .inl (mem_ownL.2 (e.symm.trans hx1))
                      · rw [e] at hx1
                        injection hx1 with hx1
                        exact .inr (by omega)
                    have hva : ∀ x, x ∈ ownL (Value.slice Aa i ca) → wr.heap.size ≤ x ∧ x < g9 := fun x hx => by
                      have := HOK.out.row.lt x (mem_ownL.1 hx)
                      omega
                    refine ⟨i + 1, .slice (some ⟨g7, 0, none⟩) (i + 1) cap7, xs ++ [.slice AF1 j cF1, .slice AT1 j cT1, .bool bl], by omega, by go_num, HQ.out.trans' rQ (fun x hx => ?_), HB7.out.set_ 9 _, ?_⟩
                    · rcases List.mem_cons.1 hx with e | e
                      · exact .inl (by simp [e])
                      · exact .inr (hva x e).1
                    · rw [arms_succ, harm]
                      refine arms_snoc (w := wq) (Q := fun b => wr.heap.size ≤ b ∧ b ∉ ownL (Value.slice (some ⟨g7, 0, none⟩) (i + 1) cap7)) (va' := .slice (some ⟨g7, 0, none⟩) (i + 1) cap7) (vF := .slice AF1 j cF1) (vT := .slice AT1 j cT1) (x := ⟨pickL m.fs i j, pickL m.tos i j, bl⟩) (P := fun b => (wr.heap.size ≤ b ∧ b ∉ ownL (Value.slice Aa i ca)) ∧ b < wq.heap.size) ⟨HOK.out.row, HOK.out.one, fun i' x hi' => (HOK.out.all i' x hi').into (fun b hb hs => ⟨hb, hs⟩)⟩ rQ (fun b hb hm => ?_) (fun b hb _ => ⟨hb.1.1, fun hm => ?_⟩) ?_ ?_ ?_
                      · rcases List.mem_cons.1 hm with e | e
                        · have := hb.1.1
                          omega
                        · exact hb.1.2 e
                      · rcases h7s b hm with e | e
                        · exact hb.1.2 e
                        · have := hb.2
                          omega
                      · rw [hlen]
                        refine ownsRow_wr HO7.out ((Wr.refl [h] w7).setOn (b := h) (o := 9) (by simp) _) (fun y hy hm => ?_)
                        rw [List.mem_singleton] at hm
                        have := (HO7.out.lt y hy).1
                        omega
                      · unfold SlInts
                        rw [pick_len]
                        refine Sl.into (Sl.keep (P := fun b => w9.heap.size ≤ b ∧ b < wp.heap.size) (Sl.ofOwn HOF.out (fun b hb => ⟨(HOF.out.lt b hb).1, (HOF.out.lt b hb).2⟩)) rW (fun b hb hm => ?_)) (fun b hb _ => ⟨by omega, fun hm => ?_⟩)
                        · rcases List.mem_cons.1 hm with e | e
                          · omega
                          · have := hva b e
                            omega
                        · rcases h7s b hm with e | e
                          · have := hva b e
                            omega
                          · omega
                      · unfold SlInts
                        rw [pick_len]
                        refine Sl.into (Sl.keep (P := fun b => w9.heap.size ≤ b ∧ b < wp.heap.size) (Sl.ofOwn HOT.out (fun b hb => ⟨(HOT.out.lt b hb).1, (HOT.out.lt b hb).2⟩)) rW (fun b hb hm => ?_)) (fun b hb _ => ⟨by omega, fun hm => ?_⟩)
                        · rcases List.mem_cons.1 hm with e | e
                          · omega
                          · have := hva b e
                            omega
                        · rcases h7s b hm with e | e
                          · have := hva b e
                            omega
                          · omega
                  case measure => simp [intOf]; omega
          · obtain rfl : i = 3 := by omega
            have h1q : Wr [h] w1 wq := HR.out.trans HQ.out
            have hbz := HBZ.out.wr h1q (by simp; omega)
            have hbt := HBQ.out
            have y0 := hbt.cell 0
            have z0 := hbz.cell 0
            have fz0 := hbz.frozen 0
            have y1 := hbt.cell 1
            have z1 := hbz.cell 1
            have fz1 := hbz.frozen 1
            have y2 := hbt.cell 2
            have z2 := hbz.cell 2
            have fz2 := hbz.frozen 2
            have y3 := hbt.cell 3
            have z3 := hbz.cell 3
            have fz3 := hbz.frozen 3
            have y4 := hbt.cell 4
            have z4 := hbz.cell 4
            have fz4 := hbz.frozen 4
            have y5 := hbt.cell 5
            have z5 := hbz.cell 5
            have fz5 := hbz.frozen 5
            have y6 := hbt.cell 6
            have z6 := hbz.cell 6
            have fz6 := hbz.frozen 6
            have y7 := hbt.cell 7
            have z7 := hbz.cell 7
            have fz7 := hbz.frozen 7
            have y8 := hbt.cell 8
            have z8 := hbz.cell 8
            have fz8 := hbz.frozen 8
            have y9 := hbt.cell 9
            have z9 := hbz.cell 9
            have fz9 := hbz.frozen 9
            have y10 := hbt.cell 10
            have z10 := hbz.cell 10
            have fz10 := hbz.frozen 10
            have y11 := hbt.cell 11
            have z11 := hbz.cell 11
            have fz11 := hbz.frozen 11
            simp only [List.getElem?_toArray, List.getElem?_cons_zero, List.getElem?_cons_succ] at y0 z0 y1 z1 y2 z2 y3 z3 y4 z4 y5 z5 y6 z6 y7 z7 y8 z8 y9 z9 y10 z10 y11 z11
            have zg := hbz.lt
            have H1Q := Lib.hid h1q
            have HLEN := Lib.hid hlen
            clear hbt hbz h1q hlt hlen
            go_wp2_with fail
            refine bodyPost_ret (v := (m.ty n).val (.slice none 0 0) (.slice Ao nf co) (.slice Aa 3 ca) (.slice none 0 0)) ?_ rfl ⟨_, _, _, _, rfl, ?_, ?_⟩
            · simp [RecD.ty, Ty.val, Ty.cells, results, Try.results19, go_sem, y0, z0, y1, z1, y2, z2, y3, z3, y4, z4, y5, z5, y6, z6, y7, z7, y8, z8, y9, z9, y10, z10, y11, z11, HLEN.out]
            · iterate 12 refine Wr.setNew ?_ (by omega) _
              exact ACC.out.trans' H1Q.out (fun x hx => by rw [List.mem_singleton] at hx; exact .inr (by omega))
            · have hnf : (m.flds n (min m.ts.length 8)).length = nf := by rw [← HQ3.out]; simp [RecD.flds]
              refine ⟨Sl.nil _ _ 1, ?_, ⟨xs, ?_, HOK.out.one, fun i' x hi' => ?_⟩, Sl.nil _ _ 2⟩
              · unfold SlFlds
                show Sl _ _ 3 _ (m.flds n (min m.ts.length 8)).length _
                rw [hnf]
                have e : (m.ty n).fields = m.flds n nf := by rw [HQ3.out]; rfl
                rw [e]
                refine Sl.mono (Sl.keep (l := [w.heap.size + 1]) (Sl.keep (P := fun y => h + 1 ≤ y) (Sl.ofOwn HO1.out (fun y hy => (HO1.out.lt y hy).1)) HQ.out (fun y hy hm => by simp at hm; omega)) ?_ (fun y hy hm => by simp at hm; omega)) (fun y hy => by omega)
                iterate 12 refine Wr.setOn ?_ (by simp) _
                exact Wr.refl _ _
              · show Sl _ _ 3 _ (m.arms 3).length _
                rw [HLEN.out]
                have hr := HOK.out.row
                rw [HLEN.out] at hr
                refine Sl.mono (Sl.keep (l := [w.heap.size + 1]) (P := fun y => wr.heap.size ≤ y) (Sl.ofOwn hr (fun y hy => (hr.lt y hy).1)) ?_ (fun y hy hm => by simp at hm; omega)) (fun y hy => by omega)
                iterate 12 refine Wr.setOn ?_ (by simp) _
                exact Wr.refl _ _
              · refine ArmAt.into (ArmAt.keep (l := [w.heap.size + 1]) (HOK.out.all i' x hi') ?_ (fun b hb hm => by have := hb.1; simp at hm; omega)) (fun b hb _ => by have := hb.1; omega)
                iterate 12 refine Wr.setOn ?_ (by simp) _
                exact Wr.refl _ _
end Go.Proofs.Ytloihffdolehhaa
