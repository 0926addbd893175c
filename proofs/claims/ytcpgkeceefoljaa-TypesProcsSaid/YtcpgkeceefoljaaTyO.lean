/- Made.Type, walked. Conditions: its fields are such as Go has; it stands behind some types, not too many. -/
import Derived.Test.YtcpgkeceefoljaaTyN
import Derived.Test.YtcpgkeceefoljaaRegL
import Derived.Deep.RegionHeld3
import Derived.Deep.DeepCutAuto
namespace Go.Proofs.Ytcpgkeceefoljaa
open Go.RowKit
set_option linter.unusedVariables false
set_option linter.unusedSimpArgs false
attribute [local go_sem ↓] Go.wp_at_zero Go.wp_at_succ

theorem append_par (base : Nat) (v : Value) (n : Nat) (xs : List Value) (W : World) (ho : W.ownsRow base 33 2 v n xs) (x : Par) (hn : n < 1099511627776) (hb : base ≤ W.heap.size) :
    ∃ v' w', (Builtin.append_ #[29, 29] 29 #[v, .slice (some ⟨W.heap.size, 0, none⟩) 1 1]).run Try.prog (W.alloc (.cells #[.bool x.var, .int .i64 x.type] 33)) = .ok v' w' ∧
      w'.ownsRow base 33 2 v' (n + 1) (xs ++ x.cells) ∧ Wr (ownL v) W w' ∧ (v'.ownBlock = v.ownBlock ∨ ∃ k, v'.ownBlock = some k ∧ W.heap.size ≤ k) := by
  obtain ⟨i0, hi0, hz0, hz1, hz2⟩ := info_parts info_par
  have hs : Sl (W.alloc (.cells #[.bool x.var, .int .i64 x.type] 33)) (fun _ => True) 2 (.slice (some ⟨W.heap.size, 0, none⟩) 1 1) 1 x.cells :=
    Sl.ofOwn (World.ownsRow_lit W #[.bool x.var, .int .i64 x.type] 1 (Nat.le_refl _) (by simp only [maxLen]; omega) rfl) (fun _ _ => trivial)
  obtain ⟨v', w', hrun, hown, hg, hat⟩ := run_append_sl (P := Try.prog) (W.alloc (.cells #[.bool x.var, .int .i64 x.type] 33)) base 29 29 33 i0 _ 2 16 Try.underlying29 hi0 hz0 hz1 hz2 rfl (by omega)
    v n xs (ho.alloc _) (fun _ => True) _ 1 _ hs (by intro u hu; simp only [Par.cells, List.mem_cons, List.not_mem_nil, or_false] at hu; rcases hu with rfl | rfl <;> rfl) (by simp only [maxLen]; omega) (by omega) (by simp; omega)
  refine ⟨v', w', hrun, hown, ((Wr.refl _ W).alloc _).trans (Wr.ofGrownOwn hg), ?_⟩
  rcases hat with e | e
  · exact .inl e
  · exact .inr ⟨_, e, by simp⟩

def parAt (ps : List Int) (vs : List Bool) (n : Int) (i : Nat) : Par := ⟨vs.getD i false, ps.getD i 0 % n⟩
def parsOf (ps : List Int) (vs : List Bool) (n : Int) (m : Nat) : List Par := (List.range m).map (parAt ps vs n)
/-- What such a type is. -/
def madeTy (k b x lo hi : Int) (ps : List Int) (vs : List Bool) (n : Int) : Ty := ⟨k % 12 + 7, ⟨#[]⟩, ⟨#[]⟩, b % n, x % n, lo, hi, [], [], [], parsOf ps vs n (min ps.length 6), x % n⟩
theorem parsOf_succ (ps : List Int) (vs : List Bool) (n : Int) (m : Nat) : parsOf ps vs n (m + 1) = parsOf ps vs n m ++ [parAt ps vs n m] := by
  simp [parsOf, List.range_succ]

def MadeAt (w : World) (k b x lo hi : Int) (ps : List Int) (vs : List Bool) (n : Int) (Ap Av : Option Addr) (cp cv g h : Nat) (s6 : Value) (wr : World) : Prop :=
  ∃ (j : Nat) (v : Value), j ≤ min ps.length 6 ∧ s6 = .int .i64 j ∧ Wr [] w wr ∧ Blk wr g 61 #[.int .u8 k, .int .u16 b, .int .u16 x, .int .i32 lo, .int .i32 hi, .slice Ap ps.length cp, .slice Av vs.length cv] ∧ Blk wr (g + 1) 31 #[.int .u8 0, .string ⟨#[]⟩, .string ⟨#[]⟩, .int .i64 0, .int .i64 0, .int .i64 0, .int .i64 0, .slice none 0 0, .slice none 0 0, .slice none 0 0, .slice none 0 0, .int .i64 0] ∧ Blk wr h 31 #[.int .u8 (k % 12 + 7), .string ⟨#[]⟩, .string ⟨#[]⟩, .int .i64 (b % n), .int .i64 (x % n), .int .i64 lo, .int .i64 hi, .slice none 0 0, .slice none 0 0, .slice none 0 0, v, .int .i64 (x % n)] ∧
    wr.ownsRow (h + 1) 33 2 v j ((parsOf ps vs n j).flatMap Par.cells) ∧ w.heap.size ≤ g ∧ g + 1 < h ∧ (∀ i, i < ps.length → ∃ bb off, Ap = some ⟨bb, off, none⟩ ∧ bb < w.heap.size ∧ wr.cell? ⟨bb, off + i, none⟩ = some (.int .u16 (ps.getD i 0))) ∧
    (∀ i, i < vs.length → ∃ bb off, Av = some ⟨bb, off, none⟩ ∧ bb < w.heap.size ∧ wr.cell? ⟨bb, off + i, none⟩ = some (.bool (vs.getD i false)))

set_option maxRecDepth 100000 in
set_option maxHeartbeats 16000000 in
theorem made_any (w : World) (k b x lo hi : Int) (ps : List Int) (vs : List Bool) (n : Int) (Ap Av : Option Addr) (cp cv : Nat) (hk : 0 ≤ k ∧ k ≤ 255) (hb : 0 ≤ b ∧ b ≤ 65535) (hx : 0 ≤ x ∧ x ≤ 65535) (hlo : -2147483648 ≤ lo ∧ lo ≤ 2147483647) (hhi : -2147483648 ≤ hi ∧ hi ≤ 2147483647)
    (hps : ∀ i, i < ps.length → 0 ≤ ps.getD i 0 ∧ ps.getD i 0 ≤ 65535) (hn : 1 ≤ n ∧ n ≤ 4096) (hlp : ps.length ≤ cp ∧ cp ≤ maxLen) (hlv : vs.length ≤ cv ∧ cv ≤ maxLen)
    (hcp : ∀ i, i < ps.length → ∃ bb off, Ap = some ⟨bb, off, none⟩ ∧ w.cell? ⟨bb, off + i, none⟩ = some (.int .u16 (ps.getD i 0)))
    (hcv : ∀ i, i < vs.length → ∃ bb off, Av = some ⟨bb, off, none⟩ ∧ w.cell? ⟨bb, off + i, none⟩ = some (.bool (vs.getD i false))) :
    Calls Try.prog 25 #[.agg #[.int .u8 k, .int .u16 b, .int .u16 x, .int .i32 lo, .int .i32 hi, .slice Ap ps.length cp, .slice Av vs.length cv], .int .i64 n] w (CopyP w (madeTy k b x lo hi ps vs n)) := by
  unfold maxLen at hlp hlv
  obtain ⟨k0, k1⟩ := hk
  obtain ⟨b0, b1⟩ := hb
  obtain ⟨x0, x1⟩ := hx
  obtain ⟨n0, n1⟩ := hn
  obtain ⟨lp0, lp1⟩ := hlp
  obtain ⟨lv0, lv1⟩ := hlv
  obtain ⟨o0, o1⟩ := hlo
  obtain ⟨i0, i1⟩ := hhi
  have HPS := Lib.hid hps
  have HCP := Lib.hid hcp
  have HCV := Lib.hid hcv
  clear hps hcp hcv
  go_enter Try.func25, Try.ntmps25
  go_wp2_with fail
  have hbm := (Blk.new w 61 #[.int .u8 k, .int .u16 b, .int .u16 x, .int .i32 lo, .int .i32 hi, .slice Ap ps.length cp, .slice Av vs.length cv]).alloc (.cells #[.int .u8 0, .string ⟨#[]⟩, .string ⟨#[]⟩, .int .i64 0, .int .i64 0, .int .i64 0, .int .i64 0, .slice none 0 0, .slice none 0 0, .slice none 0 0, .slice none 0 0, .int .i64 0] 31)
  have hbz : Blk ((w.alloc (.cells #[.int .u8 k, .int .u16 b, .int .u16 x, .int .i32 lo, .int .i32 hi, .slice Ap ps.length cp, .slice Av vs.length cv] 61)).alloc (.cells #[.int .u8 0, .string ⟨#[]⟩, .string ⟨#[]⟩, .int .i64 0, .int .i64 0, .int .i64 0, .int .i64 0, .slice none 0 0, .slice none 0 0, .slice none 0 0, .slice none 0 0, .int .i64 0] 31)) (w.heap.size + 1) 31 #[.int .u8 0, .string ⟨#[]⟩, .string ⟨#[]⟩, .int .i64 0, .int .i64 0, .int .i64 0, .int .i64 0, .slice none 0 0, .slice none 0 0, .slice none 0 0, .slice none 0 0, .int .i64 0] := by
    have := Blk.new (w.alloc (.cells #[.int .u8 k, .int .u16 b, .int .u16 x, .int .i32 lo, .int .i32 hi, .slice Ap ps.length cp, .slice Av vs.length cv] 61)) 31 #[.int .u8 0, .string ⟨#[]⟩, .string ⟨#[]⟩, .int .i64 0, .int .i64 0, .int .i64 0, .int .i64 0, .slice none 0 0, .slice none 0 0, .slice none 0 0, .slice none 0 0, .int .i64 0]
    rw [World.size_alloc] at this
    exact this
  have acc := ((Wr.refl [] w).alloc (.cells #[.int .u8 k, .int .u16 b, .int .u16 x, .int .i32 lo, .int .i32 hi, .slice Ap ps.length cp, .slice Av vs.length cv] 61)).alloc (.cells #[.int .u8 0, .string ⟨#[]⟩, .string ⟨#[]⟩, .int .i64 0, .int .i64 0, .int .i64 0, .int .i64 0, .slice none 0 0, .slice none 0 0, .slice none 0 0, .slice none 0 0, .int .i64 0] 31)
  generalize (w.alloc (.cells #[.int .u8 k, .int .u16 b, .int .u16 x, .int .i32 lo, .int .i32 hi, .slice Ap ps.length cp, .slice Av vs.length cv] 61)).alloc (.cells #[.int .u8 0, .string ⟨#[]⟩, .string ⟨#[]⟩, .int .i64 0, .int .i64 0, .int .i64 0, .int .i64 0, .slice none 0 0, .slice none 0 0, .slice none 0 0, .slice none 0 0, .int .i64 0] 31) = w0 at *
  have HBM := Lib.hid hbm
  have HBZ := Lib.hid hbz
  have ACC := Lib.hid acc
  have m0 := hbm.cell 0
  have m1 := hbm.cell 1
  have m2 := hbm.cell 2
  have m3 := hbm.cell 3
  have m4 := hbm.cell 4
  simp only [List.getElem?_toArray, List.getElem?_cons_zero, List.getElem?_cons_succ] at m0 m1 m2 m3 m4
  have e0 := World.new_ne w0 _ m0
  have e1 := World.new_ne w0 _ m1
  have e2 := World.new_ne w0 _ m2
  have e3 := World.new_ne w0 _ m3
  have e4 := World.new_ne w0 _ m4
  have q1 : Int.tmod b n = b % n := Int.tmod_eq_emod_of_nonneg b0
  have q2 : Int.tmod x n = x % n := Int.tmod_eq_emod_of_nonneg x0
  have q3 : Int.tmod k 12 = k % 12 := Int.tmod_eq_emod_of_nonneg k0
  have wb : IntKind.i64.wrap b = b := by rw [IntKind.wrap_i64]; omega
  have wx : IntKind.i64.wrap x = x := by rw [IntKind.wrap_i64]; omega
  have wlo : IntKind.i64.wrap lo = lo := by rw [IntKind.wrap_i64]; omega
  have whi : IntKind.i64.wrap hi = hi := by rw [IntKind.wrap_i64]; omega
  have q4 : IntKind.u8.wrap (k % 12 + 7) = k % 12 + 7 := by rw [IntKind.wrap_u8]; omega
  have zz := hbz.lt
  have hn0 : ¬n = 0 := by omega
  have hn0b : (n == 0) = false := by simp [hn0]
  clear hbm hbz acc
  go_region_held3 (fun w' => w'.cell? ⟨w.heap.size, 0, none⟩ = some (.int .u8 k) ∧ w'.cell? ⟨w.heap.size, 1, none⟩ = some (.int .u16 b) ∧ w'.cell? ⟨w.heap.size, 2, none⟩ = some (.int .u16 x) ∧ w'.cell? ⟨w.heap.size, 3, none⟩ = some (.int .i32 lo) ∧ w'.cell? ⟨w.heap.size, 4, none⟩ = some (.int .i32 hi)) (go_keep) (fail)
  have at0 : MadeAt w k b x lo hi ps vs n Ap Av cp cv w.heap.size w0.heap.size (.int .i64 0) (w0.alloc (.cells #[.int .u8 (k % 12 + 7), .string ⟨#[]⟩, .string ⟨#[]⟩, .int .i64 (b % n), .int .i64 (x % n), .int .i64 lo, .int .i64 hi, .slice none 0 0, .slice none 0 0, .slice none 0 0, .slice none 0 0, .int .i64 (x % n)] 31)).drew := by
    refine ⟨0, .slice none 0 0, by omega, rfl, (ACC.out.alloc _).drew, (HBM.out.alloc _).drew, (HBZ.out.alloc _).drew, (Blk.new w0 _ _).drew, World.ownsRow_nil _ _ _ _, Nat.le_refl _, zz, fun i hi => ?_, fun i hi => ?_⟩
    · obtain ⟨bb, off, e1, e2⟩ := HCP.out i hi
      exact ⟨bb, off, e1, World.block_lt_of_cell? w _ e2, ((ACC.out.alloc _).drew).cellOf e2 (by simp)⟩
    · obtain ⟨bb, off, e1, e2⟩ := HCV.out i hi
      exact ⟨bb, off, e1, World.block_lt_of_cell? w _ e2, ((ACC.out.alloc _).drew).cellOf e2 (by simp)⟩
  have AT0 := Lib.hid at0
  clear at0 m0 m1 m2 m3 m4 e0 e1 e2 e3 e4 HBM HBZ HCP HCV ACC q1 q2 q3 q4 wb wx wlo whi
  go_wp2_with fail
  generalize w0.heap.size = h at *
  go_loopw [6] (fun s6 wr => MadeAt w k b x lo hi ps vs n Ap Av cp cv w.heap.size h s6 wr) (fun s6 _ => 6 - (intOf s6).toNat)
  case atStart => exact AT0.out
  case round =>
    obtain ⟨j, v, hj, rfl, hw, hbm, hbz, hbt, ho, hgz, hgh, hpc, hvc⟩ := hrel
    obtain ⟨Ao, co, hvo, _, _⟩ := Sl.form (P := fun _ => True) (Sl.ofOwn ho (fun _ _ => trivial))
    subst hvo
    have HW := Lib.hid hw
    have HBM := Lib.hid hbm
    have HBZ := Lib.hid hbz
    have HBT := Lib.hid hbt
    have HO := Lib.hid ho
    have HPC := Lib.hid hpc
    have HVC := Lib.hid hvc
    have HGH := Lib.hid (And.intro hgz hgh)
    have a5 := hbm.cell 5
    have a6 := hbm.cell 6
    have t10 := hbt.cell 10
    simp only [List.getElem?_toArray, List.getElem?_cons_zero, List.getElem?_cons_succ] at a5 a6 t10
    have zh := hbt.lt
    have zw := hw.size
    by_cases hlt : j < min ps.length 6
    · have hjp : j < ps.length := by omega
      obtain ⟨bp, op, rfl, hpb, hpcell⟩ := hpc j hjp
      obtain ⟨p0, p1⟩ := HPS.out j hjp
      obtain ⟨pp, hpp⟩ : ∃ pp, pp = ps.getD j 0 := ⟨_, rfl⟩
      obtain ⟨vv, hvv⟩ : ∃ vv, vv = vs.getD j false := ⟨_, rfl⟩
      rw [← hpp] at hpcell p0 p1
      have q5 : Int.tmod pp n = pp % n := Int.tmod_eq_emod_of_nonneg p0
      have wp : IntKind.i64.wrap pp = pp := by rw [IntKind.wrap_i64]; omega
      have hi0 : (0 : Int) ≤ (j : Int) := by omega
      have hi1 : (j : Int) < (ps.length : Int) := by omega
      have hi2 : (j : Int) < 6 := by omega
      clear hw hbm hbz hbt ho hpc hvc hgz AT0
      by_cases hjv : j < vs.length
      · obtain ⟨bv, ov, rfl, hvb, hvc⟩ := HVC.out j hjv
        have hj3 : (j : Int) < (vs.length : Int) := by omega
        have hg3 : decide ((j : Int) < (vs.length : Int)) = true := by simp; omega
        have hpa : parAt ps vs n j = ⟨vv, pp % n⟩ := by rw [parAt, ← hpp, ← hvv]
        rw [← hvv] at hvc
        obtain ⟨v3, w3, hrun, ho3, r3, hat3⟩ := append_par (h + 1) _ j _ wr.drew HO.out.drew (parAt ps vs n j) (by omega) (by show h + 1 ≤ wr.heap.size; omega)
        obtain ⟨g3, cap3, rfl, hcap3, hlt3⟩ := ho3.form (by omega)
        have hnown : ∀ y, y ≤ h → y ∉ ownL (Value.slice Ao j co) := fun y hy hm => by
          have := (HO.out.lt y (mem_ownL.1 hm)).1
          omega
        have hb3 := HBT.out.drew.wr r3 (hnown h (Nat.le_refl _))
        have a3 := hb3.cell 10
        have f3 := hb3.frozen 10
        have z3 := hb3.lt
        simp only [List.getElem?_toArray, List.getElem?_cons_zero, List.getElem?_cons_succ] at a3
        rw [hpa] at hrun
        simp only at hrun
        have HRUN := Lib.hid hrun
        have HB3 := Lib.hid hb3
        have HO3 := Lib.hid ho3
        have R3 := Lib.hid r3
        have HNO := Lib.hid hnown
        clear hrun hb3 ho3 r3 hnown hat3 hpa hpp hvv
        go_wp2_with fail
        have hC : ∀ W, Wr (ownL (Value.slice Ao j co)) wr W → W.cell? ⟨h, 10, none⟩ = some (.slice Ao j co) ∧ W.cell? ⟨w.heap.size, 5, none⟩ = some (.slice (some ⟨bp, op, none⟩) ps.length cp) ∧ W.cell? ⟨w.heap.size, 6, none⟩ = some (.slice (some ⟨bv, ov, none⟩) vs.length cv) ∧ W.cell? ⟨bp, op + j, none⟩ = some (.int .u16 pp) ∧ W.cell? ⟨bv, ov + j, none⟩ = some (.bool vv) := fun W hW => ⟨hW.cellOf t10 (HNO.out h (by omega)), hW.cellOf a5 (HNO.out w.heap.size (by omega)), hW.cellOf a6 (HNO.out w.heap.size (by omega)), hW.cellOf hpcell (HNO.out bp (by omega)), hW.cellOf hvc (HNO.out bv (by omega))⟩
        have HC := Lib.hid hC
        clear hC
        refine wp_region_noPanic ?_
        refine wp_region_L (Until 26 fun w' => w'.cell? ⟨h, 10, none⟩ = some (.slice Ao j co) ∧ w'.cell? ⟨w.heap.size, 5, none⟩ = some (.slice (some ⟨bp, op, none⟩) ps.length cp) ∧ w'.cell? ⟨w.heap.size, 6, none⟩ = some (.slice (some ⟨bv, ov, none⟩) vs.length cv) ∧ w'.cell? ⟨bp, op + j, none⟩ = some (.int .u16 pp) ∧ w'.cell? ⟨bv, ov + j, none⟩ = some (.bool vv)) (by kernel_rfl) (fun hcl => ?_)
        have hS : Until 26 (fun w' => w'.cell? ⟨h, 10, none⟩ = some (.slice Ao j co) ∧ w'.cell? ⟨w.heap.size, 5, none⟩ = some (.slice (some ⟨bp, op, none⟩) ps.length cp) ∧ w'.cell? ⟨w.heap.size, 6, none⟩ = some (.slice (some ⟨bv, ov, none⟩) vs.length cv) ∧ w'.cell? ⟨bp, op + j, none⟩ = some (.int .u16 pp) ∧ w'.cell? ⟨bv, ov + j, none⟩ = some (.bool vv)) (Array.replicate 27 false) wr.drew := fun _ => ⟨t10, a5, a6, hpcell, hvc⟩
        refine wpAnyL_take (i := 0) (oi := ?oi1) (v := ?v1) ?hi1 (by kernel_rfl) (by kernel_rfl) (by kernel_rfl) (fun _ _ _ h => h) (until_take 26 _ (by decide)) ?hy1 hcl hS ?rest1
        case hi1 =>
          simp only [List.getElem?_toArray, List.getElem?_cons_succ, List.getElem?_cons_zero]
          rfl
        case hy1 =>
          refine yields_until (by kernel_rfl) (Or.inl ⟨by rfl, fun w' hS => ?_⟩)
          go_split_ands
          go_simp
          try rfl
        case rest1 =>
        clear hcl hS
        intro hcl hS
        simp only [Act.put, List.setIfInBounds_toArray, List.set_cons_zero, List.set_cons_succ]
        refine wpAnyL_take (i := 1) (oi := ?oi2) (v := ?v2) ?hi2 (by kernel_rfl) (by kernel_rfl) (by kernel_rfl) (fun _ _ _ h => h) (until_take 26 _ (by decide)) ?hy2 hcl hS ?rest2
        case hi2 =>
          simp only [List.getElem?_toArray, List.getElem?_cons_succ, List.getElem?_cons_zero]
          rfl
        case hy2 =>
          refine yields_until (by kernel_rfl) (Or.inl ⟨by rfl, fun w' hS => ?_⟩)
          go_split_ands
          go_simp
          try rfl
        case rest2 =>
        clear hcl hS
        intro hcl hS
        simp only [Act.put, List.setIfInBounds_toArray, List.set_cons_zero, List.set_cons_succ]
        refine wpAnyL_take (i := 2) (oi := ?oi3) (v := ?v3) ?hi3 (by kernel_rfl) (by kernel_rfl) (by kernel_rfl) (fun _ _ _ h => h) (until_take 26 _ (by decide)) ?hy3 hcl hS ?rest3
        case hi3 =>
          simp only [List.getElem?_toArray, List.getElem?_cons_succ, List.getElem?_cons_zero]
          rfl
        case hy3 =>
          refine yields_until (by kernel_rfl) (Or.inl ⟨by rfl, fun w' hS => ?_⟩)
          go_split_ands
          go_simp
          try rfl
        case rest3 =>
        clear hcl hS
        intro hcl hS
        simp only [Act.put, List.setIfInBounds_toArray, List.set_cons_zero, List.set_cons_succ]
        refine wpAnyL_take (i := 3) (oi := ?oi4) (v := ?v4) ?hi4 (by kernel_rfl) (by kernel_rfl) (by kernel_rfl) (fun _ _ _ h => h) (until_take 26 _ (by decide)) ?hy4 hcl hS ?rest4
        case hi4 =>
          simp only [List.getElem?_toArray, List.getElem?_cons_succ, List.getElem?_cons_zero]
          rfl
        case hy4 =>
          refine yields_until (by kernel_rfl) (Or.inl ⟨by rfl, fun w' hS => ?_⟩)
          go_split_ands
          go_simp
          try rfl
        case rest4 =>
        clear hcl hS
        intro hcl hS
        simp only [Act.put, List.setIfInBounds_toArray, List.set_cons_zero, List.set_cons_succ]
        refine wpAnyL_take (i := 4) (oi := ?oi5) (v := ?v5) ?hi5 (by kernel_rfl) (by kernel_rfl) (by kernel_rfl) (fun _ _ _ h => h) (until_take 26 _ (by decide)) ?hy5 hcl hS ?rest5
        case hi5 =>
          simp only [List.getElem?_toArray, List.getElem?_cons_succ, List.getElem?_cons_zero]
          rfl
        case hy5 =>
          refine yields_until (by kernel_rfl) (Or.inl ⟨by rfl, fun w' hS => ?_⟩)
          go_split_ands
          go_simp
          try rfl
        case rest5 =>
        clear hcl hS
        intro hcl hS
        simp only [Act.put, List.setIfInBounds_toArray, List.set_cons_zero, List.set_cons_succ]
        refine wpAnyL_take (i := 5) (oi := ?oi6) (v := ?v6) ?hi6 (by kernel_rfl) (by kernel_rfl) (by kernel_rfl) (fun _ _ _ h => h) (until_take 26 _ (by decide)) ?hy6 hcl hS ?rest6
        case hi6 =>
          simp only [List.getElem?_toArray, List.getElem?_cons_succ, List.getElem?_cons_zero]
          rfl
        case hy6 =>
          refine yields_until (by kernel_rfl) (Or.inl ⟨by rfl, fun w' hS => ?_⟩)
          go_split_ands
          go_simp
          try rfl
        case rest6 =>
        clear hcl hS
        intro hcl hS
        simp only [Act.put, List.setIfInBounds_toArray, List.set_cons_zero, List.set_cons_succ]
        refine wpAnyL_take (i := 6) (oi := ?oi7) (v := ?v7) ?hi7 (by kernel_rfl) (by kernel_rfl) (by kernel_rfl) (fun _ _ _ h => h) (until_take 26 _ (by decide)) ?hy7 hcl hS ?rest7
        case hi7 =>
          simp only [List.getElem?_toArray, List.getElem?_cons_succ, List.getElem?_cons_zero]
          rfl
        case hy7 =>
          refine yields_until (by kernel_rfl) (Or.inl ⟨by rfl, fun w' hS => ?_⟩)
          go_split_ands
          go_simp
          try rfl
        case rest7 =>
        clear hcl hS
        intro hcl hS
        simp only [Act.put, List.setIfInBounds_toArray, List.set_cons_zero, List.set_cons_succ]
        refine wpAnyL_take (i := 7) (oi := ?oi8) (v := ?v8) ?hi8 (by kernel_rfl) (by kernel_rfl) (by kernel_rfl) (fun _ _ _ h => h) (until_take 26 _ (by decide)) ?hy8 hcl hS ?rest8
        case hi8 =>
          simp only [List.getElem?_toArray, List.getElem?_cons_succ, List.getElem?_cons_zero]
          rfl
        case hy8 =>
          refine yields_until (by kernel_rfl) (Or.inl ⟨by rfl, fun w' hS => ?_⟩)
          go_split_ands
          go_simp
          try rfl
        case rest8 =>
        clear hcl hS
        intro hcl hS
        simp only [Act.put, List.setIfInBounds_toArray, List.set_cons_zero, List.set_cons_succ]
        refine wpAnyL_take (i := 8) (oi := ?oi9) (v := ?v9) ?hi9 (by kernel_rfl) (by kernel_rfl) (by kernel_rfl) (fun _ _ _ h => h) (until_take 26 _ (by decide)) ?hy9 hcl hS ?rest9
        case hi9 =>
          simp only [List.getElem?_toArray, List.getElem?_cons_succ, List.getElem?_cons_zero]
          rfl
        case hy9 =>
          refine yields_until (by kernel_rfl) (Or.inl ⟨by rfl, fun w' hS => ?_⟩)
          go_split_ands
          go_simp
          try rfl
        case rest9 =>
        clear hcl hS
        intro hcl hS
        simp only [Act.put, List.setIfInBounds_toArray, List.set_cons_zero, List.set_cons_succ]
        refine wpAnyL_take (i := 9) (oi := ?oi10) (v := ?v10) ?hi10 (by kernel_rfl) (by kernel_rfl) (by kernel_rfl) (fun _ _ _ h => h) (until_take 26 _ (by decide)) ?hy10 hcl hS ?rest10
        case hi10 =>
          simp only [List.getElem?_toArray, List.getElem?_cons_succ, List.getElem?_cons_zero]
          rfl
        case hy10 =>
          refine yields_until (by kernel_rfl) (Or.inl ⟨by rfl, fun w' hS => ?_⟩)
          go_split_ands
          go_simp
          try rfl
        case rest10 =>
        clear hcl hS
        intro hcl hS
        simp only [Act.put, List.setIfInBounds_toArray, List.set_cons_zero, List.set_cons_succ]
        refine wpAnyL_take (i := 10) (oi := ?oi11) (v := ?v11) ?hi11 (by kernel_rfl) (by kernel_rfl) (by kernel_rfl) (fun _ _ _ h => h) (until_take 26 _ (by decide)) ?hy11 hcl hS ?rest11
        case hi11 =>
          simp only [List.getElem?_toArray, List.getElem?_cons_succ, List.getElem?_cons_zero]
          rfl
        case hy11 =>
          refine yields_until (by kernel_rfl) (Or.inl ⟨by rfl, fun w' hS => ?_⟩)
          go_split_ands
          go_simp
          try rfl
        case rest11 =>
        clear hcl hS
        intro hcl hS
        simp only [Act.put, List.setIfInBounds_toArray, List.set_cons_zero, List.set_cons_succ]
        refine wpAnyL_take (i := 11) (oi := ?oi12) (v := ?v12) ?hi12 (by kernel_rfl) (by kernel_rfl) (by kernel_rfl) (fun _ _ _ h => h) (until_take 26 _ (by decide)) ?hy12 hcl hS ?rest12
        case hi12 =>
          simp only [List.getElem?_toArray, List.getElem?_cons_succ, List.getElem?_cons_zero]
          rfl
        case hy12 =>
          refine yields_until (by kernel_rfl) (Or.inl ⟨by rfl, fun w' hS => ?_⟩)
          go_split_ands
          go_simp
          try rfl
        case rest12 =>
        clear hcl hS
        intro hcl hS
        simp only [Act.put, List.setIfInBounds_toArray, List.set_cons_zero, List.set_cons_succ]
        refine wpAnyL_take (i := 12) (oi := ?oi13) (v := ?v13) ?hi13 (by kernel_rfl) (by kernel_rfl) (by kernel_rfl) (fun _ _ _ h => h) (until_take 26 _ (by decide)) ?hy13 hcl hS ?rest13
        case hi13 =>
          simp only [List.getElem?_toArray, List.getElem?_cons_succ, List.getElem?_cons_zero]
          rfl
        case hy13 =>
          refine yields_until (by kernel_rfl) (Or.inl ⟨by rfl, fun w' hS => ?_⟩)
          go_split_ands
          go_simp
          try rfl
        case rest13 =>
        clear hcl hS
        intro hcl hS
        simp only [Act.put, List.setIfInBounds_toArray, List.set_cons_zero, List.set_cons_succ]
        refine wpAnyL_take (i := 13) (oi := ?oi14) (v := ?v14) ?hi14 (by kernel_rfl) (by kernel_rfl) (by kernel_rfl) (fun _ _ _ h => h) (until_take 26 _ (by decide)) ?hy14 hcl hS ?rest14
        case hi14 =>
          simp only [List.getElem?_toArray, List.getElem?_cons_succ, List.getElem?_cons_zero]
          rfl
        case hy14 =>
          refine yields_until (by kernel_rfl) (Or.inl ⟨by rfl, fun w' hS => ?_⟩)
          go_split_ands
          go_simp
          try rfl
        case rest14 =>
        clear hcl hS
        intro hcl hS
        simp only [Act.put, List.setIfInBounds_toArray, List.set_cons_zero, List.set_cons_succ]
        refine wpAnyL_take (i := 14) (oi := ?oi15) (v := ?v15) ?hi15 (by kernel_rfl) (by kernel_rfl) (by kernel_rfl) (fun _ _ _ h => h) (until_take 26 _ (by decide)) ?hy15 hcl hS ?rest15
        case hi15 =>
          simp only [List.getElem?_toArray, List.getElem?_cons_succ, List.getElem?_cons_zero]
          rfl
        case hy15 =>
          refine yields_until (by kernel_rfl) (Or.inl ⟨by rfl, fun w' hS => ?_⟩)
          go_split_ands
          go_simp
          try rfl
        case rest15 =>
        clear hcl hS
        intro hcl hS
        simp only [Act.put, List.setIfInBounds_toArray, List.set_cons_zero, List.set_cons_succ]
        refine wpAnyL_take (i := 15) (oi := ?oi16) (v := ?v16) ?hi16 (by kernel_rfl) (by kernel_rfl) (by kernel_rfl) (fun _ _ _ h => h) (until_take 26 _ (by decide)) ?hy16 hcl hS ?rest16
        case hi16 =>
          simp only [List.getElem?_toArray, List.getElem?_cons_succ, List.getElem?_cons_zero]
          rfl
        case hy16 =>
          refine yields_until (by kernel_rfl) (Or.inl ⟨by rfl, fun w' hS => ?_⟩)
          go_split_ands
          go_simp
          try rfl
        case rest16 =>
        clear hcl hS
        intro hcl hS
        simp only [Act.put, List.setIfInBounds_toArray, List.set_cons_zero, List.set_cons_succ]
        refine wpAnyL_take (i := 16) (oi := ?oi17) (v := ?v17) ?hi17 (by kernel_rfl) (by kernel_rfl) (by kernel_rfl) (fun _ _ _ h => h) (until_take 26 _ (by decide)) ?hy17 hcl hS ?rest17
        case hi17 =>
          simp only [List.getElem?_toArray, List.getElem?_cons_succ, List.getElem?_cons_zero]
          rfl
        case hy17 =>
          refine yields_until (by kernel_rfl) (Or.inl ⟨by rfl, fun w' hS => ?_⟩)
          go_split_ands
          go_simp
          try rfl
        case rest17 =>
        clear hcl hS
        intro hcl hS
        simp only [Act.put, List.setIfInBounds_toArray, List.set_cons_zero, List.set_cons_succ]
        refine wpAnyL_take (i := 17) (oi := ?oi18) (v := ?v18) ?hi18 (by kernel_rfl) (by kernel_rfl) (by kernel_rfl) (fun _ _ _ h => h) (until_take 26 _ (by decide)) ?hy18 hcl hS ?rest18
        case hi18 =>
          simp only [List.getElem?_toArray, List.getElem?_cons_succ, List.getElem?_cons_zero]
          rfl
        case hy18 =>
          refine yields_until (by kernel_rfl) (Or.inl ⟨by rfl, fun w' hS => ?_⟩)
          go_split_ands
          go_simp
          try rfl
        case rest18 =>
        clear hcl hS
        intro hcl hS
        simp only [Act.put, List.setIfInBounds_toArray, List.set_cons_zero, List.set_cons_succ]
        refine wpAnyL_take (i := 18) (oi := ?oi19) (v := ?v19) ?hi19 (by kernel_rfl) (by kernel_rfl) (by kernel_rfl) (fun _ _ _ h => h) (until_take 26 _ (by decide)) ?hy19 hcl hS ?rest19
        case hi19 =>
          simp only [List.getElem?_toArray, List.getElem?_cons_succ, List.getElem?_cons_zero]
          rfl
        case hy19 =>
          refine yields_until (by kernel_rfl) (Or.inl ⟨by rfl, fun w' hS => ?_⟩)
          go_split_ands
          go_simp
          try rfl
        case rest19 =>
        clear hcl hS
        intro hcl hS
        simp only [Act.put, List.setIfInBounds_toArray, List.set_cons_zero, List.set_cons_succ]
        refine wpAnyL_take (i := 19) (oi := ?oi20) (v := ?v20) ?hi20 (by kernel_rfl) (by kernel_rfl) (by kernel_rfl) (fun _ _ _ h => h) (until_take 26 _ (by decide)) ?hy20 hcl hS ?rest20
        case hi20 =>
          simp only [List.getElem?_toArray, List.getElem?_cons_succ, List.getElem?_cons_zero]
          rfl
        case hy20 =>
          refine yields_until (by kernel_rfl) (Or.inl ⟨by rfl, fun w' hS => ?_⟩)
          go_split_ands
          go_simp
          try rfl
        case rest20 =>
        clear hcl hS
        intro hcl hS
        simp only [Act.put, List.setIfInBounds_toArray, List.set_cons_zero, List.set_cons_succ]
        refine wpAnyL_take (i := 20) (oi := ?oi21) (v := ?v21) ?hi21 (by kernel_rfl) (by kernel_rfl) (by kernel_rfl) (fun _ _ _ h => h) (until_take 26 _ (by decide)) ?hy21 hcl hS ?rest21
        case hi21 =>
          simp only [List.getElem?_toArray, List.getElem?_cons_succ, List.getElem?_cons_zero]
          rfl
        case hy21 =>
          refine yields_until (by kernel_rfl) (Or.inl ⟨by rfl, fun w' hS => ?_⟩)
          go_split_ands
          go_simp
          try rfl
        case rest21 =>
        clear hcl hS
        intro hcl hS
        simp only [Act.put, List.setIfInBounds_toArray, List.set_cons_zero, List.set_cons_succ]
        refine wpAnyL_take (i := 21) (oi := ?oi22) (v := ?v22) ?hi22 (by kernel_rfl) (by kernel_rfl) (by kernel_rfl) (fun _ _ _ h => h) (until_take 26 _ (by decide)) ?hy22 hcl hS ?rest22
        case hi22 =>
          simp only [List.getElem?_toArray, List.getElem?_cons_succ, List.getElem?_cons_zero]
          rfl
        case hy22 =>
          refine yields_until (by kernel_rfl) (Or.inl ⟨by rfl, fun w' hS => ?_⟩)
          go_split_ands
          go_simp
          try rfl
        case rest22 =>
        clear hcl hS
        intro hcl hS
        simp only [Act.put, List.setIfInBounds_toArray, List.set_cons_zero, List.set_cons_succ]
        refine wpAnyL_take (i := 22) (oi := ?oi23) (v := ?v23) ?hi23 (by kernel_rfl) (by kernel_rfl) (by kernel_rfl) (fun _ _ _ h => h) (until_take 26 _ (by decide)) ?hy23 hcl hS ?rest23
        case hi23 =>
          simp only [List.getElem?_toArray, List.getElem?_cons_succ, List.getElem?_cons_zero]
          rfl
        case hy23 =>
          refine yields_until (by kernel_rfl) (Or.inl ⟨by rfl, fun w' hS => ?_⟩)
          go_split_ands
          go_simp
          try rfl
        case rest23 =>
        clear hcl hS
        intro hcl hS
        simp only [Act.put, List.setIfInBounds_toArray, List.set_cons_zero, List.set_cons_succ]
        refine wpAnyL_step (i := 23) (o := ?oi24) ?hi24 (by kernel_rfl) hcl ?rest24
        case hi24 =>
          simp only [List.getElem?_toArray, List.getElem?_cons_succ, List.getElem?_cons_zero]
          rfl
        case rest24 =>
        intro K hK
        go_simp
        refine hK _ _ (fun _ => HC.out _ (((Wr.refl _ wr).alloc _).drew)) (fun hcl2 => ?_)
        clear hK K hcl hS
        try simp only [Act.put, List.setIfInBounds_toArray, List.set_cons_zero, List.set_cons_succ]
        refine wpAnyL_step (i := 24) (o := ?oi25) ?hi25 (by kernel_rfl) hcl2 ?rest25
        case hi25 =>
          simp only [List.getElem?_toArray, List.getElem?_cons_succ, List.getElem?_cons_zero]
          rfl
        case rest25 =>
        intro K hK
        refine step_append_run (by rfl) _ _ _ (by rfl) _ _ (by rfl) (by rfl) _ _ HRUN.out ?_
        refine hK _ _ (fun _ => HC.out _ ((Wr.refl _ wr).drew.trans R3.out)) (fun hcl3 => ?_)
        clear hK K hcl2
        try simp only [Act.put, List.setIfInBounds_toArray, List.set_cons_zero, List.set_cons_succ]
        refine wpAnyL_take (i := 25) (oi := ?oi26) (v := ?v26) ?hi26 (by kernel_rfl) (by kernel_rfl) (by kernel_rfl) (fun _ _ _ h => h) (until_take 26 _ (by decide)) ?hy26 hcl3 (fun _ => HC.out _ ((Wr.refl _ wr).drew.trans R3.out)) ?rest26
        case hi26 =>
          simp only [List.getElem?_toArray, List.getElem?_cons_succ, List.getElem?_cons_zero]
          rfl
        case hy26 =>
          refine yields_until (by kernel_rfl) (Or.inl ⟨by rfl, fun w' hS => ?_⟩)
          go_simp
          try rfl
        case rest26 =>
        clear hcl3
        intro hcl3 hS3
        clear hS3
        try simp only [Act.put, List.setIfInBounds_toArray, List.set_cons_zero, List.set_cons_succ]
        refine wpAnyL_step (i := 26) (o := ?oi27) ?hi27 (by kernel_rfl) hcl3 ?rest27
        case hi27 =>
          simp only [List.getElem?_toArray, List.getElem?_cons_succ, List.getElem?_cons_zero]
          rfl
        case rest27 =>
        intro K hK
        go_simp
        refine hK _ _ (fun hb => absurd hb (by decide)) (fun hcl4 => ?_)
        clear hK K hcl3
        refine wpAnyL_done (by kernel_rfl) (NoPanic.normal ?_) _
        try simp only [Act.put, List.setIfInBounds_toArray, List.set_cons_zero, List.set_cons_succ]
        all_goals
          go_wp2_with fail
          go_roundw
          case rel =>
            have hw3 : w.heap.size ≤ h := by omega
            have hset := (HB3.out.set_ 10 (.slice (some ⟨g3, 0, none⟩) (j + 1) cap3))
            have hWs : Wr [h] w3 (w3.setCell ⟨h, 10, none⟩ (.slice (some ⟨g3, 0, none⟩) (j + 1) cap3)) := (Wr.refl _ _).setOn (by simp) _
            have hR : Wr (h :: ownL (Value.slice Ao j co)) wr (w3.setCell ⟨h, 10, none⟩ (.slice (some ⟨g3, 0, none⟩) (j + 1) cap3)) :=
              ((Wr.refl _ wr).drew.trans (R3.out.more (fun y hy => List.mem_cons_of_mem _ hy))).setOn (by simp) _
            have hsm : ∀ y, y < h → y ∉ h :: ownL (Value.slice Ao j co) := fun y hy hm => by
              rcases List.mem_cons.1 hm with e | e
              · omega
              · exact HNO.out y (by omega) e
            refine ⟨j + 1, _, by omega, by go_num, HW.out.trans' hR (fun y hy => .inr ?_), HBM.out.wr hR (hsm _ (by omega)), HBZ.out.wr hR (hsm _ (by omega)), hset, ?_, HGH.out.1, HGH.out.2, fun i hi => ?_, fun i hi => ?_⟩
            · rcases List.mem_cons.1 hy with e | e
              · omega
              · have := (HO.out.lt y (mem_ownL.1 e)).1
                omega
            · rw [parsOf_succ, List.flatMap_append]
              simp only [List.flatMap_cons, List.flatMap_nil, List.append_nil]
              exact ownsRow_wr HO3.out hWs (fun y hy hm => by
                rw [List.mem_singleton] at hm
                have := (HO3.out.lt y hy).1
                omega)
            · obtain ⟨bb, off, e1, e2, e3⟩ := HPC.out i hi
              exact ⟨bb, off, e1, e2, hR.cellOf e3 (hsm bb (by omega))⟩
            · obtain ⟨bb, off, e1, e2, e3⟩ := HVC.out i hi
              exact ⟨bb, off, e1, e2, hR.cellOf e3 (hsm bb (by omega))⟩
          case measure => simp [intOf]; omega
      · have hg3 : decide ((j : Int) < (vs.length : Int)) = false := by simp; omega
        have hvf : vv = false := by rw [hvv, List.getD_eq_getElem?_getD, List.getElem?_eq_none (by omega)]; rfl
        subst hvf
        have hpa : parAt ps vs n j = ⟨false, pp % n⟩ := by rw [parAt, ← hpp, ← hvv]
        obtain ⟨v3, w3, hrun, ho3, r3, hat3⟩ := append_par (h + 1) _ j _ wr.drew HO.out.drew (parAt ps vs n j) (by omega) (by show h + 1 ≤ wr.heap.size; omega)
        obtain ⟨g3, cap3, rfl, hcap3, hlt3⟩ := ho3.form (by omega)
        have hnown : ∀ y, y ≤ h → y ∉ ownL (Value.slice Ao j co) := fun y hy hm => by
          have := (HO.out.lt y (mem_ownL.1 hm)).1
          omega
        have hb3 := HBT.out.drew.wr r3 (hnown h (Nat.le_refl _))
        have a3 := hb3.cell 10
        have f3 := hb3.frozen 10
        have z3 := hb3.lt
        simp only [List.getElem?_toArray, List.getElem?_cons_zero, List.getElem?_cons_succ] at a3
        rw [hpa] at hrun
        simp only at hrun
        have HRUN := Lib.hid hrun
        have HB3 := Lib.hid hb3
        have HO3 := Lib.hid ho3
        have R3 := Lib.hid r3
        have HNO := Lib.hid hnown
        clear hrun hb3 ho3 r3 hnown hat3 hpa hpp hvv
        go_wp2_with fail
        have hC : ∀ W, Wr (ownL (Value.slice Ao j co)) wr W → W.cell? ⟨h, 10, none⟩ = some (.slice Ao j co) ∧ W.cell? ⟨w.heap.size, 5, none⟩ = some (.slice (some ⟨bp, op, none⟩) ps.length cp) ∧ W.cell? ⟨w.heap.size, 6, none⟩ = some (.slice Av vs.length cv) ∧ W.cell? ⟨bp, op + j, none⟩ = some (.int .u16 pp) := fun W hW => ⟨hW.cellOf t10 (HNO.out h (by omega)), hW.cellOf a5 (HNO.out w.heap.size (by omega)), hW.cellOf a6 (HNO.out w.heap.size (by omega)), hW.cellOf hpcell (HNO.out bp (by omega))⟩
        have HC := Lib.hid hC
        clear hC
        refine wp_region_noPanic ?_
        refine wp_region_L (Until 26 fun w' => w'.cell? ⟨h, 10, none⟩ = some (.slice Ao j co) ∧ w'.cell? ⟨w.heap.size, 5, none⟩ = some (.slice (some ⟨bp, op, none⟩) ps.length cp) ∧ w'.cell? ⟨w.heap.size, 6, none⟩ = some (.slice Av vs.length cv) ∧ w'.cell? ⟨bp, op + j, none⟩ = some (.int .u16 pp)) (by kernel_rfl) (fun hcl => ?_)
        have hS : Until 26 (fun w' => w'.cell? ⟨h, 10, none⟩ = some (.slice Ao j co) ∧ w'.cell? ⟨w.heap.size, 5, none⟩ = some (.slice (some ⟨bp, op, none⟩) ps.length cp) ∧ w'.cell? ⟨w.heap.size, 6, none⟩ = some (.slice Av vs.length cv) ∧ w'.cell? ⟨bp, op + j, none⟩ = some (.int .u16 pp)) (Array.replicate 27 false) wr.drew := fun _ => ⟨t10, a5, a6, hpcell⟩
        refine wpAnyL_take (i := 0) (oi := ?oi28) (v := ?v28) ?hi28 (by kernel_rfl) (by kernel_rfl) (by kernel_rfl) (fun _ _ _ h => h) (until_take 26 _ (by decide)) ?hy28 hcl hS ?rest28
        case hi28 =>
          simp only [List.getElem?_toArray, List.getElem?_cons_succ, List.getElem?_cons_zero]
          rfl
        case hy28 =>
          refine yields_until (by kernel_rfl) (Or.inl ⟨by rfl, fun w' hS => ?_⟩)
          go_split_ands
          go_simp
          try rfl
        case rest28 =>
        clear hcl hS
        intro hcl hS
        simp only [Act.put, List.setIfInBounds_toArray, List.set_cons_zero, List.set_cons_succ]
        refine wpAnyL_take (i := 1) (oi := ?oi29) (v := ?v29) ?hi29 (by kernel_rfl) (by kernel_rfl) (by kernel_rfl) (fun _ _ _ h => h) (until_take 26 _ (by decide)) ?hy29 hcl hS ?rest29
        case hi29 =>
          simp only [List.getElem?_toArray, List.getElem?_cons_succ, List.getElem?_cons_zero]
          rfl
        case hy29 =>
          refine yields_until (by kernel_rfl) (Or.inl ⟨by rfl, fun w' hS => ?_⟩)
          go_split_ands
          go_simp
          try rfl
        case rest29 =>
        clear hcl hS
        intro hcl hS
        simp only [Act.put, List.setIfInBounds_toArray, List.set_cons_zero, List.set_cons_succ]
        refine wpAnyL_take (i := 2) (oi := ?oi30) (v := ?v30) ?hi30 (by kernel_rfl) (by kernel_rfl) (by kernel_rfl) (fun _ _ _ h => h) (until_take 26 _ (by decide)) ?hy30 hcl hS ?rest30
        case hi30 =>
          simp only [List.getElem?_toArray, List.getElem?_cons_succ, List.getElem?_cons_zero]
          rfl
        case hy30 =>
          refine yields_until (by kernel_rfl) (Or.inl ⟨by rfl, fun w' hS => ?_⟩)
          go_split_ands
          go_simp
          try rfl
        case rest30 =>
        clear hcl hS
        intro hcl hS
        simp only [Act.put, List.setIfInBounds_toArray, List.set_cons_zero, List.set_cons_succ]
        refine wpAnyL_take (i := 3) (oi := ?oi31) (v := ?v31) ?hi31 (by kernel_rfl) (by kernel_rfl) (by kernel_rfl) (fun _ _ _ h => h) (until_take 26 _ (by decide)) ?hy31 hcl hS ?rest31
        case hi31 =>
          simp only [List.getElem?_toArray, List.getElem?_cons_succ, List.getElem?_cons_zero]
          rfl
        case hy31 =>
          refine yields_until (by kernel_rfl) (Or.inl ⟨by rfl, fun w' hS => ?_⟩)
          go_split_ands
          go_simp
          try rfl
        case rest31 =>
        clear hcl hS
        intro hcl hS
        simp only [Act.put, List.setIfInBounds_toArray, List.set_cons_zero, List.set_cons_succ]
        refine wpAnyL_take (i := 4) (oi := ?oi32) (v := ?v32) ?hi32 (by kernel_rfl) (by kernel_rfl) (by kernel_rfl) (fun _ _ _ h => h) (until_take 26 _ (by decide)) ?hy32 hcl hS ?rest32
        case hi32 =>
          simp only [List.getElem?_toArray, List.getElem?_cons_succ, List.getElem?_cons_zero]
          rfl
        case hy32 =>
          refine yields_until (by kernel_rfl) (Or.inl ⟨by rfl, fun w' hS => ?_⟩)
          go_split_ands
          go_simp
          try rfl
        case rest32 =>
        clear hcl hS
        intro hcl hS
        simp only [Act.put, List.setIfInBounds_toArray, List.set_cons_zero, List.set_cons_succ]
        refine wpAnyL_take (i := 5) (oi := ?oi33) (v := ?v33) ?hi33 (by kernel_rfl) (by kernel_rfl) (by kernel_rfl) (fun _ _ _ h => h) (until_take 26 _ (by decide)) ?hy33 hcl hS ?rest33
        case hi33 =>
          simp only [List.getElem?_toArray, List.getElem?_cons_succ, List.getElem?_cons_zero]
          rfl
        case hy33 =>
          refine yields_until (by kernel_rfl) (Or.inl ⟨by rfl, fun w' hS => ?_⟩)
          go_split_ands
          go_simp
          try rfl
        case rest33 =>
        clear hcl hS
        intro hcl hS
        simp only [Act.put, List.setIfInBounds_toArray, List.set_cons_zero, List.set_cons_succ]
        refine wpAnyL_take (i := 6) (oi := ?oi34) (v := ?v34) ?hi34 (by kernel_rfl) (by kernel_rfl) (by kernel_rfl) (fun _ _ _ h => h) (until_take 26 _ (by decide)) ?hy34 hcl hS ?rest34
        case hi34 =>
          simp only [List.getElem?_toArray, List.getElem?_cons_succ, List.getElem?_cons_zero]
          rfl
        case hy34 =>
          refine yields_until (by kernel_rfl) (Or.inl ⟨by rfl, fun w' hS => ?_⟩)
          go_split_ands
          go_simp
          try rfl
        case rest34 =>
        clear hcl hS
        intro hcl hS
        simp only [Act.put, List.setIfInBounds_toArray, List.set_cons_zero, List.set_cons_succ]
        refine wpAnyL_take (i := 7) (oi := ?oi35) (v := ?v35) ?hi35 (by kernel_rfl) (by kernel_rfl) (by kernel_rfl) (fun _ _ _ h => h) (until_take 26 _ (by decide)) ?hy35 hcl hS ?rest35
        case hi35 =>
          simp only [List.getElem?_toArray, List.getElem?_cons_succ, List.getElem?_cons_zero]
          rfl
        case hy35 =>
          refine yields_until (by kernel_rfl) (Or.inl ⟨by rfl, fun w' hS => ?_⟩)
          go_split_ands
          go_simp
          try rfl
        case rest35 =>
        clear hcl hS
        intro hcl hS
        simp only [Act.put, List.setIfInBounds_toArray, List.set_cons_zero, List.set_cons_succ]
        refine wpAnyL_take (i := 8) (oi := ?oi36) (v := undef) ?hi36 (by kernel_rfl) (by kernel_rfl) (by kernel_rfl) (fun _ _ _ h => h) (until_take 26 _ (by decide)) ?hy36 hcl hS ?rest36
        case hi36 =>
          simp only [List.getElem?_toArray, List.getElem?_cons_succ, List.getElem?_cons_zero]
          rfl
        case hy36 => exact yields_until (by kernel_rfl) (Or.inr ⟨by rfl, rfl⟩)
        case rest36 =>
        clear hcl hS
        intro hcl hS
        simp only [Act.put, List.setIfInBounds_toArray, List.set_cons_zero, List.set_cons_succ]
        refine wpAnyL_take (i := 9) (oi := ?oi37) (v := undef) ?hi37 (by kernel_rfl) (by kernel_rfl) (by kernel_rfl) (fun _ _ _ h => h) (until_take 26 _ (by decide)) ?hy37 hcl hS ?rest37
        case hi37 =>
          simp only [List.getElem?_toArray, List.getElem?_cons_succ, List.getElem?_cons_zero]
          rfl
        case hy37 => exact yields_until (by kernel_rfl) (Or.inr ⟨by rfl, rfl⟩)
        case rest37 =>
        clear hcl hS
        intro hcl hS
        simp only [Act.put, List.setIfInBounds_toArray, List.set_cons_zero, List.set_cons_succ]
        refine wpAnyL_take (i := 10) (oi := ?oi38) (v := undef) ?hi38 (by kernel_rfl) (by kernel_rfl) (by kernel_rfl) (fun _ _ _ h => h) (until_take 26 _ (by decide)) ?hy38 hcl hS ?rest38
        case hi38 =>
          simp only [List.getElem?_toArray, List.getElem?_cons_succ, List.getElem?_cons_zero]
          rfl
        case hy38 => exact yields_until (by kernel_rfl) (Or.inr ⟨by rfl, rfl⟩)
        case rest38 =>
        clear hcl hS
        intro hcl hS
        simp only [Act.put, List.setIfInBounds_toArray, List.set_cons_zero, List.set_cons_succ]
        refine wpAnyL_take (i := 11) (oi := ?oi39) (v := undef) ?hi39 (by kernel_rfl) (by kernel_rfl) (by kernel_rfl) (fun _ _ _ h => h) (until_take 26 _ (by decide)) ?hy39 hcl hS ?rest39
        case hi39 =>
          simp only [List.getElem?_toArray, List.getElem?_cons_succ, List.getElem?_cons_zero]
          rfl
        case hy39 => exact yields_until (by kernel_rfl) (Or.inr ⟨by rfl, rfl⟩)
        case rest39 =>
        clear hcl hS
        intro hcl hS
        simp only [Act.put, List.setIfInBounds_toArray, List.set_cons_zero, List.set_cons_succ]
        refine wpAnyL_take (i := 12) (oi := ?oi40) (v := undef) ?hi40 (by kernel_rfl) (by kernel_rfl) (by kernel_rfl) (fun _ _ _ h => h) (until_take 26 _ (by decide)) ?hy40 hcl hS ?rest40
        case hi40 =>
          simp only [List.getElem?_toArray, List.getElem?_cons_succ, List.getElem?_cons_zero]
          rfl
        case hy40 => exact yields_until (by kernel_rfl) (Or.inr ⟨by rfl, rfl⟩)
        case rest40 =>
        clear hcl hS
        intro hcl hS
        simp only [Act.put, List.setIfInBounds_toArray, List.set_cons_zero, List.set_cons_succ]
        refine wpAnyL_take (i := 13) (oi := ?oi41) (v := ?v41) ?hi41 (by kernel_rfl) (by kernel_rfl) (by kernel_rfl) (fun _ _ _ h => h) (until_take 26 _ (by decide)) ?hy41 hcl hS ?rest41
        case hi41 =>
          simp only [List.getElem?_toArray, List.getElem?_cons_succ, List.getElem?_cons_zero]
          rfl
        case hy41 =>
          refine yields_until (by kernel_rfl) (Or.inl ⟨by rfl, fun w' hS => ?_⟩)
          go_split_ands
          go_simp
          try rfl
        case rest41 =>
        clear hcl hS
        intro hcl hS
        simp only [Act.put, List.setIfInBounds_toArray, List.set_cons_zero, List.set_cons_succ]
        refine wpAnyL_take (i := 14) (oi := ?oi42) (v := ?v42) ?hi42 (by kernel_rfl) (by kernel_rfl) (by kernel_rfl) (fun _ _ _ h => h) (until_take 26 _ (by decide)) ?hy42 hcl hS ?rest42
        case hi42 =>
          simp only [List.getElem?_toArray, List.getElem?_cons_succ, List.getElem?_cons_zero]
          rfl
        case hy42 =>
          refine yields_until (by kernel_rfl) (Or.inl ⟨by rfl, fun w' hS => ?_⟩)
          go_split_ands
          go_simp
          try rfl
        case rest42 =>
        clear hcl hS
        intro hcl hS
        simp only [Act.put, List.setIfInBounds_toArray, List.set_cons_zero, List.set_cons_succ]
        refine wpAnyL_take (i := 15) (oi := ?oi43) (v := ?v43) ?hi43 (by kernel_rfl) (by kernel_rfl) (by kernel_rfl) (fun _ _ _ h => h) (until_take 26 _ (by decide)) ?hy43 hcl hS ?rest43
        case hi43 =>
          simp only [List.getElem?_toArray, List.getElem?_cons_succ, List.getElem?_cons_zero]
          rfl
        case hy43 =>
          refine yields_until (by kernel_rfl) (Or.inl ⟨by rfl, fun w' hS => ?_⟩)
          go_split_ands
          go_simp
          try rfl
        case rest43 =>
        clear hcl hS
        intro hcl hS
        simp only [Act.put, List.setIfInBounds_toArray, List.set_cons_zero, List.set_cons_succ]
        refine wpAnyL_take (i := 16) (oi := ?oi44) (v := ?v44) ?hi44 (by kernel_rfl) (by kernel_rfl) (by kernel_rfl) (fun _ _ _ h => h) (until_take 26 _ (by decide)) ?hy44 hcl hS ?rest44
        case hi44 =>
          simp only [List.getElem?_toArray, List.getElem?_cons_succ, List.getElem?_cons_zero]
          rfl
        case hy44 =>
          refine yields_until (by kernel_rfl) (Or.inl ⟨by rfl, fun w' hS => ?_⟩)
          go_split_ands
          go_simp
          try rfl
        case rest44 =>
        clear hcl hS
        intro hcl hS
        simp only [Act.put, List.setIfInBounds_toArray, List.set_cons_zero, List.set_cons_succ]
        refine wpAnyL_take (i := 17) (oi := ?oi45) (v := ?v45) ?hi45 (by kernel_rfl) (by kernel_rfl) (by kernel_rfl) (fun _ _ _ h => h) (until_take 26 _ (by decide)) ?hy45 hcl hS ?rest45
        case hi45 =>
          simp only [List.getElem?_toArray, List.getElem?_cons_succ, List.getElem?_cons_zero]
          rfl
        case hy45 =>
          refine yields_until (by kernel_rfl) (Or.inl ⟨by rfl, fun w' hS => ?_⟩)
          go_split_ands
          go_simp
          try rfl
        case rest45 =>
        clear hcl hS
        intro hcl hS
        simp only [Act.put, List.setIfInBounds_toArray, List.set_cons_zero, List.set_cons_succ]
        refine wpAnyL_take (i := 18) (oi := ?oi46) (v := ?v46) ?hi46 (by kernel_rfl) (by kernel_rfl) (by kernel_rfl) (fun _ _ _ h => h) (until_take 26 _ (by decide)) ?hy46 hcl hS ?rest46
        case hi46 =>
          simp only [List.getElem?_toArray, List.getElem?_cons_succ, List.getElem?_cons_zero]
          rfl
        case hy46 =>
          refine yields_until (by kernel_rfl) (Or.inl ⟨by rfl, fun w' hS => ?_⟩)
          go_split_ands
          go_simp
          try rfl
        case rest46 =>
        clear hcl hS
        intro hcl hS
        simp only [Act.put, List.setIfInBounds_toArray, List.set_cons_zero, List.set_cons_succ]
        refine wpAnyL_take (i := 19) (oi := ?oi47) (v := ?v47) ?hi47 (by kernel_rfl) (by kernel_rfl) (by kernel_rfl) (fun _ _ _ h => h) (until_take 26 _ (by decide)) ?hy47 hcl hS ?rest47
        case hi47 =>
          simp only [List.getElem?_toArray, List.getElem?_cons_succ, List.getElem?_cons_zero]
          rfl
        case hy47 =>
          refine yields_until (by kernel_rfl) (Or.inl ⟨by rfl, fun w' hS => ?_⟩)
          go_split_ands
          go_simp
          try rfl
        case rest47 =>
        clear hcl hS
        intro hcl hS
        simp only [Act.put, List.setIfInBounds_toArray, List.set_cons_zero, List.set_cons_succ]
        refine wpAnyL_take (i := 20) (oi := ?oi48) (v := ?v48) ?hi48 (by kernel_rfl) (by kernel_rfl) (by kernel_rfl) (fun _ _ _ h => h) (until_take 26 _ (by decide)) ?hy48 hcl hS ?rest48
        case hi48 =>
          simp only [List.getElem?_toArray, List.getElem?_cons_succ, List.getElem?_cons_zero]
          rfl
        case hy48 =>
          refine yields_until (by kernel_rfl) (Or.inl ⟨by rfl, fun w' hS => ?_⟩)
          go_split_ands
          go_simp
          try rfl
        case rest48 =>
        clear hcl hS
        intro hcl hS
        simp only [Act.put, List.setIfInBounds_toArray, List.set_cons_zero, List.set_cons_succ]
        refine wpAnyL_take (i := 21) (oi := ?oi49) (v := ?v49) ?hi49 (by kernel_rfl) (by kernel_rfl) (by kernel_rfl) (fun _ _ _ h => h) (until_take 26 _ (by decide)) ?hy49 hcl hS ?rest49
        case hi49 =>
          simp only [List.getElem?_toArray, List.getElem?_cons_succ, List.getElem?_cons_zero]
          rfl
        case hy49 =>
          refine yields_until (by kernel_rfl) (Or.inl ⟨by rfl, fun w' hS => ?_⟩)
          go_split_ands
          go_simp
          try rfl
        case rest49 =>
        clear hcl hS
        intro hcl hS
        simp only [Act.put, List.setIfInBounds_toArray, List.set_cons_zero, List.set_cons_succ]
        refine wpAnyL_take (i := 22) (oi := ?oi50) (v := ?v50) ?hi50 (by kernel_rfl) (by kernel_rfl) (by kernel_rfl) (fun _ _ _ h => h) (until_take 26 _ (by decide)) ?hy50 hcl hS ?rest50
        case hi50 =>
          simp only [List.getElem?_toArray, List.getElem?_cons_succ, List.getElem?_cons_zero]
          rfl
        case hy50 =>
          refine yields_until (by kernel_rfl) (Or.inl ⟨by rfl, fun w' hS => ?_⟩)
          go_split_ands
          go_simp
          try rfl
        case rest50 =>
        clear hcl hS
        intro hcl hS
        simp only [Act.put, List.setIfInBounds_toArray, List.set_cons_zero, List.set_cons_succ]
        refine wpAnyL_step (i := 23) (o := ?oi51) ?hi51 (by kernel_rfl) hcl ?rest51
        case hi51 =>
          simp only [List.getElem?_toArray, List.getElem?_cons_succ, List.getElem?_cons_zero]
          rfl
        case rest51 =>
        intro K hK
        go_simp
        refine hK _ _ (fun _ => HC.out _ (((Wr.refl _ wr).alloc _).drew)) (fun hcl2 => ?_)
        clear hK K hcl hS
        try simp only [Act.put, List.setIfInBounds_toArray, List.set_cons_zero, List.set_cons_succ]
        refine wpAnyL_step (i := 24) (o := ?oi52) ?hi52 (by kernel_rfl) hcl2 ?rest52
        case hi52 =>
          simp only [List.getElem?_toArray, List.getElem?_cons_succ, List.getElem?_cons_zero]
          rfl
        case rest52 =>
        intro K hK
        refine step_append_run (by rfl) _ _ _ (by rfl) _ _ (by rfl) (by rfl) _ _ HRUN.out ?_
        refine hK _ _ (fun _ => HC.out _ ((Wr.refl _ wr).drew.trans R3.out)) (fun hcl3 => ?_)
        clear hK K hcl2
        try simp only [Act.put, List.setIfInBounds_toArray, List.set_cons_zero, List.set_cons_succ]
        refine wpAnyL_take (i := 25) (oi := ?oi53) (v := ?v53) ?hi53 (by kernel_rfl) (by kernel_rfl) (by kernel_rfl) (fun _ _ _ h => h) (until_take 26 _ (by decide)) ?hy53 hcl3 (fun _ => HC.out _ ((Wr.refl _ wr).drew.trans R3.out)) ?rest53
        case hi53 =>
          simp only [List.getElem?_toArray, List.getElem?_cons_succ, List.getElem?_cons_zero]
          rfl
        case hy53 =>
          refine yields_until (by kernel_rfl) (Or.inl ⟨by rfl, fun w' hS => ?_⟩)
          go_simp
          try rfl
        case rest53 =>
        clear hcl3
        intro hcl3 hS3
        clear hS3
        try simp only [Act.put, List.setIfInBounds_toArray, List.set_cons_zero, List.set_cons_succ]
        refine wpAnyL_step (i := 26) (o := ?oi54) ?hi54 (by kernel_rfl) hcl3 ?rest54
        case hi54 =>
          simp only [List.getElem?_toArray, List.getElem?_cons_succ, List.getElem?_cons_zero]
          rfl
        case rest54 =>
        intro K hK
        go_simp
        refine hK _ _ (fun hb => absurd hb (by decide)) (fun hcl4 => ?_)
        clear hK K hcl3
        refine wpAnyL_done (by kernel_rfl) (NoPanic.normal ?_) _
        try simp only [Act.put, List.setIfInBounds_toArray, List.set_cons_zero, List.set_cons_succ]
        all_goals
          go_wp2_with fail
          go_roundw
          case rel =>
            have hw3 : w.heap.size ≤ h := by omega
            have hset := (HB3.out.set_ 10 (.slice (some ⟨g3, 0, none⟩) (j + 1) cap3))
            have hWs : Wr [h] w3 (w3.setCell ⟨h, 10, none⟩ (.slice (some ⟨g3, 0, none⟩) (j + 1) cap3)) := (Wr.refl _ _).setOn (by simp) _
            have hR : Wr (h :: ownL (Value.slice Ao j co)) wr (w3.setCell ⟨h, 10, none⟩ (.slice (some ⟨g3, 0, none⟩) (j + 1) cap3)) :=
              ((Wr.refl _ wr).drew.trans (R3.out.more (fun y hy => List.mem_cons_of_mem _ hy))).setOn (by simp) _
            have hsm : ∀ y, y < h → y ∉ h :: ownL (Value.slice Ao j co) := fun y hy hm => by
              rcases List.mem_cons.1 hm with e | e
              · omega
              · exact HNO.out y (by omega) e
            refine ⟨j + 1, _, by omega, by go_num, HW.out.trans' hR (fun y hy => .inr ?_), HBM.out.wr hR (hsm _ (by omega)), HBZ.out.wr hR (hsm _ (by omega)), hset, ?_, HGH.out.1, HGH.out.2, fun i hi => ?_, fun i hi => ?_⟩
            · rcases List.mem_cons.1 hy with e | e
              · omega
              · have := (HO.out.lt y (mem_ownL.1 e)).1
                omega
            · rw [parsOf_succ, List.flatMap_append]
              simp only [List.flatMap_cons, List.flatMap_nil, List.append_nil]
              exact ownsRow_wr HO3.out hWs (fun y hy hm => by
                rw [List.mem_singleton] at hm
                have := (HO3.out.lt y hy).1
                omega)
            · obtain ⟨bb, off, e1, e2, e3⟩ := HPC.out i hi
              exact ⟨bb, off, e1, e2, hR.cellOf e3 (hsm bb (by omega))⟩
            · obtain ⟨bb, off, e1, e2, e3⟩ := HVC.out i hi
              exact ⟨bb, off, e1, e2, hR.cellOf e3 (hsm bb (by omega))⟩
          case measure => simp [intOf]; omega
    · have hjm : j = min ps.length 6 := by omega
      have y0 := hbt.cell 0
      have z0 := hbz.cell 0
      have fz0 := hbz.frozen 0
      have y1 := hbt.cell 1
      have z1 := hbz.cell 1
      have fz1 := hbz.frozen 1
      have y2 := hbt.cell 2
      have z2 := hbz.cell 2
      have fz2 := hbz.frozen 2
      have y3 := hbt.cell 3
      have z3 := hbz.cell 3
      have fz3 := hbz.frozen 3
      have y4 := hbt.cell 4
      have z4 := hbz.cell 4
      have fz4 := hbz.frozen 4
      have y5 := hbt.cell 5
      have z5 := hbz.cell 5
      have fz5 := hbz.frozen 5
      have y6 := hbt.cell 6
      have z6 := hbz.cell 6
      have fz6 := hbz.frozen 6
      have y7 := hbt.cell 7
      have z7 := hbz.cell 7
      have fz7 := hbz.frozen 7
      have y8 := hbt.cell 8
      have z8 := hbz.cell 8
      have fz8 := hbz.frozen 8
      have y9 := hbt.cell 9
      have z9 := hbz.cell 9
      have fz9 := hbz.frozen 9
      have y10 := hbt.cell 10
      have z10 := hbz.cell 10
      have fz10 := hbz.frozen 10
      have y11 := hbt.cell 11
      have z11 := hbz.cell 11
      have fz11 := hbz.frozen 11
      simp only [List.getElem?_toArray, List.getElem?_cons_zero, List.getElem?_cons_succ] at y0 z0 y1 z1 y2 z2 y3 z3 y4 z4 y5 z5 y6 z6 y7 z7 y8 z8 y9 z9 y10 z10 y11 z11
      have zg := hbz.lt
      have HJ := Lib.hid hjm
      clear hw hbm hbz hbt ho hpc hvc hgz AT0 t10 a5 a6 hj
      have hend : ¬(j : Int) < (ps.length : Int) ∨ ¬(j : Int) < 6 := by omega
      have HE := Lib.hid hend
      clear hend hlt hjm
      by_cases hjl : (j : Int) < (ps.length : Int)
      · have hj6 : decide ((j : Int) < 6) = false := by have := HE.out; simp; omega
        have a5 := HBM.out.cell 5
        simp only [List.getElem?_toArray, List.getElem?_cons_zero, List.getElem?_cons_succ] at a5
        go_wp2_with fail
        refine bodyPost_ret (v := (madeTy k b x lo hi ps vs n).val (.slice none 0 0) (.slice none 0 0) (.slice none 0 0) (.slice Ao j co)) ?_ rfl ⟨_, _, _, _, rfl, ?_, ?_⟩
        · simp [madeTy, Ty.val, Ty.cells, results, Try.results25, go_sem, y0, z0, y1, z1, y2, z2, y3, z3, y4, z4, y5, z5, y6, z6, y7, z7, y8, z8, y9, z9, y10, z10, y11, z11]
        · have hg := HGH.out.1
          iterate 12 refine Wr.setNew ?_ (by omega) _
          exact HW.out
        · refine ⟨Sl.nil _ _ 1, Sl.nil _ _ 3, SlArms.nil _ _, ?_⟩
          have hlen : (madeTy k b x lo hi ps vs n).params.length = j := by rw [HJ.out]; simp [madeTy, parsOf]
          unfold SlPars
          rw [hlen]
          have hpar : (madeTy k b x lo hi ps vs n).params = parsOf ps vs n j := by rw [HJ.out]; rfl
          rw [hpar]
          refine Sl.mono (Sl.keep (l := [w.heap.size + 1]) (Sl.ofOwn (P := fun y => h + 1 ≤ y) HO.out (fun y hy => (HO.out.lt y hy).1)) ?_ (fun y hy hm => by simp at hm; omega)) (fun y hy => by omega)
          iterate 12 refine Wr.setOn ?_ (by simp) _
          exact Wr.refl _ _
      · have hjd : decide ((j : Int) < (ps.length : Int)) = false := by simp; omega
        have a5 := HBM.out.cell 5
        simp only [List.getElem?_toArray, List.getElem?_cons_zero, List.getElem?_cons_succ] at a5
        have hjn : ps.length ≤ j := by omega
        have hjd2 : decide (j < ps.length) = false := by simp; omega
        go_wp2_with fail
        refine bodyPost_ret (v := (madeTy k b x lo hi ps vs n).val (.slice none 0 0) (.slice none 0 0) (.slice none 0 0) (.slice Ao j co)) ?_ rfl ⟨_, _, _, _, rfl, ?_, ?_⟩
        · simp [madeTy, Ty.val, Ty.cells, results, Try.results25, go_sem, y0, z0, y1, z1, y2, z2, y3, z3, y4, z4, y5, z5, y6, z6, y7, z7, y8, z8, y9, z9, y10, z10, y11, z11]
        · have hg := HGH.out.1
          iterate 12 refine Wr.setNew ?_ (by omega) _
          exact HW.out
        · refine ⟨Sl.nil _ _ 1, Sl.nil _ _ 3, SlArms.nil _ _, ?_⟩
          have hlen : (madeTy k b x lo hi ps vs n).params.length = j := by rw [HJ.out]; simp [madeTy, parsOf]
          unfold SlPars
          rw [hlen]
          have hpar : (madeTy k b x lo hi ps vs n).params = parsOf ps vs n j := by rw [HJ.out]; rfl
          rw [hpar]
          refine Sl.mono (Sl.keep (l := [w.heap.size + 1]) (Sl.ofOwn (P := fun y => h + 1 ≤ y) HO.out (fun y hy => (HO.out.lt y hy).1)) ?_ (fun y hy hm => by simp at hm; omega)) (fun y hy => by omega)
          iterate 12 refine Wr.setOn ?_ (by simp) _
          exact Wr.refl _ _
end Go.Proofs.Ytcpgkeceefoljaa

