/- LayoutNone, walked. No conditions. -/
import Derived.Test.YtloihffdolehhaaLyW
namespace Go.Proofs.Ytloihffdolehhaa
open Go.RowKit
set_option linter.unusedVariables false
set_option linter.unusedSimpArgs false

theorem At_nil (w : World) (i f : Int) : Calls Try.prog 13 #[.pointer none, .int .i64 i, .int .i64 f] w (PairP w (0, 1)) := by
  have h := Size_nil w i
  go_enter Try.func13, Try.ntmps13
  go_wp2_with fail
  refine h.mono ?_
  clear h
  rintro e w1 ⟨rfl, r1⟩
  go_wp2_with fail
  go_ret2
  exact ⟨rfl, r1⟩
theorem Arm_nil (w : World) (i g : Int) : Calls Try.prog 16 #[.pointer none, .int .i64 i, .int .i64 g] w (ArmP w (0, false)) := by
  go_enter Try.func16, Try.ntmps16
  go_wp2_with fail
  go_ret2
  exact ⟨rfl, Wr.refl _ _⟩
theorem Places_nil (w : World) (v : Value) : Calls Try.prog 18 #[.pointer none, v] w fun e w' => e = .returned (.tuple #[.slice none 0 0, .int .i64 0, .int .i64 1]) ∧ w = w' := by
  go_enter Try.func18, Try.ntmps18
  go_wp2_with fail
  go_ret3
  exact ⟨rfl, rfl⟩
def noneL : List Int := [0, 5, 6, 7, -1, 99]
theorem none_sz : ∀ x ∈ noneL, sz tys0 x = (0, 2) := by decide +kernel
def NoneAt (w0 : World) (t g : Nat) (s16 : Value) (wr : World) : Prop := ∃ k : Nat, k ≤ 6 ∧ s16 = .int .i64 k ∧ TabN w0 wr t tys0 ∧ Blk wr g 3 #[.int .i64 0, .int .i64 5, .int .i64 6, .int .i64 7, .int .i64 (-1), .int .i64 99]
set_option maxRecDepth 100000 in
set_option maxHeartbeats 4000000 in
theorem none_walk (w : World) (i : Int) (wi : (Lit.int .i64 i).wf = true) (f : Int) (wf : (Lit.int .i64 f).wf = true) :
    Calls Try.prog 7 #[.int .i64 i, .int .i64 f] w fun e w' => e = .returned (.bool true) ∧ Wr [] w w' := by
  clear wi wf
  go_enter Try.func7, Try.ntmps7
  go_wp2_with fail
  refine (Size_nil _ i).mono ?_
  rintro e w1 ⟨rfl, r1⟩
  go_wp2_with fail
  refine (At_nil _ i f).mono ?_
  rintro e w2 ⟨rfl, r2⟩
  go_wp2_with fail
  refine (Arm_nil _ i 0).mono ?_
  rintro e w3 ⟨rfl, r3⟩
  go_wp2_with fail
  refine (Places_nil _ _).mono ?_
  rintro e w4 ⟨rfl, rfl⟩
  go_wp2_with fail
  refine (newN (w0 := w) ((((r1.trans r2).trans r3)).alloc _)).mono ?_
  clear r1 r2 r3
  rintro e w5 ⟨t, rfl, h5⟩
  go_wp2_with fail
  have at0 : NoneAt w t w5.heap.size (.int .i64 0) (w5.alloc (.cells #[.int .i64 0, .int .i64 5, .int .i64 6, .int .i64 7, .int .i64 (-1), .int .i64 99] 3)) := ⟨0, by omega, rfl, h5.wr0 ((Wr.refl [] w5).alloc _), Blk.new _ _ _⟩
  have AT0 := Lib.hid at0
  clear at0 h5
  generalize w5.heap.size = g at *
  go_loopw [16] (fun s16 wr => NoneAt w t g s16 wr) (fun s16 _ => 6 - (intOf s16).toNat)
  case atStart => exact AT0.out
  case round =>
    obtain ⟨k, hk, rfl, hT, hb⟩ := hrel
    clear AT0
    by_cases hlt : k < 6
    · obtain ⟨x, hx⟩ : ∃ x, noneL[k]? = some x := ⟨noneL[k]'hlt, List.getElem?_eq_getElem hlt⟩
      have hsz := sizeN hT low0 x _ (none_sz x (List.mem_of_getElem? hx))
      have hc : wr.cell? ⟨g, k, none⟩ = some (.int .i64 x) := by
        rw [hb.cell k, ← Array.getElem?_toList]
        have : (noneL.map (Value.int .i64))[k]? = some (.int .i64 x) := by rw [List.getElem?_map, hx]; rfl
        exact this
      have HB := Lib.hid hb
      have hi0 : (0 : Int) ≤ (k : Int) := by omega
      have hi1 : (k : Int) < 6 := by omega
      have HW := Lib.hid hT.wr
      have hgz := hb.lt
      have HGZ := Lib.hid (hT.wr.size)
      clear hx hb hT
      go_wp2_with fail
      refine hsz.mono ?_
      clear hsz
      rintro e w7 ⟨rfl, h7, r7⟩
      have R7 := Lib.hid r7
      clear r7
      go_wp2_with fail
      go_roundw
      case rel => exact ⟨k + 1, by omega, by go_num, h7, HB.out.wr0 R7.out⟩
      case measure => simp [intOf]; omega
    · have hk6 : k = 6 := by omega
      subst hk6
      have HW := Lib.hid hT.wr
      clear hT hb
      go_wp2_with fail
      refine (works_any _).mono ?_
      rintro e w8 ⟨rfl, r8⟩
      go_wp2_with fail
      go_ret
      exact ⟨rfl, HW.out.trans r8⟩
end Go.Proofs.Ytloihffdolehhaa
