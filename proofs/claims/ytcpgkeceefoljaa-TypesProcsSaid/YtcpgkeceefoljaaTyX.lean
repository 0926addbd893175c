/- law 11's same: two types that are one, without names and fields: walked. Conditions: their lists are there. -/
import Derived.Test.YtcpgkeceefoljaaTyW
namespace Go.Proofs.Ytcpgkeceefoljaa
open Go.RowKit
set_option linter.unusedVariables false
set_option linter.unusedSimpArgs false
attribute [local go_sem ↓] Go.wp_at_zero Go.wp_at_succ

def SameAt (w1 : World) (n : Nat) (s7 : Value) (wr : World) : Prop := ∃ k : Nat, k ≤ n ∧ s7 = .int .i64 k ∧ Wr [] w1 wr
def Same0 (w1 : World) (s5 : Value) (wr : World) : Prop := s5 = .int .i64 0 ∧ Wr [] w1 wr
set_option maxRecDepth 100000 in
set_option maxHeartbeats 4000000 in
theorem same_any (w : World) (ty : Ty) (P Q : Nat → Prop) (vn vf va vp vn' vf' va' vp' : Value) (hl : Lists w P vn vf va vp ty) (hl' : Lists w Q vn' vf' va' vp' ty) (hn : ty.names = []) (hf : ty.fields = []) :
    Calls Try.prog 17 #[ty.val vn vf va vp, ty.val vn' vf' va' vp'] w fun e w' => e = .returned (.bool true) ∧ Wr [] w w' := by
  obtain ⟨⟨A1, c1, rfl⟩, ⟨A2, c2, rfl⟩, ⟨A3, c3, rfl⟩, ⟨A4, c4, rfl⟩⟩ := hl.forms
  obtain ⟨⟨B1, d1, rfl⟩, ⟨B2, d2, rfl⟩, ⟨B3, d3, rfl⟩, ⟨B4, d4, rfl⟩⟩ := hl'.forms
  have hp := hl.params
  have hp' := hl'.params
  obtain ⟨_, _, e, k1, k2⟩ := Sl.form hp
  injection e with e1 _ e3
  subst e1 e3
  obtain ⟨_, _, e, k3, k4⟩ := Sl.form hp'
  injection e with e1 _ e3
  subst e1 e3
  unfold maxLen at k2 k4
  have hn0 : ty.names.length = 0 := by rw [hn]; rfl
  have hf0 : ty.fields.length = 0 := by rw [hf]; rfl
  unfold Ty.val Ty.cells
  rw [hn0, hf0]
  have HP := Lib.hid hp
  have HP' := Lib.hid hp'
  clear hl hl' hp hp' hn hf hn0 hf0
  go_enter Try.func17, Try.ntmps17
  go_wp2_with fail
  obtain ⟨w1, hw1⟩ : ∃ w1, w1 = (w.alloc (.cells #[.int .u8 ty.kind, .string ty.module, .string ty.name, .int .i64 ty.base, .int .i64 ty.index, .int .i64 ty.low, .int .i64 ty.high, .slice A1 0 c1, .slice A2 0 c2, .slice A3 ty.arms.length c3, .slice A4 ty.params.length c4, .int .i64 ty.result] 31)).alloc (.cells #[.int .u8 ty.kind, .string ty.module, .string ty.name, .int .i64 ty.base, .int .i64 ty.index, .int .i64 ty.low, .int .i64 ty.high, .slice B1 0 d1, .slice B2 0 d2, .slice B3 ty.arms.length d3, .slice B4 ty.params.length d4, .int .i64 ty.result] 31) := ⟨_, rfl⟩
  have r1 : Wr [] w w1 := by rw [hw1]; exact ((Wr.refl [] w).alloc _).alloc _
  have b1 := (Blk.new w 31 #[.int .u8 ty.kind, .string ty.module, .string ty.name, .int .i64 ty.base, .int .i64 ty.index, .int .i64 ty.low, .int .i64 ty.high, .slice A1 0 c1, .slice A2 0 c2, .slice A3 ty.arms.length c3, .slice A4 ty.params.length c4, .int .i64 ty.result]).alloc (.cells #[.int .u8 ty.kind, .string ty.module, .string ty.name, .int .i64 ty.base, .int .i64 ty.index, .int .i64 ty.low, .int .i64 ty.high, .slice B1 0 d1, .slice B2 0 d2, .slice B3 ty.arms.length d3, .slice B4 ty.params.length d4, .int .i64 ty.result] 31)
  have b2 := Blk.new (w.alloc (.cells #[.int .u8 ty.kind, .string ty.module, .string ty.name, .int .i64 ty.base, .int .i64 ty.index, .int .i64 ty.low, .int .i64 ty.high, .slice A1 0 c1, .slice A2 0 c2, .slice A3 ty.arms.length c3, .slice A4 ty.params.length c4, .int .i64 ty.result] 31)) 31 #[.int .u8 ty.kind, .string ty.module, .string ty.name, .int .i64 ty.base, .int .i64 ty.index, .int .i64 ty.low, .int .i64 ty.high, .slice B1 0 d1, .slice B2 0 d2, .slice B3 ty.arms.length d3, .slice B4 ty.params.length d4, .int .i64 ty.result]
  rw [World.size_alloc] at b2
  rw [← hw1] at b1 b2 ⊢
  have B1x := Lib.hid b1
  have B2x := Lib.hid b2
  have R1 := Lib.hid r1
  clear hw1 b1 b2 r1
  go_loopw [5] (fun s5 wr => Same0 w1 s5 wr) (fun _ _ => 0)
  case atStart => exact ⟨rfl, Wr.refl _ _⟩
  case round =>
    obtain ⟨rfl, hr⟩ := hrel
    have a7 := (B1x.out.wr0 hr).cell 7
    simp only [List.getElem?_toArray, List.getElem?_cons_zero, List.getElem?_cons_succ] at a7
    have HR := Lib.hid hr
    clear hr
    go_wp2_with fail
    go_loopw [6] (fun s6 wr => Same0 w1 s6 wr) (fun _ _ => 0)
    case atStart => exact ⟨rfl, HR.out⟩
    case round =>
      rename World => wq
      obtain ⟨rfl, hr⟩ := hrel
      have a8 := (B1x.out.wr0 hr).cell 8
      simp only [List.getElem?_toArray, List.getElem?_cons_zero, List.getElem?_cons_succ] at a8
      have HR2 := Lib.hid hr
      clear hr a7
      go_wp2_with fail
      go_loopw [7] (fun s7 wr => SameAt w1 ty.params.length s7 wr) (fun s7 _ => ty.params.length - (intOf s7).toNat)
      case atStart => exact ⟨0, Nat.zero_le _, rfl, HR2.out⟩
      case round =>
        rename World => wp
        obtain ⟨k, hk, rfl, hr⟩ := hrel
        have a10 := (B1x.out.wr0 hr).cell 10
        have a10' := (B2x.out.wr0 hr).cell 10
        simp only [List.getElem?_toArray, List.getElem?_cons_zero, List.getElem?_cons_succ] at a10 a10'
        have HR3 := Lib.hid hr
        clear a8
        by_cases hlt : k < ty.params.length
        · obtain ⟨x, hx⟩ : ∃ x, ty.params[k]? = some x := ⟨ty.params[k], List.getElem?_eq_getElem hlt⟩
          have hat : ∀ j u, j < 2 → x.cells[j]? = some u → (ty.params.flatMap Par.cells)[k * 2 + j]? = some u := fun j u hj hu => by
            rw [flatMap_at Par.cells 2 (fun _ => rfl) ty.params k j x hx hj]
            exact hu
          obtain ⟨bF, oF, cF, hvF, _, _, _, hF⟩ := Sl.thing (Sl.wr0 (Sl.wr0 HP.out R1.out) hr) (by omega) hlt
          obtain ⟨bG, oG, cG, hvG, _, _, _, hG⟩ := Sl.thing (Sl.wr0 (Sl.wr0 HP'.out R1.out) hr) (by omega) hlt
          injection hvF with hvF _ e3
          subst hvF e3
          injection hvG with hvG _ e3
          subst hvG e3
          have f0 := hF 0 _ (by omega) (hat 0 _ (by omega) rfl)
          have f1 := hF 1 _ (by omega) (hat 1 _ (by omega) rfl)
          have g0 := hG 0 _ (by omega) (hat 0 _ (by omega) rfl)
          have g1 := hG 1 _ (by omega) (hat 1 _ (by omega) rfl)
          rw [Nat.add_zero] at f0 g0
          rw [← Nat.add_assoc] at f1 g1
          have hi0 : (0 : Int) ≤ (k : Int) := by omega
          have hi1 : (k : Int) < (ty.params.length : Int) := by omega
          clear hr hat hF hG hx
          go_wp2_with fail
          go_quiet (fail)
          go_wp2_with fail
          go_roundw
          case rel => exact ⟨k + 1, by omega, by go_num, HR3.out.drewN _⟩
          case measure => simp [intOf]; omega
        · obtain rfl : k = ty.params.length := by omega
          clear hr hk
          go_wp2_with fail
          go_ret
          exact ⟨rfl, R1.out.trans HR3.out⟩
end Go.Proofs.Ytcpgkeceefoljaa
