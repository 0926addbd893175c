/- link's fourth closure (is there room?), and wrong over the four: walked. Conditions: the names are not too many. -/
import Derived.Test.YtfeeeogkkajefaaLnC
namespace Go.Proofs.Ytfeeeogkkajefaa
open Go.RowKit
set_option linter.unusedVariables false
set_option linter.unusedSimpArgs false

theorem dataOf_snoc (l : List ObjD) (m : ByteArray) : ∀ a : List ByteArray, dataOf l (a ++ [m]) = dataOf l a + (objOf l m).mod.data
  | [] => by simp [dataOf]
  | x :: a => by
    rw [List.cons_append, dataOf, dataOf, dataOf_snoc l m a]
    omega
theorem dataOf_bd {l : List ObjD} (h : ∀ m, 0 ≤ (objOf l m).mod.data ∧ (objOf l m).mod.data ≤ 65535) : ∀ a : List ByteArray, 0 ≤ dataOf l a ∧ dataOf l a ≤ 65535 * (a.length : Int)
  | [] => by simp [dataOf]
  | x :: a => by
    have ih := dataOf_bd h a
    have hx := h x
    rw [dataOf, List.length_cons]
    constructor <;> push_cast <;> omega
def roomP (l : List ObjD) (names : List ByteArray) (main : ByteArray) : Option (ByteArray × Int) := if 64 < names.length ∨ 65535 < dataOf l names then some (main, 5) else none
def C4P (w : World) (r : Option (ByteArray × Int)) (e : Ending) (w' : World) : Prop :=
  w = w' ∧ match r with
    | some p => e = .returned (.tuple #[.string p.1, .int .i64 p.2])
    | none => e = .returned (.tuple #[.string ⟨#[]⟩, .int .i64 0])
set_option maxRecDepth 100000 in
set_option maxHeartbeats 8000000 in
theorem clos4_any (l : List ObjD) (names : List ByteArray) (hlen : names.length ≤ 1000000000) (main : ByteArray) (vn : Value) (w0 w : World) (pn pm pa ga : Nat) (Q : Nat → Prop)
    (bn : Blk w pn 25 #[vn]) (bm : Blk w pm 9 #[.string main]) (ba : Blk w pa 64 #[.map (some ga)]) (hs : SlStr w Q vn names) (hall : AllM w0 w ga l l.length)
    (hd : ∀ m, 0 ≤ (objOf l m).mod.data ∧ (objOf l m).mod.data ≤ 65535) :
    Calls Try.prog 23 #[.pointer (some ⟨pn, 0, none⟩), .pointer (some ⟨pa, 0, none⟩), .pointer (some ⟨pm, 0, none⟩)] w (C4P w (roomP l names main)) := by
  obtain ⟨A, c, rfl, l1, l2⟩ := Sl.form hs
  unfold maxLen at l2
  obtain ⟨r, hr⟩ : ∃ r, roomP l names main = r := ⟨_, rfl⟩
  rw [hr]
  have x0 := bn.cell 0
  have x1 := bm.cell 0
  have x2 := ba.cell 0
  simp only [List.getElem?_toArray, List.getElem?_cons_zero] at x0 x1 x2
  have HR := Lib.hid hr
  have HS := Lib.hid hs
  have HALL := Lib.hid hall
  have HD := Lib.hid hd
  have hlen' : (names.length : Int) ≤ 1000000000 := by omega
  clear hr bn bm ba hs hall hd
  go_enter Try.func23, Try.ntmps23
  go_wp2_with fail
  go_loop [5, 10] (fun s5 s10 => ∃ k : Nat, k ≤ names.length ∧ s10 = .int .i64 k ∧ s5 = .int .i64 (dataOf l (names.take k))) (fun _ s10 => names.length - (intOf s10).toNat)
  case atStart => exact ⟨0, by omega, rfl, rfl⟩
  case round =>
    obtain ⟨k, hk, rfl, rfl⟩ := hrel
    have hb := dataOf_bd HD.out (names.take k)
    rw [List.length_take, Nat.min_eq_left hk] at hb
    obtain ⟨hb1, hb2⟩ := hb
    by_cases hlt : k < names.length
    · obtain ⟨m, hmk⟩ : ∃ m, names[k]? = some m := ⟨_, List.getElem?_eq_getElem hlt⟩
      obtain ⟨b, off, cc, ee, _, _, hqb, hcell⟩ := Sl.at_ HS.out (j := k) (u := .string m) (by rw [List.getElem?_map, hmk]; rfl)
      injection ee with q1 q2 q3
      subst q1
      subst q3
      obtain ⟨vu, vp, vi, vn', hl1, _⟩ := HALL.out.look m
      have f1 := fun w => fld_mod (objOf l m) vu vp vi vn' w
      have f2 := fun w => fld_data (objOf l m).mod vp vi vn' w
      have hdm := HD.out m
      have hsn : dataOf l (names.take (k + 1)) = dataOf l (names.take k) + (objOf l m).mod.data := by
        rw [List.take_add_one, hmk]
        exact dataOf_snoc l m _
      have HSN := Lib.hid hsn
      have hlti : (k : Int) < (names.length : Int) := by omega
      have hk0 : (0 : Int) ≤ (k : Int) := by omega
      obtain ⟨hd1, hd2⟩ := hdm
      clear q2 hmk hqb hsn
      generalize dataOf l (names.take k) = d at *
      go_wp2_with fail
      go_round
      case rel => exact ⟨k + 1, by omega, by go_num, by rw [HSN.out]⟩
      case measure => simp [intOf]; omega
    · have hkn : k = names.length := by omega
      subst hkn
      rw [List.take_length] at hb1 hb2 ⊢
      unfold roomP at HR
      by_cases c1 : 64 < (names.length : Int)
      · have hrr : r = some (main, 5) := by rw [← HR.out, if_pos (.inl (by omega))]
        have HRR := Lib.hid hrr
        clear hrr
        generalize dataOf l names = d at *
        go_wp2_with fail
        go_ret2
        exact ⟨rfl, by rw [HRR.out]; rfl⟩
      · by_cases c2 : 65535 < dataOf l names
        · have hrr : r = some (main, 5) := by rw [← HR.out, if_pos (.inr c2)]
          have HRR := Lib.hid hrr
          clear hrr
          generalize dataOf l names = d at *
          go_wp2_with fail
          go_ret2
          exact ⟨rfl, by rw [HRR.out]; rfl⟩
        · have hrr : r = none := by rw [← HR.out, if_neg (by omega)]
          have HRR := Lib.hid hrr
          clear hrr
          generalize dataOf l names = d at *
          go_wp2_with fail
          go_ret2
          exact ⟨rfl, by rw [HRR.out]; rfl⟩
end Go.Proofs.Ytfeeeogkkajefaa
