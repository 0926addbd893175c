/- layout's Arm: walked. No conditions but that the table is there. -/
import Derived.Test.YtloihffdolehhaaLyF
namespace Go.Proofs.Ytloihffdolehhaa
open Go.RowKit
set_option linter.unusedVariables false
set_option linter.unusedSimpArgs false

/-- Is a tag among an arm's labels? -/
def hitB (l : List (Int × Int)) (tag : Int) : Bool := l.any fun p => decide (p.1 ≤ tag) && decide (tag ≤ p.2)
def armK (tag : Int) : List ArmD → Nat → Int → Bool → Int × Bool
  | [], _, o, is => (o, is)
  | a :: l, k, o, is => if hitB (a.frm.zip a.to) tag = true then ((k : Int) + 2, true) else if a.els = true ∧ is = false then armK tag l (k + 1) ((k : Int) + 2) true else armK tag l (k + 1) o is
/-- Which arm a tag is of. -/
def armOf (tys : List Ty) (i tag : Int) : Int × Bool := if (tyOf tys i).kind ≠ 12 then (0, false) else armK tag (tyOf tys i).arms 0 0 false
def ArmP (w : World) (x : Int × Bool) (e : Ending) (w' : World) : Prop := e = .returned (.tuple #[.int .i64 x.1, .bool x.2]) ∧ Wr [] w w'

def OutAt (w : World) (tag : Int) (arms : List ArmD) (P : Nat → Prop) (va : Value) (res : Int × Bool) (s8 s9 s27 : Value) (wr : World) : Prop :=
  ∃ (k : Nat) (o : Int) (is : Bool), k ≤ arms.length ∧ s8 = .int .i64 o ∧ s9 = .bool is ∧ s27 = .int .i64 k ∧ res = armK tag (arms.drop k) k o is ∧ Wr [] w wr ∧ SlArms wr P va arms
def InAt (tag : Int) (a : ArmD) (m : Nat) (s39 : Value) : Prop := ∃ j : Nat, j ≤ m ∧ s39 = .int .i64 j ∧ hitB (a.frm.zip a.to) tag = hitB ((a.frm.zip a.to).drop j) tag

set_option maxRecDepth 100000 in
set_option maxHeartbeats 8000000 in
theorem Arm_any (w : World) (t : Nat) (v : Value) (L : List Nat) (base : Nat) (tys : List Ty) (h : Tab 74 w t v L base tys) (i tag : Int) (hal : (tyOf tys i).arms.length ≤ 1099511627776) :
    Calls Try.prog 16 #[.pointer (some ⟨t, 0, none⟩), .int .i64 i, .int .i64 tag] w (ArmP w (armOf tys i tag)) := by
  have hget := fun W (q : Wr [] w W) => get_any W t v L base tys (h.wr0 q) i
  have hroom := tyOf_room h.room i
  obtain ⟨res, hres⟩ : ∃ q, q = armOf tys i tag := ⟨_, rfl⟩
  rw [← hres]
  unfold armOf at hres
  generalize tyOf tys i = ty at *
  have HX := Lib.hid hres
  have HRM := Lib.hid hroom
  clear h hres hroom
  go_enter Try.func16, Try.ntmps16
  go_wp2_with fail
  refine (hget _ (Wr.refl [] w)).mono ?_
  rintro e w1 ⟨vn, vf, va, vp, rfl, r1, hl⟩
  obtain ⟨⟨A1, c1, rfl⟩, ⟨A2, c2, rfl⟩, ⟨A3, c3, rfl⟩, ⟨A4, c4, rfl⟩⟩ := hl.forms
  have R1 := Lib.hid r1
  clear r1 hl
  unfold Ty.val Ty.cells
  have hfd : ∀ (w : World), (Instr.field 38 (.agg #[.int .u8 ty.kind, .string ty.module, .string ty.name, .int .i64 ty.base, .int .i64 ty.index, .int .i64 ty.low, .int .i64 ty.high, .slice A1 ty.names.length c1, .slice A2 ty.fields.length c2, .slice A3 ty.arms.length c3, .slice A4 ty.params.length c4, .int .i64 ty.result]) 0).run Try.prog w = .ok (.int .u8 ty.kind) w := fun w => by kernel_rfl
  by_cases hk : ty.kind = 12
  · have hkb : (ty.kind != 12) = false := by simp [hk]
    have hkb2 : (ty.kind == 12) = true := by simp [hk]
    have hres : res = armK tag ty.arms 0 0 false := HX.out.trans (by rw [if_neg (by simp [hk])])
    have HX := Lib.hid hres
    clear hk hres
    go_wp2_with fail
    refine (hget _ R1.out).mono ?_
    clear hget hfd
    rintro e w2 ⟨vn, vf, va, vp, rfl, r2, hl⟩
    obtain ⟨⟨B1, d1, rfl⟩, ⟨B2, d2, rfl⟩, ⟨B3, d3, rfl⟩, ⟨B4, d4, rfl⟩⟩ := hl.forms
    have R2 := Lib.hid (R1.out.trans r2)
    have at0 : OutAt w tag ty.arms (fun b => w1.heap.size ≤ b) (.slice B3 ty.arms.length d3) res (.int .i64 0) (.bool false) (.int .i64 0) w2 := ⟨0, 0, false, Nat.zero_le _, rfl, rfl, rfl, HX.out, R2.out, hl.arms⟩
    have AT0 := Lib.hid at0
    clear r2 hl at0
    unfold Ty.val Ty.cells
    have hfd : ∀ (w : World), (Instr.field 38 (.agg #[.int .u8 ty.kind, .string ty.module, .string ty.name, .int .i64 ty.base, .int .i64 ty.index, .int .i64 ty.low, .int .i64 ty.high, .slice B1 ty.names.length d1, .slice B2 ty.fields.length d2, .slice B3 ty.arms.length d3, .slice B4 ty.params.length d4, .int .i64 ty.result]) 9).run Try.prog w = .ok (.slice B3 ty.arms.length d3) w := fun w => by kernel_rfl
    go_wp2_with fail
    go_loopw [8, 9, 27] (fun s8 s9 s27 wr => OutAt w tag ty.arms (fun b => w1.heap.size ≤ b) (.slice B3 ty.arms.length d3) res s8 s9 s27 wr) (fun _ _ s27 _ => ty.arms.length - (intOf s27).toNat)
    case atStart => exact AT0.out
    case round =>
      obtain ⟨k, o, is, hk, rfl, rfl, rfl, hres, hw, ha⟩ := hrel
      have HX := Lib.hid hres
      have HW := Lib.hid hw
      have HA := Lib.hid ha
      clear hres hw ha hfd
      by_cases hlt : k < ty.arms.length
      · obtain ⟨a, hak⟩ : ∃ a, ty.arms[k]? = some a := ⟨ty.arms[k], List.getElem?_eq_getElem hlt⟩
        have hdrop : ty.arms.drop k = a :: ty.arms.drop (k + 1) := by
          rw [List.drop_eq_getElem_cons hlt]
          rw [List.getElem?_eq_getElem hlt] at hak
          injection hak with hak
          rw [hak]
        obtain ⟨xs, hsl, hone, harm⟩ := HA.out
        obtain ⟨va, vb, x0, x1, x2, ka, kb⟩ := harm k a hak
        obtain ⟨b, off, c', hv, h1, h2, hPb, hc⟩ := Sl.thing hsl (by omega) hlt
        injection hv with hv1 _ hv3
        subst hv1
        have e0 := hc 0 _ (by omega) x0
        have e1 := hc 1 _ (by omega) x1
        have e2 := hc 2 _ (by omega) x2
        simp only [Nat.add_zero, ← Nat.add_assoc] at e0 e1 e2
        have hir := HRM.out.ints a (List.mem_of_getElem? hak)
        have hst : res = armK tag (a :: ty.arms.drop (k + 1)) k o is := by rw [← hdrop]; exact HX.out
        rw [armK] at hst
        obtain ⟨C1, f1, rfl, g1, g2⟩ := Sl.form ka
        obtain ⟨C2, f2, rfl, g3, g4⟩ := Sl.form kb
        unfold maxLen at g2 g4
        have HST := Lib.hid hst
        have KA := Lib.hid ka
        have KB := Lib.hid kb
        obtain ⟨ir1, ir2⟩ := hir
        have hin0 : InAt tag a (min a.frm.length a.to.length) (.int .i64 0) := ⟨0, Nat.zero_le _, rfl, by rw [List.drop_zero]⟩
        have HIN0 := Lib.hid hin0
        have hi0 : (0 : Int) ≤ (k : Int) := by omega
        have hi1 : (k : Int) < (ty.arms.length : Int) := by omega
        clear hak hdrop hsl hone harm x0 x1 x2 ka kb hc hv3 h1 h2 hst hin0 HIN0 AT0 R1 R2
        by_cases hmin : a.to.length < a.frm.length
        · skip
          have hin0 : InAt tag a a.to.length (.int .i64 0) := ⟨0, Nat.zero_le _, rfl, by rw [List.drop_zero]⟩
          have HIN0 := Lib.hid hin0
          have hm : a.to.length ≤ a.frm.length ∧ a.to.length ≤ a.to.length ∧ (a.frm.zip a.to).length = a.to.length := by rw [List.length_zip]; omega
          have HM := Lib.hid hm
          clear hin0 hm
          go_wp2_with fail
          have hbi := Blk.new wr 54 #[.slice C1 a.frm.length f1, .slice C2 a.to.length f2, .bool a.els]
          have q0 := hbi.cell 0
          have q1 := hbi.cell 1
          have q2 := hbi.cell 2
          simp only [List.getElem?_toArray, List.getElem?_cons_zero, List.getElem?_cons_succ] at q0 q1 q2
          have KA2 := Lib.hid (Sl.wr0 KA.out ((Wr.refl [] wr).alloc (.cells #[.slice C1 a.frm.length f1, .slice C2 a.to.length f2, .bool a.els] 54)))
          have KB2 := Lib.hid (Sl.wr0 KB.out ((Wr.refl [] wr).alloc (.cells #[.slice C1 a.frm.length f1, .slice C2 a.to.length f2, .bool a.els] 54)))
          have HW2 := Lib.hid (HW.out.alloc (.cells #[.slice C1 a.frm.length f1, .slice C2 a.to.length f2, .bool a.els] 54))
          have HA2 := Lib.hid (SlArms.keep HA.out ((Wr.refl [] wr).alloc (.cells #[.slice C1 a.frm.length f1, .slice C2 a.to.length f2, .bool a.els] 54)) (fun _ _ => by simp))
          clear hbi HW HA KA KB e0 e1 e2
          generalize wr.alloc (.cells #[.slice C1 a.frm.length f1, .slice C2 a.to.length f2, .bool a.els] 54) = wi at *
          generalize wr.heap.size = g at *
          go_loop [39] (fun s39 => InAt tag a a.to.length s39) (fun s39 => a.to.length - (intOf s39).toNat)
          case atStart => exact HIN0.out
          case round =>
            obtain ⟨j, hj, rfl, hh⟩ := hrel
            have HH := Lib.hid hh
            clear hh HIN0
            by_cases hjm : j < a.to.length
            · obtain ⟨hm1, hm2, hm3⟩ := HM.out
              have hjf : j < a.frm.length := by omega
              have hjt : j < a.to.length := by omega
              have hj0 : (0 : Int) ≤ (j : Int) := by omega
              have hj1 : (j : Int) < (a.frm.length : Int) := by omega
              have hj2 : (j : Int) < (a.to.length : Int) := by omega
              have hj3 : (j : Int) < (a.to.length : Nat) := by omega
              have hz : (a.frm.zip a.to).drop j = (a.frm[j], a.to[j]) :: (a.frm.zip a.to).drop (j + 1) := by
                rw [List.drop_eq_getElem_cons (by omega)]
                simp
              have hcons : hitB (a.frm.zip a.to) tag = ((decide (a.frm[j] ≤ tag) && decide (tag ≤ a.to[j])) || hitB ((a.frm.zip a.to).drop (j + 1)) tag) := by
                rw [HH.out, hz]
                rfl
              obtain ⟨b3, o3, c3', hv3, _, _, _, y0⟩ := Sl.at_ KA2.out (j := j) (u := .int .i64 a.frm[j]) (by simp [hjf])
              obtain ⟨b4, o4, c4', hv4, _, _, _, y1⟩ := Sl.at_ KB2.out (j := j) (u := .int .i64 a.to[j]) (by simp [hjt])
              injection hv3 with hv3 _ _
              injection hv4 with hv4 _ _
              subst hv3 hv4
              generalize a.frm[j] = fj at *
              generalize a.to[j] = tj at *
              have HC := Lib.hid hcons
              clear hcons hz hm1 hm2 hm3 hjf hjt
              by_cases hlo : fj ≤ tag
              · by_cases hhi : tag ≤ tj
                · have hhit : hitB (a.frm.zip a.to) tag = true := HC.out.trans (by simp [hlo, hhi])
                  obtain rfl : res = ((k : Int) + 2, true) := HST.out.trans (if_pos hhit)
                  have hk64 : (k : Int) + 2 ≤ 9223372036854775807 := by omega
                  clear hhit
                  go_wp2_with fail
                  go_ret2
                  exact ⟨rfl, HW2.out⟩
                · have hn : hitB (a.frm.zip a.to) tag = hitB ((a.frm.zip a.to).drop (j + 1)) tag := HC.out.trans (by simp [hhi])
                  have HN := Lib.hid hn
                  clear hn
                  go_wp2_with fail
                  go_round
                  case rel => exact ⟨j + 1, by omega, by go_num, HN.out⟩
                  case measure => simp [intOf]; omega
              · have hn : hitB (a.frm.zip a.to) tag = hitB ((a.frm.zip a.to).drop (j + 1)) tag := HC.out.trans (by simp [hlo])
                have HN := Lib.hid hn
                have hd : decide (fj ≤ tag) = false := by simp; omega
                clear hn
                go_wp2_with fail
                go_round
                case rel => exact ⟨j + 1, by omega, by go_num, HN.out⟩
                case measure => simp [intOf]; omega
            · have hjm2 : j = a.to.length := by omega
              have hno : ¬ hitB (a.frm.zip a.to) tag = true := by
                rw [HH.out, List.drop_of_length_le (by have := HM.out.2.2; omega)]
                simp [hitB]
              have hst := HST.out.trans (if_neg hno)
              have HST2 := Lib.hid hst
              have hk64 : (k : Int) + 2 ≤ 9223372036854775807 := by omega
              subst hjm2
              clear hst hno hj hjm HH
              generalize a.els = els at *
              cases els with
              | true =>
                cases is with
                | true =>
                  go_wp2_with fail
                  go_roundw
                  case rel => exact ⟨k + 1, o, true, by omega, rfl, rfl, by go_num, HST2.out.trans (by simp), HW2.out, HA2.out⟩
                  case measure => simp [intOf]; omega
                | false =>
                  go_wp2_with fail
                  go_roundw
                  case rel => exact ⟨k + 1, (k : Int) + 2, true, by omega, rfl, rfl, by go_num, HST2.out.trans (by simp), HW2.out, HA2.out⟩
                  case measure => simp [intOf]; omega
              | false =>
                go_wp2_with fail
                go_roundw
                case rel => exact ⟨k + 1, o, is, by omega, rfl, rfl, by go_num, HST2.out.trans (by simp), HW2.out, HA2.out⟩
                case measure => simp [intOf]; omega
        · skip
          have hin0 : InAt tag a a.frm.length (.int .i64 0) := ⟨0, Nat.zero_le _, rfl, by rw [List.drop_zero]⟩
          have HIN0 := Lib.hid hin0
          have hm : a.frm.length ≤ a.frm.length ∧ a.frm.length ≤ a.to.length ∧ (a.frm.zip a.to).length = a.frm.length := by rw [List.length_zip]; omega
          have HM := Lib.hid hm
          clear hin0 hm
          go_wp2_with fail
          have hbi := Blk.new wr 54 #[.slice C1 a.frm.length f1, .slice C2 a.to.length f2, .bool a.els]
          have q0 := hbi.cell 0
          have q1 := hbi.cell 1
          have q2 := hbi.cell 2
          simp only [List.getElem?_toArray, List.getElem?_cons_zero, List.getElem?_cons_succ] at q0 q1 q2
          have KA2 := Lib.hid (Sl.wr0 KA.out ((Wr.refl [] wr).alloc (.cells #[.slice C1 a.frm.length f1, .slice C2 a.to.length f2, .bool a.els] 54)))
          have KB2 := Lib.hid (Sl.wr0 KB.out ((Wr.refl [] wr).alloc (.cells #[.slice C1 a.frm.length f1, .slice C2 a.to.length f2, .bool a.els] 54)))
          have HW2 := Lib.hid (HW.out.alloc (.cells #[.slice C1 a.frm.length f1, .slice C2 a.to.length f2, .bool a.els] 54))
          have HA2 := Lib.hid (SlArms.keep HA.out ((Wr.refl [] wr).alloc (.cells #[.slice C1 a.frm.length f1, .slice C2 a.to.length f2, .bool a.els] 54)) (fun _ _ => by simp))
          clear hbi HW HA KA KB e0 e1 e2
          generalize wr.alloc (.cells #[.slice C1 a.frm.length f1, .slice C2 a.to.length f2, .bool a.els] 54) = wi at *
          generalize wr.heap.size = g at *
          go_loop [39] (fun s39 => InAt tag a a.frm.length s39) (fun s39 => a.frm.length - (intOf s39).toNat)
          case atStart => exact HIN0.out
          case round =>
            obtain ⟨j, hj, rfl, hh⟩ := hrel
            have HH := Lib.hid hh
            clear hh HIN0
            by_cases hjm : j < a.frm.length
            · obtain ⟨hm1, hm2, hm3⟩ := HM.out
              have hjf : j < a.frm.length := by omega
              have hjt : j < a.to.length := by omega
              have hj0 : (0 : Int) ≤ (j : Int) := by omega
              have hj1 : (j : Int) < (a.frm.length : Int) := by omega
              have hj2 : (j : Int) < (a.to.length : Int) := by omega
              have hj3 : (j : Int) < (a.frm.length : Nat) := by omega
              have hz : (a.frm.zip a.to).drop j = (a.frm[j], a.to[j]) :: (a.frm.zip a.to).drop (j + 1) := by
                rw [List.drop_eq_getElem_cons (by omega)]
                simp
              have hcons : hitB (a.frm.zip a.to) tag = ((decide (a.frm[j] ≤ tag) && decide (tag ≤ a.to[j])) || hitB ((a.frm.zip a.to).drop (j + 1)) tag) := by
                rw [HH.out, hz]
                rfl
              obtain ⟨b3, o3, c3', hv3, _, _, _, y0⟩ := Sl.at_ KA2.out (j := j) (u := .int .i64 a.frm[j]) (by simp [hjf])
              obtain ⟨b4, o4, c4', hv4, _, _, _, y1⟩ := Sl.at_ KB2.out (j := j) (u := .int .i64 a.to[j]) (by simp [hjt])
              injection hv3 with hv3 _ _
              injection hv4 with hv4 _ _
              subst hv3 hv4
              generalize a.frm[j] = fj at *
              generalize a.to[j] = tj at *
              have HC := Lib.hid hcons
              clear hcons hz hm1 hm2 hm3 hjf hjt
              by_cases hlo : fj ≤ tag
              · by_cases hhi : tag ≤ tj
                · have hhit : hitB (a.frm.zip a.to) tag = true := HC.out.trans (by simp [hlo, hhi])
                  obtain rfl : res = ((k : Int) + 2, true) := HST.out.trans (if_pos hhit)
                  have hk64 : (k : Int) + 2 ≤ 9223372036854775807 := by omega
                  clear hhit
                  go_wp2_with fail
                  go_ret2
                  exact ⟨rfl, HW2.out⟩
                · have hn : hitB (a.frm.zip a.to) tag = hitB ((a.frm.zip a.to).drop (j + 1)) tag := HC.out.trans (by simp [hhi])
                  have HN := Lib.hid hn
                  clear hn
                  go_wp2_with fail
                  go_round
                  case rel => exact ⟨j + 1, by omega, by go_num, HN.out⟩
                  case measure => simp [intOf]; omega
              · have hn : hitB (a.frm.zip a.to) tag = hitB ((a.frm.zip a.to).drop (j + 1)) tag := HC.out.trans (by simp [hlo])
                have HN := Lib.hid hn
                have hd : decide (fj ≤ tag) = false := by simp; omega
                clear hn
                go_wp2_with fail
                go_round
                case rel => exact ⟨j + 1, by omega, by go_num, HN.out⟩
                case measure => simp [intOf]; omega
            · have hjm2 : j = a.frm.length := by omega
              have hno : ¬ hitB (a.frm.zip a.to) tag = true := by
                rw [HH.out, List.drop_of_length_le (by have := HM.out.2.2; omega)]
                simp [hitB]
              have hst := HST.out.trans (if_neg hno)
              have HST2 := Lib.hid hst
              have hk64 : (k : Int) + 2 ≤ 9223372036854775807 := by omega
              subst hjm2
              clear hst hno hj hjm HH
              generalize a.els = els at *
              cases els with
              | true =>
                cases is with
                | true =>
                  go_wp2_with fail
                  go_roundw
                  case rel => exact ⟨k + 1, o, true, by omega, rfl, rfl, by go_num, HST2.out.trans (by simp), HW2.out, HA2.out⟩
                  case measure => simp [intOf]; omega
                | false =>
                  go_wp2_with fail
                  go_roundw
                  case rel => exact ⟨k + 1, (k : Int) + 2, true, by omega, rfl, rfl, by go_num, HST2.out.trans (by simp), HW2.out, HA2.out⟩
                  case measure => simp [intOf]; omega
              | false =>
                go_wp2_with fail
                go_roundw
                case rel => exact ⟨k + 1, o, is, by omega, rfl, rfl, by go_num, HST2.out.trans (by simp), HW2.out, HA2.out⟩
                case measure => simp [intOf]; omega
      · have hkl : k = ty.arms.length := by omega
        subst hkl
        obtain rfl : res = (o, is) := HX.out.trans (by rw [List.drop_length]; rfl)
        go_wp2_with fail
        go_ret2
        exact ⟨rfl, HW.out⟩
  · have hkb : (ty.kind != 12) = true := by simp [hk]
    have hkb2 : (ty.kind == 12) = false := by simp [hk]
    obtain rfl : res = (0, false) := HX.out.trans (by rw [if_pos hk])
    clear hk hget
    go_wp2_with fail
    go_ret2
    exact ⟨rfl, R1.out⟩
end Go.Proofs.Ytloihffdolehhaa
