/- ref 14's fits: walked. No conditions. -/
import Derived.Test.YtjanbpchedgoiaaGreatKT26
set_option linter.unusedVariables false
set_option linter.unusedSimpArgs false
set_option maxRecDepth 100000
set_option maxHeartbeats 32000000
namespace Go.Proofs.YtjanbpchedgoiaaGreat
open Go.RowKit
theorem allF_step {α : Type} {p : α → Bool} {l : List α} {k : Nat} {x : α} (h : (l.take k).all p = true) (hx : l[k]? = some x) (hp : p x = true) : (l.take (k + 1)).all p = true := by
 rw [List.take_add_one, hx, List.all_append, h]
 simpa using hp
theorem allF_no {α : Type} {p : α → Bool} {l : List α} {k : Nat} {x : α} (hx : l[k]? = some x) (hp : p x = false) : l.all p = false := by
 rw [List.all_eq_false]
 exact ⟨x, List.mem_of_getElem? hx, by rw [hp]; decide⟩
theorem fits_r (t : Ty) (vn vf va vp : Value) (P : Nat → Prop) (w : World) (h : Lists w P vn vf va vp t) :
  Calls Tryz.prog 91 #[.agg #[.int .u8 t.kind, .string t.module, .string t.name, .int .i64 t.base, .int .i64 t.index, .int .i64 t.low, .int .i64 t.high, vn, vf, va, vp, .int .i64 t.result]] w fun e w' => e = .returned (.bool (tyFit t)) ∧ Wr [] w w' := by
 obtain ⟨⟨A1, k1, rfl, hn1, hn2⟩, ⟨A2, k2, rfl, hf1, hf2⟩, ⟨A3, k3, rfl, ha1, ha2⟩, ⟨A4, k4, rfl, hp1, hp2⟩⟩ := h.forms
 obtain ⟨w0, hw0⟩ : ∃ q, w.alloc (.cells #[.int .u8 t.kind, .string t.module, .string t.name, .int .i64 t.base, .int .i64 t.index, .int .i64 t.low, .int .i64 t.high, .slice A1 t.names.length k1, .slice A2 t.fields.length k2, .slice A3 t.arms.length k3, .slice A4 t.params.length k4, .int .i64 t.result] 52) = q := ⟨_, rfl⟩
 obtain ⟨g, hg⟩ : ∃ g, w.heap.size = g := ⟨_, rfl⟩
 have acc : Wr [] w w0 := by rw [← hw0]; exact (Wr.refl [] _).alloc _
 have bA : Blk w0 g 52 #[.int .u8 t.kind, .string t.module, .string t.name, .int .i64 t.base, .int .i64 t.index, .int .i64 t.low, .int .i64 t.high, .slice A1 t.names.length k1, .slice A2 t.fields.length k2, .slice A3 t.arms.length k3, .slice A4 t.params.length k4, .int .i64 t.result] := by rw [← hw0, ← hg]; exact Blk.new _ _ _
 have g1 := fun W => short_r t.module W
 have g2 := fun W => short_r t.name W
 have g3 := fun W => list_r t.names.length W
 have g4 := fun W => list_r t.fields.length W
 have g5 := fun W => list_r t.arms.length W
 have g6 := fun W => list_r t.params.length W
 obtain ⟨b1, e1⟩ : ∃ q, shB t.module = q := ⟨_, rfl⟩
 obtain ⟨b2, e2⟩ : ∃ q, shB t.name = q := ⟨_, rfl⟩
 obtain ⟨b3, e3⟩ : ∃ q, fwB t.names.length = q := ⟨_, rfl⟩
 obtain ⟨b4, e4⟩ : ∃ q, fwB t.fields.length = q := ⟨_, rfl⟩
 obtain ⟨b5, e5⟩ : ∃ q, fwB t.arms.length = q := ⟨_, rfl⟩
 obtain ⟨b6, e6⟩ : ∃ q, fwB t.params.length = q := ⟨_, rfl⟩
 obtain ⟨b7, e7⟩ : ∃ q, t.names.all shB = q := ⟨_, rfl⟩
 obtain ⟨b8, e8⟩ : ∃ q, t.fields.all (fun f => shB f.name) = q := ⟨_, rfl⟩
 obtain ⟨b9, e9⟩ : ∃ q, t.arms.all armFit = q := ⟨_, rfl⟩
 obtain ⟨rr, hrr⟩ : ∃ r, tyFit t = r := ⟨_, rfl⟩
 have hv : rr = (b1 && b2 && b3 && b4 && b5 && b6 && b7 && b8 && b9) := by
  rw [← hrr]
  unfold tyFit
  rw [e1, e2, e3, e4, e5, e6, e7, e8, e9]
 rw [hrr]
 simp only [e1] at g1
 simp only [e2] at g2
 simp only [e3] at g3
 simp only [e4] at g4
 simp only [e5] at g5
 simp only [e6] at g6
 unfold maxLen at hn2 hf2 ha2 hp2
 have G1 := qh g1
 have G2 := qh g2
 have G3 := qh g3
 have G4 := qh g4
 have G5 := qh g5
 have G6 := qh g6
 have E7 := qh e7
 have E8 := qh e8
 have E9 := qh e9
 have HV := qh hv
 have HW0 := qh hw0
 have HG := qh hg
 have ACC := qh acc
 have HH := qh h
 have c1 := bA.cell 1
 have c2 := bA.cell 2
 have c7 := bA.cell 7
 have c8 := bA.cell 8
 have c9 := bA.cell 9
 have c10 := bA.cell 10
 simp only [qgaq, qgzq, qgsq] at c1 c2 c7 c8 c9 c10
 clear g1 g2 g3 g4 g5 g6 e1 e2 e3 e4 e5 e6 e7 e8 e9 hv hrr hw0 hg acc bA h
 go_enter Tryz.func91, Tryz.ntmps91
 go_upto_region 1 with (fail)
 rw [HW0.out, HG.out]
 go_wp2_with fail
 refine (G1.out _).mono ?_
 rintro e w1 ⟨rfl, rfl⟩
 cases b1 with
 | false =>
  obtain rfl : rr = false := by rw [HV.out]; simp
  clear HV
  go_wp2_with fail
  go_ret
  exact ⟨rfl, ACC.out⟩
 | true =>
 go_wp2_with fail
 refine (G2.out _).mono ?_
 rintro e w1 ⟨rfl, rfl⟩
 cases b2 with
 | false =>
  obtain rfl : rr = false := by rw [HV.out]; simp
  clear HV
  go_wp2_with fail
  go_ret
  exact ⟨rfl, ACC.out⟩
 | true =>
 go_wp2_with fail
 refine (G3.out _).mono ?_
 rintro e w1 ⟨rfl, rfl⟩
 cases b3 with
 | false =>
  obtain rfl : rr = false := by rw [HV.out]; simp
  clear HV
  go_wp2_with fail
  go_ret
  exact ⟨rfl, ACC.out⟩
 | true =>
 go_wp2_with fail
 refine (G4.out _).mono ?_
 rintro e w1 ⟨rfl, rfl⟩
 cases b4 with
 | false =>
  obtain rfl : rr = false := by rw [HV.out]; simp
  clear HV
  go_wp2_with fail
  go_ret
  exact ⟨rfl, ACC.out⟩
 | true =>
 go_wp2_with fail
 refine (G5.out _).mono ?_
 rintro e w1 ⟨rfl, rfl⟩
 cases b5 with
 | false =>
  obtain rfl : rr = false := by rw [HV.out]; simp
  clear HV
  go_wp2_with fail
  go_ret
  exact ⟨rfl, ACC.out⟩
 | true =>
 go_wp2_with fail
 refine (G6.out _).mono ?_
 rintro e w1 ⟨rfl, rfl⟩
 cases b6 with
 | false =>
  obtain rfl : rr = false := by rw [HV.out]; simp
  clear HV
  go_wp2_with fail
  go_ret
  exact ⟨rfl, ACC.out⟩
 | true =>
 go_wp2_with fail
 go_loop [3] (fun i => ∃ k : Nat, k ≤ t.names.length ∧ i = .int .i64 k ∧ (t.names.take k).all shB = true) (fun i => t.names.length - (intOf i).toNat)
 case atStart => exact ⟨0, by omega, rfl, by simp⟩
 case round =>
  obtain ⟨k, hk, rfl, hall⟩ := hrel
  have HALL := qh hall
  clear hall
  by_cases hlt : k < t.names.length
  ·obtain ⟨x, hx⟩ : ∃ x, t.names[k]? = some x := ⟨_, qgeq hlt⟩
   obtain ⟨b, off, c', e, _, _, _, hc⟩ := Sl.at_ (Sl.wr0 HH.out.names ACC.out) (j := k) (u := .string x) (by rw [qgmq, hx]; rfl)
   injection e with e1 e2 e3
   subst e1 e3
   have x0 := hc
   have gx := short_r x w0
   have hlti : (k : Int) < (t.names.length : Int) := by omega
   have hk0 : (0 : Int) ≤ (k : Int) := by omega
   have HX := qh hx
   obtain ⟨px, hpx⟩ : ∃ q, shB x = q := ⟨_, rfl⟩
   rw [hpx] at gx
   have GX := qh gx
   have HPX := qh hpx
   clear gx hpx hx hc
   go_wp2_with fail
   refine GX.out.mono ?_
   rintro e w1 ⟨rfl, rfl⟩
   cases px with
   | false =>
    obtain rfl : b7 = false := by rw [← E7.out]; exact allF_no HX.out HPX.out
    obtain rfl : rr = false := by rw [HV.out]; simp
    clear HV
    go_wp2_with fail
    go_ret
    exact ⟨rfl, ACC.out⟩
   | true =>
    have hs := allF_step HALL.out HX.out HPX.out
    have HS := qh hs
    clear hs
    go_wp2_with fail
    exact ⟨⟨k + 1, by omega, rfl, HS.out⟩, by show _ - ((k + 1 : Nat) : Int).toNat < _ - (k : Int).toNat; omega⟩
  ·obtain rfl : k = t.names.length := by omega
   have hb : b7 = true := by rw [← E7.out, ← HALL.out, List.take_length]
   subst hb
   go_wp2_with fail
   go_loop [4] (fun i => ∃ k : Nat, k ≤ t.fields.length ∧ i = .int .i64 k ∧ (t.fields.take k).all (fun f => shB f.name) = true) (fun i => t.fields.length - (intOf i).toNat)
   case atStart => exact ⟨0, by omega, rfl, by simp⟩
   case round =>
    obtain ⟨k, hk, rfl, hall⟩ := hrel
    have HALL := qh hall
    clear hall
    by_cases hlt : k < t.fields.length
    ·obtain ⟨x, hx⟩ : ∃ x, t.fields[k]? = some x := ⟨_, qgeq hlt⟩
     obtain ⟨b, off, c', e, _, hc⟩ := fld_at (Sl.wr0 HH.out.fields ACC.out) hx
     injection e with e1 e2 e3
     subst e1 e3
     have x0 := hc 0 _ rfl
     simp only [Nat.add_zero] at x0
     have gx := short_r x.name w0
     have hlti : (k : Int) < (t.fields.length : Int) := by omega
     have hk0 : (0 : Int) ≤ (k : Int) := by omega
     have HX := qh hx
     obtain ⟨px, hpx⟩ : ∃ q, shB x.name = q := ⟨_, rfl⟩
     rw [hpx] at gx
     have GX := qh gx
     have HPX := qh hpx
     clear gx hpx hx hc
     go_wp2_with fail
     refine GX.out.mono ?_
     rintro e w1 ⟨rfl, rfl⟩
     cases px with
     | false =>
      obtain rfl : b8 = false := by rw [← E8.out]; exact allF_no HX.out HPX.out
      obtain rfl : rr = false := by rw [HV.out]; simp
      clear HV
      go_wp2_with fail
      go_ret
      exact ⟨rfl, ACC.out⟩
     | true =>
      have hs := allF_step HALL.out HX.out HPX.out
      have HS := qh hs
      clear hs
      go_wp2_with fail
      exact ⟨⟨k + 1, by omega, rfl, HS.out⟩, by show _ - ((k + 1 : Nat) : Int).toNat < _ - (k : Int).toNat; omega⟩
    ·obtain rfl : k = t.fields.length := by omega
     have hb : b8 = true := by rw [← E8.out, ← HALL.out, List.take_length]
     subst hb
     go_wp2_with fail
     go_loop [5] (fun i => ∃ k : Nat, k ≤ t.arms.length ∧ i = .int .i64 k ∧ (t.arms.take k).all armFit = true) (fun i => t.arms.length - (intOf i).toNat)
     case atStart => exact ⟨0, by omega, rfl, by simp⟩
     case round =>
      obtain ⟨k, hk, rfl, hall⟩ := hrel
      have HALL := qh hall
      clear hall
      by_cases hlt : k < t.arms.length
      ·obtain ⟨x, hx⟩ : ∃ x, t.arms[k]? = some x := ⟨_, qgeq hlt⟩
       obtain ⟨b, off, c', va, vb, e, _, y0, y1, _, ka, kb⟩ := arm_at (SlArms.keep HH.out.arms ACC.out (fun _ _ => by simp)) hx
       injection e with e1 e2 e3
       subst e1 e3
       obtain ⟨Aa, ca, rfl, _, _⟩ := Sl.form ka
       obtain ⟨Ab, cb, rfl, _, _⟩ := Sl.form kb
       have hlti : (k : Int) < (t.arms.length : Int) := by omega
       have hk0 : (0 : Int) ≤ (k : Int) := by omega
       have HX := qh hx
       have gx := fun W => list_r x.frm.length W
       have gy := fun W => list_r x.to.length W
       obtain ⟨px, hpx⟩ : ∃ q, fwB x.frm.length = q := ⟨_, rfl⟩
       obtain ⟨py, hpy⟩ : ∃ q, fwB x.to.length = q := ⟨_, rfl⟩
       have hpp : armFit x = (px && py) := by unfold armFit; rw [hpx, hpy]
       simp only [hpx] at gx
       simp only [hpy] at gy
       have GX := qh gx
       have GY := qh gy
       have HPP := qh hpp
       clear gx gy hpx hpy hpp hx ka kb
       go_wp2_with fail
       refine (GX.out _).mono ?_
       rintro e w1 ⟨rfl, rfl⟩
       cases px with
       | false =>
        obtain rfl : b9 = false := by rw [← E9.out]; exact allF_no HX.out (by rw [HPP.out]; rfl)
        obtain rfl : rr = false := by rw [HV.out]; simp
        clear HV
        go_wp2_with fail
        go_ret
        exact ⟨rfl, ACC.out⟩
       | true =>
        go_wp2_with fail
        refine (GY.out _).mono ?_
        rintro e w1 ⟨rfl, rfl⟩
        cases py with
        | false =>
         obtain rfl : b9 = false := by rw [← E9.out]; exact allF_no HX.out (by rw [HPP.out]; rfl)
         obtain rfl : rr = false := by rw [HV.out]; simp
         clear HV
         go_wp2_with fail
         go_ret
         exact ⟨rfl, ACC.out⟩
        | true =>
         have hs := allF_step HALL.out HX.out (by rw [HPP.out]; rfl)
         have HS := qh hs
         clear hs
         go_wp2_with fail
         exact ⟨⟨k + 1, by omega, rfl, HS.out⟩, by show _ - ((k + 1 : Nat) : Int).toNat < _ - (k : Int).toNat; omega⟩
      ·obtain rfl : k = t.arms.length := by omega
       have hb : b9 = true := by rw [← E9.out, ← HALL.out, List.take_length]
       subst hb
       obtain rfl : rr = true := by rw [HV.out]; rfl
       clear HV
       go_wp2_with fail
       go_ret
       exact ⟨rfl, ACC.out⟩
end Go.Proofs.YtjanbpchedgoiaaGreat
namespace Go.Proofs.YtjanbpchedgoiaaGreat
theorem str_ne {s t : ByteArray} (h : s ≠ t) : (s.toList == t.toList) = false := by
 rw [beq_eq_false_iff_ne]
 intro e
 apply h
 rw [ByteArray.toList_eq, ByteArray.toList_eq] at e
 obtain ⟨⟨l⟩⟩ := s
 obtain ⟨⟨m⟩⟩ := t
 simp at e
 rw [e]
theorem str_eq (s : ByteArray) : (s.toList == s.toList) = true := by simp
end Go.Proofs.YtjanbpchedgoiaaGreat
namespace Go.Proofs.YtjanbpchedgoiaaGreat
open Go.RowKit
theorem once_found {l : List ByteArray} {k j : Nat} {s t : ByteArray} (ho : onceB [] l = onceB (l.take k) (l.drop k)) (hk : l[k]? = some s) (hj : l[j]? = some t) (hlt : j < k) (he : t = s) : onceB [] l = false := by
 rw [ho, onceB_drop _ hk]
 have : inL s (l.take k) = true := by
  rw [inL_iff, ← he]
  refine List.mem_of_getElem? (i := j) ?_
  rw [List.getElem?_take, if_pos hlt]
  exact hj
 rw [this]
 rfl
theorem once_next {l : List ByteArray} {k : Nat} {s : ByteArray} (ho : onceB [] l = onceB (l.take k) (l.drop k)) (hk : l[k]? = some s) (hn : inL s (l.take k) = false) : onceB [] l = onceB (l.take (k + 1)) (l.drop (k + 1)) := by
 rw [ho, onceB_drop _ hk, hn, take_next hk]
 rfl
theorem once_end {l : List ByteArray} (ho : onceB [] l = onceB (l.take l.length) (l.drop l.length)) : onceB [] l = true := by
 rw [ho, List.drop_length]
 rfl
theorem inL_step {l : List ByteArray} {j : Nat} {s t : ByteArray} (hn : inL s (l.take j) = false) (hj : l[j]? = some t) (he : ¬ t = s) : inL s (l.take (j + 1)) = false := by
 rw [take_next hj, inL_snocF, hn, qdfq he]
 rfl
def TwAt (w0 : World) (l : List ByteArray) (k : Nat) (wr : World) : Prop := Wr [] w0 wr ∧ onceB [] l = onceB (l.take k) (l.drop k)
def TwIn (w0 : World) (l : List ByteArray) (s : ByteArray) (j : Nat) (wr : World) : Prop := Wr [] w0 wr ∧ inL s (l.take j) = false
theorem twice_r (f : FaceP) (vu vt vi : Value) (P : Nat → Prop) (w : World) (h : FacePL w P vu vt vi f) :
  Calls Tryz.prog 65 #[.agg #[.string f.module, vu, vt, vi]] w fun e w' => e = .returned (.bool (!(onceB [] (f.uses.map UseD.module) && onceB [] (f.items.map PItm.name)))) ∧ Wr [] w w' := by
 obtain ⟨⟨A1, k1, rfl, hn1, hn2⟩, ⟨A2, k2, rfl, hf1, hf2⟩, ⟨A3, k3, rfl, ha1, ha2⟩⟩ := h.forms
 unfold maxLen at hn2 hf2 ha2
 obtain ⟨w0, hw0⟩ : ∃ q, w.alloc (.cells #[.string f.module, .slice A1 f.uses.length k1, .slice A2 f.types.length k2, .slice A3 f.items.length k3] 27) = q := ⟨_, rfl⟩
 obtain ⟨g, hg⟩ : ∃ g, w.heap.size = g := ⟨_, rfl⟩
 have acc : Wr [] w w0 := by rw [← hw0]; exact (Wr.refl [] _).alloc _
 have bA : Blk w0 g 27 #[.string f.module, .slice A1 f.uses.length k1, .slice A2 f.types.length k2, .slice A3 f.items.length k3] := by rw [← hw0, ← hg]; exact Blk.new _ _ _
 have c1 := bA.cell 1
 have c3 := bA.cell 3
 simp only [qgaq, qgzq, qgsq] at c1 c3
 obtain ⟨b1, e1⟩ : ∃ q, onceB [] (f.uses.map UseD.module) = q := ⟨_, rfl⟩
 obtain ⟨b2, e2⟩ : ∃ q, onceB [] (f.items.map PItm.name) = q := ⟨_, rfl⟩
 obtain ⟨rr, hrr⟩ : ∃ q, (!(b1 && b2)) = q := ⟨_, rfl⟩
 rw [e1, e2, hrr]
 have C1 := qh c1
 have C3 := qh c3
 have E1 := qh e1
 have E2 := qh e2
 have HV := qh hrr.symm
 have HH := qh (h.wr0 acc)
 have HW0 := qh hw0
 have HG := qh hg
 have ACC := qh acc
 clear hw0 hg acc bA c1 c3 e1 e2 hrr h
 go_enter Tryz.func65, Tryz.ntmps65
 go_upto_region 1 with (fail)
 rw [HW0.out, HG.out]
 go_wp2_with fail
 go_loopw [3] (fun i wr => ∃ k : Nat, k ≤ f.uses.length ∧ i = .int .i64 k ∧ TwAt w0 (f.uses.map UseD.module) k wr) (fun i _ => f.uses.length - (intOf i).toNat)
 case atStart => exact ⟨0, by omega, rfl, Wr.refl [] w0, rfl⟩
 case round =>
  obtain ⟨k, hk, rfl, acc2, hord⟩ := hrel
  obtain ⟨wo, rfl⟩ : ∃ wo : World, wo = wr := ⟨_, rfl⟩
  have ACC2 := qh acc2
  have HORD := qh hord
  have c1 := acc2.cellOf C1.out (by simp)
  clear acc2 hord
  by_cases hlt2 : k < f.uses.length
  ·obtain ⟨u, hx⟩ : ∃ u, f.uses[k]? = some u := ⟨_, qgeq hlt2⟩
   have hxn : (f.uses.map UseD.module)[k]? = some u.module := by rw [qgmq, hx]; rfl
   have HX := qh hx
   have HXN := qh hxn
   have hlti : (k : Int) < (f.uses.length : Int) := by omega
   have hk0 : (0 : Int) ≤ (k : Int) := by omega
   clear hx hxn
   go_wp2_with fail
   clear c1
   go_loopw [4] (fun i wi => ∃ j : Nat, j ≤ k ∧ i = .int .i64 j ∧ TwIn w0 (f.uses.map UseD.module) u.module j wi) (fun i _ => k - (intOf i).toNat)
   case atStart => exact ⟨0, by omega, rfl, ACC2.out, rfl⟩
   case round =>
    obtain ⟨j, hj, rfl, ri, hno⟩ := hrel
    have c1 := ri.cellOf C1.out (by simp)
    have RI := qh ri
    have HNO := qh hno
    clear ri hno
    by_cases hlt3 : j < k
    ·obtain ⟨x, hy⟩ : ∃ x, f.uses[j]? = some x := ⟨_, qgeq (by omega)⟩
     have hyn : (f.uses.map UseD.module)[j]? = some x.module := by rw [qgmq, hy]; rfl
     obtain ⟨b2', off2, c2, e2, _, hc2⟩ := useF_at HH.out.uses hy
     injection e2 with e1 e2 e3
     subst e1 e3
     obtain ⟨b3, off3, c3', e2', _, hc3⟩ := useF_at HH.out.uses HX.out
     injection e2' with e1 e2' e3
     injection e1 with e1
     injection e1 with e1 e4 _
     subst e1 e3 e4
     have y0 := RI.out.cellOf (hc2 0 _ rfl) (by simp)
     have x0 := RI.out.cellOf (hc3 0 _ rfl) (by simp)
     simp only [Nat.add_zero] at y0 x0
     have HYN := qh hyn
     clear hc2 hc3 hy hyn e2 e2'
     have hjl : (j : Int) < (f.uses.length : Int) := by omega
     have hjk : (j : Int) < (k : Int) := by omega
     have hj0 : (0 : Int) ≤ (j : Int) := by omega
     by_cases hme2 : x.module = u.module
     ·obtain rfl : b1 = false := by rw [← E1.out]; exact once_found HORD.out HXN.out HYN.out hlt3 hme2
      obtain rfl : rr = true := by rw [HV.out]; simp
      have hs : (x.module.toList == u.module.toList) = true := by rw [hme2]; exact str_eq _
      clear hme2 HV
      go_wp2_with fail
      go_quiet (fail)
      go_wp2_with fail
      go_ret
      exact ⟨rfl, (ACC.out.trans RI.out).drewN _⟩
     ·have hs := str_ne hme2
      have hno2 := inL_step HNO.out HYN.out hme2
      have HNO2 := qh hno2
      clear hme2 hno2
      go_wp2_with fail
      go_quiet (fail)
      go_wp2_with fail
      go_roundw
      case rel =>
       first
       | exact ⟨j + 1, by omega, by go_num, RI.out.drewN _, HNO2.out⟩
       | (repeat apply Exists.intro
          refine ⟨⟨j + 1, by omega, by go_num, RI.out.drewN _, HNO2.out⟩, ?_⟩
          rfl)
      case measure => simp [intOf]; omega
    ·have hjk : j = k := by omega
     subst hjk
     have hord2 := once_next HORD.out HXN.out HNO.out
     have HORD2 := qh hord2
     clear hord2 c1
     go_wp2_with fail
     go_roundw
     case rel => exact ⟨j + 1, by omega, by go_num, RI.out, HORD2.out⟩
     case measure => simp [intOf]; omega
  ·have hkn : k = f.uses.length := by omega
   obtain rfl : b1 = true := by
    rw [← E1.out]
    have h1 := HORD.out
    rw [hkn] at h1
    exact once_end (by rw [qlmq]; exact h1)
   subst hkn
   clear HORD
   go_wp2_with fail
   go_loopw [5] (fun i wr => ∃ k : Nat, k ≤ f.items.length ∧ i = .int .i64 k ∧ TwAt w0 (f.items.map PItm.name) k wr) (fun i _ => f.items.length - (intOf i).toNat)
   case atStart => exact ⟨0, by omega, rfl, ACC2.out, rfl⟩
   case round =>
    obtain ⟨k, hk, rfl, acc2, hord⟩ := hrel
    obtain ⟨wo, rfl⟩ : ∃ wo : World, wo = wr := ⟨_, rfl⟩
    have ACC2 := qh acc2
    have HORD := qh hord
    have c3 := acc2.cellOf C3.out (by simp)
    clear acc2 hord
    by_cases hlt2 : k < f.items.length
    ·obtain ⟨u, hx⟩ : ∃ u, f.items[k]? = some u := ⟨_, qgeq hlt2⟩
     have hxn : (f.items.map PItm.name)[k]? = some u.name := by rw [qgmq, hx]; rfl
     have HX := qh hx
     have HXN := qh hxn
     have hlti : (k : Int) < (f.items.length : Int) := by omega
     have hk0 : (0 : Int) ≤ (k : Int) := by omega
     clear hx hxn
     go_wp2_with fail
     clear c3
     go_loopw [6] (fun i wi => ∃ j : Nat, j ≤ k ∧ i = .int .i64 j ∧ TwIn w0 (f.items.map PItm.name) u.name j wi) (fun i _ => k - (intOf i).toNat)
     case atStart => exact ⟨0, by omega, rfl, ACC2.out, rfl⟩
     case round =>
      obtain ⟨j, hj, rfl, ri, hno⟩ := hrel
      have c3 := ri.cellOf C3.out (by simp)
      have RI := qh ri
      have HNO := qh hno
      clear ri hno
      by_cases hlt3 : j < k
      ·obtain ⟨x, hy⟩ : ∃ x, f.items[j]? = some x := ⟨_, qgeq (by omega)⟩
       have hyn : (f.items.map PItm.name)[j]? = some x.name := by rw [qgmq, hy]; rfl
       obtain ⟨b2', off2, c2, e2, _, hc2⟩ := pitm_at HH.out.items hy
       injection e2 with e1 e2 e3
       subst e1 e3
       obtain ⟨b3, off3, c3', e2', _, hc3⟩ := pitm_at HH.out.items HX.out
       injection e2' with e1 e2' e3
       injection e1 with e1
       injection e1 with e1 e4 _
       subst e1 e3 e4
       have y0 := RI.out.cellOf (hc2 0 _ rfl) (by simp)
       have x0 := RI.out.cellOf (hc3 0 _ rfl) (by simp)
       simp only [Nat.add_zero] at y0 x0
       have HYN := qh hyn
       clear hc2 hc3 hy hyn e2 e2'
       have hjl : (j : Int) < (f.items.length : Int) := by omega
       have hjk : (j : Int) < (k : Int) := by omega
       have hj0 : (0 : Int) ≤ (j : Int) := by omega
       by_cases hme2 : x.name = u.name
       ·obtain rfl : b2 = false := by rw [← E2.out]; exact once_found HORD.out HXN.out HYN.out hlt3 hme2
        obtain rfl : rr = true := by rw [HV.out]; simp
        have hs : (x.name.toList == u.name.toList) = true := by rw [hme2]; exact str_eq _
        clear hme2 HV
        go_wp2_with fail
        go_quiet (fail)
        go_wp2_with fail
        go_ret
        exact ⟨rfl, (ACC.out.trans RI.out).drewN _⟩
       ·have hs := str_ne hme2
        have hno2 := inL_step HNO.out HYN.out hme2
        have HNO2 := qh hno2
        clear hme2 hno2
        go_wp2_with fail
        go_quiet (fail)
        go_wp2_with fail
        go_roundw
        case rel =>
         first
         | exact ⟨j + 1, by omega, by go_num, RI.out.drewN _, HNO2.out⟩
         | (repeat apply Exists.intro
            refine ⟨⟨j + 1, by omega, by go_num, RI.out.drewN _, HNO2.out⟩, ?_⟩
            rfl)
        case measure => simp [intOf]; omega
      ·have hjk : j = k := by omega
       subst hjk
       have hord2 := once_next HORD.out HXN.out HNO.out
       have HORD2 := qh hord2
       clear hord2 c3
       go_wp2_with fail
       go_roundw
       case rel => exact ⟨j + 1, by omega, by go_num, RI.out, HORD2.out⟩
       case measure => simp [intOf]; omega
    ·have hkn : k = f.items.length := by omega
     obtain rfl : b2 = true := by
      rw [← E2.out]
      have h1 := HORD.out
      rw [hkn] at h1
      exact once_end (by rw [qlmq]; exact h1)
     subst hkn
     clear HORD
     obtain rfl : rr = false := by rw [HV.out]; rfl
     clear HV
     go_wp2_with fail
     go_ret
     exact ⟨rfl, ACC.out.trans ACC2.out⟩
def pitFit (x : PItm) : Bool := shB x.name && fwB x.v.text.size
def rfitB (f : FaceP) : Bool :=
 decide (f.uses.length ≤ 64) && decide (f.items.length ≤ 512) && decide (f.types.length ≤ 1024) && shB f.module && f.uses.all (fun u => shB u.module) && f.types.all tyFit && f.items.all pitFit
def LgAt {α : Type} (w0 : World) (l : List α) (p : α → Bool) (k : Nat) (wr : World) : Prop := Wr [] w0 wr ∧ (l.take k).all p = true
theorem long_r (f : FaceP) (vu vt vi : Value) (P : Nat → Prop) (w : World) (h : FacePL w P vu vt vi f) :
  Calls Tryz.prog 64 #[.agg #[.string f.module, vu, vt, vi]] w fun e w' => e = .returned (.bool (!rfitB f)) ∧ Wr [] w w' := by
 obtain ⟨⟨A1, k1, rfl, hn1, hn2⟩, ⟨A2, k2, rfl, hf1, hf2⟩, ⟨A3, k3, rfl, ha1, ha2⟩⟩ := h.forms
 unfold maxLen at hn2 hf2 ha2
 obtain ⟨w0, hw0⟩ : ∃ q, w.alloc (.cells #[.string f.module, .slice A1 f.uses.length k1, .slice A2 f.types.length k2, .slice A3 f.items.length k3] 27) = q := ⟨_, rfl⟩
 obtain ⟨g, hg⟩ : ∃ g, w.heap.size = g := ⟨_, rfl⟩
 have acc : Wr [] w w0 := by rw [← hw0]; exact (Wr.refl [] _).alloc _
 have bA : Blk w0 g 27 #[.string f.module, .slice A1 f.uses.length k1, .slice A2 f.types.length k2, .slice A3 f.items.length k3] := by rw [← hw0, ← hg]; exact Blk.new _ _ _
 have c0 := bA.cell 0
 have c1 := bA.cell 1
 have c2 := bA.cell 2
 have c3 := bA.cell 3
 simp only [qgaq, qgzq, qgsq] at c0 c1 c2 c3
 have g4 := fun W => short_r f.module W
 obtain ⟨b4, e4⟩ : ∃ q, shB f.module = q := ⟨_, rfl⟩
 obtain ⟨b5, e5⟩ : ∃ q, f.uses.all (fun u => shB u.module) = q := ⟨_, rfl⟩
 obtain ⟨b6, e6⟩ : ∃ q, f.types.all tyFit = q := ⟨_, rfl⟩
 obtain ⟨b7, e7⟩ : ∃ q, f.items.all pitFit = q := ⟨_, rfl⟩
 obtain ⟨rr, hrr⟩ : ∃ q, (!rfitB f) = q := ⟨_, rfl⟩
 have hv : rr = !(decide (f.uses.length ≤ 64) && decide (f.items.length ≤ 512) && decide (f.types.length ≤ 1024) && b4 && b5 && b6 && b7) := by
  rw [← hrr]
  unfold rfitB
  rw [e4, e5, e6, e7]
 rw [hrr]
 simp only [e4] at g4
 have G4 := qh g4
 have C1 := qh c1
 have C2 := qh c2
 have C3 := qh c3
 have E5 := qh e5
 have E6 := qh e6
 have E7 := qh e7
 have HH := qh (h.wr0 acc)
 have HW0 := qh hw0
 have HG := qh hg
 have ACC := qh acc
 clear hw0 hg acc bA g4 e4 e5 e6 e7 hrr h
 go_enter Tryz.func64, Tryz.ntmps64
 go_upto_region 1 with (fail)
 rw [HW0.out, HG.out]
 by_cases q1 : 64 < (f.uses.length : Int)
 ·obtain rfl : rr = true := by rw [hv, qdfq (show ¬ f.uses.length ≤ 64 by omega)]; simp
  clear hv
  go_wp2_with fail
  go_ret
  exact ⟨rfl, ACC.out⟩
 by_cases q2 : 512 < (f.items.length : Int)
 ·obtain rfl : rr = true := by rw [hv, qdfq (show ¬ f.items.length ≤ 512 by omega)]; simp
  clear hv
  go_wp2_with fail
  go_ret
  exact ⟨rfl, ACC.out⟩
 by_cases q3 : 1024 < (f.types.length : Int)
 ·obtain rfl : rr = true := by rw [hv, qdfq (show ¬ f.types.length ≤ 1024 by omega)]; simp
  clear hv
  go_wp2_with fail
  go_ret
  exact ⟨rfl, ACC.out⟩
 rw [qdtq (show f.uses.length ≤ 64 by omega), qdtq (show f.items.length ≤ 512 by omega), qdtq (show f.types.length ≤ 1024 by omega)] at hv
 have HV := qh hv
 clear hv
 go_wp2_with fail
 refine (G4.out _).mono ?_
 rintro e w1 ⟨rfl, rfl⟩
 cases b4 with
 | false =>
  obtain rfl : rr = true := by rw [HV.out]; simp
  clear HV
  go_wp2_with fail
  go_ret
  exact ⟨rfl, ACC.out⟩
 | true =>
 clear q1 q2 q3 c0
 go_wp2_with fail
 clear c1
 go_loopw [3] (fun i wr => ∃ k : Nat, k ≤ f.uses.length ∧ i = .int .i64 k ∧ LgAt w0 f.uses (fun u => shB u.module) k wr) (fun i _ => f.uses.length - (intOf i).toNat)
 case atStart => exact ⟨0, by omega, rfl, Wr.refl [] w0, rfl⟩
 case round =>
  obtain ⟨k, hk, rfl, rw1, hall⟩ := hrel
  have RW := qh rw1
  have HALL := qh hall
  have c1 := rw1.cellOf C1.out (by simp)
  clear hall rw1
  by_cases hlt : k < f.uses.length
  ·obtain ⟨x, hx⟩ : ∃ x, f.uses[k]? = some x := ⟨_, qgeq hlt⟩
   obtain ⟨b, off, c', e, _, hc⟩ := useF_at HH.out.uses hx
   injection e with e1 e2 e3
   subst e1 e3
   have x0 := RW.out.cellOf (hc 0 _ rfl) (by simp)
   simp only [Nat.add_zero] at x0
   have gx := short_r x.module wr
   have hlti : (k : Int) < (f.uses.length : Int) := by omega
   have hk0 : (0 : Int) ≤ (k : Int) := by omega
   have HX := qh hx
   obtain ⟨px, hpx⟩ : ∃ q, shB x.module = q := ⟨_, rfl⟩
   rw [hpx] at gx
   have GX := qh gx
   have HPX := qh hpx
   clear gx hpx hx hc
   go_wp2_with fail
   refine GX.out.mono ?_
   rintro e w1 ⟨rfl, rfl⟩
   cases px with
   | false =>
    obtain rfl : b5 = false := by rw [← E5.out]; exact allF_no HX.out HPX.out
    obtain rfl : rr = true := by rw [HV.out]; simp
    clear HV
    go_wp2_with fail
    go_ret
    exact ⟨rfl, ACC.out.trans (RW.out)⟩
   | true =>
    have hs := allF_step HALL.out HX.out HPX.out
    have HS := qh hs
    have RF := qh (RW.out)
    clear hs
    go_wp2_with fail
    go_roundw
    case rel => exact ⟨k + 1, by omega, by go_num, RF.out, HS.out⟩
    case measure => simp [intOf]; omega
  ·obtain rfl : k = f.uses.length := by omega
   obtain rfl : b5 = true := by rw [← E5.out, ← HALL.out, List.take_length]
   go_wp2_with fail
   clear c2
   go_loopw [4] (fun i wr => ∃ k : Nat, k ≤ f.types.length ∧ i = .int .i64 k ∧ LgAt w0 f.types tyFit k wr) (fun i _ => f.types.length - (intOf i).toNat)
   case atStart => exact ⟨0, by omega, rfl, RW.out, rfl⟩
   case round =>
    obtain ⟨k, hk, rfl, rw1, hall⟩ := hrel
    have RW := qh rw1
    have HALL := qh hall
    have c2 := rw1.cellOf C2.out (by simp)
    clear hall rw1
    by_cases hlt : k < f.types.length
    ·obtain ⟨x, hx⟩ : ∃ x, f.types[k]? = some x := ⟨_, qgeq hlt⟩
     obtain ⟨b, off, c', un, uf, ua, up, e, _, hc, hl⟩ := ty_at (HH.out.types.wr0 RW.out) hx
     injection e with e1 e2 e3
     subst e1 e3
     obtain ⟨⟨B1, m1, rfl, _, _⟩, ⟨B2, m2, rfl, _, _⟩, ⟨B3, m3, rfl, _, _⟩, ⟨B4, m4, rfl, _, _⟩⟩ := hl.forms
     have x0 := hc 0 _ rfl
     have x1 := hc 1 _ rfl
     have x2 := hc 2 _ rfl
     have x3 := hc 3 _ rfl
     have x4 := hc 4 _ rfl
     have x5 := hc 5 _ rfl
     have x6 := hc 6 _ rfl
     have x7 := hc 7 _ rfl
     have x8 := hc 8 _ rfl
     have x9 := hc 9 _ rfl
     have x10 := hc 10 _ rfl
     have x11 := hc 11 _ rfl
     simp only [Nat.add_zero] at x0
     have gx := fits_r x _ _ _ _ _ wr hl
     clear hl
     have hlti : (k : Int) < (f.types.length : Int) := by omega
     have hk0 : (0 : Int) ≤ (k : Int) := by omega
     have HX := qh hx
     obtain ⟨px, hpx⟩ : ∃ q, tyFit x = q := ⟨_, rfl⟩
     rw [hpx] at gx
     have GX := qh gx
     have HPX := qh hpx
     clear gx hpx hx hc
     go_wp2_with fail
     refine GX.out.mono ?_
     rintro e w1 ⟨rfl, k5⟩
     cases px with
     | false =>
      obtain rfl : b6 = false := by rw [← E6.out]; exact allF_no HX.out HPX.out
      obtain rfl : rr = true := by rw [HV.out]; simp
      clear HV
      go_wp2_with fail
      go_ret
      exact ⟨rfl, ACC.out.trans (RW.out.trans k5)⟩
     | true =>
      have hs := allF_step HALL.out HX.out HPX.out
      have HS := qh hs
      have RF := qh (RW.out.trans k5)
      clear hs
      go_wp2_with fail
      go_roundw
      case rel => exact ⟨k + 1, by omega, by go_num, RF.out, HS.out⟩
      case measure => simp [intOf]; omega
    ·obtain rfl : k = f.types.length := by omega
     obtain rfl : b6 = true := by rw [← E6.out, ← HALL.out, List.take_length]
     go_wp2_with fail
     clear c3
     go_loopw [5] (fun i wr => ∃ k : Nat, k ≤ f.items.length ∧ i = .int .i64 k ∧ LgAt w0 f.items pitFit k wr) (fun i _ => f.items.length - (intOf i).toNat)
     case atStart => exact ⟨0, by omega, rfl, RW.out, rfl⟩
     case round =>
      obtain ⟨k, hk, rfl, rw1, hall⟩ := hrel
      have RW := qh rw1
      have HALL := qh hall
      have c3 := rw1.cellOf C3.out (by simp)
      clear hall rw1
      by_cases hlt : k < f.items.length
      ·obtain ⟨x, hx⟩ : ∃ x, f.items[k]? = some x := ⟨_, qgeq hlt⟩
       obtain ⟨b, off, c', e, _, hc⟩ := pitm_at HH.out.items hx
       injection e with e1 e2 e3
       subst e1 e3
       have x0 := RW.out.cellOf (hc 0 _ rfl) (by simp)
       have x7 := RW.out.cellOf (hc 7 _ rfl) (by simp)
       simp only [Nat.add_zero] at x0
       have hlti : (k : Int) < (f.items.length : Int) := by omega
       have hk0 : (0 : Int) ≤ (k : Int) := by omega
       have HX := qh hx
       have gx := fun W => short_r x.name W
       have gy := fun W => list_r x.v.text.size W
       obtain ⟨px, hpx⟩ : ∃ q, shB x.name = q := ⟨_, rfl⟩
       obtain ⟨py, hpy⟩ : ∃ q, fwB x.v.text.size = q := ⟨_, rfl⟩
       have hpp : pitFit x = (px && py) := by unfold pitFit; rw [hpx, hpy]
       simp only [hpx] at gx
       simp only [hpy] at gy
       have GX := qh gx
       have GY := qh gy
       have HPP := qh hpp
       clear gx gy hpx hpy hpp hx hc
       go_wp2_with fail
       refine (GX.out _).mono ?_
       rintro e w1 ⟨rfl, rfl⟩
       cases px with
       | false =>
        obtain rfl : b7 = false := by rw [← E7.out]; exact allF_no HX.out (by rw [HPP.out]; rfl)
        obtain rfl : rr = true := by rw [HV.out]; simp
        clear HV
        go_wp2_with fail
        go_ret
        exact ⟨rfl, ACC.out.trans (RW.out)⟩
       | true =>
        go_wp2_with fail
        refine (GY.out _).mono ?_
        rintro e w1 ⟨rfl, rfl⟩
        cases py with
        | false =>
         obtain rfl : b7 = false := by rw [← E7.out]; exact allF_no HX.out (by rw [HPP.out]; rfl)
         obtain rfl : rr = true := by rw [HV.out]; simp
         clear HV
         go_wp2_with fail
         go_ret
         exact ⟨rfl, ACC.out.trans (RW.out)⟩
        | true =>
         have hs := allF_step HALL.out HX.out (by rw [HPP.out]; rfl)
         have HS := qh hs
         clear hs
         go_wp2_with fail
         go_roundw
         case rel => exact ⟨k + 1, by omega, by go_num, RW.out, HS.out⟩
         case measure => simp [intOf]; omega
      ·obtain rfl : k = f.items.length := by omega
       obtain rfl : b7 = true := by rw [← E7.out, ← HALL.out, List.take_length]
       obtain rfl : rr = false := by rw [HV.out]; rfl
       clear HV
       go_wp2_with fail
       go_ret
       exact ⟨rfl, ACC.out.trans RW.out⟩
end Go.Proofs.YtjanbpchedgoiaaGreat
