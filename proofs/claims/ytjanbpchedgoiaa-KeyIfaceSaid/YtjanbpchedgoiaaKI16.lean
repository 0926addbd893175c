/- iface's Encode, and key's Iface, of an interface without lists: walked. Conditions: its name is short. -/
import Derived.Test.YtjanbpchedgoiaaKI03
import Derived.Test.YtjanbpchedgoiaaKI15
import Derived.StillTailTactics
import Derived.Test.YtjanbpchedgoiaaKI01
namespace Go.Proofs.Ytjanbpchedgoiaa
open Go.RowKit
set_option linter.unusedVariables false
set_option linter.unusedSimpArgs false

/-- What is written of such an interface. -/
def encB (m : ByteArray) : ByteArray := bytesN (bytesN (bytesN (textE ⟨#[]⟩ m) 0 2 2) 0 2 2) 0 2 2
theorem textE_size (s t : ByteArray) : (textE s t).size = s.size + 1 + t.size := by
  unfold textE
  rw [ByteArray.size_append, bytesN_size]
theorem encB_size (m : ByteArray) : (encB m).size = m.size + 7 := by
  unfold encB
  rw [bytesN_size, bytesN_size, bytesN_size, textE_size]
  show 0 + 1 + m.size + 2 + 2 + 2 = _
  omega
set_option maxRecDepth 100000 in
set_option maxHeartbeats 4000000 in
theorem ifaceW_bare (b g : Nat) (m : ByteArray) (hm : m.size ≤ 255) (bad : Bool) (hbg : g ≠ b) (w : World) (hb : Wlk w b ⟨#[]⟩ bad) (hg : Blk w g 39 #[.string m, .slice none 0 0, .slice none 0 0, .slice none 0 0]) :
    Calls Try.prog 23 #[.pointer (some ⟨b, 0, none⟩), .pointer (some ⟨g, 0, none⟩)] w fun e w' => e = .returned (.tuple #[]) ∧ Wr [b] w w' ∧ Wlk w' b (encB m) bad := by
  have hmf : ∀ (fn : Fn) (first cap : Array Value) (w : World), (Instr.makeFunc fn first cap).run Try.prog w = .ok (.func fn first cap) w := fun _ _ _ _ => rfl
  have h1 := fun w hb ct => text_any_w b ⟨g, 0, none⟩ ⟨#[]⟩ m bad hm (by unfold maxLen; show 0 + 1 + m.size ≤ _; omega) w hb ct hbg
  have h2 := fun fv s hr w hb ct => listUse_nil b ⟨g, 1, none⟩ fv s bad hr w hb ct hbg
  have h3 := fun fv s hr w hb ct => listType_nil b ⟨g, 2, none⟩ fv s bad hr w hb ct hbg
  have h4 := fun fv s hr w hb ct => listExport_nil b ⟨g, 3, none⟩ fv s bad hr w hb ct hbg
  have H1 := Lib.hid h1
  have H2 := Lib.hid h2
  have H3 := Lib.hid h3
  have H4 := Lib.hid h4
  clear h1 h2 h3 h4
  obtain ⟨w0, hw0⟩ : ∃ w0, w.alloc (.cells #[.pointer (some ⟨b, 0, none⟩)] 84) = w0 := ⟨_, rfl⟩
  obtain ⟨h, hh⟩ : ∃ h, w.heap.size = h := ⟨_, rfl⟩
  have ch : w0.cell? ⟨h, 0, none⟩ = some (.pointer (some ⟨b, 0, none⟩)) := by
    rw [← hw0, ← hh]
    have := (Blk.new w 84 #[.pointer (some ⟨b, 0, none⟩)]).cell 0
    simp
  have hhb : h ≠ b := by have := Blk.lt hb; omega
  have acc : Wr [b] w w0 := by rw [← hw0]; exact (Wr.refl _ _).alloc _
  replace hb : Wlk w0 b ⟨#[]⟩ bad := by rw [← hw0]; exact Blk.alloc hb _
  replace hg := hg.wr acc (by simp [hbg])
  have Hw0 := Lib.hid hw0
  have Hh := Lib.hid hh
  clear hw0 hh
  go_enter Try.func23, Try.ntmps23
  go_upto_region 1 with (fail)
  rw [Hw0.out, Hh.out]
  go_still_tail 4, (by kernel_rfl)
  change wpList _ _ _ _ _ w0.drew
  replace acc := acc.drew
  replace hb := Blk.drew hb
  replace hg := hg.drew
  replace ch : w0.drew.cell? ⟨h, 0, none⟩ = some (.pointer (some ⟨b, 0, none⟩)) := ch
  generalize w0.drew = wa at *
  have g0 := hg.cell 0
  simp only [List.getElem?_toArray, List.getElem?_cons_zero] at g0
  go_wp2_with fail
  refine (H1.out _ hb g0).mono ?_
  rintro e w1 ⟨rfl, r1, b1⟩
  replace acc := acc.trans r1
  replace ch := r1.cellOf ch (by simp [hhb])
  replace hg := hg.wr r1 (by simp [hbg])
  clear g0 hb r1
  go_wp2_with fail
  go_still_tail 5, (by kernel_rfl)
  change wpList _ _ _ _ _ w1.drew
  replace acc := acc.drew
  replace b1 := Blk.drew b1
  replace hg := hg.drew
  replace ch : w1.drew.cell? ⟨h, 0, none⟩ = some (.pointer (some ⟨b, 0, none⟩)) := ch
  generalize w1.drew = wa1 at *
  have g0 := hg.cell 1
  simp only [List.getElem?_toArray, List.getElem?_cons_zero, List.getElem?_cons_succ] at g0
  go_wp2_with fail
  refine (H2.out _ (textE ⟨#[]⟩ m) (by rw [textE_size]; unfold maxLen; show 0 + 1 + m.size + 2 ≤ _; omega) _ b1 g0).mono ?_
  rintro e w2 ⟨rfl, r1, b2⟩
  replace acc := acc.trans r1
  replace ch := r1.cellOf ch (by simp [hhb])
  replace hg := hg.wr r1 (by simp [hbg])
  clear g0 r1 b1
  go_wp2_with fail
  go_still_tail 6, (by kernel_rfl)
  change wpList _ _ _ _ _ w2.drew
  replace acc := acc.drew
  replace b2 := Blk.drew b2
  replace hg := hg.drew
  replace ch : w2.drew.cell? ⟨h, 0, none⟩ = some (.pointer (some ⟨b, 0, none⟩)) := ch
  generalize w2.drew = wa2 at *
  have g0 := hg.cell 2
  simp only [List.getElem?_toArray, List.getElem?_cons_zero, List.getElem?_cons_succ] at g0
  go_wp2_with fail
  refine (H3.out _ (bytesN (textE ⟨#[]⟩ m) 0 2 2) (by rw [bytesN_size, textE_size]; unfold maxLen; show 0 + 1 + m.size + 2 + 2 ≤ _; omega) _ b2 g0).mono ?_
  rintro e w3 ⟨rfl, r1, b3⟩
  replace acc := acc.trans r1
  replace ch := r1.cellOf ch (by simp [hhb])
  replace hg := hg.wr r1 (by simp [hbg])
  clear g0 r1 b2
  go_wp2_with fail
  go_still_tail 5, (by kernel_rfl)
  change wpList _ _ _ _ _ w3.drew
  replace acc := acc.drew
  replace b3 := Blk.drew b3
  replace hg := hg.drew
  replace ch : w3.drew.cell? ⟨h, 0, none⟩ = some (.pointer (some ⟨b, 0, none⟩)) := ch
  generalize w3.drew = wa3 at *
  have g0 := hg.cell 3
  simp only [List.getElem?_toArray, List.getElem?_cons_zero, List.getElem?_cons_succ] at g0
  go_wp2_with fail
  refine (H4.out _ (bytesN (bytesN (textE ⟨#[]⟩ m) 0 2 2) 0 2 2) (by rw [bytesN_size, bytesN_size, textE_size]; unfold maxLen; show 0 + 1 + m.size + 2 + 2 + 2 ≤ _; omega) _ b3 g0).mono ?_
  rintro e w4 ⟨rfl, r1, b4⟩
  replace acc := acc.trans r1
  replace ch := r1.cellOf ch (by simp [hhb])
  replace hg := hg.wr r1 (by simp [hbg])
  clear g0 r1 b3
  go_wp2_with fail
  refine bodyPost_end (results_none Try.results23 _ _ _) rfl ?_
  exact ⟨rfl, acc, b4⟩
set_option maxRecDepth 100000 in
set_option maxHeartbeats 4000000 in
theorem encode_bare (m : ByteArray) (hm : m.size ≤ 255) (w : World) :
    Calls Try.prog 14 #[.agg #[.string m, .slice none 0 0, .slice none 0 0, .slice none 0 0]] w fun e w' => e = .returned (.tuple #[.string (encB m), .int .i64 0]) ∧ Wr [] w w' := by
  have h1 := fun w => may_bare m hm w
  have h2 := fun w => clone_bare m w
  have h3 := fun b g hbg w hb hg => ifaceW_bare b g m hm false hbg w hb hg
  have H3 := Lib.hid h3
  clear h3
  obtain ⟨w0, hw0⟩ : ∃ w0, w.alloc (.cells #[.string m, .slice none 0 0, .slice none 0 0, .slice none 0 0] 39) = w0 := ⟨_, rfl⟩
  obtain ⟨g, hg⟩ : ∃ g, w.heap.size = g := ⟨_, rfl⟩
  have acc : Wr [] w w0 := by rw [← hw0]; exact (Wr.refl _ _).alloc _
  have bA : Blk w0 g 39 #[.string m, .slice none 0 0, .slice none 0 0, .slice none 0 0] := by rw [← hw0, ← hg]; exact Blk.new _ _ _
  have Hw0 := Lib.hid hw0
  have Hg := Lib.hid hg
  clear hw0 hg
  go_enter Try.func14, Try.ntmps14
  go_upto_region 1 with (fail)
  rw [Hw0.out, Hg.out]
  have c0 := bA.cell 0
  have c1 := bA.cell 1
  have c2 := bA.cell 2
  have c3 := bA.cell 3
  simp only [List.getElem?_toArray, List.getElem?_cons_zero, List.getElem?_cons_succ] at c0 c1 c2 c3
  have cz0 := bA.frozen 0
  have cz1 := bA.frozen 1
  have cz2 := bA.frozen 2
  have cz3 := bA.frozen 3
  go_wp2_with fail
  refine (h1 _).mono ?_
  rintro e w1 ⟨rfl, k1⟩
  replace acc := acc.trans k1
  replace bA := bA.wr0 k1
  clear c0 c1 c2 c3 cz0 cz1 cz2 cz3
  have c0 := bA.cell 0
  have c1 := bA.cell 1
  have c2 := bA.cell 2
  have c3 := bA.cell 3
  simp only [List.getElem?_toArray, List.getElem?_cons_zero, List.getElem?_cons_succ] at c0 c1 c2 c3
  have cz0 := bA.frozen 0
  have cz1 := bA.frozen 1
  have cz2 := bA.frozen 2
  have cz3 := bA.frozen 3
  go_upto_region 5 with (fail)
  obtain ⟨wp, hwp⟩ : ∃ wp, w1.alloc (.cells #[.string ⟨#[]⟩, .bool false, .bool false] 86) = wp := ⟨_, rfl⟩
  obtain ⟨b, hb⟩ : ∃ b, w1.heap.size = b := ⟨_, rfl⟩
  have bW : Wlk wp b ⟨#[]⟩ false := by rw [← hwp, ← hb]; exact Blk.new _ _ _
  have hgb : g < b := by have := bA.lt; omega
  replace acc : Wr [] w wp := by rw [← hwp]; exact acc.alloc _
  replace bA : Blk wp g 39 #[.string m, .slice none 0 0, .slice none 0 0, .slice none 0 0] := by rw [← hwp]; exact bA.alloc _
  have hwb : w.heap.size ≤ b := by have := Hg.out; omega
  have Hwp := Lib.hid hwp
  have Hb := Lib.hid hb
  clear hwp hb k1
  clear c0 c1 c2 c3 cz0 cz1 cz2 cz3
  rw [Hwp.out, Hb.out]
  have c0 := bA.cell 0
  have c1 := bA.cell 1
  have c2 := bA.cell 2
  have c3 := bA.cell 3
  simp only [List.getElem?_toArray, List.getElem?_cons_zero, List.getElem?_cons_succ] at c0 c1 c2 c3
  have cz0 := bA.frozen 0
  have cz1 := bA.frozen 1
  have cz2 := bA.frozen 2
  have cz3 := bA.frozen 3
  go_wp2_with fail
  refine (h2 _).mono ?_
  rintro e w2 ⟨rfl, k2⟩
  replace acc := acc.trans k2
  replace bA := bA.wr0 k2
  replace bW : Wlk w2 b ⟨#[]⟩ false := Blk.wr0 bW k2
  clear c0 c1 c2 c3 cz0 cz1 cz2 cz3
  have c0 := bA.cell 0
  have c1 := bA.cell 1
  have c2 := bA.cell 2
  have c3 := bA.cell 3
  simp only [List.getElem?_toArray, List.getElem?_cons_zero, List.getElem?_cons_succ] at c0 c1 c2 c3
  have cz0 := bA.frozen 0
  have cz1 := bA.frozen 1
  have cz2 := bA.frozen 2
  have cz3 := bA.frozen 3
  go_upto_region 6 with (fail)
  have r4 := wr4 w2 g (.string m) (.slice none 0 0) (.slice none 0 0) (.slice none 0 0)
  replace acc := acc.new r4 (by have := Hg.out; omega)
  replace bA := blk4 w2 g 39 _ _ _ _ (.string m) (.slice none 0 0) (.slice none 0 0) (.slice none 0 0) bA
  replace bW : Wlk _ b ⟨#[]⟩ false := Blk.wr bW r4 (by simp; omega)
  clear r4 k2
  clear c0 c1 c2 c3 cz0 cz1 cz2 cz3
  generalize ((((w2.setCell ⟨g, 0, none⟩ (.string m)).setCell ⟨g, 1, none⟩ (.slice none 0 0)).setCell ⟨g, 2, none⟩ (.slice none 0 0)).setCell ⟨g, 3, none⟩ (.slice none 0 0)) = w3 at *
  go_wp2_with fail
  refine (H3.out b g (by omega) _ bW bA).mono ?_
  rintro e w4 ⟨rfl, k4, bW4⟩
  replace acc := acc.new k4 hwb
  have c0 := Blk.cell bW4 0
  simp only [List.getElem?_toArray, List.getElem?_cons_zero] at c0
  go_wp2_with fail
  go_ret2
  exact ⟨rfl, acc⟩
/-- The key of such a text. -/
def keyN (s : ByteArray) : Nat := ofN (moreN 14695981039346656037 (natsOf s))
set_option maxRecDepth 100000 in
set_option maxHeartbeats 4000000 in
/-- key's Iface, where Canon is well and leaves no lists. -/
theorem keyIface_plain (m : ByteArray) (hm : m.size ≤ 255) (x : Array Value) (w : World)
    (hc : ∀ w', Wr [] w w' → Calls Try.prog 13 #[.agg x] w' fun e w2 => e = .returned (.tuple #[bareI m (.slice none 0 0), .int .i64 0]) ∧ Wr [] w' w2) (hx : ∃ a b c d, x = #[a, b, c, d]) :
    Calls Try.prog 12 #[.agg x] w fun e w' => e = .returned (.tuple #[.int .u64 ((keyN (encB m) : Nat) : Int), .int .i64 0]) ∧ Wr [] w w' := by
  obtain ⟨xa, xb, xc, xd, rfl⟩ := hx
  have h2 := fun w => encode_bare m hm w
  have h3 := fun w => of_any (encB m) (by rw [encB_size]; unfold maxLen; omega) w
  unfold bareI at hc
  unfold keyN
  generalize ofN (moreN 14695981039346656037 (natsOf (encB m))) = K at *
  generalize encB m = s at *
  obtain ⟨w0, hw0⟩ : ∃ w0, w.alloc (.cells #[xa, xb, xc, xd] 39) = w0 := ⟨_, rfl⟩
  obtain ⟨g, hg⟩ : ∃ g, w.heap.size = g := ⟨_, rfl⟩
  have acc : Wr [] w w0 := by rw [← hw0]; exact (Wr.refl _ _).alloc _
  have bA : Blk w0 g 39 #[xa, xb, xc, xd] := by rw [← hw0, ← hg]; exact Blk.new _ _ _
  have Hw0 := Lib.hid hw0
  have Hg := Lib.hid hg
  clear hw0 hg
  go_enter Try.func12, Try.ntmps12
  go_upto_region 1 with (fail)
  rw [Hw0.out, Hg.out]
  have c0 := bA.cell 0
  have c1 := bA.cell 1
  have c2 := bA.cell 2
  have c3 := bA.cell 3
  simp only [List.getElem?_toArray, List.getElem?_cons_zero, List.getElem?_cons_succ] at c0 c1 c2 c3
  have cz0 := bA.frozen 0
  have cz1 := bA.frozen 1
  have cz2 := bA.frozen 2
  have cz3 := bA.frozen 3
  go_wp2_with fail
  refine (hc _ acc).mono ?_
  rintro e w1 ⟨rfl, k1⟩
  replace acc := acc.trans k1
  clear hc
  go_wp2_with fail
  refine (h2 _).mono ?_
  rintro e w2 ⟨rfl, k2⟩
  replace acc := (acc.alloc _).trans k2
  go_wp2_with fail
  refine (h3 _).mono ?_
  rintro e w3 ⟨rfl, rfl⟩
  go_wp2_with fail
  go_ret2
  exact ⟨rfl, acc⟩
set_option maxRecDepth 100000 in
set_option maxHeartbeats 4000000 in
/-- key's Iface, where Canon is not well. -/
theorem keyIface_bad (x : Array Value) (en : Int) (he : en ≠ 0) (w : World)
    (hc : ∀ w', Wr [] w w' → Calls Try.prog 13 #[.agg x] w' fun e w2 => e = .returned (.tuple #[bareI ⟨#[]⟩ (.slice none 0 0), .int .i64 en]) ∧ Wr [] w' w2) (hx : ∃ a b c d, x = #[a, b, c, d]) :
    Calls Try.prog 12 #[.agg x] w fun e w' => e = .returned (.tuple #[.int .u64 0, .int .i64 en]) ∧ Wr [] w w' := by
  obtain ⟨xa, xb, xc, xd, rfl⟩ := hx
  unfold bareI at hc
  have hd : decide (en = 0) = false := by simpa using he
  obtain ⟨w0, hw0⟩ : ∃ w0, w.alloc (.cells #[xa, xb, xc, xd] 39) = w0 := ⟨_, rfl⟩
  obtain ⟨g, hg⟩ : ∃ g, w.heap.size = g := ⟨_, rfl⟩
  have acc : Wr [] w w0 := by rw [← hw0]; exact (Wr.refl _ _).alloc _
  have bA : Blk w0 g 39 #[xa, xb, xc, xd] := by rw [← hw0, ← hg]; exact Blk.new _ _ _
  have Hw0 := Lib.hid hw0
  have Hg := Lib.hid hg
  clear hw0 hg
  go_enter Try.func12, Try.ntmps12
  go_upto_region 1 with (fail)
  rw [Hw0.out, Hg.out]
  have c0 := bA.cell 0
  have c1 := bA.cell 1
  have c2 := bA.cell 2
  have c3 := bA.cell 3
  simp only [List.getElem?_toArray, List.getElem?_cons_zero, List.getElem?_cons_succ] at c0 c1 c2 c3
  have cz0 := bA.frozen 0
  have cz1 := bA.frozen 1
  have cz2 := bA.frozen 2
  have cz3 := bA.frozen 3
  go_wp2_with fail
  refine (hc _ acc).mono ?_
  rintro e w1 ⟨rfl, k1⟩
  replace acc := acc.trans k1
  clear hc
  go_wp2_with fail
  go_ret2
  exact ⟨rfl, acc.alloc _⟩
/-- key's Iface, of a bare interface. -/
theorem keyIface_bare (m : ByteArray) (hm : m.size ≤ 255) (w : World) :
    Calls Try.prog 12 #[.agg #[.string m, .slice none 0 0, .slice none 0 0, .slice none 0 0]] w fun e w' => e = .returned (.tuple #[.int .u64 ((keyN (encB m) : Nat) : Int), .int .i64 0]) ∧ Wr [] w w' :=
  keyIface_plain m hm _ w (fun w' _ => canon_plain m none 0 0 (fun _ => True) (fun _ _ _ _ => trivial) (fun w _ => may_bare m hm w)
    (fun w _ => (clone_bare m w).mono fun e w' h => ⟨⟨none, 0, 0, h.1⟩, h.2⟩) w' trivial) ⟨_, _, _, _, rfl⟩
end Go.Proofs.Ytjanbpchedgoiaa

/- Writing what stands there; bytes behind a text. No conditions. -/
namespace Go.Proofs.Ytjanbpchedgoiaa
open Go.RowKit
set_option linter.unusedVariables false
set_option linter.unusedSimpArgs false

/-- To write what stands there changes nothing. -/
theorem setCell_self {w : World} {a : Addr} {v : Value} (h : w.cell? a = some v) : w.setCell a v = w := by
  unfold World.cell? at h
  have e : (w.heap.modify a.block fun
      | .cells c elem frozen => .cells (if a.spot.isSome then c else c.setIfInBounds a.off v) elem frozen
      | o => o) = w.heap := by
    apply Array.ext_getElem?
    intro i
    rw [Array.getElem?_modify]
    by_cases hi : a.block = i
    · subst hi
      rw [if_pos rfl]
      cases ho : w.heap[a.block]? with
      | none => rfl
      | some o =>
        rw [ho] at h
        cases o with
        | cells c t z =>
          simp only [Option.map_some, Option.some.injEq]
          by_cases hs : a.spot.isSome = true
          · rw [if_pos hs]
          · rw [if_neg hs]
            simp only [hs] at h
            congr 1
            apply Array.ext_getElem?
            intro j
            rw [Array.getElem?_setIfInBounds]
            by_cases hj : a.off = j
            · subst hj
              rw [if_pos rfl]
              have := (Array.getElem?_eq_some_iff.1 h).1
              rw [if_pos this]
              exact h.symm
            · rw [if_neg hj]
        | _ => rfl
    · rw [if_neg hi]
  have k : ∀ h, h = w.heap → ({ w with heap := h } : World) = w := fun h e => by subst e; rfl
  exact k _ e
/-- A cell that may be written. -/
structure Own (w : World) (p : Addr) (v : Value) : Prop where
  cell : w.cell? p = some v
  frozen : w.frozen? p = false
theorem Own.keep {w w' : World} {p : Addr} {v : Value} {ls : List Nat} (h : Own w p v) (r : Wr ls w w') (hp : p.block ∉ ls) : Own w' p v := ⟨r.cellOf h.cell hp, r.frozenOf h.cell h.frozen hp⟩
theorem Own.lt {w : World} {p : Addr} {v : Value} (h : Own w p v) : p.block < w.heap.size := World.block_lt_of_cell? w p h.cell

/-- Bytes behind a text. -/
def addL (s : ByteArray) (l : List UInt8) : ByteArray := ⟨s.data ++ l.toArray⟩
theorem addL_size (s : ByteArray) (l : List UInt8) : (addL s l).size = s.size + l.length := by
  show (s.data ++ l.toArray).size = s.data.size + l.length
  simp
theorem addL_nil (s : ByteArray) : addL s [] = s := by
  unfold addL
  simp
theorem addL_add (s : ByteArray) (l m : List UInt8) : addL (addL s l) m = addL s (l ++ m) := by
  unfold addL
  simp
theorem addL_str (s t : ByteArray) : s ++ t = addL s t.data.toList := by
  unfold addL
  rw [Array.toArray_toList]
  apply ByteArray.ext
  simp
theorem numL_at (n : Nat) : ∀ (k i : Nat), i < k → (numL n k)[i]? = some (UInt8.ofNat (n / 256 ^ (k - 1 - i) % 256))
  | 0, i, h => absurd h (by omega)
  | k + 1, 0, _ => by rw [numL, List.getElem?_cons_zero]; simp
  | k + 1, i + 1, h => by rw [numL, List.getElem?_cons_succ, numL_at n k i (by omega), show k + 1 - 1 - (i + 1) = k - 1 - i by omega]
theorem bytesN_take (s : ByteArray) (n size : Nat) : ∀ i, i ≤ size → bytesN s n size i = addL s ((numL n size).take i)
  | 0, _ => by rw [List.take_zero, addL_nil]; rfl
  | i + 1, h => by
    have hl : i < (numL n size).length := by rw [numL_len]; omega
    have e := numL_at n size i (by omega)
    rw [bytesN, bytesN_take s n size i (by omega), List.take_succ_eq_append_getElem hl, ← addL_add, addL_str]
    congr 1
    rw [List.getElem?_eq_getElem hl] at e
    injection e with e
    rw [e]
    unfold byteN
    rw [show (256 : Nat) = 2 ^ 8 from rfl, ← Nat.pow_mul]
theorem bytesN_all (s : ByteArray) (n size : Nat) : bytesN s n size size = addL s (numL n size) := by
  rw [bytesN_take s n size size (Nat.le_refl _), List.take_of_length_le (by rw [numL_len]; exact Nat.le_refl _)]
theorem textE_all (s t : ByteArray) : textE s t = addL s (textL t) := by
  unfold textE textL
  rw [bytesN_all, addL_str, addL_add]
/-- What has been written, behind what was there. -/
def EncQ (b : Nat) (s : ByteArray) (l : List UInt8) (bad : Bool) (w : World) (e : Ending) (w' : World) : Prop := e = .returned (.tuple #[]) ∧ Wr [b] w w' ∧ Wlk w' b (addL s l) bad
theorem EncQ.then {b : Nat} {s : ByteArray} {l m : List UInt8} {bad : Bool} {w w1 w2 : World} {e : Ending} (r : Wr [b] w w1) (h : EncQ b (addL s l) m bad w1 e w2) : EncQ b s (l ++ m) bad w e w2 :=
  ⟨h.1, r.trans h.2.1, by rw [← addL_add]; exact h.2.2⟩
end Go.Proofs.Ytjanbpchedgoiaa
