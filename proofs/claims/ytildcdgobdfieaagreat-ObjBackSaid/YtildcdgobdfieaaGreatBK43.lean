/- law 21's Wide, Large: walked; a text's bytes, one of them changed, made a text again. No conditions. -/
import Derived.Test.YtildcdgobdfieaaGreatBK01
import Derived.Test.YtildcdgobdfieaaGreatBK42
import Derived.Laws.IdiomStrings
set_option linter.unusedVariables false
set_option linter.unusedSimpArgs false
set_option maxRecDepth 100000
set_option maxHeartbeats 32000000
namespace Go.Proofs.YtildcdgobdfieaaGreat
open Go.RowKit
def AnyB (w : World) (e : Ending) (w' : World) : Prop := ∃ r : Bool, e = .returned (.bool r) ∧ Wr [] w w'
theorem wide21_any (m : ModD) (vp vi vn : Value) (P : Nat → Prop) (w : World) (h : ModL w P vp vi vn m) : Calls Tryz.prog 33 #[m.val vp vi vn] w (AnyB w) := by
 obtain ⟨Ap, cp, rfl, lp1, lp2⟩ := Sl.form h.procs
 obtain ⟨Ai, ci, rfl, li1, li2⟩ := Sl.form h.imports
 obtain ⟨An, cn, rfl, ln1, ln2⟩ := Sl.form h.init
 have acc := (Wr.refl [] w).alloc (.cells #[.string m.code, .slice Ap m.procs.length cp, .slice Ai m.imports.length ci, .int .i64 m.data, .slice An m.init.length cn] 28)
 have bA := Blk.new w 28 #[.string m.code, .slice Ap m.procs.length cp, .slice Ai m.imports.length ci, .int .i64 m.data, .slice An m.init.length cn]
 obtain ⟨w0, hw0⟩ : ∃ w0, w.alloc (.cells #[.string m.code, .slice Ap m.procs.length cp, .slice Ai m.imports.length ci, .int .i64 m.data, .slice An m.init.length cn] 28) = w0 := ⟨_, rfl⟩
 obtain ⟨g, hg⟩ : ∃ g, w.heap.size = g := ⟨_, rfl⟩
 rw [hw0] at acc bA
 rw [hg] at bA
 have Hw0 := qh hw0
 have Hg := qh hg
 have ACC := qh acc
 unfold ModD.val ModD.cells
 clear hw0 hg acc h
 go_enter Tryz.func33, Tryz.ntmps33
 go_upto_region 1 with (fail)
 rw [Hw0.out, Hg.out]
 have c0 := (bA).cell 0
 have c1 := (bA).cell 1
 have c2 := (bA).cell 2
 have c3 := (bA).cell 3
 have c4 := (bA).cell 4
 simp only [qgaq, qgzq, qgsq] at c0 c1 c2 c3 c4
 clear bA
 by_cases t4 : (131072 : Int) < (m.code.size : Int)
 ·go_wp2_with fail
  go_ret
  exact ⟨_, rfl, ACC.out⟩
 ·by_cases t3 : (2048 : Int) < (m.procs.length : Int)
  ·go_wp2_with fail
   go_ret
   exact ⟨_, rfl, ACC.out⟩
  ·by_cases t2 : (512 : Int) < (m.imports.length : Int)
   ·go_wp2_with fail
    go_ret
    exact ⟨_, rfl, ACC.out⟩
   ·by_cases t1 : (131072 : Int) < (m.init.length : Int)
    ·go_wp2_with fail
     go_ret
     exact ⟨_, rfl, ACC.out⟩
    ·go_wp2_with fail
     go_ret
     exact ⟨_, rfl, ACC.out⟩
theorem large21_any (o : ObjD) (vu vp vi vn : Value) (P : Nat → Prop) (w : World) (h : ObjL w P vu vp vi vn o) : Calls Tryz.prog 8 #[o.val vu vp vi vn] w (AnyB w) := by
 have hwi := fun W (hW : Wr [] w W) => wide21_any o.mod _ _ _ _ W (h.mod.wr0 hW)
 obtain ⟨Au, cu, rfl, lu1, lu2⟩ := Sl.form h.uses
 obtain ⟨Ap, cp, rfl, lp1, lp2⟩ := Sl.form h.mod.procs
 obtain ⟨Ai, ci, rfl, li1, li2⟩ := Sl.form h.mod.imports
 obtain ⟨An, cn, rfl, ln1, ln2⟩ := Sl.form h.mod.init
 unfold maxLen at lu2
 have acc := (Wr.refl [] w).alloc (.cells #[.string o.module, .bool o.main, .int .u64 o.key, .slice Au o.uses.length cu, .string o.mod.code, .slice Ap o.mod.procs.length cp, .slice Ai o.mod.imports.length ci, .int .i64 o.mod.data, .slice An o.mod.init.length cn] 30)
 have bA := Blk.new w 30 #[.string o.module, .bool o.main, .int .u64 o.key, .slice Au o.uses.length cu, .string o.mod.code, .slice Ap o.mod.procs.length cp, .slice Ai o.mod.imports.length ci, .int .i64 o.mod.data, .slice An o.mod.init.length cn]
 obtain ⟨w0, hw0⟩ : ∃ w0, w.alloc (.cells #[.string o.module, .bool o.main, .int .u64 o.key, .slice Au o.uses.length cu, .string o.mod.code, .slice Ap o.mod.procs.length cp, .slice Ai o.mod.imports.length ci, .int .i64 o.mod.data, .slice An o.mod.init.length cn] 30) = w0 := ⟨_, rfl⟩
 obtain ⟨g, hg⟩ : ∃ g, w.heap.size = g := ⟨_, rfl⟩
 rw [hw0] at acc bA
 rw [hg] at bA
 have Hw0 := qh hw0
 have Hg := qh hg
 have ACC := qh acc
 unfold ObjD.val ObjD.cells
 unfold ModD.val ModD.cells at hwi
 have HWI := qh (hwi _ acc)
 have HH := qh (h.wr0 acc)
 have BA := qh bA
 clear hw0 hg acc h hwi
 go_enter Tryz.func8, Tryz.ntmps8
 go_upto_region 1 with (fail)
 rw [Hw0.out, Hg.out]
 have c0 := (bA).cell 0
 have c1 := (bA).cell 1
 have c2 := (bA).cell 2
 have c3 := (bA).cell 3
 have c4 := (bA).cell 4
 have c5 := (bA).cell 5
 have c6 := (bA).cell 6
 have c7 := (bA).cell 7
 have c8 := (bA).cell 8
 simp only [qgaq, qgzq, qgsq] at c0 c1 c2 c3 c4 c5 c6 c7 c8
 clear bA
 by_cases t1 : (300 : Int) < (o.module.size : Int)
 ·go_wp2_with fail
  go_ret
  exact ⟨_, rfl, ACC.out⟩
 ·by_cases t2 : (300 : Int) < (o.uses.length : Int)
  ·go_wp2_with fail
   go_ret
   exact ⟨_, rfl, ACC.out⟩
  ·go_wp2_with fail
   refine HWI.out.mono ?_
   rintro e w1 ⟨r, rfl, k1⟩
   have K1 := qh k1
   clear k1
   cases r with
   | true =>
    go_wp2_with fail
    go_ret
    exact ⟨_, rfl, ACC.out.trans K1.out⟩
   | false =>
    clear c0 c1 c2 c3 c4 c5 c6 c7 c8
    have c3 := (BA.out.wr0 K1.out).cell 3
    simp only [qgaq, qgzq, qgsq] at c3
    go_wp2_with fail
    go_loopw [3] (fun sl wr => ∃ k : Nat, k ≤ o.uses.length ∧ sl = .int .i64 k ∧ wr = w1) (fun sl _ => o.uses.length - (intOf sl).toNat)
    case atStart => exact ⟨0, by omega, rfl, rfl⟩
    case round =>
     obtain ⟨k, hk, rfl, rfl⟩ := hrel
     by_cases hlt : k < o.uses.length
     ·obtain ⟨u, hu⟩ : ∃ u, o.uses[k]? = some u := ⟨_, List.getElem?_eq_getElem hlt⟩
      obtain ⟨bu, off, c, e, _, _, hcs⟩ := use_at (Sl.wr0 HH.out.uses K1.out) hu
      injection e with e1 e2 e3
      subst e1
      subst e3
      have x0 := hcs 0 _ rfl
      simp only [Nat.add_zero] at x0
      have hlti : (k : Int) < (o.uses.length : Int) := by omega
      have hk0 : (0 : Int) ≤ (k : Int) := by omega
      clear hcs e2 hu
      by_cases t3 : (300 : Int) < (u.module.size : Int)
      ·go_wp2_with fail
       go_ret
       exact ⟨_, rfl, ACC.out.trans K1.out⟩
      ·go_wp2_with fail
       go_roundw
       case rel => exact ⟨k + 1, by omega, by go_num, trivial⟩
       case measure => simp [intOf]; omega
     ·have hkn : k = o.uses.length := by omega
      subst hkn
      go_wp2_with fail
      go_ret
      exact ⟨_, rfl, ACC.out.trans K1.out⟩
theorem xor8O (a b : Nat) (ha : a < 256) (hb : b < 256) : bits .xor .u8 (a : Int) (b : Int) = ((a ^^^ b : Nat) : Int) := by
 show IntKind.u8.wrap ((BitVec.ofInt 8 (a : Int) ^^^ BitVec.ofInt 8 (b : Int)).toNat : Int) = _
 have m1 : a % 2 ^ 8 = a := Nat.mod_eq_of_lt (by omega)
 have m2 : b % 2 ^ 8 = b := Nat.mod_eq_of_lt (by omega)
 simp only [BitVec.ofInt_natCast, BitVec.toNat_xor, BitVec.toNat_ofNat, m1, m2]
 have w8 : ∀ q : Nat, q < 2 ^ 8 → IntKind.u8.wrap (q : Int) = q := fun q h => by rw [IntKind.wrap_u8]; omega
 exact w8 _ (Nat.xor_lt_two_pow (n := 8) (by omega) (by omega))
theorem xorO_zero (a b : Nat) : a ^^^ b = a ↔ b = 0 := by
 constructor
 ·intro h
  have := congrArg (fun x => a ^^^ x) h
  simpa [← Nat.xor_assoc] using this
 ·intro h
  rw [h, Nat.xor_zero]
structure MadeO (w : World) (l : List UInt8) (g : Nat) (w4 : World) : Prop where
 wr : Wr [] w w4
 cell : ∀ j (hj : j < l.length), w4.cell? ⟨g, j, none⟩ = some (.int .u8 ((l[j]'hj).toNat : Int))
 free : ∀ j, j < l.length → w4.frozen? ⟨g, j, none⟩ = false
theorem made_of (w : World) (l : List UInt8) : ∃ w4 cap, (convert 9 42 (.string (ansS l))).run Tryz.prog w = .ok (.slice (some ⟨w.heap.size, 0, none⟩) l.length cap) w4 ∧ MadeO w l w.heap.size w4 := by
 have hconv := run_bytes_of_string (P := Tryz.prog) w 9 42 5 (ansS l) Tryz.underlying9 Tryz.underlying42 Tryz.underlying5
 rw [ansS_size] at hconv
 refine ⟨_, _, hconv, ?_, ?_, ?_⟩
 ·exact ((Wr.refl [] w).drew).alloc _
 ·intro j hj
  exact (World.cell?_alloc_mark w.drew _ _ _ j).trans (bytesRow_at (ansS l) _ j (by show j < (ansS l).size; rw [ansS_size]; exact hj))
 ·intro j hj
  refine (World.frozen?_alloc_mark w.drew _ _ _ _ j).trans ?_
  have hs : (ansS l).data.size = l.length := ansS_size l
  have : ¬ (bytesRow (ansS l) (grownCap w l.length 0 5)).size ≤ j := by
   have h3 : (ansS l).data.size ≤ (bytesRow (ansS l) (grownCap w l.length 0 5)).size := by simp [bytesRow]
   omega
  simp [this]
theorem made_back {w w4 : World} {l : List UInt8} {g : Nat} (h : MadeO w l g w4) (cap k x : Nat) (hk : k < l.length) (hx : x < 256) :
  (convert 42 9 (.slice (some ⟨g, 0, none⟩) l.length cap)).run Tryz.prog (w4.setCell ⟨g, k, none⟩ (.int .u8 (x : Int))) = .ok (.string (ansS (l.set k (UInt8.ofNat x)))) (w4.setCell ⟨g, k, none⟩ (.int .u8 (x : Int))) := by
 have := run_convert_bytes_back (P := Tryz.prog) (w4.setCell ⟨g, k, none⟩ (.int .u8 (x : Int))) 42 9 5 ⟨g, 0, none⟩ cap (l.set k (UInt8.ofNat x)) Tryz.underlying42 Tryz.underlying5 Tryz.underlying9 (fun j hj => by
  rw [show (⟨g, 0, none⟩ : Addr).add j = ⟨g, j, none⟩ by simp [Addr.add]; exact fun e => e.symm]
  have hjs : j < l.length := by rw [List.length_set] at hj; exact hj
  by_cases hjk : k = j
  ·subst hjk
   rw [World.cell?_setCell_same' _ _ _ (by rw [h.cell k hk]; rfl)]
   simp only [List.getElem_set_self]
   rw [UInt8.toNat_ofNat', Nat.mod_eq_of_lt hx]
  ·rw [World.cell?_setCell_other _ _ _ _ (by simp only [ne_eq, Addr.mk.injEq, true_and, and_true]; exact hjk), h.cell j hjs]
   simp only [List.getElem_set_ne hjk])
 rw [List.length_set] at this
 exact this
end Go.Proofs.YtildcdgobdfieaaGreat
