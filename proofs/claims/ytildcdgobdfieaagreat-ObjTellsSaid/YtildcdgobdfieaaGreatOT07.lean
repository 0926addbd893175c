/- obj's May: walked. No conditions. -/
import Derived.Test.YtildcdgobdfieaaGreatOT01
import Derived.Test.YtildcdgobdfieaaGreatOT04
import Derived.Laws.Bits64
import Derived.Test.YtildcdgobdfieaaGreatOT06
set_option linter.unusedVariables false
set_option linter.unusedSimpArgs false
set_option maxRecDepth 100000
set_option maxHeartbeats 32000000
namespace Go.Proofs.YtildcdgobdfieaaGreat
open Go.RowKit
def ObjD.val (o : ObjD) (vu vp vi vn : Value) : Value := .agg (o.cells vu vp vi vn).toArray
def SeenS (l : List ByteArray) (j : ByteArray) : Option Value := if inL j l = true then some (.int .i64 1) else none
def seenL (o : ObjD) (k : Nat) : List ByteArray := [o.module] ++ (o.uses.take k).map UseD.module
theorem usesB_drop {l : List UseD} {k : Nat} {u : UseD} (seen : List ByteArray) (h : l[k]? = some u) : usesB seen (l.drop k) = (nameB u.module && !(inL u.module seen) && usesB (seen ++ [u.module]) (l.drop (k + 1))) := by
 have hk := (List.getElem?_eq_some_iff.1 h).1
 have e : l[k] = u := (List.getElem?_eq_some_iff.1 h).2
 conv => lhs; rw [List.drop_eq_getElem_cons hk, usesB]
 rw [e]
theorem seenL_succ {o : ObjD} {k : Nat} {u : UseD} (h : o.uses[k]? = some u) : seenL o (k + 1) = seenL o k ++ [u.module] := by
 unfold seenL
 rw [List.take_add_one, h]
 simp
theorem inL_snoc (j m : ByteArray) (l : List ByteArray) : inL j (l ++ [m]) = (inL j l || decide (m = j)) := by
 unfold inL
 rw [List.any_append]
 simp
def MayAt (w : World) (g r : Nat) (cs : Array Value) (o : ObjD) (k : Nat) (wr : World) : Prop :=
 Wr [] w wr ∧ Blk wr g 30 cs ∧ w.heap.size ≤ r ∧ MapS wr r (SeenS (seenL o k)) ∧ usesB [o.module] o.uses = usesB (seenL o k) (o.uses.drop k)
theorem omay_any (o : ObjD) (vu vp vi vn : Value) (P : Nat → Prop) (w : World) (h : ObjL w P vu vp vi vn o) :
  Calls Tryz.prog 14 #[o.val vu vp vi vn] w fun e w' => e = .returned (.bool (objB o)) ∧ Wr [] w w' := by
 have hmm := @run_makeMap Tryz.prog
 have hv : objB o = (nameB o.module && decide (o.uses.length ≤ 255) && decide (o.mod.imports.length = 0) && (usesB [o.module] o.uses && omodB o.mod)) := by unfold objB; simp only [Bool.and_assoc]
 obtain ⟨Au, cu, rfl, lu1, lu2⟩ := Sl.form h.uses
 obtain ⟨Ap, cp, rfl, lp1, lp2⟩ := Sl.form h.mod.procs
 obtain ⟨Ai, ci, rfl, li1, li2⟩ := Sl.form h.mod.imports
 obtain ⟨An, cn, rfl, ln1, ln2⟩ := Sl.form h.mod.init
 unfold maxLen at lu2 lp2 li2 ln2
 have hn := fun s w => oname_any s w
 have acc := (Wr.refl [] w).alloc (.cells #[.string o.module, .bool o.main, .int .u64 o.key, .slice Au o.uses.length cu, .string o.mod.code, .slice Ap o.mod.procs.length cp, .slice Ai o.mod.imports.length ci, .int .i64 o.mod.data, .slice An o.mod.init.length cn] 30)
 have bA := Blk.new w 30 #[.string o.module, .bool o.main, .int .u64 o.key, .slice Au o.uses.length cu, .string o.mod.code, .slice Ap o.mod.procs.length cp, .slice Ai o.mod.imports.length ci, .int .i64 o.mod.data, .slice An o.mod.init.length cn]
 obtain ⟨w0, hw0⟩ : ∃ w0, w.alloc (.cells #[.string o.module, .bool o.main, .int .u64 o.key, .slice Au o.uses.length cu, .string o.mod.code, .slice Ap o.mod.procs.length cp, .slice Ai o.mod.imports.length ci, .int .i64 o.mod.data, .slice An o.mod.init.length cn] 30) = w0 := ⟨_, rfl⟩
 obtain ⟨g, hg⟩ : ∃ g, w.heap.size = g := ⟨_, rfl⟩
 rw [hw0] at acc bA
 rw [hg] at bA
 unfold ObjD.val ObjD.cells
 have Hw0 := qh hw0
 have Hg := qh hg
 have HH := qh h
 have HV := qh hv
 clear hw0 hg h hv
 go_enter Tryz.func14, Tryz.ntmps14
 go_upto_region 1 with (fail)
 rw [Hw0.out, Hg.out]
 have c0 := bA.cell 0
 have c3 := bA.cell 3
 have c6 := bA.cell 6
 simp only [qgaq, qgzq, qgsq] at c0 c3 c6
 go_wp2_with fail
 refine (hn _ _).mono ?_
 rintro e w1 ⟨rfl, rfl⟩
 cases q1 : nameB o.module with
 | false =>
  have HQ := qh q1
  clear q1
  go_wp2_with fail
  go_ret
  exact ⟨by rw [HV.out, HQ.out, Bool.false_and, Bool.false_and, Bool.false_and]; rfl, acc⟩
 | true =>
 have HQ := qh q1
 clear q1
 by_cases q2 : 255 < (o.uses.length : Int)
 ·go_wp2_with fail
  go_ret
  exact ⟨by rw [HV.out, decide_eq_false (show ¬ o.uses.length ≤ 255 by omega), Bool.and_false, Bool.false_and, Bool.false_and]; rfl, acc⟩
 by_cases q3 : 0 < (o.mod.imports.length : Int)
 ·go_wp2_with fail
  go_ret
  exact ⟨by rw [HV.out, decide_eq_false (show ¬ o.mod.imports.length = 0 by omega), Bool.and_false, Bool.false_and]; rfl, acc⟩
 have q3' : decide (0 < o.mod.imports.length) = false := decide_eq_false (by omega)
 have q2' : decide (255 < (o.uses.length : Int)) = false := decide_eq_false (by omega)
 have hv2 : objB o = (usesB [o.module] o.uses && omodB o.mod) := by rw [HV.out, HQ.out, decide_eq_true (show o.uses.length ≤ 255 by omega), decide_eq_true (show o.mod.imports.length = 0 by omega)]; rfl
 have HV2 := qh hv2
 have hz : g < w0.heap.size := bA.lt
 obtain ⟨w1, hu1, k1, hm1⟩ := mapS_upd Tryz.underlying102 Tryz.underlying9 (MapS.new w0) o.module (.int .i64 1)
 have hsz := acc.size
 have acc1 := (acc.alloc (.map #[] 0)).new k1 hsz
 have b1 := (bA.alloc (.map #[] 0)).wr k1 (by simp; omega)
 have hm1' : MapS w1 w0.heap.size (SeenS (seenL o 0)) := by
  have e : (fun j => if j = o.module then some (Value.int .i64 1) else none) = SeenS (seenL o 0) := by
   funext j
   unfold SeenS seenL inL
   by_cases hj : j = o.module
   ·subst hj; simp
   ·have : ¬ o.module = j := fun e => hj e.symm
    simp [hj, this]
  rw [← e]
  exact hm1
 have ACC1 := qh acc1
 have B1 := qh b1
 have HM1 := qh hm1'
 have d3 := b1.cell 3
 simp only [qgaq, qgzq, qgsq] at d3
 clear hv2 k1 hm1 hm1' acc1 b1
 go_wp2_with fail
 go_loopw [30] (fun s30 wr => ∃ k : Nat, k ≤ o.uses.length ∧ s30 = .int .i64 k ∧ MayAt w g w0.heap.size #[.string o.module, .bool o.main, .int .u64 o.key, .slice Au o.uses.length cu, .string o.mod.code, .slice Ap o.mod.procs.length cp, .slice Ai o.mod.imports.length ci, .int .i64 o.mod.data, .slice An o.mod.init.length cn] o k wr) (fun s30 _ => o.uses.length - (intOf s30).toNat)
 case atStart => exact ⟨0, by omega, rfl, ACC1.out, B1.out, hsz, HM1.out, rfl⟩
 case round =>
  obtain ⟨k, hk, rfl, acc2, b2, _, hmap, hord⟩ := hrel
  have HORD := qh hord
  have ACC2 := qh acc2
  have B2 := qh b2
  clear hord acc2 b2 d3 c0 c3 c6
  by_cases hlt2 : k < o.uses.length
  ·obtain ⟨u, hx⟩ : ∃ u, o.uses[k]? = some u := ⟨_, List.getElem?_eq_getElem hlt2⟩
   obtain ⟨b, off, c, e, _, _, hc⟩ := use_at (HH.out.wr0 ACC2.out).uses hx
   injection e with e1 e2 e3
   subst e1
   subst e3
   have x0 := hc 0 _ rfl
   have x1 := hc 1 _ rfl
   simp only [Nat.add_zero] at x0
   have hd := usesB_drop (seenL o k) hx
   have HD := qh hd
   have hmapA := hmap.wr ((Wr.refl [] wr).alloc (.cells #[.string u.module, .int .u64 u.key] 72)) (by simp)
   have hl := mapS_look1 Tryz.underlying102 Tryz.underlying9 hmapA u.module Tryz.zeroValue3
   obtain ⟨w3, hu, k3, hmap3⟩ := mapS_upd Tryz.underlying102 Tryz.underlying9 hmapA u.module (.int .i64 1)
   have HX := qh hx
   clear hx hd e2 hc hmap hmapA
   have hlti : (k : Int) < (o.uses.length : Int) := by omega
   have hk0 : (0 : Int) ≤ (k : Int) := by omega
   cases hin : nameB u.module with
   | false =>
    have hr : usesB [o.module] o.uses = false := by rw [HORD.out, HD.out, hin, Bool.false_and, Bool.false_and]
    have HR := qh hr
    have HIN := qh hin
    clear hin hr hu hl k3 hmap3
    go_wp2_with fail
    refine (hn _ _).mono ?_
    rintro e w4 ⟨rfl, rfl⟩
    rw [HIN.out]
    go_wp2_with fail
    go_ret
    exact ⟨by rw [HV2.out, HR.out, Bool.false_and]; rfl, ACC2.out.alloc _⟩
   | true =>
   have HIN := qh hin
   cases hct : inL u.module (seenL o k) with
   | true =>
    have hr : usesB [o.module] o.uses = false := by rw [HORD.out, HD.out, hin, hct]; rfl
    rw [show SeenS (seenL o k) u.module = some (.int .i64 1) from if_pos hct, Option.getD_some] at hl
    have HR := qh hr
    clear hin hr hu k3 hmap3 hct
    go_wp2_with fail
    refine (hn _ _).mono ?_
    rintro e w4 ⟨rfl, rfl⟩
    rw [HIN.out]
    go_wp2_with fail
    go_ret
    exact ⟨by rw [HV2.out, HR.out, Bool.false_and]; rfl, ACC2.out.alloc _⟩
   | false =>
    have hord2 : usesB [o.module] o.uses = usesB (seenL o (k + 1)) (o.uses.drop (k + 1)) := by rw [HORD.out, HD.out, hin, hct, seenL_succ HX.out]; rfl
    rw [show SeenS (seenL o k) u.module = none from if_neg (by rw [hct]; decide), Option.getD_none] at hl
    have hfn : (fun j => if j = u.module then some (Value.int .i64 1) else SeenS (seenL o k) j) = SeenS (seenL o (k + 1)) := by
     funext j
     unfold SeenS
     rw [seenL_succ HX.out, inL_snoc]
     by_cases hj : j = u.module
     ·subst hj; simp
     ·have : ¬ u.module = j := fun e => hj e.symm
      simp [hj, this]
    rw [hfn] at hmap3
    have HMAP := qh hmap3
    have HORD2 := qh hord2
    have acc3 := (ACC2.out.alloc (.cells #[.string u.module, .int .u64 u.key] 72)).new k3 hsz
    have hgr : g ∉ [w0.heap.size] := by simp; omega
    have b3 := (B2.out.alloc (.cells #[.string u.module, .int .u64 u.key] 72)).wr k3 hgr
    have ACC3 := qh acc3
    have B3 := qh b3
    clear hin k3 hmap3 hct hord2 hfn acc3 b3 hgr
    go_wp2_with fail
    refine (hn _ _).mono ?_
    rintro e w4 ⟨rfl, rfl⟩
    rw [HIN.out]
    go_wp2_with fail
    go_roundw
    case rel => exact ⟨k + 1, by omega, by go_num, ACC3.out, B3.out, hsz, HMAP.out, HORD2.out⟩
    case measure => simp [intOf]; omega
  ·have hkn : k = o.uses.length := by omega
   subst hkn
   have hr : usesB [o.module] o.uses = true := by rw [HORD.out, List.drop_length]; rfl
   have HR := qh hr
   have d4 := B2.out.cell 4
   have d5 := B2.out.cell 5
   have d6 := B2.out.cell 6
   have d7 := B2.out.cell 7
   have d8 := B2.out.cell 8
   simp only [qgaq, qgzq, qgsq] at d4 d5 d6 d7 d8
   clear hr hmap
   go_wp2_with fail
   refine (omod_any o.mod _ _ _ P _ (HH.out.wr0 ACC2.out).mod).mono ?_
   rintro e w4 ⟨rfl, k4⟩
   go_wp2_with fail
   go_ret
   exact ⟨by rw [HV2.out, HR.out, Bool.true_and]; rfl, ACC2.out.trans k4⟩
end Go.Proofs.YtildcdgobdfieaaGreat

namespace Go.Proofs.YtildcdgobdfieaaGreat
open Go.RowKit
def natsOf (s : ByteArray) : List Nat := s.data.toList.map UInt8.toNat
theorem natsOf_len (s : ByteArray) : (natsOf s).length = s.size := by
 unfold natsOf
 rw [List.length_map, Array.length_toList]
 rfl
theorem natsOf_take (s : ByteArray) (k : Nat) (hk : k < s.size) : (natsOf s).take (k + 1) = (natsOf s).take k ++ [(s[k]'hk).toNat] := by
 have hl : k < (natsOf s).length := by rw [natsOf_len]; exact hk
 rw [List.take_add_one, List.getElem?_eq_getElem hl]
 have : (natsOf s)[k] = (s[k]'hk).toNat := by
  simp only [natsOf, List.getElem_map, Array.getElem_toList]
  rfl
 rw [this]
 rfl
theorem moreN_one (h c : Nat) : moreN h [c] = stepN h c := by
 unfold moreN
 rw [List.foldl_cons, List.foldl_nil]
theorem moreN_snoc (h : Nat) (l : List Nat) (c : Nat) : moreN h (l ++ [c]) = stepN (moreN h l) c := by
 rw [moreN_append, moreN_one]
theorem step_eq (a c : Nat) (ha : a < 18446744073709551616) (hc : c < 256) : IntKind.u64.wrap (bits .xor .u64 (a : Int) (c : Int) * 1099511628211) = ((stepN a c : Nat) : Int) := by
 rw [Go.bits_xor_u64_nat a c ha (by omega)]
 rw [IntKind.wrap_u64]
 unfold stepN
 generalize a ^^^ c = x
 omega
end Go.Proofs.YtildcdgobdfieaaGreat

namespace Go.Proofs.YtildcdgobdfieaaGreat
open Go.RowKit
theorem begin_any (w : World) : Calls Tryz.prog 53 #[] w fun e w' => e = .returned (.int .u64 14695981039346656037) ∧ w = w' := by
 go_enter Tryz.func53, Tryz.ntmps53
 go_wp2_with fail
 go_ret
 exact ⟨rfl, rfl⟩
theorem more_any (h : Nat) (hh : h < 18446744073709551616) (s : ByteArray) (hs : s.size ≤ maxLen) (w : World) :
  Calls Tryz.prog 52 #[.int .u64 (h : Int), .string s] w fun e w' => e = .returned (.int .u64 ((moreN h (natsOf s) : Nat) : Int)) ∧ w = w' := by
 unfold maxLen at hs
 go_enter Tryz.func52, Tryz.ntmps52
 go_wp2_with fail
 go_loop [0, 8] (fun t i => ∃ k : Nat, k ≤ s.size ∧ i = .int .i64 k ∧ t = .int .u64 ((moreN h ((natsOf s).take k) : Nat) : Int)) (fun _ i => s.size - (intOf i).toNat)
 case atStart => exact ⟨0, by omega, rfl, rfl⟩
 case round =>
  obtain ⟨k, hk, rfl, rfl⟩ := hrel
  by_cases hlt : k < s.size
  ·have hlti : (k : Int) < (s.size : Int) := by omega
   have ha := moreN_lt hh ((natsOf s).take k)
   have hm : moreN h ((natsOf s).take (k + 1)) = stepN (moreN h ((natsOf s).take k)) (s[k]'hlt).toNat := by
    rw [natsOf_take s k hlt, moreN_snoc]
   have hst := step_eq (moreN h ((natsOf s).take k)) (s[k]'hlt).toNat ha (s[k]'hlt).toNat_lt
   rw [← hm] at hst
   generalize hma : moreN h ((natsOf s).take k) = a at *
   generalize hmb : moreN h ((natsOf s).take (k + 1)) = b at *
   have hc0 : (0 : Int) ≤ ((s[k]'hlt).toNat : Int) := by omega
   have hc1 : ((s[k]'hlt).toNat : Int) ≤ 255 := by have := (s[k]'hlt).toNat_lt; omega
   have hmb' := hmb
   clear hma hmb hm ha
   go_wp2_with fail
   exact ⟨⟨k + 1, by omega, rfl, by rw [hmb']⟩, by show s.size - ((k + 1 : Nat) : Int).toNat < s.size - (k : Int).toNat; omega⟩
  ·have hks : k = s.size := by omega
   subst hks
   have hl : (natsOf s).take s.size = natsOf s := List.take_of_length_le (by rw [natsOf_len]; omega)
   rw [hl]
   go_wp2_with fail
   go_ret
   exact ⟨rfl, rfl⟩
theorem of_any (s : ByteArray) (hs : s.size ≤ maxLen) (w : World) :
  Calls Tryz.prog 18 #[.string s] w fun e w' => e = .returned (.int .u64 ((ofN (moreN 14695981039346656037 (natsOf s)) : Nat) : Int)) ∧ w = w' := by
 have hb := fun w => begin_any w
 have hm := fun w => more_any 14695981039346656037 (by decide) s hs w
 have hlt := moreN_lt (h := 14695981039346656037) (by decide) (natsOf s)
 generalize moreN 14695981039346656037 (natsOf s) = x at *
 go_enter Tryz.func18, Tryz.ntmps18
 go_wp2_with fail
 refine (hb _).mono ?_
 rintro e w1 ⟨rfl, rfl⟩
 go_wp2_with fail
 refine (hm _).mono ?_
 rintro e w1 ⟨rfl, rfl⟩
 have hx : bits .xor .u64 (x : Int) ((x : Int) / (4294967296 : Int)) = ((ofN x : Nat) : Int) := by
  have e : (x : Int) / (4294967296 : Int) = ((x >>> 32 : Nat) : Int) := by
   rw [Nat.shiftRight_eq_div_pow]
   omega
  rw [e, Go.bits_xor_u64_nat x (x >>> 32) hlt (by rw [Nat.shiftRight_eq_div_pow]; omega)]
  rfl
 go_wp2_with fail
 go_ret
 exact ⟨rfl, rfl⟩
end Go.Proofs.YtildcdgobdfieaaGreat

namespace Go.Proofs.YtildcdgobdfieaaGreat
open Go.RowKit
theorem textL_len (s : ByteArray) : (textL s).length = 1 + s.size := by
 unfold textL
 rw [List.length_append, numL_len]
 rfl
theorem texS_size (s : ByteArray) : (texS s).size = 1 + s.size := by
 show (textL s).toArray.size = _
 rw [List.size_toArray, textL_len]
theorem bytes_len {s : ByteArray} {l : List UInt8} (h : s.data.toList = l) : s.size = l.length := by rw [← h]; rfl
structure ObjOk (o : ObjD) : Prop where
 name : o.module.size ≤ 255
 uses : o.uses.length ≤ 255
 use : ∀ u ∈ o.uses, u.module.size ≤ 255
 mod : omodB o.mod = true
theorem obj_ok {o : ObjD} (h : objB o = true) : ObjOk o := by
 unfold objB nameB at h
 simp only [Bool.and_eq_true, decide_eq_true_eq] at h
 obtain ⟨⟨⟨⟨⟨n1, n2⟩, u1⟩, i1⟩, u2⟩, m1⟩ := h
 exact ⟨n2, u1, usesB_names _ _ u2, m1⟩
theorem flat_le2 {α : Type} (f : α → List UInt8) (c : Nat) : ∀ l : List α, (∀ x ∈ l, (f x).length ≤ c) → (l.flatMap f).length ≤ l.length * c
 | [], _ => by simp
 | x :: l, h => by
  rw [List.flatMap_cons, List.length_append, List.length_cons, Nat.succ_mul]
  have := h x (by simp)
  have := flat_le2 f c l (fun y hy => h y (by simp [hy]))
  omega
theorem useL_len {u : UseD} (h : u.module.size ≤ 255) : (useL u).length ≤ 264 := by
 unfold useL
 rw [List.length_append, textL_len, numL_len]
 omega
theorem packL_len {m : ModD} (h : ModOk m) : (packL m).length ≤ 300000 := by
 rw [pack_eq, List.length_append, flat_const _ 2 (fun i => numL_len _ _)]
 have := packE_len h
 have := h.init
 omega
def headO (o : ObjD) : List UInt8 := textL o.module ++ truL o.main ++ numL o.key.toNat 8 ++ numL o.uses.length 1
theorem truL_len (b : Bool) : (truL b).length = 1 := by cases b <;> rfl
theorem headO_len {o : ObjD} (h : ObjOk o) : (headO o).length ≤ 266 := by
 unfold headO
 simp only [List.length_append, textL_len, numL_len, truL_len]
 have := h.name
 omega
theorem uses_len {o : ObjD} (h : ObjOk o) (k : Nat) : (headO o ++ (o.uses.take k).flatMap useL).length ≤ 70000 := by
 rw [List.length_append]
 have h1 := headO_len h
 have h2 := flat_le2 useL 264 (o.uses.take k) (fun u hu => useL_len (h.use u (List.mem_of_mem_take hu)))
 have h3 : (o.uses.take k).length ≤ 255 := by
  rw [List.length_take]
  have := h.uses
  omega
 omega
theorem body_eq (o : ObjD) : bodyL o = headO o ++ (o.uses.take o.uses.length).flatMap useL ++ packL o.mod := by
 rw [List.take_length]
 rfl
theorem bodyL_len {o : ObjD} (h : ObjOk o) : (bodyL o).length ≤ 400000 := by
 rw [body_eq, List.length_append]
 have := uses_len h o.uses.length
 have := packL_len (mod_ok h.mod)
 omega
def kindS : ByteArray := ⟨#[83, 69, 80, 79]⟩
theorem file_eq {s : ByteArray} {l : List UInt8} (h : s.data.toList = l) : kindS ++ numS (keyL l) 8 ++ s = ⟨(fileL objKind l).toArray⟩ := by
 apply ByteArray.ext
 rw [ByteArray.data_append, ByteArray.data_append]
 apply Array.ext'
 rw [Array.toList_append, Array.toList_append, h]
 rfl
theorem keyL_nats {s : ByteArray} {l : List UInt8} (h : s.data.toList = l) : ofN (moreN 14695981039346656037 (natsOf s)) = keyL l := by
 unfold keyL natsOf
 rw [h]
theorem numU (x : Int) (h0 : 0 ≤ x ∧ x < 18446744073709551616) (w : World) :
  Calls Tryz.prog 36 #[.int .u64 x, .int .i64 8] w fun e w' => e = .returned (.string (numS x.toNat 8)) ∧ Wr [] w w' := by
 have := number_uint64 x.toNat 8 (by omega) (by decide) (by decide) w
 rw [Int.toNat_of_nonneg h0.1] at this
 exact this
def EnAt (w0 : World) (L : List UInt8) (s4 : Value) (wr : World) : Prop := ∃ s : ByteArray, s4 = .string s ∧ s.data.toList = L ∧ Wr [] w0 wr
end Go.Proofs.YtildcdgobdfieaaGreat
