/- Objects as bytes, and back: the plain laws. No conditions. -/
import Derived.Test.YtildcdgobdfieaaGreatRD01
import Derived.Laws.IdiomStrings
import Derived.Laws.Bits64b
import Derived.Deep.Cut
import Derived.Deep.DeepCutAuto
set_option linter.unusedVariables false
set_option linter.unusedSimpArgs false
set_option maxRecDepth 100000
set_option maxHeartbeats 32000000
namespace Go.Proofs.YtildcdgobdfieaaGreat
def numL (n : Nat) : Nat → List UInt8
 | 0 => []
 | k + 1 => UInt8.ofNat (n / 256 ^ k % 256) :: numL n k
theorem numL_len (n : Nat) : ∀ k, (numL n k).length = k
 | 0 => rfl
 | k + 1 => by rw [numL, List.length_cons, numL_len n k]
def truL (b : Bool) : List UInt8 := if b then [1] else [0]
def textL (s : ByteArray) : List UInt8 := numL s.size 1 ++ s.data.toList
def prcL (p : PrcD) : List UInt8 := numL p.at_.toNat 2 ++ numL p.params.toNat 2 ++ numL p.locals.toNat 2 ++ numL p.depth.toNat 2 ++ numL p.level.toNat 1 ++ truL p.func
def packL (m : ModD) : List UInt8 :=
 numL m.code.size 2 ++ m.code.data.toList ++ numL m.procs.length 2 ++ m.procs.flatMap prcL ++ numL m.imports.length 1 ++ m.imports.flatMap (fun i => numL i.toNat 1) ++ numL m.data.toNat 2 ++ numL m.init.length 2 ++ m.init.flatMap (fun i => numL i.toNat 2)
def useL (u : UseD) : List UInt8 := textL u.module ++ numL u.key.toNat 8
def bodyL (o : ObjD) : List UInt8 := textL o.module ++ truL o.main ++ numL o.key.toNat 8 ++ numL o.uses.length 1 ++ o.uses.flatMap useL ++ packL o.mod
def keyL (l : List UInt8) : Nat := ofN (moreN 14695981039346656037 (l.map UInt8.toNat))
def fileL (kind : List UInt8) (l : List UInt8) : List UInt8 := kind ++ numL (keyL l) 8 ++ l
structure Rd where
 s : List UInt8
 bad : Bool
def valN (l : List UInt8) : Nat := l.foldl (fun n c => 256 * n + c.toNat) 0
def Rd.raw (r : Rd) (n : Nat) : List UInt8 × Rd := if r.bad = true ∨ r.s.length < n then ([], ⟨r.s, true⟩) else (r.s.take n, ⟨r.s.drop n, false⟩)
def Rd.num (r : Rd) (size : Nat) : Nat × Rd := (valN (r.raw size).1, (r.raw size).2)
def Rd.truth (r : Rd) : Bool × Rd := (decide ((r.num 1).1 = 1), ⟨(r.num 1).2.s, (r.num 1).2.bad || decide (1 < (r.num 1).1)⟩)
def Rd.text (r : Rd) : ByteArray × Rd := (⟨(((r.num 1).2.raw (r.num 1).1).1).toArray⟩, ((r.num 1).2.raw (r.num 1).1).2)
def Rd.list {α : Type} (one : Rd → α × Rd) : Nat → Rd → List α × Rd
 | 0, r => ([], r)
 | n + 1, r => if r.bad = true then ([], r) else ((one r).1 :: (Rd.list one n (one r).2).1, (Rd.list one n (one r).2).2)
def Rd.two (r : Rd) : Int × Rd := (((r.num 2).1 : Int), (r.num 2).2)
def Rd.one (r : Rd) : Int × Rd := (((r.num 1).1 : Int), (r.num 1).2)
def Rd.proc (r : Rd) : PrcD × Rd :=
 let a := r.two
 let b := a.2.two
 let c := b.2.two
 let d := c.2.two
 let e := d.2.one
 let f := e.2.truth
 (⟨a.1, b.1, c.1, d.1, e.1, f.1⟩, f.2)
def Rd.use (r : Rd) : UseD × Rd :=
 let a := r.text
 let b := a.2.num 8
 (⟨a.1, (b.1 : Int)⟩, b.2)
def Rd.module (r : Rd) : ModD × Rd :=
 let a := r.num 2
 let b := a.2.raw a.1
 let c := b.2.num 2
 let d := c.2.list Rd.proc c.1
 let e := d.2.num 1
 let f := e.2.list Rd.one e.1
 let g := f.2.two
 let h := g.2.num 2
 let i := h.2.list Rd.two h.1
 let m : ModD := ⟨⟨b.1.toArray⟩, d.1, f.1, g.1, i.1⟩
 (m, ⟨i.2.s, i.2.bad || !omodB m⟩)
def zeroMod : ModD := ⟨⟨#[]⟩, [], [], 0, []⟩
def unpackP (l : List UInt8) : ModD × List UInt8 × Int := if (Rd.module ⟨l, false⟩).2.bad then (zeroMod, [], 7) else ((Rd.module ⟨l, false⟩).1, (Rd.module ⟨l, false⟩).2.s, 0)
def Rd.obj (r : Rd) : ObjD × Rd :=
 let a := r.text
 let b := a.2.truth
 let c := b.2.num 8
 let d := c.2.num 1
 let e := d.2.list Rd.use d.1
 let f := e.2.module
 (⟨a.1, b.1, (c.1 : Int), e.1, f.1⟩, f.2)
def noObj : ObjD := ⟨⟨#[]⟩, false, 0, [], zeroMod⟩
def headP (kind l : List UInt8) : Option (Nat × List UInt8) := if l.length < 12 ∨ l.take 4 ≠ kind then none else some (valN ((l.drop 4).take 8), l.drop 12)
def objKind : List UInt8 := [83, 69, 80, 79]
def decodeP (l : List UInt8) : ObjD × Int :=
 match headP objKind l with
 | none => (noObj, 7)
 | some (k, s) => if k ≠ keyL s then (noObj, 210) else if (Rd.obj ⟨s, false⟩).2.bad || !((Rd.obj ⟨s, false⟩).2.s).isEmpty || !objB (Rd.obj ⟨s, false⟩).1 then (noObj, 7) else ((Rd.obj ⟨s, false⟩).1, 0)
def encodeP (o : ObjD) : List UInt8 × Int := if objB o then (fileL objKind (bodyL o), 0) else ([], 2)
theorem raw_app (a b : List UInt8) : (Rd.mk (a ++ b) false).raw a.length = (a, ⟨b, false⟩) := by
 unfold Rd.raw
 rw [if_neg (by simp)]
 simp
theorem valN_snoc (l : List UInt8) (c : UInt8) : valN (l ++ [c]) = 256 * valN l + c.toNat := by simp [valN, List.foldl_append]
theorem numL_snoc (n : Nat) : ∀ k, numL n (k + 1) = numL (n / 256) k ++ [UInt8.ofNat (n % 256)]
 | 0 => by simp [numL]
 | k + 1 => by
  rw [numL, numL_snoc n k]
  conv => rhs; rw [numL]
  rw [List.cons_append]
  congr 2
  rw [Nat.div_div_eq_div_mul, Nat.pow_succ, Nat.mul_comm]
theorem toNat_ofNat (n : Nat) (h : n < 256) : (UInt8.ofNat n).toNat = n := by
 rw [UInt8.toNat_ofNat']
 exact Nat.mod_eq_of_lt h
theorem valN_numL : ∀ (k n : Nat), n < 256 ^ k → valN (numL n k) = n
 | 0, n, h => by simp at h; simp [numL, valN, h]
 | k + 1, n, h => by
  rw [numL_snoc, valN_snoc, valN_numL k (n / 256) (by rw [Nat.div_lt_iff_lt_mul (by decide), ← Nat.pow_succ]; exact h), toNat_ofNat _ (Nat.mod_lt _ (by decide))]
  omega
theorem num_app (n k : Nat) (h : n < 256 ^ k) (rest : List UInt8) : (Rd.mk (numL n k ++ rest) false).num k = (n, ⟨rest, false⟩) := by
 unfold Rd.num
 have := raw_app (numL n k) rest
 rw [numL_len] at this
 rw [this]
 simp only [valN_numL k n h]
theorem truth_app (b : Bool) (rest : List UInt8) : (Rd.mk (truL b ++ rest) false).truth = (b, ⟨rest, false⟩) := by
 cases b
 ·have := num_app 0 1 (by decide) rest
  have e : truL false = numL 0 1 := rfl
  unfold Rd.truth
  rw [e, this]
  rfl
 ·have := num_app 1 1 (by decide) rest
  have e : truL true = numL 1 1 := rfl
  unfold Rd.truth
  rw [e, this]
  rfl
theorem text_app (s : ByteArray) (h : s.size ≤ 255) (rest : List UInt8) : (Rd.mk (textL s ++ rest) false).text = (s, ⟨rest, false⟩) := by
 unfold Rd.text textL
 rw [qapq, num_app s.size 1 (by omega)]
 have hl : s.data.toList.length = s.size := rfl
 have := raw_app s.data.toList rest
 rw [hl] at this
 rw [this]
theorem list_app {α : Type} {one : Rd → α × Rd} {enc : α → List UInt8} : ∀ (l : List α) (rest : List UInt8), (∀ x ∈ l, ∀ r, one ⟨enc x ++ r, false⟩ = (x, ⟨r, false⟩)) → Rd.list one l.length ⟨l.flatMap enc ++ rest, false⟩ = (l, ⟨rest, false⟩)
 | [], rest, _ => rfl
 | x :: l, rest, h => by
  rw [List.length_cons, Rd.list, if_neg (by simp), qfcq, qapq, h x (by simp)]
  simp only
  rw [list_app l rest (fun y hy => h y (by simp [hy]))]
theorem two_app (n : Int) (h : 0 ≤ n) (h2 : n ≤ 65535) (rest : List UInt8) : (Rd.mk (numL n.toNat 2 ++ rest) false).two = (n, ⟨rest, false⟩) := by
 unfold Rd.two
 rw [num_app n.toNat 2 (by omega)]
 simp only [Int.toNat_of_nonneg h]
theorem one_app (n : Int) (h : 0 ≤ n) (h2 : n ≤ 255) (rest : List UInt8) : (Rd.mk (numL n.toNat 1 ++ rest) false).one = (n, ⟨rest, false⟩) := by
 unfold Rd.one
 rw [num_app n.toNat 1 (by omega)]
 simp only [Int.toNat_of_nonneg h]
theorem inB_iff {n a b : Int} : inB n a b = true ↔ a ≤ n ∧ n ≤ b := by simp [inB]
theorem proc_app (p : PrcD) (m : ModD) (hm : m.code.size ≤ 65535) (h : prcB p m = true) (rest : List UInt8) : (Rd.mk (prcL p ++ rest) false).proc = (p, ⟨rest, false⟩) := by
 unfold prcB at h
 simp only [Bool.and_eq_true, inB_iff] at h
 obtain ⟨⟨⟨⟨h1, h2⟩, h3⟩, h4⟩, h5⟩ := h
 unfold Rd.proc prcL
 simp only [qapq]
 rw [two_app p.at_ h4.1 (by omega)]
 simp only
 rw [two_app p.params h1.1 h1.2]
 simp only
 rw [two_app p.locals h2.1 h2.2]
 simp only
 rw [two_app p.depth h3.1 h3.2]
 simp only
 rw [one_app p.level (by omega) (by omega)]
 simp only
 rw [truth_app]
def wordsB (m : ModD) : Prop := ∀ i ∈ m.init, 0 ≤ i ∧ i ≤ 65535
theorem module_app (m : ModD) (hw : wordsB m) (h : omodB m = true) (rest : List UInt8) : (Rd.mk (packL m ++ rest) false).module = (m, ⟨rest, false⟩) := by
 have h0 := h
 unfold omodB modB at h
 simp only [Bool.and_eq_true, decide_eq_true_eq, List.all_eq_true, inB_iff] at h
 obtain ⟨⟨a1, a2⟩, ⟨⟨⟨⟨⟨⟨⟨b1, b2⟩, b3⟩, b4⟩, b5⟩, b6⟩, b7⟩, b8⟩⟩ := h
 unfold Rd.module packL
 simp only [qapq]
 rw [num_app m.code.size 2 (by omega)]
 simp only
 have hl : m.code.data.toList.length = m.code.size := rfl
 have hr := raw_app m.code.data.toList
 simp only [hl] at hr
 rw [hr]
 simp only
 rw [num_app m.procs.length 2 (by omega)]
 simp only
 rw [list_app m.procs _ (fun p hp r => proc_app p _ b1 (b6 p hp) r)]
 simp only
 rw [num_app m.imports.length 1 (by omega)]
 simp only
 rw [list_app (enc := fun i : Int => numL i.toNat 1) m.imports _ (fun i hi r => one_app i (a2 i hi).1 (by have := (a2 i hi).2; omega) r)]
 simp only
 rw [two_app m.data (by omega) b5.2]
 simp only
 rw [num_app m.init.length 2 (by have := b5.1; have := b5.2; omega)]
 simp only
 rw [list_app (enc := fun i : Int => numL i.toNat 2) m.init _ (fun i hi r => two_app i (hw i hi).1 (hw i hi).2 r)]
 simp only [h0]
 rfl
theorem use_app (u : UseD) (hm : u.module.size ≤ 255) (hk : 0 ≤ u.key ∧ u.key < 18446744073709551616) (rest : List UInt8) : (Rd.mk (useL u ++ rest) false).use = (u, ⟨rest, false⟩) := by
 unfold Rd.use useL
 simp only [qapq]
 rw [text_app u.module hm]
 simp only
 rw [num_app u.key.toNat 8 (by omega)]
 simp only [Int.toNat_of_nonneg hk.1]
structure objW (o : ObjD) : Prop where
 key : 0 ≤ o.key ∧ o.key < 18446744073709551616
 keys : ∀ u ∈ o.uses, 0 ≤ u.key ∧ u.key < 18446744073709551616
 words : wordsB o.mod
theorem usesB_names : ∀ (l : List UseD) (seen : List ByteArray), usesB seen l = true → ∀ u ∈ l, u.module.size ≤ 255
 | [], _, _, u, hu => by cases hu
 | x :: l, seen, h, u, hu => by
  unfold usesB at h
  simp only [Bool.and_eq_true] at h
  rcases List.mem_cons.1 hu with e | e
  ·rw [e]
   have := h.1.1
   unfold nameB at this
   simp at this
   exact this.2
  ·exact usesB_names l _ h.2 u e
theorem obj_app (o : ObjD) (hw : objW o) (h : objB o = true) : (Rd.mk (bodyL o) false).obj = (o, ⟨[], false⟩) := by
 unfold objB nameB at h
 simp only [Bool.and_eq_true, decide_eq_true_eq] at h
 obtain ⟨⟨⟨⟨⟨n1, n2⟩, u1⟩, i1⟩, u2⟩, m1⟩ := h
 unfold Rd.obj bodyL
 simp only [qapq]
 rw [text_app o.module n2]
 simp only
 rw [truth_app]
 simp only
 rw [num_app o.key.toNat 8 (by have := hw.key; omega)]
 simp only
 rw [num_app o.uses.length 1 (by omega)]
 simp only
 rw [list_app o.uses _ (fun u hu r => use_app u (usesB_names _ _ u2 u hu) (hw.keys u hu) r)]
 simp only
 have := module_app o.mod hw.words m1 []
 rw [List.append_nil] at this
 rw [this]
 simp only [Int.toNat_of_nonneg hw.key.1]
theorem keyL_lt (l : List UInt8) : keyL l < 256 ^ 8 := by
 unfold keyL ofN
 have h1 := moreN_lt (h := 14695981039346656037) (by decide) (l.map UInt8.toNat)
 refine Nat.xor_lt_two_pow (n := 64) h1 ?_
 rw [Nat.shiftRight_eq_div_pow]
 omega
theorem head_file (kind l : List UInt8) (hk : kind.length = 4) : headP kind (fileL kind l) = some (keyL l, l) := by
 unfold headP fileL
 have h1 : (kind ++ numL (keyL l) 8 ++ l).length = 12 + l.length := by rw [qlaq, qlaq, hk, numL_len]
 have h2 : (kind ++ numL (keyL l) 8 ++ l).take 4 = kind := by rw [qapq, List.take_append, hk, Nat.sub_self, List.take_zero, List.append_nil, ← hk, List.take_length]
 have h3 : (kind ++ numL (keyL l) 8 ++ l).drop 4 = numL (keyL l) 8 ++ l := by rw [qapq, List.drop_append, hk, Nat.sub_self, List.drop_zero, ← hk, List.drop_length, List.nil_append]
 have h4 : (numL (keyL l) 8 ++ l).take 8 = numL (keyL l) 8 := by
  have := numL_len (keyL l) 8
  rw [List.take_append, this, Nat.sub_self, List.take_zero, List.append_nil, List.take_of_length_le (by omega)]
 have h5 : (kind ++ numL (keyL l) 8 ++ l).drop 12 = l := by
  rw [List.drop_append, qlaq, hk, numL_len, List.drop_eq_nil_of_le (by rw [qlaq, hk, numL_len]; omega)]
  simp
 rw [if_neg (by rw [h1, h2]; simp), h3, h4, h5, valN_numL 8 _ (keyL_lt l)]
theorem decode_encode (o : ObjD) (hw : objW o) (h : objB o = true) : decodeP (fileL objKind (bodyL o)) = (o, 0) := by
 unfold decodeP
 rw [head_file _ _ rfl]
 simp only
 rw [obj_app o hw h, h]
 simp
end Go.Proofs.YtildcdgobdfieaaGreat
namespace Go.Proofs.YtildcdgobdfieaaGreat
open Go.RowKit
def byV (b : UInt8) : Value := .int .u8 (b.toNat : Int)
def numS (n k : Nat) : ByteArray := ⟨(numL n k).toArray⟩
theorem numS_size (n k : Nat) : (numS n k).size = k := by
 show (numL n k).toArray.size = k
 rw [List.size_toArray, numL_len]
def predI : Nat → Int
 | 0 => -1
 | m + 1 => m
theorem predI_down (m : Nat) : (m : Int) - 1 = predI m := by
 cases m with
 | zero => rfl
 | succ m => show ((m + 1 : Nat) : Int) - 1 = (m : Int); omega
theorem numL_get (n : Nat) : ∀ size m, m < size → (numL n size)[size - (m + 1)]? = some (UInt8.ofNat (n / 256 ^ m % 256))
 | 0, m, h => absurd h (by omega)
 | k + 1, m, h => by
  by_cases hm : m = k
  ·subst hm
   rw [Nat.sub_self]
   rfl
  ·rw [show k + 1 - (m + 1) = (k - (m + 1)) + 1 by omega, numL, qgsq]
   exact numL_get n k m (by omega)
theorem numL_next (n size m : Nat) (h : m < size) : (numL n size).take (size - m) = (numL n size).take (size - (m + 1)) ++ [UInt8.ofNat (n / 256 ^ m % 256)] := by
 rw [show size - m = (size - (m + 1)) + 1 by omega, List.take_add_one, numL_get n size m h]
 rfl
theorem push_obj {w : World} {base k size bytes : Nat} {t T : TypeId} {i0 : TypeInfo} {z v : Value} {xs ys : List Value} (hu : Tryz.prog.underlying t = some (.slice T)) (hi : Tryz.prog.info? T = some i0) (hz0 : i0.zero = some z) (hz1 : i0.size = size) (hz2 : i0.bytes = bytes) (hzs : z.cells.size = size) (hsz : 0 < size)
  (h : w.ownsRow base T size v k xs) {B : Nat} (hB : Blk w B T ys.toArray) (hys : ys.length = size) (h1 : ∀ u ∈ ys, u.oneCell' = true) (hk : k ≤ 65535) (hby : bytes ≤ 1000) (hbase : base ≤ w.heap.size) :
  ∃ A c w', (Builtin.append_ #[t, t] t #[v, .slice (some ⟨B, 0, none⟩) 1 1]).run Tryz.prog w = .ok (.slice A (k + 1) c) w' ∧ w'.ownsRow base T size (.slice A (k + 1) c) (k + 1) (xs ++ ys) ∧ Wr (ownL v) w w' ∧ ((Value.slice A (k + 1) c).ownBlock = v.ownBlock ∨ (Value.slice A (k + 1) c).ownBlock = some w.heap.size) := by
 have hbb : (k + 1) * bytes ≤ 140737488355328 := by
  have : (k + 1) * bytes ≤ 65536 * 1000 := Nat.mul_le_mul (by omega) hby
  omega
 obtain ⟨v', w', hrun, hown, hgrow, _, hbk⟩ := run_append_own_at (P := Tryz.prog) w base t t T i0 z size bytes hu hi hz0 hz1 hz2 hzs hsz v k _ h ⟨B, 0, none⟩ 1 1 ys (by rw [hys]; omega) (fun jj u hu => by
  rw [Addr.add_lit, Nat.zero_add, hB.cell, qgaq]
  exact hu) h1 (by unfold maxLen; omega) hbb hbase
 obtain ⟨A7, c7, hv7⟩ : ∃ A c, v' = .slice A (k + 1) c := by
  rcases hown.2 with ⟨_, h0⟩ | ⟨gg, cap, cur, e, _⟩
  ·omega
  ·exact ⟨_, _, e⟩
 subst hv7
 exact ⟨A7, c7, w', hrun, hown, Wr.ofGrownOwn hgrow, hbk⟩
theorem own_ge {w : World} {base n size : Nat} {T : TypeId} {v : Value} {xs : List Value} (h : w.ownsRow base T size v n xs) : ∀ b ∈ ownL v, base ≤ b := by
 intro b hb
 rw [mem_ownL] at hb
 rcases h.2 with ⟨rfl, _⟩ | ⟨g, cap, cur, rfl, hg, _⟩
 ·simp [Value.ownBlock] at hb
 ·simp only [Value.ownBlock, Option.some.injEq] at hb
  omega
theorem own_wr0 {w w' : World} {base n size : Nat} {T : TypeId} {v : Value} {xs : List Value} (h : w.ownsRow base T size v n xs) (hw : Wr [] w w') : w'.ownsRow base T size v n xs := by
 refine ⟨h.1, ?_⟩
 rcases h.2 with h | ⟨b, cap, cur, h1, h2, h3, h4⟩
 ·exact .inl h
 ·refine .inr ⟨b, cap, cur, h1, h2, ?_, h4⟩
  have hlt : b < w.heap.size := by
   rcases Nat.lt_or_ge b w.heap.size with hlt | hge
   ·exact hlt
   ·rw [Array.getElem?_eq_none hge] at h3; cases h3
  rw [hw.block b hlt (by simp)]
  exact h3
theorem conv_own {w : World} {base n : Nat} {v : Value} {l : List UInt8} (h : w.ownsRow base 5 1 v n (l.map byV)) (hl : 0 < l.length) : (convert 42 9 v).run Tryz.prog w = .ok (.string ⟨l.toArray⟩) w := by
 have hn := h.1
 rw [qlmq, Nat.mul_one] at hn
 rcases h.2 with ⟨rfl, h0⟩ | ⟨b, cap, cur, rfl, _, hh, hnc, hcm, hs, ht⟩
 ·omega
 ·have := run_convert_bytes_back (P := Tryz.prog) w 42 9 5 ⟨b, 0, none⟩ cap l Tryz.underlying42 Tryz.underlying5 Tryz.underlying9 (fun j hj => by
   have := h.cells (g := b) rfl j (byV l[j]) (by rw [qgmq, qgeq hj]; rfl)
   exact this)
  rw [hn] at this
  exact this
theorem info_u8 : (Tryz.prog.info? 5).map (fun i => (i.zero, i.size, i.bytes)) = some (some (.int .u8 0), 1, 1) := by kernel_rfl
theorem byte_eq (n m : Nat) : IntKind.u8.wrap ((n : Int) / 2 ^ (8 * m)) = ((n / 256 ^ m % 256 : Nat) : Int) := by
 have e1 : (2 : Nat) ^ (8 * m) = 256 ^ m := by rw [Nat.pow_mul]
 have e2 : (n : Int) / 2 ^ (8 * m) = ((n / 256 ^ m : Nat) : Int) := by
  rw [← e1, Int.natCast_ediv, Int.natCast_pow]
  try rfl
 rw [e2, IntKind.wrap_u8]
 omega
theorem number_int (n size : Nat) (hn : n < 9223372036854775808) (h1 : 1 ≤ size) (hs : size ≤ 8) (w : World) :
  Calls Tryz.prog 37 #[.int .i64 (n : Int), .int .i64 (size : Int)] w fun e w' => e = .returned (.string (numS n size)) ∧ Wr [] w w' := by
 obtain ⟨i0, hi0, hz0, hz1, hz2⟩ := info_parts info_u8
 have HN1 := qh h1
 have hs1 : ((size : Nat) : Int) - 1 = predI size := predI_down size
 obtain ⟨B, hB⟩ : ∃ B, w.heap.size = B := ⟨_, rfl⟩
 have HB := qh hB
 have HS1 := qh hs1
 have HS := qh hs
 clear hB hs1
 go_in
 go_wp2_with fail
 go_loopw [5, 6] (fun v i wr => ∃ j : Nat, j ≤ size ∧ i = .int .i64 (predI j) ∧ wr.ownsRow B 5 1 v (size - j) (((numL n size).take (size - j)).map byV) ∧ Wr [] w wr) (fun _ i _ => (intOf i + 1).toNat)
 case atStart => exact ⟨size, Nat.le_refl _, by rw [← HS1.out], by rw [Nat.sub_self, List.take_zero]; exact ⟨rfl, .inl ⟨rfl, rfl⟩⟩, Wr.refl _ _⟩
 case round =>
  obtain ⟨j, hj, rfl, hown, acc⟩ := hrel
  cases j with
  | zero =>
   have hv := hown
   rw [Nat.sub_zero, List.take_of_length_le (Nat.le_of_eq (numL_len n size))] at hv
   have hcv := conv_own hv (by rw [numL_len]; exact HN1.out)
   have ACC := qh acc
   clear hown hv acc
   rw [show predI 0 = -1 from rfl]
   go_wp2_with fail
   go_ret
   exact ⟨rfl, ACC.out⟩
  | succ m =>
   rw [show predI (m + 1) = (m : Int) from rfl]
   have hnx := numL_next n size m (by omega)
   obtain ⟨q, hq⟩ : ∃ q, n / 256 ^ m % 256 = q := ⟨_, rfl⟩
   have hq8 : q < 256 := by rw [← hq]; exact Nat.mod_lt _ (by decide)
   have hbe := byte_eq n m
   rw [hq] at hnx hbe
   obtain ⟨kk, hkk⟩ : ∃ kk, size - (m + 1) = kk := ⟨_, rfl⟩
   have hkk2 : size - m = kk + 1 := by omega
   rw [hkk] at hown hnx
   rw [hkk2] at hnx
   have b1 := Blk.new wr 5 #[.int .u8 (q : Int)]
   have own1 := own_wr0 hown ((Wr.refl [] wr).alloc (.cells #[.int .u8 (q : Int)] 5))
   have hBs : B ≤ wr.heap.size := by rw [← HB.out]; exact acc.size
   obtain ⟨A', c', w', hrun, hown', r1, _⟩ := push_obj (ys := [.int .u8 (q : Int)]) Tryz.underlying42 hi0 hz0 hz1 hz2 rfl (by decide) own1 b1 rfl (by simp [Value.oneCell']) (by have := HS.out; omega) (by decide) (by simp; omega)
   have acc' : Wr [] w w' := (acc.alloc _).trans' r1 (fun x hx => .inr (by rw [HB.out]; exact own_ge hown x hx))
   have hown2 : w'.ownsRow B 5 1 (.slice A' (kk + 1) c') (kk + 1) (((numL n size).take (kk + 1)).map byV) := by
    rw [hnx, List.map_append]
    have e : ([UInt8.ofNat q].map byV) = [Value.int .u8 (q : Int)] := by
     show [Value.int .u8 ((UInt8.ofNat q).toNat : Int)] = _
     rw [toNat_ofNat q hq8]
    rw [e]
    exact hown'
   have HRUN := qh hrun
   have OWN2 := qh hown2
   have ACC2 := qh acc'
   have HKK2 := qh hkk2
   have HJ := qh hj
   have hm0 : (0 : Int) ≤ (m : Int) := by omega
   have hm8 : (m : Int) ≤ 8 := by have := HS.out; omega
   clear hown own1 b1 hBs hrun hown' r1 acc' hown2 hnx hq hkk hkk2 hj acc
   go_wp2_with (at_builtin; refine wpList_append_run rfl _ _ _ rfl _ _ rfl rfl _ _ HRUN.out ?_)
   refine ⟨⟨m, by have := HJ.out; omega, by rw [predI_down], by rw [HKK2.out]; exact OWN2.out, ACC2.out⟩, ?_⟩
   show (intOf (.int .i64 ((m : Int) - 1)) + 1).toNat < (intOf (.int .i64 (m : Int)) + 1).toNat
   simp only [intOf]
   omega
theorem number_uint16 (n size : Nat) (hn : n < 65536) (h1 : 1 ≤ size) (hs : size ≤ 8) (w : World) :
  Calls Tryz.prog 45 #[.int .u16 (n : Int), .int .i64 (size : Int)] w fun e w' => e = .returned (.string (numS n size)) ∧ Wr [] w w' := by
 obtain ⟨i0, hi0, hz0, hz1, hz2⟩ := info_parts info_u8
 have HN1 := qh h1
 have hs1 : ((size : Nat) : Int) - 1 = predI size := predI_down size
 obtain ⟨B, hB⟩ : ∃ B, w.heap.size = B := ⟨_, rfl⟩
 have HB := qh hB
 have HS1 := qh hs1
 have HS := qh hs
 clear hB hs1
 go_in
 go_wp2_with fail
 go_loopw [5, 6] (fun v i wr => ∃ j : Nat, j ≤ size ∧ i = .int .i64 (predI j) ∧ wr.ownsRow B 5 1 v (size - j) (((numL n size).take (size - j)).map byV) ∧ Wr [] w wr) (fun _ i _ => (intOf i + 1).toNat)
 case atStart => exact ⟨size, Nat.le_refl _, by rw [← HS1.out], by rw [Nat.sub_self, List.take_zero]; exact ⟨rfl, .inl ⟨rfl, rfl⟩⟩, Wr.refl _ _⟩
 case round =>
  obtain ⟨j, hj, rfl, hown, acc⟩ := hrel
  cases j with
  | zero =>
   have hv := hown
   rw [Nat.sub_zero, List.take_of_length_le (Nat.le_of_eq (numL_len n size))] at hv
   have hcv := conv_own hv (by rw [numL_len]; exact HN1.out)
   have ACC := qh acc
   clear hown hv acc
   rw [show predI 0 = -1 from rfl]
   go_wp2_with fail
   go_ret
   exact ⟨rfl, ACC.out⟩
  | succ m =>
   rw [show predI (m + 1) = (m : Int) from rfl]
   have hnx := numL_next n size m (by omega)
   obtain ⟨q, hq⟩ : ∃ q, n / 256 ^ m % 256 = q := ⟨_, rfl⟩
   have hq8 : q < 256 := by rw [← hq]; exact Nat.mod_lt _ (by decide)
   have hbe := byte_eq n m
   rw [hq] at hnx hbe
   obtain ⟨kk, hkk⟩ : ∃ kk, size - (m + 1) = kk := ⟨_, rfl⟩
   have hkk2 : size - m = kk + 1 := by omega
   rw [hkk] at hown hnx
   rw [hkk2] at hnx
   have b1 := Blk.new wr 5 #[.int .u8 (q : Int)]
   have own1 := own_wr0 hown ((Wr.refl [] wr).alloc (.cells #[.int .u8 (q : Int)] 5))
   have hBs : B ≤ wr.heap.size := by rw [← HB.out]; exact acc.size
   obtain ⟨A', c', w', hrun, hown', r1, _⟩ := push_obj (ys := [.int .u8 (q : Int)]) Tryz.underlying42 hi0 hz0 hz1 hz2 rfl (by decide) own1 b1 rfl (by simp [Value.oneCell']) (by have := HS.out; omega) (by decide) (by simp; omega)
   have acc' : Wr [] w w' := (acc.alloc _).trans' r1 (fun x hx => .inr (by rw [HB.out]; exact own_ge hown x hx))
   have hown2 : w'.ownsRow B 5 1 (.slice A' (kk + 1) c') (kk + 1) (((numL n size).take (kk + 1)).map byV) := by
    rw [hnx, List.map_append]
    have e : ([UInt8.ofNat q].map byV) = [Value.int .u8 (q : Int)] := by
     show [Value.int .u8 ((UInt8.ofNat q).toNat : Int)] = _
     rw [toNat_ofNat q hq8]
    rw [e]
    exact hown'
   have HRUN := qh hrun
   have OWN2 := qh hown2
   have ACC2 := qh acc'
   have HKK2 := qh hkk2
   have HJ := qh hj
   have hm0 : (0 : Int) ≤ (m : Int) := by omega
   have hm8 : (m : Int) ≤ 8 := by have := HS.out; omega
   clear hown own1 b1 hBs hrun hown' r1 acc' hown2 hnx hq hkk hkk2 hj acc
   go_wp2_with (at_builtin; refine wpList_append_run rfl _ _ _ rfl _ _ rfl rfl _ _ HRUN.out ?_)
   refine ⟨⟨m, by have := HJ.out; omega, by rw [predI_down], by rw [HKK2.out]; exact OWN2.out, ACC2.out⟩, ?_⟩
   show (intOf (.int .i64 ((m : Int) - 1)) + 1).toNat < (intOf (.int .i64 (m : Int)) + 1).toNat
   simp only [intOf]
   omega
theorem number_uint64 (n size : Nat) (hn : n < 18446744073709551616) (h1 : 1 ≤ size) (hs : size ≤ 8) (w : World) :
  Calls Tryz.prog 36 #[.int .u64 (n : Int), .int .i64 (size : Int)] w fun e w' => e = .returned (.string (numS n size)) ∧ Wr [] w w' := by
 obtain ⟨i0, hi0, hz0, hz1, hz2⟩ := info_parts info_u8
 have HN1 := qh h1
 have hs1 : ((size : Nat) : Int) - 1 = predI size := predI_down size
 obtain ⟨B, hB⟩ : ∃ B, w.heap.size = B := ⟨_, rfl⟩
 have HB := qh hB
 have HS1 := qh hs1
 have HS := qh hs
 clear hB hs1
 go_in
 go_wp2_with fail
 go_loopw [5, 6] (fun v i wr => ∃ j : Nat, j ≤ size ∧ i = .int .i64 (predI j) ∧ wr.ownsRow B 5 1 v (size - j) (((numL n size).take (size - j)).map byV) ∧ Wr [] w wr) (fun _ i _ => (intOf i + 1).toNat)
 case atStart => exact ⟨size, Nat.le_refl _, by rw [← HS1.out], by rw [Nat.sub_self, List.take_zero]; exact ⟨rfl, .inl ⟨rfl, rfl⟩⟩, Wr.refl _ _⟩
 case round =>
  obtain ⟨j, hj, rfl, hown, acc⟩ := hrel
  cases j with
  | zero =>
   have hv := hown
   rw [Nat.sub_zero, List.take_of_length_le (Nat.le_of_eq (numL_len n size))] at hv
   have hcv := conv_own hv (by rw [numL_len]; exact HN1.out)
   have ACC := qh acc
   clear hown hv acc
   rw [show predI 0 = -1 from rfl]
   go_wp2_with fail
   go_ret
   exact ⟨rfl, ACC.out⟩
  | succ m =>
   rw [show predI (m + 1) = (m : Int) from rfl]
   have hnx := numL_next n size m (by omega)
   obtain ⟨q, hq⟩ : ∃ q, n / 256 ^ m % 256 = q := ⟨_, rfl⟩
   have hq8 : q < 256 := by rw [← hq]; exact Nat.mod_lt _ (by decide)
   have hbe := byte_eq n m
   rw [hq] at hnx hbe
   obtain ⟨kk, hkk⟩ : ∃ kk, size - (m + 1) = kk := ⟨_, rfl⟩
   have hkk2 : size - m = kk + 1 := by omega
   rw [hkk] at hown hnx
   rw [hkk2] at hnx
   have b1 := Blk.new wr 5 #[.int .u8 (q : Int)]
   have own1 := own_wr0 hown ((Wr.refl [] wr).alloc (.cells #[.int .u8 (q : Int)] 5))
   have hBs : B ≤ wr.heap.size := by rw [← HB.out]; exact acc.size
   obtain ⟨A', c', w', hrun, hown', r1, _⟩ := push_obj (ys := [.int .u8 (q : Int)]) Tryz.underlying42 hi0 hz0 hz1 hz2 rfl (by decide) own1 b1 rfl (by simp [Value.oneCell']) (by have := HS.out; omega) (by decide) (by simp; omega)
   have acc' : Wr [] w w' := (acc.alloc _).trans' r1 (fun x hx => .inr (by rw [HB.out]; exact own_ge hown x hx))
   have hown2 : w'.ownsRow B 5 1 (.slice A' (kk + 1) c') (kk + 1) (((numL n size).take (kk + 1)).map byV) := by
    rw [hnx, List.map_append]
    have e : ([UInt8.ofNat q].map byV) = [Value.int .u8 (q : Int)] := by
     show [Value.int .u8 ((UInt8.ofNat q).toNat : Int)] = _
     rw [toNat_ofNat q hq8]
    rw [e]
    exact hown'
   have HRUN := qh hrun
   have OWN2 := qh hown2
   have ACC2 := qh acc'
   have HKK2 := qh hkk2
   have HJ := qh hj
   have hm0 : (0 : Int) ≤ (m : Int) := by omega
   have hm8 : (m : Int) ≤ 8 := by have := HS.out; omega
   clear hown own1 b1 hBs hrun hown' r1 acc' hown2 hnx hq hkk hkk2 hj acc
   go_wp2_with (at_builtin; refine wpList_append_run rfl _ _ _ rfl _ _ rfl rfl _ _ HRUN.out ?_)
   refine ⟨⟨m, by have := HJ.out; omega, by rw [predI_down], by rw [HKK2.out]; exact OWN2.out, ACC2.out⟩, ?_⟩
   show (intOf (.int .i64 ((m : Int) - 1)) + 1).toNat < (intOf (.int .i64 (m : Int)) + 1).toNat
   simp only [intOf]
   omega
def truS (b : Bool) : ByteArray := ⟨(truL b).toArray⟩
theorem otruth_any (b : Bool) (w : World) : Calls Tryz.prog 35 #[.bool b] w fun e w' => e = .returned (.string (truS b)) ∧ w = w' := by
 cases b
 all_goals
  go_in
  go_wp2_with fail
  go_ret
  exact ⟨rfl, rfl⟩
def texS (s : ByteArray) : ByteArray := ⟨(textL s).toArray⟩
theorem texS_eq (s : ByteArray) : numS s.size 1 ++ s = texS s := by
 apply ByteArray.ext
 rw [ByteArray.data_append]
 unfold numS texS textL
 apply Array.ext'
 simp
theorem otext_any (s : ByteArray) (hs : s.size ≤ 255) (w : World) : Calls Tryz.prog 34 #[.string s] w fun e w' => e = .returned (.string (texS s)) ∧ Wr [] w w' := by
 have hn := fun w => number_int s.size 1 (by omega) (by omega) (by omega) w
 have hz := numS_size s.size 1
 rw [← texS_eq]
 obtain ⟨S, hS⟩ : ∃ S, numS s.size 1 = S := ⟨_, rfl⟩
 rw [hS] at hn hz ⊢
 have hsz : ((S.size : Int) + (s.size : Int)) ≤ 9223372036854775807 := by omega
 clear hz
 have HN := qh hn
 clear hn hS
 go_in
 go_wp2_with fail
 refine (HN.out _).mono ?_
 rintro e w1 ⟨rfl, r1⟩
 go_wp2_with fail
 go_ret
 exact ⟨rfl, r1⟩
end Go.Proofs.YtildcdgobdfieaaGreat
