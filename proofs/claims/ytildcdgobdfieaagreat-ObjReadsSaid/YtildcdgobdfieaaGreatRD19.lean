/- What linking answers, and what may be said of it: the plain laws of LinkMay and LinkKeys. No conditions. -/
import Derived.Deep.DrawnRows
import Derived.Test.YtildcdgobdfieaaGreatRD09
set_option linter.unusedVariables false
set_option linter.unusedSimpArgs false
set_option maxRecDepth 100000
set_option maxHeartbeats 32000000
namespace Go.Proofs.YtildcdgobdfieaaGreat
def needOf (o : ObjD) : NeedD := ⟨o.module, o.uses.map UseD.module⟩
def zeroObj : ObjD := ⟨⟨#[]⟩, false, 0, [], ⟨⟨#[]⟩, [], [], 0, []⟩⟩
def lastOf {α : Type} (es : List (ByteArray × α)) (m : ByteArray) : Option α := (es.reverse.find? (fun x => decide (x.1 = m))).map Prod.snd
def named (l : List ObjD) : List (ByteArray × ObjD) := l.map fun o => (o.module, o)
def objOf (l : List ObjD) (m : ByteArray) : ObjD := (lastOf (named l) m).getD zeroObj
def numbered : Nat → List ByteArray → List (ByteArray × Int)
 | _, [] => []
 | i, m :: l => (m, (i : Int)) :: numbered (i + 1) l
def placeOf (names : List ByteArray) (m : ByteArray) : Int := (lastOf (numbered 0 names) m).getD 0
def mismatch (l : List ObjD) (o : ObjD) : Bool := o.uses.any (fun u => decide ((objOf l u.module).key ≠ u.key))
def keysAt (l : List ObjD) (n : Nat) : Nat → List ByteArray → Option (ByteArray × Int)
 | _, [] => none
 | i, m :: ms => if (objOf l m).main = decide (i + 1 = n) then if mismatch l (objOf l m) then some (m, 230) else keysAt l n (i + 1) ms else some (m, 231)
def dataOf (l : List ObjD) : List ByteArray → Int
 | [] => 0
 | m :: ms => (objOf l m).mod.data + dataOf l ms
structure ImgD where
 names : List ByteArray
 mods : List ModD
 order : List Int
def modOf (l : List ObjD) (names : List ByteArray) (m : ByteArray) : ModD := { (objOf l m).mod with imports := (objOf l m).uses.map fun u => placeOf names u.module }
def imgOf (l : List ObjD) (names : List ByteArray) : ImgD := ⟨names, names.map (modOf l names), (List.range names.length).map Int.ofNat⟩
structure LinkOk (l : List ObjD) (main : ByteArray) (img : ImgD) : Prop where
 uniq : (l.map ObjD.module).Nodup
 may : ∀ o ∈ l, objB o = true
 made : img = imgOf l img.names
 nodup : img.names.Nodup
 order : orderP (l.map needOf) main = (img.names, ⟨#[]⟩, 0)
 keys : keysAt l img.names.length 0 img.names = none
 small : img.names.length ≤ 64
 data : dataOf l img.names ≤ 65535
 last : ∃ x, img.names = x ++ [main]
 obj : ∀ (i : Nat) (m : ByteArray), img.names[i]? = some m → ∃ o ∈ l, o.module = m ∧ ∀ u ∈ o.uses, ∃ j, j < i ∧ img.names[j]? = some u.module
end Go.Proofs.YtildcdgobdfieaaGreat
namespace Go.Proofs.YtildcdgobdfieaaGreat
open Go.RowKit
def PrcD.cells (p : PrcD) : List Value := [.int .i64 p.at_, .int .i64 p.params, .int .i64 p.locals, .int .i64 p.depth, .int .i64 p.level, .bool p.func]
def UseD.cells (u : UseD) : List Value := [.string u.module, .int .u64 u.key]
def SlPrcs (w : World) (P : Nat → Prop) (v : Value) (l : List PrcD) : Prop := Sl w P 6 v l.length (l.flatMap PrcD.cells)
def SlUses (w : World) (P : Nat → Prop) (v : Value) (l : List UseD) : Prop := Sl w P 2 v l.length (l.flatMap UseD.cells)
def SlI64 (w : World) (P : Nat → Prop) (v : Value) (l : List Int) : Prop := Sl w P 1 v l.length (l.map (Value.int .i64))
def SlU16 (w : World) (P : Nat → Prop) (v : Value) (l : List Int) : Prop := Sl w P 1 v l.length (l.map (Value.int .u16))
structure ModL (w : World) (P : Nat → Prop) (vp vi vn : Value) (m : ModD) : Prop where
 procs : SlPrcs w P vp m.procs
 imports : SlI64 w P vi m.imports
 init : SlU16 w P vn m.init
def ModD.cells (m : ModD) (vp vi vn : Value) : List Value := [.string m.code, vp, vi, .int .i64 m.data, vn]
def ModD.val (m : ModD) (vp vi vn : Value) : Value := .agg (m.cells vp vi vn).toArray
structure ObjL (w : World) (P : Nat → Prop) (vu vp vi vn : Value) (o : ObjD) : Prop where
 uses : SlUses w P vu o.uses
 mod : ModL w P vp vi vn o.mod
def ObjD.cells (o : ObjD) (vu vp vi vn : Value) : List Value := [.string o.module, .bool o.main, .int .u64 o.key, vu, .string o.mod.code, vp, vi, .int .i64 o.mod.data, vn]
def SlObjs (w : World) (P : Nat → Prop) (v : Value) (l : List ObjD) : Prop :=
 ∃ xs, Sl w P 9 v l.length xs ∧ (∀ u ∈ xs, u.oneCell' = true) ∧ ∀ i o, l[i]? = some o → ∃ vu vp vi vn, (∀ j u, (o.cells vu vp vi vn)[j]? = some u → xs[i * 9 + j]? = some u) ∧ ObjL w P vu vp vi vn o
section
variable {w w' : World} {P Q : Nat → Prop} {v vu vp vi vn : Value}
theorem ModL.keep {l : List Nat} {m : ModD} (h : ModL w P vp vi vn m) (hw : Wr l w w') (hP : ∀ b, P b → b ∉ l) : ModL w' P vp vi vn m :=
 ⟨Sl.keep h.procs hw hP, Sl.keep h.imports hw hP, Sl.keep h.init hw hP⟩
theorem ModL.wr0 {m : ModD} (h : ModL w P vp vi vn m) (hw : Wr [] w w') : ModL w' P vp vi vn m := h.keep hw (fun _ _ => by simp)
theorem ModL.into {m : ModD} (h : ModL w P vp vi vn m) (hP : ∀ b, P b → b < w.heap.size → Q b) : ModL w Q vp vi vn m :=
 ⟨Sl.into h.procs hP, Sl.into h.imports hP, Sl.into h.init hP⟩
theorem ObjL.keep {l : List Nat} {o : ObjD} (h : ObjL w P vu vp vi vn o) (hw : Wr l w w') (hP : ∀ b, P b → b ∉ l) : ObjL w' P vu vp vi vn o := ⟨Sl.keep h.uses hw hP, h.mod.keep hw hP⟩
theorem ObjL.wr0 {o : ObjD} (h : ObjL w P vu vp vi vn o) (hw : Wr [] w w') : ObjL w' P vu vp vi vn o := h.keep hw (fun _ _ => by simp)
theorem ObjL.into {o : ObjD} (h : ObjL w P vu vp vi vn o) (hP : ∀ b, P b → b < w.heap.size → Q b) : ObjL w Q vu vp vi vn o := ⟨Sl.into h.uses hP, h.mod.into hP⟩
theorem SlObjs.keep {ls : List Nat} {l : List ObjD} (h : SlObjs w P v l) (hw : Wr ls w w') (hP : ∀ b, P b → b ∉ ls) : SlObjs w' P v l := by
 obtain ⟨xs, h1, h2, h3⟩ := h
 refine ⟨xs, h1.keep hw hP, h2, fun i o hi => ?_⟩
 obtain ⟨vu, vp, vi, vn, e1, e2⟩ := h3 i o hi
 exact ⟨vu, vp, vi, vn, e1, e2.keep hw hP⟩
theorem SlObjs.wr0 {l : List ObjD} (h : SlObjs w P v l) (hw : Wr [] w w') : SlObjs w' P v l := h.keep hw (fun _ _ => by simp)
theorem SlObjs.into {l : List ObjD} (h : SlObjs w P v l) (hP : ∀ b, P b → b < w.heap.size → Q b) : SlObjs w Q v l := by
 obtain ⟨xs, h1, h2, h3⟩ := h
 refine ⟨xs, h1.into hP, h2, fun i o hi => ?_⟩
 obtain ⟨vu, vp, vi, vn, e1, e2⟩ := h3 i o hi
 exact ⟨vu, vp, vi, vn, e1, e2.into hP⟩
theorem SlObjs.form {l : List ObjD} (h : SlObjs w P v l) : ∃ A c, v = .slice A l.length c ∧ l.length ≤ c ∧ c ≤ maxLen := by
 obtain ⟨xs, h1, h2, h3⟩ := h
 exact h1.form
end
theorem flat_at {α : Type} {g : α → List Value} {size : Nat} (hg : ∀ x, (g x).length = size) : ∀ (l : List α) (i j : Nat) (x : α), l[i]? = some x → j < size → (l.flatMap g)[i * size + j]? = (g x)[j]?
 | [], i, j, x, h, _ => by simp at h
 | y :: l, 0, j, x, h, hj => by
  simp only [qgzq, Option.some.injEq] at h
  subst h
  rw [qfcq, Nat.zero_mul, Nat.zero_add, qglq (by rw [hg]; exact hj)]
 | y :: l, i + 1, j, x, h, hj => by
  rw [qgsq] at h
  rw [qfcq, qgrq (by rw [hg, Nat.succ_mul]; omega), hg, show (i + 1) * size + j - size = i * size + j by rw [Nat.succ_mul]; omega]
  exact flat_at hg l i j x h hj
theorem within_any (n a b : Int) (w : World) : Calls Tryz.prog 101 #[.int .i64 n, .int .i64 a, .int .i64 b] w fun e w' => e = .returned (.bool (inB n a b)) ∧ w = w' := by
 unfold inB
 by_cases h : a ≤ n
 ·have hd : decide (a ≤ n) = true := qdtq h
  rw [hd, Bool.true_and]
  go_in
  go_wp2_with fail
  go_ret
  exact ⟨rfl, rfl⟩
 ·have hd : decide (a ≤ n) = false := qdfq h
  rw [hd, Bool.false_and]
  go_in
  go_wp2_with fail
  go_ret
  exact ⟨rfl, rfl⟩
theorem mmay_any (p : PrcD) (m : ModD) (vp vi vn : Value) (w : World) :
  Calls Tryz.prog 139 #[.agg p.cells.toArray, m.val vp vi vn] w fun e w' => e = .returned (.bool (prcB p m)) ∧ Wr [] w w' := by
 have h1 := fun w => within_any p.params 0 65535 w
 have h2 := fun w => within_any p.locals 0 65535 w
 have h3 := fun w => within_any p.depth 0 65535 w
 have h4 := fun w => within_any p.at_ 0 (m.code.size : Int) w
 have h5 := fun w => within_any p.level 1 16 w
 unfold prcB ModD.val ModD.cells PrcD.cells
 generalize inB p.params 0 65535 = b1 at *
 generalize inB p.locals 0 65535 = b2 at *
 generalize inB p.depth 0 65535 = b3 at *
 generalize inB p.at_ 0 (m.code.size : Int) = b4 at *
 generalize inB p.level 1 16 = b5 at *
 have acc := ((Wr.refl [] w).alloc (.cells #[.int .i64 p.at_, .int .i64 p.params, .int .i64 p.locals, .int .i64 p.depth, .int .i64 p.level, .bool p.func] 98)).alloc (.cells #[.string m.code, vp, vi, .int .i64 m.data, vn] 28)
 have HACC := qh acc
 clear acc
 go_in
 go_wp2_with fail
 refine (h1 _).mono ?_
 rintro e w1 ⟨rfl, rfl⟩
 cases b1
 ·go_wp2_with fail
  go_ret
  exact ⟨rfl, HACC.out⟩
 go_wp2_with fail
 refine (h2 _).mono ?_
 rintro e w1 ⟨rfl, rfl⟩
 cases b2
 ·go_wp2_with fail
  go_ret
  exact ⟨rfl, HACC.out⟩
 go_wp2_with fail
 refine (h3 _).mono ?_
 rintro e w1 ⟨rfl, rfl⟩
 cases b3
 ·go_wp2_with fail
  go_ret
  exact ⟨rfl, HACC.out⟩
 go_wp2_with fail
 refine (h4 _).mono ?_
 rintro e w1 ⟨rfl, rfl⟩
 cases b4
 ·go_wp2_with fail
  go_ret
  exact ⟨rfl, HACC.out⟩
 go_wp2_with fail
 refine (h5 _).mono ?_
 rintro e w1 ⟨rfl, rfl⟩
 go_wp2_with fail
 go_ret
 exact ⟨by simp, HACC.out⟩
theorem prc_len (p : PrcD) : p.cells.length = 6 := rfl
theorem use_len (u : UseD) : u.cells.length = 2 := rfl
section
variable {w : World} {P : Nat → Prop} {v : Value}
theorem prc_at {l : List PrcD} (h : SlPrcs w P v l) {i : Nat} {p : PrcD} (hi : l[i]? = some p) : ∃ b off c, v = .slice (some ⟨b, off, none⟩) l.length c ∧ l.length ≤ c ∧ c ≤ maxLen ∧ ∀ j u, p.cells[j]? = some u → w.cell? ⟨b, off + i * 6 + j, none⟩ = some u := by
 obtain ⟨b, off, c, e, h1, h2, _, h4⟩ := Sl.thing h (by decide) (List.getElem?_eq_some_iff.1 hi).1
 refine ⟨b, off, c, e, h1, h2, fun j u hj => ?_⟩
 have hj6 : j < 6 := (List.getElem?_eq_some_iff.1 hj).1
 rw [Nat.add_assoc]
 exact h4 j u hj6 (by rw [flat_at prc_len l i j p hi hj6]; exact hj)
theorem use_at {l : List UseD} (h : SlUses w P v l) {i : Nat} {p : UseD} (hi : l[i]? = some p) : ∃ b off c, v = .slice (some ⟨b, off, none⟩) l.length c ∧ l.length ≤ c ∧ c ≤ maxLen ∧ ∀ j u, p.cells[j]? = some u → w.cell? ⟨b, off + i * 2 + j, none⟩ = some u := by
 obtain ⟨b, off, c, e, h1, h2, _, h4⟩ := Sl.thing h (by decide) (List.getElem?_eq_some_iff.1 hi).1
 refine ⟨b, off, c, e, h1, h2, fun j u hj => ?_⟩
 have hj6 : j < 2 := (List.getElem?_eq_some_iff.1 hj).1
 rw [Nat.add_assoc]
 exact h4 j u hj6 (by rw [flat_at use_len l i j p hi hj6]; exact hj)
theorem i64_at {l : List Int} (h : SlI64 w P v l) {i : Nat} {x : Int} (hi : l[i]? = some x) : ∃ b off c, v = .slice (some ⟨b, off, none⟩) l.length c ∧ l.length ≤ c ∧ c ≤ maxLen ∧ w.cell? ⟨b, off + i, none⟩ = some (.int .i64 x) := by
 obtain ⟨b, off, c, e, h1, h2, _, h4⟩ := Sl.at_ h (j := i) (u := .int .i64 x) (by rw [qgmq, hi]; rfl)
 exact ⟨b, off, c, e, h1, h2, h4⟩
end
theorem modB_split (m : ModD) (n : Int) : modB m n = (decide (m.code.size ≤ 65535) && decide (1 ≤ m.procs.length) && decide (m.procs.length ≤ 1024) && decide (m.imports.length ≤ 255) && inB m.data (m.init.length : Int) 65535 &&
  (m.procs.all (fun p => prcB p m) && (m.imports.all (fun i => inB i 0 (n - 1)) && bodyB m.procs))) := by
 unfold modB
 simp only [Bool.and_assoc]
theorem body_at (l : List PrcD) (p : PrcD) (h : l[0]? = some p) : bodyB l = (decide (p.level = 1) && decide (p.params = 0) && !p.func) := by
 cases l with
 | nil => cases h
 | cons q l =>
  simp only [qgzq, Option.some.injEq] at h
  subst h
  rfl
theorem all_no {α : Type} {l : List α} {p : α → Bool} {k : Nat} {x : α} (h : l[k]? = some x) (hx : p x = false) : l.all p = false := by
 rw [List.all_eq_false]
 exact ⟨x, List.mem_of_getElem? h, by rw [hx]; decide⟩
theorem all_yes {α : Type} {l : List α} {p : α → Bool} (h : ∀ (j : Nat) (x : α), l[j]? = some x → p x = true) : l.all p = true := by
 rw [List.all_eq_true]
 intro x hx
 obtain ⟨j, hj⟩ := List.getElem?_of_mem hx
 exact h j x hj
def ImAt (m : ModD) (n : Int) (wr : World) (k : Nat) (w2 : World) : Prop := w2 = wr ∧ ∀ (j : Nat) (x : Int), j < k → m.imports[j]? = some x → inB x 0 (n - 1) = true
def MdAt (w : World) (g : Nat) (m : ModD) (n : Int) (cs : Array Value) (k : Nat) (wr : World) : Prop := Wr [] w wr ∧ Blk wr g 28 cs ∧ ∀ j p, j < k → m.procs[j]? = some p → prcB p m = true
theorem module_any (m : ModD) (n : Int) (h1n : 1 ≤ n) (hn64 : n ≤ 64) (vp vi vn : Value) (P : Nat → Prop) (w : World) (h : ModL w P vp vi vn m) :
  Calls Tryz.prog 102 #[m.val vp vi vn, .int .i64 n] w fun e w' => e = .returned (.bool (modB m n)) ∧ Wr [] w w' := by
 have hv := modB_split m n
 obtain ⟨Ap, cp, rfl, lp1, lp2⟩ := Sl.form h.procs
 obtain ⟨Ai, ci, rfl, li1, li2⟩ := Sl.form h.imports
 obtain ⟨An, cn, rfl, ln1, ln2⟩ := Sl.form h.init
 unfold maxLen at lp2 li2 ln2
 have hw1 := fun w => within_any (m.procs.length : Int) 1 1024 w
 have hw2 := fun w => within_any m.data (m.init.length : Int) 65535 w
 have hw3 := fun i w => within_any i 0 (n - 1) w
 have hpB : inB (m.procs.length : Int) 1 1024 = (decide (1 ≤ m.procs.length) && decide (m.procs.length ≤ 1024)) := by
  unfold inB
  rw [Bool.eq_iff_iff]
  simp only [Bool.and_eq_true, decide_eq_true_eq]
  omega
 have acc := (Wr.refl [] w).alloc (.cells (m.cells (.slice Ap m.procs.length cp) (.slice Ai m.imports.length ci) (.slice An m.init.length cn)).toArray 28)
 have bA := Blk.new w 28 (m.cells (.slice Ap m.procs.length cp) (.slice Ai m.imports.length ci) (.slice An m.init.length cn)).toArray
 obtain ⟨w0, hw0⟩ : ∃ w0, w.alloc (.cells (m.cells (.slice Ap m.procs.length cp) (.slice Ai m.imports.length ci) (.slice An m.init.length cn)).toArray 28) = w0 := ⟨_, rfl⟩
 obtain ⟨g, hg⟩ : ∃ g, w.heap.size = g := ⟨_, rfl⟩
 rw [hw0] at acc bA
 rw [hg] at bA
 unfold ModD.cells at bA hw0
 unfold ModD.val ModD.cells
 have Hw0 := qh hw0
 have Hg := qh hg
 have HH := qh h
 have HV := qh hv
 have HPB := qh hpB
 clear hw0 hg h hv hpB
 go_in
 go_upto_region 1 with (fail)
 rw [Hw0.out, Hg.out]
 obtain ⟨c0, c1, c2, c3, c4⟩ := c5q bA
 by_cases q1 : 65535 < (m.code.size : Int)
 ·go_wp2_with fail
  go_ret
  refine ⟨?_, acc⟩
  rw [HV.out, qdfq (show ¬ m.code.size ≤ 65535 by omega)]
  simp
 go_wp2_with fail
 refine (hw1 _).mono ?_
 rintro e w1 ⟨rfl, rfl⟩
 cases q2 : inB (m.procs.length : Int) 1 1024 with
 | false =>
  have hz : (decide (1 ≤ m.procs.length) && decide (m.procs.length ≤ 1024)) = false := by rw [← HPB.out]; exact q2
  have HZ := qh hz
  clear hz q2
  go_wp2_with fail
  go_ret
  refine ⟨?_, acc⟩
  rw [HV.out, Bool.and_assoc (decide (m.code.size ≤ 65535)), HZ.out]
  simp
 | true =>
 have hz : (decide (1 ≤ m.procs.length) && decide (m.procs.length ≤ 1024)) = true := by rw [← HPB.out]; exact q2
 simp only [Bool.and_eq_true, decide_eq_true_eq] at hz
 obtain ⟨z1, z2⟩ := hz
 clear q2
 by_cases q3 : 255 < (m.imports.length : Int)
 ·go_wp2_with fail
  go_ret
  refine ⟨?_, acc⟩
  rw [HV.out, qdfq (show ¬ m.imports.length ≤ 255 by omega)]
  simp
 go_wp2_with fail
 refine (hw2 _).mono ?_
 rintro e w1 ⟨rfl, rfl⟩
 cases q4 : inB m.data (m.init.length : Int) 65535 with
 | false =>
  have HQ := qh q4
  clear q4
  go_wp2_with fail
  go_ret
  refine ⟨?_, acc⟩
  rw [HV.out, HQ.out]
  simp
 | true =>
 have HQ := qh q4
 clear q4 hw1 hw2
 have hv2 : modB m n = (m.procs.all (fun p => prcB p m) && (m.imports.all (fun i => inB i 0 (n - 1)) && bodyB m.procs)) := by
  rw [HV.out, HQ.out, qdtq (show m.code.size ≤ 65535 by omega), qdtq z1, qdtq z2, qdtq (show m.imports.length ≤ 255 by omega)]
  simp
 have HV2 := qh hv2
 clear hv2
 go_wp2_with fail
 go_loopw [39] (fun s39 wr => ∃ k : Nat, k ≤ m.procs.length ∧ s39 = .int .i64 k ∧ MdAt w g m n #[.string m.code, .slice Ap m.procs.length cp, .slice Ai m.imports.length ci, .int .i64 m.data, .slice An m.init.length cn] k wr) (fun s39 _ => m.procs.length - (intOf s39).toNat)
 case atStart => exact ⟨0, by omega, rfl, acc, bA, fun j p hj => absurd hj (by omega)⟩
 case round =>
  obtain ⟨k, hk, rfl, acck, bk, hyes⟩ := hrel
  clear c0 c1 c2 c3 c4
  obtain ⟨c0, c1, c2, c3, c4⟩ := c5q bk
  have HYES := qh hyes
  clear hyes
  by_cases hlt : k < m.procs.length
  ·obtain ⟨p, hp⟩ : ∃ p, m.procs[k]? = some p := ⟨_, qgeq hlt⟩
   obtain ⟨b, off, c, e, _, _, hc⟩ := prc_at (HH.out.wr0 acck).procs hp
   injection e with e1 e2 e3
   subst e1
   subst e3
   have x0 := hc 0 _ rfl
   have x1 := hc 1 _ rfl
   have x2 := hc 2 _ rfl
   have x3 := hc 3 _ rfl
   have x4 := hc 4 _ rfl
   have x5 := hc 5 _ rfl
   simp only [Nat.add_zero] at x0
   clear hc e2
   have HP := qh hp
   clear hp
   have hlti : (k : Int) < (m.procs.length : Int) := by omega
   have hk0 : (0 : Int) ≤ (k : Int) := by omega
   have hz : g < wr.heap.size := bk.lt
   go_wp2_with fail
   refine (mmay_any p m (.slice (some ⟨b, off, none⟩) m.procs.length cp) (.slice Ai m.imports.length ci) (.slice An m.init.length cn) _).mono ?_
   rintro e w2 ⟨rfl, k2⟩
   have acc2 := (acck.alloc (.cells #[.int .i64 p.at_, .int .i64 p.params, .int .i64 p.locals, .int .i64 p.depth, .int .i64 p.level, .bool p.func] 98)).trans k2
   have b2 := (bk.alloc (.cells #[.int .i64 p.at_, .int .i64 p.params, .int .i64 p.locals, .int .i64 p.depth, .int .i64 p.level, .bool p.func] 98)).wr0 k2
   have ACC2 := qh acc2
   have B2 := qh b2
   clear x0 x1 x2 x3 x4 x5 c0 c1 c2 c3 c4 hz k2 acc2 b2 acck bk bA acc
   cases hpp : prcB p m with
   | false =>
    have hf : m.procs.all (fun p => prcB p m) = false := all_no (p := fun p => prcB p m) HP.out hpp
    have HF := qh hf
    clear hf hpp
    go_wp2_with fail
    go_ret
    exact ⟨by rw [HV2.out, HF.out, Bool.false_and]; rfl, ACC2.out⟩
   | true =>
    have HPP := qh hpp
    clear hpp
    go_wp2_with fail
    go_roundw
    case rel =>
     refine ⟨k + 1, by omega, by go_num, ACC2.out, B2.out, fun j q hj hq => ?_⟩
     by_cases hjk : j = k
     ·subst hjk
      rw [HP.out] at hq
      injection hq with hq
      rw [← hq]
      exact HPP.out
     ·exact HYES.out j q (by omega) hq
    case measure => simp [intOf]; omega
  ·have hkn : k = m.procs.length := by omega
   subst hkn
   have hall : m.procs.all (fun p => prcB p m) = true := all_yes (p := fun p => prcB p m) (fun j x hj => HYES.out j x (List.getElem?_eq_some_iff.1 hj).1 hj)
   have hv3 : modB m n = (m.imports.all (fun i => inB i 0 (n - 1)) && bodyB m.procs) := by rw [HV2.out, hall, Bool.true_and]
   have HV3 := qh hv3
   have ACC := qh acck
   have BK := qh bk
   have hz : g < wr.heap.size := bk.lt
   clear hall hv3 HYES acck bk bA acc
   obtain ⟨wo, hwo⟩ : ∃ wo, wr = wo := ⟨_, rfl⟩
   subst hwo
   go_wp2_with fail
   go_loopw [51] (fun s51 w2 => ∃ k : Nat, k ≤ m.imports.length ∧ s51 = .int .i64 k ∧ ImAt m n wr k w2) (fun s51 _ => m.imports.length - (intOf s51).toNat)
   case atStart => exact ⟨0, by omega, rfl, rfl, fun j x hj => absurd hj (by omega)⟩
   case round =>
    obtain ⟨i, hi, rfl, rfl, hyes⟩ := hrel
    have HYES := qh hyes
    clear hyes
    by_cases hlt2 : i < m.imports.length
    ·obtain ⟨x, hx⟩ : ∃ x, m.imports[i]? = some x := ⟨_, qgeq hlt2⟩
     obtain ⟨b, off, c, e, _, _, hc⟩ := i64_at (HH.out.wr0 ACC.out).imports hx
     injection e with e1 e2 e3
     subst e1
     subst e3
     clear e2
     have HX := qh hx
     clear hx
     have hlti : (i : Int) < (m.imports.length : Int) := by omega
     have hi0 : (0 : Int) ≤ (i : Int) := by omega
     go_wp2_with fail
     refine (hw3 _ _).mono ?_
     rintro e w2 ⟨rfl, rfl⟩
     cases hpp : inB x 0 (n - 1) with
     | false =>
      have hf : m.imports.all (fun i => inB i 0 (n - 1)) = false := all_no (p := fun i => inB i 0 (n - 1)) HX.out hpp
      have HF := qh hf
      clear hf hpp
      go_wp2_with fail
      go_ret
      exact ⟨by rw [HV3.out, HF.out, Bool.false_and]; rfl, ACC.out⟩
     | true =>
      have HPP := qh hpp
      clear hpp
      go_wp2_with fail
      go_roundw
      case rel =>
       refine ⟨i + 1, by omega, by go_num, rfl, fun j q hj hq => ?_⟩
       by_cases hjk : j = i
       ·subst hjk
        rw [HX.out] at hq
        injection hq with hq
        rw [← hq]
        exact HPP.out
       ·exact HYES.out j q (by omega) hq
      case measure => simp [intOf]; omega
    ·have hin : i = m.imports.length := by omega
     subst hin
     have hall : m.imports.all (fun i => inB i 0 (n - 1)) = true := all_yes (p := fun i => inB i 0 (n - 1)) (fun j x hj => HYES.out j x (List.getElem?_eq_some_iff.1 hj).1 hj)
     obtain ⟨p, hp⟩ : ∃ p, m.procs[0]? = some p := ⟨_, qgeq (by omega)⟩
     have hv4 : modB m n = (decide (p.level = 1) && decide (p.params = 0) && !p.func) := by rw [HV3.out, hall, Bool.true_and, body_at _ p hp]
     have HV4 := qh hv4
     obtain ⟨b, off, c, e, _, _, hc⟩ := prc_at (HH.out.wr0 ACC.out).procs hp
     injection e with e1 e2 e3
     subst e1
     subst e3
     have x0 := hc 0 _ rfl
     have x1 := hc 1 _ rfl
     have x2 := hc 2 _ rfl
     have x3 := hc 3 _ rfl
     have x4 := hc 4 _ rfl
     have x5 := hc 5 _ rfl
     simp only [Nat.zero_mul, Nat.add_zero] at x0 x1 x2 x3 x4 x5
     have z1' : (0 : Int) < (m.procs.length : Int) := by omega
     have acc := ACC.out.alloc (.cells #[.int .i64 p.at_, .int .i64 p.params, .int .i64 p.locals, .int .i64 p.depth, .int .i64 p.level, .bool p.func] 98)
     clear hc e2 hall hv4 hp
     go_wp2_with fail
     all_goals
      go_ret
      refine ⟨?_, ACC.out.alloc _⟩
      rw [HV4.out]
      simp [*]
def fndI : List MapEntry → Int → Option Value
 | [], _ => none
 | e :: l, k => match e.key with | .int .i64 a => if a = k then some e.val else fndI l k | _ => none
def IntKeys (l : List MapEntry) : Prop := ∀ e ∈ l, ∃ a, e.key = .int .i64 a
theorem findNow_int : ∀ (l : List MapEntry) (k : Int) (i : Nat), IntKeys l → ∃ o, Instr.findNow (.int .i64) (.int .i64 k) l i = some o ∧ o.map (·.2) = fndI l k ∧
  ∀ p, o = some p → ∃ j e, p.1 = i + j ∧ l[j]? = some e ∧ e.key = .int .i64 k ∧ ∀ v k', fndI (l.modify j fun e => { e with key := .int .i64 k, val := v }) k' = if k' = k then some v else fndI l k'
 | [], k, i, _ => ⟨none, rfl, rfl, fun p h => by cases h⟩
 | e :: l, k, i, h => by
  obtain ⟨a, ha⟩ := h e (.head _)
  by_cases hak : a = k
  ·subst hak
   refine ⟨some (i, e.val), ?_, ?_, ?_⟩
   ·simp [Instr.findNow, Instr.sameNow, ha]
   ·simp [fndI, ha]
   ·intro p hp
    injection hp with hp
    subst hp
    refine ⟨0, e, by simp, rfl, ha, fun v k' => ?_⟩
    simp only [List.modify_zero_cons, fndI, ha]
    by_cases h1 : k' = a
    ·subst h1; simp
    ·have h2 : ¬ a = k' := fun e => h1 e.symm
     simp [h1, h2]
  ·obtain ⟨o, h1, h2, h3⟩ := findNow_int l k (i + 1) (fun e he => h e (.tail _ he))
   refine ⟨o, ?_, ?_, ?_⟩
   ·have : (k == a) = false := by simp; omega
    simp [Instr.findNow, Instr.sameNow, ha, this, h1]
   ·simp [fndI, ha, hak, h2]
   ·intro p hp
    obtain ⟨j, e', g1, g2, g3, g4⟩ := h3 p hp
    refine ⟨j + 1, e', by omega, g2, g3, fun v k' => ?_⟩
    simp only [List.modify_succ_cons, fndI, ha]
    by_cases h5 : a = k'
    ·subst h5
     simp [hak]
    ·simp only [h5, if_false]
     exact g4 v k'
theorem fndI_push (l : List MapEntry) (k : Int) (v : Value) (b : Nat) (h : fndI l k = none) (hk : IntKeys l) (k' : Int) : fndI (l ++ [{ key := .int .i64 k, val := v, born := b }]) k' = if k' = k then some v else fndI l k' := by
 induction l with
 | nil =>
  simp only [List.nil_append, fndI]
  by_cases h1 : k' = k
  ·subst h1; simp
  ·have : ¬ k = k' := fun e => h1 e.symm
   simp [h1, this]
 | cons e l ih =>
  obtain ⟨a, ha⟩ := hk e (.head _)
  simp only [List.cons_append, fndI, ha] at h ⊢
  by_cases h2 : a = k
  ·simp [h2] at h
  ·rw [if_neg h2] at h
   by_cases h3 : a = k'
   ·subst h3
    simp [h2]
   ·simp only [h3, if_false]
    exact ih h (fun e he => hk e (.tail _ he))
theorem intKeys_modify (l : List MapEntry) (h : IntKeys l) (j : Nat) (k : Int) (v : Value) : IntKeys (l.modify j fun e => { e with key := .int .i64 k, val := v }) := by
 intro e he
 obtain ⟨i, hi⟩ := List.mem_iff_getElem?.1 he
 rw [List.getElem?_modify] at hi
 cases hx : l[i]? with
 | none => rw [hx] at hi; cases hi
 | some x =>
  rw [hx] at hi
  by_cases hj : j = i
  ·subst hj
   simp at hi
   subst hi
   exact ⟨k, rfl⟩
  ·simp [hj] at hi
   subst hi
   exact h x (List.mem_of_getElem? hx)
def MapI (w : World) (r : Nat) (kn : Int → Option Value) : Prop := ∃ es c, w.heap[r]? = some (.map es c) ∧ IntKeys es.toList ∧ ∀ k, fndI es.toList k = kn k
theorem MapI.wr {w w' : World} {r : Nat} {kn : Int → Option Value} {l : List Nat} (h : MapI w r kn) (hw : Wr l w w') (hr : r ∉ l) : MapI w' r kn := by
 obtain ⟨es, c, h1, h2, h3⟩ := h
 have hlt : r < w.heap.size := by
  rcases Nat.lt_or_ge r w.heap.size with h | h
  ·exact h
  ·rw [Array.getElem?_eq_none h] at h1; cases h1
 exact ⟨es, c, (hw.block r hlt hr).trans h1, h2, h3⟩
theorem MapI.lt {w : World} {r : Nat} {kn : Int → Option Value} (h : MapI w r kn) : r < w.heap.size := by
 obtain ⟨es, c, h1, h2, h3⟩ := h
 rcases Nat.lt_or_ge r w.heap.size with h | h
 ·exact h
 ·rw [Array.getElem?_eq_none h] at h1; cases h1
theorem MapI.new (w : World) : MapI (w.alloc (.map #[] 0)) w.heap.size (fun _ => none) := ⟨#[], 0, heap_alloc_new w _, by simp [IntKeys], fun k => rfl⟩
section
variable {P : Program} {T K E : TypeId} (hu : P.underlying T = some (.map K E)) (hk : P.underlying K = some (.int .i64))
include hu hk
theorem mapI_upd {w : World} {r : Nat} {kn : Int → Option Value} (h : MapI w r kn) (k : Int) (v : Value) :
  ∃ W, (Instr.mapUpdate T (.map (some r)) (.int .i64 k) v).run P w = .ok () W ∧ Wr [r] w W ∧ MapI W r (fun j => if j = k then some v else kn j) := by
 have hr := h.lt
 obtain ⟨es, c, h1, h2, h3⟩ := h
 have hc : ∀ w, (Instr.checkKey false 10000 K (.int .i64 k)).run P w = .ok () w := fun w => MapKept.run_checkKey hk (by simp [MapKept.IsKey]) false 9999
 have hW : ∀ o, Wr [r] w { w with heap := w.heap.setIfInBounds r o } := fun o => ⟨rfl, rfl, rfl, by simp, fun j _ hj => by
  have : r ≠ j := fun e => hj (by simp [e])
  simp [this]⟩
 have hH : ∀ o, (w.heap.setIfInBounds r o)[r]? = some o := fun o => by simp [hr]
 obtain ⟨o, g1, g2, g3⟩ := findNow_int es.toList k 0 h2
 cases o with
 | none =>
  refine ⟨_, ins_at hu hk w r es c (.int .i64 k) v h1 hc g1, hW _, _, _, hH _, ?_, ?_⟩
  ·intro e he
   simp only [Array.toList_push, List.mem_append, qmsq] at he
   rcases he with he | rfl
   ·exact h2 e he
   ·exact ⟨k, rfl⟩
  ·intro k'
   rw [Array.toList_push, fndI_push es.toList k v c g2.symm h2 k', h3]
 | some p =>
  obtain ⟨j, e, q1, q2, q3, q4⟩ := g3 p rfl
  have hj : es[p.1]? = some e := by
   rw [q1, Nat.zero_add, ← Array.getElem?_toList]
   exact q2
  have hrun : (Instr.mapUpdate T (.map (some r)) (.int .i64 k) v).run P w = .ok () { w with heap := w.heap.setIfInBounds r (.map (es.modify p.1 fun e => { e with key := .int .i64 k, val := v }) c) } := by
   obtain ⟨a, b⟩ := p
   simp only at hj
   simp [Instr.mapUpdate, run_underlying hu, Sem.run_bind, hc, Instr.findKey, run_underlying hk, g1, getObj, setObj, Sem.run, h1, Result.andThen, hj, q3]
   have := MapKept.run_keyThatStays (P := P) (w := w) (d := .int .i64) (k := .int .i64 k) (by simp [MapKept.IsKey])
   rw [this]
   simp [h1]
  refine ⟨_, hrun, hW _, _, _, hH _, ?_, ?_⟩
  ·rw [Array.toList_modify]
   exact intKeys_modify _ h2 _ _ _
  ·intro k'
   rw [Array.toList_modify, q1, Nat.zero_add, q4 v k', h3]
end
end Go.Proofs.YtildcdgobdfieaaGreat
