/- law 14's turned: walked. Conditions: the order is one, the interface is not large. -/
import Derived.Test.YtmpbkfbjmmoapaaGreatIT01
import Derived.Test.YtmpbkfbjmmoapaaGreatIT19
import Derived.Test.YtmpbkfbjmmoapaaGreatIT22
import Derived.Test.YtmpbkfbjmmoapaaGreatIT17
import Derived.Laws.MakeOwn
import Derived.Deep.Cut
import Derived.Deep.DeepCutAuto
namespace Go.Proofs.YtmpbkfbjmmoapaaGreat
open Go.RowKit
set_option linter.unusedVariables false
set_option linter.unusedSimpArgs false
def TnAt (w : World) (f : FaceP) (ord : List Nat) (g tb TB : Nat) (fc : Array Value) (vu : Value) (i : Nat) (wr : World) : Prop :=
 Wr [] w wr ∧ Blk wr g 26 fc ∧ Blk wr (g + 1) 26 #[.string ⟨#[]⟩, .slice none 0 0, .slice none 0 0, .slice none 0 0] ∧ Blk wr tb 26 #[.string f.module, vu, .slice (some ⟨TB, 0, none⟩) f.types.length f.types.length, .slice none 0 0] ∧
  RowP TyRel 12 w.heap.size 50 (.slice (some ⟨TB, 0, none⟩) f.types.length f.types.length) (turnT ord f.types i) (fun bl => bl ≠ tb ∧ bl ≠ g + 1) wr
def TnCut (w : World) (f : FaceP) (ord : List Nat) (g : Nat) (fc : Array Value) (vu : Value) (s5 : Value) (wx : World) : Prop :=
 ∃ tb TB, s5 = .pointer (some ⟨tb, 0, none⟩) ∧ g + 1 < tb ∧ g + 1 < TB ∧ tb ≠ TB ∧ TnAt w f ord g tb TB fc vu 0 wx
def FdAt (w0 : World) (ef : Nat) (T : TypeId) (size : Nat) (v : Value) (n : Nat) (xs : List Value) (wr : World) : Prop := Wr (ownL v) w0 wr ∧ wr.ownsRow ef T size v n xs
theorem zero_ty_rel (w : World) (P : Nat → Prop) : TyRel w P [.int .u8 0, .string ⟨#[]⟩, .string ⟨#[]⟩, .int .i64 0, .int .i64 0, .int .i64 0, .int .i64 0, .slice none 0 0, .slice none 0 0, .slice none 0 0, .slice none 0 0, .int .i64 0] zeroTy := ⟨_, _, _, _, rfl, ⟨Sl.nil _ _ _, Sl.nil _ _ _, SlArms.nil _ _, Sl.nil _ _ _⟩⟩
theorem made_types (n : Nat) (hn : n ≤ 1000) (w : World) : (Instr.makeSlice 23 (.int .i64 (n : Int)) (.int .i64 (n : Int))).run Tryz.prog w = .ok (.slice (some ⟨w.heap.size, 0, none⟩) n n) (w.alloc (.cells (madeCells #[.int .u8 0, .string ⟨#[]⟩, .string ⟨#[]⟩, .int .i64 0, .int .i64 0, .int .i64 0, .int .i64 0, .slice none 0 0, .slice none 0 0, .slice none 0 0, .slice none 0 0, .int .i64 0] (n * 12)) 50)) := by
 obtain ⟨i1, hi1, hy0, hy1, hy2⟩ := info_parts info_typ
 have := run_make (P := Tryz.prog) w 23 50 i1 _ Tryz.underlying23 hi1 hy0 .i64 .i64 (n : Int) (n : Int) (by omega) (Int.le_refl _) (by rw [hy2]; omega) (by omega)
 rw [hy1, Int.toNat_natCast] at this
 exact this
theorem made_at (c : Array Value) (m i : Nat) (h : i < m) : (madeCells c m)[i]? = some c[i % c.size]! := by
 simp [madeCells, h]
theorem row_made {w : World} {base TB n : Nat} {P : Nat → Prop} (h : Blk w TB 50 (madeCells #[.int .u8 0, .string ⟨#[]⟩, .string ⟨#[]⟩, .int .i64 0, .int .i64 0, .int .i64 0, .int .i64 0, .slice none 0 0, .slice none 0 0, .slice none 0 0, .slice none 0 0, .int .i64 0] (n * 12))) (hb : base ≤ TB) (hn : n ≤ 1000) : RowP TyRel 12 base 50 (.slice (some ⟨TB, 0, none⟩) n n) (List.replicate n zeroTy) P w := by
 have hsz : (madeCells #[.int .u8 0, .string ⟨#[]⟩, .string ⟨#[]⟩, .int .i64 0, .int .i64 0, .int .i64 0, .int .i64 0, .slice none 0 0, .slice none 0 0, .slice none 0 0, .slice none 0 0, .int .i64 0] (n * 12)).size = n * 12 := by simp [madeCells]
 refine ⟨(madeCells #[.int .u8 0, .string ⟨#[]⟩, .string ⟨#[]⟩, .int .i64 0, .int .i64 0, .int .i64 0, .int .i64 0, .slice none 0 0, .slice none 0 0, .slice none 0 0, .slice none 0 0, .int .i64 0] (n * 12)).toList, ?_, fun u hu => ?_, fun i x hi => ⟨[.int .u8 0, .string ⟨#[]⟩, .string ⟨#[]⟩, .int .i64 0, .int .i64 0, .int .i64 0, .int .i64 0, .slice none 0 0, .slice none 0 0, .slice none 0 0, .slice none 0 0, .int .i64 0], rfl, fun j u hj => ?_, ?_⟩⟩
 ·rw [List.length_replicate]
  exact ⟨by simp [madeCells], .inr ⟨TB, n, _, rfl, hb, h, Nat.le_refl _, by unfold maxLen; omega, hsz, by rw [List.take_of_length_le (by rw [Array.length_toList, hsz]; exact Nat.le_refl _)]⟩⟩
 ·obtain ⟨i, hi⟩ := List.mem_iff_getElem?.1 hu
  rw [Array.getElem?_toList] at hi
  have hil : i < n * 12 := by
   have := (Array.getElem?_eq_some_iff.1 hi).1
   omega
  rw [made_at _ _ _ hil] at hi
  injection hi with hi
  have hm : i % 12 < 12 := Nat.mod_lt _ (by decide)
  have key : ∀ k : Fin 12, (#[.int .u8 0, .string ⟨#[]⟩, .string ⟨#[]⟩, .int .i64 0, .int .i64 0, .int .i64 0, .int .i64 0, .slice none 0 0, .slice none 0 0, .slice none 0 0, .slice none 0 0, .int .i64 0] : Array Value)[k.val]!.oneCell' = true := by decide
  rw [← hi]
  exact key ⟨i % 12, hm⟩
 ·have hj12 : j < 12 := (List.getElem?_eq_some_iff.1 hj).1
  have hin : i < n := by
   have := (List.getElem?_eq_some_iff.1 hi).1
   rwa [List.length_replicate] at this
  rw [Array.getElem?_toList, made_at _ _ _ (by omega)]
  have e : (i * 12 + j) % (#[.int .u8 0, .string ⟨#[]⟩, .string ⟨#[]⟩, .int .i64 0, .int .i64 0, .int .i64 0, .int .i64 0, .slice none 0 0, .slice none 0 0, .slice none 0 0, .slice none 0 0, .int .i64 0] : Array Value).size = j := by
   show (i * 12 + j) % 12 = j
   omega
  rw [e]
  have key : ∀ k : Fin 12, some (#[.int .u8 0, .string ⟨#[]⟩, .string ⟨#[]⟩, .int .i64 0, .int .i64 0, .int .i64 0, .int .i64 0, .slice none 0 0, .slice none 0 0, .slice none 0 0, .slice none 0 0, .int .i64 0] : Array Value)[k.val]! = ([.int .u8 0, .string ⟨#[]⟩, .string ⟨#[]⟩, .int .i64 0, .int .i64 0, .int .i64 0, .int .i64 0, .slice none 0 0, .slice none 0 0, .slice none 0 0, .slice none 0 0, .int .i64 0] : List Value)[k.val]? := fun k => by
   match k with
   | ⟨0, _⟩ | ⟨1, _⟩ | ⟨2, _⟩ | ⟨3, _⟩ | ⟨4, _⟩ | ⟨5, _⟩ | ⟨6, _⟩ | ⟨7, _⟩ | ⟨8, _⟩ | ⟨9, _⟩ | ⟨10, _⟩ | ⟨11, _⟩ => rfl
  rw [key ⟨j, hj12⟩]
  exact hj
 ·have hx := List.mem_of_getElem? hi
  rw [(List.mem_replicate.1 hx).2]
  exact zero_ty_rel _ _
theorem ren_lists {wo wq : World} {P Q : Nat → Prop} {vn vf va vp vf0 vp0 : Value} {t : Ty} {ρ : Int → Int} {bF bP : Nat} {TF TP : TypeId} (h : Lists wo P vn vf0 va vp0 t) (r : Wr [] wo wq) (hP : ∀ b, P b → Q b)
  (hf : wq.ownsRow bF TF 3 vf t.fields.length ((t.fields.map (renF ρ)).flatMap Fld.cells)) (hfb : ∀ b, vf.ownBlock = some b → Q b)
  (hp : wq.ownsRow bP TP 2 vp t.params.length ((t.params.map (renPar ρ)).flatMap Par.cells)) (hpb : ∀ b, vp.ownBlock = some b → Q b) : Lists wq Q vn vf va vp (renT ρ t) := by
 refine ⟨Sl.mono (Sl.wr0 h.names r) hP, ?_, (h.arms.keep r (fun _ _ => by simp)).into (fun b hb _ => hP b hb), ?_⟩
 ·show Sl wq Q 3 vf (t.fields.map (renF ρ)).length _
  rw [List.length_map]
  exact Sl.ofOwn hf hfb
 ·show Sl wq Q 2 vp (t.params.map (renPar ρ)).length _
  rw [List.length_map]
  exact Sl.ofOwn hp hpb
theorem tn_step {w wo W wS : World} {f : FaceP} {ord : List Nat} {g tb TB : Nat} {fc : Array Value} {vu : Value} {i k : Nat} {t : Ty} {ys : List Value} {vn vf va vp : Value} (r : Wr [] w W) (ro : Wr [] wo W)
  (bA : Blk wo g 26 fc) (bR : Blk wo (g + 1) 26 #[.string ⟨#[]⟩, .slice none 0 0, .slice none 0 0, .slice none 0 0]) (bT : Blk wo tb 26 #[.string f.module, vu, .slice (some ⟨TB, 0, none⟩) f.types.length f.types.length, .slice none 0 0])
  (row : RowP TyRel 12 w.heap.size 50 (.slice (some ⟨TB, 0, none⟩) f.types.length f.types.length) (turnT ord f.types i) (fun bl => bl ≠ tb ∧ bl ≠ g + 1) wo)
  (hk : ord[i]? = some k) (ht : f.types[i]? = some t) (hkl : k < f.types.length) (hg1 : g + 1 < tb) (hg2 : g + 1 < TB) (hne : tb ≠ TB) (hg : w.heap.size = g) (hs : stW TB (k * 12) ys W = wS)
  (hy : ys = (renT (movedN ord) t).cells vn vf va vp) (hone : ∀ u ∈ ys, u.oneCell' = true) (hl : Lists W (fun b => (b ≠ tb ∧ b ≠ g + 1) ∧ b ≠ TB) vn vf va vp (renT (movedN ord) t)) : TnAt w f ord g tb TB fc vu (i + 1) wS.drew := by
 have rS := wr_stW TB ys (k * 12) W
 rw [hs] at rS
 refine ⟨(r.new rS (by omega)).drew, ((bA.wr0 ro).wr rS (by simp; omega)).drew, ((bR.wr0 ro).wr rS (by simp; omega)).drew, ((bT.wr0 ro).wr rS (by simp; omega)).drew, RowP.keep tyOk ?_ (Wr.refl [] _).drew (fun _ _ => by simp) (fun _ _ _ => by simp)⟩
 have h := RowP.set tyOk (RowP.keep tyOk row ro (fun _ _ => by simp) (fun _ _ _ => by simp)) (g := TB) rfl (k := k) (by rw [turnT_len]; exact hkl) (ys := ys) (by rw [hy]; rfl) hone (x := renT (movedN ord) t) ⟨vn, vf, va, vp, hy, hl.mono (fun b hb => ⟨hb.1, fun e => hb.2 (by injection e with e; exact e.symm)⟩)⟩
 rw [hs] at h
 have e : turnT ord f.types (i + 1) = (turnT ord f.types i).set k (renT (movedN ord) t) := by
  rw [turnT, List.getD_eq_getElem?_getD, hk, List.getD_eq_getElem?_getD, ht]
  rfl
 rw [e]
 exact h
def TurnR (f : FaceP) (ord : List Nat) (vu : Value) (w : World) (e : Ending) (w' : World) : Prop :=
 ∃ vt vi, e = .returned (.agg #[.string f.module, vu, vt, vi]) ∧ Wr [] w w' ∧ FacePL w' (fun _ => True) vu vt vi (turnP f ord)
set_option maxRecDepth 100000 in
set_option maxHeartbeats 16000000 in
theorem turned_any (f : FaceP) (ord : List Nat) (vu vt vi vo : Value) (P R : Nat → Prop) (w : World) (h : FacePL w P vu vt vi f) (ho : Sl w R 1 vo ord.length (ordC ord)) (hl : ord.length = f.types.length) (hlt : ∀ k ∈ ord, k < f.types.length)
  (ht : ∀ t ∈ f.types, tyBnd t) (hi : ∀ x ∈ f.items, i64B x.type ∧ i64B x.v.type) (n1 : f.types.length ≤ 60) (n2 : f.items.length ≤ 60) (h40 : ∀ t ∈ f.types, few40 t) :
  Calls Tryz.prog 8 #[.agg #[.string f.module, vu, vt, vi], vo] w (TurnR f ord vu w) := by
 replace h := h.into (Q := fun b => b < w.heap.size) (fun b _ hb => hb)
 obtain ⟨⟨A1, k1, rfl, _, _⟩, ⟨A2, k2, rfl, _, ma2⟩, ⟨A3, k3, rfl, _, ma3⟩⟩ := h.forms
 obtain ⟨Ao, co, rfl, _, mo⟩ := Sl.form ho
 unfold maxLen at ma2 ma3 mo
 have hmk := fun W => made_types f.types.length (by omega) W
 obtain ⟨w0, hw0⟩ : ∃ w0, (w.alloc (.cells #[.string f.module, .slice A1 f.uses.length k1, .slice A2 f.types.length k2, .slice A3 f.items.length k3] 26)).alloc (.cells #[.string ⟨#[]⟩, .slice none 0 0, .slice none 0 0, .slice none 0 0] 26) = w0 := ⟨_, rfl⟩
 obtain ⟨g, hg⟩ : ∃ g, w.heap.size = g := ⟨_, rfl⟩
 have acc : Wr [] w w0 := by rw [← hw0]; exact ((Wr.refl _ _).alloc _).alloc _
 have bA : Blk w0 g 26 #[.string f.module, .slice A1 f.uses.length k1, .slice A2 f.types.length k2, .slice A3 f.items.length k3] := by rw [← hw0, ← hg]; exact (Blk.new _ _ _).alloc _
 have bR : Blk w0 (g + 1) 26 #[.string ⟨#[]⟩, .slice none 0 0, .slice none 0 0, .slice none 0 0] := by
  have hb := Blk.new (w.alloc (.cells #[.string f.module, .slice A1 f.uses.length k1, .slice A2 f.types.length k2, .slice A3 f.items.length k3] 26)) 26 #[.string ⟨#[]⟩, .slice none 0 0, .slice none 0 0, .slice none 0 0]
  rw [show (w.alloc (.cells #[.string f.module, .slice A1 f.uses.length k1, .slice A2 f.types.length k2, .slice A3 f.items.length k3] 26)).heap.size = g + 1 by simp [hg], hw0] at hb
  exact hb
 have s0 : w0.heap.size = g + 1 + 1 := by rw [← hw0]; simp [hg]
 have c0 := bA.cell 0
 have c1 := bA.cell 1
 have c2 := bA.cell 2
 have c3 := bA.cell 3
 simp only [qgaq, qgzq, qgsq] at c0 c1 c2 c3
 have H := Lib.hid h
 have HO := Lib.hid ho
 have HT := Lib.hid ht
 have HI := Lib.hid hi
 have H40 := Lib.hid h40
 have HLT := Lib.hid hlt
 have HL := Lib.hid hl
 have HW0 := Lib.hid hw0
 have HG := Lib.hid hg
 have S0 := Lib.hid s0
 clear h ho ht hi h40 hlt hw0 hg s0 hl
 go_enter Tryz.func8, Tryz.ntmps8
 go_upto_region 1 with (fail)
 rw [HW0.out, HG.out]
 go_cut [5] (fun s5 wx => TnCut w f ord g #[.string f.module, .slice A1 f.uses.length k1, .slice A2 f.types.length k2, .slice A3 f.items.length k3] (.slice A1 f.uses.length k1) s5 wx)
 case first =>
  rename_i J K' hJ hK'
  have hC : ∀ W, Wr [] w0 W → W.cell? ⟨g, 0, none⟩ = some (.string f.module) ∧ W.cell? ⟨g, 1, none⟩ = some (.slice A1 f.uses.length k1) ∧ W.cell? ⟨g, 2, none⟩ = some (.slice A2 f.types.length k2) ∧ W.cell? ⟨g, 3, none⟩ = some (.slice A3 f.items.length k3) := fun W hW => ⟨hW.cellOf c0 (by simp), hW.cellOf c1 (by simp), hW.cellOf c2 (by simp), hW.cellOf c3 (by simp)⟩
  have HC := Lib.hid hC
  clear hC
  refine wp_region_noPanic ?_
  refine wp_region_L (Until 10 fun w' => w'.cell? ⟨g, 0, none⟩ = some (.string f.module) ∧ w'.cell? ⟨g, 1, none⟩ = some (.slice A1 f.uses.length k1) ∧ w'.cell? ⟨g, 2, none⟩ = some (.slice A2 f.types.length k2) ∧ w'.cell? ⟨g, 3, none⟩ = some (.slice A3 f.items.length k3)) (by kernel_rfl) (fun hcl => ?_)
  have hS : Until 10 (fun w' => w'.cell? ⟨g, 0, none⟩ = some (.string f.module) ∧ w'.cell? ⟨g, 1, none⟩ = some (.slice A1 f.uses.length k1) ∧ w'.cell? ⟨g, 2, none⟩ = some (.slice A2 f.types.length k2) ∧ w'.cell? ⟨g, 3, none⟩ = some (.slice A3 f.items.length k3)) (Array.replicate 11 false) w0.drew := fun _ => ⟨c0, c1, c2, c3⟩
  refine wpAnyL_take (i := 0) (oi := ?oi1) (v := ?v1) ?hi1 (by kernel_rfl) (by kernel_rfl) (by kernel_rfl) (fun _ _ _ h => h) (until_take 10 _ (by decide)) ?hy1 hcl hS ?rest1
  case hi1 =>
   simp only [qgaq, qgsq, qgzq]
   rfl
  case hy1 =>
   refine yields_until (by kernel_rfl) (Or.inl ⟨by rfl, fun w' hS => ?_⟩)
   try go_split_ands
   go_simp
   try rfl
  case rest1 =>
  intro hcl1 hS1
  clear hcl hS
  try simp only [Act.put, qsaq, qszq, qssq]
  refine wpAnyL_take (i := 1) (oi := ?oi2) (v := ?v2) ?hi2 (by kernel_rfl) (by kernel_rfl) (by kernel_rfl) (fun _ _ _ h => h) (until_take 10 _ (by decide)) ?hy2 hcl1 hS1 ?rest2
  case hi2 =>
   simp only [qgaq, qgsq, qgzq]
   rfl
  case hy2 =>
   refine yields_until (by kernel_rfl) (Or.inl ⟨by rfl, fun w' hS => ?_⟩)
   try go_split_ands
   go_simp
   try rfl
  case rest2 =>
  intro hcl2 hS2
  clear hcl1 hS1
  try simp only [Act.put, qsaq, qszq, qssq]
  refine wpAnyL_take (i := 2) (oi := ?oi3) (v := ?v3) ?hi3 (by kernel_rfl) (by kernel_rfl) (by kernel_rfl) (fun _ _ _ h => h) (until_take 10 _ (by decide)) ?hy3 hcl2 hS2 ?rest3
  case hi3 =>
   simp only [qgaq, qgsq, qgzq]
   rfl
  case hy3 =>
   refine yields_until (by kernel_rfl) (Or.inl ⟨by rfl, fun w' hS => ?_⟩)
   try go_split_ands
   go_simp
   try rfl
  case rest3 =>
  intro hcl3 hS3
  clear hcl2 hS2
  try simp only [Act.put, qsaq, qszq, qssq]
  refine wpAnyL_take (i := 3) (oi := ?oi4) (v := ?v4) ?hi4 (by kernel_rfl) (by kernel_rfl) (by kernel_rfl) (fun _ _ _ h => h) (until_take 10 _ (by decide)) ?hy4 hcl3 hS3 ?rest4
  case hi4 =>
   simp only [qgaq, qgsq, qgzq]
   rfl
  case hy4 =>
   refine yields_until (by kernel_rfl) (Or.inl ⟨by rfl, fun w' hS => ?_⟩)
   try go_split_ands
   go_simp
   try rfl
  case rest4 =>
  intro hcl4 hS4
  clear hcl3 hS3
  try simp only [Act.put, qsaq, qszq, qssq]
  refine wpAnyL_take (i := 4) (oi := ?oi5) (v := ?v5) ?hi5 (by kernel_rfl) (by kernel_rfl) (by kernel_rfl) (fun _ _ _ h => h) (until_take 10 _ (by decide)) ?hy5 hcl4 hS4 ?rest5
  case hi5 =>
   simp only [qgaq, qgsq, qgzq]
   rfl
  case hy5 =>
   refine yields_until (by kernel_rfl) (Or.inl ⟨by rfl, fun w' hS => ?_⟩)
   try go_split_ands
   go_simp
   try rfl
  case rest5 =>
  intro hcl5 hS5
  clear hcl4 hS4
  try simp only [Act.put, qsaq, qszq, qssq]
  refine wpAnyL_take (i := 5) (oi := ?oi6) (v := ?v6) ?hi6 (by kernel_rfl) (by kernel_rfl) (by kernel_rfl) (fun _ _ _ h => h) (until_take 10 _ (by decide)) ?hy6 hcl5 hS5 ?rest6
  case hi6 =>
   simp only [qgaq, qgsq, qgzq]
   rfl
  case hy6 =>
   refine yields_until (by kernel_rfl) (Or.inl ⟨by rfl, fun w' hS => ?_⟩)
   try go_split_ands
   go_simp
   try rfl
  case rest6 =>
  intro hcl6 hS6
  clear hcl5 hS5
  try simp only [Act.put, qsaq, qszq, qssq]
  refine wpAnyL_take (i := 6) (oi := ?oi7) (v := ?v7) ?hi7 (by kernel_rfl) (by kernel_rfl) (by kernel_rfl) (fun _ _ _ h => h) (until_take 10 _ (by decide)) ?hy7 hcl6 hS6 ?rest7
  case hi7 =>
   simp only [qgaq, qgsq, qgzq]
   rfl
  case hy7 =>
   refine yields_until (by kernel_rfl) (Or.inl ⟨by rfl, fun w' hS => ?_⟩)
   try go_split_ands
   go_simp
   try rfl
  case rest7 =>
  intro hcl7 hS7
  clear hcl6 hS6
  try simp only [Act.put, qsaq, qszq, qssq]
  refine wpAnyL_two (i := 7) (j := 9) (oi := ?oi8) (oj := ?oj8) ?hi8 ?hj8 (by kernel_rfl) hcl7 ?resta8 ?restb8
  case hi8 =>
   simp only [qgaq, qgsq, qgzq]
   rfl
  case hj8 =>
   simp only [qgaq, qgsq, qgzq]
   rfl
  case resta8 =>
   intro K hK
   go_simp
   refine hK _ _ (fun _ => HC.out _ ((Wr.refl [] w0).drew.alloc _)) (fun hcl8 => ?_)
   clear hK K hcl7 hS7
   try simp only [Act.put, qsaq, qszq, qssq]
   refine wpAnyL_take (i := 8) (oi := ?oi9) (v := ?v9) ?hi9 (by kernel_rfl) (by kernel_rfl) (by kernel_rfl) (fun _ _ _ h => h) (until_take 10 _ (by decide)) ?hy9 hcl8 (fun _ => HC.out _ ((Wr.refl [] w0).drew.alloc _)) ?rest9
   case hi9 =>
    simp only [qgaq, qgsq, qgzq]
    rfl
   case hy9 =>
    refine yields_until (by kernel_rfl) (Or.inl ⟨by rfl, fun w' hS => ?_⟩)
    try go_split_ands
    go_simp
    try rfl
   case rest9 =>
   intro hcl9 hS9
   clear hcl8
   try simp only [Act.put, qsaq, qszq, qssq]
   refine wpAnyL_step (i := 9) (o := ?oi10) ?hi10 (by kernel_rfl) hcl9 ?rest10
   case hi10 =>
    simp only [qgaq, qgsq, qgzq]
    rfl
   case rest10 =>
   intro K hK
   go_simp
   refine hK _ _ (fun _ => HC.out _ (((Wr.refl [] w0).drew.alloc _).alloc _)) (fun hcl10 => ?_)
   clear hK K hcl9 hS9
   try simp only [Act.put, qsaq, qszq, qssq]
   refine wpAnyL_step (i := 10) (o := ?oi11) ?hi11 (by kernel_rfl) hcl10 ?rest11
   case hi11 =>
    simp only [qgaq, qgsq, qgzq]
    rfl
   case rest11 =>
   intro K hK
   go_simp
   refine hK _ _ (fun hb => absurd hb (by decide)) (fun hcl999 => ?_)
   clear hK K hcl10
   refine wpAnyL_done (by kernel_rfl) (NoPanic.normal ?_) _
   try simp only [Act.put, qsaq, qszq, qssq]
   have hs0 := S0.out
   have hgg := HG.out
   obtain ⟨WX, hWX⟩ : ∃ q, ((w0.alloc (.cells (madeCells #[.int .u8 0, .string ⟨#[]⟩, .string ⟨#[]⟩, .int .i64 0, .int .i64 0, .int .i64 0, .int .i64 0, .slice none 0 0, .slice none 0 0, .slice none 0 0, .slice none 0 0, .int .i64 0] (f.types.length * 12)) 50)).alloc (.cells #[.string f.module, .slice A1 f.uses.length k1, .slice (some ⟨w0.heap.size, 0, none⟩) f.types.length f.types.length, .slice none 0 0] 26)).drew = q := ⟨_, rfl⟩
   have hb1 : Blk WX w0.heap.size 50 (madeCells #[.int .u8 0, .string ⟨#[]⟩, .string ⟨#[]⟩, .int .i64 0, .int .i64 0, .int .i64 0, .int .i64 0, .slice none 0 0, .slice none 0 0, .slice none 0 0, .slice none 0 0, .int .i64 0] (f.types.length * 12)) := by rw [← hWX]; exact ((Blk.new _ _ _).alloc _).drew
   have hb2 : Blk WX (w0.heap.size + 1) 26 #[.string f.module, .slice A1 f.uses.length k1, .slice (some ⟨w0.heap.size, 0, none⟩) f.types.length f.types.length, .slice none 0 0] := by
    rw [← hWX]
    have h := (Blk.new (w0.alloc (.cells (madeCells #[.int .u8 0, .string ⟨#[]⟩, .string ⟨#[]⟩, .int .i64 0, .int .i64 0, .int .i64 0, .int .i64 0, .slice none 0 0, .slice none 0 0, .slice none 0 0, .slice none 0 0, .int .i64 0] (f.types.length * 12)) 50)) 26 #[.string f.module, .slice A1 f.uses.length k1, .slice (some ⟨w0.heap.size, 0, none⟩) f.types.length f.types.length, .slice none 0 0]).drew
    rw [show (w0.alloc (.cells (madeCells #[.int .u8 0, .string ⟨#[]⟩, .string ⟨#[]⟩, .int .i64 0, .int .i64 0, .int .i64 0, .int .i64 0, .slice none 0 0, .slice none 0 0, .slice none 0 0, .slice none 0 0, .int .i64 0] (f.types.length * 12)) 50)).heap.size = w0.heap.size + 1 by simp] at h
    exact h
   have rx : Wr [] w0 WX := by rw [← hWX]; exact (((Wr.refl [] w0).alloc _).alloc _).drew
   have hcut : TnCut w f ord g #[.string f.module, .slice A1 f.uses.length k1, .slice A2 f.types.length k2, .slice A3 f.items.length k3] (.slice A1 f.uses.length k1) (.pointer (some ⟨w0.heap.size + 1, 0, none⟩)) WX :=
    ⟨w0.heap.size + 1, w0.heap.size, rfl, by omega, by omega, by omega, acc.trans rx, bA.wr0 rx, bR.wr0 rx, hb2, row_made hb1 (by omega) (by omega)⟩
   rw [hWX]
   clear hb1 hb2 rx
   refine hK' _ _ (Met.intro (hJ _ _ ?_))
   repeat apply Exists.intro
   exact ⟨hcut, rfl⟩
  case restb8 =>
   intro K hK
   go_simp
   refine hK _ _ (fun _ => HC.out _ ((Wr.refl [] w0).drew.alloc _)) (fun hcl8 => ?_)
   clear hK K hcl7 hS7
   try simp only [Act.put, qsaq, qszq, qssq]
   refine wpAnyL_step (i := 7) (o := ?oi109) ?hi109 (by kernel_rfl) hcl8 ?rest109
   case hi109 =>
    simp only [qgaq, qgsq, qgzq]
    rfl
   case rest109 =>
   intro K hK
   go_simp
   refine hK _ _ (fun _ => HC.out _ (((Wr.refl [] w0).drew.alloc _).alloc _)) (fun hcl109 => ?_)
   clear hK K hcl8
   try simp only [Act.put, qsaq, qszq, qssq]
   refine wpAnyL_take (i := 8) (oi := ?oi110) (v := ?v110) ?hi110 (by kernel_rfl) (by kernel_rfl) (by kernel_rfl) (fun _ _ _ h => h) (until_take 10 _ (by decide)) ?hy110 hcl109 (fun _ => HC.out _ (((Wr.refl [] w0).drew.alloc _).alloc _)) ?rest110
   case hi110 =>
    simp only [qgaq, qgsq, qgzq]
    rfl
   case hy110 =>
    refine yields_until (by kernel_rfl) (Or.inl ⟨by rfl, fun w' hS => ?_⟩)
    try go_split_ands
    go_simp
    try rfl
   case rest110 =>
   intro hcl110 hS110
   clear hcl109
   try simp only [Act.put, qsaq, qszq, qssq]
   refine wpAnyL_step (i := 10) (o := ?oi111) ?hi111 (by kernel_rfl) hcl110 ?rest111
   case hi111 =>
    simp only [qgaq, qgsq, qgzq]
    rfl
   case rest111 =>
   intro K hK
   go_simp
   refine hK _ _ (fun hb => absurd hb (by decide)) (fun hcl999 => ?_)
   clear hK K hcl110 hS110
   refine wpAnyL_done (by kernel_rfl) (NoPanic.normal ?_) _
   try simp only [Act.put, qsaq, qszq, qssq]
   have hs0 := S0.out
   have hgg := HG.out
   obtain ⟨WX, hWX⟩ : ∃ q, ((w0.alloc (.cells #[.string f.module, .slice A1 f.uses.length k1, .slice (some ⟨w0.heap.size + 1, 0, none⟩) f.types.length f.types.length, .slice none 0 0] 26)).alloc (.cells (madeCells #[.int .u8 0, .string ⟨#[]⟩, .string ⟨#[]⟩, .int .i64 0, .int .i64 0, .int .i64 0, .int .i64 0, .slice none 0 0, .slice none 0 0, .slice none 0 0, .slice none 0 0, .int .i64 0] (f.types.length * 12)) 50)).drew = q := ⟨_, rfl⟩
   have hb1 : Blk WX w0.heap.size 26 #[.string f.module, .slice A1 f.uses.length k1, .slice (some ⟨w0.heap.size + 1, 0, none⟩) f.types.length f.types.length, .slice none 0 0] := by rw [← hWX]; exact ((Blk.new _ _ _).alloc _).drew
   have hb2 : Blk WX (w0.heap.size + 1) 50 (madeCells #[.int .u8 0, .string ⟨#[]⟩, .string ⟨#[]⟩, .int .i64 0, .int .i64 0, .int .i64 0, .int .i64 0, .slice none 0 0, .slice none 0 0, .slice none 0 0, .slice none 0 0, .int .i64 0] (f.types.length * 12)) := by
    rw [← hWX]
    have h := (Blk.new (w0.alloc (.cells #[.string f.module, .slice A1 f.uses.length k1, .slice (some ⟨w0.heap.size + 1, 0, none⟩) f.types.length f.types.length, .slice none 0 0] 26)) 50 (madeCells #[.int .u8 0, .string ⟨#[]⟩, .string ⟨#[]⟩, .int .i64 0, .int .i64 0, .int .i64 0, .int .i64 0, .slice none 0 0, .slice none 0 0, .slice none 0 0, .slice none 0 0, .int .i64 0] (f.types.length * 12))).drew
    rw [show (w0.alloc (.cells #[.string f.module, .slice A1 f.uses.length k1, .slice (some ⟨w0.heap.size + 1, 0, none⟩) f.types.length f.types.length, .slice none 0 0] 26)).heap.size = w0.heap.size + 1 by simp] at h
    exact h
   have rx : Wr [] w0 WX := by rw [← hWX]; exact (((Wr.refl [] w0).alloc _).alloc _).drew
   have hcut : TnCut w f ord g #[.string f.module, .slice A1 f.uses.length k1, .slice A2 f.types.length k2, .slice A3 f.items.length k3] (.slice A1 f.uses.length k1) (.pointer (some ⟨w0.heap.size, 0, none⟩)) WX :=
    ⟨w0.heap.size, w0.heap.size + 1, rfl, by omega, by omega, by omega, acc.trans rx, bA.wr0 rx, bR.wr0 rx, hb1, row_made hb2 (by omega) (by omega)⟩
   rw [hWX]
   clear hb1 hb2 rx
   refine hK' _ _ (Met.intro (hJ _ _ ?_))
   repeat apply Exists.intro
   exact ⟨hcut, rfl⟩
 case rest =>
  obtain ⟨tb, TB, rfl, hg1, hg2, hne, hat⟩ := hcut
  have HAT := Lib.hid hat
  clear hat acc bA bR hmk c0 c1 c2 c3
  go_wp2_with fail
  go_loopw [6] (fun s6 wr => ∃ i : Nat, i ≤ f.types.length ∧ s6 = .int .i64 i ∧ TnAt w f ord g tb TB #[.string f.module, .slice A1 f.uses.length k1, .slice A2 f.types.length k2, .slice A3 f.items.length k3] (.slice A1 f.uses.length k1) i wr) (fun s6 _ => f.types.length - (intOf s6).toNat)
  case atStart => exact ⟨0, by omega, rfl, HAT.out⟩
  case round =>
   obtain ⟨i, hi, rfl, ra, bA, bR, bT, row⟩ := hrel
   obtain ⟨wo, rfl⟩ : ∃ wo : World, wo = wr := ⟨_, rfl⟩
   have c2 := bA.cell 2
   have c3 := bA.cell 3
   simp only [qgaq, qgzq, qgsq] at c2 c3
   have RA := Lib.hid ra
   have BA := Lib.hid bA
   have BR := Lib.hid bR
   have BT := Lib.hid bT
   have ROW := Lib.hid row
   clear ra bA bR bT row
   by_cases hlt : i < f.types.length
   ·obtain ⟨t, htt⟩ : ∃ t, f.types[i]? = some t := ⟨_, List.getElem?_eq_getElem hlt⟩
    have hmem := List.mem_of_getElem? htt
    obtain ⟨tb1, tb2, tb3, tb4, tb5⟩ := HT.out t hmem
    obtain ⟨f40, p40⟩ := H40.out t hmem
    obtain ⟨b, off, c', un, uf, ua, up, e, _, hcx, hls⟩ := ty_at (H.out.types.wr0 RA.out) htt
    injection e with e1 _ e3
    subst e1 e3
    obtain ⟨⟨N1, m1, rfl, _, _⟩, ⟨N2, m2, rfl, _, mm2⟩, ⟨N3, m3, rfl, _, _⟩, ⟨N4, m4, rfl, _, mm4⟩⟩ := hls.forms
    have x0 := hcx 0 _ rfl
    have x1 := hcx 1 _ rfl
    have x2 := hcx 2 _ rfl
    have x3 := hcx 3 _ rfl
    have x4 := hcx 4 _ rfl
    have x5 := hcx 5 _ rfl
    have x6 := hcx 6 _ rfl
    have x7 := hcx 7 _ rfl
    have x8 := hcx 8 _ rfl
    have x9 := hcx 9 _ rfl
    have x10 := hcx 10 _ rfl
    have x11 := hcx 11 _ rfl
    simp only [Nat.add_zero] at x0
    have hi0 : (0 : Int) ≤ (i : Int) := by omega
    have hin : (i : Int) < (f.types.length : Int) := by omega
    obtain ⟨wb, hwb⟩ : ∃ q, wo.alloc (.cells #[.int .u8 t.kind, .string t.module, .string t.name, .int .i64 t.base, .int .i64 t.index, .int .i64 t.low, .int .i64 t.high, .slice N1 t.names.length m1, .slice N2 t.fields.length m2, .slice N3 t.arms.length m3, .slice N4 t.params.length m4, .int .i64 t.result] 50) = q := ⟨_, rfl⟩
    obtain ⟨bx, hbx⟩ : ∃ q, wo.heap.size = q := ⟨_, rfl⟩
    have rb : Wr [] wo wb := by rw [← hwb]; exact (Wr.refl [] _).alloc _
    have X : Blk wb bx 50 #[.int .u8 t.kind, .string t.module, .string t.name, .int .i64 t.base, .int .i64 t.index, .int .i64 t.low, .int .i64 t.high, .slice N1 t.names.length m1, .slice N2 t.fields.length m2, .slice N3 t.arms.length m3, .slice N4 t.params.length m4, .int .i64 t.result] := by rw [← hwb, ← hbx]; exact Blk.new _ _ _
    have HWB := Lib.hid hwb
    have HBX := Lib.hid hbx
    have HLS := Lib.hid hls
    have HTT := Lib.hid htt
    have hmv := fun (n : Int) (hn : i64B n) W (r : Wr [] w W) => moved_any ord R (.slice Ao ord.length co) n W (Sl.wr0 HO.out r) (by have := HL.out; omega) (fun k hk => by have := HLT.out k hk; omega) hn
    have HMV := Lib.hid hmv
    have RB := Lib.hid (RA.out.trans rb)
    have QB := Lib.hid rb
    have hbo : wo.heap.size ≤ bx := by omega
    have hbw : w.heap.size ≤ bx := by have := RA.out.size; omega
    clear hcx hls htt hwb hbx hmv
    go_upto_region 6 with (fail)
    rw [HWB.out, HBX.out]
    clear x0 x1 x2 x3 x4 x5 x6 x7 x8 x9 x10 x11
    have y3 := X.cell 3
    have z3 := X.frozen 3
    simp only [qgaq, qgzq, qgsq] at y3
    obtain ⟨w6, hw6⟩ : ∃ q, wb.setCell ⟨bx, 3, none⟩ (.int .i64 (movedN ord t.base)) = q := ⟨_, rfl⟩
    have X6 : Blk w6 bx 50 #[.int .u8 t.kind, .string t.module, .string t.name, .int .i64 (movedN ord t.base), .int .i64 t.index, .int .i64 t.low, .int .i64 t.high, .slice N1 t.names.length m1, .slice N2 t.fields.length m2, .slice N3 t.arms.length m3, .slice N4 t.params.length m4, .int .i64 t.result] := by
     rw [← hw6]
     have := X.set_ 3 (.int .i64 (movedN ord t.base))
     simpa using this
    have R6 := Lib.hid (RB.out.new (show Wr [bx] wb w6 by rw [← hw6]; exact (Wr.refl _ _).setOn (by simp) _) hbw)
    have Q6 := Lib.hid (QB.out.new (show Wr [bx] wb w6 by rw [← hw6]; exact (Wr.refl _ _).setOn (by simp) _) hbo)
    have Hw6 := Lib.hid hw6
    clear hw6
    go_wp2_with fail
    refine (HMV.out _ tb1 _ RB.out).mono ?_
    rintro e w' ⟨rfl, rfl⟩
    go_upto_region 7 with (fail)
    rw [Hw6.out]
    clear y3 z3 X
    have y4 := X6.cell 4
    have z4 := X6.frozen 4
    simp only [qgaq, qgzq, qgsq] at y4
    obtain ⟨w7, hw7⟩ : ∃ q, w6.setCell ⟨bx, 4, none⟩ (.int .i64 (movedN ord t.index)) = q := ⟨_, rfl⟩
    have X7 : Blk w7 bx 50 #[.int .u8 t.kind, .string t.module, .string t.name, .int .i64 (movedN ord t.base), .int .i64 (movedN ord t.index), .int .i64 t.low, .int .i64 t.high, .slice N1 t.names.length m1, .slice N2 t.fields.length m2, .slice N3 t.arms.length m3, .slice N4 t.params.length m4, .int .i64 t.result] := by
     rw [← hw7]
     have := X6.set_ 4 (.int .i64 (movedN ord t.index))
     simpa using this
    have R7 := Lib.hid (R6.out.new (show Wr [bx] w6 w7 by rw [← hw7]; exact (Wr.refl _ _).setOn (by simp) _) hbw)
    have Q7 := Lib.hid (Q6.out.new (show Wr [bx] w6 w7 by rw [← hw7]; exact (Wr.refl _ _).setOn (by simp) _) hbo)
    have Hw7 := Lib.hid hw7
    clear hw7
    go_wp2_with fail
    refine (HMV.out _ tb2 _ R6.out).mono ?_
    rintro e w' ⟨rfl, rfl⟩
    go_upto_region 8 with (fail)
    rw [Hw7.out]
    clear y4 z4 X6
    have y11 := X7.cell 11
    have z11 := X7.frozen 11
    simp only [qgaq, qgzq, qgsq] at y11
    obtain ⟨w8, hw8⟩ : ∃ q, w7.setCell ⟨bx, 11, none⟩ (.int .i64 (movedN ord t.result)) = q := ⟨_, rfl⟩
    have X8 : Blk w8 bx 50 #[.int .u8 t.kind, .string t.module, .string t.name, .int .i64 (movedN ord t.base), .int .i64 (movedN ord t.index), .int .i64 t.low, .int .i64 t.high, .slice N1 t.names.length m1, .slice N2 t.fields.length m2, .slice N3 t.arms.length m3, .slice N4 t.params.length m4, .int .i64 (movedN ord t.result)] := by
     rw [← hw8]
     have := X7.set_ 11 (.int .i64 (movedN ord t.result))
     simpa using this
    have R8 := Lib.hid (R7.out.new (show Wr [bx] w7 w8 by rw [← hw8]; exact (Wr.refl _ _).setOn (by simp) _) hbw)
    have Q8 := Lib.hid (Q7.out.new (show Wr [bx] w7 w8 by rw [← hw8]; exact (Wr.refl _ _).setOn (by simp) _) hbo)
    have Hw8 := Lib.hid hw8
    clear hw8
    go_wp2_with fail
    refine (HMV.out _ tb3 _ R7.out).mono ?_
    rintro e w' ⟨rfl, rfl⟩
    go_upto_region 9 with (fail)
    rw [Hw8.out]
    clear y11 z11 X7
    obtain ⟨iF, hiF, hz0, hz1, hz2⟩ := info_parts info_fld
    obtain ⟨eF, heF⟩ : ∃ q, w8.heap.size = q := ⟨_, rfl⟩
    obtain ⟨wE, hwE⟩ : ∃ q, w8.alloc (.cells #[] 69) = q := ⟨_, rfl⟩
    have rE : Wr [] w8 wE := by rw [← hwE]; exact (Wr.refl [] _).alloc _
    have bE : Blk wE eF 69 #[] := by rw [← hwE, ← heF]; exact Blk.new _ _ _
    obtain ⟨vF, wG, hrun, own, hgrow, _⟩ := run_append_sl (P := Tryz.prog) wE eF 46 46 69 iF _ 3 32 Tryz.underlying46 hiF hz0 hz1 hz2 rfl (by decide) (.slice (some ⟨eF, 0, none⟩) 0 0) 0 [] (own_blk0 bE (Nat.le_refl _)) _ (.slice N2 t.fields.length m2) t.fields.length (t.fields.flatMap Fld.cells) (Sl.wr0 HLS.out.fields (Q8.out.trans rE)) (one_flds _) (by unfold maxLen; omega) (by omega) (by have := rE.size; omega)
    rw [Nat.zero_add, List.nil_append] at own
    obtain ⟨AF, cF, hvF, _, _⟩ := own_form own
    subst hvF
    have rG : Wr (ownL (.slice (some ⟨eF, 0, none⟩) 0 0)) wE wG := Wr.ofGrownOwn hgrow
    have hbe : bx < eF := by rw [← heF]; exact X8.lt
    have hoe : ∀ q, q ∈ ownL (.slice (some ⟨eF, 0, none⟩) 0 0) → q = eF := fun q hq => by
     have h : eF = q := by simpa [Value.ownBlock] using mem_ownL.1 hq
     exact h.symm
    have XG := (X8.wr0 rE).wr rG (fun hm => by have := hoe _ hm; omega)
    have y8 := XG.cell 8
    have z8 := XG.frozen 8
    have x8 := (X8.alloc (.cells #[] 69)).cell 8
    simp only [qgaq, qgzq, qgsq] at y8 x8
    obtain ⟨wHF, hwH⟩ : ∃ q, wG.setCell ⟨bx, 8, none⟩ (.slice AF t.fields.length cF) = q := ⟨_, rfl⟩
    have rH : Wr [bx] wG wHF := by rw [← hwH]; exact (Wr.refl _ _).setOn (by simp) _
    have XF : Blk wHF bx 50 #[.int .u8 t.kind, .string t.module, .string t.name, .int .i64 (movedN ord t.base), .int .i64 (movedN ord t.index), .int .i64 t.low, .int .i64 t.high, .slice N1 t.names.length m1, .slice AF t.fields.length cF, .slice N3 t.arms.length m3, .slice N4 t.params.length m4, .int .i64 (movedN ord t.result)] := by
     rw [← hwH]
     have := XG.set_ 8 (.slice AF t.fields.length cF)
     simpa using this
    have ownF := own_keep own rH (fun q hq hm => by have := (own.lt q hq).1; rw [List.mem_singleton] at hm; omega)
    have QF := Lib.hid (((Q8.out.trans rE).trans' rG (fun q hq => .inr (by have := hoe q hq; have := Q8.out.size; omega))).new rH hbo)
    have RF := Lib.hid (((R8.out.trans rE).trans' rG (fun q hq => .inr (by have := hoe q hq; have := R8.out.size; omega))).new rH hbw)
    have HEF := Lib.hid heF
    have HWE := Lib.hid hwE
    have HWH := Lib.hid hwH
    have HRUN := Lib.hid hrun
    have OWNF := Lib.hid ownF
    have HBEF := Lib.hid hbe
    clear heF hwE hwH hrun ownF own hgrow rE bE rG XG rH hoe hbe hz0 hz1 hz2 hiF
    go_upto_region 10 with (at_builtin; rw [HEF.out, HWE.out]; refine wpList_append_run rfl _ _ _ rfl _ _ rfl rfl _ _ HRUN.out ?_)
    rw [HWH.out]
    clear y8 z8 x8 X8 HWE HWH HRUN
    go_wp2_with fail
    go_loopw [8] (fun s wr => ∃ k : Nat, k ≤ t.fields.length ∧ s = .int .i64 k ∧ FdAt wHF eF 69 3 (.slice AF t.fields.length cF) t.fields.length ((mixL (renF (movedN ord)) t.fields k).flatMap Fld.cells) wr) (fun s _ => t.fields.length - (intOf s).toNat)
    case atStart => exact ⟨0, by omega, rfl, Wr.refl _ _, by rw [mix_zero]; exact OWNF.out⟩
    case round =>
     obtain ⟨k, hk, rfl, rq, ow⟩ := hrel
     obtain ⟨wqF, rfl⟩ : ∃ q : World, q = wr := ⟨_, rfl⟩
     have hbe := HBEF.out
     have hlow : ∀ q, q ∈ ownL (.slice AF t.fields.length cF) → eF ≤ q ∧ q < wqF.heap.size := fun q hq => ow.lt q (mem_ownL.1 hq)
     have hes : wHF.heap.size ≤ wqF.heap.size := rq.size
     have Xq := XF.wr rq (fun hm => by have := (hlow _ hm).1; omega)
     have y8 := Xq.cell 8
     simp only [qgaq, qgzq, qgsq] at y8
     by_cases hlk : k < t.fields.length
     ·obtain ⟨x, hx⟩ : ∃ x, t.fields[k]? = some x := ⟨_, List.getElem?_eq_getElem hlk⟩
      have hbx := tb4 x (List.mem_of_getElem? hx)
      obtain ⟨gf, hgf⟩ : ∃ gf, AF = some ⟨gf, 0, none⟩ := by
       rcases ow.2 with ⟨_, h0⟩ | ⟨gg, cap, cur, e, _⟩
       ·omega
       ·injection e with e _ _
        exact ⟨gg, e⟩
      subst hgf
      have hgl := hlow gf (mem_ownL.2 rfl)
      have hcl : ∀ j u, j < 3 → (Fld.cells x)[j]? = some u → wqF.cell? ⟨gf, k * 3 + j, none⟩ = some u := fun j u hj hu => by
       rw [ow.cellAt (k * 3 + j) (by omega), flatF_at (size := 3) (fun _ => rfl) _ k j x (mix_at hx) hj]
       exact hu
      have p0 := hcl 0 _ (by decide) rfl
      have p1 := hcl 1 _ (by decide) rfl
      have p2 := hcl 2 _ (by decide) rfl
      simp only [Nat.add_zero] at p0
      have hk0 : (0 : Int) ≤ (k : Int) := by omega
      have hkn : (k : Int) < (t.fields.length : Int) := by omega
      obtain ⟨wy, hwy⟩ : ∃ q, wqF.alloc (.cells #[.string x.name, .int .i64 x.type, .int .i64 x.arm] 69) = q := ⟨_, rfl⟩
      obtain ⟨yb, hyb⟩ : ∃ q, wqF.heap.size = q := ⟨_, rfl⟩
      have ry : Wr [] wqF wy := by rw [← hwy]; exact (Wr.refl [] _).alloc _
      have Y : Blk wy yb 69 #[.string x.name, .int .i64 x.type, .int .i64 x.arm] := by rw [← hwy, ← hyb]; exact Blk.new _ _ _
      obtain ⟨wz, hwz⟩ : ∃ q, wy.setCell ⟨yb, 1, none⟩ (.int .i64 (movedN ord x.type)) = q := ⟨_, rfl⟩
      have rz : Wr [yb] wy wz := by rw [← hwz]; exact (Wr.refl _ _).setOn (by simp) _
      have Yz : Blk wz yb 69 #[.string x.name, .int .i64 (movedN ord x.type), .int .i64 x.arm] := by
       rw [← hwz]
       have := Y.set_ 1 (.int .i64 (movedN ord x.type))
       simpa using this
      have Xz := (Xq.wr0 ry).wr rz (by simp; have := Xq.lt; omega)
      have oz := own_keep (own_keep ow ry (fun _ _ => by simp)) rz (fun q hq hm => by
       rw [List.mem_singleton] at hm
       have := (ow.lt q hq).2
       omega)
      have rwy : Wr [] w wy := (RF.out.trans' rq (fun q hq => .inr (by have := (hlow q hq).1; omega))).trans ry
      obtain ⟨wS, hwS⟩ : ∃ q, stW gf (k * 3) (Fld.cells (renF (movedN ord) x)) wz = q := ⟨_, rfl⟩
      have hst : (((wz.setCell ⟨gf, k * 3, none⟩ (.string x.name)).setCell ⟨gf, k * 3 + 1, none⟩ (.int .i64 (movedN ord x.type))).setCell ⟨gf, k * 3 + 2, none⟩ (.int .i64 x.arm)) = wS := hwS
      have hfin : FdAt wHF eF 69 3 (.slice (some ⟨gf, 0, none⟩) t.fields.length cF) t.fields.length ((mixL (renF (movedN ord)) t.fields (k + 1)).flatMap Fld.cells) wS := by
       have rS := wr_stW gf (Fld.cells (renF (movedN ord) x)) (k * 3) wz
       rw [hwS] at rS
       refine ⟨(((rq.trans0 ry).trans' rz (fun q hq => .inr (by rw [List.mem_singleton] at hq; omega)))).trans (rS.more (fun q hq => by rw [List.mem_singleton] at hq; rw [hq]; exact mem_ownL.2 rfl)), ?_⟩
       rw [← hwS]
       exact row_mix Fld.cells (size := 3) (fun _ => rfl) (by decide) hx oz
      have q1 := Y.cell 1
      have z1 := Y.frozen 1
      have u8 := Xz.cell 8
      have r0 := Yz.cell 0
      have r1 := Yz.cell 1
      have r2 := Yz.cell 2
      simp only [qgaq, qgzq, qgsq] at q1 u8 r0 r1 r2
      have hcz : ∀ j u, j < 3 → (Fld.cells x)[j]? = some u → wz.cell? ⟨gf, k * 3 + j, none⟩ = some u := fun j u hj hu => by
       rw [oz.cellAt (k * 3 + j) (by omega), flatF_at (size := 3) (fun _ => rfl) _ k j x (mix_at hx) hj]
       exact hu
      have s0 := hcz 0 _ (by decide) rfl
      have s1 := hcz 1 _ (by decide) rfl
      have s2 := hcz 2 _ (by decide) rfl
      simp only [Nat.add_zero] at s0
      have f0 := oz.frozenAt (k * 3)
      have f1 := oz.frozenAt (k * 3 + 1)
      have f2 := oz.frozenAt (k * 3 + 2)
      have HFIN := Lib.hid hfin
      have HWY := Lib.hid hwy
      have HYB := Lib.hid hyb
      have HWZ := Lib.hid hwz
      have HST := Lib.hid hst
      have RWY := Lib.hid rwy
      clear hfin hwy hyb hwz hwS hst rwy ry rz Y Yz Xz oz hcl hcz ow rq hlow Xq hx
      go_upto_region 14 with (fail)
      rw [HWY.out, HYB.out]
      clear p0 p1 p2 y8
      go_wp2_with fail
      refine (HMV.out _ hbx _ RWY.out).mono ?_
      rintro e w' ⟨rfl, rfl⟩
      go_upto_region 15 with (fail)
      rw [HWZ.out]
      clear q1 z1
      go_upto_region 12 with (fail)
      rw [HST.out]
      clear u8 r0 s0 f0 r1 s1 f1 r2 s2 f2
      go_wp2_with fail
      go_roundw
      case rel => exact ⟨k + 1, by omega, by go_num, HFIN.out⟩
      case measure => simp [intOf]; omega
     ·have hke : k = t.fields.length := by omega
      have hkn : ¬ (k : Int) < (t.fields.length : Int) := by omega
      rw [hke, mix_all] at ow
      have QqF := Lib.hid (QF.out.trans' rq (fun q hq => .inr (by have := (hlow q hq).1; have := QF.out.size; omega)))
      have RqF := Lib.hid (RF.out.trans' rq (fun q hq => .inr (by have := (hlow q hq).1; omega)))
      have HKE := Lib.hid hke
      clear hke
      go_upto_region 16 with (fail)
      clear hlow hbe hes
      obtain ⟨iP, hiP, hz0, hz1, hz2⟩ := info_parts info_par
      obtain ⟨eP, heP⟩ : ∃ q, wqF.heap.size = q := ⟨_, rfl⟩
      obtain ⟨wE, hwE⟩ : ∃ q, wqF.alloc (.cells #[] 71) = q := ⟨_, rfl⟩
      have rE : Wr [] wqF wE := by rw [← hwE]; exact (Wr.refl [] _).alloc _
      have bE : Blk wE eP 71 #[] := by rw [← hwE, ← heP]; exact Blk.new _ _ _
      obtain ⟨vP, wG, hrun, own, hgrow, _⟩ := run_append_sl (P := Tryz.prog) wE eP 48 48 71 iP _ 2 16 Tryz.underlying48 hiP hz0 hz1 hz2 rfl (by decide) (.slice (some ⟨eP, 0, none⟩) 0 0) 0 [] (own_blk0 bE (Nat.le_refl _)) _ (.slice N4 t.params.length m4) t.params.length (t.params.flatMap Par.cells) (Sl.wr0 HLS.out.params (QqF.out.trans rE)) (one_pars _) (by unfold maxLen; omega) (by omega) (by have := rE.size; omega)
      rw [Nat.zero_add, List.nil_append] at own
      obtain ⟨AP, cP, hvP, _, _⟩ := own_form own
      subst hvP
      have rG : Wr (ownL (.slice (some ⟨eP, 0, none⟩) 0 0)) wE wG := Wr.ofGrownOwn hgrow
      have hbe : bx < eP := by rw [← heP]; exact Xq.lt
      have hoe : ∀ q, q ∈ ownL (.slice (some ⟨eP, 0, none⟩) 0 0) → q = eP := fun q hq => by
       have h : eP = q := by simpa [Value.ownBlock] using mem_ownL.1 hq
       exact h.symm
      have XG := (Xq.wr0 rE).wr rG (fun hm => by have := hoe _ hm; omega)
      have y10 := XG.cell 10
      have z10 := XG.frozen 10
      have x10 := (Xq.alloc (.cells #[] 71)).cell 10
      simp only [qgaq, qgzq, qgsq] at y10 x10
      obtain ⟨wHP, hwH⟩ : ∃ q, wG.setCell ⟨bx, 10, none⟩ (.slice AP t.params.length cP) = q := ⟨_, rfl⟩
      have rH : Wr [bx] wG wHP := by rw [← hwH]; exact (Wr.refl _ _).setOn (by simp) _
      have XP : Blk wHP bx 50 #[.int .u8 t.kind, .string t.module, .string t.name, .int .i64 (movedN ord t.base), .int .i64 (movedN ord t.index), .int .i64 t.low, .int .i64 t.high, .slice N1 t.names.length m1, .slice AF t.fields.length cF, .slice N3 t.arms.length m3, .slice AP t.params.length cP, .int .i64 (movedN ord t.result)] := by
       rw [← hwH]
       have := XG.set_ 10 (.slice AP t.params.length cP)
       simpa using this
      have ownP := own_keep own rH (fun q hq hm => by have := (own.lt q hq).1; rw [List.mem_singleton] at hm; omega)
      have QP := Lib.hid (((QqF.out.trans rE).trans' rG (fun q hq => .inr (by have := hoe q hq; have := QqF.out.size; omega))).new rH hbo)
      have RP := Lib.hid (((RqF.out.trans rE).trans' rG (fun q hq => .inr (by have := hoe q hq; have := RqF.out.size; omega))).new rH hbw)
      have HEP := Lib.hid heP
      have HWE := Lib.hid hwE
      have HWH := Lib.hid hwH
      have HRUN := Lib.hid hrun
      have OWNP := Lib.hid ownP
      have HBEP := Lib.hid hbe
      have okF := own_keep (own_keep (own_keep ow rE (fun _ _ => by simp)) rG (fun q hq hm => by have := hoe _ hm; have := (ow.lt q hq).2; omega)) rH (fun q hq hm => by have := (ow.lt q hq).1; have := HBEF.out; rw [List.mem_singleton] at hm; omega)
      have OKF := Lib.hid okF
      have HLF := Lib.hid (show ∀ q, (Value.slice AF t.fields.length cF).ownBlock = some q → eF ≤ q ∧ q < eP from fun q hq => by have := ow.lt q hq; omega)
      clear okF
      clear heP hwE hwH hrun ownP own hgrow rE bE rG XG rH hoe hbe hz0 hz1 hz2 hiP
      go_upto_region 17 with (at_builtin; rw [HEP.out, HWE.out]; refine wpList_append_run rfl _ _ _ rfl _ _ rfl rfl _ _ HRUN.out ?_)
      rw [HWH.out]
      clear y10 z10 x10 Xq HWE HWH HRUN
      go_wp2_with fail
      go_loopw [10] (fun s wr => ∃ k : Nat, k ≤ t.params.length ∧ s = .int .i64 k ∧ FdAt wHP eP 71 2 (.slice AP t.params.length cP) t.params.length ((mixL (renPar (movedN ord)) t.params k).flatMap Par.cells) wr) (fun s _ => t.params.length - (intOf s).toNat)
      case atStart => exact ⟨0, by omega, rfl, Wr.refl _ _, by rw [mix_zero]; exact OWNP.out⟩
      case round =>
       obtain ⟨k, hk, rfl, rq, ow⟩ := hrel
       obtain ⟨wqP, rfl⟩ : ∃ q : World, q = wr := ⟨_, rfl⟩
       have hbe := HBEP.out
       have hlow : ∀ q, q ∈ ownL (.slice AP t.params.length cP) → eP ≤ q ∧ q < wqP.heap.size := fun q hq => ow.lt q (mem_ownL.1 hq)
       have hes : wHP.heap.size ≤ wqP.heap.size := rq.size
       have Xq := XP.wr rq (fun hm => by have := (hlow _ hm).1; omega)
       have y10 := Xq.cell 10
       simp only [qgaq, qgzq, qgsq] at y10
       by_cases hlk : k < t.params.length
       ·obtain ⟨x, hx⟩ : ∃ x, t.params[k]? = some x := ⟨_, List.getElem?_eq_getElem hlk⟩
        have hbx := tb5 x (List.mem_of_getElem? hx)
        obtain ⟨gf, hgf⟩ : ∃ gf, AP = some ⟨gf, 0, none⟩ := by
         rcases ow.2 with ⟨_, h0⟩ | ⟨gg, cap, cur, e, _⟩
         ·omega
         ·injection e with e _ _
          exact ⟨gg, e⟩
        subst hgf
        have hgl := hlow gf (mem_ownL.2 rfl)
        have hcl : ∀ j u, j < 2 → (Par.cells x)[j]? = some u → wqP.cell? ⟨gf, k * 2 + j, none⟩ = some u := fun j u hj hu => by
         rw [ow.cellAt (k * 2 + j) (by omega), flatF_at (size := 2) (fun _ => rfl) _ k j x (mix_at hx) hj]
         exact hu
        have p0 := hcl 0 _ (by decide) rfl
        have p1 := hcl 1 _ (by decide) rfl
        simp only [Nat.add_zero] at p0
        have hk0 : (0 : Int) ≤ (k : Int) := by omega
        have hkn : (k : Int) < (t.params.length : Int) := by omega
        obtain ⟨wy, hwy⟩ : ∃ q, wqP.alloc (.cells #[.bool x.var, .int .i64 x.type] 71) = q := ⟨_, rfl⟩
        obtain ⟨yb, hyb⟩ : ∃ q, wqP.heap.size = q := ⟨_, rfl⟩
        have ry : Wr [] wqP wy := by rw [← hwy]; exact (Wr.refl [] _).alloc _
        have Y : Blk wy yb 71 #[.bool x.var, .int .i64 x.type] := by rw [← hwy, ← hyb]; exact Blk.new _ _ _
        obtain ⟨wz, hwz⟩ : ∃ q, wy.setCell ⟨yb, 1, none⟩ (.int .i64 (movedN ord x.type)) = q := ⟨_, rfl⟩
        have rz : Wr [yb] wy wz := by rw [← hwz]; exact (Wr.refl _ _).setOn (by simp) _
        have Yz : Blk wz yb 71 #[.bool x.var, .int .i64 (movedN ord x.type)] := by
         rw [← hwz]
         have := Y.set_ 1 (.int .i64 (movedN ord x.type))
         simpa using this
        have Xz := (Xq.wr0 ry).wr rz (by simp; have := Xq.lt; omega)
        have oz := own_keep (own_keep ow ry (fun _ _ => by simp)) rz (fun q hq hm => by
         rw [List.mem_singleton] at hm
         have := (ow.lt q hq).2
         omega)
        have rwy : Wr [] w wy := (RP.out.trans' rq (fun q hq => .inr (by have := (hlow q hq).1; omega))).trans ry
        obtain ⟨wS, hwS⟩ : ∃ q, stW gf (k * 2) (Par.cells (renPar (movedN ord) x)) wz = q := ⟨_, rfl⟩
        have hst : ((wz.setCell ⟨gf, k * 2, none⟩ (.bool x.var)).setCell ⟨gf, k * 2 + 1, none⟩ (.int .i64 (movedN ord x.type))) = wS := hwS
        have hfin : FdAt wHP eP 71 2 (.slice (some ⟨gf, 0, none⟩) t.params.length cP) t.params.length ((mixL (renPar (movedN ord)) t.params (k + 1)).flatMap Par.cells) wS := by
         have rS := wr_stW gf (Par.cells (renPar (movedN ord) x)) (k * 2) wz
         rw [hwS] at rS
         refine ⟨(((rq.trans0 ry).trans' rz (fun q hq => .inr (by rw [List.mem_singleton] at hq; omega)))).trans (rS.more (fun q hq => by rw [List.mem_singleton] at hq; rw [hq]; exact mem_ownL.2 rfl)), ?_⟩
         rw [← hwS]
         exact row_mix Par.cells (size := 2) (fun _ => rfl) (by decide) hx oz
        have q1 := Y.cell 1
        have z1 := Y.frozen 1
        have u10 := Xz.cell 10
        have r0 := Yz.cell 0
        have r1 := Yz.cell 1
        simp only [qgaq, qgzq, qgsq] at q1 u10 r0 r1
        have hcz : ∀ j u, j < 2 → (Par.cells x)[j]? = some u → wz.cell? ⟨gf, k * 2 + j, none⟩ = some u := fun j u hj hu => by
         rw [oz.cellAt (k * 2 + j) (by omega), flatF_at (size := 2) (fun _ => rfl) _ k j x (mix_at hx) hj]
         exact hu
        have s0 := hcz 0 _ (by decide) rfl
        have s1 := hcz 1 _ (by decide) rfl
        simp only [Nat.add_zero] at s0
        have f0 := oz.frozenAt (k * 2)
        have f1 := oz.frozenAt (k * 2 + 1)
        have HFIN := Lib.hid hfin
        have HWY := Lib.hid hwy
        have HYB := Lib.hid hyb
        have HWZ := Lib.hid hwz
        have HST := Lib.hid hst
        have RWY := Lib.hid rwy
        clear hfin hwy hyb hwz hwS hst rwy ry rz Y Yz Xz oz hcl hcz ow rq hlow Xq hx
        go_upto_region 21 with (fail)
        rw [HWY.out, HYB.out]
        clear p0 p1 y10
        go_wp2_with fail
        refine (HMV.out _ hbx _ RWY.out).mono ?_
        rintro e w' ⟨rfl, rfl⟩
        go_upto_region 22 with (fail)
        rw [HWZ.out]
        clear q1 z1
        go_upto_region 19 with (fail)
        rw [HST.out]
        clear u10 r0 s0 f0 r1 s1 f1
        go_wp2_with fail
        go_roundw
        case rel => exact ⟨k + 1, by omega, by go_num, HFIN.out⟩
        case measure => simp [intOf]; omega
       ·have hke : k = t.params.length := by omega
        have hkn : ¬ (k : Int) < (t.params.length : Int) := by omega
        rw [hke, mix_all] at ow
        have QqP := Lib.hid (QP.out.trans' rq (fun q hq => .inr (by have := (hlow q hq).1; have := QP.out.size; omega)))
        have RqP := Lib.hid (RP.out.trans' rq (fun q hq => .inr (by have := (hlow q hq).1; omega)))
        have HKE := Lib.hid hke
        clear hke
        have okF2 := Lib.hid (own_keep OKF.out rq (fun q hq hm => by have := (hlow q hm).1; have := (HLF.out q hq).2; omega))
        go_upto_region 23 with (fail)
        obtain ⟨kk, hki⟩ : ∃ kk, ord[i]? = some kk := ⟨_, List.getElem?_eq_getElem (by have := HL.out; omega)⟩
        have hkl := HLT.out kk (List.mem_of_getElem? hki)
        obtain ⟨bo, oo, co', eo, _, _, _, hco⟩ := Sl.at_ (Sl.wr0 HO.out RqP.out) (j := i) (u := .int .i64 (kk : Int)) (by unfold ordC; rw [List.getElem?_map, hki]; rfl)
        injection eo with eo1 _ eo3
        subst eo1 eo3
        have hck0 : (0 : Int) ≤ (kk : Int) := by omega
        have hckn : (kk : Int) < (f.types.length : Int) := by omega
        have hcin : (i : Int) < (ord.length : Int) := by have := HL.out; omega
        have BTq := BT.out.wr0 QqP.out
        have T2 := BTq.cell 2
        have r0 := Xq.cell 0
        have r1 := Xq.cell 1
        have r2 := Xq.cell 2
        have r3 := Xq.cell 3
        have r4 := Xq.cell 4
        have r5 := Xq.cell 5
        have r6 := Xq.cell 6
        have r7 := Xq.cell 7
        have r8 := Xq.cell 8
        have r9 := Xq.cell 9
        have r10 := Xq.cell 10
        have r11 := Xq.cell 11
        simp only [qgaq, qgzq, qgsq] at T2 r0 r1 r2 r3 r4 r5 r6 r7 r8 r9 r10 r11
        have rowq := RowP.keep tyOk ROW.out QqP.out (fun _ _ => by simp) (fun _ _ _ => by simp)
        obtain ⟨x0, hx0⟩ : ∃ x, (turnT ord f.types i)[kk]? = some x := ⟨_, List.getElem?_eq_getElem (by rw [turnT_len]; exact hkl)⟩
        obtain ⟨xs, hos, _, h2⟩ := rowq
        obtain ⟨ys, e1, e2, zn, zf, za, zp, rfl, _⟩ := h2 kk x0 hx0
        rw [turnT_len] at hos
        have hTB : TB < wqP.heap.size := (hos.lt TB rfl).2
        have hcl : ∀ j u, j < 12 → (x0.cells zn zf za zp)[j]? = some u → wqP.cell? ⟨TB, kk * 12 + j, none⟩ = some u := fun j u hj hu => by
         rw [hos.cellAt (kk * 12 + j) (by omega)]
         exact e2 j u hu
        have s0 := hcl 0 _ (by decide) rfl
        have s1 := hcl 1 _ (by decide) rfl
        have s2 := hcl 2 _ (by decide) rfl
        have s3 := hcl 3 _ (by decide) rfl
        have s4 := hcl 4 _ (by decide) rfl
        have s5 := hcl 5 _ (by decide) rfl
        have s6 := hcl 6 _ (by decide) rfl
        have s7 := hcl 7 _ (by decide) rfl
        have s8 := hcl 8 _ (by decide) rfl
        have s9 := hcl 9 _ (by decide) rfl
        have s10 := hcl 10 _ (by decide) rfl
        have s11 := hcl 11 _ (by decide) rfl
        simp only [Nat.add_zero] at s0
        have f0 := hos.frozenAt (kk * 12)
        have f1 := hos.frozenAt (kk * 12 + 1)
        have f2 := hos.frozenAt (kk * 12 + 2)
        have f3 := hos.frozenAt (kk * 12 + 3)
        have f4 := hos.frozenAt (kk * 12 + 4)
        have f5 := hos.frozenAt (kk * 12 + 5)
        have f6 := hos.frozenAt (kk * 12 + 6)
        have f7 := hos.frozenAt (kk * 12 + 7)
        have f8 := hos.frozenAt (kk * 12 + 8)
        have f9 := hos.frozenAt (kk * 12 + 9)
        have f10 := hos.frozenAt (kk * 12 + 10)
        have f11 := hos.frozenAt (kk * 12 + 11)
        have rd : Wr [] wqP wqP := Wr.refl [] wqP
        have hTBo : TB < wo.heap.size := by
         obtain ⟨_, ho, _⟩ := ROW.out
         exact (ho.lt TB rfl).2
        have htbo := BT.out.lt
        have hgo := BR.out.lt
        have hbe1 := HBEF.out
        have hli : Lists wqP (fun b => (b ≠ tb ∧ b ≠ g + 1) ∧ b ≠ TB) (.slice N1 t.names.length m1) (.slice AF t.fields.length cF) (.slice N3 t.arms.length m3) (.slice AP t.params.length cP) (renT (movedN ord) t) :=
         ren_lists HLS.out (QqP.out.trans rd) (fun b hb => ⟨⟨by have := HG.out; omega, by have := HG.out; omega⟩, by have := HG.out; omega⟩) (own_keep okF2.out rd (fun _ _ => by simp)) (fun q hq => by have := (HLF.out q hq).1; exact ⟨⟨by omega, by omega⟩, by omega⟩)
          (own_keep ow rd (fun _ _ => by simp)) (fun q hq => by have := (ow.lt q hq).1; exact ⟨⟨by omega, by omega⟩, by omega⟩)
        obtain ⟨wS, hwS⟩ : ∃ q, stW TB (kk * 12) ((renT (movedN ord) t).cells (.slice N1 t.names.length m1) (.slice AF t.fields.length cF) (.slice N3 t.arms.length m3) (.slice AP t.params.length cP)) wqP = q := ⟨_, rfl⟩
        have hst : ((((((((((((wqP.setCell ⟨TB, kk * 12, none⟩ (.int .u8 t.kind)).setCell ⟨TB, kk * 12 + 1, none⟩ (.string t.module)).setCell ⟨TB, kk * 12 + 2, none⟩ (.string t.name)).setCell ⟨TB, kk * 12 + 3, none⟩ (.int .i64 (movedN ord t.base))).setCell ⟨TB, kk * 12 + 4, none⟩ (.int .i64 (movedN ord t.index))).setCell ⟨TB, kk * 12 + 5, none⟩ (.int .i64 t.low)).setCell ⟨TB, kk * 12 + 6, none⟩ (.int .i64 t.high)).setCell ⟨TB, kk * 12 + 7, none⟩ (.slice N1 t.names.length m1)).setCell ⟨TB, kk * 12 + 8, none⟩ (.slice AF t.fields.length cF)).setCell ⟨TB, kk * 12 + 9, none⟩ (.slice N3 t.arms.length m3)).setCell ⟨TB, kk * 12 + 10, none⟩ (.slice AP t.params.length cP)).setCell ⟨TB, kk * 12 + 11, none⟩ (.int .i64 (movedN ord t.result))) = wS := hwS
        have hfin : TnAt w f ord g tb TB _ (.slice A1 f.uses.length k1) (i + 1) wS.drew :=
         tn_step (RqP.out.trans rd) (QqP.out.trans rd) BA.out BR.out BT.out ROW.out hki HTT.out hkl hg1 hg2 hne HG.out hwS rfl (by simp [Ty.cells, Value.oneCell']) hli
        have HFIN := Lib.hid hfin
        have HST := Lib.hid hst
        clear hfin hst hwS hli hcl hos hlow ow rq hes hki Xq BTq hx0 e1 e2 h2 hbe hbe1 htbo hgo hTBo
        have hC : ∀ W, Wr [] wqP W → W.cell? ⟨tb, 2, none⟩ = some (.slice (some ⟨TB, 0, none⟩) f.types.length f.types.length) ∧ W.cell? ⟨bo, oo + i, none⟩ = some (.int .i64 (kk : Int)) ∧ W.cell? ⟨bx, 0, none⟩ = some (.int .u8 t.kind) ∧ W.cell? ⟨bx, 1, none⟩ = some (.string t.module) ∧ W.cell? ⟨bx, 2, none⟩ = some (.string t.name) ∧ W.cell? ⟨bx, 3, none⟩ = some (.int .i64 (movedN ord t.base)) ∧ W.cell? ⟨bx, 4, none⟩ = some (.int .i64 (movedN ord t.index)) ∧ W.cell? ⟨bx, 5, none⟩ = some (.int .i64 t.low) ∧ W.cell? ⟨bx, 6, none⟩ = some (.int .i64 t.high) ∧ W.cell? ⟨bx, 7, none⟩ = some (.slice N1 t.names.length m1) ∧ W.cell? ⟨bx, 8, none⟩ = some (.slice AF t.fields.length cF) ∧ W.cell? ⟨bx, 9, none⟩ = some (.slice N3 t.arms.length m3) ∧ W.cell? ⟨bx, 10, none⟩ = some (.slice AP t.params.length cP) ∧ W.cell? ⟨bx, 11, none⟩ = some (.int .i64 (movedN ord t.result)) := fun W hW => ⟨hW.cellOf T2 (by simp), hW.cellOf hco (by simp), hW.cellOf r0 (by simp), hW.cellOf r1 (by simp), hW.cellOf r2 (by simp), hW.cellOf r3 (by simp), hW.cellOf r4 (by simp), hW.cellOf r5 (by simp), hW.cellOf r6 (by simp), hW.cellOf r7 (by simp), hW.cellOf r8 (by simp), hW.cellOf r9 (by simp), hW.cellOf r10 (by simp), hW.cellOf r11 (by simp)⟩
        have HC := Lib.hid hC
        clear hC
        refine wp_region_noPanic ?_
        refine wp_region_L (Until 8 fun w' => w'.cell? ⟨tb, 2, none⟩ = some (.slice (some ⟨TB, 0, none⟩) f.types.length f.types.length) ∧ w'.cell? ⟨bo, oo + i, none⟩ = some (.int .i64 (kk : Int)) ∧ w'.cell? ⟨bx, 0, none⟩ = some (.int .u8 t.kind) ∧ w'.cell? ⟨bx, 1, none⟩ = some (.string t.module) ∧ w'.cell? ⟨bx, 2, none⟩ = some (.string t.name) ∧ w'.cell? ⟨bx, 3, none⟩ = some (.int .i64 (movedN ord t.base)) ∧ w'.cell? ⟨bx, 4, none⟩ = some (.int .i64 (movedN ord t.index)) ∧ w'.cell? ⟨bx, 5, none⟩ = some (.int .i64 t.low) ∧ w'.cell? ⟨bx, 6, none⟩ = some (.int .i64 t.high) ∧ w'.cell? ⟨bx, 7, none⟩ = some (.slice N1 t.names.length m1) ∧ w'.cell? ⟨bx, 8, none⟩ = some (.slice AF t.fields.length cF) ∧ w'.cell? ⟨bx, 9, none⟩ = some (.slice N3 t.arms.length m3) ∧ w'.cell? ⟨bx, 10, none⟩ = some (.slice AP t.params.length cP) ∧ w'.cell? ⟨bx, 11, none⟩ = some (.int .i64 (movedN ord t.result))) (by kernel_rfl) (fun hcl => ?_)
        have hS : Until 8 (fun w' => w'.cell? ⟨tb, 2, none⟩ = some (.slice (some ⟨TB, 0, none⟩) f.types.length f.types.length) ∧ w'.cell? ⟨bo, oo + i, none⟩ = some (.int .i64 (kk : Int)) ∧ w'.cell? ⟨bx, 0, none⟩ = some (.int .u8 t.kind) ∧ w'.cell? ⟨bx, 1, none⟩ = some (.string t.module) ∧ w'.cell? ⟨bx, 2, none⟩ = some (.string t.name) ∧ w'.cell? ⟨bx, 3, none⟩ = some (.int .i64 (movedN ord t.base)) ∧ w'.cell? ⟨bx, 4, none⟩ = some (.int .i64 (movedN ord t.index)) ∧ w'.cell? ⟨bx, 5, none⟩ = some (.int .i64 t.low) ∧ w'.cell? ⟨bx, 6, none⟩ = some (.int .i64 t.high) ∧ w'.cell? ⟨bx, 7, none⟩ = some (.slice N1 t.names.length m1) ∧ w'.cell? ⟨bx, 8, none⟩ = some (.slice AF t.fields.length cF) ∧ w'.cell? ⟨bx, 9, none⟩ = some (.slice N3 t.arms.length m3) ∧ w'.cell? ⟨bx, 10, none⟩ = some (.slice AP t.params.length cP) ∧ w'.cell? ⟨bx, 11, none⟩ = some (.int .i64 (movedN ord t.result))) (Array.replicate 9 false) wqP.drew := fun _ => ⟨T2, hco, r0, r1, r2, r3, r4, r5, r6, r7, r8, r9, r10, r11⟩
        refine wpAnyL_take (i := 0) (oi := ?oi501) (v := ?v501) ?hi501 (by kernel_rfl) (by kernel_rfl) (by kernel_rfl) (fun _ _ _ h => h) (until_take 8 _ (by decide)) ?hy501 hcl hS ?rest501
        case hi501 =>
         simp only [qgaq, qgsq, qgzq]
         rfl
        case hy501 =>
         refine yields_until (by kernel_rfl) (Or.inl ⟨by rfl, fun w' hS => ?_⟩)
         try go_split_ands
         go_simp
         try rfl
        case rest501 =>
        intro hcl501 hS501
        clear hcl hS
        try simp only [Act.put, qsaq, qszq, qssq]
        refine wpAnyL_take (i := 1) (oi := ?oi502) (v := ?v502) ?hi502 (by kernel_rfl) (by kernel_rfl) (by kernel_rfl) (fun _ _ _ h => h) (until_take 8 _ (by decide)) ?hy502 hcl501 hS501 ?rest502
        case hi502 =>
         simp only [qgaq, qgsq, qgzq]
         rfl
        case hy502 =>
         refine yields_until (by kernel_rfl) (Or.inl ⟨by rfl, fun w' hS => ?_⟩)
         try go_split_ands
         go_simp
         try rfl
        case rest502 =>
        intro hcl502 hS502
        clear hcl501 hS501
        try simp only [Act.put, qsaq, qszq, qssq]
        refine wpAnyL_take (i := 2) (oi := ?oi503) (v := ?v503) ?hi503 (by kernel_rfl) (by kernel_rfl) (by kernel_rfl) (fun _ _ _ h => h) (until_take 8 _ (by decide)) ?hy503 hcl502 hS502 ?rest503
        case hi503 =>
         simp only [qgaq, qgsq, qgzq]
         rfl
        case hy503 =>
         refine yields_until (by kernel_rfl) (Or.inl ⟨by rfl, fun w' hS => ?_⟩)
         try go_split_ands
         go_simp
         try rfl
        case rest503 =>
        intro hcl503 hS503
        clear hcl502 hS502
        try simp only [Act.put, qsaq, qszq, qssq]
        refine wpAnyL_take (i := 3) (oi := ?oi504) (v := ?v504) ?hi504 (by kernel_rfl) (by kernel_rfl) (by kernel_rfl) (fun _ _ _ h => h) (until_take 8 _ (by decide)) ?hy504 hcl503 hS503 ?rest504
        case hi504 =>
         simp only [qgaq, qgsq, qgzq]
         rfl
        case hy504 =>
         refine yields_until (by kernel_rfl) (Or.inl ⟨by rfl, fun w' hS => ?_⟩)
         try go_split_ands
         go_simp
         try rfl
        case rest504 =>
        intro hcl504 hS504
        clear hcl503 hS503
        try simp only [Act.put, qsaq, qszq, qssq]
        refine wpAnyL_take (i := 4) (oi := ?oi505) (v := ?v505) ?hi505 (by kernel_rfl) (by kernel_rfl) (by kernel_rfl) (fun _ _ _ h => h) (until_take 8 _ (by decide)) ?hy505 hcl504 hS504 ?rest505
        case hi505 =>
         simp only [qgaq, qgsq, qgzq]
         rfl
        case hy505 =>
         refine yields_until (by kernel_rfl) (Or.inl ⟨by rfl, fun w' hS => ?_⟩)
         try go_split_ands
         go_simp
         try rfl
        case rest505 =>
        intro hcl505 hS505
        clear hcl504 hS504
        try simp only [Act.put, qsaq, qszq, qssq]
        refine wpAnyL_take (i := 5) (oi := ?oi506) (v := ?v506) ?hi506 (by kernel_rfl) (by kernel_rfl) (by kernel_rfl) (fun _ _ _ h => h) (until_take 8 _ (by decide)) ?hy506 hcl505 hS505 ?rest506
        case hi506 =>
         simp only [qgaq, qgsq, qgzq]
         rfl
        case hy506 =>
         refine yields_until (by kernel_rfl) (Or.inl ⟨by rfl, fun w' hS => ?_⟩)
         try go_split_ands
         go_simp
         try rfl
        case rest506 =>
        intro hcl506 hS506
        clear hcl505 hS505
        try simp only [Act.put, qsaq, qszq, qssq]
        refine wpAnyL_take (i := 6) (oi := ?oi507) (v := ?v507) ?hi507 (by kernel_rfl) (by kernel_rfl) (by kernel_rfl) (fun _ _ _ h => h) (until_take 8 _ (by decide)) ?hy507 hcl506 hS506 ?rest507
        case hi507 =>
         simp only [qgaq, qgsq, qgzq]
         rfl
        case hy507 =>
         refine yields_until (by kernel_rfl) (Or.inl ⟨by rfl, fun w' hS => ?_⟩)
         try go_split_ands
         go_simp
         try rfl
        case rest507 =>
        intro hcl507 hS507
        clear hcl506 hS506
        try simp only [Act.put, qsaq, qszq, qssq]
        refine wpAnyL_take (i := 7) (oi := ?oi508) (v := ?v508) ?hi508 (by kernel_rfl) (by kernel_rfl) (by kernel_rfl) (fun _ _ _ h => h) (until_take 8 _ (by decide)) ?hy508 hcl507 hS507 ?rest508
        case hi508 =>
         simp only [qgaq, qgsq, qgzq]
         rfl
        case hy508 =>
         refine yields_until (by kernel_rfl) (Or.inl ⟨by rfl, fun w' hS => ?_⟩)
         try go_split_ands
         go_simp
         try rfl
        case rest508 =>
        intro hcl508 hS508
        clear hcl507 hS507
        try simp only [Act.put, qsaq, qszq, qssq]
        refine wpAnyL_step (i := 8) (o := ?oi509) ?hi509 (by kernel_rfl) hcl508 ?rest509
        case hi509 =>
         simp only [qgaq, qgsq, qgzq]
         rfl
        case rest509 =>
        intro K hK
        go_simp
        refine hK _ _ (fun hb => absurd hb (by decide)) (fun hcl999 => ?_)
        clear hK K hcl508 hS508
        refine wpAnyL_done (by kernel_rfl) (NoPanic.normal ?_) _
        try simp only [Act.put, qsaq, qszq, qssq]
        rw [HST.out]
        go_wp2_with fail
        go_roundw
        case rel => exact ⟨i + 1, by omega, by go_num, HFIN.out⟩
        case measure => simp [intOf]; omega
   ·have hie : i = f.types.length := by omega
    have hin : ¬ (i : Int) < (f.types.length : Int) := by omega
    obtain ⟨e, he⟩ : ∃ q, wo.heap.size = q := ⟨_, rfl⟩
    have htbo := BT.out.lt
    have hTBo : TB < wo.heap.size := by
     obtain ⟨_, ho, _⟩ := ROW.out
     exact (ho.lt TB rfl).2
    have row0 := ROW.out
    rw [hie] at row0
    have hee1 : tb < e := by omega
    have hee2 : TB < e := by omega
    have hew : e ≤ wo.heap.size := by omega
    have hit0 : ItAt w e f ord g tb TB #[.string f.module, .slice A1 f.uses.length k1, .slice A2 f.types.length k2, .slice A3 f.items.length k3] (.slice A1 f.uses.length k1) 0 wo := ⟨.slice none 0 0, RA.out, BA.out, BR.out, BT.out, World.ownsRow_nil _ _ _ _, RowP.into tyOk row0 (fun b hb hlt => ⟨hb, by omega⟩)⟩
    have IT0 := Lib.hid hit0
    have HEW0 := Lib.hid hew
    have hmv := fun (n : Int) (hn : i64B n) W (r : Wr [] w W) => moved_any ord R (.slice Ao ord.length co) n W (Sl.wr0 HO.out r) (by have := HL.out; omega) (fun k hk => by have := HLT.out k hk; omega) hn
    have HMV := Lib.hid hmv
    clear hie hit0 row0 hew he htbo hTBo hmv RA BA BR BT ROW
    go_upto_region 24 with (fail)
    go_wp2_with fail
    go_loopw [12] (fun s wr => ∃ j : Nat, j ≤ f.items.length ∧ s = .int .i64 j ∧ e ≤ wr.heap.size ∧ ItAt w e f ord g tb TB #[.string f.module, .slice A1 f.uses.length k1, .slice A2 f.types.length k2, .slice A3 f.items.length k3] (.slice A1 f.uses.length k1) j wr) (fun s _ => f.items.length - (intOf s).toNat)
    case atStart => exact ⟨0, by omega, rfl, HEW0.out, IT0.out⟩
    case round =>
     obtain ⟨j, hj, rfl, hew, v, hI⟩ := hrel
     obtain ⟨Av, cv, hv, _, _⟩ := own_form hI.own
     subst hv
     obtain ⟨wq, rfl⟩ : ∃ q : World, q = wr := ⟨_, rfl⟩
     have c3 := hI.bA.cell 3
     simp only [qgaq, qgzq, qgsq] at c3
     have II := Lib.hid hI
     have HEW := Lib.hid hew
     clear hI hew c2
     by_cases hlj : j < f.items.length
     ·obtain ⟨x, hx⟩ : ∃ x, f.items[j]? = some x := ⟨_, List.getElem?_eq_getElem hlj⟩
      obtain ⟨xi1, xi2⟩ := HI.out x (List.mem_of_getElem? hx)
      obtain ⟨b, off, c', e', _, hcx⟩ := pitm_at (Sl.wr0 H.out.items II.out.wr_) hx
      injection e' with e1 _ e3
      subst e1 e3
      have x0 := hcx 0 _ rfl
      have x1 := hcx 1 _ rfl
      have x2 := hcx 2 _ rfl
      have x3 := hcx 3 _ rfl
      have x4 := hcx 4 _ rfl
      have x5 := hcx 5 _ rfl
      have x6 := hcx 6 _ rfl
      have x7 := hcx 7 _ rfl
      simp only [Nat.add_zero] at x0
      have hj0 : (0 : Int) ≤ (j : Int) := by omega
      have hjn : (j : Int) < (f.items.length : Int) := by omega
      obtain ⟨i0, hi0, hz0, hz1, hz2⟩ := info_parts info_itmT
      obtain ⟨wy, hwy⟩ : ∃ q, wq.alloc (.cells #[.string x.name, .int .u8 x.kind, .int .i64 x.type, .int .i64 x.at_, .int .u8 x.v.sort, .int .i64 x.v.n, .int .i64 x.v.type, .string x.v.text] 54) = q := ⟨_, rfl⟩
      obtain ⟨yb, hyb⟩ : ∃ q, wq.heap.size = q := ⟨_, rfl⟩
      have ry : Wr [] wq wy := by rw [← hwy]; exact (Wr.refl [] _).alloc _
      have Y : Blk wy yb 54 #[.string x.name, .int .u8 x.kind, .int .i64 x.type, .int .i64 x.at_, .int .u8 x.v.sort, .int .i64 x.v.n, .int .i64 x.v.type, .string x.v.text] := by rw [← hwy, ← hyb]; exact Blk.new _ _ _
      obtain ⟨wz, hwz⟩ : ∃ q, wy.setCell ⟨yb, 2, none⟩ (.int .i64 (movedN ord x.type)) = q := ⟨_, rfl⟩
      have rz : Wr [] wq wz := ry.new (show Wr [yb] wy wz by rw [← hwz]; exact (Wr.refl _ _).setOn (by simp) _) (by omega)
      have Yz : Blk wz yb 54 #[.string x.name, .int .u8 x.kind, .int .i64 (movedN ord x.type), .int .i64 x.at_, .int .u8 x.v.sort, .int .i64 x.v.n, .int .i64 x.v.type, .string x.v.text] := by
       rw [← hwz]
       have := Y.set_ 2 (.int .i64 (movedN ord x.type))
       simpa using this
      have q2 := Y.cell 2
      have z2 := Y.frozen 2
      have p4 := Yz.cell 4
      simp only [qgaq, qgzq, qgsq] at q2 p4
      have RWY := Lib.hid (II.out.wr_.trans ry)
      have RZ := Lib.hid rz
      have RWZ := Lib.hid (II.out.wr_.trans rz)
      have HX := Lib.hid hx
      have HWY := Lib.hid hwy
      have HYB := Lib.hid hyb
      have HWZ := Lib.hid hwz
      clear hcx hx hwy hyb hwz rz ry Y
      go_upto_region 28 with (fail)
      rw [HWY.out, HYB.out]
      clear x0 x1 x2 x3 x4 x5 x6 x7
      go_wp2_with fail
      refine (HMV.out _ xi1 _ RWY.out).mono ?_
      rintro e'' w' ⟨rfl, rfl⟩
      go_upto_region 29 with (fail)
      rw [HWZ.out]
      clear q2 z2
      by_cases h6 : x.v.sort = 6
      ·have he6 := renP_six (ρ := movedN ord) h6
       have HE6 := Lib.hid he6
       have hd6 : decide (x.v.sort = 6) = true := decide_eq_true h6
       have hb6 : (x.v.sort == 6) = true := by simp [h6]
       clear h6
       have q6 := Yz.cell 6
       have z6 := Yz.frozen 6
       simp only [qgaq, qgzq, qgsq] at q6
       obtain ⟨wu, hwu⟩ : ∃ q, wz.setCell ⟨yb, 6, none⟩ (.int .i64 (movedN ord x.v.type)) = q := ⟨_, rfl⟩
       have ru : Wr [] wq wu := RZ.out.new (show Wr [yb] wz wu by rw [← hwu]; exact (Wr.refl _ _).setOn (by simp) _) (by have := HYB.out; omega)
       have Yu : Blk wu yb 54 #[.string x.name, .int .u8 x.kind, .int .i64 (movedN ord x.type), .int .i64 x.at_, .int .u8 x.v.sort, .int .i64 x.v.n, .int .i64 (movedN ord x.v.type), .string x.v.text] := by
        rw [← hwu]
        have := Yz.set_ 6 (.int .i64 (movedN ord x.v.type))
        simpa using this
       have RU := Lib.hid ru
       have HWU := Lib.hid hwu
       clear ru hwu he6
       go_upto_region 30 with (fail)
       go_wp2_with fail
       refine (HMV.out _ xi2 _ RWZ.out).mono ?_
       rintro e'' w'' ⟨rfl, rfl⟩
       go_upto_region 31 with (fail)
       rw [HWU.out]
       clear q6 z6 p4
       obtain ⟨zb, hzb⟩ : ∃ q, wu.heap.size = q := ⟨_, rfl⟩
       obtain ⟨wE, hwE⟩ : ∃ q, wu.alloc (.cells #[.string x.name, .int .u8 x.kind, .int .i64 (movedN ord x.type), .int .i64 x.at_, .int .u8 x.v.sort, .int .i64 x.v.n, .int .i64 (movedN ord x.v.type), .string x.v.text] 54) = q := ⟨_, rfl⟩
       have rE : Wr [] wq wE := by rw [← hwE]; exact RU.out.alloc _
       have bb : Blk wE zb 54 #[.string x.name, .int .u8 x.kind, .int .i64 (movedN ord x.type), .int .i64 x.at_, .int .u8 x.v.sort, .int .i64 x.v.n, .int .i64 (movedN ord x.v.type), .string x.v.text] := by rw [← hwE, ← hzb]; exact Blk.new _ _ _
       have ho1 : ∀ u ∈ ([.string x.name, .int .u8 x.kind, .int .i64 (movedN ord x.type), .int .i64 x.at_, .int .u8 x.v.sort, .int .i64 x.v.n, .int .i64 (movedN ord x.v.type), .string x.v.text] : List Value), u.oneCell' = true := by
        intro u hu
        simp only [List.mem_cons, List.not_mem_nil, or_false] at hu
        rcases hu with rfl | rfl | rfl | rfl | rfl | rfl | rfl | rfl <;> rfl
       obtain ⟨A7, c7, w7, hrun, hown, hw7⟩ := push_one (t := 24) Tryz.underlying24 hi0 hz0 hz1 hz2 rfl (by decide) (own_keep II.out.own rE (fun _ _ => by simp)) bb rfl ho1 (by omega) (by decide) (by have := rE.size; have := HEW.out; omega)
       have hlow : ∀ q, q ∈ ownL (.slice Av j cv) → e ≤ q := fun q hq => (II.out.own.lt q (mem_ownL.1 hq)).1
       have b7 := (II.out.bT.wr0 rE).wr hw7 (fun hm => by have := hlow _ hm; omega)
       have t3 := (II.out.bT.wr0 RU.out).cell 3
       have g3 := b7.cell 3
       have f3 := b7.frozen 3
       have r0 := Yu.cell 0
       have r1 := Yu.cell 1
       have r2 := Yu.cell 2
       have r3 := Yu.cell 3
       have r4 := Yu.cell 4
       have r5 := Yu.cell 5
       have r6 := Yu.cell 6
       have r7 := Yu.cell 7
       simp only [qgaq, qgzq, qgsq] at t3 g3 r0 r1 r2 r3 r4 r5 r6 r7
       have hfin := it_step II.out rE HX.out HE6.out.symm hown hw7 HG.out hg1 hg2 hne hee1 hee2
       obtain ⟨wS, hwS⟩ : ∃ q, w7.setCell ⟨tb, 3, none⟩ (.slice A7 (j + 1) c7) = q := ⟨_, rfl⟩
       rw [hwS] at hfin
       have hsz : e ≤ wS.heap.size := by
        have := rE.size
        have := hw7.size
        have := HEW.out
        rw [← hwS, World.size_setCell]
        omega
       have HFIN := Lib.hid hfin
       have HSZ := Lib.hid hsz
       have HZB := Lib.hid hzb
       have HWE := Lib.hid hwE
       have HWS := Lib.hid hwS
       have HRUN := Lib.hid hrun
       clear hfin hsz hzb hwE hwS hrun rE bb ho1 hown hw7 hlow b7
       go_upto_region 26 with (at_builtin; rw [HZB.out, HWE.out]; refine wpList_append_run rfl _ _ _ rfl _ _ rfl rfl _ _ HRUN.out ?_)
       rw [HWS.out]
       clear t3 g3 f3 r0 r1 r2 r3 r4 r5 r6 r7
       go_wp2_with fail
       go_roundw
       case rel => exact ⟨j + 1, by omega, by go_num, HSZ.out, HFIN.out⟩
       case measure => simp [intOf]; omega
      ·have he6 := renP_not (ρ := movedN ord) h6
       have HE6 := Lib.hid he6
       clear he6
       go_upto_region 31 with (fail)
       clear p4
       obtain ⟨zb, hzb⟩ : ∃ q, wz.heap.size = q := ⟨_, rfl⟩
       obtain ⟨wE, hwE⟩ : ∃ q, wz.alloc (.cells #[.string x.name, .int .u8 x.kind, .int .i64 (movedN ord x.type), .int .i64 x.at_, .int .u8 x.v.sort, .int .i64 x.v.n, .int .i64 x.v.type, .string x.v.text] 54) = q := ⟨_, rfl⟩
       have rE : Wr [] wq wE := by rw [← hwE]; exact RZ.out.alloc _
       have bb : Blk wE zb 54 #[.string x.name, .int .u8 x.kind, .int .i64 (movedN ord x.type), .int .i64 x.at_, .int .u8 x.v.sort, .int .i64 x.v.n, .int .i64 x.v.type, .string x.v.text] := by rw [← hwE, ← hzb]; exact Blk.new _ _ _
       have ho1 : ∀ u ∈ ([.string x.name, .int .u8 x.kind, .int .i64 (movedN ord x.type), .int .i64 x.at_, .int .u8 x.v.sort, .int .i64 x.v.n, .int .i64 x.v.type, .string x.v.text] : List Value), u.oneCell' = true := by
        intro u hu
        simp only [List.mem_cons, List.not_mem_nil, or_false] at hu
        rcases hu with rfl | rfl | rfl | rfl | rfl | rfl | rfl | rfl <;> rfl
       obtain ⟨A7, c7, w7, hrun, hown, hw7⟩ := push_one (t := 24) Tryz.underlying24 hi0 hz0 hz1 hz2 rfl (by decide) (own_keep II.out.own rE (fun _ _ => by simp)) bb rfl ho1 (by omega) (by decide) (by have := rE.size; have := HEW.out; omega)
       have hlow : ∀ q, q ∈ ownL (.slice Av j cv) → e ≤ q := fun q hq => (II.out.own.lt q (mem_ownL.1 hq)).1
       have b7 := (II.out.bT.wr0 rE).wr hw7 (fun hm => by have := hlow _ hm; omega)
       have t3 := (II.out.bT.wr0 RZ.out).cell 3
       have g3 := b7.cell 3
       have f3 := b7.frozen 3
       have r0 := Yz.cell 0
       have r1 := Yz.cell 1
       have r2 := Yz.cell 2
       have r3 := Yz.cell 3
       have r4 := Yz.cell 4
       have r5 := Yz.cell 5
       have r6 := Yz.cell 6
       have r7 := Yz.cell 7
       simp only [qgaq, qgzq, qgsq] at t3 g3 r0 r1 r2 r3 r4 r5 r6 r7
       have hfin := it_step II.out rE HX.out HE6.out.symm hown hw7 HG.out hg1 hg2 hne hee1 hee2
       obtain ⟨wS, hwS⟩ : ∃ q, w7.setCell ⟨tb, 3, none⟩ (.slice A7 (j + 1) c7) = q := ⟨_, rfl⟩
       rw [hwS] at hfin
       have hsz : e ≤ wS.heap.size := by
        have := rE.size
        have := hw7.size
        have := HEW.out
        rw [← hwS, World.size_setCell]
        omega
       have HFIN := Lib.hid hfin
       have HSZ := Lib.hid hsz
       have HZB := Lib.hid hzb
       have HWE := Lib.hid hwE
       have HWS := Lib.hid hwS
       have HRUN := Lib.hid hrun
       clear hfin hsz hzb hwE hwS hrun rE bb ho1 hown hw7 hlow b7
       go_upto_region 26 with (at_builtin; rw [HZB.out, HWE.out]; refine wpList_append_run rfl _ _ _ rfl _ _ rfl rfl _ _ HRUN.out ?_)
       rw [HWS.out]
       clear t3 g3 f3 r0 r1 r2 r3 r4 r5 r6 r7
       go_wp2_with fail
       go_roundw
       case rel => exact ⟨j + 1, by omega, by go_num, HSZ.out, HFIN.out⟩
       case measure => simp [intOf]; omega
     ·have hje : j = f.items.length := by omega
      have hjn : ¬ (j : Int) < (f.items.length : Int) := by omega
      have hI2 := II.out
      rw [hje] at hI2
      have II2 := Lib.hid hI2
      have bT := hI2.bT
      have bR := hI2.bR
      have t0 := bT.cell 0
      have s0 := bR.cell 0
      have z0 := bR.frozen 0
      have t1 := bT.cell 1
      have s1 := bR.cell 1
      have z1 := bR.frozen 1
      have t2 := bT.cell 2
      have s2 := bR.cell 2
      have z2 := bR.frozen 2
      have t3 := bT.cell 3
      have s3 := bR.cell 3
      have z3 := bR.frozen 3
      simp only [qgaq, qgzq, qgsq] at t0 s0 t1 s1 t2 s2 t3 s3
      clear hI2 hje bT bR
      have IE := Lib.hid (fun wf hf => it_end II2.out H.out.uses HG.out hg1 hg2 hne hee1 hee2 (wf := wf) hf)
      go_wp2_with fail
      obtain ⟨i1, i2, i3⟩ := IE.out _ rfl
      refine bodyPost_ret (v := .agg #[.string f.module, .slice A1 f.uses.length k1, .slice (some ⟨TB, 0, none⟩) f.types.length f.types.length, .slice Av f.items.length cv]) ?_ rfl ⟨_, _, rfl, i1, i3⟩
      have u0 := i2.cell 0
      have u1 := i2.cell 1
      have u2 := i2.cell 2
      have u3 := i2.cell 3
      simp only [qgaq, qgzq, qgsq] at u0 u1 u2 u3
      simp [results, Tryz.results8, go_sem, u0, u1, u2, u3]
end Go.Proofs.YtmpbkfbjmmoapaaGreat
