/- law 21's Wide, Large: walked; a text's bytes, one of them changed, made a text again. No conditions. -/
import Derived.Test.YtildcdgobdfieaaGreatSY43
import Derived.Laws.IdiomStrings
import Derived.Test.YtildcdgobdfieaaGreatSY24
import Derived.Test.YtildcdgobdfieaaGreatSY07
import Derived.Test.YtildcdgobdfieaaGreatSY01
import Derived.Test.YtildcdgobdfieaaGreatSY14
import Derived.Test.YtildcdgobdfieaaGreatSY27
import Derived.Test.YtildcdgobdfieaaGreatSY32
import Derived.Test.YtildcdgobdfieaaGreatSY40
import Derived.Test.YtildcdgobdfieaaGreatSY23
import Derived.ProofKit
import Derived.OpenShut
import Derived.Deep.Slices
import Derived.Deep.Fields
import Derived.ChangeSame
set_option linter.unusedVariables false
set_option linter.unusedSimpArgs false
set_option maxRecDepth 100000
set_option maxHeartbeats 32000000
namespace Go.Proofs.YtildcdgobdfieaaGreat
open Go.RowKit
theorem xor8O (a b : Nat) (ha : a < 256) (hb : b < 256) : bits .xor .u8 (a : Int) (b : Int) = ((a ^^^ b : Nat) : Int) := by
 show IntKind.u8.wrap ((BitVec.ofInt 8 (a : Int) ^^^ BitVec.ofInt 8 (b : Int)).toNat : Int) = _
 have m1 : a % 2 ^ 8 = a := Nat.mod_eq_of_lt (by omega)
 have m2 : b % 2 ^ 8 = b := Nat.mod_eq_of_lt (by omega)
 simp only [BitVec.ofInt_natCast, BitVec.toNat_xor, BitVec.toNat_ofNat, m1, m2]
 have w8 : ∀ q : Nat, q < 2 ^ 8 → IntKind.u8.wrap (q : Int) = q := fun q h => by rw [IntKind.wrap_u8]; omega
 exact w8 _ (Nat.xor_lt_two_pow (n := 8) (by omega) (by omega))
theorem xorO_zero (a b : Nat) : a ^^^ b = a ↔ b = 0 := by
 constructor
 ·intro h
  have := congrArg (fun x => a ^^^ x) h
  simpa [← Nat.xor_assoc] using this
 ·intro h
  rw [h, Nat.xor_zero]
structure MadeO (w : World) (l : List UInt8) (g : Nat) (w4 : World) : Prop where
 wr : Wr [] w w4
 cell : ∀ j (hj : j < l.length), w4.cell? ⟨g, j, none⟩ = some (.int .u8 ((l[j]'hj).toNat : Int))
 free : ∀ j, j < l.length → w4.frozen? ⟨g, j, none⟩ = false
theorem made_of (w : World) (l : List UInt8) : ∃ w4 cap, (convert 9 42 (.string (ansS l))).run Tryz.prog w = .ok (.slice (some ⟨w.heap.size, 0, none⟩) l.length cap) w4 ∧ MadeO w l w.heap.size w4 := by
 have hconv := run_bytes_of_string (P := Tryz.prog) w 9 42 5 (ansS l) Tryz.underlying9 Tryz.underlying42 Tryz.underlying5
 rw [ansS_size] at hconv
 refine ⟨_, _, hconv, ?_, ?_, ?_⟩
 ·exact ((Wr.refl [] w).drew).alloc _
 ·intro j hj
  exact (World.cell?_alloc_mark w.drew _ _ _ j).trans (bytesRow_at (ansS l) _ j (by show j < (ansS l).size; rw [ansS_size]; exact hj))
 ·intro j hj
  refine (World.frozen?_alloc_mark w.drew _ _ _ _ j).trans ?_
  have hs : (ansS l).data.size = l.length := ansS_size l
  have : ¬ (bytesRow (ansS l) (grownCap w l.length 0 5)).size ≤ j := by
   have h3 : (ansS l).data.size ≤ (bytesRow (ansS l) (grownCap w l.length 0 5)).size := by simp [bytesRow]
   omega
  simp [this]
theorem made_back {w w4 : World} {l : List UInt8} {g : Nat} (h : MadeO w l g w4) (cap k x : Nat) (hk : k < l.length) (hx : x < 256) :
  (convert 42 9 (.slice (some ⟨g, 0, none⟩) l.length cap)).run Tryz.prog (w4.setCell ⟨g, k, none⟩ (.int .u8 (x : Int))) = .ok (.string (ansS (l.set k (UInt8.ofNat x)))) (w4.setCell ⟨g, k, none⟩ (.int .u8 (x : Int))) := by
 have := run_convert_bytes_back (P := Tryz.prog) (w4.setCell ⟨g, k, none⟩ (.int .u8 (x : Int))) 42 9 5 ⟨g, 0, none⟩ cap (l.set k (UInt8.ofNat x)) Tryz.underlying42 Tryz.underlying5 Tryz.underlying9 (fun j hj => by
  rw [show (⟨g, 0, none⟩ : Addr).add j = ⟨g, j, none⟩ by simp [Addr.add]; exact fun e => e.symm]
  have hjs : j < l.length := by rw [List.length_set] at hj; exact hj
  by_cases hjk : k = j
  ·subst hjk
   rw [World.cell?_setCell_same' _ _ _ (by rw [h.cell k hk]; rfl)]
   simp only [List.getElem_set_self]
   rw [UInt8.toNat_ofNat', Nat.mod_eq_of_lt hx]
  ·rw [World.cell?_setCell_other _ _ _ _ (by simp only [ne_eq, Addr.mk.injEq, true_and, and_true]; exact hjk), h.cell j hjs]
   simp only [List.getElem_set_ne hjk])
 rw [List.length_set] at this
 exact this
end Go.Proofs.YtildcdgobdfieaaGreat

namespace Go.Proofs.YtildcdgobdfieaaGreat
open Go.RowKit
def keyN (s : ByteArray) : Nat := ofN (moreN 14695981039346656037 (natsOf s))
end Go.Proofs.YtildcdgobdfieaaGreat

namespace Go.Proofs.YtildcdgobdfieaaGreat
open Go.RowKit
def keyP (f : FaceD) : Nat × Int := if mayP f = 0 then (keyN ⟨(faceL (canonF f)).toArray⟩, 0) else (0, mayP f)
theorem keyIface_any (f : FaceD) (vu vt vi : Value) (P : Nat → Prop) (w : World) (h : FaceL w P vu vt vi f) (hW : faceW f) :
  Calls Tryz.prog 32 #[.agg #[.string f.module, vu, vt, vi]] w fun e w' => e = .returned (.tuple #[.int .u64 ((keyP f).1 : Int), .int .i64 (keyP f).2]) ∧ Wr [] w w' := by
 obtain ⟨⟨A1, k1, rfl, hn1, hn2⟩, ⟨A2, k2, rfl, hf1, hf2⟩, ⟨A3, k3, rfl, ha1, ha2⟩⟩ := h.forms
 unfold maxLen at hn2 hf2 ha2
 have h1 := fun W (hWr : Wr [] w W) => canon_any f _ _ _ P W (h.wr0 hWr)
 obtain ⟨w0, hw0⟩ : ∃ w0, w.alloc (.cells #[.string f.module, .slice A1 f.uses.length k1, .slice A2 f.types.length k2, .slice A3 f.items.length k3] 55) = w0 := ⟨_, rfl⟩
 obtain ⟨g, hg⟩ : ∃ g, w.heap.size = g := ⟨_, rfl⟩
 have acc : Wr [] w w0 := by rw [← hw0]; exact (Wr.refl _ _).alloc _
 have bA : Blk w0 g 55 #[.string f.module, .slice A1 f.uses.length k1, .slice A2 f.types.length k2, .slice A3 f.items.length k3] := by rw [← hw0, ← hg]; exact Blk.new _ _ _
 have Hw0 := qh hw0
 have Hg := qh hg
 have H1 := qh h1
 have HM0 := qh hW
 clear hw0 hg h h1 hW
 by_cases hm : mayP f = 0
 ·have hk : keyP f = (keyN ⟨(faceL (canonF f)).toArray⟩, 0) := by unfold keyP; rw [if_pos hm]
  rw [hk]
  unfold keyN
  have hcm := canon_may hm
  have hroom := face_room (face_parts hcm).1
  have h3 := fun W => of_any ⟨(faceL (canonF f)).toArray⟩ (by show (faceL (canonF f)).toArray.size ≤ _; unfold maxLen; simp; omega) W
  obtain ⟨s, hs⟩ : ∃ s, (⟨(faceL (canonF f)).toArray⟩ : ByteArray) = s := ⟨_, rfl⟩
  simp only [hs] at h3 ⊢
  obtain ⟨K, hKK⟩ : ∃ K, ofN (moreN 14695981039346656037 (natsOf s)) = K := ⟨_, rfl⟩
  simp only [hKK] at h3 ⊢
  have H3 := qh h3
  have HSS := qh hs
  clear h3 hroom hs hKK
  go_enter Tryz.func32, Tryz.ntmps32
  go_upto_region 1 with (fail)
  rw [Hw0.out, Hg.out]
  have c0 := bA.cell 0
  have c1 := bA.cell 1
  have c2 := bA.cell 2
  have c3 := bA.cell 3
  simp only [qgaq, qgzq, qgsq] at c0 c1 c2 c3
  have cz0 := bA.frozen 0
  have cz1 := bA.frozen 1
  have cz2 := bA.frozen 2
  have cz3 := bA.frozen 3
  go_wp2_with fail
  refine (H1.out _ acc).mono ?_
  rintro e w1 ⟨vu, vt, vi, rfl, r1, hl⟩
  have ACC := qh (acc.trans r1)
  clear c0 c1 c2 c3 cz0 cz1 cz2 cz3 bA acc r1
  have hcp : canonP f = (canonF f, 0) := by unfold canonP; rw [if_pos hm]
  rw [hcp] at hl ⊢
  have he : encFaceP (canonF f) = (faceL (canonF f), 0) := by unfold encFaceP; rw [if_pos hcm]
  have h2 := fun W (hWr : Wr [] w1 W) => encode_any (canonF f) vu vt vi _ (faceW_canon HM0.out hm) W (hl.wr0 hWr)
  unfold EncodeR at h2
  rw [he] at h2
  obtain ⟨⟨B1, b1, rfl, _, _⟩, ⟨B2, b2, rfl, _, _⟩, ⟨B3, b3, rfl, _, _⟩⟩ := hl.forms
  simp only [FaceD.val] at h2 ⊢
  simp only [HSS.out] at h2
  have H2 := qh h2
  clear hl hm hk hcp hcm he h2 H1 HM0
  go_wp2_with fail
  refine (H2.out _ ((Wr.refl [] w1).alloc _)).mono ?_
  rintro e w2 ⟨rfl, k2⟩
  have A2 := qh ((ACC.out.alloc _).trans k2)
  clear k2
  go_wp2_with fail
  refine (H3.out _).mono ?_
  rintro e w3 ⟨rfl, rfl⟩
  go_wp2_with fail
  go_ret2
  exact ⟨rfl, A2.out⟩
 ·have hk : keyP f = (0, mayP f) := by unfold keyP; rw [if_neg hm]
  rw [hk]
  obtain ⟨mv, hmv⟩ : ∃ mv, mayP f = mv := ⟨_, rfl⟩
  rw [hmv] at hm ⊢
  have HMV := qh hmv
  clear hmv hk
  go_enter Tryz.func32, Tryz.ntmps32
  go_upto_region 1 with (fail)
  rw [Hw0.out, Hg.out]
  have c0 := bA.cell 0
  have c1 := bA.cell 1
  have c2 := bA.cell 2
  have c3 := bA.cell 3
  simp only [qgaq, qgzq, qgsq] at c0 c1 c2 c3
  have cz0 := bA.frozen 0
  have cz1 := bA.frozen 1
  have cz2 := bA.frozen 2
  have cz3 := bA.frozen 3
  go_wp2_with fail
  refine (H1.out _ acc).mono ?_
  rintro e w1 ⟨vu, vt, vi, rfl, r1, hl⟩
  have ACC := qh (acc.trans r1)
  clear c0 c1 c2 c3 cz0 cz1 cz2 cz3 bA acc r1
  have hcp : canonP f = (noFace, mv) := by unfold canonP; rw [HMV.out, if_neg hm]
  rw [hcp] at hl ⊢
  obtain ⟨⟨B1, b1, rfl, _, _⟩, ⟨B2, b2, rfl, _, _⟩, ⟨B3, b3, rfl, _, _⟩⟩ := hl.forms
  simp only [FaceD.val]
  have hne : mv ≠ 0 := hm
  clear hl hcp H1 HM0 hm
  go_wp2_with fail
  go_ret2
  exact ⟨rfl, ACC.out.alloc _⟩
end Go.Proofs.YtildcdgobdfieaaGreat

namespace Go.Proofs.YtildcdgobdfieaaGreat
theorem symP_ok {f : FaceD} (hm : mayP f = 0) : symP f = (fileL symKind (faceL (canonF f)), keyL (faceL (canonF f)), 0) := by unfold symP; rw [if_pos hm]
theorem symP_bad {f : FaceD} (hm : mayP f ≠ 0) : symP f = ([], 0, mayP f) := by unfold symP; rw [if_neg hm]
theorem sym_twice {f : FaceD} (hm : mayP f = 0) : symP (canonF f) = symP f := by
 rw [symP_ok hm, symP_ok (canon_may hm), canon_twice hm]
theorem keyP_sym {f : FaceD} (hm : mayP f = 0) : keyP f = (keyL (faceL (canonF f)), 0) := by
 unfold keyP
 rw [if_pos hm]
 rfl
theorem sym_len {f : FaceD} (hm : mayP f = 0) : 12 ≤ (symP f).1.length := by
 rw [symP_ok hm]
 unfold fileL
 simp only [List.length_append, numL_len]
 show 12 ≤ 4 + 8 + _
 omega
theorem sym_set {f : FaceD} (hW : faceW f) (hm : mayP f = 0) (L : List UInt8) (hL : (symP f).1 = L) (k byN : Nat) (hk : k < L.length) (hb : byN < 256) :
  ((readSymP (L.set k (UInt8.ofNat ((L[k]'hk).toNat ^^^ byN)))).2.2 == 0) = ((byN : Int) == 0) := by
 by_cases h : byN = 0
 ·subst h
  rw [Nat.xor_zero, UInt8.ofNat_toNat, List.set_getElem_self, ← hL, read_sym hW hm]
  rfl
 ·have h2 : ((byN : Int) == 0) = false := by simp only [beq_eq_false_iff_ne, ne_eq]; omega
  rw [h2, beq_eq_false_iff_ne]
  have hL2 : fileL symKind (faceL (canonF f)) = L := by rw [← hL, symP_ok hm]
  have hk2 : k < (fileL symKind (faceL (canonF f))).length := by rw [hL2]; exact hk
  have hc : UInt8.ofNat ((L[k]'hk).toNat ^^^ byN) ≠ (fileL symKind (faceL (canonF f)))[k]'hk2 := by
   intro e
   have e3 : (fileL symKind (faceL (canonF f)))[k]'hk2 = L[k]'hk := by simp only [hL2]
   rw [e3] at e
   have e2 := congrArg UInt8.toNat e
   rw [UInt8.toNat_ofNat', Nat.mod_eq_of_lt (Nat.xor_lt_two_pow (n := 8) (UInt8.toNat_lt _) (by omega))] at e2
   exact h ((xorO_zero _ _).1 e2)
  have hs := head_set symKind (faceL (canonF f)) rfl k _ hk2 hc
  rw [hL2] at hs
  unfold readSymP
  rcases hs with hs | ⟨k', s, hs, hne⟩
  ·rw [hs]; exact (by decide : (7 : Int) ≠ 0)
  ·rw [hs]
   simp only
   split
   ·exact (by decide : (7 : Int) ≠ 0)
   ·first
     | exact (by decide : (210 : Int) ≠ 0)
     | (rw [if_pos hne]; exact (by decide : (210 : Int) ≠ 0))
end Go.Proofs.YtildcdgobdfieaaGreat

namespace Go.Proofs.YtildcdgobdfieaaGreat
open Go.RowKit
def BoolR (w : World) (e : Ending) (w' : World) : Prop := ∃ r : Bool, e = .returned (.bool r) ∧ Wr [] w w'
def LargeR (f : FaceP) (w : World) (e : Ending) (w' : World) : Prop := ∃ r : Bool, e = .returned (.bool r) ∧ Wr [] w w' ∧ (r = false → f.items.length ≤ 60 ∧ f.types.length ≤ 60)
theorem wide_any (t : Ty) (vn vf va vp : Value) (P : Nat → Prop) (w : World) (h : Lists w P vn vf va vp t) :
  Calls Tryz.prog 71 #[.agg #[.int .u8 t.kind, .string t.module, .string t.name, .int .i64 t.base, .int .i64 t.index, .int .i64 t.low, .int .i64 t.high, vn, vf, va, vp, .int .i64 t.result]] w (BoolR w) := by
 obtain ⟨⟨N1, n1, rfl, ln1, mn1⟩, ⟨N2, n2, rfl, ln2, mn2⟩, ⟨N3, n3, rfl, ln3, mn3⟩, ⟨N4, n4, rfl, ln4, mn4⟩⟩ := h.forms
 unfold maxLen at mn1 mn2 mn3 mn4
 obtain ⟨w0, hw0⟩ : ∃ q, w.alloc (.cells #[.int .u8 t.kind, .string t.module, .string t.name, .int .i64 t.base, .int .i64 t.index, .int .i64 t.low, .int .i64 t.high, .slice N1 t.names.length n1, .slice N2 t.fields.length n2, .slice N3 t.arms.length n3, .slice N4 t.params.length n4, .int .i64 t.result] 129) = q := ⟨_, rfl⟩
 obtain ⟨g, hg⟩ : ∃ q, w.heap.size = q := ⟨_, rfl⟩
 have acc : Wr [] w w0 := by rw [← hw0]; exact (Wr.refl _ _).alloc _
 have bA : Blk w0 g 129 #[.int .u8 t.kind, .string t.module, .string t.name, .int .i64 t.base, .int .i64 t.index, .int .i64 t.low, .int .i64 t.high, .slice N1 t.names.length n1, .slice N2 t.fields.length n2, .slice N3 t.arms.length n3, .slice N4 t.params.length n4, .int .i64 t.result] := by rw [← hw0, ← hg]; exact Blk.new _ _ _
 have c1 := bA.cell 1
 have c2 := bA.cell 2
 have c7 := bA.cell 7
 have c8 := bA.cell 8
 have c9 := bA.cell 9
 have c10 := bA.cell 10
 simp only [qgaq, qgzq, qgsq] at c1 c2 c7 c8 c9 c10
 have HL := qh (h.wr0 acc)
 have ACC := qh acc
 have Hw0 := qh hw0
 have Hg := qh hg
 clear h acc bA hw0 hg
 go_enter Tryz.func71, Tryz.ntmps71
 go_upto_region 1 with (fail)
 rw [Hw0.out, Hg.out]
 obtain ⟨r0, hr0⟩ : ∃ r, decide ((t.module.size : Int) > 300) = r := ⟨_, rfl⟩
 cases r0 with
 | true =>
  go_wp2_with fail
  go_ret
  exact ⟨true, rfl, ACC.out⟩
 | false =>
 obtain ⟨r1, hr1⟩ : ∃ r, decide ((t.name.size : Int) > 300) = r := ⟨_, rfl⟩
 cases r1 with
 | true =>
  go_wp2_with fail
  go_ret
  exact ⟨true, rfl, ACC.out⟩
 | false =>
 obtain ⟨r2, hr2⟩ : ∃ r, decide ((t.names.length : Int) > 40) = r := ⟨_, rfl⟩
 cases r2 with
 | true =>
  go_wp2_with fail
  go_ret
  exact ⟨true, rfl, ACC.out⟩
 | false =>
 obtain ⟨r3, hr3⟩ : ∃ r, decide ((t.fields.length : Int) > 40) = r := ⟨_, rfl⟩
 cases r3 with
 | true =>
  go_wp2_with fail
  go_ret
  exact ⟨true, rfl, ACC.out⟩
 | false =>
 obtain ⟨r4, hr4⟩ : ∃ r, decide ((t.arms.length : Int) > 40) = r := ⟨_, rfl⟩
 cases r4 with
 | true =>
  go_wp2_with fail
  go_ret
  exact ⟨true, rfl, ACC.out⟩
 | false =>
 obtain ⟨r5, hr5⟩ : ∃ r, decide ((t.params.length : Int) > 40) = r := ⟨_, rfl⟩
 cases r5 with
 | true =>
  go_wp2_with fail
  go_ret
  exact ⟨true, rfl, ACC.out⟩
 | false =>
 go_wp2_with fail
 go_loop [3] (fun sl => ∃ k : Nat, k ≤ t.names.length ∧ sl = .int .i64 k) (fun sl => t.names.length - (intOf sl).toNat)
 case atStart => exact ⟨0, by omega, rfl⟩
 case round =>
  obtain ⟨k, hk, rfl⟩ := hrel
  by_cases hlt : k < t.names.length
  ·obtain ⟨x, hx⟩ : ∃ x, t.names[k]? = some x := ⟨_, List.getElem?_eq_getElem hlt⟩
   obtain ⟨b, off, c', e, _, _, _, hcx⟩ := Sl.at_ HL.out.names (j := k) (u := .string x) (by rw [List.getElem?_map, hx]; rfl)
   injection e with e1 _ e3
   subst e1 e3
   have h0 : (0 : Int) ≤ (k : Int) := by omega
   have h1 : (k : Int) < (t.names.length : Int) := by omega
   clear hx
   obtain ⟨q, hq⟩ : ∃ r, decide ((x.size : Int) > 300) = r := ⟨_, rfl⟩
   cases q with
   | true =>
    go_wp2_with fail
    go_ret
    exact ⟨true, rfl, ACC.out⟩
   | false =>
    go_wp2_with fail
    go_round
    case rel => exact ⟨k + 1, by omega, by go_num⟩
    case measure => simp [intOf]; omega
  ·obtain rfl : k = t.names.length := by omega
   go_wp2_with fail
   go_loop [4] (fun sl => ∃ k : Nat, k ≤ t.fields.length ∧ sl = .int .i64 k) (fun sl => t.fields.length - (intOf sl).toNat)
   case atStart => exact ⟨0, by omega, rfl⟩
   case round =>
    obtain ⟨k, hk, rfl⟩ := hrel
    by_cases hlt : k < t.fields.length
    ·obtain ⟨x, hx⟩ : ∃ x, t.fields[k]? = some x := ⟨_, List.getElem?_eq_getElem hlt⟩
     obtain ⟨b, off, c', e, _, hcx⟩ := fld_at' HL.out.fields hx
     injection e with e1 _ e3
     subst e1 e3
     have x0 := hcx 0 _ rfl
     simp only [Nat.add_zero] at x0
     have h0 : (0 : Int) ≤ (k : Int) := by omega
     have h1 : (k : Int) < (t.fields.length : Int) := by omega
     clear hx hcx
     obtain ⟨q, hq⟩ : ∃ r, decide ((x.name.size : Int) > 300) = r := ⟨_, rfl⟩
     cases q with
     | true =>
      go_wp2_with fail
      go_ret
      exact ⟨true, rfl, ACC.out⟩
     | false =>
      go_wp2_with fail
      go_round
      case rel => exact ⟨k + 1, by omega, by go_num⟩
      case measure => simp [intOf]; omega
    ·obtain rfl : k = t.fields.length := by omega
     go_wp2_with fail
     go_loop [5] (fun sl => ∃ k : Nat, k ≤ t.arms.length ∧ sl = .int .i64 k) (fun sl => t.arms.length - (intOf sl).toNat)
     case atStart => exact ⟨0, by omega, rfl⟩
     case round =>
      obtain ⟨k, hk, rfl⟩ := hrel
      by_cases hlt : k < t.arms.length
      ·obtain ⟨x, hx⟩ : ∃ x, t.arms[k]? = some x := ⟨_, List.getElem?_eq_getElem hlt⟩
       obtain ⟨xs, hsl, _, harm⟩ := HL.out.arms
       obtain ⟨u0, u1, f0, f1, _, sa, sb⟩ := harm k x hx
       obtain ⟨b, off, c', e, _, _, _, hcx⟩ := Sl.thing hsl (by decide) hlt
       injection e with e1 _ e3
       subst e1 e3
       obtain ⟨Q1, m1, rfl, _, _⟩ := Sl.form sa
       obtain ⟨Q2, m2, rfl, _, _⟩ := Sl.form sb
       have x0 := hcx 0 _ (by decide) f0
       have x1 := hcx 1 _ (by decide) f1
       simp only [Nat.add_zero, ← Nat.add_assoc] at x0 x1
       have h0 : (0 : Int) ≤ (k : Int) := by omega
       have h1 : (k : Int) < (t.arms.length : Int) := by omega
       clear hx hcx harm hsl f0 f1 sa sb
       obtain ⟨q, hq⟩ : ∃ r, decide ((x.frm.length : Int) > 40) = r := ⟨_, rfl⟩
       cases q with
       | true =>
        go_wp2_with fail
        go_ret
        exact ⟨true, rfl, ACC.out⟩
       | false =>
        obtain ⟨q2, hq2⟩ : ∃ r, decide ((x.to.length : Int) > 40) = r := ⟨_, rfl⟩
        cases q2 with
        | true =>
         go_wp2_with fail
         go_ret
         exact ⟨true, rfl, ACC.out⟩
        | false =>
         go_wp2_with fail
         go_round
         case rel => exact ⟨k + 1, by omega, by go_num⟩
         case measure => simp [intOf]; omega
      ·obtain rfl : k = t.arms.length := by omega
       go_wp2_with fail
       go_ret
       exact ⟨false, rfl, ACC.out⟩
theorem large_any (f : FaceP) (vu vt vi : Value) (P : Nat → Prop) (w : World) (h : FacePL w P vu vt vi f) :
  Calls Tryz.prog 29 #[.agg #[.string f.module, vu, vt, vi]] w (LargeR f w) := by
 obtain ⟨⟨A1, k1, rfl, hn1, hn2⟩, ⟨A2, k2, rfl, hf1, hf2⟩, ⟨A3, k3, rfl, ha1, ha2⟩⟩ := h.forms
 unfold maxLen at hn2 hf2 ha2
 obtain ⟨w0, hw0⟩ : ∃ w0, w.alloc (.cells #[.string f.module, .slice A1 f.uses.length k1, .slice A2 f.types.length k2, .slice A3 f.items.length k3] 60) = w0 := ⟨_, rfl⟩
 obtain ⟨g, hg⟩ : ∃ g, w.heap.size = g := ⟨_, rfl⟩
 have acc : Wr [] w w0 := by rw [← hw0]; exact (Wr.refl _ _).alloc _
 have bA : Blk w0 g 60 #[.string f.module, .slice A1 f.uses.length k1, .slice A2 f.types.length k2, .slice A3 f.items.length k3] := by rw [← hw0, ← hg]; exact Blk.new _ _ _
 have c0 := bA.cell 0
 have c1 := bA.cell 1
 have c2 := bA.cell 2
 have c3 := bA.cell 3
 simp only [qgaq, qgzq, qgsq] at c0 c1 c2 c3
 have HL := qh (h.wr0 acc)
 have ACC := qh acc
 have BA := qh bA
 have Hw0 := qh hw0
 have Hg := qh hg
 clear h acc bA hw0 hg
 go_enter Tryz.func29, Tryz.ntmps29
 go_upto_region 1 with (fail)
 rw [Hw0.out, Hg.out]
 obtain ⟨r0, hr0⟩ : ∃ r, decide ((f.uses.length : Int) > 70) = r := ⟨_, rfl⟩
 cases r0 with
 | true =>
  go_wp2_with fail
  go_ret
  exact ⟨true, rfl, ACC.out, fun h => by cases h⟩
 | false =>
 obtain ⟨r1, hr1⟩ : ∃ r, decide ((f.types.length : Int) > 60) = r := ⟨_, rfl⟩
 cases r1 with
 | true =>
  go_wp2_with fail
  go_ret
  exact ⟨true, rfl, ACC.out, fun h => by cases h⟩
 | false =>
 obtain ⟨r2, hr2⟩ : ∃ r, decide ((f.items.length : Int) > 60) = r := ⟨_, rfl⟩
 cases r2 with
 | true =>
  go_wp2_with fail
  go_ret
  exact ⟨true, rfl, ACC.out, fun h => by cases h⟩
 | false =>
 obtain ⟨r3, hr3⟩ : ∃ r, decide ((f.module.size : Int) > 300) = r := ⟨_, rfl⟩
 cases r3 with
 | true =>
  go_wp2_with fail
  go_ret
  exact ⟨true, rfl, ACC.out, fun h => by cases h⟩
 | false =>
 have b60 : f.types.length ≤ 60 := by
  have := of_decide_eq_false hr1
  omega
 have i60 : f.items.length ≤ 60 := by
  have := of_decide_eq_false hr2
  omega
 go_wp2_with fail
 go_loop [3] (fun sl => ∃ k : Nat, k ≤ f.uses.length ∧ sl = .int .i64 k) (fun sl => f.uses.length - (intOf sl).toNat)
 case atStart => exact ⟨0, by omega, rfl⟩
 case round =>
  obtain ⟨k, hk, rfl⟩ := hrel
  by_cases hlt : k < f.uses.length
  ·obtain ⟨x, hx⟩ : ∃ x, f.uses[k]? = some x := ⟨_, List.getElem?_eq_getElem hlt⟩
   obtain ⟨b, off, c', e, _, hcx⟩ := useF_at HL.out.uses hx
   injection e with e1 _ e3
   subst e1 e3
   have x0 := hcx 0 _ rfl
   simp only [Nat.add_zero] at x0
   have h0 : (0 : Int) ≤ (k : Int) := by omega
   have h1 : (k : Int) < (f.uses.length : Int) := by omega
   clear hx hcx
   obtain ⟨q, hq⟩ : ∃ r, decide ((x.module.size : Int) > 300) = r := ⟨_, rfl⟩
   cases q with
   | true =>
    go_wp2_with fail
    go_ret
    exact ⟨true, rfl, ACC.out, fun h => by cases h⟩
   | false =>
    go_wp2_with fail
    go_round
    case rel => exact ⟨k + 1, by omega, by go_num⟩
    case measure => simp [intOf]; omega
  ·obtain rfl : k = f.uses.length := by omega
   go_wp2_with fail
   go_loopw [4] (fun sl wr => ∃ k : Nat, k ≤ f.types.length ∧ sl = .int .i64 k ∧ Wr [] w0 wr) (fun sl _ => f.types.length - (intOf sl).toNat)
   case atStart => exact ⟨0, by omega, rfl, Wr.refl _ _⟩
   case round =>
    obtain ⟨k, hk, rfl, rk⟩ := hrel
    clear c0 c1 c2 c3
    have c2 := (BA.out.wr0 rk).cell 2
    have c3 := (BA.out.wr0 rk).cell 3
    simp only [qgaq, qgzq, qgsq] at c2 c3
    have RK := qh rk
    clear rk
    by_cases hlt : k < f.types.length
    ·obtain ⟨t, ht⟩ : ∃ t, f.types[k]? = some t := ⟨_, List.getElem?_eq_getElem hlt⟩
     obtain ⟨b, off, c', un, uf, ua, up, e, _, hcx, hl⟩ := ty_at (HL.out.types.wr0 RK.out) ht
     injection e with e1 _ e3
     subst e1 e3
     obtain ⟨⟨B1, m1, rfl, _, _⟩, ⟨B2, m2, rfl, _, _⟩, ⟨B3, m3, rfl, _, _⟩, ⟨B4, m4, rfl, _, _⟩⟩ := hl.forms
     have x0 := hcx 0 _ rfl
     have x1 := hcx 1 _ rfl
     have x2 := hcx 2 _ rfl
     have x3 := hcx 3 _ rfl
     have x4 := hcx 4 _ rfl
     have x5 := hcx 5 _ rfl
     have x6 := hcx 6 _ rfl
     have x7 := hcx 7 _ rfl
     have x8 := hcx 8 _ rfl
     have x9 := hcx 9 _ rfl
     have x10 := hcx 10 _ rfl
     have x11 := hcx 11 _ rfl
     simp only [Nat.add_zero] at x0
     have hw := wide_any t _ _ _ _ _ wr hl
     have HW := qh hw
     have h0 : (0 : Int) ≤ (k : Int) := by omega
     have h1 : (k : Int) < (f.types.length : Int) := by omega
     clear ht hcx hl hw
     go_wp2_with fail
     refine HW.out.mono ?_
     rintro e w2 ⟨r, rfl, r2⟩
     have R2 := qh (RK.out.trans r2)
     clear x0 x1 x2 x3 x4 x5 x6 x7 x8 x9 x10 x11 r2
     cases r with
     | true =>
      go_wp2_with fail
      go_ret
      exact ⟨true, rfl, ACC.out.trans R2.out, fun h => by cases h⟩
     | false =>
      go_wp2_with fail
      go_roundw
      case rel => exact ⟨k + 1, by omega, by go_num, R2.out⟩
      case measure => simp [intOf]; omega
    ·obtain rfl : k = f.types.length := by omega
     have HI := qh (Sl.wr0 HL.out.items RK.out)
     go_wp2_with fail
     go_loop [5] (fun sl => ∃ k : Nat, k ≤ f.items.length ∧ sl = .int .i64 k) (fun sl => f.items.length - (intOf sl).toNat)
     case atStart => exact ⟨0, by omega, rfl⟩
     case round =>
      obtain ⟨k, hk, rfl⟩ := hrel
      by_cases hlt : k < f.items.length
      ·obtain ⟨x, hx⟩ : ∃ x, f.items[k]? = some x := ⟨_, List.getElem?_eq_getElem hlt⟩
       obtain ⟨b, off, c', e, _, hcx⟩ := pitm_at HI.out hx
       injection e with e1 _ e3
       subst e1 e3
       have x0 := hcx 0 _ rfl
       have x7 := hcx 7 _ rfl
       simp only [Nat.add_zero] at x0
       have h0 : (0 : Int) ≤ (k : Int) := by omega
       have h1 : (k : Int) < (f.items.length : Int) := by omega
       clear hx hcx
       obtain ⟨q, hq⟩ : ∃ r, decide ((x.name.size : Int) > 300) = r := ⟨_, rfl⟩
       cases q with
       | true =>
        go_wp2_with fail
        go_ret
        exact ⟨true, rfl, ACC.out.trans RK.out, fun h => by cases h⟩
       | false =>
        obtain ⟨q2, hq2⟩ : ∃ r, decide ((x.v.text.size : Int) > 4096) = r := ⟨_, rfl⟩
        cases q2 with
        | true =>
         go_wp2_with fail
         go_ret
         exact ⟨true, rfl, ACC.out.trans RK.out, fun h => by cases h⟩
        | false =>
         go_wp2_with fail
         go_round
         case rel => exact ⟨k + 1, by omega, by go_num⟩
         case measure => simp [intOf]; omega
      ·obtain rfl : k = f.items.length := by omega
       go_wp2_with fail
       go_ret
       exact ⟨false, rfl, ACC.out.trans RK.out, fun _ => ⟨i60, b60⟩⟩
end Go.Proofs.YtildcdgobdfieaaGreat

namespace Go.Proofs.YtildcdgobdfieaaGreat
open Go.RowKit
theorem objSymbols_any (f : FaceP) (vu vt vi : Value) (P : Nat → Prop) (at_ byN : Nat) (hat : at_ < 65536) (hby : byN < 256) (w : World) (h : FacePL w P vu vt vi f) (hs : ∀ x ∈ f.items, 0 ≤ x.v.sort) (hW : faceW (faceOf f)) :
  Calls Tryz.prog 7 #[.agg #[.string f.module, vu, vt, vi], .int .u16 (at_ : Int), .int .u8 (byN : Int)] w fun e w' => e = .returned (.bool true) ∧ Wr [] w w' := by
 obtain ⟨⟨A1, k1, rfl, hn1, hn2⟩, ⟨A2, k2, rfl, hf1, hf2⟩, ⟨A3, k3, rfl, ha1, ha2⟩⟩ := h.forms
 unfold maxLen at hn2 hf2 ha2
 obtain ⟨w0, hw0⟩ : ∃ w0, w.alloc (.cells #[.string f.module, .slice A1 f.uses.length k1, .slice A2 f.types.length k2, .slice A3 f.items.length k3] 60) = w0 := ⟨_, rfl⟩
 obtain ⟨g, hg⟩ : ∃ g, w.heap.size = g := ⟨_, rfl⟩
 have acc : Wr [] w w0 := by rw [← hw0]; exact (Wr.refl _ _).alloc _
 have bF : Blk w0 g 60 #[.string f.module, .slice A1 f.uses.length k1, .slice A2 f.types.length k2, .slice A3 f.items.length k3] := by rw [← hw0, ← hg]; exact Blk.new _ _ _
 have hlg := large_any f _ _ _ P w0 (h.wr0 acc)
 have HF := qh (h.wr0 acc)
 have Hw0 := qh hw0
 have Hg := qh hg
 have HAL := qh alive21
 have HS := qh hs
 have HW := qh hW
 have HLG := qh hlg
 have ACC := qh acc
 have BF := qh bF
 clear hw0 hg h hs hW hlg acc
 go_enter Tryz.func7, Tryz.ntmps7
 go_upto_region 1 with (fail)
 rw [Hw0.out, Hg.out]
 have c0 := (bF).cell 0
 have c1 := (bF).cell 1
 have c2 := (bF).cell 2
 have c3 := (bF).cell 3
 simp only [qgaq, qgzq, qgsq] at c0 c1 c2 c3
 clear bF
 go_wp2_with fail
 refine HLG.out.mono ?_
 rintro e w1 ⟨r, rfl, r1, hsm⟩
 have R1 := qh r1
 clear c0 c1 c2 c3 r1
 cases r with
 | true =>
  clear hsm
  go_wp2_with fail
  refine (HAL.out _).mono ?_
  rintro e wz ⟨rfl, kz⟩
  go_wp2_with fail
  go_ret
  exact ⟨rfl, ACC.out.trans ((R1.out).trans kz)⟩
 | false =>
 have c0 := (BF.out.wr0 R1.out).cell 0
 have c1 := (BF.out.wr0 R1.out).cell 1
 have c2 := (BF.out.wr0 R1.out).cell 2
 have c3 := (BF.out.wr0 R1.out).cell 3
 simp only [qgaq, qgzq, qgsq] at c0 c1 c2 c3
 have hi60 := (hsm rfl).1
 have hof := of_face f _ _ _ P w1 (HF.out.wr0 R1.out) HS.out (by omega)
 have HOF := qh hof
 clear hof hsm
 go_wp2_with fail
 refine HOF.out.mono ?_
 rintro e w2 ⟨vi2, rfl, r2, hl2⟩
 obtain ⟨d, hd⟩ : ∃ d, faceOf f = d := ⟨_, rfl⟩
 have hdm : f.module = d.module := by rw [← hd]; rfl
 have hWd := HW.out
 rw [hd] at hl2 hWd
 obtain ⟨⟨D1, j1, e1, _, _⟩, ⟨D2, j2, e2, _, _⟩, ⟨D3, j3, e3, _, _⟩⟩ := hl2.forms
 have hv : (faceOf f).val (.slice A1 f.uses.length k1) (.slice A2 f.types.length k2) vi2 = .agg #[.string d.module, .slice A1 f.uses.length k1, .slice A2 f.types.length k2, vi2] := by rw [hd]; rfl
 subst e3
 rw [hv]
 have k3w := (Wr.refl [] w2).alloc (.cells #[.string d.module, .slice A1 f.uses.length k1, .slice A2 f.types.length k2, .slice D3 d.items.length j3] 55)
 have bI := Blk.new w2 55 #[.string d.module, .slice A1 f.uses.length k1, .slice A2 f.types.length k2, .slice D3 d.items.length j3]
 have R3 := qh ((R1.out.trans r2).trans k3w)
 have HL2 := qh (hl2.wr0 k3w)
 clear r2 hv hl2 e1 e2 c0 c1 c2 c3 hd hi60
 go_upto_region 4 with (fail)
 generalize w2.alloc (.cells #[.string d.module, .slice A1 f.uses.length k1, .slice A2 f.types.length k2, .slice D3 d.items.length j3] 55) = w3 at *
 generalize w2.heap.size = gi at *
 have BI := qh bI
 have c0 := (bI).cell 0
 have c1 := (bI).cell 1
 have c2 := (bI).cell 2
 have c3 := (bI).cell 3
 simp only [qgaq, qgzq, qgsq] at c0 c1 c2 c3
 have hsy := symbols_any d _ _ _ _ w3 HL2.out hWd
 unfold SymR at hsy
 clear bI k3w
 by_cases hm : mayP d = 0
 ·have hki := fun W (hWr : Wr [] w3 W) => keyIface_any d _ _ _ _ W (HL2.out.wr0 hWr) hWd
  rw [keyP_sym hm] at hki
  have hrs := fun W => rsym_any (symP d).1 (by have := symP_len hm; unfold maxLen; omega) W
  unfold RSymR at hrs
  rw [read_sym hWd hm] at hrs
  have hsy2 := fun W vu vt vi P (hl : FaceL W P vu vt vi (canonF d)) => symbols_any (canonF d) vu vt vi P W hl (faceW_canon hWd hm)
  unfold SymR at hsy2
  rw [sym_twice hm] at hsy2
  have hset := fun (L : List UInt8) (hL : (symP d).1 = L) k hk => sym_set hWd hm L hL k byN hk hby
  have hl12 := sym_len hm
  have hlm := symP_len hm
  have hke : (symP d).2.1 = keyL (faceL (canonF d)) := by rw [symP_ok hm]
  have hs0 : (symP d).2.2 = 0 := by rw [symP_ok hm]
  rw [hs0] at hsy hsy2
  rw [← hke] at hki
  obtain ⟨K, hK⟩ : ∃ q, (symP d).2.1 = q := ⟨_, rfl⟩
  rw [hK] at hsy hsy2 hki hrs
  obtain ⟨L, hL⟩ : ∃ q, (symP d).1 = q := ⟨_, rfl⟩
  rw [hL] at hsy hsy2 hrs hl12 hlm
  have hset := hset L hL
  obtain ⟨cd, hcd⟩ : ∃ q, canonF d = q := ⟨_, rfl⟩
  rw [hcd] at hsy2 hrs
  have hkm : ((at_ : Nat) : Int).tmod (L.length : Int) = ((at_ % L.length : Nat) : Int) := by
   rw [Int.tmod_eq_emod_of_nonneg (by omega), Int.natCast_emod]
  have hk : at_ % L.length < L.length := Nat.mod_lt _ (by omega)
  have HSET := qh (hset (at_ % L.length) hk)
  generalize at_ % L.length = k at hk hkm HSET
  have hk0 : (0 : Int) ≤ (k : Int) := by omega
  have hk1 : (k : Int) < (L.length : Int) := by omega
  have hwat : IntKind.i64.wrap ((at_ : Nat) : Int) = (at_ : Int) := by rw [IntKind.wrap_i64]; omega
  have hF12 : ¬ (L.length : Int) < 12 := by omega
  have hFne : ¬ (L.length : Int) = 0 := by omega
  have hFnz : ((L.length : Int) == 0) = false := by simp only [beq_eq_false_iff_ne, ne_eq]; exact hFne
  have hsz := ansS_size L
  obtain ⟨S, hS⟩ : ∃ q, ansS L = q := ⟨_, rfl⟩
  rw [hS] at hsy hrs hsz
  have hsy2' := fun W vu vt vi P hl => hsy2 W vu vt vi P hl
  simp only [hS] at hsy2'
  simp only [FaceD.val] at hrs
  have hstr := str_eq S
  have HSY := qh hsy
  have HSY2 := qh hsy2'
  have HKI := qh hki
  have HRS := qh hrs
  have HLM := qh hlm
  have HS0 := qh hS
  clear hsy hsy2 hsy2' hki hrs hset hl12 hlm hke hs0 hK hL hcd hm hWd
  go_wp2_with fail
  refine HSY.out.mono ?_
  rintro e w4 ⟨rfl, r4⟩
  have R4 := qh (R3.out.trans r4)
  have Q4 := qh r4
  clear r4 c0 c1 c2 c3
  have c0 := (BI.out.wr0 Q4.out).cell 0
  have c1 := (BI.out.wr0 Q4.out).cell 1
  have c2 := (BI.out.wr0 Q4.out).cell 2
  have c3 := (BI.out.wr0 Q4.out).cell 3
  simp only [qgaq, qgzq, qgsq] at c0 c1 c2 c3
  have hk4 := HKI.out w4 Q4.out
  have HK4 := qh hk4
  clear hk4
  go_wp2_with fail
  refine HK4.out.mono ?_
  rintro e w5 ⟨rfl, r5⟩
  have R5 := qh (R4.out.trans r5)
  clear r5 c0 c1 c2 c3
  go_wp2_with fail
  refine (HRS.out _).mono ?_
  rintro e w6 ⟨vu, vt, vi, rfl, r6, fl⟩
  obtain ⟨⟨E1, e1, rfl, _, _⟩, ⟨E2, e2, rfl, _, _⟩, ⟨E3, e3, rfl, _, _⟩⟩ := fl.forms
  have kq := (Wr.refl [] w6).alloc (.cells #[.string cd.module, .slice E1 cd.uses.length e1, .slice E2 cd.types.length e2, .slice E3 cd.items.length e3] 55)
  have bq := Blk.new w6 55 #[.string cd.module, .slice E1 cd.uses.length e1, .slice E2 cd.types.length e2, .slice E3 cd.items.length e3]
  have hs7 := HSY2.out _ _ _ _ _ (fl.wr0 kq)
  have R7 := qh ((R5.out.trans r6).trans kq)
  go_upto_region 9 with (fail)
  generalize w6.alloc (.cells #[.string cd.module, .slice E1 cd.uses.length e1, .slice E2 cd.types.length e2, .slice E3 cd.items.length e3] 55) = w7 at *
  generalize w6.heap.size = g13 at *
  have c0 := (bq).cell 0
  have c1 := (bq).cell 1
  have c2 := (bq).cell 2
  have c3 := (bq).cell 3
  simp only [qgaq, qgzq, qgsq] at c0 c1 c2 c3
  have HS7 := qh hs7
  clear r6 fl kq bq hs7
  go_wp2_with fail
  refine HS7.out.mono ?_
  rintro e w8 ⟨rfl, r8⟩
  have R8 := qh (R7.out.trans r8)
  clear r8 c0 c1 c2 c3
  obtain ⟨wm, cap, hconv, mo⟩ := made_of w8 L
  have hconv2 := hconv
  rw [HS0.out] at hconv2
  have c0 := mo.cell k hk
  have f0 := mo.free k hk
  have hgz := World.block_lt_of_cell? wm _ c0
  have hxx := xor8O (L[k]'hk).toNat byN (UInt8.toNat_lt _) hby
  have hyl : (L[k]'hk).toNat ^^^ byN < 256 := Nat.xor_lt_two_pow (n := 8) (UInt8.toNat_lt _) (by omega)
  have hback := made_back mo cap k _ hk hyl
  have km := mo.wr
  go_upto_region 14 with (fail)
  have ks : Wr [] w8 (wm.setCell ⟨w8.heap.size, k, none⟩ (.int .u8 (((L[k]'hk).toNat ^^^ byN : Nat) : Int))) := (km.new ((Wr.refl [w8.heap.size] wm).setOn (by simp) _) (Nat.le_refl _))
  generalize wm.setCell ⟨w8.heap.size, k, none⟩ (.int .u8 (((L[k]'hk).toNat ^^^ byN : Nat) : Int)) = wn at *
  have hset := HSET.out
  obtain ⟨LS, hLS⟩ : ∃ q, L.set k (UInt8.ofNat ((L[k]'hk).toNat ^^^ byN)) = q := ⟨_, rfl⟩
  rw [hLS] at hset hback
  have hdl : LS.length ≤ maxLen := by rw [← hLS, List.length_set]; have := HLM.out; unfold maxLen; omega
  have hde := rsym_any LS hdl wn
  unfold RSymR at hde
  obtain ⟨dq, hdq⟩ : ∃ q, readSymP LS = q := ⟨_, rfl⟩
  obtain ⟨fd, kd, H⟩ := dq
  rw [hdq] at hde hset
  simp only [FaceD.val] at hde hset
  obtain ⟨SL, hSL⟩ : ∃ q, ansS LS = q := ⟨_, rfl⟩
  rw [hSL] at hde hback
  have HDE := qh hde
  have RN := qh (R8.out.trans ks)
  clear hconv hconv2 mo c0 f0 hgz hxx hyl km ks hLS hdl hde hdq hSL
  go_wp2_with fail
  refine HDE.out.mono ?_
  rintro e wd ⟨vu, vt, vi, rfl, rd, fl⟩
  obtain ⟨⟨G1, g1, rfl, _, _⟩, ⟨G2, g2, rfl, _, _⟩, ⟨G3, g3, rfl, _, _⟩⟩ := fl.forms
  have kq := (Wr.refl [] wd).alloc (.cells #[.string fd.module, .slice G1 fd.uses.length g1, .slice G2 fd.types.length g2, .slice G3 fd.items.length g3] 55)
  have RD := qh ((RN.out.trans rd).trans kq)
  clear hback rd fl
  go_upto_region 15 with (fail)
  generalize wd.alloc (.cells #[.string fd.module, .slice G1 fd.uses.length g1, .slice G2 fd.types.length g2, .slice G3 fd.items.length g3] 55) = we at *
  clear kq
  obtain ⟨bb, hbb⟩ : ∃ q, ((byN : Int) == 0) = q := ⟨_, rfl⟩
  rw [hbb] at hset
  go_wp2_with fail
  refine (HAL.out _).mono ?_
  rintro e wz ⟨rfl, kz⟩
  go_wp2_with fail
  go_ret
  exact ⟨rfl, ACC.out.trans ((RD.out).trans kz)⟩
 ·rw [symP_bad hm] at hsy
  have hne : mayP d ≠ 0 := hm
  obtain ⟨M, hM⟩ : ∃ q, mayP d = q := ⟨_, rfl⟩
  rw [hM] at hsy hm hne
  simp only at hsy
  have HSY := qh hsy
  have hz0 : (ansS []).toList = [] := ansS_list []
  have hz1 : (ansS []).toList.isEmpty = true := by rw [hz0]; rfl
  generalize ansS [] = SZ at *
  clear hsy hM hWd
  go_wp2_with fail
  refine HSY.out.mono ?_
  rintro e w4 ⟨rfl, r4⟩
  have R4 := qh (R3.out.trans r4)
  clear r4 c0 c1 c2 c3
  go_wp2_with fail
  refine (HAL.out _).mono ?_
  rintro e wz ⟨rfl, kz⟩
  go_wp2_with fail
  go_ret
  exact ⟨rfl, ACC.out.trans ((R4.out).trans kz)⟩
end Go.Proofs.YtildcdgobdfieaaGreat

namespace Go.Proofs.YtildcdgobdfieaaGreat
open Go.ChangeShapes Go.WideShapes Go.ChangeAt Go.RowKit
end Go.Proofs.YtildcdgobdfieaaGreat

namespace Go.Proofs.YtildcdgobdfieaaGreat
open Go.ChangeShapes Go.WideShapes Go.ChangeAt Go.RowKit Go.Deep
section
variable {H : Type} {enc : TypeId × Value → H} {P : Program} {w : World} {base : Nat} {spare : Nat → Bool} {held : Bool}
end
end Go.Proofs.YtildcdgobdfieaaGreat
