/- key.Iface, any interface: walked. Conditions: numbers are within their kinds. -/
import Derived.Test.YtjanbpchedgoiaaGreatKT34
import Derived.Test.YtjanbpchedgoiaaGreatKT36
import Derived.Test.YtjanbpchedgoiaaGreatKT33
set_option linter.unusedVariables false
set_option linter.unusedSimpArgs false
set_option maxRecDepth 100000
set_option maxHeartbeats 32000000
namespace Go.Proofs.YtjanbpchedgoiaaGreat
open Go.RowKit
def keyP (f : FaceD) : Nat × Int := if mayP f = 0 then (keyN ⟨(faceL (canonF f)).toArray⟩, 0) else (0, mayP f)
theorem keyIface_any (f : FaceD) (vu vt vi : Value) (P : Nat → Prop) (w : World) (h : FaceL w P vu vt vi f) (hW : faceW f) :
  Calls Tryz.prog 6 #[.agg #[.string f.module, vu, vt, vi]] w fun e w' => e = .returned (.tuple #[.int .u64 ((keyP f).1 : Int), .int .i64 (keyP f).2]) ∧ Wr [] w w' := by
 obtain ⟨⟨A1, k1, rfl, hn1, hn2⟩, ⟨A2, k2, rfl, hf1, hf2⟩, ⟨A3, k3, rfl, ha1, ha2⟩⟩ := h.forms
 unfold maxLen at hn2 hf2 ha2
 have h1 := fun W (hWr : Wr [] w W) => canon_any f _ _ _ P W (h.wr0 hWr)
 obtain ⟨w0, hw0⟩ : ∃ w0, w.alloc (.cells #[.string f.module, .slice A1 f.uses.length k1, .slice A2 f.types.length k2, .slice A3 f.items.length k3] 35) = w0 := ⟨_, rfl⟩
 obtain ⟨g, hg⟩ : ∃ g, w.heap.size = g := ⟨_, rfl⟩
 have acc : Wr [] w w0 := by rw [← hw0]; exact (Wr.refl _ _).alloc _
 have bA : Blk w0 g 35 #[.string f.module, .slice A1 f.uses.length k1, .slice A2 f.types.length k2, .slice A3 f.items.length k3] := by rw [← hw0, ← hg]; exact Blk.new _ _ _
 have Hw0 := qh hw0
 have Hg := qh hg
 have H1 := qh h1
 have HM0 := qh hW
 clear hw0 hg h h1 hW
 by_cases hm : mayP f = 0
 ·have hk : keyP f = (keyN ⟨(faceL (canonF f)).toArray⟩, 0) := by unfold keyP; rw [if_pos hm]
  rw [hk]
  unfold keyN
  have hcm := canon_may hm
  have hroom := face_room (face_parts hcm).1
  have h3 := fun W => of_any ⟨(faceL (canonF f)).toArray⟩ (by show (faceL (canonF f)).toArray.size ≤ _; unfold maxLen; simp; omega) W
  obtain ⟨s, hs⟩ : ∃ s, (⟨(faceL (canonF f)).toArray⟩ : ByteArray) = s := ⟨_, rfl⟩
  simp only [hs] at h3 ⊢
  obtain ⟨K, hKK⟩ : ∃ K, ofN (moreN 14695981039346656037 (natsOf s)) = K := ⟨_, rfl⟩
  simp only [hKK] at h3 ⊢
  have H3 := qh h3
  have HSS := qh hs
  clear h3 hroom hs hKK
  go_enter Tryz.func6, Tryz.ntmps6
  go_upto_region 1 with (fail)
  rw [Hw0.out, Hg.out]
  have c0 := bA.cell 0
  have c1 := bA.cell 1
  have c2 := bA.cell 2
  have c3 := bA.cell 3
  simp only [qgaq, qgzq, qgsq] at c0 c1 c2 c3
  have cz0 := bA.frozen 0
  have cz1 := bA.frozen 1
  have cz2 := bA.frozen 2
  have cz3 := bA.frozen 3
  go_wp2_with fail
  refine (H1.out _ acc).mono ?_
  rintro e w1 ⟨vu, vt, vi, rfl, r1, hl⟩
  have ACC := qh (acc.trans r1)
  clear c0 c1 c2 c3 cz0 cz1 cz2 cz3 bA acc r1
  have hcp : canonP f = (canonF f, 0) := by unfold canonP; rw [if_pos hm]
  rw [hcp] at hl ⊢
  have he : encFaceP (canonF f) = (faceL (canonF f), 0) := by unfold encFaceP; rw [if_pos hcm]
  have h2 := fun W (hWr : Wr [] w1 W) => encode_any (canonF f) vu vt vi _ (faceW_canon HM0.out hm) W (hl.wr0 hWr)
  unfold EncodeR at h2
  rw [he] at h2
  obtain ⟨⟨B1, b1, rfl, _, _⟩, ⟨B2, b2, rfl, _, _⟩, ⟨B3, b3, rfl, _, _⟩⟩ := hl.forms
  simp only [FaceD.val] at h2 ⊢
  simp only [HSS.out] at h2
  have H2 := qh h2
  clear hl hm hk hcp hcm he h2 H1 HM0
  go_wp2_with fail
  refine (H2.out _ ((Wr.refl [] w1).alloc _)).mono ?_
  rintro e w2 ⟨rfl, k2⟩
  have A2 := qh ((ACC.out.alloc _).trans k2)
  clear k2
  go_wp2_with fail
  refine (H3.out _).mono ?_
  rintro e w3 ⟨rfl, rfl⟩
  go_wp2_with fail
  go_ret2
  exact ⟨rfl, A2.out⟩
 ·have hk : keyP f = (0, mayP f) := by unfold keyP; rw [if_neg hm]
  rw [hk]
  obtain ⟨mv, hmv⟩ : ∃ mv, mayP f = mv := ⟨_, rfl⟩
  rw [hmv] at hm ⊢
  have HMV := qh hmv
  clear hmv hk
  go_enter Tryz.func6, Tryz.ntmps6
  go_upto_region 1 with (fail)
  rw [Hw0.out, Hg.out]
  have c0 := bA.cell 0
  have c1 := bA.cell 1
  have c2 := bA.cell 2
  have c3 := bA.cell 3
  simp only [qgaq, qgzq, qgsq] at c0 c1 c2 c3
  have cz0 := bA.frozen 0
  have cz1 := bA.frozen 1
  have cz2 := bA.frozen 2
  have cz3 := bA.frozen 3
  go_wp2_with fail
  refine (H1.out _ acc).mono ?_
  rintro e w1 ⟨vu, vt, vi, rfl, r1, hl⟩
  have ACC := qh (acc.trans r1)
  clear c0 c1 c2 c3 cz0 cz1 cz2 cz3 bA acc r1
  have hcp : canonP f = (noFace, mv) := by unfold canonP; rw [HMV.out, if_neg hm]
  rw [hcp] at hl ⊢
  obtain ⟨⟨B1, b1, rfl, _, _⟩, ⟨B2, b2, rfl, _, _⟩, ⟨B3, b3, rfl, _, _⟩⟩ := hl.forms
  simp only [FaceD.val]
  have hne : mv ≠ 0 := hm
  clear hl hcp H1 HM0 hm
  go_wp2_with fail
  go_ret2
  exact ⟨rfl, ACC.out.alloc _⟩
theorem conv_oneR (w : World) (b : UInt8) : (convert 71 9 (.slice (some ⟨w.heap.size, 0, none⟩) 1 1)).run Tryz.prog (w.alloc (.cells #[.int .u8 (b.toNat : Int)] 5)) = .ok (.string ⟨#[b]⟩) (w.alloc (.cells #[.int .u8 (b.toNat : Int)] 5)) := by
 have h := BOwn.blk (B := 0) (l := [b]) (Blk.new w 5 #[.int .u8 (b.toNat : Int)]) (Nat.zero_le _) (by unfold maxLen; simp)
 exact conv_own h (by simp)
theorem rtext_any (k : Nat) (hk : k < 18446744073709551616) (w : World) :
  Calls Tryz.prog 15 #[.int .u64 (k : Int)] w fun e w' => e = .returned (.string (textS k)) ∧ Wr [] w w' := by
 have HKK := qh hk
 clear hk
 go_enter Tryz.func15, Tryz.ntmps15
 go_wp2_with fail
 go_loopw [0, 3, 4] (fun sk ss si wr => ∃ n q : Nat, n ≤ 16 ∧ si = .int .i64 n ∧ sk = .int .u64 (q : Int) ∧ k / 16 ^ n = q ∧ ss = .string ⟨(textN k n).toArray⟩ ∧ Wr [] w wr) (fun _ _ si _ => 16 - (intOf si).toNat)
 case atStart => exact ⟨0, k, by omega, rfl, rfl, by simp, rfl, Wr.refl _ _⟩
 case round =>
  obtain ⟨n, q, hn, rfl, rfl, hq, rfl, hr⟩ := hrel
  have HR := qh hr
  have HQ := qh hq
  by_cases hlt : n < 16
  ·have hq64 : q < 18446744073709551616 := by rw [← hq]; exact Nat.lt_of_le_of_lt (Nat.div_le_self _ _) HKK.out
   obtain ⟨d, hd⟩ : ∃ d, q % 16 = d := ⟨_, rfl⟩
   obtain ⟨q2, hq2⟩ : ∃ r, q / 16 = r := ⟨_, rfl⟩
   obtain ⟨b, hb⟩ : ∃ b, hexN d = b := ⟨_, rfl⟩
   have hd16 : d < 16 := by rw [← hd]; exact Nat.mod_lt _ (by decide)
   have ed : IntKind.u8.wrap ((q : Int) % 16) = (d : Int) := by rw [IntKind.wrap_u8]; omega
   have eq2 : (q : Int) / 16 = (q2 : Int) := by omega
   have hlti : (n : Int) < 16 := by omega
   have hn0 : (0 : Int) ≤ (n : Int) := by omega
   have hl : (⟨(textN k n).toArray⟩ : ByteArray).size = n := by
    show (textN k n).toArray.size = n
    rw [List.size_toArray, textN_len]
   have hs : (textN k (n + 1)) = b :: textN k n := by rw [← hb, ← hd, ← hq]; rfl
   have hn2 : k / 16 ^ (n + 1) = q2 := by rw [← hq2, ← hq, Nat.div_div_eq_div_mul, ← Nat.pow_succ]
   have hcv := conv_oneR wr b
   have ks := HR.out.alloc (.cells #[.int .u8 (b.toNat : Int)] 5)
   have HS := qh hs
   have HN2 := qh hn2
   have KS := qh ks
   have hd0 : (0 : Int) ≤ (d : Int) := by omega
   have hd15 : (d : Int) ≤ 15 := by omega
   obtain ⟨tx, htx⟩ : ∃ q : ByteArray, (⟨(textN k n).toArray⟩ : ByteArray) = q := ⟨_, rfl⟩
   have HTX := qh htx
   rw [htx] at hl
   rw [htx]
   by_cases h10 : d < 10
   ·have h10i : (d : Int) < 10 := by omega
    have eb : 48 + (d : Int) = (b.toNat : Int) := by
     rw [← hb]
     unfold hexN
     rw [if_pos h10, toNat_ofNat _ (by omega)]
     omega
    have eb2 : IntKind.u8.wrap (48 + (d : Int)) = (b.toNat : Int) := by rw [← eb, IntKind.wrap_u8]; omega
    clear hr hq hd hq2 hb hs hn2 ks htx h10 hlt hn eb
    go_wp2_with fail
    go_roundw
    case rel => exact ⟨n + 1, q2, by omega, by go_num, rfl, HN2.out, by rw [HS.out, ← HTX.out, cons_str], KS.out⟩
    case measure => simp [intOf]; omega
   ·have h10i : ¬ (d : Int) < 10 := by omega
    have eb : 87 + (d : Int) = (b.toNat : Int) := by
     rw [← hb]
     unfold hexN
     rw [if_neg h10, toNat_ofNat _ (by omega)]
     omega
    have e97 : IntKind.u8.wrap (97 + (d : Int)) = 97 + (d : Int) := by rw [IntKind.wrap_u8]; omega
    have eb2 : IntKind.u8.wrap (97 + (d : Int) - 10) = (b.toNat : Int) := by rw [← eb, IntKind.wrap_u8]; omega
    clear hr hq hd hq2 hb hs hn2 ks htx h10 hlt hn eb
    go_wp2_with fail
    go_roundw
    case rel => exact ⟨n + 1, q2, by omega, by go_num, rfl, HN2.out, by rw [HS.out, ← HTX.out, cons_str], KS.out⟩
    case measure => simp [intOf]; omega
  ·obtain rfl : n = 16 := by omega
   go_wp2_with fail
   go_ret
   exact ⟨rfl, HR.out⟩
theorem riface_b (f : FaceD) (vu vt vi : Value) (P : Nat → Prop) (w : World) (h : FacePL w P vu vt vi (facePl f)) (hW : faceW f) :
  Calls Tryz.prog 8 #[.agg #[.string f.module, vu, vt, vi]] w fun e w' => e = .returned (.tuple #[.int .u64 ((keyP f).1 : Int), .int .i64 (keyP f).2]) ∧ Wr [] w w' := by
 have h1 := fun W (hWr : Wr [] w W) => rcanon_b f vu vt vi P W (h.wr0 hWr) hW
 obtain ⟨⟨A1, k1, rfl, hn1, hn2⟩, ⟨A2, k2, rfl, hf1, hf2⟩, ⟨A3, k3, rfl, ha1, ha2⟩⟩ := h.forms
 obtain ⟨ni, hni⟩ : ∃ q, (facePl f).items.length = q := ⟨_, rfl⟩
 obtain ⟨nt, hnt⟩ : ∃ q, (facePl f).types.length = q := ⟨_, rfl⟩
 obtain ⟨nu, hnu⟩ : ∃ q, (facePl f).uses.length = q := ⟨_, rfl⟩
 simp only [hni, hnt, hnu] at h1 ⊢
 obtain ⟨w0, hw0⟩ : ∃ w0, w.alloc (.cells #[.string f.module, .slice A1 nu k1, .slice A2 nt k2, .slice A3 ni k3] 27) = w0 := ⟨_, rfl⟩
 obtain ⟨g, hg⟩ : ∃ g, w.heap.size = g := ⟨_, rfl⟩
 have acc : Wr [] w w0 := by rw [← hw0]; exact (Wr.refl _ _).alloc _
 have bA : Blk w0 g 27 #[.string f.module, .slice A1 nu k1, .slice A2 nt k2, .slice A3 ni k3] := by rw [← hw0, ← hg]; exact Blk.new _ _ _
 have Hw0 := qh hw0
 have Hg := qh hg
 have H1 := qh (h1 w0 acc)
 have HM0 := qh hW
 have c0 := bA.cell 0
 have c1 := bA.cell 1
 have c2 := bA.cell 2
 have c3 := bA.cell 3
 simp only [qgaq, qgzq, qgsq] at c0 c1 c2 c3
 have ACC := qh acc
 clear hw0 hg h h1 hW hni hnt hnu hn1 hn2 hf1 hf2 ha1 ha2 acc bA
 by_cases hm : mayP f = 0
 ·have hk : keyP f = (keyN ⟨(faceL (canonF f)).toArray⟩, 0) := by unfold keyP; rw [if_pos hm]
  have hcm := canon_may hm
  have hroom := face_room (face_parts hcm).1
  have h3 := fun W => rof_any ⟨(faceL (canonF f)).toArray⟩ (by show (faceL (canonF f)).toArray.size ≤ _; unfold maxLen; simp; omega) W
  have hcp : canonP f = (canonF f, 0) := by unfold canonP; rw [if_pos hm]
  have hcw := faceW_canon HM0.out hm
  have h1 := H1.out
  unfold RCanR at h1
  rw [hcp] at h1
  have h2 := fun vu vt vi P W (hl : FacePL W P vu vt vi (facePl (canonF f))) => bytes_b (canonF f) vu vt vi P W hl hcw hcm
  rw [hk]
  unfold keyN
  obtain ⟨s, hs⟩ : ∃ s, (⟨(faceL (canonF f)).toArray⟩ : ByteArray) = s := ⟨_, rfl⟩
  simp only [hs] at h3 h2 ⊢
  obtain ⟨K, hKK⟩ : ∃ K, ofN (moreN 14695981039346656037 (natsOf s)) = K := ⟨_, rfl⟩
  simp only [hKK] at h3 ⊢
  have H3 := qh h3
  have H2 := qh h2
  have HH1 := qh h1
  clear h3 h2 h1 H1 hroom hs hKK hcp hcw hcm hk hm
  go_enter Tryz.func8, Tryz.ntmps8
  go_upto_region 1 with (fail)
  rw [Hw0.out, Hg.out]
  go_wp2_with fail
  refine HH1.out.mono ?_
  rintro e w1 ⟨vu, vt, vi, rfl, r1, hl⟩
  obtain ⟨⟨B1, b1, rfl, _, _⟩, ⟨B2, b2, rfl, _, _⟩, ⟨B3, b3, rfl, _, _⟩⟩ := hl.forms
  have HL := qh (fun W (r : Wr [] w1 W) => H2.out _ _ _ _ W (hl.wr0 r))
  have R1 := qh (ACC.out.trans r1)
  clear hl r1 c0 c1 c2 c3 HH1 H2
  simp only at HL ⊢
  go_wp2_with fail
  refine (HL.out _ ((Wr.refl [] w1).alloc _)).mono ?_
  rintro e w2 ⟨rfl, k2⟩
  have A2 := qh ((R1.out.alloc _).trans k2)
  clear k2
  go_wp2_with fail
  refine (H3.out _).mono ?_
  rintro e w3 ⟨rfl, rfl⟩
  go_wp2_with fail
  go_ret2
  exact ⟨rfl, A2.out⟩
 ·have hk : keyP f = (0, mayP f) := by unfold keyP; rw [if_neg hm]
  rw [hk]
  obtain ⟨mv, hmv⟩ : ∃ mv, mayP f = mv := ⟨_, rfl⟩
  have h1 := H1.out
  unfold RCanR at h1
  rw [show canonP f = (noFace, mv) by unfold canonP; rw [hmv, if_neg (by rw [← hmv]; exact hm)]] at h1
  rw [hmv] at hm ⊢
  have HH1 := qh h1
  have hb1 : (mv != 0) = true := by simpa using hm
  have hb2 : (mv == 0) = false := by simpa using hm
  clear h1 H1 hmv hk
  go_enter Tryz.func8, Tryz.ntmps8
  go_upto_region 1 with (fail)
  rw [Hw0.out, Hg.out]
  go_wp2_with fail
  refine HH1.out.mono ?_
  rintro e w1 ⟨vu, vt, vi, rfl, r1, hl⟩
  obtain ⟨⟨B1, b1, rfl, _, _⟩, ⟨B2, b2, rfl, _, _⟩, ⟨B3, b3, rfl, _, _⟩⟩ := hl.forms
  have R1 := qh (ACC.out.trans r1)
  clear hl r1 c0 c1 c2 c3 HH1
  simp only
  go_wp2_with fail
  go_ret2
  exact ⟨rfl, R1.out.alloc _⟩
def AliveOk : Prop := ∀ w, Calls Tryz.prog 5 #[] w fun e w' => e = .returned (.bool true) ∧ Wr [] w w'
def recTy : Ty := ⟨12, ⟨#[]⟩, ⟨#[]⟩, 0, 0, 0, 0, [], [], [], [], 0⟩
def recF : FaceD := ⟨⟨#[77]⟩, [], [recTy], []⟩
def badI : ItmD := ⟨⟨#[]⟩, 0, 10, 0, .nil⟩
def badF : FaceD := ⟨⟨#[]⟩, [], [], [badI]⟩
theorem may_rec : mayP recF = 0 := by decide +kernel
theorem may_bad : mayP badF = 7 := by decide +kernel
theorem face_rec (w : World) (q : Nat) (hq : Blk w q 52 recL.toArray) : FaceL w (fun _ => True) (.slice none 0 0) (.slice (some ⟨q, 0, none⟩) 1 1) (.slice none 0 0) recF := by
 refine ⟨Sl.nil _ _ _, ⟨recL, ⟨some ⟨q, 0, none⟩, 1, rfl, Nat.le_refl _, by unfold maxLen; omega, rfl, fun j u hu => ⟨q, 0, rfl, trivial, by rw [Nat.zero_add, hq.cell]; simpa using hu⟩⟩, by decide, fun i t h => ?_⟩, Sl.nil _ _ _⟩
 have hi : i = 0 := by
  have := (List.getElem?_eq_some_iff.1 h).1
  have h1 : recF.types.length = 1 := rfl
  omega
 subst hi
 have ht : recTy = t := by
  have : recF.types[0]? = some recTy := rfl
  rw [this] at h
  injection h
 subst ht
 exact ⟨.slice none 0 0, .slice none 0 0, .slice none 0 0, .slice none 0 0, fun j u hu => by rw [Nat.zero_mul, Nat.zero_add]; exact hu, Sl.nil _ _ _, Sl.nil _ _ _, SlArms.nil _ _, Sl.nil _ _ _⟩
theorem face_bad (w : World) (q : Nat) (hq : Blk w q 59 #[.string ⟨#[]⟩, .int .u8 0, .int .i64 10, .nilIface, .int .i64 0]) : FaceL w (fun _ => True) (.slice none 0 0) (.slice none 0 0) (.slice (some ⟨q, 0, none⟩) 1 1) badF :=
 ⟨Sl.nil _ _ _, SlTys.nil _ _, ⟨some ⟨q, 0, none⟩, 1, rfl, Nat.le_refl _, by unfold maxLen; omega, rfl, fun j u hu => ⟨q, 0, rfl, trivial, by
  have e : badF.items.flatMap ItmD.cells = [.string ⟨#[]⟩, .int .u8 0, .int .i64 10, .nilIface, .int .i64 0] := rfl
  rw [e] at hu
  rw [Nat.zero_add, hq.cell]
  simpa using hu⟩⟩⟩
theorem keyIface_rec (w : World) (q : Nat) (hq : Blk w q 52 recL.toArray) :
  Calls Tryz.prog 6 #[.agg #[.string ⟨#[77]⟩, .slice none 0 0, .slice (some ⟨q, 0, none⟩) 1 1, .slice none 0 0]] w fun e w' => e = .returned (.tuple #[.int .u64 ((keyN (encB ⟨#[77]⟩) : Nat) : Int), .int .i64 0]) ∧ Wr [] w w' :=
 keyIface_plain ⟨#[77]⟩ (by decide) _ w (fun w' r => canon_plain ⟨#[77]⟩ (some ⟨q, 0, none⟩) 1 1 (fun W => Blk W q 52 recL.toArray) (fun _ _ h r => h.wr0 r)
  (fun W hW => by have h := may_any recF _ _ _ _ W (face_rec W q hW); rw [may_rec] at h; exact h)
  (fun W hW => clone_one ⟨#[77]⟩ q W hW) w' (hq.wr0 r)) ⟨_, _, _, _, rfl⟩
theorem keyIface_item (w : World) (q : Nat) (hq : Blk w q 59 #[.string ⟨#[]⟩, .int .u8 0, .int .i64 10, .nilIface, .int .i64 0]) :
  Calls Tryz.prog 6 #[.agg #[.string ⟨#[]⟩, .slice none 0 0, .slice none 0 0, .slice (some ⟨q, 0, none⟩) 1 1]] w fun e w' => e = .returned (.tuple #[.int .u64 0, .int .i64 7]) ∧ Wr [] w w' :=
 keyIface_bad _ 7 (by decide) w (fun w' r => canon_bad _ ⟨_, _, _, _, rfl⟩ 7 (by decide) w' (fun w2 r2 => by have h := may_any badF _ _ _ _ w2 (face_bad w2 q ((hq.wr0 r).wr0 r2)); rw [may_bad] at h; exact h)) ⟨_, _, _, _, rfl⟩
theorem of_nil : ofN (moreN 14695981039346656037 (natsOf ⟨#[]⟩)) = 14695981038468906945 := by decide +kernel
theorem text_255 : textS 255 = ⟨#[48, 48, 48, 48, 48, 48, 48, 48, 48, 48, 48, 48, 48, 48, 102, 102]⟩ := by decide +kernel
theorem alive_ok : AliveOk := by
 intro w
 have hb := fun w => begin_any w
 have hF : (14695981039346656037 : Nat) < 18446744073709551616 := by decide
 have m1 := fun w => more_any 14695981039346656037 hF ⟨#[97]⟩ (by decide) w
 have m2 := fun w => more_any (moreN 14695981039346656037 (natsOf ⟨#[97]⟩)) (moreN_lt hF _) ⟨#[98]⟩ (by decide) w
 have m3 := fun w => more_any 14695981039346656037 hF ⟨#[97, 98]⟩ (by decide) w
 have eab : natsOf ⟨#[97, 98]⟩ = natsOf ⟨#[97]⟩ ++ natsOf ⟨#[98]⟩ := by decide +kernel
 rw [eab, moreN_append] at m3
 have ho := fun w => of_any ⟨#[]⟩ (by decide) w
 rw [of_nil] at ho
 have ht := fun w => text_any 255 (by decide) w
 rw [text_255] at ht
 have k1 := fun w => keyIface_bare ⟨#[77]⟩ (by decide) w
 have k2 := keyIface_rec
 have k3 := keyIface_item
 generalize moreN (moreN 14695981039346656037 (natsOf ⟨#[97]⟩)) (natsOf ⟨#[98]⟩) = Z at *
 generalize moreN 14695981039346656037 (natsOf ⟨#[97]⟩) = Y at *
 generalize keyN (encB ⟨#[77]⟩) = K at *
 have HB := qh hb
 have M1 := qh m1
 have M2 := qh m2
 have M3 := qh m3
 have HO := qh ho
 have HT := qh ht
 have K1 := qh k1
 have K2 := qh k2
 have K3 := qh k3
 clear hb m1 m2 m3 eab ho ht k1 k2 k3
 go_enter Tryz.func5, Tryz.ntmps5
 go_wp2_with fail
 refine (HB.out _).mono ?_
 rintro e w1 ⟨rfl, rfl⟩
 go_wp2_with fail
 refine (M1.out _).mono ?_
 rintro e w1 ⟨rfl, rfl⟩
 go_wp2_with fail
 refine (M2.out _).mono ?_
 rintro e w1 ⟨rfl, rfl⟩
 go_wp2_with fail
 refine (K1.out _).mono ?_
 rintro e w1 ⟨rfl, r1⟩
 have R1 := qh r1
 clear r1
 go_wp2_with fail
 refine (K2.out _ _ (Blk.new w1 52 recL.toArray)).mono ?_
 rintro e w2 ⟨rfl, r2⟩
 have R2 := qh ((R1.out.alloc _).trans r2)
 clear r2
 go_wp2_with fail
 refine (K3.out _ _ (Blk.new w2 59 #[.string ⟨#[]⟩, .int .u8 0, .int .i64 10, .nilIface, .int .i64 0])).mono ?_
 rintro e w3 ⟨rfl, r3⟩
 have R3 := qh ((R2.out.alloc _).trans r3)
 clear r3
 -- L1
 go_wp2_with fail
 refine (M3.out _).mono ?_
 rintro e w4 ⟨rfl, rfl⟩
 go_wp2_with fail
 refine (HO.out _).mono ?_
 rintro e w4 ⟨rfl, rfl⟩
 go_wp2_with fail
 refine (HT.out _).mono ?_
 rintro e w4 ⟨rfl, r4⟩
 go_wp2_with fail
 go_ret
 exact ⟨rfl, R3.out.trans r4⟩
def BoolR (w : World) (e : Ending) (w' : World) : Prop := ∃ r : Bool, e = .returned (.bool r) ∧ Wr [] w w'
def LargeR (f : FaceP) (w : World) (e : Ending) (w' : World) : Prop := ∃ r : Bool, e = .returned (.bool r) ∧ Wr [] w w' ∧ (r = false → f.items.length ≤ 60 ∧ f.types.length ≤ 60)
theorem wide_any (t : Ty) (vn vf va vp : Value) (P : Nat → Prop) (w : World) (h : Lists w P vn vf va vp t) :
  Calls Tryz.prog 16 #[.agg #[.int .u8 t.kind, .string t.module, .string t.name, .int .i64 t.base, .int .i64 t.index, .int .i64 t.low, .int .i64 t.high, vn, vf, va, vp, .int .i64 t.result]] w (BoolR w) := by
 obtain ⟨⟨N1, n1, rfl, ln1, mn1⟩, ⟨N2, n2, rfl, ln2, mn2⟩, ⟨N3, n3, rfl, ln3, mn3⟩, ⟨N4, n4, rfl, ln4, mn4⟩⟩ := h.forms
 unfold maxLen at mn1 mn2 mn3 mn4
 obtain ⟨w0, hw0⟩ : ∃ q, w.alloc (.cells #[.int .u8 t.kind, .string t.module, .string t.name, .int .i64 t.base, .int .i64 t.index, .int .i64 t.low, .int .i64 t.high, .slice N1 t.names.length n1, .slice N2 t.fields.length n2, .slice N3 t.arms.length n3, .slice N4 t.params.length n4, .int .i64 t.result] 52) = q := ⟨_, rfl⟩
 obtain ⟨g, hg⟩ : ∃ q, w.heap.size = q := ⟨_, rfl⟩
 have acc : Wr [] w w0 := by rw [← hw0]; exact (Wr.refl _ _).alloc _
 have bA : Blk w0 g 52 #[.int .u8 t.kind, .string t.module, .string t.name, .int .i64 t.base, .int .i64 t.index, .int .i64 t.low, .int .i64 t.high, .slice N1 t.names.length n1, .slice N2 t.fields.length n2, .slice N3 t.arms.length n3, .slice N4 t.params.length n4, .int .i64 t.result] := by rw [← hw0, ← hg]; exact Blk.new _ _ _
 have c1 := bA.cell 1
 have c2 := bA.cell 2
 have c7 := bA.cell 7
 have c8 := bA.cell 8
 have c9 := bA.cell 9
 have c10 := bA.cell 10
 simp only [qgaq, qgzq, qgsq] at c1 c2 c7 c8 c9 c10
 have HL := qh (h.wr0 acc)
 have ACC := qh acc
 have Hw0 := qh hw0
 have Hg := qh hg
 clear h acc bA hw0 hg
 go_enter Tryz.func16, Tryz.ntmps16
 go_upto_region 1 with (fail)
 rw [Hw0.out, Hg.out]
 obtain ⟨r0, hr0⟩ : ∃ r, decide ((t.module.size : Int) > 300) = r := ⟨_, rfl⟩
 cases r0 with
 | true =>
  go_wp2_with fail
  go_ret
  exact ⟨true, rfl, ACC.out⟩
 | false =>
 obtain ⟨r1, hr1⟩ : ∃ r, decide ((t.name.size : Int) > 300) = r := ⟨_, rfl⟩
 cases r1 with
 | true =>
  go_wp2_with fail
  go_ret
  exact ⟨true, rfl, ACC.out⟩
 | false =>
 obtain ⟨r2, hr2⟩ : ∃ r, decide ((t.names.length : Int) > 40) = r := ⟨_, rfl⟩
 cases r2 with
 | true =>
  go_wp2_with fail
  go_ret
  exact ⟨true, rfl, ACC.out⟩
 | false =>
 obtain ⟨r3, hr3⟩ : ∃ r, decide ((t.fields.length : Int) > 40) = r := ⟨_, rfl⟩
 cases r3 with
 | true =>
  go_wp2_with fail
  go_ret
  exact ⟨true, rfl, ACC.out⟩
 | false =>
 obtain ⟨r4, hr4⟩ : ∃ r, decide ((t.arms.length : Int) > 40) = r := ⟨_, rfl⟩
 cases r4 with
 | true =>
  go_wp2_with fail
  go_ret
  exact ⟨true, rfl, ACC.out⟩
 | false =>
 obtain ⟨r5, hr5⟩ : ∃ r, decide ((t.params.length : Int) > 40) = r := ⟨_, rfl⟩
 cases r5 with
 | true =>
  go_wp2_with fail
  go_ret
  exact ⟨true, rfl, ACC.out⟩
 | false =>
 go_wp2_with fail
 go_loop [3] (fun sl => ∃ k : Nat, k ≤ t.names.length ∧ sl = .int .i64 k) (fun sl => t.names.length - (intOf sl).toNat)
 case atStart => exact ⟨0, by omega, rfl⟩
 case round =>
  obtain ⟨k, hk, rfl⟩ := hrel
  by_cases hlt : k < t.names.length
  ·obtain ⟨x, hx⟩ : ∃ x, t.names[k]? = some x := ⟨_, qgeq hlt⟩
   obtain ⟨b, off, c', e, _, _, _, hcx⟩ := Sl.at_ HL.out.names (j := k) (u := .string x) (by rw [qgmq, hx]; rfl)
   injection e with e1 _ e3
   subst e1 e3
   have h0 : (0 : Int) ≤ (k : Int) := by omega
   have h1 : (k : Int) < (t.names.length : Int) := by omega
   clear hx
   obtain ⟨q, hq⟩ : ∃ r, decide ((x.size : Int) > 300) = r := ⟨_, rfl⟩
   cases q with
   | true =>
    go_wp2_with fail
    go_ret
    exact ⟨true, rfl, ACC.out⟩
   | false =>
    go_wp2_with fail
    go_round
    case rel => exact ⟨k + 1, by omega, by go_num⟩
    case measure => simp [intOf]; omega
  ·obtain rfl : k = t.names.length := by omega
   go_wp2_with fail
   go_loop [4] (fun sl => ∃ k : Nat, k ≤ t.fields.length ∧ sl = .int .i64 k) (fun sl => t.fields.length - (intOf sl).toNat)
   case atStart => exact ⟨0, by omega, rfl⟩
   case round =>
    obtain ⟨k, hk, rfl⟩ := hrel
    by_cases hlt : k < t.fields.length
    ·obtain ⟨x, hx⟩ : ∃ x, t.fields[k]? = some x := ⟨_, qgeq hlt⟩
     obtain ⟨b, off, c', e, _, hcx⟩ := fld_at' HL.out.fields hx
     injection e with e1 _ e3
     subst e1 e3
     have x0 := hcx 0 _ rfl
     simp only [Nat.add_zero] at x0
     have h0 : (0 : Int) ≤ (k : Int) := by omega
     have h1 : (k : Int) < (t.fields.length : Int) := by omega
     clear hx hcx
     obtain ⟨q, hq⟩ : ∃ r, decide ((x.name.size : Int) > 300) = r := ⟨_, rfl⟩
     cases q with
     | true =>
      go_wp2_with fail
      go_ret
      exact ⟨true, rfl, ACC.out⟩
     | false =>
      go_wp2_with fail
      go_round
      case rel => exact ⟨k + 1, by omega, by go_num⟩
      case measure => simp [intOf]; omega
    ·obtain rfl : k = t.fields.length := by omega
     go_wp2_with fail
     go_loop [5] (fun sl => ∃ k : Nat, k ≤ t.arms.length ∧ sl = .int .i64 k) (fun sl => t.arms.length - (intOf sl).toNat)
     case atStart => exact ⟨0, by omega, rfl⟩
     case round =>
      obtain ⟨k, hk, rfl⟩ := hrel
      by_cases hlt : k < t.arms.length
      ·obtain ⟨x, hx⟩ : ∃ x, t.arms[k]? = some x := ⟨_, qgeq hlt⟩
       obtain ⟨xs, hsl, _, harm⟩ := HL.out.arms
       obtain ⟨u0, u1, f0, f1, _, sa, sb⟩ := harm k x hx
       obtain ⟨b, off, c', e, _, _, _, hcx⟩ := Sl.thing hsl (by decide) hlt
       injection e with e1 _ e3
       subst e1 e3
       obtain ⟨Q1, m1, rfl, _, _⟩ := Sl.form sa
       obtain ⟨Q2, m2, rfl, _, _⟩ := Sl.form sb
       have x0 := hcx 0 _ (by decide) f0
       have x1 := hcx 1 _ (by decide) f1
       simp only [Nat.add_zero, ← Nat.add_assoc] at x0 x1
       have h0 : (0 : Int) ≤ (k : Int) := by omega
       have h1 : (k : Int) < (t.arms.length : Int) := by omega
       clear hx hcx harm hsl f0 f1 sa sb
       obtain ⟨q, hq⟩ : ∃ r, decide ((x.frm.length : Int) > 40) = r := ⟨_, rfl⟩
       cases q with
       | true =>
        go_wp2_with fail
        go_ret
        exact ⟨true, rfl, ACC.out⟩
       | false =>
        obtain ⟨q2, hq2⟩ : ∃ r, decide ((x.to.length : Int) > 40) = r := ⟨_, rfl⟩
        cases q2 with
        | true =>
         go_wp2_with fail
         go_ret
         exact ⟨true, rfl, ACC.out⟩
        | false =>
         go_wp2_with fail
         go_round
         case rel => exact ⟨k + 1, by omega, by go_num⟩
         case measure => simp [intOf]; omega
      ·obtain rfl : k = t.arms.length := by omega
       go_wp2_with fail
       go_ret
       exact ⟨false, rfl, ACC.out⟩
theorem large_any (f : FaceP) (vu vt vi : Value) (P : Nat → Prop) (w : World) (h : FacePL w P vu vt vi f) :
  Calls Tryz.prog 4 #[.agg #[.string f.module, vu, vt, vi]] w (LargeR f w) := by
 obtain ⟨⟨A1, k1, rfl, hn1, hn2⟩, ⟨A2, k2, rfl, hf1, hf2⟩, ⟨A3, k3, rfl, ha1, ha2⟩⟩ := h.forms
 unfold maxLen at hn2 hf2 ha2
 obtain ⟨w0, hw0⟩ : ∃ w0, w.alloc (.cells #[.string f.module, .slice A1 f.uses.length k1, .slice A2 f.types.length k2, .slice A3 f.items.length k3] 27) = w0 := ⟨_, rfl⟩
 obtain ⟨g, hg⟩ : ∃ g, w.heap.size = g := ⟨_, rfl⟩
 have acc : Wr [] w w0 := by rw [← hw0]; exact (Wr.refl _ _).alloc _
 have bA : Blk w0 g 27 #[.string f.module, .slice A1 f.uses.length k1, .slice A2 f.types.length k2, .slice A3 f.items.length k3] := by rw [← hw0, ← hg]; exact Blk.new _ _ _
 have c0 := bA.cell 0
 have c1 := bA.cell 1
 have c2 := bA.cell 2
 have c3 := bA.cell 3
 simp only [qgaq, qgzq, qgsq] at c0 c1 c2 c3
 have HL := qh (h.wr0 acc)
 have ACC := qh acc
 have BA := qh bA
 have Hw0 := qh hw0
 have Hg := qh hg
 clear h acc bA hw0 hg
 go_enter Tryz.func4, Tryz.ntmps4
 go_upto_region 1 with (fail)
 rw [Hw0.out, Hg.out]
 obtain ⟨r0, hr0⟩ : ∃ r, decide ((f.uses.length : Int) > 70) = r := ⟨_, rfl⟩
 cases r0 with
 | true =>
  go_wp2_with fail
  go_ret
  exact ⟨true, rfl, ACC.out, fun h => by cases h⟩
 | false =>
 obtain ⟨r1, hr1⟩ : ∃ r, decide ((f.types.length : Int) > 60) = r := ⟨_, rfl⟩
 cases r1 with
 | true =>
  go_wp2_with fail
  go_ret
  exact ⟨true, rfl, ACC.out, fun h => by cases h⟩
 | false =>
 obtain ⟨r2, hr2⟩ : ∃ r, decide ((f.items.length : Int) > 60) = r := ⟨_, rfl⟩
 cases r2 with
 | true =>
  go_wp2_with fail
  go_ret
  exact ⟨true, rfl, ACC.out, fun h => by cases h⟩
 | false =>
 obtain ⟨r3, hr3⟩ : ∃ r, decide ((f.module.size : Int) > 300) = r := ⟨_, rfl⟩
 cases r3 with
 | true =>
  go_wp2_with fail
  go_ret
  exact ⟨true, rfl, ACC.out, fun h => by cases h⟩
 | false =>
 have b60 : f.types.length ≤ 60 := by
  have := of_decide_eq_false hr1
  omega
 have i60 : f.items.length ≤ 60 := by
  have := of_decide_eq_false hr2
  omega
 go_wp2_with fail
 go_loop [3] (fun sl => ∃ k : Nat, k ≤ f.uses.length ∧ sl = .int .i64 k) (fun sl => f.uses.length - (intOf sl).toNat)
 case atStart => exact ⟨0, by omega, rfl⟩
 case round =>
  obtain ⟨k, hk, rfl⟩ := hrel
  by_cases hlt : k < f.uses.length
  ·obtain ⟨x, hx⟩ : ∃ x, f.uses[k]? = some x := ⟨_, qgeq hlt⟩
   obtain ⟨b, off, c', e, _, hcx⟩ := useF_at HL.out.uses hx
   injection e with e1 _ e3
   subst e1 e3
   have x0 := hcx 0 _ rfl
   simp only [Nat.add_zero] at x0
   have h0 : (0 : Int) ≤ (k : Int) := by omega
   have h1 : (k : Int) < (f.uses.length : Int) := by omega
   clear hx hcx
   obtain ⟨q, hq⟩ : ∃ r, decide ((x.module.size : Int) > 300) = r := ⟨_, rfl⟩
   cases q with
   | true =>
    go_wp2_with fail
    go_ret
    exact ⟨true, rfl, ACC.out, fun h => by cases h⟩
   | false =>
    go_wp2_with fail
    go_round
    case rel => exact ⟨k + 1, by omega, by go_num⟩
    case measure => simp [intOf]; omega
  ·obtain rfl : k = f.uses.length := by omega
   go_wp2_with fail
   go_loopw [4] (fun sl wr => ∃ k : Nat, k ≤ f.types.length ∧ sl = .int .i64 k ∧ Wr [] w0 wr) (fun sl _ => f.types.length - (intOf sl).toNat)
   case atStart => exact ⟨0, by omega, rfl, Wr.refl _ _⟩
   case round =>
    obtain ⟨k, hk, rfl, rk⟩ := hrel
    clear c0 c1 c2 c3
    have c2 := (BA.out.wr0 rk).cell 2
    have c3 := (BA.out.wr0 rk).cell 3
    simp only [qgaq, qgzq, qgsq] at c2 c3
    have RK := qh rk
    clear rk
    by_cases hlt : k < f.types.length
    ·obtain ⟨t, ht⟩ : ∃ t, f.types[k]? = some t := ⟨_, qgeq hlt⟩
     obtain ⟨b, off, c', un, uf, ua, up, e, _, hcx, hl⟩ := ty_at (HL.out.types.wr0 RK.out) ht
     injection e with e1 _ e3
     subst e1 e3
     obtain ⟨⟨B1, m1, rfl, _, _⟩, ⟨B2, m2, rfl, _, _⟩, ⟨B3, m3, rfl, _, _⟩, ⟨B4, m4, rfl, _, _⟩⟩ := hl.forms
     have x0 := hcx 0 _ rfl
     have x1 := hcx 1 _ rfl
     have x2 := hcx 2 _ rfl
     have x3 := hcx 3 _ rfl
     have x4 := hcx 4 _ rfl
     have x5 := hcx 5 _ rfl
     have x6 := hcx 6 _ rfl
     have x7 := hcx 7 _ rfl
     have x8 := hcx 8 _ rfl
     have x9 := hcx 9 _ rfl
     have x10 := hcx 10 _ rfl
     have x11 := hcx 11 _ rfl
     simp only [Nat.add_zero] at x0
     have hw := wide_any t _ _ _ _ _ wr hl
     have HW := qh hw
     have h0 : (0 : Int) ≤ (k : Int) := by omega
     have h1 : (k : Int) < (f.types.length : Int) := by omega
     clear ht hcx hl hw
     go_wp2_with fail
     refine HW.out.mono ?_
     rintro e w2 ⟨r, rfl, r2⟩
     have R2 := qh (RK.out.trans r2)
     clear x0 x1 x2 x3 x4 x5 x6 x7 x8 x9 x10 x11 r2
     cases r with
     | true =>
      go_wp2_with fail
      go_ret
      exact ⟨true, rfl, ACC.out.trans R2.out, fun h => by cases h⟩
     | false =>
      go_wp2_with fail
      go_roundw
      case rel => exact ⟨k + 1, by omega, by go_num, R2.out⟩
      case measure => simp [intOf]; omega
    ·obtain rfl : k = f.types.length := by omega
     have HI := qh (Sl.wr0 HL.out.items RK.out)
     go_wp2_with fail
     go_loop [5] (fun sl => ∃ k : Nat, k ≤ f.items.length ∧ sl = .int .i64 k) (fun sl => f.items.length - (intOf sl).toNat)
     case atStart => exact ⟨0, by omega, rfl⟩
     case round =>
      obtain ⟨k, hk, rfl⟩ := hrel
      by_cases hlt : k < f.items.length
      ·obtain ⟨x, hx⟩ : ∃ x, f.items[k]? = some x := ⟨_, qgeq hlt⟩
       obtain ⟨b, off, c', e, _, hcx⟩ := pitm_at HI.out hx
       injection e with e1 _ e3
       subst e1 e3
       have x0 := hcx 0 _ rfl
       have x7 := hcx 7 _ rfl
       simp only [Nat.add_zero] at x0
       have h0 : (0 : Int) ≤ (k : Int) := by omega
       have h1 : (k : Int) < (f.items.length : Int) := by omega
       clear hx hcx
       obtain ⟨q, hq⟩ : ∃ r, decide ((x.name.size : Int) > 300) = r := ⟨_, rfl⟩
       cases q with
       | true =>
        go_wp2_with fail
        go_ret
        exact ⟨true, rfl, ACC.out.trans RK.out, fun h => by cases h⟩
       | false =>
        obtain ⟨q2, hq2⟩ : ∃ r, decide ((x.v.text.size : Int) > 4096) = r := ⟨_, rfl⟩
        cases q2 with
        | true =>
         go_wp2_with fail
         go_ret
         exact ⟨true, rfl, ACC.out.trans RK.out, fun h => by cases h⟩
        | false =>
         go_wp2_with fail
         go_round
         case rel => exact ⟨k + 1, by omega, by go_num⟩
         case measure => simp [intOf]; omega
      ·obtain rfl : k = f.items.length := by omega
       go_wp2_with fail
       go_ret
       exact ⟨false, rfl, ACC.out.trans RK.out, fun _ => ⟨i60, b60⟩⟩
end Go.Proofs.YtjanbpchedgoiaaGreat
