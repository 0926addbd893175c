/- KeyIface: the plain part, and the walk. Conditions: the interface is such as Go has. -/
import Derived.Test.YtjanbpchedgoiaaKI29
import Derived.Test.YtjanbpchedgoiaaKI03
import Derived.Test.YtjanbpchedgoiaaKI08
import Derived.Test.YtjanbpchedgoiaaKI16
namespace Go.Proofs.Ytjanbpchedgoiaa
open Go.RowKit
set_option linter.unusedVariables false
set_option linter.unusedSimpArgs false

theorem keyN_eq (l : List UInt8) : keyN ⟨l.toArray⟩ = keyL l := by
  unfold keyN keyL natsOf
  simp
theorem may_mod (d : FaceD) (m : ByteArray) (h : m.size = d.module.size) : mayP { d with module := m } = mayP d := by
  unfold mayP faceFit shB
  simp only [h]
  rfl
theorem canon_mod (d : FaceD) (m : ByteArray) : canonF { d with module := m } = { canonF d with module := m } := rfl
/-- One byte of the name is another one: so it is in the bytes. -/
theorem faceL_mod (c : FaceD) (b : UInt8) (h : 0 < c.module.size) : faceL { c with module := ⟨(c.module.data.toList.set 0 b).toArray⟩ } = (faceL c).set 1 b := by
  unfold faceL textL
  have h1 : (c.module.data.toList.set 0 b).toArray.toList.length = c.module.data.toList.length := by simp
  have e1 : (⟨(c.module.data.toList.set 0 b).toArray⟩ : ByteArray).size = c.module.size := by
    show (c.module.data.toList.set 0 b).toArray.size = c.module.data.size
    simp
  simp only [e1, List.append_assoc, List.toList_toArray]
  rw [List.set_append_right _ _ (by rw [numL_len]; exact Nat.le_refl _), numL_len, List.set_append_left _ _ (by rw [Array.length_toList]; exact h)]
theorem faceL_at (c : FaceD) (h : 0 < c.module.size) : ∃ hl : 1 < (faceL c).length, (faceL c)[1]'hl = c.module.data[0]'h := by
  have e : (faceL c)[1]? = some (c.module.data[0]'h) := by
    unfold faceL textL
    simp only [List.append_assoc]
    rw [List.getElem?_append_right (by rw [numL_len]; exact Nat.le_refl _), numL_len, List.getElem?_append_left (by rw [Array.length_toList]; exact h)]
    rw [Nat.sub_self, Array.getElem?_toList, Array.getElem?_eq_getElem]
  obtain ⟨hl, he⟩ := List.getElem?_eq_some_iff.1 e
  exact ⟨hl, he⟩
theorem key_mod (d : FaceD) (hm : mayP d = 0) (h : 0 < d.module.size) (byN : Nat) (hby : byN < 256) (l : List UInt8) (hl : l = d.module.data.toList.set 0 (UInt8.ofNat ((d.module.data[0]'h).toNat ^^^ byN))) :
    ∃ K', keyP { d with module := ⟨l.toArray⟩ } = (K', 0) ∧ (((K' : Nat) : Int) == (((keyP d).1 : Nat) : Int)) = decide (byN = 0) := by
  have hsz : (⟨l.toArray⟩ : ByteArray).size = d.module.size := by
    show l.toArray.size = d.module.data.size
    rw [hl]
    simp
  have hm' : mayP { d with module := ⟨l.toArray⟩ } = 0 := by rw [may_mod _ _ hsz, hm]
  refine ⟨_, by unfold keyP; rw [if_pos hm'], ?_⟩
  have hk : (keyP d).1 = keyN ⟨(faceL (canonF d)).toArray⟩ := by unfold keyP; rw [if_pos hm]
  rw [hk, keyN_eq, keyN_eq, canon_mod]
  have hcm : (canonF d).module = d.module := rfl
  have hf : faceL { canonF d with module := ⟨l.toArray⟩ } = (faceL (canonF d)).set 1 (UInt8.ofNat ((d.module.data[0]'h).toNat ^^^ byN)) := by
    rw [hl]
    exact faceL_mod (canonF d) _ h
  obtain ⟨h1, h2⟩ := faceL_at (canonF d) h
  apply set_same
  rw [hf, set_keyL _ 1 h1, h2, decide_eq_true_eq]
  show UInt8.ofNat ((d.module.data[0]'h).toNat ^^^ byN) = d.module.data[0]'h ↔ byN = 0
  have hx := (d.module.data[0]'h).toNat_lt
  generalize d.module.data[0]'h = x at *
  have hxl : x.toNat ^^^ byN < 256 := Nat.xor_lt_two_pow (n := 8) (by omega) (by omega)
  constructor
  · intro e
    have e2 := congrArg UInt8.toNat e
    rw [UInt8.toNat_ofNat', Nat.mod_eq_of_lt hxl] at e2
    exact xor_inj_l (c := x.toNat) (a := byN) (b := 0) (by rw [e2, Nat.xor_zero])
  · intro e
    rw [e, Nat.xor_zero]
    exact UInt8.ofNat_toNat
theorem key_twice {d : FaceD} (hm : mayP d = 0) : keyP (canonF d) = keyP d := by
  unfold keyP
  rw [if_pos hm, if_pos (canon_may hm), canon_twice hm]
theorem key_ok {d : FaceD} (hm : mayP d = 0) : keyP d = (keyN ⟨(faceL (canonF d)).toArray⟩, 0) := by unfold keyP; rw [if_pos hm]
end Go.Proofs.Ytjanbpchedgoiaa

/- alive of law 15: walked. No conditions. -/
namespace Go.Proofs.Ytjanbpchedgoiaa
open Go.RowKit
set_option linter.unusedVariables false
set_option linter.unusedSimpArgs false

def recTy : Ty := ⟨12, ⟨#[]⟩, ⟨#[]⟩, 0, 0, 0, 0, [], [], [], [], 0⟩
def recF : FaceD := ⟨⟨#[77]⟩, [], [recTy], []⟩
def badI : ItmD := ⟨⟨#[]⟩, 0, 10, 0, .nil⟩
def badF : FaceD := ⟨⟨#[]⟩, [], [], [badI]⟩
theorem may_rec : mayP recF = 0 := by decide +kernel
theorem may_bad : mayP badF = 7 := by decide +kernel
theorem face_rec (w : World) (q : Nat) (hq : Blk w q 55 recL.toArray) : FaceL w (fun _ => True) (.slice none 0 0) (.slice (some ⟨q, 0, none⟩) 1 1) (.slice none 0 0) recF := by
  refine ⟨Sl.nil _ _ _, ⟨recL, ⟨some ⟨q, 0, none⟩, 1, rfl, Nat.le_refl _, by unfold maxLen; omega, rfl, fun j u hu => ⟨q, 0, rfl, trivial, by rw [Nat.zero_add, hq.cell]; simpa using hu⟩⟩, by decide, fun i t h => ?_⟩, Sl.nil _ _ _⟩
  have hi : i = 0 := by
    have := (List.getElem?_eq_some_iff.1 h).1
    have h1 : recF.types.length = 1 := rfl
    omega
  subst hi
  have ht : recTy = t := by
    have : recF.types[0]? = some recTy := rfl
    rw [this] at h
    injection h
  subst ht
  exact ⟨.slice none 0 0, .slice none 0 0, .slice none 0 0, .slice none 0 0, fun j u hu => by rw [Nat.zero_mul, Nat.zero_add]; exact hu, Sl.nil _ _ _, Sl.nil _ _ _, SlArms.nil _ _, Sl.nil _ _ _⟩
theorem face_bad (w : World) (q : Nat) (hq : Blk w q 57 #[.string ⟨#[]⟩, .int .u8 0, .int .i64 10, .nilIface, .int .i64 0]) : FaceL w (fun _ => True) (.slice none 0 0) (.slice none 0 0) (.slice (some ⟨q, 0, none⟩) 1 1) badF :=
  ⟨Sl.nil _ _ _, SlTys.nil _ _, ⟨some ⟨q, 0, none⟩, 1, rfl, Nat.le_refl _, by unfold maxLen; omega, rfl, fun j u hu => ⟨q, 0, rfl, trivial, by
    have e : badF.items.flatMap ItmD.cells = [.string ⟨#[]⟩, .int .u8 0, .int .i64 10, .nilIface, .int .i64 0] := rfl
    rw [e] at hu
    rw [Nat.zero_add, hq.cell]
    simpa using hu⟩⟩⟩
theorem keyIface_rec (w : World) (q : Nat) (hq : Blk w q 55 recL.toArray) :
    Calls Try.prog 12 #[.agg #[.string ⟨#[77]⟩, .slice none 0 0, .slice (some ⟨q, 0, none⟩) 1 1, .slice none 0 0]] w fun e w' => e = .returned (.tuple #[.int .u64 ((keyN (encB ⟨#[77]⟩) : Nat) : Int), .int .i64 0]) ∧ Wr [] w w' :=
  keyIface_plain ⟨#[77]⟩ (by decide) _ w (fun w' r => canon_plain ⟨#[77]⟩ (some ⟨q, 0, none⟩) 1 1 (fun W => Blk W q 55 recL.toArray) (fun _ _ h r => h.wr0 r)
    (fun W hW => by have h := may_any recF _ _ _ _ W (face_rec W q hW); rw [may_rec] at h; exact h)
    (fun W hW => clone_one ⟨#[77]⟩ q W hW) w' (hq.wr0 r)) ⟨_, _, _, _, rfl⟩
theorem keyIface_item (w : World) (q : Nat) (hq : Blk w q 57 #[.string ⟨#[]⟩, .int .u8 0, .int .i64 10, .nilIface, .int .i64 0]) :
    Calls Try.prog 12 #[.agg #[.string ⟨#[]⟩, .slice none 0 0, .slice none 0 0, .slice (some ⟨q, 0, none⟩) 1 1]] w fun e w' => e = .returned (.tuple #[.int .u64 0, .int .i64 7]) ∧ Wr [] w w' :=
  keyIface_bad _ 7 (by decide) w (fun w' r => canon_bad _ ⟨_, _, _, _, rfl⟩ 7 (by decide) w' (fun w2 r2 => by have h := may_any badF _ _ _ _ w2 (face_bad w2 q ((hq.wr0 r).wr0 r2)); rw [may_bad] at h; exact h)) ⟨_, _, _, _, rfl⟩
theorem of_nil : ofN (moreN 14695981039346656037 (natsOf ⟨#[]⟩)) = 14695981038468906945 := by decide +kernel
theorem text_255 : textS 255 = ⟨#[48, 48, 48, 48, 48, 48, 48, 48, 48, 48, 48, 48, 48, 48, 102, 102]⟩ := by decide +kernel
set_option maxRecDepth 100000 in
set_option maxHeartbeats 4000000 in
theorem alive_ok : AliveOk := by
  intro w
  have hb := fun w => begin_any w
  have hF : (14695981039346656037 : Nat) < 18446744073709551616 := by decide
  have m1 := fun w => more_any 14695981039346656037 hF ⟨#[97]⟩ (by decide) w
  have m2 := fun w => more_any (moreN 14695981039346656037 (natsOf ⟨#[97]⟩)) (moreN_lt hF _) ⟨#[98]⟩ (by decide) w
  have m3 := fun w => more_any 14695981039346656037 hF ⟨#[97, 98]⟩ (by decide) w
  have eab : natsOf ⟨#[97, 98]⟩ = natsOf ⟨#[97]⟩ ++ natsOf ⟨#[98]⟩ := by decide +kernel
  rw [eab, moreN_append] at m3
  have ho := fun w => of_any ⟨#[]⟩ (by decide) w
  rw [of_nil] at ho
  have ht := fun w => text_any 255 (by decide) w
  rw [text_255] at ht
  have k1 := fun w => keyIface_bare ⟨#[77]⟩ (by decide) w
  have k2 := keyIface_rec
  have k3 := keyIface_item
  generalize moreN (moreN 14695981039346656037 (natsOf ⟨#[97]⟩)) (natsOf ⟨#[98]⟩) = Z at *
  generalize moreN 14695981039346656037 (natsOf ⟨#[97]⟩) = Y at *
  generalize keyN (encB ⟨#[77]⟩) = K at *
  have HB := Lib.hid hb
  have M1 := Lib.hid m1
  have M2 := Lib.hid m2
  have M3 := Lib.hid m3
  have HO := Lib.hid ho
  have HT := Lib.hid ht
  have K1 := Lib.hid k1
  have K2 := Lib.hid k2
  have K3 := Lib.hid k3
  clear hb m1 m2 m3 eab ho ht k1 k2 k3
  go_enter Try.func5, Try.ntmps5
  go_wp2_with fail
  refine (HB.out _).mono ?_
  rintro e w1 ⟨rfl, rfl⟩
  go_wp2_with fail
  refine (M1.out _).mono ?_
  rintro e w1 ⟨rfl, rfl⟩
  go_wp2_with fail
  refine (M2.out _).mono ?_
  rintro e w1 ⟨rfl, rfl⟩
  go_wp2_with fail
  refine (K1.out _).mono ?_
  rintro e w1 ⟨rfl, r1⟩
  have R1 := Lib.hid r1
  clear r1
  go_wp2_with fail
  refine (K2.out _ _ (Blk.new w1 55 recL.toArray)).mono ?_
  rintro e w2 ⟨rfl, r2⟩
  have R2 := Lib.hid ((R1.out.alloc _).trans r2)
  clear r2
  go_wp2_with fail
  refine (K3.out _ _ (Blk.new w2 57 #[.string ⟨#[]⟩, .int .u8 0, .int .i64 10, .nilIface, .int .i64 0])).mono ?_
  rintro e w3 ⟨rfl, r3⟩
  have R3 := Lib.hid ((R2.out.alloc _).trans r3)
  clear r3
  -- L1
  go_wp2_with fail
  refine (M3.out _).mono ?_
  rintro e w4 ⟨rfl, rfl⟩
  go_wp2_with fail
  refine (HO.out _).mono ?_
  rintro e w4 ⟨rfl, rfl⟩
  go_wp2_with fail
  refine (HT.out _).mono ?_
  rintro e w4 ⟨rfl, r4⟩
  go_wp2_with fail
  go_ret
  exact ⟨rfl, R3.out.trans r4⟩
end Go.Proofs.Ytjanbpchedgoiaa
