/- KeyParts, walked over what alive answers. Conditions: alive answers true. -/
import Derived.Test.YtjanbpchedgoiaaKeB
import Derived.Laws.IdiomStrings
import Derived.Deep.Cut
import Derived.Deep.DeepCutAuto
namespace Go.Proofs.Ytjanbpchedgoiaa
open Go.RowKit
set_option linter.unusedVariables false
set_option linter.unusedSimpArgs false

theorem natsOf_append (s t : ByteArray) : natsOf (s ++ t) = natsOf s ++ natsOf t := by
  unfold natsOf
  rw [ByteArray.data_append]
  simp
theorem textS_size (k : Nat) : (textS k).size = 16 := by
  show (textN k 16).toArray.size = 16
  rw [List.size_toArray, textN_len]
theorem textS_eq {a b : Nat} (ha : a < 18446744073709551616) (hb : b < 18446744073709551616) : ((textS a).toList == (textS b).toList) = decide (a = b) := by
  unfold textS
  rw [ByteArray.toList_mk, ByteArray.toList_mk, Bool.eq_iff_iff]
  simp [text_inj ha hb]
theorem xor8 (a b : Nat) (ha : a < 256) (hb : b < 256) : bits .xor .u8 (a : Int) (b : Int) = ((a ^^^ b : Nat) : Int) := by
  show IntKind.u8.wrap ((BitVec.ofInt 8 (a : Int) ^^^ BitVec.ofInt 8 (b : Int)).toNat : Int) = _
  have m1 : a % 2 ^ 8 = a := Nat.mod_eq_of_lt (by omega)
  have m2 : b % 2 ^ 8 = b := Nat.mod_eq_of_lt (by omega)
  simp only [BitVec.ofInt_natCast, BitVec.toNat_xor, BitVec.toNat_ofNat, m1, m2]
  have w8 : ∀ q : Nat, q < 2 ^ 8 → IntKind.u8.wrap (q : Int) = q := fun q h => by rw [IntKind.wrap_u8]; omega
  exact w8 _ (Nat.xor_lt_two_pow (n := 8) (by omega) (by omega))
/-- alive answers true. -/
def AliveOk : Prop := ∀ w, Calls Try.prog 5 #[] w fun e w' => e = .returned (.bool true) ∧ Wr [] w w'
theorem set_same {a b : Nat} {r : Bool} (h : a = b ↔ r = true) : ((a : Int) == (b : Int)) = r := by
  rw [Bool.eq_iff_iff, beq_iff_eq, ← h]
  constructor <;> intro e <;> omega

set_option maxRecDepth 100000 in
set_option maxHeartbeats 4000000 in
theorem parts_heavy (hal : AliveOk) (s t : ByteArray) (hs : s.size ≤ maxLen) (ht : t.size ≤ maxLen) (at_ by_ a b : Int) (h : ¬(s.size ≤ 4096 ∧ t.size ≤ 4096)) (w : World) :
    Calls Try.prog 3 #[.string s, .string t, .int .u16 at_, .int .u8 by_, .int .u64 a, .int .u64 b] w fun e w' => e = .returned (.bool true) ∧ Wr [] w w' := by
  unfold maxLen at hs ht
  by_cases h1 : (s.size : Int) > 4096
  · go_enter Try.func3, Try.ntmps3
    go_wp2_with fail
    refine (hal _).mono ?_
    rintro e w1 ⟨rfl, k1⟩
    go_wp2_with fail
    go_ret
    exact ⟨rfl, k1⟩
  · have h2 : (t.size : Int) > 4096 := by omega
    go_enter Try.func3, Try.ntmps3
    go_wp2_with fail
    refine (hal _).mono ?_
    rintro e w1 ⟨rfl, k1⟩
    go_wp2_with fail
    go_ret
    exact ⟨rfl, k1⟩

set_option maxRecDepth 100000 in
set_option maxHeartbeats 8000000 in
theorem parts_main (hal : AliveOk) (s t : ByteArray) (hs : s.size ≤ 4096) (ht : t.size ≤ 4096) (at_ byN a b : Nat) (hat : at_ < 65536) (hby : byN < 256) (ha : a < 18446744073709551616) (hb : b < 18446744073709551616) (w : World) :
    Calls Try.prog 3 #[.string s, .string t, .int .u16 (at_ : Int), .int .u8 (byN : Int), .int .u64 (a : Int), .int .u64 (b : Int)] w fun e w' => e = .returned (.bool true) ∧ Wr [] w w' := by
  have h1 : ¬(s.size : Int) > 4096 := by omega
  have h2 : ¬(t.size : Int) > 4096 := by omega
  have hst : (s ++ t).size = s.size + t.size := ByteArray.size_append
  have hbg := fun w => begin_any w
  have hF : (14695981039346656037 : Nat) < 18446744073709551616 := by decide
  have m1 := fun w => more_any 14695981039346656037 hF (s ++ t) (by unfold maxLen; omega) w
  have m2 := fun w => more_any 14695981039346656037 hF s (by unfold maxLen; omega) w
  have m3 := fun w => more_any (moreN 14695981039346656037 (natsOf s)) (moreN_lt hF _) t (by unfold maxLen; omega) w
  rw [natsOf_append, moreN_append] at m1
  have tA := fun w => text_any a ha w
  have tB := fun w => text_any b hb w
  have hq := textS_eq ha hb
  have hz := textS_size a
  have hab : ((a : Int) == (b : Int)) = decide (a = b) := by rw [Bool.eq_iff_iff]; simp only [beq_iff_eq, decide_eq_true_eq]; omega
  have hsz : ((s.size : Int) + (t.size : Int)) ≤ 9223372036854775807 := by omega
  generalize hqd : decide (a = b) = q at *
  by_cases hs0 : s.size = 0
  · have e0 : ((s.size : Int) == 0) = true := by simp [hs0]
    have E0 := Lib.hid e0
    clear hs0 e0
    generalize moreN (moreN 14695981039346656037 (natsOf s)) (natsOf t) = Z at *
    generalize moreN 14695981039346656037 (natsOf s) = Y at *
    generalize textS a = sa at *
    generalize textS b = sb at *
    go_enter Try.func3, Try.ntmps3
    go_wp2_with fail
    refine (hbg _).mono ?_
    rintro e w1 ⟨rfl, rfl⟩
    go_wp2_with fail
    refine (m1 _).mono ?_
    rintro e w1 ⟨rfl, rfl⟩
    go_wp2_with fail
    refine (hbg _).mono ?_
    rintro e w1 ⟨rfl, rfl⟩
    go_wp2_with fail
    refine (m2 _).mono ?_
    rintro e w1 ⟨rfl, rfl⟩
    go_wp2_with fail
    refine (m3 _).mono ?_
    rintro e w1 ⟨rfl, rfl⟩
    go_wp2_with fail
    refine (tA _).mono ?_
    rintro e w1 ⟨rfl, k1⟩
    go_wp2_with fail
    refine (tB _).mono ?_
    rintro e w2 ⟨rfl, k2⟩
    go_wp2_with fail
    refine (tA _).mono ?_
    rintro e w3 ⟨rfl, k3⟩
    have e0 := E0.out
    go_wp2_with fail
    refine (hal _).mono ?_
    rintro e w4 ⟨rfl, k4⟩
    go_wp2_with fail
    go_ret
    exact ⟨rfl, ((k1.trans k2).trans k3).trans k4⟩
  · have e0 : ((s.size : Int) == 0) = false := by simp only [beq_eq_false_iff_ne, ne_eq]; omega
    have e1 : ¬(s.size : Int) = 0 := by omega
    have E0 := Lib.hid e0
    have E1 := Lib.hid e1
    -- the place, the byte
    have hk : at_ % s.size < s.size := Nat.mod_lt _ (by omega)
    have hkm : ((at_ : Nat) : Int).tmod (s.size : Int) = ((at_ % s.size : Nat) : Int) := by
      rw [Int.tmod_eq_emod_of_nonneg (by omega), Int.natCast_emod]
    generalize at_ % s.size = k at hk hkm
    have hw1 : IntKind.i64.wrap ((at_ : Nat) : Int) = (at_ : Int) := by rw [IntKind.wrap_i64]; omega
    have hk0 : (0 : Int) ≤ (k : Int) := by omega
    have hk1 : (k : Int) < (s.size : Int) := by omega
    have hxl : (s.data[k]'hk).toNat < 256 := (s.data[k]'hk).toNat_lt
    have hxx := xor8 (s.data[k]'hk).toNat byN hxl hby
    have hyl : (s.data[k]'hk).toNat ^^^ byN < 256 := Nat.xor_lt_two_pow (n := 8) (by omega) (by omega)
    -- what becomes of the text
    obtain ⟨l, hl⟩ : ∃ l : List UInt8, l = s.data.toList.set k (UInt8.ofNat ((s.data[k]'hk).toNat ^^^ byN)) := ⟨_, rfl⟩
    have hll : l.length = s.size := by rw [hl, List.length_set, Array.length_toList]; rfl
    have hnl : natsOf ⟨l.toArray⟩ = (natsOf s).set k ((s.data[k]'hk).toNat ^^^ byN) := by
      unfold natsOf
      rw [hl, List.map_set]
      have e : (UInt8.ofNat ((s.data[k]'hk).toNat ^^^ byN)).toNat = (s.data[k]'hk).toNat ^^^ byN := by
        rw [UInt8.toNat_ofNat']
        exact Nat.mod_eq_of_lt hyl
      simp only [List.toList_toArray, e]
    have hx0 : (natsOf s)[k]'(by rw [natsOf_len]; exact hk) = (s.data[k]'hk).toNat := by
      simp only [natsOf, List.getElem_map, Array.getElem_toList]
    have hof : (((ofN (moreN 14695981039346656037 (natsOf ⟨l.toArray⟩)) : Nat) : Int) == ((ofN (moreN 14695981039346656037 (natsOf s)) : Nat) : Int)) = decide (byN = 0) := by
      apply set_same
      rw [ofN_inj (moreN_lt hF _) (moreN_lt hF _), hnl, moreN_set (natsOf_lt s) hF hyl (by rw [natsOf_len]; exact hk), hx0, decide_eq_true_eq]
      constructor
      · intro e
        have := xor_inj_l (c := (s.data[k]'hk).toNat) (a := byN) (b := 0) (by rw [e, Nat.xor_zero])
        exact this
      · intro e
        rw [e, Nat.xor_zero]
    have o1 := fun w => of_any ⟨l.toArray⟩ (by show l.toArray.size ≤ _; rw [List.size_toArray, hll]; unfold maxLen; omega) w
    have o2 := fun w => of_any s (by unfold maxLen; omega) w
    have n1 := fun w => more_any a ha s (by unfold maxLen; omega) w
    have n2 := fun w => more_any b hb s (by unfold maxLen; omega) w
    have hnn : (((moreN a (natsOf s) : Nat) : Int) == ((moreN b (natsOf s) : Nat) : Int)) = q := by
      apply set_same
      rw [moreN_inj (natsOf_lt s) ha hb, ← hqd, decide_eq_true_eq]
    have hb0 : ((byN : Int) == 0) = decide (byN = 0) := by
      rw [Bool.eq_iff_iff]
      simp only [beq_iff_eq, decide_eq_true_eq]
      omega
    generalize decide (byN = 0) = r at *
    generalize ofN (moreN 14695981039346656037 (natsOf ⟨l.toArray⟩)) = O1 at *
    generalize ofN (moreN 14695981039346656037 (natsOf s)) = O2 at *
    generalize moreN a (natsOf s) = N1 at *
    generalize moreN b (natsOf s) = N2 at *
    generalize moreN (moreN 14695981039346656037 (natsOf s)) (natsOf t) = Z at *
    generalize moreN 14695981039346656037 (natsOf s) = Y at *
    generalize textS a = sa at *
    generalize textS b = sb at *
    clear hs0 e0 e1 hnl hx0
    go_enter Try.func3, Try.ntmps3
    go_wp2_with fail
    refine (hbg _).mono ?_
    rintro e w1 ⟨rfl, rfl⟩
    go_wp2_with fail
    refine (m1 _).mono ?_
    rintro e w1 ⟨rfl, rfl⟩
    go_wp2_with fail
    refine (hbg _).mono ?_
    rintro e w1 ⟨rfl, rfl⟩
    go_wp2_with fail
    refine (m2 _).mono ?_
    rintro e w1 ⟨rfl, rfl⟩
    go_wp2_with fail
    refine (m3 _).mono ?_
    rintro e w1 ⟨rfl, rfl⟩
    go_wp2_with fail
    refine (tA _).mono ?_
    rintro e w1 ⟨rfl, k1⟩
    go_wp2_with fail
    refine (tB _).mono ?_
    rintro e w2 ⟨rfl, k2⟩
    go_wp2_with fail
    refine (tA _).mono ?_
    rintro e w3 ⟨rfl, k3⟩
    have acc := (k1.trans k2).trans k3
    have e0 := E0.out
    have e1 := E1.out
    have hconv := run_bytes_of_string (P := Try.prog) w3 9 28 5 s Try.underlying9 Try.underlying28 Try.underlying5
    obtain ⟨cap, hcap⟩ : ∃ cap, grownCap w3 s.size 0 5 = cap := ⟨_, rfl⟩
    rw [hcap] at hconv
    obtain ⟨w4, hw4⟩ : ∃ w4, (w3.drew.alloc (.cells (bytesRow s cap) 5 ((bytesRow s cap).size, (bytesRow s cap).size + 1))) = w4 := ⟨_, rfl⟩
    have hcell : ∀ j (hj : j < s.data.size), w4.cell? ⟨w3.heap.size, j, none⟩ = some (.int .u8 ((s.data[j]'hj).toNat : Int)) := fun j hj => by
      rw [← hw4]
      exact (World.cell?_alloc_mark w3.drew _ _ _ j).trans (bytesRow_at s cap j hj)
    have hfroz : ∀ j, j < s.data.size → w4.frozen? ⟨w3.heap.size, j, none⟩ = false := fun j hj => by
      rw [← hw4]
      refine (World.frozen?_alloc_mark w3.drew _ _ _ _ j).trans ?_
      have : ¬(bytesRow s cap).size ≤ j := by
        have h3 : s.data.size ≤ (bytesRow s cap).size := by simp [bytesRow]
        omega
      simp [this]
    have acc4 : Wr [] w3 w4 := by rw [← hw4]; exact ((Wr.refl [] w3).drew).alloc _
    rw [hw4] at hconv
    have c0 := hcell k hk
    have f0 := hfroz k hk
    have hgz : w3.heap.size < w4.heap.size := World.block_lt_of_cell? w4 _ c0
    go_upto_region 8 with (fail)
    generalize hg : w3.heap.size = g at *
    obtain ⟨w5, hw5⟩ : ∃ w5, w4.setCell ⟨g, k, none⟩ (.int .u8 (((s.data[k]'hk).toNat ^^^ byN : Nat) : Int)) = w5 := ⟨_, rfl⟩
    have hback : (convert 28 9 (.slice (some ⟨g, 0, none⟩) s.size cap)).run Try.prog w5 = .ok (.string ⟨l.toArray⟩) w5 := by
      have := run_convert_bytes_back (P := Try.prog) w5 28 9 5 ⟨g, 0, none⟩ cap l Try.underlying28 Try.underlying5 Try.underlying9 (fun j hj => by
        rw [show (⟨g, 0, none⟩ : Addr).add j = ⟨g, j, none⟩ by simp [Addr.add]; exact fun e => e.symm, ← hw5]
        have hjs : j < s.data.size := by rw [hll] at hj; exact hj
        by_cases hjk : k = j
        · subst hjk
          rw [World.cell?_setCell_same' _ _ _ (by rw [c0]; rfl)]
          simp only [hl, List.getElem_set_self]
          rw [UInt8.toNat_ofNat', Nat.mod_eq_of_lt hyl]
        · rw [World.cell?_setCell_other _ _ _ _ (by simp only [ne_eq, Addr.mk.injEq, true_and, and_true]; exact hjk), hcell j hjs]
          simp only [hl, List.getElem_set_ne hjk, Array.getElem_toList])
      rw [hll] at this
      exact this
    have acc5 : Wr [] w3 w5 := by
      rw [← hw5]
      exact acc4.new ((Wr.refl [g] w4).setOn (by simp) _) (by omega)
    clear hcell hfroz hconv hll hl hw4 hg
    go_upto_region 9 with (fail)
    try rw [hw5]
    clear hw5 c0 f0
    go_wp2_with fail
    refine (o1 _).mono ?_
    rintro e w6 ⟨rfl, rfl⟩
    go_wp2_with fail
    refine (o2 _).mono ?_
    rintro e w6 ⟨rfl, rfl⟩
    go_wp2_with fail
    refine (n1 _).mono ?_
    rintro e w6 ⟨rfl, rfl⟩
    go_wp2_with fail
    refine (n2 _).mono ?_
    rintro e w6 ⟨rfl, rfl⟩
    go_wp2_with fail
    refine (hal _).mono ?_
    rintro e w6 ⟨rfl, k6⟩
    go_wp2_with fail
    go_ret
    exact ⟨rfl, (acc.trans acc5).trans k6⟩
end Go.Proofs.Ytjanbpchedgoiaa
