/- KeyParts, walked over what alive answers. Conditions: alive answers true. -/
import Derived.Test.YtjanbpchedgoiaaKI02
import Derived.Laws.IdiomStrings
import Derived.Deep.Cut
import Derived.Deep.DeepCutAuto
import Derived.LoopN
import Derived.Test.YtjanbpchedgoiaaKI01
import Derived.OrdersHeld
import Derived.Tactics
import Derived.Deep.DrawnRows
import Derived.Laws.EntriesVeiled
namespace Go.Proofs.Ytjanbpchedgoiaa
open Go.RowKit
set_option linter.unusedVariables false
set_option linter.unusedSimpArgs false

theorem natsOf_append (s t : ByteArray) : natsOf (s ++ t) = natsOf s ++ natsOf t := by
  unfold natsOf
  rw [ByteArray.data_append]
  simp
theorem textS_size (k : Nat) : (textS k).size = 16 := by
  show (textN k 16).toArray.size = 16
  rw [List.size_toArray, textN_len]
theorem textS_eq {a b : Nat} (ha : a < 18446744073709551616) (hb : b < 18446744073709551616) : ((textS a).toList == (textS b).toList) = decide (a = b) := by
  unfold textS
  rw [ByteArray.toList_mk, ByteArray.toList_mk, Bool.eq_iff_iff]
  simp [text_inj ha hb]
theorem xor8 (a b : Nat) (ha : a < 256) (hb : b < 256) : bits .xor .u8 (a : Int) (b : Int) = ((a ^^^ b : Nat) : Int) := by
  show IntKind.u8.wrap ((BitVec.ofInt 8 (a : Int) ^^^ BitVec.ofInt 8 (b : Int)).toNat : Int) = _
  have m1 : a % 2 ^ 8 = a := Nat.mod_eq_of_lt (by omega)
  have m2 : b % 2 ^ 8 = b := Nat.mod_eq_of_lt (by omega)
  simp only [BitVec.ofInt_natCast, BitVec.toNat_xor, BitVec.toNat_ofNat, m1, m2]
  have w8 : ∀ q : Nat, q < 2 ^ 8 → IntKind.u8.wrap (q : Int) = q := fun q h => by rw [IntKind.wrap_u8]; omega
  exact w8 _ (Nat.xor_lt_two_pow (n := 8) (by omega) (by omega))
/-- alive answers true. -/
def AliveOk : Prop := ∀ w, Calls Try.prog 5 #[] w fun e w' => e = .returned (.bool true) ∧ Wr [] w w'
theorem set_same {a b : Nat} {r : Bool} (h : a = b ↔ r = true) : ((a : Int) == (b : Int)) = r := by
  rw [Bool.eq_iff_iff, beq_iff_eq, ← h]
  constructor <;> intro e <;> omega

set_option maxRecDepth 100000 in
set_option maxHeartbeats 4000000 in
theorem parts_heavy (hal : AliveOk) (s t : ByteArray) (hs : s.size ≤ maxLen) (ht : t.size ≤ maxLen) (at_ by_ a b : Int) (h : ¬(s.size ≤ 4096 ∧ t.size ≤ 4096)) (w : World) :
    Calls Try.prog 3 #[.string s, .string t, .int .u16 at_, .int .u8 by_, .int .u64 a, .int .u64 b] w fun e w' => e = .returned (.bool true) ∧ Wr [] w w' := by
  unfold maxLen at hs ht
  by_cases h1 : (s.size : Int) > 4096
  · go_enter Try.func3, Try.ntmps3
    go_wp2_with fail
    refine (hal _).mono ?_
    rintro e w1 ⟨rfl, k1⟩
    go_wp2_with fail
    go_ret
    exact ⟨rfl, k1⟩
  · have h2 : (t.size : Int) > 4096 := by omega
    go_enter Try.func3, Try.ntmps3
    go_wp2_with fail
    refine (hal _).mono ?_
    rintro e w1 ⟨rfl, k1⟩
    go_wp2_with fail
    go_ret
    exact ⟨rfl, k1⟩

set_option maxRecDepth 100000 in
set_option maxHeartbeats 8000000 in
theorem parts_main (hal : AliveOk) (s t : ByteArray) (hs : s.size ≤ 4096) (ht : t.size ≤ 4096) (at_ byN a b : Nat) (hat : at_ < 65536) (hby : byN < 256) (ha : a < 18446744073709551616) (hb : b < 18446744073709551616) (w : World) :
    Calls Try.prog 3 #[.string s, .string t, .int .u16 (at_ : Int), .int .u8 (byN : Int), .int .u64 (a : Int), .int .u64 (b : Int)] w fun e w' => e = .returned (.bool true) ∧ Wr [] w w' := by
  have h1 : ¬(s.size : Int) > 4096 := by omega
  have h2 : ¬(t.size : Int) > 4096 := by omega
  have hst : (s ++ t).size = s.size + t.size := ByteArray.size_append
  have hbg := fun w => begin_any w
  have hF : (14695981039346656037 : Nat) < 18446744073709551616 := by decide
  have m1 := fun w => more_any 14695981039346656037 hF (s ++ t) (by unfold maxLen; omega) w
  have m2 := fun w => more_any 14695981039346656037 hF s (by unfold maxLen; omega) w
  have m3 := fun w => more_any (moreN 14695981039346656037 (natsOf s)) (moreN_lt hF _) t (by unfold maxLen; omega) w
  rw [natsOf_append, moreN_append] at m1
  have tA := fun w => text_any a ha w
  have tB := fun w => text_any b hb w
  have hq := textS_eq ha hb
  have hz := textS_size a
  have hab : ((a : Int) == (b : Int)) = decide (a = b) := by rw [Bool.eq_iff_iff]; simp only [beq_iff_eq, decide_eq_true_eq]; omega
  have hsz : ((s.size : Int) + (t.size : Int)) ≤ 9223372036854775807 := by omega
  generalize hqd : decide (a = b) = q at *
  by_cases hs0 : s.size = 0
  · have e0 : ((s.size : Int) == 0) = true := by simp [hs0]
    have E0 := Lib.hid e0
    clear hs0 e0
    generalize moreN (moreN 14695981039346656037 (natsOf s)) (natsOf t) = Z at *
    generalize moreN 14695981039346656037 (natsOf s) = Y at *
    generalize textS a = sa at *
    generalize textS b = sb at *
    go_enter Try.func3, Try.ntmps3
    go_wp2_with fail
    refine (hbg _).mono ?_
    rintro e w1 ⟨rfl, rfl⟩
    go_wp2_with fail
    refine (m1 _).mono ?_
    rintro e w1 ⟨rfl, rfl⟩
    go_wp2_with fail
    refine (hbg _).mono ?_
    rintro e w1 ⟨rfl, rfl⟩
    go_wp2_with fail
    refine (m2 _).mono ?_
    rintro e w1 ⟨rfl, rfl⟩
    go_wp2_with fail
    refine (m3 _).mono ?_
    rintro e w1 ⟨rfl, rfl⟩
    go_wp2_with fail
    refine (tA _).mono ?_
    rintro e w1 ⟨rfl, k1⟩
    go_wp2_with fail
    refine (tB _).mono ?_
    rintro e w2 ⟨rfl, k2⟩
    go_wp2_with fail
    refine (tA _).mono ?_
    rintro e w3 ⟨rfl, k3⟩
    have e0 := E0.out
    go_wp2_with fail
    refine (hal _).mono ?_
    rintro e w4 ⟨rfl, k4⟩
    go_wp2_with fail
    go_ret
    exact ⟨rfl, ((k1.trans k2).trans k3).trans k4⟩
  · have e0 : ((s.size : Int) == 0) = false := by simp only [beq_eq_false_iff_ne, ne_eq]; omega
    have e1 : ¬(s.size : Int) = 0 := by omega
    have E0 := Lib.hid e0
    have E1 := Lib.hid e1
    -- the place, the byte
    have hk : at_ % s.size < s.size := Nat.mod_lt _ (by omega)
    have hkm : ((at_ : Nat) : Int).tmod (s.size : Int) = ((at_ % s.size : Nat) : Int) := by
      rw [Int.tmod_eq_emod_of_nonneg (by omega), Int.natCast_emod]
    generalize at_ % s.size = k at hk hkm
    have hw1 : IntKind.i64.wrap ((at_ : Nat) : Int) = (at_ : Int) := by rw [IntKind.wrap_i64]; omega
    have hk0 : (0 : Int) ≤ (k : Int) := by omega
    have hk1 : (k : Int) < (s.size : Int) := by omega
    have hxl : (s.data[k]'hk).toNat < 256 := (s.data[k]'hk).toNat_lt
    have hxx := xor8 (s.data[k]'hk).toNat byN hxl hby
    have hyl : (s.data[k]'hk).toNat ^^^ byN < 256 := Nat.xor_lt_two_pow (n := 8) (by omega) (by omega)
    -- what becomes of the text
    obtain ⟨l, hl⟩ : ∃ l : List UInt8, l = s.data.toList.set k (UInt8.ofNat ((s.data[k]'hk).toNat ^^^ byN)) := ⟨_, rfl⟩
    have hll : l.length = s.size := by rw [hl, List.length_set, Array.length_toList]; rfl
    have hnl : natsOf ⟨l.toArray⟩ = (natsOf s).set k ((s.data[k]'hk).toNat ^^^ byN) := by
      unfold natsOf
      rw [hl, List.map_set]
      have e : (UInt8.ofNat ((s.data[k]'hk).toNat ^^^ byN)).toNat = (s.data[k]'hk).toNat ^^^ byN := by
        rw [UInt8.toNat_ofNat']
        exact Nat.mod_eq_of_lt hyl
      simp only [List.toList_toArray, e]
    have hx0 : (natsOf s)[k]'(by rw [natsOf_len]; exact hk) = (s.data[k]'hk).toNat := by
      simp only [natsOf, List.getElem_map, Array.getElem_toList]
    have hof : (((ofN (moreN 14695981039346656037 (natsOf ⟨l.toArray⟩)) : Nat) : Int) == ((ofN (moreN 14695981039346656037 (natsOf s)) : Nat) : Int)) = decide (byN = 0) := by
      apply set_same
      rw [ofN_inj (moreN_lt hF _) (moreN_lt hF _), hnl, moreN_set (natsOf_lt s) hF hyl (by rw [natsOf_len]; exact hk), hx0, decide_eq_true_eq]
      constructor
      · intro e
        have := xor_inj_l (c := (s.data[k]'hk).toNat) (a := byN) (b := 0) (by rw [e, Nat.xor_zero])
        exact this
      · intro e
        rw [e, Nat.xor_zero]
    have o1 := fun w => of_any ⟨l.toArray⟩ (by show l.toArray.size ≤ _; rw [List.size_toArray, hll]; unfold maxLen; omega) w
    have o2 := fun w => of_any s (by unfold maxLen; omega) w
    have n1 := fun w => more_any a ha s (by unfold maxLen; omega) w
    have n2 := fun w => more_any b hb s (by unfold maxLen; omega) w
    have hnn : (((moreN a (natsOf s) : Nat) : Int) == ((moreN b (natsOf s) : Nat) : Int)) = q := by
      apply set_same
      rw [moreN_inj (natsOf_lt s) ha hb, ← hqd, decide_eq_true_eq]
    have hb0 : ((byN : Int) == 0) = decide (byN = 0) := by
      rw [Bool.eq_iff_iff]
      simp only [beq_iff_eq, decide_eq_true_eq]
      omega
    generalize decide (byN = 0) = r at *
    generalize ofN (moreN 14695981039346656037 (natsOf ⟨l.toArray⟩)) = O1 at *
    generalize ofN (moreN 14695981039346656037 (natsOf s)) = O2 at *
    generalize moreN a (natsOf s) = N1 at *
    generalize moreN b (natsOf s) = N2 at *
    generalize moreN (moreN 14695981039346656037 (natsOf s)) (natsOf t) = Z at *
    generalize moreN 14695981039346656037 (natsOf s) = Y at *
    generalize textS a = sa at *
    generalize textS b = sb at *
    clear hs0 e0 e1 hnl hx0
    go_enter Try.func3, Try.ntmps3
    go_wp2_with fail
    refine (hbg _).mono ?_
    rintro e w1 ⟨rfl, rfl⟩
    go_wp2_with fail
    refine (m1 _).mono ?_
    rintro e w1 ⟨rfl, rfl⟩
    go_wp2_with fail
    refine (hbg _).mono ?_
    rintro e w1 ⟨rfl, rfl⟩
    go_wp2_with fail
    refine (m2 _).mono ?_
    rintro e w1 ⟨rfl, rfl⟩
    go_wp2_with fail
    refine (m3 _).mono ?_
    rintro e w1 ⟨rfl, rfl⟩
    go_wp2_with fail
    refine (tA _).mono ?_
    rintro e w1 ⟨rfl, k1⟩
    go_wp2_with fail
    refine (tB _).mono ?_
    rintro e w2 ⟨rfl, k2⟩
    go_wp2_with fail
    refine (tA _).mono ?_
    rintro e w3 ⟨rfl, k3⟩
    have acc := (k1.trans k2).trans k3
    have e0 := E0.out
    have e1 := E1.out
    have hconv := run_bytes_of_string (P := Try.prog) w3 9 28 5 s Try.underlying9 Try.underlying28 Try.underlying5
    obtain ⟨cap, hcap⟩ : ∃ cap, grownCap w3 s.size 0 5 = cap := ⟨_, rfl⟩
    rw [hcap] at hconv
    obtain ⟨w4, hw4⟩ : ∃ w4, (w3.drew.alloc (.cells (bytesRow s cap) 5 ((bytesRow s cap).size, (bytesRow s cap).size + 1))) = w4 := ⟨_, rfl⟩
    have hcell : ∀ j (hj : j < s.data.size), w4.cell? ⟨w3.heap.size, j, none⟩ = some (.int .u8 ((s.data[j]'hj).toNat : Int)) := fun j hj => by
      rw [← hw4]
      exact (World.cell?_alloc_mark w3.drew _ _ _ j).trans (bytesRow_at s cap j hj)
    have hfroz : ∀ j, j < s.data.size → w4.frozen? ⟨w3.heap.size, j, none⟩ = false := fun j hj => by
      rw [← hw4]
      refine (World.frozen?_alloc_mark w3.drew _ _ _ _ j).trans ?_
      have : ¬(bytesRow s cap).size ≤ j := by
        have h3 : s.data.size ≤ (bytesRow s cap).size := by simp [bytesRow]
        omega
      simp [this]
    have acc4 : Wr [] w3 w4 := by rw [← hw4]; exact ((Wr.refl [] w3).drew).alloc _
    rw [hw4] at hconv
    have c0 := hcell k hk
    have f0 := hfroz k hk
    have hgz : w3.heap.size < w4.heap.size := World.block_lt_of_cell? w4 _ c0
    go_upto_region 8 with (fail)
    generalize hg : w3.heap.size = g at *
    obtain ⟨w5, hw5⟩ : ∃ w5, w4.setCell ⟨g, k, none⟩ (.int .u8 (((s.data[k]'hk).toNat ^^^ byN : Nat) : Int)) = w5 := ⟨_, rfl⟩
    have hback : (convert 28 9 (.slice (some ⟨g, 0, none⟩) s.size cap)).run Try.prog w5 = .ok (.string ⟨l.toArray⟩) w5 := by
      have := run_convert_bytes_back (P := Try.prog) w5 28 9 5 ⟨g, 0, none⟩ cap l Try.underlying28 Try.underlying5 Try.underlying9 (fun j hj => by
        rw [show (⟨g, 0, none⟩ : Addr).add j = ⟨g, j, none⟩ by simp [Addr.add]; exact fun e => e.symm, ← hw5]
        have hjs : j < s.data.size := by rw [hll] at hj; exact hj
        by_cases hjk : k = j
        · subst hjk
          rw [World.cell?_setCell_same' _ _ _ (by rw [c0]; rfl)]
          simp only [hl, List.getElem_set_self]
          rw [UInt8.toNat_ofNat', Nat.mod_eq_of_lt hyl]
        · rw [World.cell?_setCell_other _ _ _ _ (by simp only [ne_eq, Addr.mk.injEq, true_and, and_true]; exact hjk), hcell j hjs]
          simp only [hl, List.getElem_set_ne hjk, Array.getElem_toList])
      rw [hll] at this
      exact this
    have acc5 : Wr [] w3 w5 := by
      rw [← hw5]
      exact acc4.new ((Wr.refl [g] w4).setOn (by simp) _) (by omega)
    clear hcell hfroz hconv hll hl hw4 hg
    go_upto_region 9 with (fail)
    try rw [hw5]
    clear hw5 c0 f0
    go_wp2_with fail
    refine (o1 _).mono ?_
    rintro e w6 ⟨rfl, rfl⟩
    go_wp2_with fail
    refine (o2 _).mono ?_
    rintro e w6 ⟨rfl, rfl⟩
    go_wp2_with fail
    refine (n1 _).mono ?_
    rintro e w6 ⟨rfl, rfl⟩
    go_wp2_with fail
    refine (n2 _).mono ?_
    rintro e w6 ⟨rfl, rfl⟩
    go_wp2_with fail
    refine (hal _).mono ?_
    rintro e w6 ⟨rfl, k6⟩
    go_wp2_with fail
    go_ret
    exact ⟨rfl, (acc.trans acc5).trans k6⟩
end Go.Proofs.Ytjanbpchedgoiaa

/- iface's short of one text, once of nobody: walked. Conditions: the text is short. -/
namespace Go.Proofs.Ytjanbpchedgoiaa
open Go.RowKit
set_option linter.unusedVariables false
set_option linter.unusedSimpArgs false

theorem short1_any (s : ByteArray) (hs : s.size ≤ 255) (w : World) : Calls Try.prog 75 #[.string s] w fun e w' => e = .returned (.bool false) ∧ w = w' := by
  have h : decide ((s.size : Int) > 255) = false := by simp; omega
  go_enter Try.func75, Try.ntmps75
  go_wp2_with fail
  go_ret
  exact ⟨rfl, rfl⟩
set_option maxHeartbeats 1000000 in
theorem index_one (g : Nat) (s : ByteArray) (hs : s.size ≤ 255) (w : World) (hc : w.cell? ⟨g, 0, none⟩ = some (.string s)) :
    Calls Try.prog 91 #[.slice (some ⟨g, 0, none⟩) 1 1, .func (.func 75) #[] #[]] w fun e w' => e = .returned (.int .i64 (-1)) ∧ w = w' := by
  have hf := fun w => short1_any s hs w
  have hen : ∀ args w, (callFunc 75 args).run Try.prog w = .ok (.enter 75 args) w := fun args w => rfl
  go_enter Try.func91, Try.ntmps91
  go_wp2_with fail
  refine wp_loop_rounds 2 ?_
  rw [rounds_succ]
  go_wp2_with fail
  refine (hf _).mono ?_
  rintro e w1 ⟨rfl, rfl⟩
  go_wp2_with fail
  rw [rounds_succ]
  go_wp2_with fail
  go_ret
  exact ⟨rfl, rfl⟩
theorem contains_one (g : Nat) (s : ByteArray) (hs : s.size ≤ 255) (w : World) (hc : w.cell? ⟨g, 0, none⟩ = some (.string s)) :
    Calls Try.prog 74 #[.slice (some ⟨g, 0, none⟩) 1 1, .func (.func 75) #[] #[]] w fun e w' => e = .returned (.bool false) ∧ w = w' := by
  have hf := index_one g s hs w hc
  go_enter Try.func74, Try.ntmps74
  go_wp2_with fail
  refine hf.mono ?_
  rintro e w1 ⟨rfl, rfl⟩
  go_wp2_with fail
  go_ret
  exact ⟨rfl, rfl⟩
theorem short_one (g : Nat) (s : ByteArray) (hs : s.size ≤ 255) (w : World) (hc : w.cell? ⟨g, 0, none⟩ = some (.string s)) :
    Calls Try.prog 54 #[.slice (some ⟨g, 0, none⟩) 1 1] w fun e w' => e = .returned (.bool true) ∧ w = w' := by
  have hf := contains_one g s hs w hc
  go_enter Try.func54, Try.ntmps54
  go_wp2_with fail
  refine hf.mono ?_
  rintro e w1 ⟨rfl, rfl⟩
  go_wp2_with fail
  go_ret
  exact ⟨rfl, rfl⟩
set_option maxHeartbeats 1000000 in
theorem onceU_nil (w : World) : Calls Try.prog 27 #[.slice none 0 0, .func (.func 28) #[] #[]] w fun e w' => e = .returned (.bool true) ∧ Wr [] w w' := by
  have hmm := @run_makeMap Try.prog
  go_enter Try.func27, Try.ntmps27
  go_wp2_with fail
  refine wp_loop_rounds 1 ?_
  rw [rounds_succ]
  go_wp2_with fail
  go_ret
  exact ⟨rfl, (Wr.refl [] w).alloc _⟩
set_option maxHeartbeats 1000000 in
theorem onceE_nil (w : World) : Calls Try.prog 29 #[.slice none 0 0, .func (.func 30) #[] #[]] w fun e w' => e = .returned (.bool true) ∧ Wr [] w w' := by
  have hmm := @run_makeMap Try.prog
  go_enter Try.func29, Try.ntmps29
  go_wp2_with fail
  refine wp_loop_rounds 1 ?_
  rw [rounds_succ]
  go_wp2_with fail
  go_ret
  exact ⟨rfl, (Wr.refl [] w).alloc _⟩
set_option maxHeartbeats 2000000 in
/-- fitting, of an interface without lists. -/
theorem fitting_bare (m : ByteArray) (hm : m.size ≤ 255) (w : World) : Calls Try.prog 26 #[.agg #[.string m, .slice none 0 0, .slice none 0 0, .slice none 0 0]] w fun e w' => e = .returned (.bool true) ∧ Wr [] w w' := by
  have hf := fun g w hc => short_one g m hm w hc
  go_enter Try.func26, Try.ntmps26
  go_wp2_with fail
  refine (hf _ _ (by simp [World.cell?_alloc_mark])).mono ?_
  rintro e w1 ⟨rfl, rfl⟩
  go_wp2_with fail
  refine wp_loop_rounds 1 ?_
  rw [rounds_succ]
  go_wp2_with fail
  refine wp_loop_rounds 1 ?_
  rw [rounds_succ]
  go_wp2_with fail
  refine wp_loop_rounds 1 ?_
  rw [rounds_succ]
  go_wp2_with fail
  go_ret
  exact ⟨rfl, ((Wr.refl [] w).alloc _).alloc _⟩
end Go.Proofs.Ytjanbpchedgoiaa

/- iface's May, of an interface without lists: walked. Conditions: its name is short. -/
namespace Go.Proofs.Ytjanbpchedgoiaa
open Go.RowKit
set_option linter.unusedVariables false
set_option linter.unusedSimpArgs false

set_option maxRecDepth 100000 in
set_option maxHeartbeats 2000000 in
theorem formed_bare (m : ByteArray) (w : World) : Calls Try.prog 31 #[.agg #[.string m, .slice none 0 0, .slice none 0 0, .slice none 0 0]] w fun e w' => e = .returned (.bool true) ∧ Wr [] w w' := by
  have hmf : ∀ (fn : Fn) (first cap : Array Value) (w : World), (Instr.makeFunc fn first cap).run Try.prog w = .ok (.func fn first cap) w := fun _ _ _ _ => rfl
  go_enter Try.func31, Try.ntmps31
  go_wp2_with fail
  refine wp_loop_rounds 1 ?_
  rw [rounds_succ]
  go_wp2_with fail
  refine wp_loop_rounds 1 ?_
  rw [rounds_succ]
  go_wp2_with fail
  go_ret
  exact ⟨rfl, (Wr.refl [] w).alloc _⟩
set_option maxRecDepth 100000 in
set_option maxHeartbeats 2000000 in
theorem may_bare (m : ByteArray) (hm : m.size ≤ 255) (w : World) : Calls Try.prog 19 #[.agg #[.string m, .slice none 0 0, .slice none 0 0, .slice none 0 0]] w fun e w' => e = .returned (.int .i64 0) ∧ Wr [] w w' := by
  have h1 := fun w => fitting_bare m hm w
  have h2 := fun w => onceU_nil w
  have h3 := fun w => onceE_nil w
  have h4 := fun w => formed_bare m w
  have bb := Blk.new w 39 #[.string m, .slice none 0 0, .slice none 0 0, .slice none 0 0]
  have r0 := (Wr.refl [] w).alloc (.cells #[.string m, .slice none 0 0, .slice none 0 0, .slice none 0 0] 39)
  go_enter Try.func19, Try.ntmps19
  go_wp2_with fail
  refine (h1 _).mono ?_
  rintro e w1 ⟨rfl, k1⟩
  replace bb := bb.wr0 k1
  replace r0 := r0.trans k1
  have c0 := bb.cell 0
  have c1 := bb.cell 1
  have c2 := bb.cell 2
  have c3 := bb.cell 3
  simp only [List.getElem?_toArray, List.getElem?_cons_zero, List.getElem?_cons_succ] at c0 c1 c2 c3
  go_wp2_with fail
  refine (h2 _).mono ?_
  rintro e w2 ⟨rfl, k2⟩
  replace bb := bb.wr0 k2
  replace r0 := r0.trans k2
  clear c0 c1 c2 c3
  have c0 := bb.cell 0
  have c1 := bb.cell 1
  have c2 := bb.cell 2
  have c3 := bb.cell 3
  simp only [List.getElem?_toArray, List.getElem?_cons_zero, List.getElem?_cons_succ] at c0 c1 c2 c3
  go_wp2_with fail
  refine (h3 _).mono ?_
  rintro e w3 ⟨rfl, k3⟩
  replace bb := bb.wr0 k3
  replace r0 := r0.trans k3
  clear c0 c1 c2 c3
  have c0 := bb.cell 0
  have c1 := bb.cell 1
  have c2 := bb.cell 2
  have c3 := bb.cell 3
  simp only [List.getElem?_toArray, List.getElem?_cons_zero, List.getElem?_cons_succ] at c0 c1 c2 c3
  go_wp2_with fail
  refine (h4 _).mono ?_
  rintro e w4 ⟨rfl, k4⟩
  go_wp2_with fail
  go_ret
  exact ⟨rfl, r0.trans k4⟩
end Go.Proofs.Ytjanbpchedgoiaa

/- A region that draws its order, whose last store hits a cell that it loads: the loads may be taken first, under a condition on the world that is owed until that store alone. No conditions. -/
namespace Go.Proofs.Ytjanbpchedgoiaa
open Go

section
variable {P : Program} {ops : Array Oper} {Q : Exit → Act → World → Prop} {md : Region.Mode} {S : Array Bool → World → Prop}

/-- What is listed, all that it waits for is listed too. -/
def ClosedL (md : Region.Mode) (ops : Array Oper) (listed : Array Bool) : Prop :=
  ∀ j oj, ops[j]? = some oj → listed.getD j false = true → ∀ e ∈ oj.after, Region.binds md e = true → listed.getD e.on false = true
theorem ClosedL.set {listed : Array Bool} (h : ClosedL md ops listed) {i : Nat} (hi : i ∈ Region.ready md ops listed) : ClosedL md ops (listed.setIfInBounds i true) := by
  obtain ⟨_, oi, hoi, hall⟩ := mem_ready.1 hi
  intro j oj hj hl e he hb
  by_cases hij : i = j
  · subst hij
    have : oj = oi := Option.some.inj (hj.symm.trans hoi)
    subst this
    exact getD_set_true (hall e he hb)
  · rw [getD_set_ne false hij] at hl
    exact getD_set_true (h j oj hj hl e he hb)
theorem ClosedL.start (n : Nat) : ClosedL md ops (Array.replicate n false) := by
  intro j oj _ hl
  have : (Array.replicate n false).getD j false = false := by
    rcases Nat.lt_or_ge j n with h | h
    · simp [h]
    · simp [h]
  rw [this] at hl
  cases hl

/-- In this state, as long as it is not listed, it yields v in every world that meets S. -/
def YieldsL (P : Program) (md : Region.Mode) (ops : Array Oper) (S : Array Bool → World → Prop) (i : Nat) (o : Oper) (v : Value) (a : Act) : Prop :=
  (Region.wanted o (yielded ops a.tmps) = true ∧ ∀ l w, ClosedL md ops l → l.getD i true = false → S l w → (execOp a.eval o).run P w = .ok (.value v) w) ∨
  (Region.wanted o (yielded ops a.tmps) = false ∧ v = undef)

/-- Whatever order is picked from here on, and S holds behind every operation. -/
def wpAnyL (P : Program) (md : Region.Mode) (ops : Array Oper) (Q : Exit → Act → World → Prop) (S : Array Bool → World → Prop) : Nat → Array Bool → Act → World → Prop
  | 0, listed, a, w => Region.ready md ops listed = [] ∧ Q .normal a w
  | fuel + 1, listed, a, w =>
    (Region.ready md ops listed = [] → Q .normal a w) ∧
    ∀ i ∈ Region.ready md ops listed, wpOp P ops Q i (fun a' w' => S (listed.setIfInBounds i true) w' ∧ wpAnyL P md ops Q S fuel (listed.setIfInBounds i true) a' w') a w
theorem wpAny_of_L : ∀ (fuel : Nat) (listed : Array Bool) (a : Act) (w : World), wpAnyL P md ops Q S fuel listed a w → wpAny P md ops Q fuel listed a w
  | 0, _, _, _, h => h
  | fuel + 1, _, _, _, h => ⟨h.1, fun i hi => wpOp_mono (fun a' w' h' => wpAny_of_L fuel _ a' w' h'.2) (h.2 i hi)⟩

theorem wpAnyL_first {i : Nat} {oi : Oper} {v : Value} (hi : ops[i]? = some oi) (hsel : ∀ (j : Nat) (o : Oper) cs b, ops[j]? = some o → o.op ≠ .select cs b)
    (hQ : ∀ c a w, Q (.panic c) (a.put oi.dst v) w → Q (.panic c) a w)
    (hSi : ∀ l w, S (l.setIfInBounds i true) w ↔ S l w) :
    ∀ (fuel : Nat) (listed : Array Bool) (a : Act) (w : World),
      (∀ j oj, ops[j]? = some oj → j ≠ i → listed.getD j true = false → (∀ e ∈ oj.after, Region.binds md e = true → e.on ≠ i) → oi.apart ops oj = true) →
      i ∈ Region.ready md ops listed → YieldsL P md ops S i oi v a → ClosedL md ops listed → S listed w →
      wpAnyL P md ops Q S fuel (listed.setIfInBounds i true) (a.put oi.dst v) w → wpAnyL P md ops Q S (fuel + 1) listed a w := by
  -- what it yields now, in this world and with these listed
  have now : ∀ {listed : Array Bool} {a : Act} {w : World}, i ∈ Region.ready md ops listed → YieldsL P md ops S i oi v a → ClosedL md ops listed → S listed w →
      ∀ {K : Act → World → Prop}, K (a.put oi.dst v) w → wpOp P ops Q i K a w := by
    intro listed a w hr hy hc hS K h
    have hun := (mem_ready.1 hr).1
    unfold Go.wpOp
    simp only [hi]
    rcases hy with ⟨hw, hv⟩ | ⟨hw, rfl⟩
    · simp only [hw, if_true, Oper.wp, hv listed w hc hun hS, Oper.upon]; exact .inl h
    · simp only [hw, Bool.false_eq_true, if_false]; exact h
  intro fuel
  induction fuel with
  | zero =>
    intro listed a w _ hr hy hc hS H
    refine ⟨fun h => (by rw [h] at hr; cases hr), fun j hj => ?_⟩
    by_cases hji : j = i
    · subst hji; exact now hj hy hc hS ⟨(hSi listed w).2 hS, H⟩
    · have := ready_mono hj hji
      rw [H.1] at this
      cases this
  | succ fuel ih =>
    intro listed a w hfree hr hy hc hS H
    refine ⟨fun h => (by rw [h] at hr; cases hr), fun j hj => ?_⟩
    by_cases hji : j = i
    · subst hji; exact now hj hy hc hS ⟨(hSi listed w).2 hS, H⟩
    · have h1 := H.2 j (ready_mono hj hji)
      obtain ⟨hjun, oj, hoj, hall⟩ := mem_ready.1 hj
      have hnot : ∀ e ∈ oj.after, Region.binds md e = true → e.on ≠ i := fun e he hb heq => by
        have h1 := hall e he hb
        have h0 := (mem_ready.1 hr).1
        rw [heq] at h1
        rcases Nat.lt_or_ge i listed.size with h' | h'
        · simp [h'] at h0 h1; rw [h0] at h1; cases h1
        · simp [Array.getElem?_eq_none h'] at h1
      -- the frame apart: by the elder law, under a condition that says nothing of the world
      have hap := hfree j oj hoj hji hjun hnot
      obtain ⟨p1, p2, p3⟩ := Oper.apart_spec hap
      have hsi := fun cs b => hsel i oi cs b hi
      have hsj := fun cs b => hsel j oj cs b hoj
      have hy0 : YieldsIf P ops (fun w => ∃ l, ClosedL md ops l ∧ l.getD i true = false ∧ S l w) oi v a := hy.imp (fun ⟨hw, hv⟩ => ⟨hw, fun w ⟨l, c1, c2, c3⟩ => hv l w c1 c2 c3⟩) id
      have h2 := wpOp_putIf hoj hap hsi hsj hQ hy0 h1
      have hfree' : ∀ k ok, ops[k]? = some ok → k ≠ i → (listed.setIfInBounds j true).getD k true = false →
          (∀ e ∈ ok.after, Region.binds md e = true → e.on ≠ i) → oi.apart ops ok = true := fun k ok hk hki hun hno => by
        refine hfree k ok hk hki ?_ hno
        by_cases hjk : j = k
        · subst hjk; exact hjun
        · rw [getD_set_ne true hjk] at hun; exact hun
      refine wpOp_mono (fun a' w' h3 => ?_) h2
      have hcomm : (listed.setIfInBounds i true).setIfInBounds j true = (listed.setIfInBounds j true).setIfInBounds i true := Array.setIfInBounds_comm _ _ (fun e => hji e.symm)
      have h32 := h3.2.1
      have h33 := h3.2.2
      rw [hcomm] at h32 h33
      have hS' := (hSi _ w').1 h32
      have hy' : YieldsL P md ops S i oi v a' := h3.1.imp (fun ⟨hw, hv⟩ => ⟨hw, fun l w c1 c2 c3 => hv w ⟨l, c1, c2, c3⟩⟩) id
      exact ⟨hS', ih (listed.setIfInBounds j true) a' w' hfree' (ready_mono hr (fun e => hji e.symm)) hy' (hc.set hj) hS' h33⟩

/-- Take number i first. -/
theorem wpAnyL_take {i : Nat} {oi : Oper} {v : Value} {fuel : Nat} {listed : Array Bool} {a : Act} {w : World} (hi : ops[i]? = some oi)
    (hs : Region.noSelect ops = true) (hf : Region.free md ops listed i = true) (hr : (Region.ready md ops listed).contains i = true)
    (hQ : ∀ c a w, Q (.panic c) (a.put oi.dst v) w → Q (.panic c) a w) (hSi : ∀ l w, S (l.setIfInBounds i true) w ↔ S l w) (hy : YieldsL P md ops S i oi v a) (hc : ClosedL md ops listed) (hS : S listed w)
    (h : ClosedL md ops (listed.setIfInBounds i true) → S (listed.setIfInBounds i true) w → wpAnyL P md ops Q S fuel (listed.setIfInBounds i true) (a.put oi.dst v) w) : wpAnyL P md ops Q S (fuel + 1) listed a w :=
  wpAnyL_first hi (Region.noSelect_spec hs) hQ hSi fuel listed a w (Region.free_spec hi hf) (by simpa using hr) hy hc hS (h (hc.set (by simpa using hr)) ((hSi _ _).2 hS))
/-- The one that may come up comes up. -/
theorem wpAnyL_one {i : Nat} {fuel : Nat} {listed : Array Bool} {a : Act} {w : World} (hr : Region.ready md ops listed = [i]) (hc : ClosedL md ops listed)
    (h : wpOp P ops Q i (fun a' w' => S (listed.setIfInBounds i true) w' ∧ (ClosedL md ops (listed.setIfInBounds i true) → wpAnyL P md ops Q S fuel (listed.setIfInBounds i true) a' w')) a w) : wpAnyL P md ops Q S (fuel + 1) listed a w := by
  have hm : i ∈ Region.ready md ops listed := by rw [hr]; simp
  refine ⟨fun h0 => absurd (h0.symm.trans hr) (by simp), fun j hj => ?_⟩
  rw [hr] at hj
  obtain rfl : j = i := by simpa using hj
  exact wpOp_mono (fun a' w' h3 => ⟨h3.1, h3.2 (hc.set hm)⟩) h
/-- The same, for a walk: what follows is a letter. -/
theorem wpAnyL_step {i : Nat} {o : Oper} {fuel : Nat} {listed : Array Bool} {a : Act} {w : World} (hi : ops[i]? = some o) (hr : Region.ready md ops listed = [i]) (hc : ClosedL md ops listed)
    (h : ∀ K : Act → World → Prop, (∀ a' w', S (listed.setIfInBounds i true) w' → (ClosedL md ops (listed.setIfInBounds i true) → wpAnyL P md ops Q S fuel (listed.setIfInBounds i true) a' w') → K a' w') → if Region.wanted o (yielded ops a.tmps) = true then Oper.wp P o a w K Q else K (a.put o.dst undef) w) : wpAnyL P md ops Q S (fuel + 1) listed a w := by
  refine wpAnyL_one hr hc ?_
  unfold wpOp
  simp only [hi]
  have := h (fun a' w' => S (listed.setIfInBounds i true) w' ∧ (ClosedL md ops (listed.setIfInBounds i true) → wpAnyL P md ops Q S fuel (listed.setIfInBounds i true) a' w')) (fun a' w' h1 h2 => ⟨h1, h2⟩)
  by_cases hw : Region.wanted o (yielded ops a.tmps) = true
  · rw [if_pos hw] at this ⊢
    exact .inl this
  · rw [if_neg hw] at this ⊢
    exact this
theorem wpAnyL_done {listed : Array Bool} {a : Act} {w : World} (hr : Region.ready md ops listed = []) (h : Q .normal a w) : ∀ fuel, wpAnyL P md ops Q S fuel listed a w
  | 0 => ⟨hr, h⟩
  | _ + 1 => ⟨fun _ => h, by rw [hr]; simp⟩
theorem wp_region_L {id : Nat} {a : Act} {w : World} (S : Array Bool → World → Prop) (hm : P.follows .mixedOrders = true)
    (h : ClosedL .any ops (Array.replicate ops.size false) → wpAnyL P .any ops Q S ops.size (Array.replicate ops.size false) a { w with drawn := w.drawn + 1 }) : (Code.region id ops true).wp P Q a w :=
  wp_region_any hm (wpAny_of_L _ _ _ _ (h (ClosedL.start _)))

/-- A condition that is owed until number t has come up. -/
def Until (t : Nat) (C : World → Prop) : Array Bool → World → Prop := fun l w => l.getD t false = false → C w
theorem until_take (t : Nat) (C : World → Prop) {i : Nat} (hne : i ≠ t) (l : Array Bool) (w : World) : Until t C (l.setIfInBounds i true) w ↔ Until t C l w := by
  unfold Until
  rw [getD_set_ne false hne]
/-- What number t waits for yields under the bare condition. -/
theorem yields_until {t : Nat} {C : World → Prop} {i : Nat} {o : Oper} {v : Value} {a : Act} (hb : (match ops[t]? with | some ot => ot.after.any fun e => Region.binds md e && e.on == i | none => false) = true)
    (h : (Region.wanted o (yielded ops a.tmps) = true ∧ ∀ w, C w → (execOp a.eval o).run P w = .ok (.value v) w) ∨ (Region.wanted o (yielded ops a.tmps) = false ∧ v = undef)) : YieldsL P md ops (Until t C) i o v a := by
  refine h.imp (fun ⟨hw, hv⟩ => ⟨hw, fun l w hc hun hS => hv w (hS ?_)⟩) id
  cases hlt : l.getD t false with
  | false => rfl
  | true =>
    exfalso
    cases hot : ops[t]? with
    | none => rw [hot] at hb; cases hb
    | some ot =>
      rw [hot] at hb
      obtain ⟨e, he, hb⟩ := Array.any_eq_true'.1 hb
      simp only [Bool.and_eq_true, beq_iff_eq] at hb
      have h2 := hc t ot hot hlt e he hb.1
      rw [hb.2] at h2
      rcases Nat.lt_or_ge i l.size with h' | h'
      · simp [h'] at hun h2; rw [hun] at h2; cases h2
      · simp [Array.getElem?_eq_none h'] at h2
end
end Go.Proofs.Ytjanbpchedgoiaa

/- A region that draws its order, walked by what holds of what is listed: each operation once, in any state of the others. No conditions. -/
namespace Go.Proofs.Ytjanbpchedgoiaa
open Go

section
variable {P : Program} {ops : Array Oper} {Q : Exit → Act → World → Prop} {md : Region.Mode} {S : Array Bool → World → Prop}

/-- The frame with these slots put: ds says which operation writes which slot. -/
def puts (ds : List (Nat × Nat)) (σ : Nat → Value) (a : Act) : Act := ds.foldl (fun a d => a.put (some d.2) (σ d.1)) a
def upd (σ : Nat → Value) (i : Nat) (v : Value) : Nat → Value := fun j => if j = i then v else σ j
theorem upd_same (σ : Nat → Value) (i : Nat) (v : Value) : upd σ i v i = v := if_pos rfl
theorem upd_ne (σ : Nat → Value) {i j : Nat} (v : Value) (h : j ≠ i) : upd σ i v j = σ j := if_neg h
theorem put_none (a : Act) (v : Value) : a.put none v = a := rfl
theorem put_comm (a : Act) {s t : Nat} (u v : Value) (h : s ≠ t) : (a.put (some s) u).put (some t) v = (a.put (some t) v).put (some s) u := by
  simp only [Act.put]
  rw [Array.setIfInBounds_comm _ _ h]
theorem put_again (a : Act) (s : Nat) (u v : Value) : (a.put (some s) u).put (some s) v = a.put (some s) v := by
  simp [Act.put]
theorem puts_far (σ : Nat → Value) {s : Nat} (v : Value) : ∀ (ds : List (Nat × Nat)) (a : Act), s ∉ ds.map (·.2) → (puts ds σ a).put (some s) v = puts ds σ (a.put (some s) v)
  | [], _, _ => rfl
  | (j, t) :: ds, a, h => by
    simp only [List.map_cons, List.mem_cons, not_or] at h
    have h1 := puts_far σ v ds (a.put (some t) (σ j)) h.2
    rw [put_comm a (σ j) v (fun e => h.1 e.symm)] at h1
    exact h1
theorem puts_upd (σ : Nat → Value) {i : Nat} (v : Value) : ∀ (ds : List (Nat × Nat)) (a : Act), i ∉ ds.map (·.1) → puts ds (upd σ i v) a = puts ds σ a
  | [], _, _ => rfl
  | (j, t) :: ds, a, h => by
    simp only [List.map_cons, List.mem_cons, not_or] at h
    have h1 := puts_upd σ v ds (a.put (some t) (upd σ i v j)) h.2
    rw [upd_ne σ v (fun e => h.1 e.symm)] at h1
    show puts ds (upd σ i v) (a.put (some t) (upd σ i v j)) = _
    rw [upd_ne σ v (fun e => h.1 e.symm)]
    exact h1
theorem puts_put (σ : Nat → Value) {i s : Nat} (v : Value) : ∀ (ds : List (Nat × Nat)) (a : Act), (ds.map (·.1)).Nodup → (ds.map (·.2)).Nodup → (i, s) ∈ ds → (puts ds σ a).put (some s) v = puts ds (upd σ i v) a
  | [], _, _, _, h => by cases h
  | (j, t) :: ds, a, n1, n2, h => by
    simp only [List.map_cons, List.nodup_cons] at n1 n2
    rcases List.mem_cons.1 h with h | h
    · simp only [Prod.mk.injEq] at h
      obtain ⟨rfl, rfl⟩ := h
      show (puts ds σ (a.put (some s) (σ i))).put (some s) v = puts ds (upd σ i v) (a.put (some s) (upd σ i v i))
      rw [upd_same, puts_upd σ v ds _ n1.1, puts_far σ v ds _ n2.1, put_again]
    · have hji : j ≠ i := fun e => n1.1 (by subst e; exact List.mem_map.2 ⟨(j, s), h, rfl⟩)
      show (puts ds σ (a.put (some t) (σ j))).put (some s) v = puts ds (upd σ i v) (a.put (some t) (upd σ i v j))
      rw [upd_ne σ v hji]
      exact puts_put σ v ds _ n1.2 n2.2 h
/-- The list of slots fits the operations. -/
def fits (ops : Array Oper) (ds : List (Nat × Nat)) : Bool :=
  (List.range ops.size).all (fun i => match ops[i]? with | none => true | some o => match o.dst with | none => !(ds.map (·.1)).contains i | some s => ds.contains (i, s)) && decide (ds.map (·.1)).Nodup && decide (ds.map (·.2)).Nodup
theorem fits_put {ops : Array Oper} {ds : List (Nat × Nat)} (h : fits ops ds = true) (a0 : Act) (i : Nat) (hi : i < ops.size) (oi : Oper) (ho : ops[i]? = some oi) (σ : Nat → Value) (v : Value) :
    (puts ds σ a0).put oi.dst v = puts ds (upd σ i v) a0 := by
  unfold fits at h
  simp only [Bool.and_eq_true, decide_eq_true_eq] at h
  obtain ⟨⟨h1, h2⟩, h3⟩ := h
  have h4 := List.all_eq_true.1 h1 i (List.mem_range.2 hi)
  rw [ho] at h4
  cases hd : oi.dst with
  | none =>
    simp only [hd] at h4
    rw [put_none]
    exact (puts_upd σ v ds a0 (by simpa using h4)).symm
  | some s =>
    simp only [hd] at h4
    exact puts_put σ v ds a0 h2 h3 (by simpa using h4)
/-- What number i waits for. -/
def waits (md : Region.Mode) (ops : Array Oper) (i : Nat) : List Nat := match ops[i]? with | none => [] | some o => (o.after.toList.filter (Region.binds md)).map (·.on)
/-- How many of the first k are not listed. -/
def unl : Nat → Array Bool → Nat
  | 0, _ => 0
  | k + 1, l => unl k l + (if l.getD k true = true then 0 else 1)
theorem unl_far {l : Array Bool} {i : Nat} : ∀ k, k ≤ i → unl k (l.setIfInBounds i true) = unl k l
  | 0, _ => rfl
  | k + 1, h => by
    have : (l.setIfInBounds i true).getD k true = l.getD k true := getD_set_ne true (by omega)
    have h2 := unl_far (l := l) (i := i) k (by omega)
    simp only [unl, this, h2]
theorem unl_set {l : Array Bool} {i : Nat} (h : l.getD i true = false) : ∀ k, i < k → unl k (l.setIfInBounds i true) + 1 = unl k l
  | 0, hk => absurd hk (by omega)
  | k + 1, hk => by
    by_cases hik : i = k
    · subst hik
      have hlt : i < l.size := by
        rcases Nat.lt_or_ge i l.size with h' | h'
        · exact h'
        · simp [h'] at h
      have h1 : (l.setIfInBounds i true).getD i true = true := by simp [hlt]
      simp only [unl, unl_far i (Nat.le_refl _), h, h1]
      simp
    · have h1 : (l.setIfInBounds i true).getD k true = l.getD k true := getD_set_ne true hik
      have := unl_set h k (by omega)
      simp only [unl, h1]
      omega
theorem unl_zero {l : Array Bool} : ∀ k, unl k l = 0 → ∀ i, i < k → l.getD i true = true
  | 0, _, i, hi => absurd hi (by omega)
  | k + 1, h, i, hi => by
    simp only [unl] at h
    by_cases hik : i = k
    · subst hik
      by_cases hl : l.getD i true = true
      · exact hl
      · simp [hl] at h
    · exact unl_zero k (by omega) i (by omega)
theorem getD_both {l : Array Bool} {i : Nat} (hi : i < l.size) : l.getD i true = l.getD i false := by simp [hi]

/-- Is number i listed? -/
def lst (l : Array Bool) (i : Nat) : Bool := l.getD i false
theorem lst_same {l : Array Bool} {i : Nat} (h : i < l.size) : lst (l.setIfInBounds i true) i = true := by simp [lst, h]
theorem lst_ne {l : Array Bool} {i j : Nat} (h : j ≠ i) : lst (l.setIfInBounds i true) j = lst l j := getD_set_ne false (fun e => h e.symm)
theorem lst_start (n i : Nat) : lst (Array.replicate n false) i = false := by
  unfold lst
  rcases Nat.lt_or_ge i n with h | h
  · simp [h]
  · simp [h]
/-- What a walk of number i owes. -/
def GridStep (P : Program) (md : Region.Mode) (ops : Array Oper) (Q : Exit → Act → World → Prop) (ds : List (Nat × Nat)) (a0 : Act) (I : (Nat → Value) → Array Bool → World → Prop) (i : Nat) : Prop :=
  ∀ oi, ops[i]? = some oi → ∀ σ l w, l.size = ops.size → lst l i = false → (∀ d ∈ waits md ops i, lst l d = true) → I σ l w →
    ∀ K : Act → World → Prop, (∀ v w', I (upd σ i v) (l.setIfInBounds i true) w' → K ((puts ds σ a0).put oi.dst v) w') →
      if Region.wanted oi (yielded ops (puts ds σ a0).tmps) = true then Oper.wp P oi (puts ds σ a0) w K Q else K ((puts ds σ a0).put oi.dst undef) w

theorem wpAnyL_grid (ds : List (Nat × Nat)) (core : List Nat) (I : (Nat → Value) → Array Bool → World → Prop) (a0 : Act)
    (hback : (List.range ops.size).all (fun i => (waits md ops i).all (fun d => decide (d < i))) = true)
    (hstep : ∀ i ∈ core, GridStep P md ops Q ds a0 I i)
    (hput : ∀ i ∈ core, ∀ oi, ops[i]? = some oi → ∀ σ v, (puts ds σ a0).put oi.dst v = puts ds (upd σ i v) a0)
    (hS : ∀ σ l w, I σ l w → S l w)
    (hend : ∀ σ l w, (∀ i, i < ops.size → lst l i = true) → I σ l w → Q .normal (puts ds σ a0) w) :
    ∀ (fuel : Nat) (l : Array Bool) (σ : Nat → Value) (w : World), l.size = ops.size → unl ops.size l ≤ fuel → (∀ j, j < ops.size → j ∉ core → l.getD j true = true) → I σ l w →
      wpAnyL P md ops Q S fuel l (puts ds σ a0) w := by
  -- nothing is ready: all is listed
  have all : ∀ l : Array Bool, Region.ready md ops l = [] → ∀ i, i < ops.size → l.getD i true = true := by
    intro l hr i
    induction i using Nat.strongRecOn with
    | _ i ih =>
      intro hi
      by_cases hl : l.getD i true = true
      · exact hl
      · exfalso
        have : i ∈ Region.ready md ops l := by
          rw [mem_ready]
          refine ⟨by simpa using hl, ops[i], by simp [hi], fun e he hb => ?_⟩
          have hd : e.on ∈ waits md ops i := by
            unfold waits
            simp only [hi, getElem?_pos]
            exact List.mem_map.2 ⟨e, List.mem_filter.2 ⟨by simpa using he, hb⟩, rfl⟩
          have hlt : e.on < i := by
            have := List.all_eq_true.1 (List.all_eq_true.1 hback i (by simp [hi])) _ hd
            simpa using this
          have h1 := ih e.on hlt (by omega)
          rcases Nat.lt_or_ge e.on l.size with h' | h'
          · rw [getD_both h'] at h1; exact h1
          · exfalso
            -- not within: then i is not within, either
            have : l.getD i true = true := by simp [show l.size ≤ i by omega]
            exact hl this
        rw [hr] at this
        cases this
  intro fuel
  induction fuel with
  | zero =>
    intro l σ w hsz hf hcov hI
    have ha : ∀ i, i < ops.size → l.getD i true = true := unl_zero _ (by omega)
    have hr : Region.ready md ops l = [] := by
      refine List.eq_nil_iff_forall_not_mem.2 fun i hi => ?_
      obtain ⟨h1, o, ho, _⟩ := mem_ready.1 hi
      have hlt : i < ops.size := by
        rcases Nat.lt_or_ge i ops.size with h' | h'
        · exact h'
        · simp [h'] at ho
      rw [ha i hlt] at h1
      cases h1
    exact ⟨hr, hend σ l w (fun i hi => by unfold lst; rw [← getD_both (by omega)]; exact ha i hi) hI⟩
  | succ fuel ih =>
    intro l σ w hsz hf hcov hI
    refine ⟨fun hr => hend σ l w (fun i hi => by unfold lst; rw [← getD_both (by omega)]; exact all l hr i hi) hI, fun i hi => ?_⟩
    obtain ⟨h1, o, ho, hdep⟩ := mem_ready.1 hi
    have hlt : i < ops.size := by
      rcases Nat.lt_or_ge i ops.size with h' | h'
      · exact h'
      · simp [h'] at ho
    have hcore : i ∈ core := by
      by_cases hc : i ∈ core
      · exact hc
      · rw [hcov i hlt hc] at h1
        cases h1
    have hl0 : l.getD i false = false := by rw [← getD_both (by omega)]; exact h1
    have hw : ∀ d ∈ waits md ops i, l.getD d false = true := by
      intro d hd
      unfold waits at hd
      rw [ho] at hd
      obtain ⟨e, he, rfl⟩ := List.mem_map.1 hd
      obtain ⟨he, hb⟩ := List.mem_filter.1 he
      exact hdep e (by simpa using he) hb
    have step := hstep i hcore o ho σ l w hsz hl0 hw hI (fun a' w' => S (l.setIfInBounds i true) w' ∧ wpAnyL P md ops Q S fuel (l.setIfInBounds i true) a' w') (fun v w' hI' => by
      refine ⟨hS _ _ _ hI', ?_⟩
      rw [hput i hcore o ho σ v]
      refine ih _ _ _ (by simp [hsz]) ?_ (fun j hj hjc => ?_) hI'
      · have := unl_set h1 ops.size hlt
        omega
      · have hji : i ≠ j := fun e => by subst e; exact hjc hcore
        rw [getD_set_ne true hji]
        exact hcov j hj hjc)
    unfold wpOp
    simp only [ho]
    by_cases hwn : Region.wanted o (yielded ops (puts ds σ a0).tmps) = true
    · rw [if_pos hwn] at step ⊢
      exact .inl step
    · rw [if_neg hwn] at step ⊢
      exact step
theorem unl_le (l : Array Bool) : ∀ k, unl k l ≤ k
  | 0 => Nat.le_refl _
  | k + 1 => by
    have := unl_le l k
    simp only [unl]
    split <;> omega
/-- The whole region, from its start. -/
theorem wpAnyL_grid0 (ds : List (Nat × Nat)) (I : (Nat → Value) → Array Bool → World → Prop) {a0 : Act} {w : World}
    (hback : (List.range ops.size).all (fun i => (waits md ops i).all (fun d => decide (d < i))) = true)
    (hundef : puts ds (fun _ => undef) a0 = a0)
    (hstep : ∀ i, i < ops.size → GridStep P md ops Q ds a0 I i)
    (hput : fits ops ds = true)
    (hS : ∀ σ l w, I σ l w → S l w)
    (hend : ∀ σ l w, (∀ i, i < ops.size → lst l i = true) → I σ l w → Q .normal (puts ds σ a0) w)
    (h0 : I (fun _ => undef) (Array.replicate ops.size false) w) : wpAnyL P md ops Q S ops.size (Array.replicate ops.size false) a0 w := by
  have h := wpAnyL_grid (P := P) (md := md) (ops := ops) (Q := Q) (S := S) ds (List.range ops.size) I a0 hback (fun i hi => hstep i (List.mem_range.1 hi)) (fun i hi => fits_put hput a0 i (List.mem_range.1 hi)) hS hend
    ops.size (Array.replicate ops.size false) (fun _ => undef) w (by simp) (unl_le _ _) (fun j hj hc => absurd (List.mem_range.2 hj) hc) h0
  rwa [hundef] at h
end
end Go.Proofs.Ytjanbpchedgoiaa

/- iface's clone, of an interface without lists: walked. No conditions. -/
namespace Go.Proofs.Ytjanbpchedgoiaa
open Go.RowKit
set_option linter.unusedVariables false
set_option linter.unusedSimpArgs false

set_option maxRecDepth 100000 in
theorem cloneU_nil (w : World) : Calls Try.prog 32 #[.slice none 0 0] w fun e w' => e = .returned (.slice none 0 0) ∧ w = w' := by
  have he := fun (w : World) => Lib.run_eql_slice_nil (P := Try.prog) w 31 61 none 0 0 0 0 Try.underlying31
  go_enter Try.func32, Try.ntmps32
  go_wp2_with fail
  go_ret
  exact ⟨rfl, rfl⟩
set_option maxRecDepth 100000 in
theorem cloneT_nil (w : World) : Calls Try.prog 33 #[.slice none 0 0] w fun e w' => e = .returned (.slice none 0 0) ∧ w = w' := by
  have he := fun (w : World) => Lib.run_eql_slice_nil (P := Try.prog) w 32 55 none 0 0 0 0 Try.underlying32
  go_enter Try.func33, Try.ntmps33
  go_wp2_with fail
  go_ret
  exact ⟨rfl, rfl⟩
set_option maxRecDepth 100000 in
theorem cloneE_nil (w : World) : Calls Try.prog 34 #[.slice none 0 0] w fun e w' => e = .returned (.slice none 0 0) ∧ w = w' := by
  have he := fun (w : World) => Lib.run_eql_slice_nil (P := Try.prog) w 37 57 none 0 0 0 0 Try.underlying37
  go_enter Try.func34, Try.ntmps34
  go_wp2_with fail
  go_ret
  exact ⟨rfl, rfl⟩

theorem wr4 (w : World) (g : Nat) (u0 u1 u2 u3 : Value) : Wr [g] w ((((w.setCell ⟨g, 0, none⟩ u0).setCell ⟨g, 1, none⟩ u1).setCell ⟨g, 2, none⟩ u2).setCell ⟨g, 3, none⟩ u3) :=
  ((((Wr.refl [g] w).setOn (by simp) u0).setOn (by simp) u1).setOn (by simp) u2).setOn (by simp) u3
theorem blk4 (w : World) (g : Nat) (T : TypeId) (x0 x1 x2 x3 u0 u1 u2 u3 : Value) (h : Blk w g T #[x0, x1, x2, x3]) : Blk ((((w.setCell ⟨g, 0, none⟩ u0).setCell ⟨g, 1, none⟩ u1).setCell ⟨g, 2, none⟩ u2).setCell ⟨g, 3, none⟩ u3) g T #[u0, u1, u2, u3] := by
  have := (((h.set_ 0 u0).set_ 1 u1).set_ 2 u2).set_ 3 u3
  simpa using this
def clV (g : Nat) : Nat → Value
  | 0 => .pointer (some ⟨g, 1, none⟩)
  | 3 => .pointer (some ⟨g, 2, none⟩)
  | 6 => .pointer (some ⟨g, 3, none⟩)
  | 9 => .pointer (some ⟨g, 1, none⟩)
  | 11 => .pointer (some ⟨g, 2, none⟩)
  | 13 => .pointer (some ⟨g, 3, none⟩)
  | 10 => undef
  | 12 => undef
  | 14 => undef
  | _ => .slice none 0 0
structure ClI (m : ByteArray) (wd : World) (g : Nat) (σ : Nat → Value) (l : Array Bool) (w' : World) : Prop where
  v : ∀ j, lst l j = true → σ j = clV g j
  b : Blk w' g 39 #[.string m, .slice none 0 0, .slice none 0 0, .slice none 0 0]
  acc : Wr [g] wd w'
theorem ClI.step {m : ByteArray} {wd : World} {g : Nat} {σ : Nat → Value} {l : Array Bool} {w1 w2 : World} (h : ClI m wd g σ l w1) (i : Nat) (hb : Blk w2 g 39 #[.string m, .slice none 0 0, .slice none 0 0, .slice none 0 0]) (r : Wr [g] w1 w2) : ClI m wd g (upd σ i (clV g i)) (l.setIfInBounds i true) w2 := by
  refine ⟨fun j hj => ?_, hb, h.acc.trans r⟩
  by_cases hji : j = i
  · subst hji
    exact upd_same _ _ _
  · rw [upd_ne σ _ hji]
    rw [lst_ne hji] at hj
    exact h.v j hj
theorem cl_set {w : World} {g : Nat} {m : ByteArray} (k : Nat) (hk : k = 1 ∨ k = 2 ∨ k = 3) (h : Blk w g 39 #[.string m, .slice none 0 0, .slice none 0 0, .slice none 0 0]) : Blk (w.setCell ⟨g, k, none⟩ (.slice none 0 0)) g 39 #[.string m, .slice none 0 0, .slice none 0 0, .slice none 0 0] := by
  have := h.set_ k (.slice none 0 0)
  rcases hk with rfl | rfl | rfl <;> simpa using this
set_option maxRecDepth 100000 in
set_option maxHeartbeats 4000000 in
theorem clone_bare (m : ByteArray) (w : World) : Calls Try.prog 20 #[.agg #[.string m, .slice none 0 0, .slice none 0 0, .slice none 0 0]] w fun e w' => e = .returned (.agg #[.string m, .slice none 0 0, .slice none 0 0, .slice none 0 0]) ∧ Wr [] w w' := by
  have h1 := fun w => cloneU_nil w
  have h2 := fun w => cloneT_nil w
  have h3 := fun w => cloneE_nil w
  obtain ⟨wb, hwb⟩ : ∃ wb, (w.alloc (.cells #[.string m, .slice none 0 0, .slice none 0 0, .slice none 0 0] 39)).alloc (.cells #[.string ⟨#[]⟩, .slice none 0 0, .slice none 0 0, .slice none 0 0] 39) = wb := ⟨_, rfl⟩
  obtain ⟨g, hg⟩ : ∃ g, w.heap.size = g := ⟨_, rfl⟩
  have acc : Wr [] w wb := by rw [← hwb]; exact ((Wr.refl _ _).alloc _).alloc _
  have bA : Blk wb g 39 #[.string m, .slice none 0 0, .slice none 0 0, .slice none 0 0] := by rw [← hwb, ← hg]; exact (Blk.new _ _ _).alloc _
  have bR : Blk wb (g + 1) 39 #[.string ⟨#[]⟩, .slice none 0 0, .slice none 0 0, .slice none 0 0] := by
    have hb := Blk.new (w.alloc (.cells #[.string m, .slice none 0 0, .slice none 0 0, .slice none 0 0] 39)) 39 #[.string ⟨#[]⟩, .slice none 0 0, .slice none 0 0, .slice none 0 0]
    rw [show (w.alloc (.cells #[.string m, .slice none 0 0, .slice none 0 0, .slice none 0 0] 39)).heap.size = g + 1 by simp [hg], hwb] at hb
    exact hb
  have Hwb := Lib.hid hwb
  have Hg := Lib.hid hg
  clear hwb hg
  go_enter Try.func20, Try.ntmps20
  go_upto_region 1 with (fail)
  rw [Hwb.out, Hg.out]
  go_cut [2] (fun s2 wx => s2 = .pointer (some ⟨g + 1, 0, none⟩) ∧ Blk wx g 39 #[.string m, .slice none 0 0, .slice none 0 0, .slice none 0 0] ∧ Wr [g] wb wx)
  case first =>
    rename_i J K' hJ hK'
    refine wp_region_L (fun _ _ => True) (by kernel_rfl) (fun hcl => ?_)
    clear hcl
    change wpAnyL _ _ _ _ _ _ _ _ wb.drew
    have accd : Wr [g] wb wb.drew := (Wr.refl [g] wb).drew
    replace bA := bA.drew
    generalize wb.drew = wd at *
    refine wpAnyL_grid0 [(0, 6), (1, 7), (2, 8), (3, 9), (4, 10), (5, 11), (6, 12), (7, 13), (8, 14), (9, 15), (11, 16), (13, 17)] (ClI m wd g) (by kernel_rfl) (by kernel_rfl) ?steps (by kernel_rfl) (fun _ _ _ _ => trivial) ?fin ⟨fun j h => (by rw [lst_start] at h; cases h), bA, Wr.refl _ _⟩
    case steps =>
      intro n hn
      have : n = 0 ∨ n = 1 ∨ n = 2 ∨ n = 3 ∨ n = 4 ∨ n = 5 ∨ n = 6 ∨ n = 7 ∨ n = 8 ∨ n = 9 ∨ n = 10 ∨ n = 11 ∨ n = 12 ∨ n = 13 ∨ n = 14 := by
        have : n < 15 := hn
        omega
      rcases this with h | h | h | h | h | h | h | h | h | h | h | h | h | h | h <;> subst h <;> intro oi hoi' <;> simp only [List.getElem?_toArray, List.getElem?_cons_succ, List.getElem?_cons_zero, Option.some.injEq] at hoi' <;> subst hoi' <;> intro σ l w1 hsz hl hd hI K hK <;>
        simp only [puts, List.foldl_cons, List.foldl_nil, Act.put, List.setIfInBounds_toArray, List.set_cons_zero, List.set_cons_succ] at hK ⊢
      · go_simp
        exact hK _ _ (hI.step 0 hI.b (Wr.refl _ _))
      · have e0 := hI.v 0 (hd 0 (by decide +kernel))
        simp only [clV] at e0
        have c0 := hI.b.cell 1
        simp only [List.getElem?_toArray, List.getElem?_cons_zero, List.getElem?_cons_succ] at c0
        simp only [e0] at hK ⊢
        go_simp
        exact hK _ _ (hI.step 1 hI.b (Wr.refl _ _))
      · have e0 := hI.v 1 (hd 1 (by decide +kernel))
        simp only [clV] at e0
        simp only [e0] at hK ⊢
        go_simp
        refine (h1 _).mono ?_
        rintro e w2 ⟨rfl, rfl⟩
        exact hK _ _ (hI.step 2 hI.b (Wr.refl _ _))
      · go_simp
        exact hK _ _ (hI.step 3 hI.b (Wr.refl _ _))
      · have e0 := hI.v 3 (hd 3 (by decide +kernel))
        simp only [clV] at e0
        have c0 := hI.b.cell 2
        simp only [List.getElem?_toArray, List.getElem?_cons_zero, List.getElem?_cons_succ] at c0
        simp only [e0] at hK ⊢
        go_simp
        exact hK _ _ (hI.step 4 hI.b (Wr.refl _ _))
      · have e0 := hI.v 4 (hd 4 (by decide +kernel))
        simp only [clV] at e0
        simp only [e0] at hK ⊢
        go_simp
        refine (h2 _).mono ?_
        rintro e w2 ⟨rfl, rfl⟩
        exact hK _ _ (hI.step 5 hI.b (Wr.refl _ _))
      · go_simp
        exact hK _ _ (hI.step 6 hI.b (Wr.refl _ _))
      · have e0 := hI.v 6 (hd 6 (by decide +kernel))
        simp only [clV] at e0
        have c0 := hI.b.cell 3
        simp only [List.getElem?_toArray, List.getElem?_cons_zero, List.getElem?_cons_succ] at c0
        simp only [e0] at hK ⊢
        go_simp
        exact hK _ _ (hI.step 7 hI.b (Wr.refl _ _))
      · have e0 := hI.v 7 (hd 7 (by decide +kernel))
        simp only [clV] at e0
        simp only [e0] at hK ⊢
        go_simp
        refine (h3 _).mono ?_
        rintro e w2 ⟨rfl, rfl⟩
        exact hK _ _ (hI.step 8 hI.b (Wr.refl _ _))
      · go_simp
        exact hK _ _ (hI.step 9 hI.b (Wr.refl _ _))
      · have e0 := hI.v 9 (hd 9 (by decide +kernel))
        have e1 := hI.v 2 (hd 2 (by decide +kernel))
        simp only [clV] at e0 e1
        have c0 := hI.b.cell 1
        have f0 := hI.b.frozen 1
        simp only [List.getElem?_toArray, List.getElem?_cons_zero, List.getElem?_cons_succ] at c0
        simp only [e0, e1] at hK ⊢
        go_simp
        exact hK undef _ (hI.step 10 (cl_set 1 (by decide) hI.b) ((Wr.refl [g] _).setOn (by simp) _))
      · go_simp
        exact hK _ _ (hI.step 11 hI.b (Wr.refl _ _))
      · have e0 := hI.v 11 (hd 11 (by decide +kernel))
        have e1 := hI.v 5 (hd 5 (by decide +kernel))
        simp only [clV] at e0 e1
        have c0 := hI.b.cell 2
        have f0 := hI.b.frozen 2
        simp only [List.getElem?_toArray, List.getElem?_cons_zero, List.getElem?_cons_succ] at c0
        simp only [e0, e1] at hK ⊢
        go_simp
        exact hK undef _ (hI.step 12 (cl_set 2 (by decide) hI.b) ((Wr.refl [g] _).setOn (by simp) _))
      · go_simp
        exact hK _ _ (hI.step 13 hI.b (Wr.refl _ _))
      · have e0 := hI.v 13 (hd 13 (by decide +kernel))
        have e1 := hI.v 8 (hd 8 (by decide +kernel))
        simp only [clV] at e0 e1
        have c0 := hI.b.cell 3
        have f0 := hI.b.frozen 3
        simp only [List.getElem?_toArray, List.getElem?_cons_zero, List.getElem?_cons_succ] at c0
        simp only [e0, e1] at hK ⊢
        go_simp
        exact hK undef _ (hI.step 14 (cl_set 3 (by decide) hI.b) ((Wr.refl [g] _).setOn (by simp) _))
    case fin =>
      intro σ l w1 hall hI
      simp only [puts, List.foldl_cons, List.foldl_nil, Act.put, List.setIfInBounds_toArray, List.set_cons_zero, List.set_cons_succ]
      refine hK' _ _ (Met.intro (hJ _ _ ?_))
      repeat apply Exists.intro
      exact ⟨⟨rfl, hI.b, accd.trans hI.acc⟩, rfl⟩
  case rest =>
    obtain ⟨rfl, bx, rx⟩ := hcut
    have bR2 := bR.wr rx (by simp)
    have t0 := bx.cell 0
    have t1 := bx.cell 1
    have t2 := bx.cell 2
    have t3 := bx.cell 3
    have s0 := bR2.cell 0
    have s1 := bR2.cell 1
    have s2 := bR2.cell 2
    have s3 := bR2.cell 3
    simp only [List.getElem?_toArray, List.getElem?_cons_zero, List.getElem?_cons_succ] at t0 t1 t2 t3 s0 s1 s2 s3
    have z0 := bR2.frozen 0
    have z1 := bR2.frozen 1
    have z2 := bR2.frozen 2
    have z3 := bR2.frozen 3
    go_wp2_with fail
    refine wp_loop_rounds 1 ?_
    rw [rounds_succ]
    go_wp2_with fail
    refine bodyPost_ret (v := .agg #[.string m, .slice none 0 0, .slice none 0 0, .slice none 0 0]) ?_ rfl ⟨rfl, ?_⟩
    · have cc := blk4 wc (g + 1) 39 _ _ _ _ (.string m) (.slice none 0 0) (.slice none 0 0) (.slice none 0 0) bR2
      have t0 := cc.cell 0
      have t1 := cc.cell 1
      have t2 := cc.cell 2
      have t3 := cc.cell 3
      simp only [List.getElem?_toArray, List.getElem?_cons_zero, List.getElem?_cons_succ] at t0 t1 t2 t3
      simp [results, Try.results20, go_sem, t0, t1, t2, t3]
    · have e := Hg.out
      exact (acc.new rx (by omega)).new (wr4 wc (g + 1) _ _ _ _) (by omega)
end Go.Proofs.Ytjanbpchedgoiaa

/- iface's Canon, of an interface without items: walked. Conditions: what its May and its clone answer. -/
namespace Go.Proofs.Ytjanbpchedgoiaa
open Go.RowKit
set_option linter.unusedVariables false
set_option linter.unusedSimpArgs false

def bareI (m : ByteArray) (ts : Value) : Value := .agg #[.string m, .slice none 0 0, ts, .slice none 0 0]
/-- What is so stays so while nobody's memory is written. -/
def Holds (G : World → Prop) : Prop := ∀ w w', G w → Wr [] w w' → G w'
set_option maxRecDepth 100000 in
set_option maxHeartbeats 4000000 in
theorem canon_plain (m : ByteArray) (A : Option Addr) (n c : Nat) (G : World → Prop) (hG : Holds G)
    (h1 : ∀ w, G w → Calls Try.prog 19 #[bareI m (.slice A n c)] w fun e w' => e = .returned (.int .i64 0) ∧ Wr [] w w')
    (h2 : ∀ w, G w → Calls Try.prog 20 #[bareI m (.slice A n c)] w fun e w' => (∃ A' n' c', e = .returned (bareI m (.slice A' n' c'))) ∧ Wr [] w w')
    (w : World) (hw : G w) : Calls Try.prog 13 #[bareI m (.slice A n c)] w fun e w' => e = .returned (.tuple #[bareI m (.slice none 0 0), .int .i64 0]) ∧ Wr [] w w' := by
  have hmf : ∀ (fn : Fn) (first cap : Array Value) (w : World), (Instr.makeFunc fn first cap).run Try.prog w = .ok (.func fn first cap) w := fun _ _ _ _ => rfl
  have hmm := @run_makeMap Try.prog
  unfold bareI at *
  obtain ⟨wb, hwb⟩ : ∃ wb, (w.alloc (.cells #[.string m, .slice none 0 0, .slice A n c, .slice none 0 0] 39)).alloc (.cells #[.string ⟨#[]⟩, .slice none 0 0, .slice none 0 0, .slice none 0 0] 39) = wb := ⟨_, rfl⟩
  obtain ⟨g, hg⟩ : ∃ g, w.heap.size = g := ⟨_, rfl⟩
  have acc : Wr [] w wb := by rw [← hwb]; exact ((Wr.refl _ _).alloc _).alloc _
  have bA : Blk wb g 39 #[.string m, .slice none 0 0, .slice A n c, .slice none 0 0] := by rw [← hwb, ← hg]; exact (Blk.new _ _ _).alloc _
  have bR : Blk wb (g + 1) 39 #[.string ⟨#[]⟩, .slice none 0 0, .slice none 0 0, .slice none 0 0] := by
    have hb := Blk.new (w.alloc (.cells #[.string m, .slice none 0 0, .slice A n c, .slice none 0 0] 39)) 39 #[.string ⟨#[]⟩, .slice none 0 0, .slice none 0 0, .slice none 0 0]
    rw [show (w.alloc (.cells #[.string m, .slice none 0 0, .slice A n c, .slice none 0 0] 39)).heap.size = g + 1 by simp [hg], hwb] at hb
    exact hb
  have Hwb := Lib.hid hwb
  have Hg := Lib.hid hg
  clear hwb hg
  go_enter Try.func13, Try.ntmps13
  go_upto_region 1 with (fail)
  rw [Hwb.out, Hg.out]
  have gw := hG _ _ hw acc
  have c0 := bA.cell 0
  have c1 := bA.cell 1
  have c2 := bA.cell 2
  have c3 := bA.cell 3
  simp only [List.getElem?_toArray, List.getElem?_cons_zero, List.getElem?_cons_succ] at c0 c1 c2 c3
  have cz0 := bA.frozen 0
  have cz1 := bA.frozen 1
  have cz2 := bA.frozen 2
  have cz3 := bA.frozen 3
  go_wp2_with fail
  refine (h1 _ gw).mono ?_
  rintro e w1 ⟨rfl, k1⟩
  replace acc := acc.trans k1
  replace bA := bA.wr0 k1
  replace bR := bR.wr0 k1
  replace gw := hG _ _ gw k1
  clear c0 c1 c2 c3 cz0 cz1 cz2 cz3
  have c0 := bA.cell 0
  have c1 := bA.cell 1
  have c2 := bA.cell 2
  have c3 := bA.cell 3
  simp only [List.getElem?_toArray, List.getElem?_cons_zero, List.getElem?_cons_succ] at c0 c1 c2 c3
  have cz0 := bA.frozen 0
  have cz1 := bA.frozen 1
  have cz2 := bA.frozen 2
  have cz3 := bA.frozen 3
  go_wp2_with fail
  refine (h2 _ gw).mono ?_
  rintro e w2 ⟨⟨A', n', c', rfl⟩, k2⟩
  replace acc := acc.trans k2
  replace bA := bA.wr0 k2
  replace bR := bR.wr0 k2
  clear c0 c1 c2 c3 cz0 cz1 cz2 cz3
  have c0 := bA.cell 0
  have c1 := bA.cell 1
  have c2 := bA.cell 2
  have c3 := bA.cell 3
  simp only [List.getElem?_toArray, List.getElem?_cons_zero, List.getElem?_cons_succ] at c0 c1 c2 c3
  have cz0 := bA.frozen 0
  have cz1 := bA.frozen 1
  have cz2 := bA.frozen 2
  have cz3 := bA.frozen 3
  go_upto_region 5 with (fail)
  have acc2 := acc.new (wr4 w2 g (.string m) (.slice none 0 0) (.slice A' n' c') (.slice none 0 0)) (by have := Hg.out; omega)
  replace bA := blk4 w2 g 39 _ _ _ _ (.string m) (.slice none 0 0) (.slice A' n' c') (.slice none 0 0) bA
  replace bR := bR.wr (wr4 w2 g (.string m) (.slice none 0 0) (.slice A' n' c') (.slice none 0 0)) (by simp)
  clear c0 c1 c2 c3 cz0 cz1 cz2 cz3
  generalize ((((w2.setCell ⟨g, 0, none⟩ (.string m)).setCell ⟨g, 1, none⟩ (.slice none 0 0)).setCell ⟨g, 2, none⟩ (.slice A' n' c')).setCell ⟨g, 3, none⟩ (.slice none 0 0)) = wx at *
  have c0 := bA.cell 0
  have c1 := bA.cell 1
  have c2 := bA.cell 2
  have c3 := bA.cell 3
  simp only [List.getElem?_toArray, List.getElem?_cons_zero, List.getElem?_cons_succ] at c0 c1 c2 c3
  have cz0 := bA.frozen 0
  have cz1 := bA.frozen 1
  have cz2 := bA.frozen 2
  have cz3 := bA.frozen 3
  have r0 := bR.cell 0
  have r1 := bR.cell 1
  have r2 := bR.cell 2
  have r3 := bR.cell 3
  simp only [List.getElem?_toArray, List.getElem?_cons_zero, List.getElem?_cons_succ] at r0 r1 r2 r3
  have rz0 := bR.frozen 0
  have rz1 := bR.frozen 1
  have rz2 := bR.frozen 2
  have rz3 := bR.frozen 3
  go_upto_region 8 with (fail)
  obtain ⟨k, hk⟩ : ∃ k, wx.heap.size = k := ⟨_, rfl⟩
  rw [hk]
  obtain ⟨wy, hwy⟩ : ∃ wy, (((((wx.alloc (.map #[] 0)).alloc (.cells #[] 3)).alloc (.cells #[.map (some k)] 70)).alloc (.cells #[.slice (some ⟨k + 1, 0, none⟩) 0 0] 71)).alloc (.cells #[.func (.func 21) #[] #[.pointer (some ⟨k + 1 + 1, 0, none⟩), .pointer (some ⟨k + 1 + 1 + 1, 0, none⟩), .pointer (some ⟨g, 0, none⟩), .pointer (some ⟨k + 1 + 1 + 1 + 1, 0, none⟩)]] 72)) = wy := ⟨_, rfl⟩
  rw [hwy]
  have rY : Wr [] wx wy := by rw [← hwy]; exact (((((Wr.refl [] wx).alloc _).alloc _).alloc _).alloc _).alloc _
  have d6 : wy.cell? ⟨k + 1 + 1 + 1, 0, none⟩ = some (.slice (some ⟨k + 1, 0, none⟩) 0 0) := by
    have hb := (Blk.new ((((wx.alloc (.map #[] 0)).alloc (.cells #[] 3)).alloc (.cells #[.map (some k)] 70))) 71 #[.slice (some ⟨k + 1, 0, none⟩) 0 0]).alloc (.cells #[.func (.func 21) #[] #[.pointer (some ⟨k + 1 + 1, 0, none⟩), .pointer (some ⟨k + 1 + 1 + 1, 0, none⟩), .pointer (some ⟨g, 0, none⟩), .pointer (some ⟨k + 1 + 1 + 1 + 1, 0, none⟩)]] 72)
    rw [hwy] at hb
    have := hb.cell 0
    simpa [World.size_alloc, hk] using this
  have bX := bA
  have Hk := Lib.hid hk
  clear hk hwy
  replace acc2 := acc2.trans rY
  replace bA := bA.wr0 rY
  replace bR := bR.wr0 rY
  clear c0 c1 c2 c3 cz0 cz1 cz2 cz3
  clear r0 r1 r2 r3 rz0 rz1 rz2 rz3
  have c0 := bA.cell 0
  have c1 := bA.cell 1
  have c2 := bA.cell 2
  have c3 := bA.cell 3
  simp only [List.getElem?_toArray, List.getElem?_cons_zero, List.getElem?_cons_succ] at c0 c1 c2 c3
  have cz0 := bA.frozen 0
  have cz1 := bA.frozen 1
  have cz2 := bA.frozen 2
  have cz3 := bA.frozen 3
  have r0 := bR.cell 0
  have r1 := bR.cell 1
  have r2 := bR.cell 2
  have r3 := bR.cell 3
  simp only [List.getElem?_toArray, List.getElem?_cons_zero, List.getElem?_cons_succ] at r0 r1 r2 r3
  have rz0 := bR.frozen 0
  have rz1 := bR.frozen 1
  have rz2 := bR.frozen 2
  have rz3 := bR.frozen 3
  go_wp2_with fail
  refine wp_loop_rounds 1 ?_
  rw [rounds_succ]
  go_upto_region 19 with (fail)
  have hne : g ≠ k + 1 + 1 + 1 := by
    have := bX.lt
    have := Hk.out
    omega
  have rZ : Wr [g] wy (wy.setCell ⟨g, 2, none⟩ (.slice none 0 0)) := (Wr.refl [g] wy).setOn (by simp) _
  replace d6 := rZ.cellOf d6 (by simp [Ne.symm hne])
  replace acc2 := acc2.new rZ (by have := Hg.out; omega)
  replace bA : Blk (wy.setCell ⟨g, 2, none⟩ (.slice none 0 0)) g 39 #[.string m, .slice none 0 0, .slice none 0 0, .slice none 0 0] := by
    have := bA.set_ 2 (.slice none 0 0)
    simpa using this
  replace bR := bR.wr rZ (by simp)
  clear rY rZ hne bX
  clear c0 c1 c2 c3 cz0 cz1 cz2 cz3
  clear r0 r1 r2 r3 rz0 rz1 rz2 rz3
  generalize wy.setCell ⟨g, 2, none⟩ (.slice none 0 0) = wz at *
  have c0 := bA.cell 0
  have c1 := bA.cell 1
  have c2 := bA.cell 2
  have c3 := bA.cell 3
  simp only [List.getElem?_toArray, List.getElem?_cons_zero, List.getElem?_cons_succ] at c0 c1 c2 c3
  have cz0 := bA.frozen 0
  have cz1 := bA.frozen 1
  have cz2 := bA.frozen 2
  have cz3 := bA.frozen 3
  have r0 := bR.cell 0
  have r1 := bR.cell 1
  have r2 := bR.cell 2
  have r3 := bR.cell 3
  simp only [List.getElem?_toArray, List.getElem?_cons_zero, List.getElem?_cons_succ] at r0 r1 r2 r3
  have rz0 := bR.frozen 0
  have rz1 := bR.frozen 1
  have rz2 := bR.frozen 2
  have rz3 := bR.frozen 3
  go_wp2_with fail
  refine wp_loop_rounds 1 ?_
  rw [rounds_succ]
  go_wp2_with fail
  refine wp_loop_rounds 1 ?_
  rw [rounds_succ]
  go_wp2_with fail
  refine bodyPost_ret (v := .tuple #[.agg #[.string m, .slice none 0 0, .slice none 0 0, .slice none 0 0], .int .i64 0]) ?_ rfl ⟨rfl, ?_⟩
  · have cc := blk4 wz (g + 1) 39 _ _ _ _ (.string m) (.slice none 0 0) (.slice none 0 0) (.slice none 0 0) bR
    have t0 := cc.cell 0
    have t1 := cc.cell 1
    have t2 := cc.cell 2
    have t3 := cc.cell 3
    simp only [List.getElem?_toArray, List.getElem?_cons_zero, List.getElem?_cons_succ] at t0 t1 t2 t3
    simp [results, Try.results13, go_sem, t0, t1, t2, t3]
  · have e := Hg.out
    exact acc2.new (wr4 wz (g + 1) _ _ _ _) (by omega)
set_option maxRecDepth 100000 in
set_option maxHeartbeats 4000000 in
/-- Canon, of what may not be. -/
theorem canon_bad (x : Array Value) (hx : ∃ a b c d, x = #[a, b, c, d]) (en : Int) (he : en ≠ 0) (w : World)
    (h1 : ∀ w', Wr [] w w' → Calls Try.prog 19 #[.agg x] w' fun e w2 => e = .returned (.int .i64 en) ∧ Wr [] w' w2) :
    Calls Try.prog 13 #[.agg x] w fun e w' => e = .returned (.tuple #[bareI ⟨#[]⟩ (.slice none 0 0), .int .i64 en]) ∧ Wr [] w w' := by
  obtain ⟨xa, xb, xc, xd, rfl⟩ := hx
  have hd : decide (en = 0) = false := by simpa using he
  unfold bareI
  obtain ⟨wb, hwb⟩ : ∃ wb, (w.alloc (.cells #[xa, xb, xc, xd] 39)).alloc (.cells #[.string ⟨#[]⟩, .slice none 0 0, .slice none 0 0, .slice none 0 0] 39) = wb := ⟨_, rfl⟩
  obtain ⟨g, hg⟩ : ∃ g, w.heap.size = g := ⟨_, rfl⟩
  have acc : Wr [] w wb := by rw [← hwb]; exact ((Wr.refl _ _).alloc _).alloc _
  have bA : Blk wb g 39 #[xa, xb, xc, xd] := by rw [← hwb, ← hg]; exact (Blk.new _ _ _).alloc _
  have bR : Blk wb (g + 1) 39 #[.string ⟨#[]⟩, .slice none 0 0, .slice none 0 0, .slice none 0 0] := by
    have hb := Blk.new (w.alloc (.cells #[xa, xb, xc, xd] 39)) 39 #[.string ⟨#[]⟩, .slice none 0 0, .slice none 0 0, .slice none 0 0]
    rw [show (w.alloc (.cells #[xa, xb, xc, xd] 39)).heap.size = g + 1 by simp [hg], hwb] at hb
    exact hb
  have Hwb := Lib.hid hwb
  have Hg := Lib.hid hg
  clear hwb hg
  go_enter Try.func13, Try.ntmps13
  go_upto_region 1 with (fail)
  rw [Hwb.out, Hg.out]
  have c0 := bA.cell 0
  have c1 := bA.cell 1
  have c2 := bA.cell 2
  have c3 := bA.cell 3
  simp only [List.getElem?_toArray, List.getElem?_cons_zero, List.getElem?_cons_succ] at c0 c1 c2 c3
  have cz0 := bA.frozen 0
  have cz1 := bA.frozen 1
  have cz2 := bA.frozen 2
  have cz3 := bA.frozen 3
  have r0 := bR.cell 0
  have r1 := bR.cell 1
  have r2 := bR.cell 2
  have r3 := bR.cell 3
  simp only [List.getElem?_toArray, List.getElem?_cons_zero, List.getElem?_cons_succ] at r0 r1 r2 r3
  have rz0 := bR.frozen 0
  have rz1 := bR.frozen 1
  have rz2 := bR.frozen 2
  have rz3 := bR.frozen 3
  go_wp2_with fail
  refine (h1 _ acc).mono ?_
  rintro e w1 ⟨rfl, k1⟩
  replace acc := acc.trans k1
  replace bA := bA.wr0 k1
  replace bR := bR.wr0 k1
  clear c0 c1 c2 c3 cz0 cz1 cz2 cz3
  clear r0 r1 r2 r3 rz0 rz1 rz2 rz3
  have c0 := bA.cell 0
  have c1 := bA.cell 1
  have c2 := bA.cell 2
  have c3 := bA.cell 3
  simp only [List.getElem?_toArray, List.getElem?_cons_zero, List.getElem?_cons_succ] at c0 c1 c2 c3
  have cz0 := bA.frozen 0
  have cz1 := bA.frozen 1
  have cz2 := bA.frozen 2
  have cz3 := bA.frozen 3
  have r0 := bR.cell 0
  have r1 := bR.cell 1
  have r2 := bR.cell 2
  have r3 := bR.cell 3
  simp only [List.getElem?_toArray, List.getElem?_cons_zero, List.getElem?_cons_succ] at r0 r1 r2 r3
  have rz0 := bR.frozen 0
  have rz1 := bR.frozen 1
  have rz2 := bR.frozen 2
  have rz3 := bR.frozen 3
  go_wp2_with fail
  refine bodyPost_ret (v := .tuple #[.agg #[.string ⟨#[]⟩, .slice none 0 0, .slice none 0 0, .slice none 0 0], .int .i64 en]) ?_ rfl ⟨rfl, ?_⟩
  · have cc := blk4 w1 (g + 1) 39 _ _ _ _ (.string ⟨#[]⟩) (.slice none 0 0) (.slice none 0 0) (.slice none 0 0) bR
    have t0 := cc.cell 0
    have t1 := cc.cell 1
    have t2 := cc.cell 2
    have t3 := cc.cell 3
    simp only [List.getElem?_toArray, List.getElem?_cons_zero, List.getElem?_cons_succ] at t0 t1 t2 t3
    simp [results, Try.results13, go_sem, t0, t1, t2, t3]
  · have e := Hg.out
    exact acc.new (wr4 w1 (g + 1) _ _ _ _) (by omega)
end Go.Proofs.Ytjanbpchedgoiaa
