/- iface's walk, writing: bytes, one number: walked. Conditions: the number is within its kind, the walk writes. -/
import Derived.Test.YtjanbpchedgoiaaGreatKT03
import Derived.Deep.RegionHeld3
import Derived.StillTailTactics
import Derived.Test.YtjanbpchedgoiaaGreatKT04
set_option linter.unusedVariables false
set_option linter.unusedSimpArgs false
set_option maxRecDepth 100000
set_option maxHeartbeats 32000000
namespace Go.Proofs.YtjanbpchedgoiaaGreat
open Go.RowKit
def byteN (n size i : Nat) : Nat := n / 2 ^ (8 * (size - 1 - i)) % 256
def bytesN (s : ByteArray) (n size : Nat) : Nat → ByteArray
 | 0 => s
 | i + 1 => bytesN s n size i ++ ⟨#[UInt8.ofNat (byteN n size i)]⟩
theorem bytesN_size (s : ByteArray) (n size i : Nat) : (bytesN s n size i).size = s.size + i := by
 induction i with
 | zero => rfl
 | succ i ih =>
  unfold bytesN
  rw [ByteArray.size_append, ih]
  rfl
def Wlk (w : World) (b : Nat) (s : ByteArray) (bad : Bool) : Prop := Blk w b 93 #[.string s, .bool false, .bool bad]
theorem conv_one (w : World) (g n : Nat) (hc : w.cell? ⟨g, 0, none⟩ = some (.int .u8 (n : Int))) :
  (convert 71 9 (.slice (some ⟨g, 0, none⟩) 1 1)).run Tryz.prog w = .ok (.string ⟨#[UInt8.ofNat n]⟩) w := by
 rw [run_convert_bytes_string w _ _ 5 _ 1 1 Tryz.underlying71 Tryz.underlying5 Tryz.underlying9,
  run_bytesToString w ⟨g, 0, none⟩ 1 1 [(n : Int)] (by simp [loadCells, loadCellsFrom, run_load, hc, Sem.run_bind, Result.andThen, Sem.run_pure, Addr.add])]
 simp only [List.foldl_cons, List.foldl_nil, Int.toNat_natCast]
 rfl
def BytesAt (b : Nat) (s : ByteArray) (n size : Nat) (bad : Bool) (w : World) (v : Value) (w' : World) : Prop :=
 ∃ i : Nat, i ≤ size ∧ v = .int .i64 i ∧ Wr [b] w w' ∧ Wlk w' b (bytesN s n size i) bad
theorem bytes_any (b n size : Nat) (s : ByteArray) (bad : Bool) (hn : n < 2 ^ 64) (hs : size ≤ 8) (hroom : s.size + size ≤ maxLen) (w : World) (hb : Wlk w b s bad) :
  Calls Tryz.prog 56 #[.pointer (some ⟨b, 0, none⟩), .int .u64 (n : Int), .int .i64 (size : Int)] w fun e w' => e = .returned (.int .u64 (n : Int)) ∧ Wr [b] w w' ∧ Wlk w' b (bytesN s n size size) bad := by
 have c0 := hb.cell 0
 have c1 := hb.cell 1
 have c2 := hb.cell 2
 simp only [qgaq, qgzq, qgsq] at c0 c1 c2
 go_enter Tryz.func56, Tryz.ntmps56
 go_upto_region 3 with (fail)
 go_loopw [16] (fun v wr => BytesAt b s n size bad w v wr) (fun v _ => size - (intOf v).toNat)
 case atStart => exact ⟨0, by omega, rfl, Wr.refl _ _, hb⟩
 case round =>
  obtain ⟨i, hi, rfl, hw, hb'⟩ := hrel
  by_cases hlt : i < size
  ·have h0 : (0 : Int) ≤ (i : Int) := by omega
   have h1 : (i : Int) < (size : Int) := by omega
   clear c0 c1 c2
   have c0 := hb'.cell 0
   have c1 := hb'.cell 1
   have c2 := hb'.cell 2
   simp only [qgaq, qgzq, qgsq] at c0 c1 c2
   go_upto_region 5 with (fail)
   have e1 : IntKind.i64.wrap ((size : Int) - 1) = ((size - 1 : Nat) : Int) := by rw [IntKind.wrap_i64]; omega
   have e2 : IntKind.i64.wrap (((size - 1 : Nat) : Int) - (i : Int)) = ((size - 1 - i : Nat) : Int) := by rw [IntKind.wrap_i64]; omega
   have e3 : IntKind.i64.wrap (8 * ((size - 1 - i : Nat) : Int)) = ((8 * (size - 1 - i) : Nat) : Int) := by rw [IntKind.wrap_i64]; omega
   have hm : size - 1 - i < 8 := by omega
   have hwr := qh hw
   have hb2 := qh hb'
   clear hw hb' c1 c2
   have eb : IntKind.u8.wrap ((n : Int) / 2 ^ (8 * (size - 1 - i))) = ((byteN n size i : Nat) : Int) := by
    unfold byteN
    rw [IntKind.wrap_u8]
    push_cast
    rfl
   have hbs : bytesN s n size (i + 1) = bytesN s n size i ++ ⟨#[UInt8.ofNat (byteN n size i)]⟩ := rfl
   have hcv := conv_one (wr.alloc (.cells #[.int .u8 ((byteN n size i : Nat) : Int)] 5)).drew wr.heap.size (byteN n size i) (by simp)
   have hbl : ¬9223372036854775807 < (bytesN s n size i).size + 1 := by rw [bytesN_size]; unfold maxLen at hroom; omega
   have q0 := ((Wr.refl [] wr).alloc (.cells #[.int .u8 ((byteN n size i : Nat) : Int)] 5)).cellOf c0 (by simp)
   have q1 := ((Wr.refl [] wr).alloc (.cells #[.int .u8 ((byteN n size i : Nat) : Int)] 5)).frozenOf c0 (hb2.out.frozen 0) (by simp)
   have HBS := qh hbs
   clear hbs
   generalize hc : byteN n size i = c at *
   generalize hM : 8 * (size - 1 - i) = M at *
   generalize hA : size - 1 - i = A at *
   generalize hB : size - 1 = B at *
   have hC : ∀ W, Wr [] wr W → W.cell? ⟨b, 0, none⟩ = some (.string (bytesN s n size i)) := fun W hW => hW.cellOf c0 (by simp)
   have HC := qh hC
   clear hC
   refine wp_region_noPanic ?_
   refine wp_region_L (Until 17 fun w' => w'.cell? ⟨b, 0, none⟩ = some (.string (bytesN s n size i))) (by kernel_rfl) (fun hcl => ?_)
   have hS : Until 17 (fun w' => w'.cell? ⟨b, 0, none⟩ = some (.string (bytesN s n size i))) (Array.replicate 18 false) wr.drew := fun _ => c0
   refine wpAnyL_take (i := 0) (oi := ?oi1) (v := ?v1) ?hi1 (by kernel_rfl) (by kernel_rfl) (by kernel_rfl) (fun _ _ _ h => h) (until_take 17 _ (by decide)) ?hy1 hcl hS ?rest1
   case hi1 =>
    simp only [qgaq, qgsq, qgzq]
    rfl
   case hy1 =>
    refine yields_until (by kernel_rfl) (Or.inl ⟨by rfl, fun w' hS => ?_⟩)
    try go_split_ands
    go_simp
    try rfl
   intro hcl1 hS1
   clear hcl hS
   try simp only [Act.put, qsaq, qszq, qssq]
   refine wpAnyL_take (i := 1) (oi := ?oi2) (v := ?v2) ?hi2 (by kernel_rfl) (by kernel_rfl) (by kernel_rfl) (fun _ _ _ h => h) (until_take 17 _ (by decide)) ?hy2 hcl1 hS1 ?rest2
   case hi2 =>
    simp only [qgaq, qgsq, qgzq]
    rfl
   case hy2 =>
    refine yields_until (by kernel_rfl) (Or.inl ⟨by rfl, fun w' hS => ?_⟩)
    try go_split_ands
    go_simp
    try rfl
   intro hcl2 hS2
   clear hcl1 hS1
   try simp only [Act.put, qsaq, qszq, qssq]
   refine wpAnyL_take (i := 2) (oi := ?oi3) (v := ?v3) ?hi3 (by kernel_rfl) (by kernel_rfl) (by kernel_rfl) (fun _ _ _ h => h) (until_take 17 _ (by decide)) ?hy3 hcl2 hS2 ?rest3
   case hi3 =>
    simp only [qgaq, qgsq, qgzq]
    rfl
   case hy3 =>
    refine yields_until (by kernel_rfl) (Or.inl ⟨by rfl, fun w' hS => ?_⟩)
    try go_split_ands
    go_simp
    try rfl
   intro hcl3 hS3
   clear hcl2 hS2
   try simp only [Act.put, qsaq, qszq, qssq]
   refine wpAnyL_take (i := 3) (oi := ?oi4) (v := ?v4) ?hi4 (by kernel_rfl) (by kernel_rfl) (by kernel_rfl) (fun _ _ _ h => h) (until_take 17 _ (by decide)) ?hy4 hcl3 hS3 ?rest4
   case hi4 =>
    simp only [qgaq, qgsq, qgzq]
    rfl
   case hy4 =>
    refine yields_until (by kernel_rfl) (Or.inl ⟨by rfl, fun w' hS => ?_⟩)
    try go_split_ands
    go_simp
    try rfl
   intro hcl4 hS4
   clear hcl3 hS3
   try simp only [Act.put, qsaq, qszq, qssq]
   refine wpAnyL_take (i := 4) (oi := ?oi5) (v := ?v5) ?hi5 (by kernel_rfl) (by kernel_rfl) (by kernel_rfl) (fun _ _ _ h => h) (until_take 17 _ (by decide)) ?hy5 hcl4 hS4 ?rest5
   case hi5 =>
    simp only [qgaq, qgsq, qgzq]
    rfl
   case hy5 =>
    refine yields_until (by kernel_rfl) (Or.inl ⟨by rfl, fun w' hS => ?_⟩)
    try go_split_ands
    go_simp
    try rfl
   intro hcl5 hS5
   clear hcl4 hS4
   try simp only [Act.put, qsaq, qszq, qssq]
   refine wpAnyL_take (i := 5) (oi := ?oi6) (v := ?v6) ?hi6 (by kernel_rfl) (by kernel_rfl) (by kernel_rfl) (fun _ _ _ h => h) (until_take 17 _ (by decide)) ?hy6 hcl5 hS5 ?rest6
   case hi6 =>
    simp only [qgaq, qgsq, qgzq]
    rfl
   case hy6 =>
    refine yields_until (by kernel_rfl) (Or.inl ⟨by rfl, fun w' hS => ?_⟩)
    try go_split_ands
    go_simp
    try rfl
   intro hcl6 hS6
   clear hcl5 hS5
   try simp only [Act.put, qsaq, qszq, qssq]
   refine wpAnyL_take (i := 6) (oi := ?oi7) (v := ?v7) ?hi7 (by kernel_rfl) (by kernel_rfl) (by kernel_rfl) (fun _ _ _ h => h) (until_take 17 _ (by decide)) ?hy7 hcl6 hS6 ?rest7
   case hi7 =>
    simp only [qgaq, qgsq, qgzq]
    rfl
   case hy7 =>
    refine yields_until (by kernel_rfl) (Or.inl ⟨by rfl, fun w' hS => ?_⟩)
    try go_split_ands
    go_simp
    try rfl
   intro hcl7 hS7
   clear hcl6 hS6
   try simp only [Act.put, qsaq, qszq, qssq]
   refine wpAnyL_take (i := 7) (oi := ?oi8) (v := ?v8) ?hi8 (by kernel_rfl) (by kernel_rfl) (by kernel_rfl) (fun _ _ _ h => h) (until_take 17 _ (by decide)) ?hy8 hcl7 hS7 ?rest8
   case hi8 =>
    simp only [qgaq, qgsq, qgzq]
    rfl
   case hy8 =>
    refine yields_until (by kernel_rfl) (Or.inl ⟨by rfl, fun w' hS => ?_⟩)
    try go_split_ands
    go_simp
    try rfl
   intro hcl8 hS8
   clear hcl7 hS7
   try simp only [Act.put, qsaq, qszq, qssq]
   refine wpAnyL_take (i := 8) (oi := ?oi9) (v := ?v9) ?hi9 (by kernel_rfl) (by kernel_rfl) (by kernel_rfl) (fun _ _ _ h => h) (until_take 17 _ (by decide)) ?hy9 hcl8 hS8 ?rest9
   case hi9 =>
    simp only [qgaq, qgsq, qgzq]
    rfl
   case hy9 =>
    refine yields_until (by kernel_rfl) (Or.inl ⟨by rfl, fun w' hS => ?_⟩)
    try go_split_ands
    go_simp
    try rfl
   intro hcl9 hS9
   clear hcl8 hS8
   try simp only [Act.put, qsaq, qszq, qssq]
   refine wpAnyL_take (i := 9) (oi := ?oi10) (v := ?v10) ?hi10 (by kernel_rfl) (by kernel_rfl) (by kernel_rfl) (fun _ _ _ h => h) (until_take 17 _ (by decide)) ?hy10 hcl9 hS9 ?rest10
   case hi10 =>
    simp only [qgaq, qgsq, qgzq]
    rfl
   case hy10 =>
    refine yields_until (by kernel_rfl) (Or.inl ⟨by rfl, fun w' hS => ?_⟩)
    try go_split_ands
    go_simp
    try rfl
   intro hcl10 hS10
   clear hcl9 hS9
   try simp only [Act.put, qsaq, qszq, qssq]
   refine wpAnyL_take (i := 10) (oi := ?oi11) (v := ?v11) ?hi11 (by kernel_rfl) (by kernel_rfl) (by kernel_rfl) (fun _ _ _ h => h) (until_take 17 _ (by decide)) ?hy11 hcl10 hS10 ?rest11
   case hi11 =>
    simp only [qgaq, qgsq, qgzq]
    rfl
   case hy11 =>
    refine yields_until (by kernel_rfl) (Or.inl ⟨by rfl, fun w' hS => ?_⟩)
    try go_split_ands
    go_simp
    try rfl
   intro hcl11 hS11
   clear hcl10 hS10
   try simp only [Act.put, qsaq, qszq, qssq]
   refine wpAnyL_take (i := 11) (oi := ?oi12) (v := ?v12) ?hi12 (by kernel_rfl) (by kernel_rfl) (by kernel_rfl) (fun _ _ _ h => h) (until_take 17 _ (by decide)) ?hy12 hcl11 hS11 ?rest12
   case hi12 =>
    simp only [qgaq, qgsq, qgzq]
    rfl
   case hy12 =>
    refine yields_until (by kernel_rfl) (Or.inl ⟨by rfl, fun w' hS => ?_⟩)
    try go_split_ands
    go_simp
    try rfl
   intro hcl12 hS12
   clear hcl11 hS11
   try simp only [Act.put, qsaq, qszq, qssq]
   refine wpAnyL_step (i := 12) (o := ?oi13) ?hi13 (by kernel_rfl) hcl12 ?rest13
   case hi13 =>
    simp only [qgaq, qgsq, qgzq]
    rfl
   intro K hK
   go_simp
   refine hK _ _ (fun _ => HC.out _ (((Wr.refl _ wr).alloc _).drew)) (fun hcl13 => ?_)
   clear hK K hcl12 hS12
   try simp only [Act.put, qsaq, qszq, qssq]
   refine wpAnyL_step (i := 13) (o := ?oi14) ?hi14 (by kernel_rfl) hcl13 ?rest14
   case hi14 =>
    simp only [qgaq, qgsq, qgzq]
    rfl
   intro K hK
   go_simp
   refine hK _ _ (fun _ => HC.out _ (((Wr.refl _ wr).alloc _).drew)) (fun hcl14 => ?_)
   clear hK K hcl13
   try simp only [Act.put, qsaq, qszq, qssq]
   refine wpAnyL_take (i := 14) (oi := ?oi15) (v := ?v15) ?hi15 (by kernel_rfl) (by kernel_rfl) (by kernel_rfl) (fun _ _ _ h => h) (until_take 17 _ (by decide)) ?hy15 hcl14 (fun _ => HC.out _ (((Wr.refl _ wr).alloc _).drew)) ?rest15
   case hi15 =>
    simp only [qgaq, qgsq, qgzq]
    rfl
   case hy15 =>
    refine yields_until (by kernel_rfl) (Or.inl ⟨by rfl, fun w' hS => ?_⟩)
    try go_split_ands
    go_simp
    try rfl
   intro hcl15 hS15
   clear hcl14
   try simp only [Act.put, qsaq, qszq, qssq]
   refine wpAnyL_step (i := 15) (o := ?oi16) ?hi16 (by kernel_rfl) hcl15 ?rest16
   case hi16 =>
    simp only [qgaq, qgsq, qgzq]
    rfl
   intro K hK
   go_simp
   refine hK _ _ (fun _ => HC.out _ (((Wr.refl _ wr).alloc _).drew)) (fun hcl16 => ?_)
   clear hK K hcl15 hS15
   try simp only [Act.put, qsaq, qszq, qssq]
   refine wpAnyL_take (i := 16) (oi := ?oi17) (v := ?v17) ?hi17 (by kernel_rfl) (by kernel_rfl) (by kernel_rfl) (fun _ _ _ h => h) (until_take 17 _ (by decide)) ?hy17 hcl16 (fun _ => HC.out _ (((Wr.refl _ wr).alloc _).drew)) ?rest17
   case hi17 =>
    simp only [qgaq, qgsq, qgzq]
    rfl
   case hy17 =>
    refine yields_until (by kernel_rfl) (Or.inl ⟨by rfl, fun w' hS => ?_⟩)
    try go_split_ands
    go_simp
    try rfl
   intro hcl17 hS17
   clear hcl16
   try simp only [Act.put, qsaq, qszq, qssq]
   refine wpAnyL_step (i := 17) (o := ?oi18) ?hi18 (by kernel_rfl) hcl17 ?rest18
   case hi18 =>
    simp only [qgaq, qgsq, qgzq]
    rfl
   intro K hK
   go_simp
   refine hK _ _ (fun hb => absurd hb (by decide)) (fun hcl999 => ?_)
   clear hK K hcl17 hS17
   refine wpAnyL_done (by kernel_rfl) (NoPanic.normal ?_) _
   try simp only [Act.put, qsaq, qszq, qssq]
   clear hcv eb e1 e2 e3
   go_wp2_with fail
   refine ⟨⟨i + 1, by omega, by push_cast; rfl, (hwr.out.trans (((Wr.refl [b] wr).alloc _).setOn (by simp) _)).drew, ?_⟩, ?_⟩
   ·rw [HBS.out]
    have := ((hb2.out.alloc (.cells #[.int .u8 (c : Int)] 5)).set_ 0 (.string (bytesN s n size i ++ ⟨#[UInt8.ofNat c]⟩))).drew
    unfold Wlk
    simpa using this
   ·show size - ((i : Int) + 1).toNat < size - (i : Int).toNat
    omega
  ·have hks : i = size := by omega
   subst hks
   go_wp2_with fail
   go_ret
   exact ⟨rfl, hw, hb'⟩
theorem count_any (b n : Nat) (s : ByteArray) (bad : Bool) (hn : n ≤ 65535) (hroom : s.size + 2 ≤ maxLen) (w : World) (hb : Wlk w b s bad) :
  Calls Tryz.prog 80 #[.pointer (some ⟨b, 0, none⟩), .int .i64 (n : Int)] w fun e w' => e = .returned (.int .i64 (n : Int)) ∧ Wr [b] w w' ∧ Wlk w' b (bytesN s n 2 2) bad := by
 have h := bytes_any b n 2 s bad (by omega) (by omega) hroom w hb
 have e1 : IntKind.u64.wrap (n : Int) = (n : Int) := by rw [IntKind.wrap_u64]; omega
 have e2 : IntKind.i64.wrap (n : Int) = (n : Int) := by rw [IntKind.wrap_i64]; omega
 have e3 : wrap64 (n : Int) = (n : Int) := by unfold wrap64; omega
 have H := qh h
 clear hb
 go_enter Tryz.func80, Tryz.ntmps80
 go_wp2_with fail
 refine H.out.mono ?_
 rintro e w1 ⟨rfl, r1, b1⟩
 go_wp2_with fail
 go_ret
 exact ⟨rfl, r1, b1⟩
theorem raw_any (b : Nat) (p : Addr) (n : Int) (s t : ByteArray) (bad : Bool) (hroom : s.size + t.size ≤ maxLen) (w : World) (hb : Wlk w b s bad) (ct : w.cell? p = some (.string t)) :
  Calls Tryz.prog 79 #[.pointer (some ⟨b, 0, none⟩), .pointer (some p), .int .i64 n] w fun e w' => e = .returned (.tuple #[]) ∧ Wr [b] w w' ∧ Wlk w' b (s ++ t) bad := by
 have c0 := hb.cell 0
 have c1 := hb.cell 1
 have c2 := hb.cell 2
 simp only [qgaq, qgzq, qgsq] at c0 c1 c2
 have q1 := hb.frozen 0
 have hbl : ¬9223372036854775807 < s.size + t.size := by unfold maxLen at hroom; omega
 go_enter Tryz.func79, Tryz.ntmps79
 go_upto_region 1 with (fail)
 have hC : ∀ W, Wr [] w W → W.cell? ⟨b, 0, none⟩ = some (.string s) ∧ W.cell? p = some (.string t) := fun W hW => ⟨hW.cellOf c0 (by simp), hW.cellOf ct (by simp)⟩
 have HC := qh hC
 clear hC
 refine wp_region_noPanic ?_
 refine wp_region_L (Until 10 fun w' => w'.cell? ⟨b, 0, none⟩ = some (.string s) ∧ w'.cell? p = some (.string t)) (by kernel_rfl) (fun hcl => ?_)
 have hS : Until 10 (fun w' => w'.cell? ⟨b, 0, none⟩ = some (.string s) ∧ w'.cell? p = some (.string t)) (Array.replicate 11 false) w.drew := fun _ => ⟨c0, ct⟩
 refine wpAnyL_take (i := 0) (oi := ?oi101) (v := ?v101) ?hi101 (by kernel_rfl) (by kernel_rfl) (by kernel_rfl) (fun _ _ _ h => h) (until_take 10 _ (by decide)) ?hy101 hcl hS ?rest101
 case hi101 =>
  simp only [qgaq, qgsq, qgzq]
  rfl
 case hy101 =>
  refine yields_until (by kernel_rfl) (Or.inl ⟨by rfl, fun w' hS => ?_⟩)
  try go_split_ands
  go_simp
  try rfl
 intro hcl101 hS101
 clear hcl hS
 try simp only [Act.put, qsaq, qszq, qssq]
 refine wpAnyL_take (i := 1) (oi := ?oi102) (v := ?v102) ?hi102 (by kernel_rfl) (by kernel_rfl) (by kernel_rfl) (fun _ _ _ h => h) (until_take 10 _ (by decide)) ?hy102 hcl101 hS101 ?rest102
 case hi102 =>
  simp only [qgaq, qgsq, qgzq]
  rfl
 case hy102 =>
  refine yields_until (by kernel_rfl) (Or.inl ⟨by rfl, fun w' hS => ?_⟩)
  try go_split_ands
  go_simp
  try rfl
 intro hcl102 hS102
 clear hcl101 hS101
 try simp only [Act.put, qsaq, qszq, qssq]
 refine wpAnyL_take (i := 2) (oi := ?oi103) (v := ?v103) ?hi103 (by kernel_rfl) (by kernel_rfl) (by kernel_rfl) (fun _ _ _ h => h) (until_take 10 _ (by decide)) ?hy103 hcl102 hS102 ?rest103
 case hi103 =>
  simp only [qgaq, qgsq, qgzq]
  rfl
 case hy103 =>
  refine yields_until (by kernel_rfl) (Or.inl ⟨by rfl, fun w' hS => ?_⟩)
  try go_split_ands
  go_simp
  try rfl
 intro hcl103 hS103
 clear hcl102 hS102
 try simp only [Act.put, qsaq, qszq, qssq]
 refine wpAnyL_take (i := 3) (oi := ?oi104) (v := ?v104) ?hi104 (by kernel_rfl) (by kernel_rfl) (by kernel_rfl) (fun _ _ _ h => h) (until_take 10 _ (by decide)) ?hy104 hcl103 hS103 ?rest104
 case hi104 =>
  simp only [qgaq, qgsq, qgzq]
  rfl
 case hy104 =>
  refine yields_until (by kernel_rfl) (Or.inl ⟨by rfl, fun w' hS => ?_⟩)
  try go_split_ands
  go_simp
  try rfl
 intro hcl104 hS104
 clear hcl103 hS103
 try simp only [Act.put, qsaq, qszq, qssq]
 refine wpAnyL_take (i := 4) (oi := ?oi105) (v := ?v105) ?hi105 (by kernel_rfl) (by kernel_rfl) (by kernel_rfl) (fun _ _ _ h => h) (until_take 10 _ (by decide)) ?hy105 hcl104 hS104 ?rest105
 case hi105 =>
  simp only [qgaq, qgsq, qgzq]
  rfl
 case hy105 =>
  refine yields_until (by kernel_rfl) (Or.inl ⟨by rfl, fun w' hS => ?_⟩)
  try go_split_ands
  go_simp
  try rfl
 intro hcl105 hS105
 clear hcl104 hS104
 try simp only [Act.put, qsaq, qszq, qssq]
 refine wpAnyL_take (i := 5) (oi := ?oi106) (v := ?v106) ?hi106 (by kernel_rfl) (by kernel_rfl) (by kernel_rfl) (fun _ _ _ h => h) (until_take 10 _ (by decide)) ?hy106 hcl105 hS105 ?rest106
 case hi106 =>
  simp only [qgaq, qgsq, qgzq]
  rfl
 case hy106 =>
  refine yields_until (by kernel_rfl) (Or.inl ⟨by rfl, fun w' hS => ?_⟩)
  try go_split_ands
  go_simp
  try rfl
 intro hcl106 hS106
 clear hcl105 hS105
 try simp only [Act.put, qsaq, qszq, qssq]
 refine wpAnyL_take (i := 6) (oi := ?oi107) (v := ?v107) ?hi107 (by kernel_rfl) (by kernel_rfl) (by kernel_rfl) (fun _ _ _ h => h) (until_take 10 _ (by decide)) ?hy107 hcl106 hS106 ?rest107
 case hi107 =>
  simp only [qgaq, qgsq, qgzq]
  rfl
 case hy107 =>
  refine yields_until (by kernel_rfl) (Or.inl ⟨by rfl, fun w' hS => ?_⟩)
  try go_split_ands
  go_simp
  try rfl
 intro hcl107 hS107
 clear hcl106 hS106
 try simp only [Act.put, qsaq, qszq, qssq]
 refine wpAnyL_take (i := 7) (oi := ?oi108) (v := ?v108) ?hi108 (by kernel_rfl) (by kernel_rfl) (by kernel_rfl) (fun _ _ _ h => h) (until_take 10 _ (by decide)) ?hy108 hcl107 hS107 ?rest108
 case hi108 =>
  simp only [qgaq, qgsq, qgzq]
  rfl
 case hy108 =>
  refine yields_until (by kernel_rfl) (Or.inl ⟨by rfl, fun w' hS => ?_⟩)
  try go_split_ands
  go_simp
  try rfl
 intro hcl108 hS108
 clear hcl107 hS107
 try simp only [Act.put, qsaq, qszq, qssq]
 refine wpAnyL_step (i := 8) (o := ?oi109) ?hi109 (by kernel_rfl) hcl108 ?rest109
 case hi109 =>
  simp only [qgaq, qgsq, qgzq]
  rfl
 intro K hK
 go_simp
 refine hK _ _ (fun _ => HC.out _ ((Wr.refl _ w).drew)) (fun hcl109 => ?_)
 clear hK K hcl108 hS108
 try simp only [Act.put, qsaq, qszq, qssq]
 refine wpAnyL_take (i := 9) (oi := ?oi110) (v := ?v110) ?hi110 (by kernel_rfl) (by kernel_rfl) (by kernel_rfl) (fun _ _ _ h => h) (until_take 10 _ (by decide)) ?hy110 hcl109 (fun _ => HC.out _ ((Wr.refl _ w).drew)) ?rest110
 case hi110 =>
  simp only [qgaq, qgsq, qgzq]
  rfl
 case hy110 =>
  refine yields_until (by kernel_rfl) (Or.inl ⟨by rfl, fun w' hS => ?_⟩)
  try go_split_ands
  go_simp
  try rfl
 intro hcl110 hS110
 clear hcl109
 try simp only [Act.put, qsaq, qszq, qssq]
 refine wpAnyL_step (i := 10) (o := ?oi111) ?hi111 (by kernel_rfl) hcl110 ?rest111
 case hi111 =>
  simp only [qgaq, qgsq, qgzq]
  rfl
 intro K hK
 go_simp
 refine hK _ _ (fun hb => absurd hb (by decide)) (fun hcl999 => ?_)
 clear hK K hcl110 hS110
 refine wpAnyL_done (by kernel_rfl) (NoPanic.normal ?_) _
 try simp only [Act.put, qsaq, qszq, qssq]
 clear hbl ct
 go_wp2_with fail
 refine bodyPost_ret (results_none Tryz.results79 _ _ _) rfl ?_
 refine ⟨rfl, ((Wr.refl [b] w).setOn (by simp) _).drew, ?_⟩
 have := (Blk.set_ hb 0 (.string (s ++ t))).drew
 unfold Wlk
 simpa using this
def textE (s t : ByteArray) : ByteArray := bytesN s t.size 1 1 ++ t
theorem text_any_w (b : Nat) (p : Addr) (s t : ByteArray) (bad : Bool) (ht : t.size ≤ 255) (hroom : s.size + 1 + t.size ≤ maxLen) (w : World) (hb : Wlk w b s bad) (ct : w.cell? p = some (.string t)) (hp : p.block ≠ b) :
  Calls Tryz.prog 53 #[.pointer (some ⟨b, 0, none⟩), .pointer (some p)] w fun e w' => e = .returned (.tuple #[]) ∧ Wr [b] w w' ∧ Wlk w' b (textE s t) bad := by
 have h := bytes_any b t.size 1 s bad (by omega) (by omega) (by omega) w hb
 have h2 := fun n w (hb : Wlk w b (bytesN s t.size 1 1) bad) ct => raw_any b p n (bytesN s t.size 1 1) t bad (by rw [bytesN_size]; exact hroom) w hb ct
 have e1 : IntKind.u64.wrap (t.size : Int) = (t.size : Int) := by rw [IntKind.wrap_u64]; omega
 have e2 : IntKind.i64.wrap (t.size : Int) = (t.size : Int) := by rw [IntKind.wrap_i64]; omega
 have H := qh h
 clear hb
 go_enter Tryz.func53, Tryz.ntmps53
 go_wp2_with fail
 refine H.out.mono ?_
 rintro e w1 ⟨rfl, r1, b1⟩
 replace ct := r1.cellOf ct (by simp [hp])
 go_wp2_with fail
 refine (h2 _ _ b1 ct).mono ?_
 rintro e w2 ⟨rfl, r2, b2⟩
 go_wp2_with fail
 refine bodyPost_end (results_none Tryz.results53 _ _ _) rfl ?_
 exact ⟨rfl, r1.trans r2, b2⟩
theorem listUse_nil (b : Nat) (p : Addr) (fv : Value) (s : ByteArray) (bad : Bool) (hroom : s.size + 2 ≤ maxLen) (w : World) (hb : Wlk w b s bad) (ct : w.cell? p = some (.slice none 0 0)) (hp : p.block ≠ b) :
  Calls Tryz.prog 54 #[.pointer (some ⟨b, 0, none⟩), .pointer (some p), fv] w fun e w' => e = .returned (.tuple #[]) ∧ Wr [b] w w' ∧ Wlk w' b (bytesN s 0 2 2) bad := by
 have h := count_any b 0 s bad (by omega) hroom w hb
 have H := qh h
 clear hb
 go_enter Tryz.func54, Tryz.ntmps54
 go_wp2_with fail
 refine H.out.mono ?_
 rintro e w1 ⟨rfl, r1, b1⟩
 replace ct := r1.cellOf ct (by simp [hp])
 have c0 := b1.cell 0
 have c1 := b1.cell 1
 have c2 := b1.cell 2
 simp only [qgaq, qgzq, qgsq] at c0 c1 c2
 go_wp2_with fail
 refine wp_loop_rounds 1 ?_
 rw [rounds_succ]
 go_wp2_with fail
 refine bodyPost_end (results_none Tryz.results54 _ _ _) rfl ?_
 exact ⟨rfl, r1, b1⟩
theorem listType_nil (b : Nat) (p : Addr) (fv : Value) (s : ByteArray) (bad : Bool) (hroom : s.size + 2 ≤ maxLen) (w : World) (hb : Wlk w b s bad) (ct : w.cell? p = some (.slice none 0 0)) (hp : p.block ≠ b) :
  Calls Tryz.prog 57 #[.pointer (some ⟨b, 0, none⟩), .pointer (some p), fv] w fun e w' => e = .returned (.tuple #[]) ∧ Wr [b] w w' ∧ Wlk w' b (bytesN s 0 2 2) bad := by
 have h := count_any b 0 s bad (by omega) hroom w hb
 have H := qh h
 clear hb
 go_enter Tryz.func57, Tryz.ntmps57
 go_wp2_with fail
 refine H.out.mono ?_
 rintro e w1 ⟨rfl, r1, b1⟩
 replace ct := r1.cellOf ct (by simp [hp])
 have c0 := b1.cell 0
 have c1 := b1.cell 1
 have c2 := b1.cell 2
 simp only [qgaq, qgzq, qgsq] at c0 c1 c2
 go_wp2_with fail
 refine wp_loop_rounds 1 ?_
 rw [rounds_succ]
 go_wp2_with fail
 refine bodyPost_end (results_none Tryz.results57 _ _ _) rfl ?_
 exact ⟨rfl, r1, b1⟩
theorem listExport_nil (b : Nat) (p : Addr) (fv : Value) (s : ByteArray) (bad : Bool) (hroom : s.size + 2 ≤ maxLen) (w : World) (hb : Wlk w b s bad) (ct : w.cell? p = some (.slice none 0 0)) (hp : p.block ≠ b) :
  Calls Tryz.prog 59 #[.pointer (some ⟨b, 0, none⟩), .pointer (some p), fv] w fun e w' => e = .returned (.tuple #[]) ∧ Wr [b] w w' ∧ Wlk w' b (bytesN s 0 2 2) bad := by
 have h := count_any b 0 s bad (by omega) hroom w hb
 have H := qh h
 clear hb
 go_enter Tryz.func59, Tryz.ntmps59
 go_wp2_with fail
 refine H.out.mono ?_
 rintro e w1 ⟨rfl, r1, b1⟩
 replace ct := r1.cellOf ct (by simp [hp])
 have c0 := b1.cell 0
 have c1 := b1.cell 1
 have c2 := b1.cell 2
 simp only [qgaq, qgzq, qgsq] at c0 c1 c2
 go_wp2_with fail
 refine wp_loop_rounds 1 ?_
 rw [rounds_succ]
 go_wp2_with fail
 refine bodyPost_end (results_none Tryz.results59 _ _ _) rfl ?_
 exact ⟨rfl, r1, b1⟩
def encB (m : ByteArray) : ByteArray := bytesN (bytesN (bytesN (textE ⟨#[]⟩ m) 0 2 2) 0 2 2) 0 2 2
theorem textE_size (s t : ByteArray) : (textE s t).size = s.size + 1 + t.size := by
 unfold textE
 rw [ByteArray.size_append, bytesN_size]
theorem encB_size (m : ByteArray) : (encB m).size = m.size + 7 := by
 unfold encB
 rw [bytesN_size, bytesN_size, bytesN_size, textE_size]
 show 0 + 1 + m.size + 2 + 2 + 2 = _
 omega
theorem ifaceW_bare (b g : Nat) (m : ByteArray) (hm : m.size ≤ 255) (bad : Bool) (hbg : g ≠ b) (w : World) (hb : Wlk w b ⟨#[]⟩ bad) (hg : Blk w g 35 #[.string m, .slice none 0 0, .slice none 0 0, .slice none 0 0]) :
  Calls Tryz.prog 29 #[.pointer (some ⟨b, 0, none⟩), .pointer (some ⟨g, 0, none⟩)] w fun e w' => e = .returned (.tuple #[]) ∧ Wr [b] w w' ∧ Wlk w' b (encB m) bad := by
 have hmf : ∀ (fn : Fn) (first cap : Array Value) (w : World), (Instr.makeFunc fn first cap).run Tryz.prog w = .ok (.func fn first cap) w := fun _ _ _ _ => rfl
 have h1 := fun w hb ct => text_any_w b ⟨g, 0, none⟩ ⟨#[]⟩ m bad hm (by unfold maxLen; show 0 + 1 + m.size ≤ _; omega) w hb ct hbg
 have h2 := fun fv s hr w hb ct => listUse_nil b ⟨g, 1, none⟩ fv s bad hr w hb ct hbg
 have h3 := fun fv s hr w hb ct => listType_nil b ⟨g, 2, none⟩ fv s bad hr w hb ct hbg
 have h4 := fun fv s hr w hb ct => listExport_nil b ⟨g, 3, none⟩ fv s bad hr w hb ct hbg
 have H1 := qh h1
 have H2 := qh h2
 have H3 := qh h3
 have H4 := qh h4
 clear h1 h2 h3 h4
 obtain ⟨w0, hw0⟩ : ∃ w0, w.alloc (.cells #[.pointer (some ⟨b, 0, none⟩)] 91) = w0 := ⟨_, rfl⟩
 obtain ⟨h, hh⟩ : ∃ h, w.heap.size = h := ⟨_, rfl⟩
 have ch : w0.cell? ⟨h, 0, none⟩ = some (.pointer (some ⟨b, 0, none⟩)) := by
  rw [← hw0, ← hh]
  have := (Blk.new w 91 #[.pointer (some ⟨b, 0, none⟩)]).cell 0
  simp
 have hhb : h ≠ b := by have := Blk.lt hb; omega
 have acc : Wr [b] w w0 := by rw [← hw0]; exact (Wr.refl _ _).alloc _
 replace hb : Wlk w0 b ⟨#[]⟩ bad := by rw [← hw0]; exact Blk.alloc hb _
 replace hg := hg.wr acc (by simp [hbg])
 have Hw0 := qh hw0
 have Hh := qh hh
 clear hw0 hh
 go_enter Tryz.func29, Tryz.ntmps29
 go_upto_region 1 with (fail)
 rw [Hw0.out, Hh.out]
 go_still_tail 4, (by kernel_rfl)
 change wpList _ _ _ _ _ w0.drew
 replace acc := acc.drew
 replace hb := Blk.drew hb
 replace hg := hg.drew
 replace ch : w0.drew.cell? ⟨h, 0, none⟩ = some (.pointer (some ⟨b, 0, none⟩)) := ch
 generalize w0.drew = wa at *
 have g0 := hg.cell 0
 simp only [qgaq, qgzq] at g0
 go_wp2_with fail
 refine (H1.out _ hb g0).mono ?_
 rintro e w1 ⟨rfl, r1, b1⟩
 replace acc := acc.trans r1
 replace ch := r1.cellOf ch (by simp [hhb])
 replace hg := hg.wr r1 (by simp [hbg])
 clear g0 hb r1
 go_wp2_with fail
 go_still_tail 5, (by kernel_rfl)
 change wpList _ _ _ _ _ w1.drew
 replace acc := acc.drew
 replace b1 := Blk.drew b1
 replace hg := hg.drew
 replace ch : w1.drew.cell? ⟨h, 0, none⟩ = some (.pointer (some ⟨b, 0, none⟩)) := ch
 generalize w1.drew = wa1 at *
 have g0 := hg.cell 1
 simp only [qgaq, qgzq, qgsq] at g0
 go_wp2_with fail
 refine (H2.out _ (textE ⟨#[]⟩ m) (by rw [textE_size]; unfold maxLen; show 0 + 1 + m.size + 2 ≤ _; omega) _ b1 g0).mono ?_
 rintro e w2 ⟨rfl, r1, b2⟩
 replace acc := acc.trans r1
 replace ch := r1.cellOf ch (by simp [hhb])
 replace hg := hg.wr r1 (by simp [hbg])
 clear g0 r1 b1
 go_wp2_with fail
 go_still_tail 6, (by kernel_rfl)
 change wpList _ _ _ _ _ w2.drew
 replace acc := acc.drew
 replace b2 := Blk.drew b2
 replace hg := hg.drew
 replace ch : w2.drew.cell? ⟨h, 0, none⟩ = some (.pointer (some ⟨b, 0, none⟩)) := ch
 generalize w2.drew = wa2 at *
 have g0 := hg.cell 2
 simp only [qgaq, qgzq, qgsq] at g0
 go_wp2_with fail
 refine (H3.out _ (bytesN (textE ⟨#[]⟩ m) 0 2 2) (by rw [bytesN_size, textE_size]; unfold maxLen; show 0 + 1 + m.size + 2 + 2 ≤ _; omega) _ b2 g0).mono ?_
 rintro e w3 ⟨rfl, r1, b3⟩
 replace acc := acc.trans r1
 replace ch := r1.cellOf ch (by simp [hhb])
 replace hg := hg.wr r1 (by simp [hbg])
 clear g0 r1 b2
 go_wp2_with fail
 go_still_tail 5, (by kernel_rfl)
 change wpList _ _ _ _ _ w3.drew
 replace acc := acc.drew
 replace b3 := Blk.drew b3
 replace hg := hg.drew
 replace ch : w3.drew.cell? ⟨h, 0, none⟩ = some (.pointer (some ⟨b, 0, none⟩)) := ch
 generalize w3.drew = wa3 at *
 have g0 := hg.cell 3
 simp only [qgaq, qgzq, qgsq] at g0
 go_wp2_with fail
 refine (H4.out _ (bytesN (bytesN (textE ⟨#[]⟩ m) 0 2 2) 0 2 2) (by rw [bytesN_size, bytesN_size, textE_size]; unfold maxLen; show 0 + 1 + m.size + 2 + 2 + 2 ≤ _; omega) _ b3 g0).mono ?_
 rintro e w4 ⟨rfl, r1, b4⟩
 replace acc := acc.trans r1
 replace ch := r1.cellOf ch (by simp [hhb])
 replace hg := hg.wr r1 (by simp [hbg])
 clear g0 r1 b3
 go_wp2_with fail
 refine bodyPost_end (results_none Tryz.results29 _ _ _) rfl ?_
 exact ⟨rfl, acc, b4⟩
theorem encode_bare (m : ByteArray) (hm : m.size ≤ 255) (w : World) :
  Calls Tryz.prog 19 #[.agg #[.string m, .slice none 0 0, .slice none 0 0, .slice none 0 0]] w fun e w' => e = .returned (.tuple #[.string (encB m), .int .i64 0]) ∧ Wr [] w w' := by
 have h1 := fun w => may_bare m hm w
 have h2 := fun w => clone_bare m w
 have h3 := fun b g hbg w hb hg => ifaceW_bare b g m hm false hbg w hb hg
 have H3 := qh h3
 clear h3
 obtain ⟨w0, hw0⟩ : ∃ w0, w.alloc (.cells #[.string m, .slice none 0 0, .slice none 0 0, .slice none 0 0] 35) = w0 := ⟨_, rfl⟩
 obtain ⟨g, hg⟩ : ∃ g, w.heap.size = g := ⟨_, rfl⟩
 have acc : Wr [] w w0 := by rw [← hw0]; exact (Wr.refl _ _).alloc _
 have bA : Blk w0 g 35 #[.string m, .slice none 0 0, .slice none 0 0, .slice none 0 0] := by rw [← hw0, ← hg]; exact Blk.new _ _ _
 have Hw0 := qh hw0
 have Hg := qh hg
 clear hw0 hg
 go_enter Tryz.func19, Tryz.ntmps19
 go_upto_region 1 with (fail)
 rw [Hw0.out, Hg.out]
 have c0 := bA.cell 0
 have c1 := bA.cell 1
 have c2 := bA.cell 2
 have c3 := bA.cell 3
 simp only [qgaq, qgzq, qgsq] at c0 c1 c2 c3
 have cz0 := bA.frozen 0
 have cz1 := bA.frozen 1
 have cz2 := bA.frozen 2
 have cz3 := bA.frozen 3
 go_wp2_with fail
 refine (h1 _).mono ?_
 rintro e w1 ⟨rfl, k1⟩
 replace acc := acc.trans k1
 replace bA := bA.wr0 k1
 clear c0 c1 c2 c3 cz0 cz1 cz2 cz3
 have c0 := bA.cell 0
 have c1 := bA.cell 1
 have c2 := bA.cell 2
 have c3 := bA.cell 3
 simp only [qgaq, qgzq, qgsq] at c0 c1 c2 c3
 have cz0 := bA.frozen 0
 have cz1 := bA.frozen 1
 have cz2 := bA.frozen 2
 have cz3 := bA.frozen 3
 go_upto_region 5 with (fail)
 obtain ⟨wp, hwp⟩ : ∃ wp, w1.alloc (.cells #[.string ⟨#[]⟩, .bool false, .bool false] 93) = wp := ⟨_, rfl⟩
 obtain ⟨b, hb⟩ : ∃ b, w1.heap.size = b := ⟨_, rfl⟩
 have bW : Wlk wp b ⟨#[]⟩ false := by rw [← hwp, ← hb]; exact Blk.new _ _ _
 have hgb : g < b := by have := bA.lt; omega
 replace acc : Wr [] w wp := by rw [← hwp]; exact acc.alloc _
 replace bA : Blk wp g 35 #[.string m, .slice none 0 0, .slice none 0 0, .slice none 0 0] := by rw [← hwp]; exact bA.alloc _
 have hwb : w.heap.size ≤ b := by have := Hg.out; omega
 have Hwp := qh hwp
 have Hb := qh hb
 clear hwp hb k1
 clear c0 c1 c2 c3 cz0 cz1 cz2 cz3
 rw [Hwp.out, Hb.out]
 have c0 := bA.cell 0
 have c1 := bA.cell 1
 have c2 := bA.cell 2
 have c3 := bA.cell 3
 simp only [qgaq, qgzq, qgsq] at c0 c1 c2 c3
 have cz0 := bA.frozen 0
 have cz1 := bA.frozen 1
 have cz2 := bA.frozen 2
 have cz3 := bA.frozen 3
 go_wp2_with fail
 refine (h2 _).mono ?_
 rintro e w2 ⟨rfl, k2⟩
 replace acc := acc.trans k2
 replace bA := bA.wr0 k2
 replace bW : Wlk w2 b ⟨#[]⟩ false := Blk.wr0 bW k2
 clear c0 c1 c2 c3 cz0 cz1 cz2 cz3
 have c0 := bA.cell 0
 have c1 := bA.cell 1
 have c2 := bA.cell 2
 have c3 := bA.cell 3
 simp only [qgaq, qgzq, qgsq] at c0 c1 c2 c3
 have cz0 := bA.frozen 0
 have cz1 := bA.frozen 1
 have cz2 := bA.frozen 2
 have cz3 := bA.frozen 3
 go_upto_region 6 with (fail)
 have r4 := wr4 w2 g (.string m) (.slice none 0 0) (.slice none 0 0) (.slice none 0 0)
 replace acc := acc.new r4 (by have := Hg.out; omega)
 replace bA := blk4 w2 g 35 _ _ _ _ (.string m) (.slice none 0 0) (.slice none 0 0) (.slice none 0 0) bA
 replace bW : Wlk _ b ⟨#[]⟩ false := Blk.wr bW r4 (by simp; omega)
 clear r4 k2
 clear c0 c1 c2 c3 cz0 cz1 cz2 cz3
 generalize ((((w2.setCell ⟨g, 0, none⟩ (.string m)).setCell ⟨g, 1, none⟩ (.slice none 0 0)).setCell ⟨g, 2, none⟩ (.slice none 0 0)).setCell ⟨g, 3, none⟩ (.slice none 0 0)) = w3 at *
 go_wp2_with fail
 refine (H3.out b g (by omega) _ bW bA).mono ?_
 rintro e w4 ⟨rfl, k4, bW4⟩
 replace acc := acc.new k4 hwb
 have c0 := Blk.cell bW4 0
 simp only [qgaq, qgzq] at c0
 go_wp2_with fail
 go_ret2
 exact ⟨rfl, acc⟩
theorem setCell_self {w : World} {a : Addr} {v : Value} (h : w.cell? a = some v) : w.setCell a v = w := by
 unfold World.cell? at h
 have e : (w.heap.modify a.block fun
   | .cells c elem frozen => .cells (if a.spot.isSome then c else c.setIfInBounds a.off v) elem frozen
   | o => o) = w.heap := by
  apply Array.ext_getElem?
  intro i
  rw [Array.getElem?_modify]
  by_cases hi : a.block = i
  ·subst hi
   rw [if_pos rfl]
   cases ho : w.heap[a.block]? with
   | none => rfl
   | some o =>
    rw [ho] at h
    cases o with
    | cells c t z =>
     simp only [Option.map_some, Option.some.injEq]
     by_cases hs : a.spot.isSome = true
     ·rw [if_pos hs]
     ·rw [if_neg hs]
      simp only [hs] at h
      congr 1
      apply Array.ext_getElem?
      intro j
      rw [Array.getElem?_setIfInBounds]
      by_cases hj : a.off = j
      ·subst hj
       rw [if_pos rfl]
       have := (Array.getElem?_eq_some_iff.1 h).1
       rw [if_pos this]
       exact h.symm
      ·rw [if_neg hj]
    | _ => rfl
  ·rw [if_neg hi]
 have k : ∀ h, h = w.heap → ({ w with heap := h } : World) = w := fun h e => by subst e; rfl
 exact k _ e
structure Own (w : World) (p : Addr) (v : Value) : Prop where
 cell : w.cell? p = some v
 frozen : w.frozen? p = false
theorem Own.keep {w w' : World} {p : Addr} {v : Value} {ls : List Nat} (h : Own w p v) (r : Wr ls w w') (hp : p.block ∉ ls) : Own w' p v := ⟨r.cellOf h.cell hp, r.frozenOf h.cell h.frozen hp⟩
theorem Own.lt {w : World} {p : Addr} {v : Value} (h : Own w p v) : p.block < w.heap.size := World.block_lt_of_cell? w p h.cell
def addL (s : ByteArray) (l : List UInt8) : ByteArray := ⟨s.data ++ l.toArray⟩
theorem addL_size (s : ByteArray) (l : List UInt8) : (addL s l).size = s.size + l.length := by
 show (s.data ++ l.toArray).size = s.data.size + l.length
 simp
theorem addL_nil (s : ByteArray) : addL s [] = s := by
 unfold addL
 simp
theorem addL_add (s : ByteArray) (l m : List UInt8) : addL (addL s l) m = addL s (l ++ m) := by
 unfold addL
 simp
theorem addL_str (s t : ByteArray) : s ++ t = addL s t.data.toList := by
 unfold addL
 rw [Array.toArray_toList]
 apply ByteArray.ext
 simp
theorem numL_at (n : Nat) : ∀ (k i : Nat), i < k → (numL n k)[i]? = some (UInt8.ofNat (n / 256 ^ (k - 1 - i) % 256))
 | 0, i, h => absurd h (by omega)
 | k + 1, 0, _ => by rw [numL, qgzq]; simp
 | k + 1, i + 1, h => by rw [numL, qgsq, numL_at n k i (by omega), show k + 1 - 1 - (i + 1) = k - 1 - i by omega]
theorem bytesN_take (s : ByteArray) (n size : Nat) : ∀ i, i ≤ size → bytesN s n size i = addL s ((numL n size).take i)
 | 0, _ => by rw [List.take_zero, addL_nil]; rfl
 | i + 1, h => by
  have hl : i < (numL n size).length := by rw [numL_len]; omega
  have e := numL_at n size i (by omega)
  rw [bytesN, bytesN_take s n size i (by omega), List.take_succ_eq_append_getElem hl, ← addL_add, addL_str]
  congr 1
  rw [qgeq hl] at e
  injection e with e
  rw [e]
  unfold byteN
  rw [show (256 : Nat) = 2 ^ 8 from rfl, ← Nat.pow_mul]
theorem bytesN_all (s : ByteArray) (n size : Nat) : bytesN s n size size = addL s (numL n size) := by
 rw [bytesN_take s n size size (Nat.le_refl _), List.take_of_length_le (by rw [numL_len]; exact Nat.le_refl _)]
theorem textE_all (s t : ByteArray) : textE s t = addL s (textL t) := by
 unfold textE textL
 rw [bytesN_all, addL_str, addL_add]
def EncQ (b : Nat) (s : ByteArray) (l : List UInt8) (bad : Bool) (w : World) (e : Ending) (w' : World) : Prop := e = .returned (.tuple #[]) ∧ Wr [b] w w' ∧ Wlk w' b (addL s l) bad
theorem EncQ.then {b : Nat} {s : ByteArray} {l m : List UInt8} {bad : Bool} {w w1 w2 : World} {e : Ending} (r : Wr [b] w w1) (h : EncQ b (addL s l) m bad w1 e w2) : EncQ b s (l ++ m) bad w e w2 :=
 ⟨h.1, r.trans h.2.1, by rw [← addL_add]; exact h.2.2⟩
end Go.Proofs.YtjanbpchedgoiaaGreat
