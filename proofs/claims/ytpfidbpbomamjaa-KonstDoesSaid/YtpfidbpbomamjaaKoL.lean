/- Look, same: walked. No conditions but that the value is one that Go has. -/
import Derived.Test.YtpfidbpbomamjaaKoS
namespace Go.Proofs.Ytpfidbpbomamjaa
open Go.RowKit
set_option linter.unusedVariables false

/-- A document's value, as a struct. -/
def refV (x : KV) : Value := .agg #[.int .i64 x.sort, .int .i64 x.n, .string x.s, .int .i64 x.t]
def emptyS : ByteArray := ⟨#[]⟩
/-- What a value is, told by the document's words. -/
def KV.look (x : KV) : KV :=
  if x.sort = 1 then (bif inB x.n then ⟨1, x.n, 0, emptyS⟩ else ⟨0, 0, 0, emptyS⟩) else if x.sort = 2 then ⟨2, x.n, 0, emptyS⟩ else if x.sort = 3 then ⟨3, bif x.tru then 1 else 0, 0, emptyS⟩ else if x.sort = 4 then ⟨4, x.n, 0, emptyS⟩
  else if x.sort = 5 then ⟨5, 0, 0, x.s⟩ else if x.sort = 6 then ⟨6, x.n, x.t, emptyS⟩ else if x.sort = 7 then ⟨7, 0, 0, emptyS⟩ else ⟨0, 0, 0, emptyS⟩

set_option maxHeartbeats 1000000 in
theorem look_1n (x : KV) (i1 : x.is 1 = true) (g : x.num 1 < -32768) (w : World) :
    Calls Try.prog 17 #[x.val] w fun e w' => e = .returned (.agg #[.int .i64 0, .int .i64 0, .string emptyS, .int .i64 0]) ∧ Wr [] w w' := by
  have a1 := fun w => as_whole x w
  rw [i1] at a1
  clear i1
  generalize x.val = V at a1 ⊢
  generalize x.num 1 = v1 at a1 g
  try unfold emptyS
  go_enter Try.func17, Try.ntmps17
  go_wp2_with fail
  refine bodyPost_ret (v := .agg #[.int .i64 0, .int .i64 0, .string ⟨#[]⟩, .int .i64 0]) ?_ rfl ⟨rfl, (Wr.refl [] w).alloc _⟩
  simp [results, Try.results17, go_sem]
set_option maxHeartbeats 1000000 in
theorem look_1p (x : KV) (i1 : x.is 1 = true) (g : ¬x.num 1 < -32768) (g2 : 65535 < x.num 1) (w : World) :
    Calls Try.prog 17 #[x.val] w fun e w' => e = .returned (.agg #[.int .i64 0, .int .i64 0, .string emptyS, .int .i64 0]) ∧ Wr [] w w' := by
  have a1 := fun w => as_whole x w
  rw [i1] at a1
  clear i1
  generalize x.val = V at a1 ⊢
  generalize x.num 1 = v1 at a1 g g2
  try unfold emptyS
  go_enter Try.func17, Try.ntmps17
  go_wp2_with fail
  refine bodyPost_ret (v := .agg #[.int .i64 0, .int .i64 0, .string ⟨#[]⟩, .int .i64 0]) ?_ rfl ⟨rfl, (Wr.refl [] w).alloc _⟩
  simp [results, Try.results17, go_sem]
set_option maxHeartbeats 1000000 in
theorem look_1 (x : KV) (i1 : x.is 1 = true) (g : ¬x.num 1 < -32768) (g2 : ¬65535 < x.num 1) (w : World) :
    Calls Try.prog 17 #[x.val] w fun e w' => e = .returned (.agg #[.int .i64 1, .int .i64 (x.num 1), .string emptyS, .int .i64 0]) ∧ Wr [] w w' := by
  have a1 := fun w => as_whole x w
  rw [i1] at a1
  clear i1
  generalize x.val = V at a1 ⊢
  generalize x.num 1 = v1 at a1 g g2 ⊢
  try unfold emptyS
  go_enter Try.func17, Try.ntmps17
  go_wp2_with fail
  refine bodyPost_ret (v := .agg #[.int .i64 1, .int .i64 v1, .string ⟨#[]⟩, .int .i64 0]) ?_ rfl ⟨rfl, (Wr.refl [] w).alloc _⟩
  simp [results, Try.results17, go_sem]
set_option maxHeartbeats 1000000 in
theorem look_2 (x : KV) (i1 : x.is 1 = false) (i2 : x.is 2 = true) (g : 0 ≤ x.num 2 ∧ x.num 2 ≤ 255) (w : World) :
    Calls Try.prog 17 #[x.val] w fun e w' => e = .returned (.agg #[.int .i64 2, .int .i64 (x.num 2), .string emptyS, .int .i64 0]) ∧ Wr [] w w' := by
  have a1 := fun w => as_whole x w
  rw [i1] at a1
  have a2 := fun w => as_letter x w
  rw [i2] at a2
  clear i1 i2
  generalize x.val = V at a1 a2 ⊢
  generalize x.num 1 = v1 at a1
  generalize x.num 2 = v2 at a2 g ⊢
  try unfold emptyS
  go_enter Try.func17, Try.ntmps17
  go_wp2_with fail
  refine bodyPost_ret (v := .agg #[.int .i64 2, .int .i64 v2, .string ⟨#[]⟩, .int .i64 0]) ?_ rfl ⟨rfl, (Wr.refl [] w).alloc _⟩
  simp [results, Try.results17, go_sem]
set_option maxHeartbeats 1000000 in
theorem look_3t (x : KV) (i1 : x.is 1 = false) (i2 : x.is 2 = false) (i3 : x.is 3 = true) (g : x.tru = true) (w : World) :
    Calls Try.prog 17 #[x.val] w fun e w' => e = .returned (.agg #[.int .i64 3, .int .i64 1, .string emptyS, .int .i64 0]) ∧ Wr [] w w' := by
  have a1 := fun w => as_whole x w
  rw [i1] at a1
  have a2 := fun w => as_letter x w
  rw [i2] at a2
  have a3 := fun w => as_truth x w
  rw [i3] at a3
  clear i1 i2 i3
  generalize x.val = V at a1 a2 a3 ⊢
  rw [g] at a3
  clear g
  generalize x.num 1 = v1 at a1
  generalize x.num 2 = v2 at a2
  try unfold emptyS
  go_enter Try.func17, Try.ntmps17
  go_wp2_with fail
  refine bodyPost_ret (v := .agg #[.int .i64 3, .int .i64 1, .string ⟨#[]⟩, .int .i64 0]) ?_ rfl ⟨rfl, (Wr.refl [] w).alloc _⟩
  simp [results, Try.results17, go_sem]
set_option maxHeartbeats 1000000 in
theorem look_3f (x : KV) (i1 : x.is 1 = false) (i2 : x.is 2 = false) (i3 : x.is 3 = true) (g : x.tru = false) (w : World) :
    Calls Try.prog 17 #[x.val] w fun e w' => e = .returned (.agg #[.int .i64 3, .int .i64 0, .string emptyS, .int .i64 0]) ∧ Wr [] w w' := by
  have a1 := fun w => as_whole x w
  rw [i1] at a1
  have a2 := fun w => as_letter x w
  rw [i2] at a2
  have a3 := fun w => as_truth x w
  rw [i3] at a3
  clear i1 i2 i3
  generalize x.val = V at a1 a2 a3 ⊢
  rw [g] at a3
  clear g
  generalize x.num 1 = v1 at a1
  generalize x.num 2 = v2 at a2
  try unfold emptyS
  go_enter Try.func17, Try.ntmps17
  go_wp2_with fail
  refine bodyPost_ret (v := .agg #[.int .i64 3, .int .i64 0, .string ⟨#[]⟩, .int .i64 0]) ?_ rfl ⟨rfl, (Wr.refl [] w).alloc _⟩
  simp [results, Try.results17, go_sem]
set_option maxHeartbeats 1000000 in
theorem look_4 (x : KV) (i1 : x.is 1 = false) (i2 : x.is 2 = false) (i3 : x.is 3 = false) (i4 : x.is 4 = true) (g : 0 ≤ x.num 4 ∧ x.num 4 ≤ 65535) (w : World) :
    Calls Try.prog 17 #[x.val] w fun e w' => e = .returned (.agg #[.int .i64 4, .int .i64 (x.num 4), .string emptyS, .int .i64 0]) ∧ Wr [] w w' := by
  have a1 := fun w => as_whole x w
  rw [i1] at a1
  have a2 := fun w => as_letter x w
  rw [i2] at a2
  have a3 := fun w => as_truth x w
  rw [i3] at a3
  have a4 := fun w => as_bits x w
  rw [i4] at a4
  clear i1 i2 i3 i4
  generalize x.val = V at a1 a2 a3 a4 ⊢
  generalize x.num 1 = v1 at a1
  generalize x.num 2 = v2 at a2
  generalize x.tru = v3 at a3
  generalize x.num 4 = v4 at a4 g ⊢
  try unfold emptyS
  go_enter Try.func17, Try.ntmps17
  go_wp2_with fail
  refine bodyPost_ret (v := .agg #[.int .i64 4, .int .i64 v4, .string ⟨#[]⟩, .int .i64 0]) ?_ rfl ⟨rfl, (Wr.refl [] w).alloc _⟩
  simp [results, Try.results17, go_sem]
set_option maxHeartbeats 1000000 in
theorem look_5 (x : KV) (i1 : x.is 1 = false) (i2 : x.is 2 = false) (i3 : x.is 3 = false) (i4 : x.is 4 = false) (i5 : x.is 5 = true)  (w : World) :
    Calls Try.prog 17 #[x.val] w fun e w' => e = .returned (.agg #[.int .i64 5, .int .i64 0, .string x.str, .int .i64 0]) ∧ Wr [] w w' := by
  have a1 := fun w => as_whole x w
  rw [i1] at a1
  have a2 := fun w => as_letter x w
  rw [i2] at a2
  have a3 := fun w => as_truth x w
  rw [i3] at a3
  have a4 := fun w => as_bits x w
  rw [i4] at a4
  have a5 := fun w => as_string x w
  rw [i5] at a5
  clear i1 i2 i3 i4 i5
  generalize x.val = V at a1 a2 a3 a4 a5 ⊢
  generalize x.num 1 = v1 at a1
  generalize x.num 2 = v2 at a2
  generalize x.tru = v3 at a3
  generalize x.num 4 = v4 at a4
  generalize x.str = v5 at a5 ⊢
  try unfold emptyS
  go_enter Try.func17, Try.ntmps17
  go_wp2_with fail
  refine bodyPost_ret (v := .agg #[.int .i64 5, .int .i64 0, .string v5, .int .i64 0]) ?_ rfl ⟨rfl, (Wr.refl [] w).alloc _⟩
  simp [results, Try.results17, go_sem]
set_option maxHeartbeats 1000000 in
theorem look_6 (x : KV) (i1 : x.is 1 = false) (i2 : x.is 2 = false) (i3 : x.is 3 = false) (i4 : x.is 4 = false) (i5 : x.is 5 = false) (i6 : x.is 6 = true)  (w : World) :
    Calls Try.prog 17 #[x.val] w fun e w' => e = .returned (.agg #[.int .i64 6, .int .i64 (x.num 6), .string emptyS, .int .i64 x.typ]) ∧ Wr [] w w' := by
  have a1 := fun w => as_whole x w
  rw [i1] at a1
  have a2 := fun w => as_letter x w
  rw [i2] at a2
  have a3 := fun w => as_truth x w
  rw [i3] at a3
  have a4 := fun w => as_bits x w
  rw [i4] at a4
  have a5 := fun w => as_string x w
  rw [i5] at a5
  have a6 := fun w => as_item x w
  rw [i6] at a6
  clear i1 i2 i3 i4 i5 i6
  generalize x.val = V at a1 a2 a3 a4 a5 a6 ⊢
  generalize x.num 1 = v1 at a1
  generalize x.num 2 = v2 at a2
  generalize x.tru = v3 at a3
  generalize x.num 4 = v4 at a4
  generalize x.str = v5 at a5
  generalize x.num 6 = v6 at a6 ⊢
  generalize x.typ = ty at a6 ⊢
  try unfold emptyS
  go_enter Try.func17, Try.ntmps17
  go_wp2_with fail
  refine bodyPost_ret (v := .agg #[.int .i64 6, .int .i64 v6, .string ⟨#[]⟩, .int .i64 ty]) ?_ rfl ⟨rfl, ((Wr.refl [] w).alloc _).alloc _⟩
  simp [results, Try.results17, go_sem]
set_option maxHeartbeats 1000000 in
theorem look_7 (x : KV) (i1 : x.is 1 = false) (i2 : x.is 2 = false) (i3 : x.is 3 = false) (i4 : x.is 4 = false) (i5 : x.is 5 = false) (i6 : x.is 6 = false) (i7 : x.is 7 = true)  (w : World) :
    Calls Try.prog 17 #[x.val] w fun e w' => e = .returned (.agg #[.int .i64 7, .int .i64 0, .string emptyS, .int .i64 0]) ∧ Wr [] w w' := by
  have a1 := fun w => as_whole x w
  rw [i1] at a1
  have a2 := fun w => as_letter x w
  rw [i2] at a2
  have a3 := fun w => as_truth x w
  rw [i3] at a3
  have a4 := fun w => as_bits x w
  rw [i4] at a4
  have a5 := fun w => as_string x w
  rw [i5] at a5
  have a6 := fun w => as_item x w
  rw [i6] at a6
  have a7 := fun w => as_null x w
  rw [i7] at a7
  clear i1 i2 i3 i4 i5 i6 i7
  generalize x.val = V at a1 a2 a3 a4 a5 a6 a7 ⊢
  generalize x.num 1 = v1 at a1
  generalize x.num 2 = v2 at a2
  generalize x.tru = v3 at a3
  generalize x.num 4 = v4 at a4
  generalize x.str = v5 at a5
  generalize x.num 6 = v6 at a6
  generalize x.typ = ty at a6
  try unfold emptyS
  go_enter Try.func17, Try.ntmps17
  go_wp2_with fail
  refine bodyPost_ret (v := .agg #[.int .i64 7, .int .i64 0, .string ⟨#[]⟩, .int .i64 0]) ?_ rfl ⟨rfl, ((Wr.refl [] w).alloc _).alloc _⟩
  simp [results, Try.results17, go_sem]
set_option maxHeartbeats 1000000 in
theorem look_0 (x : KV) (i1 : x.is 1 = false) (i2 : x.is 2 = false) (i3 : x.is 3 = false) (i4 : x.is 4 = false) (i5 : x.is 5 = false) (i6 : x.is 6 = false) (i7 : x.is 7 = false)  (w : World) :
    Calls Try.prog 17 #[x.val] w fun e w' => e = .returned (.agg #[.int .i64 0, .int .i64 0, .string emptyS, .int .i64 0]) ∧ Wr [] w w' := by
  have a1 := fun w => as_whole x w
  rw [i1] at a1
  have a2 := fun w => as_letter x w
  rw [i2] at a2
  have a3 := fun w => as_truth x w
  rw [i3] at a3
  have a4 := fun w => as_bits x w
  rw [i4] at a4
  have a5 := fun w => as_string x w
  rw [i5] at a5
  have a6 := fun w => as_item x w
  rw [i6] at a6
  have a7 := fun w => as_null x w
  rw [i7] at a7
  clear i1 i2 i3 i4 i5 i6 i7
  generalize x.val = V at a1 a2 a3 a4 a5 a6 a7 ⊢
  generalize x.num 1 = v1 at a1
  generalize x.num 2 = v2 at a2
  generalize x.tru = v3 at a3
  generalize x.num 4 = v4 at a4
  generalize x.str = v5 at a5
  generalize x.num 6 = v6 at a6
  generalize x.typ = ty at a6
  try unfold emptyS
  go_enter Try.func17, Try.ntmps17
  go_wp2_with fail
  refine bodyPost_ret (v := .agg #[.int .i64 0, .int .i64 0, .string ⟨#[]⟩, .int .i64 0]) ?_ rfl ⟨rfl, ((Wr.refl [] w).alloc _).alloc _⟩
  simp [results, Try.results17, go_sem]

theorem look_any (x : KV) (hx : x.ok) (w : World) :
    Calls Try.prog 17 #[x.val] w fun e w' => e = .returned (refV x.look) ∧ Wr [] w w' := by
  have I : ∀ k, x.sort ≠ k → x.is k = false := fun k h => by simp [KV.is, h]
  have J : ∀ k, x.sort = k → x.is k = true := fun k h => by simp [KV.is, h]
  by_cases h1 : x.sort = 1
  · have hn : x.num 1 = x.n := by simp [KV.num, h1]
    by_cases g : x.n < -32768
    · have hi : inB x.n = false := by simp [inB]; omega
      have hv : refV x.look = .agg #[.int .i64 0, .int .i64 0, .string emptyS, .int .i64 0] := by simp [refV, KV.look, h1, hi]
      rw [hv]
      exact look_1n x (J 1 h1) (by rw [hn]; exact g) w
    by_cases g2 : 65535 < x.n
    · have hi : inB x.n = false := by simp [inB]; omega
      have hv : refV x.look = .agg #[.int .i64 0, .int .i64 0, .string emptyS, .int .i64 0] := by simp [refV, KV.look, h1, hi]
      rw [hv]
      exact look_1p x (J 1 h1) (by rw [hn]; exact g) (by rw [hn]; exact g2) w
    · have hi : inB x.n = true := inB_yes (by omega) (by omega)
      have hv : refV x.look = .agg #[.int .i64 1, .int .i64 (x.num 1), .string emptyS, .int .i64 0] := by simp [refV, KV.look, h1, hi, hn]
      rw [hv]
      exact look_1 x (J 1 h1) (by rw [hn]; exact g) (by rw [hn]; exact g2) w
  by_cases h2 : x.sort = 2
  · have hn : x.num 2 = x.n := by simp [KV.num, h2]
    have hv : refV x.look = .agg #[.int .i64 2, .int .i64 (x.num 2), .string emptyS, .int .i64 0] := by simp [refV, KV.look, h2, hn]
    rw [hv]
    exact look_2 x (I 1 h1) (J 2 h2) (by rw [hn]; exact hx.2.1 h2) w
  by_cases h3 : x.sort = 3
  · cases ht : x.tru with
    | true =>
      have hv : refV x.look = .agg #[.int .i64 3, .int .i64 1, .string emptyS, .int .i64 0] := by simp [refV, KV.look, h3, ht]
      rw [hv]
      exact look_3t x (I 1 h1) (I 2 h2) (J 3 h3) ht w
    | false =>
      have hv : refV x.look = .agg #[.int .i64 3, .int .i64 0, .string emptyS, .int .i64 0] := by simp [refV, KV.look, h3, ht]
      rw [hv]
      exact look_3f x (I 1 h1) (I 2 h2) (J 3 h3) ht w
  by_cases h4 : x.sort = 4
  · have hn : x.num 4 = x.n := by simp [KV.num, h4]
    have hv : refV x.look = .agg #[.int .i64 4, .int .i64 (x.num 4), .string emptyS, .int .i64 0] := by simp [refV, KV.look, h4, hn]
    rw [hv]
    exact look_4 x (I 1 h1) (I 2 h2) (I 3 h3) (J 4 h4) (by rw [hn]; exact hx.2.2.2.1 h4) w
  by_cases h5 : x.sort = 5
  · have hn : x.str = x.s := by simp [KV.str, h5]
    have hv : refV x.look = .agg #[.int .i64 5, .int .i64 0, .string x.str, .int .i64 0] := by simp [refV, KV.look, h5, hn]
    rw [hv]
    exact look_5 x (I 1 h1) (I 2 h2) (I 3 h3) (I 4 h4) (J 5 h5) w
  by_cases h6 : x.sort = 6
  · have hn : x.num 6 = x.n := by simp [KV.num, h6]
    have hv : refV x.look = .agg #[.int .i64 6, .int .i64 (x.num 6), .string emptyS, .int .i64 x.typ] := by simp [refV, KV.look, h6, hn, KV.typ]
    rw [hv]
    exact look_6 x (I 1 h1) (I 2 h2) (I 3 h3) (I 4 h4) (I 5 h5) (J 6 h6) w
  by_cases h7 : x.sort = 7
  · have hv : refV x.look = .agg #[.int .i64 7, .int .i64 0, .string emptyS, .int .i64 0] := by simp [refV, KV.look, h7]
    rw [hv]
    exact look_7 x (I 1 h1) (I 2 h2) (I 3 h3) (I 4 h4) (I 5 h5) (I 6 h6) (J 7 h7) w
  have hv : refV x.look = .agg #[.int .i64 0, .int .i64 0, .string emptyS, .int .i64 0] := by simp [refV, KV.look, h1, h2, h3, h4, h5, h6, h7]
  rw [hv]
  exact look_0 x (I 1 h1) (I 2 h2) (I 3 h3) (I 4 h4) (I 5 h5) (I 6 h6) (I 7 h7) w

end Go.Proofs.Ytpfidbpbomamjaa
