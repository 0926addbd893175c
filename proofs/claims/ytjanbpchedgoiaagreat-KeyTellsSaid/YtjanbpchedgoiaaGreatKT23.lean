/- ref 14's value: walked. Conditions: the value may be. -/
import Derived.Test.YtjanbpchedgoiaaGreatKT16
import Derived.Test.YtjanbpchedgoiaaGreatKT14
import Derived.Test.YtjanbpchedgoiaaGreatKT22
set_option linter.unusedVariables false
set_option linter.unusedSimpArgs false
set_option maxRecDepth 100000
set_option maxHeartbeats 32000000
namespace Go.Proofs.YtjanbpchedgoiaaGreat
open Go.RowKit
theorem rvalue_nil (w : World) : Calls Tryz.prog 38 #[.agg #[.int .u8 0, .int .i64 0, .int .i64 0, .string ⟨#[]⟩]] w (BytR (anyL (.nil)) w) := by
 have acc := (Wr.refl [] w).alloc (.cells #[.int .u8 0, .int .i64 0, .int .i64 0, .string ⟨#[]⟩] 54)
 have bA := Blk.new w 54 #[.int .u8 0, .int .i64 0, .int .i64 0, .string ⟨#[]⟩]
 obtain ⟨w0, hw0⟩ : ∃ q, w.alloc (.cells #[.int .u8 0, .int .i64 0, .int .i64 0, .string ⟨#[]⟩] 54) = q := ⟨_, rfl⟩
 obtain ⟨g, hg⟩ : ∃ q, w.heap.size = q := ⟨_, rfl⟩
 rw [hw0] at acc bA
 rw [hg] at bA
 have s0 := PSt.byte w0 0 (by decide) (by decide)
 have S0 := qh s0
 have ACC := qh acc
 have HW0 := qh hw0
 have HG := qh hg
 have c0 := bA.cell 0
 have c1 := bA.cell 1
 have c2 := bA.cell 2
 have c3 := bA.cell 3
 simp only [qgaq, qgzq, qgsq] at c0 c1 c2 c3
 have C0 := qh c0
 have C1 := qh c1
 have C2 := qh c2
 have C3 := qh c3
 clear acc bA hw0 hg s0 c1 c2 c3
 go_enter Tryz.func38, Tryz.ntmps38
 go_upto_region 1 with (fail)
 rw [HG.out, HW0.out]
 go_upto_region 2 with (fail)
 have d0 := S0.out.cell C0.out
 have d1 := S0.out.cell C1.out
 have d2 := S0.out.cell C2.out
 have d3 := S0.out.cell C3.out
 generalize w0.alloc (.cells #[.int .u8 0] 5) = wa at *
 generalize w0.heap.size = z at *
 clear c0
 go_wp2_with fail
 go_ret
 obtain ⟨h1, h2⟩ := S0.out.done ACC.out
 exact ⟨_, rfl, h1, h2⟩
theorem rvalue_whole (n : Int) (hn : smB n = true) (w : World) : Calls Tryz.prog 38 #[.agg #[.int .u8 1, .int .i64 n, .int .i64 0, .string ⟨#[]⟩]] w (BytR (anyL (.whole n)) w) := by
 have acc := (Wr.refl [] w).alloc (.cells #[.int .u8 1, .int .i64 n, .int .i64 0, .string ⟨#[]⟩] 54)
 have bA := Blk.new w 54 #[.int .u8 1, .int .i64 n, .int .i64 0, .string ⟨#[]⟩]
 obtain ⟨w0, hw0⟩ : ∃ q, w.alloc (.cells #[.int .u8 1, .int .i64 n, .int .i64 0, .string ⟨#[]⟩] 54) = q := ⟨_, rfl⟩
 obtain ⟨g, hg⟩ : ∃ q, w.heap.size = q := ⟨_, rfl⟩
 rw [hw0] at acc bA
 rw [hg] at bA
 have s0 := PSt.byte w0 1 (by decide) (by decide)
 have S0 := qh s0
 have ACC := qh acc
 have HW0 := qh hw0
 have HG := qh hg
 have c0 := bA.cell 0
 have c1 := bA.cell 1
 have c2 := bA.cell 2
 have c3 := bA.cell 3
 simp only [qgaq, qgzq, qgsq] at c0 c1 c2 c3
 have C0 := qh c0
 have C1 := qh c1
 have C2 := qh c2
 have C3 := qh c3
 clear acc bA hw0 hg s0 c1 c2 c3
 go_enter Tryz.func38, Tryz.ntmps38
 go_upto_region 1 with (fail)
 rw [HG.out, HW0.out]
 go_upto_region 2 with (fail)
 have d0 := S0.out.cell C0.out
 have d1 := S0.out.cell C1.out
 have d2 := S0.out.cell C2.out
 have d3 := S0.out.cell C3.out
 generalize w0.alloc (.cells #[.int .u8 1] 5) = wa at *
 generalize w0.heap.size = z at *
 clear c0
 go_wp2_with fail
 refine (four_b n hn _).mono ?_
 rintro e n1 ⟨u1, rfl, b1, r1⟩
 obtain ⟨v1, x1, hrun, s1⟩ := PSt.add S0.out r1 b1 (by simp only [qlaq, numL_len, text_len, four_len, tru_len]; omega)
 have S1 := qh s1
 have HRUN := qh hrun
 clear s1 hrun b1 r1
 go_wp2_with (at_builtin; refine wpList_append_run rfl _ _ _ rfl _ _ rfl rfl _ _ HRUN.out ?_)
 clear HRUN
 go_ret
 obtain ⟨h1, h2⟩ := S1.out.done ACC.out
 exact ⟨_, rfl, h1, h2⟩
theorem rvalue_letter (n : Int) (hn : 0 ≤ n ∧ n ≤ 255) (w : World) : Calls Tryz.prog 38 #[.agg #[.int .u8 2, .int .i64 n, .int .i64 0, .string ⟨#[]⟩]] w (BytR (anyL (.letter n)) w) := by
 have acc := (Wr.refl [] w).alloc (.cells #[.int .u8 2, .int .i64 n, .int .i64 0, .string ⟨#[]⟩] 54)
 have bA := Blk.new w 54 #[.int .u8 2, .int .i64 n, .int .i64 0, .string ⟨#[]⟩]
 obtain ⟨w0, hw0⟩ : ∃ q, w.alloc (.cells #[.int .u8 2, .int .i64 n, .int .i64 0, .string ⟨#[]⟩] 54) = q := ⟨_, rfl⟩
 obtain ⟨g, hg⟩ : ∃ q, w.heap.size = q := ⟨_, rfl⟩
 rw [hw0] at acc bA
 rw [hg] at bA
 have s0 := PSt.byte w0 2 (by decide) (by decide)
 have S0 := qh s0
 have ACC := qh acc
 have HW0 := qh hw0
 have HG := qh hg
 have c0 := bA.cell 0
 have c1 := bA.cell 1
 have c2 := bA.cell 2
 have c3 := bA.cell 3
 simp only [qgaq, qgzq, qgsq] at c0 c1 c2 c3
 have C0 := qh c0
 have C1 := qh c1
 have C2 := qh c2
 have C3 := qh c3
 clear acc bA hw0 hg s0 c1 c2 c3
 have qn : IntKind.u8.wrap n = n := by rw [IntKind.wrap_u8]; omega
 go_enter Tryz.func38, Tryz.ntmps38
 go_upto_region 1 with (fail)
 rw [HG.out, HW0.out]
 go_upto_region 2 with (fail)
 have d0 := S0.out.cell C0.out
 have d1 := S0.out.cell C1.out
 have d2 := S0.out.cell C2.out
 have d3 := S0.out.cell C3.out
 generalize w0.alloc (.cells #[.int .u8 2] 5) = wa at *
 generalize w0.heap.size = z at *
 clear c0
 obtain ⟨v1, x1, hrun, s1, _⟩ := S0.out.one n hn.1 hn.2 (by rw [numL_len]; decide)
 have S1 := qh s1
 have HRUN := qh hrun
 clear s1 hrun
 go_wp2_with (at_builtin; refine wpList_append_run rfl _ _ _ rfl _ _ rfl rfl _ _ HRUN.out ?_)
 go_ret
 obtain ⟨h1, h2⟩ := S1.out.done ACC.out
 exact ⟨_, rfl, h1, h2⟩
theorem rvalue_truth_false (w : World) : Calls Tryz.prog 38 #[.agg #[.int .u8 3, .int .i64 0, .int .i64 0, .string ⟨#[]⟩]] w (BytR (anyL (.truth false)) w) := by
 have acc := (Wr.refl [] w).alloc (.cells #[.int .u8 3, .int .i64 0, .int .i64 0, .string ⟨#[]⟩] 54)
 have bA := Blk.new w 54 #[.int .u8 3, .int .i64 0, .int .i64 0, .string ⟨#[]⟩]
 obtain ⟨w0, hw0⟩ : ∃ q, w.alloc (.cells #[.int .u8 3, .int .i64 0, .int .i64 0, .string ⟨#[]⟩] 54) = q := ⟨_, rfl⟩
 obtain ⟨g, hg⟩ : ∃ q, w.heap.size = q := ⟨_, rfl⟩
 rw [hw0] at acc bA
 rw [hg] at bA
 have s0 := PSt.byte w0 3 (by decide) (by decide)
 have S0 := qh s0
 have ACC := qh acc
 have HW0 := qh hw0
 have HG := qh hg
 have c0 := bA.cell 0
 have c1 := bA.cell 1
 have c2 := bA.cell 2
 have c3 := bA.cell 3
 simp only [qgaq, qgzq, qgsq] at c0 c1 c2 c3
 have C0 := qh c0
 have C1 := qh c1
 have C2 := qh c2
 have C3 := qh c3
 clear acc bA hw0 hg s0 c1 c2 c3
 go_enter Tryz.func38, Tryz.ntmps38
 go_upto_region 1 with (fail)
 rw [HG.out, HW0.out]
 go_upto_region 2 with (fail)
 have d0 := S0.out.cell C0.out
 have d1 := S0.out.cell C1.out
 have d2 := S0.out.cell C2.out
 have d3 := S0.out.cell C3.out
 generalize w0.alloc (.cells #[.int .u8 3] 5) = wa at *
 generalize w0.heap.size = z at *
 clear c0
 obtain ⟨v1, x1, hrun, s1, _⟩ := S0.out.one 0 (by decide) (by decide) (by rw [numL_len]; decide)
 have S1 := qh s1
 have HRUN := qh hrun
 clear s1 hrun
 go_wp2_with (at_builtin; refine wpList_append_run rfl _ _ _ rfl _ _ rfl rfl _ _ HRUN.out ?_)
 go_ret
 obtain ⟨h1, h2⟩ := S1.out.done ACC.out
 exact ⟨_, rfl, h1, h2⟩
theorem rvalue_truth_true (w : World) : Calls Tryz.prog 38 #[.agg #[.int .u8 3, .int .i64 1, .int .i64 0, .string ⟨#[]⟩]] w (BytR (anyL (.truth true)) w) := by
 have acc := (Wr.refl [] w).alloc (.cells #[.int .u8 3, .int .i64 1, .int .i64 0, .string ⟨#[]⟩] 54)
 have bA := Blk.new w 54 #[.int .u8 3, .int .i64 1, .int .i64 0, .string ⟨#[]⟩]
 obtain ⟨w0, hw0⟩ : ∃ q, w.alloc (.cells #[.int .u8 3, .int .i64 1, .int .i64 0, .string ⟨#[]⟩] 54) = q := ⟨_, rfl⟩
 obtain ⟨g, hg⟩ : ∃ q, w.heap.size = q := ⟨_, rfl⟩
 rw [hw0] at acc bA
 rw [hg] at bA
 have s0 := PSt.byte w0 3 (by decide) (by decide)
 have S0 := qh s0
 have ACC := qh acc
 have HW0 := qh hw0
 have HG := qh hg
 have c0 := bA.cell 0
 have c1 := bA.cell 1
 have c2 := bA.cell 2
 have c3 := bA.cell 3
 simp only [qgaq, qgzq, qgsq] at c0 c1 c2 c3
 have C0 := qh c0
 have C1 := qh c1
 have C2 := qh c2
 have C3 := qh c3
 clear acc bA hw0 hg s0 c1 c2 c3
 go_enter Tryz.func38, Tryz.ntmps38
 go_upto_region 1 with (fail)
 rw [HG.out, HW0.out]
 go_upto_region 2 with (fail)
 have d0 := S0.out.cell C0.out
 have d1 := S0.out.cell C1.out
 have d2 := S0.out.cell C2.out
 have d3 := S0.out.cell C3.out
 generalize w0.alloc (.cells #[.int .u8 3] 5) = wa at *
 generalize w0.heap.size = z at *
 clear c0
 obtain ⟨v1, x1, hrun, s1, _⟩ := S0.out.one 1 (by decide) (by decide) (by rw [numL_len]; decide)
 have S1 := qh s1
 have HRUN := qh hrun
 clear s1 hrun
 go_wp2_with (at_builtin; refine wpList_append_run rfl _ _ _ rfl _ _ rfl rfl _ _ HRUN.out ?_)
 go_ret
 obtain ⟨h1, h2⟩ := S1.out.done ACC.out
 exact ⟨_, rfl, h1, h2⟩
theorem rvalue_bits (n : Int) (hn : 0 ≤ n ∧ n ≤ 65535) (w : World) : Calls Tryz.prog 38 #[.agg #[.int .u8 4, .int .i64 n, .int .i64 0, .string ⟨#[]⟩]] w (BytR (anyL (.bits n)) w) := by
 have acc := (Wr.refl [] w).alloc (.cells #[.int .u8 4, .int .i64 n, .int .i64 0, .string ⟨#[]⟩] 54)
 have bA := Blk.new w 54 #[.int .u8 4, .int .i64 n, .int .i64 0, .string ⟨#[]⟩]
 obtain ⟨w0, hw0⟩ : ∃ q, w.alloc (.cells #[.int .u8 4, .int .i64 n, .int .i64 0, .string ⟨#[]⟩] 54) = q := ⟨_, rfl⟩
 obtain ⟨g, hg⟩ : ∃ q, w.heap.size = q := ⟨_, rfl⟩
 rw [hw0] at acc bA
 rw [hg] at bA
 have s0 := PSt.byte w0 4 (by decide) (by decide)
 have S0 := qh s0
 have ACC := qh acc
 have HW0 := qh hw0
 have HG := qh hg
 have c0 := bA.cell 0
 have c1 := bA.cell 1
 have c2 := bA.cell 2
 have c3 := bA.cell 3
 simp only [qgaq, qgzq, qgsq] at c0 c1 c2 c3
 have C0 := qh c0
 have C1 := qh c1
 have C2 := qh c2
 have C3 := qh c3
 clear acc bA hw0 hg s0 c1 c2 c3
 have qn : IntKind.u64.wrap n = n := by rw [IntKind.wrap_u64]; omega
 obtain ⟨m, rfl⟩ : ∃ m : Nat, n = (m : Int) := ⟨n.toNat, by omega⟩
 go_enter Tryz.func38, Tryz.ntmps38
 go_upto_region 1 with (fail)
 rw [HG.out, HW0.out]
 go_upto_region 2 with (fail)
 have d0 := S0.out.cell C0.out
 have d1 := S0.out.cell C1.out
 have d2 := S0.out.cell C2.out
 have d3 := S0.out.cell C3.out
 generalize w0.alloc (.cells #[.int .u8 4] 5) = wa at *
 generalize w0.heap.size = z at *
 clear c0
 go_wp2_with fail
 refine (rnumber_any m 2 (by omega) (by decide) (by decide) _).mono ?_
 rintro e n1 ⟨u1, rfl, b1, r1⟩
 obtain ⟨v1, x1, hrun, s1⟩ := PSt.add S0.out r1 b1 (by simp only [qlaq, numL_len, text_len, four_len, tru_len]; omega)
 have S1 := qh s1
 have HRUN := qh hrun
 clear s1 hrun b1 r1
 go_wp2_with (at_builtin; refine wpList_append_run rfl _ _ _ rfl _ _ rfl rfl _ _ HRUN.out ?_)
 clear HRUN
 go_ret
 obtain ⟨h1, h2⟩ := S1.out.done ACC.out
 exact ⟨_, rfl, h1, h2⟩
theorem rvalue_str (s : ByteArray) (hs : s.size ≤ 65535) (w : World) : Calls Tryz.prog 38 #[.agg #[.int .u8 5, .int .i64 0, .int .i64 0, .string s]] w (BytR (anyL (.str s)) w) := by
 have acc := (Wr.refl [] w).alloc (.cells #[.int .u8 5, .int .i64 0, .int .i64 0, .string s] 54)
 have bA := Blk.new w 54 #[.int .u8 5, .int .i64 0, .int .i64 0, .string s]
 obtain ⟨w0, hw0⟩ : ∃ q, w.alloc (.cells #[.int .u8 5, .int .i64 0, .int .i64 0, .string s] 54) = q := ⟨_, rfl⟩
 obtain ⟨g, hg⟩ : ∃ q, w.heap.size = q := ⟨_, rfl⟩
 rw [hw0] at acc bA
 rw [hg] at bA
 have s0 := PSt.byte w0 5 (by decide) (by decide)
 have S0 := qh s0
 have ACC := qh acc
 have HW0 := qh hw0
 have HG := qh hg
 have c0 := bA.cell 0
 have c1 := bA.cell 1
 have c2 := bA.cell 2
 have c3 := bA.cell 3
 simp only [qgaq, qgzq, qgsq] at c0 c1 c2 c3
 have C0 := qh c0
 have C1 := qh c1
 have C2 := qh c2
 have C3 := qh c3
 clear acc bA hw0 hg s0 c1 c2 c3
 go_enter Tryz.func38, Tryz.ntmps38
 go_upto_region 1 with (fail)
 rw [HG.out, HW0.out]
 go_upto_region 2 with (fail)
 have d0 := S0.out.cell C0.out
 have d1 := S0.out.cell C1.out
 have d2 := S0.out.cell C2.out
 have d3 := S0.out.cell C3.out
 generalize w0.alloc (.cells #[.int .u8 5] 5) = wa at *
 generalize w0.heap.size = z at *
 clear c0
 go_wp2_with fail
 refine (count_b s.size hs _).mono ?_
 rintro e n1 ⟨u1, rfl, b1, r1⟩
 obtain ⟨v1, x1, hrun, s1⟩ := PSt.add S0.out r1 b1 (by simp only [qlaq, numL_len, text_len, four_len, tru_len]; omega)
 have S1 := qh s1
 have HRUN := qh hrun
 clear s1 hrun b1 r1 d0 d1 d2 d3
 have d3 := S1.out.cell C3.out
 obtain ⟨v9, x9, hrun2, s9⟩ := S1.out.str s (by simp only [qlaq, numL_len]; omega)
 have S9 := qh s9
 have HRUN2 := qh hrun2
 clear s9 hrun2
 go_wp2_with (at_builtin; first | refine wpList_append_run rfl _ _ _ rfl _ _ rfl rfl _ _ HRUN.out ?_ | refine Lib.wpList_append_run _ rfl _ _ _ _ rfl _ _ rfl rfl _ _ HRUN2.out ?_)
 clear HRUN
 go_ret
 obtain ⟨h1, h2⟩ := S9.out.done ACC.out
 exact ⟨_, rfl, by simpa [anyL, qapq] using h1, h2⟩
theorem rvalue_item (t n : Int) (ht : smB t = true) (hn : smB n = true) (w : World) : Calls Tryz.prog 38 #[.agg #[.int .u8 6, .int .i64 n, .int .i64 t, .string ⟨#[]⟩]] w (BytR (anyL (.item t n)) w) := by
 have acc := (Wr.refl [] w).alloc (.cells #[.int .u8 6, .int .i64 n, .int .i64 t, .string ⟨#[]⟩] 54)
 have bA := Blk.new w 54 #[.int .u8 6, .int .i64 n, .int .i64 t, .string ⟨#[]⟩]
 obtain ⟨w0, hw0⟩ : ∃ q, w.alloc (.cells #[.int .u8 6, .int .i64 n, .int .i64 t, .string ⟨#[]⟩] 54) = q := ⟨_, rfl⟩
 obtain ⟨g, hg⟩ : ∃ q, w.heap.size = q := ⟨_, rfl⟩
 rw [hw0] at acc bA
 rw [hg] at bA
 have s0 := PSt.byte w0 6 (by decide) (by decide)
 have S0 := qh s0
 have ACC := qh acc
 have HW0 := qh hw0
 have HG := qh hg
 have c0 := bA.cell 0
 have c1 := bA.cell 1
 have c2 := bA.cell 2
 have c3 := bA.cell 3
 simp only [qgaq, qgzq, qgsq] at c0 c1 c2 c3
 have C0 := qh c0
 have C1 := qh c1
 have C2 := qh c2
 have C3 := qh c3
 clear acc bA hw0 hg s0 c1 c2 c3
 go_enter Tryz.func38, Tryz.ntmps38
 go_upto_region 1 with (fail)
 rw [HG.out, HW0.out]
 go_upto_region 2 with (fail)
 have d0 := S0.out.cell C0.out
 have d1 := S0.out.cell C1.out
 have d2 := S0.out.cell C2.out
 have d3 := S0.out.cell C3.out
 generalize w0.alloc (.cells #[.int .u8 6] 5) = wa at *
 generalize w0.heap.size = z at *
 clear c0
 go_wp2_with fail
 refine (four_b t ht _).mono ?_
 rintro e n1 ⟨u1, rfl, b1, r1⟩
 obtain ⟨v1, x1, hrun, s1⟩ := PSt.add S0.out r1 b1 (by simp only [qlaq, numL_len, text_len, four_len, tru_len]; omega)
 have S1 := qh s1
 have HRUN := qh hrun
 clear s1 hrun b1 r1 d0 d1 d2 d3
 have d1 := S1.out.cell C1.out
 go_wp2_with (at_builtin; refine wpList_append_run rfl _ _ _ rfl _ _ rfl rfl _ _ HRUN.out ?_)
 clear HRUN
 refine (four_b n hn _).mono ?_
 rintro e n2 ⟨u2, rfl, b2, r2⟩
 obtain ⟨v2, x2, hrun, s2⟩ := PSt.add S1.out r2 b2 (by simp only [qlaq, numL_len, text_len, four_len, tru_len]; omega)
 have S2 := qh s2
 have HRUN := qh hrun
 clear s2 hrun b2 r2
 go_wp2_with (at_builtin; refine wpList_append_run rfl _ _ _ rfl _ _ rfl rfl _ _ HRUN.out ?_)
 clear HRUN
 go_ret
 obtain ⟨h1, h2⟩ := S2.out.done ACC.out
 exact ⟨_, rfl, by simpa [anyL, qapq] using h1, h2⟩
theorem rvalue_null (w : World) : Calls Tryz.prog 38 #[.agg #[.int .u8 7, .int .i64 0, .int .i64 0, .string ⟨#[]⟩]] w (BytR (anyL (.null)) w) := by
 have acc := (Wr.refl [] w).alloc (.cells #[.int .u8 7, .int .i64 0, .int .i64 0, .string ⟨#[]⟩] 54)
 have bA := Blk.new w 54 #[.int .u8 7, .int .i64 0, .int .i64 0, .string ⟨#[]⟩]
 obtain ⟨w0, hw0⟩ : ∃ q, w.alloc (.cells #[.int .u8 7, .int .i64 0, .int .i64 0, .string ⟨#[]⟩] 54) = q := ⟨_, rfl⟩
 obtain ⟨g, hg⟩ : ∃ q, w.heap.size = q := ⟨_, rfl⟩
 rw [hw0] at acc bA
 rw [hg] at bA
 have s0 := PSt.byte w0 7 (by decide) (by decide)
 have S0 := qh s0
 have ACC := qh acc
 have HW0 := qh hw0
 have HG := qh hg
 have c0 := bA.cell 0
 have c1 := bA.cell 1
 have c2 := bA.cell 2
 have c3 := bA.cell 3
 simp only [qgaq, qgzq, qgsq] at c0 c1 c2 c3
 have C0 := qh c0
 have C1 := qh c1
 have C2 := qh c2
 have C3 := qh c3
 clear acc bA hw0 hg s0 c1 c2 c3
 go_enter Tryz.func38, Tryz.ntmps38
 go_upto_region 1 with (fail)
 rw [HG.out, HW0.out]
 go_upto_region 2 with (fail)
 have d0 := S0.out.cell C0.out
 have d1 := S0.out.cell C1.out
 have d2 := S0.out.cell C2.out
 have d3 := S0.out.cell C3.out
 generalize w0.alloc (.cells #[.int .u8 7] 5) = wa at *
 generalize w0.heap.size = z at *
 clear c0
 go_wp2_with fail
 go_ret
 obtain ⟨h1, h2⟩ := S0.out.done ACC.out
 exact ⟨_, rfl, h1, h2⟩
theorem value_b (v : AnyD) (nt : Nat) (hnt : nt ≤ 1024) (hw : anyW v) (hf : anyFit v = true) (hm : anyForm nt v = true) (w : World) :
  Calls Tryz.prog 38 #[.agg #[.int .u8 (valOf v).sort, .int .i64 (valOf v).n, .int .i64 (valOf v).type, .string (valOf v).text]] w (BytR (anyL v) w) := by
 cases v with
 | nil => exact rvalue_nil w
 | whole n => exact rvalue_whole n hm w
 | letter n => exact rvalue_letter n hw w
 | truth b =>
  cases b
  ·exact rvalue_truth_false w
  ·exact rvalue_truth_true w
 | bits n => exact rvalue_bits n hw w
 | str s => exact rvalue_str s (of_decide_eq_true hf) w
 | item t n =>
  unfold anyForm at hm
  rw [Bool.and_eq_true] at hm
  exact rvalue_item t n (tyB_sm hnt hm.1) hm.2 w
 | null => exact rvalue_null w
 | other => cases hm
end Go.Proofs.YtjanbpchedgoiaaGreat
