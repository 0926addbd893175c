/- law 23's alive: walked. No conditions. -/
import Derived.Test.YtfeeeogkkajefaaLaB
namespace Go.Proofs.Ytfeeeogkkajefaa
open Go.RowKit
set_option linter.unusedVariables false
set_option linter.unusedSimpArgs false

/-- An image, whatever it is, and what is told with it. -/
def AnsI (w : World) (who : ByteArray) (en : Int) (e : Ending) (w' : World) : Prop :=
  ∃ (A1 A2 A3 : Option Addr) (n1 n2 n3 c1 c2 c3 : Nat), e = .returned (.tuple #[.agg #[.slice A1 n1 c1, .slice A2 n2 c2, .slice A3 n3 c3], .string who, .int .i64 en]) ∧ Wr [] w w'
theorem link_ans (l : List ObjD) (v : Value) (main who : ByteArray) (en : Int) (w : World) (h : SlObjs w (fun _ => True) v l) (hlen : l.length ≤ 1000000000) (hus : ∀ o ∈ l, o.uses.length ≤ 1000000000) (hl : (linkP l main).2 = (who, en)) :
    Calls Try.prog 9 #[v, .string main] w (AnsI w who en) := by
  refine (link_any l v main w h hlen hus).mono ?_
  rintro e w' ⟨vn, vm, vo, rfl, hw, h1, h2, h3⟩
  obtain ⟨A1, c1, rfl, _, _⟩ := Sl.form h1
  obtain ⟨A2, c2, rfl, _, _⟩ := h2.form
  obtain ⟨A3, c3, rfl, _, _⟩ := Sl.form h3
  exact ⟨A1, A2, A3, _, _, _, c1, c2, c3, by rw [hl], hw⟩
/-- The image of two modules. -/
def OkImg (w : World) (A1 A2 : Option Addr) : Prop :=
  (∃ b off, A1 = some ⟨b, off, none⟩ ∧ w.cell? ⟨b, off, none⟩ = some (.string ⟨#[83]⟩) ∧ w.cell? ⟨b, off + 1, none⟩ = some (.string ⟨#[77]⟩)) ∧
  ∃ b off bi oi ci, A2 = some ⟨b, off, none⟩ ∧ w.cell? ⟨b, off + 5 + 2, none⟩ = some (.slice (some ⟨bi, oi, none⟩) 1 ci) ∧ w.cell? ⟨bi, oi, none⟩ = some (.int .i64 0) ∧ 1 ≤ ci ∧ ci ≤ maxLen
theorem OkImg.wr0 {w W : World} {A1 A2 : Option Addr} (h : OkImg w A1 A2) (hw : Wr [] w W) : OkImg W A1 A2 := by
  obtain ⟨⟨b, off, e1, h1, h2⟩, b', off', bi, oi, ci, e2, h3, h4, h5, h6⟩ := h
  exact ⟨⟨b, off, e1, hw.cellOf h1 (by simp), hw.cellOf h2 (by simp)⟩, b', off', bi, oi, ci, e2, hw.cellOf h3 (by simp), hw.cellOf h4 (by simp), h5, h6⟩
def AnsOk (w : World) (e : Ending) (w' : World) : Prop :=
  ∃ (A1 A2 A3 : Option Addr) (c1 c2 c3 : Nat), e = .returned (.tuple #[.agg #[.slice A1 2 c1, .slice A2 2 c2, .slice A3 2 c3], .string ⟨#[]⟩, .int .i64 0]) ∧ Wr [] w w' ∧ OkImg w' A1 A2 ∧ (2 ≤ c1 ∧ c1 ≤ maxLen) ∧ (2 ≤ c2 ∧ c2 ≤ maxLen)
theorem few_two (k d e : Int) : (twoD k d e).length ≤ 1000000000 ∧ ∀ o ∈ twoD k d e, o.uses.length ≤ 1000000000 := by
  refine ⟨by simp [twoD], fun o ho => ?_⟩
  simp only [twoD, List.mem_cons, List.not_mem_nil, or_false] at ho
  rcases ho with rfl | rfl <;> simp
theorem link_two (v : Value) (w : World) (h : SlObjs w (fun _ => True) v (twoD 7 0 0)) : Calls Try.prog 9 #[v, .string ⟨#[77]⟩] w (AnsOk w) := by
  refine (link_any _ v _ w h (few_two 7 0 0).1 (few_two 7 0 0).2).mono ?_
  rintro e w' ⟨vn, vm, vo, rfl, hw, h1, h2, h3⟩
  rw [two_ok] at h1 h2 h3 ⊢
  obtain ⟨b1, off1, c1, e1, g1, g2, _, hc1⟩ := Sl.at_ h1 (j := 0) (u := .string ⟨#[83]⟩) rfl
  obtain ⟨b2, off2, c2, e2, _, _, _, hc2⟩ := Sl.at_ h1 (j := 1) (u := .string ⟨#[77]⟩) rfl
  subst e1
  injection e2 with e2 _ _
  injection e2 with e2
  injection e2 with e2 e3 _
  subst e2 e3
  have hf := h2.form
  obtain ⟨b3, off3, c3, vp, vi, vn, e4, hc3, hml⟩ := mod_at h2 (i := 1) (m := { bodyM with data := 0, imports := [0] }) rfl
  obtain ⟨bi, oi, ci, e5, g3, g4, hci⟩ := i64_at hml.imports (i := 0) (x := 0) rfl
  subst e4 e5
  obtain ⟨_, _, e6, g5, g6⟩ := hf
  injection e6 with _ _ e6
  subst e6
  obtain ⟨A3, c4, e7, _, _⟩ := Sl.form h3
  subst e7
  refine ⟨_, _, _, _, _, _, rfl, hw, ⟨⟨_, _, rfl, by simpa using hc1, hc2⟩, _, _, _, _, _, rfl, hc3 2 _ rfl, by simpa using hci, g3, g4⟩, ⟨g1, g2⟩, ⟨g5, g6⟩⟩
/-- What two need. -/
theorem needs_two (v : Value) (w : World) (h : SlObjs w (fun _ => True) v (twoD 7 0 0)) : Calls Try.prog 11 #[v] w fun e w' =>
    ∃ b off c A cc, e = .returned (.slice (some ⟨b, off, none⟩) 2 c) ∧ Wr [] w w' ∧ w'.cell? ⟨b, off + 1, none⟩ = some (.slice A 1 cc) ∧ 2 ≤ c ∧ c ≤ maxLen := by
  refine (lneeds_any _ v _ w h (few_two 7 0 0).1 (few_two 7 0 0).2).mono ?_
  rintro e w' ⟨vo, rfl, hw, hs⟩
  have hf := hs.form
  obtain ⟨b, off, c, vn, e1, hc, hn⟩ := need_at hs (i := 0) (m := needOf ⟨⟨#[77]⟩, true, 0, [⟨⟨#[83]⟩, 7⟩], { bodyM with data := 0 }⟩) rfl
  obtain ⟨A, cc, e2, _, _⟩ := Sl.form hn
  subst e1 e2
  obtain ⟨_, _, e6, g5, g6⟩ := hf
  injection e6 with _ _ e6
  subst e6
  have h1 : w'.cell? ⟨b, off + 0 * 2 + 1, none⟩ = some (.slice A 1 cc) := hc 1 _ rfl
  exact ⟨b, off, c, A, cc, rfl, hw, by simpa using h1, g5, g6⟩
set_option maxRecDepth 100000 in
set_option maxHeartbeats 16000000 in
theorem alive_any (w : World) : Calls Try.prog 8 #[] w fun e w' => e = .returned (.bool true) ∧ Wr [] w w' := by
  go_enter Try.func8, Try.ntmps8
  go_wp2_with fail
  refine (two_any 7 _).mono ?_
  rintro e w1 ⟨A, rfl, r1, h1⟩
  have H1 := Lib.hid h1
  have R1 := Lib.hid r1
  clear h1 r1
  go_wp2_with fail
  refine (link_two _ _ H1.out).mono ?_
  rintro e w2 ⟨A1, A2, A3, c1, c2, c3, rfl, r2, hok, ⟨g1, g2⟩, g3, g4⟩
  have R2 := Lib.hid (R1.out.trans r2)
  have HOK := Lib.hid hok
  unfold maxLen at g2 g4
  obtain ⟨s, hs⟩ : ∃ s, w2.heap.size = s := ⟨_, rfl⟩
  obtain ⟨w3, hw3⟩ : ∃ w3, w2.alloc (.cells #[.slice A1 2 c1, .slice A2 2 c2, .slice A3 2 c3] 31) = w3 := ⟨_, rfl⟩
  have r3 : Wr [] w2 w3 := by rw [← hw3]; exact (Wr.refl [] w2).alloc _
  have b3 : Blk w3 s 31 #[.slice A1 2 c1, .slice A2 2 c2, .slice A3 2 c3] := by rw [← hw3, ← hs]; exact Blk.new _ _ _
  have R3 := Lib.hid (R2.out.trans r3)
  have OK3 := Lib.hid (hok.wr0 r3)
  have BI := Lib.hid b3
  have HS := Lib.hid hs
  have HW3 := Lib.hid hw3
  clear r2 hok hs hw3 r3 b3
  go_upto_region 2 with (fail)
  rw [HS.out, HW3.out]
  go_wp2_with fail
  refine (two_any 8 _).mono ?_
  rintro e w4 ⟨A4, rfl, r4, h4⟩
  have H4 := Lib.hid h4
  have R4 := Lib.hid r4
  clear h4 r4
  go_wp2_with fail
  refine (link_ans _ _ _ _ _ _ H4.out (few_two 8 0 0).1 (few_two 8 0 0).2 two_mis).mono ?_
  rintro e w5 ⟨B1, B2, B3, n1, n2, n3, d1, d2, d3, rfl, r5⟩
  have R5 := Lib.hid ((R4.out.trans r5).alloc (.cells #[.slice B1 n1 d1, .slice B2 n2 d2, .slice B3 n3 d3] 31))
  clear r5
  obtain ⟨w6, hw6⟩ : ∃ w6, w5.alloc (.cells #[.slice B1 n1 d1, .slice B2 n2 d2, .slice B3 n3 d3] 31) = w6 := ⟨_, rfl⟩
  rw [hw6] at R5
  have HW6 := Lib.hid hw6
  clear hw6
  go_upto_region 3 with (fail)
  rw [HW6.out]
  go_wp2_with fail
  refine (two_any 7 _).mono ?_
  rintro e w7 ⟨A7, rfl, r7, h7⟩
  have H7 := Lib.hid h7
  have R7 := Lib.hid (R5.out.trans r7)
  clear h7 r7
  go_wp2_with fail
  refine (link_ans _ _ _ _ _ _ H7.out (few_two 7 0 0).1 (few_two 7 0 0).2 two_main).mono ?_
  rintro e w8 ⟨C1, C2, C3, m1, m2, m3, e1, e2, e3, rfl, r8⟩
  have R8 := Lib.hid ((R7.out.trans r8).alloc (.cells #[.slice C1 m1 e1, .slice C2 m2 e2, .slice C3 m3 e3] 31))
  clear r8
  obtain ⟨w9, hw9⟩ : ∃ w9, w8.alloc (.cells #[.slice C1 m1 e1, .slice C2 m2 e2, .slice C3 m3 e3] 31) = w9 := ⟨_, rfl⟩
  rw [hw9] at R8
  have HW9 := Lib.hid hw9
  clear hw9
  go_upto_region 4 with (fail)
  rw [HW9.out]
  go_wp2_with fail
  refine (two_any 7 _).mono ?_
  rintro e w10 ⟨A10, rfl, r10, h10⟩
  have h11 := SlObjs.take (l := twoD 7 0 0) h10 1 (by decide)
  have H11 := Lib.hid h11
  have R10 := Lib.hid (R8.out.trans r10)
  clear h10 r10 h11
  go_wp2_with fail
  refine (link_ans _ _ _ _ _ _ H11.out (by simp [twoD]) (fun o ho => (few_two 7 0 0).2 o (List.mem_of_mem_take ho)) two_none).mono ?_
  rintro e w11 ⟨D1, D2, D3, k1, k2, k3, f1, f2, f3, rfl, r11⟩
  have R11 := Lib.hid ((R10.out.trans r11).alloc (.cells #[.slice D1 k1 f1, .slice D2 k2 f2, .slice D3 k3 f3] 31))
  clear r11
  obtain ⟨w12, hw12⟩ : ∃ w12, w11.alloc (.cells #[.slice D1 k1 f1, .slice D2 k2 f2, .slice D3 k3 f3] 31) = w12 := ⟨_, rfl⟩
  rw [hw12] at R11
  have HW12 := Lib.hid hw12
  clear hw12
  go_upto_region 5 with (fail)
  rw [HW12.out]
  go_wp2_with fail
  refine (two_any 7 _).mono ?_
  rintro e w13 ⟨A13, rfl, r13, h13⟩
  have H13 := Lib.hid h13
  have R13 := Lib.hid (R11.out.trans r13)
  clear h13 r13
  go_wp2_with fail
  refine (needs_two _ _ H13.out).mono ?_
  rintro e w14 ⟨bn, on, cn, An, ccn, rfl, r14, hcn, hn1, hn2⟩
  unfold maxLen at hn2
  have R14 := Lib.hid (R13.out.trans r14)
  obtain ⟨⟨b1, o1, rfl, y1, y2⟩, b2, o2, bi, oi, ci, rfl, y3, y4, y5, y6⟩ := OK3.out.wr0 (R13.out.trans r14)
  unfold maxLen at y6
  have b14 := BI.out.wr0 (R13.out.trans r14)
  have z0 := b14.cell 0
  have z1 := b14.cell 1
  have z2 := b14.cell 2
  simp only [List.getElem?_toArray, List.getElem?_cons_zero, List.getElem?_cons_succ] at z0 z1 z2
  clear r14 b14
  go_wp2_with fail
  go_ret
  exact ⟨rfl, R3.out.trans R14.out⟩
end Go.Proofs.Ytfeeeogkkajefaa
