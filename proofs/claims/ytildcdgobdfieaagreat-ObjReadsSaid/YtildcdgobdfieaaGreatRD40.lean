/- A plain interface that is read is the plain form of the interface that is read: no program. No conditions. -/
import Derived.Test.YtildcdgobdfieaaGreatRD39
set_option linter.unusedVariables false
set_option linter.unusedSimpArgs false
set_option maxRecDepth 100000
set_option maxHeartbeats 32000000
namespace Go.Proofs.YtildcdgobdfieaaGreat
theorem list_allR {α : Type} {one : Rd → α × Rd} {p : α → Prop} (h : ∀ r, p (one r).1) : ∀ (n : Nat) (r : Rd), ∀ x ∈ (Rd.list one n r).1, p x
 | 0, r, x, hx => by simp [Rd.list] at hx
 | n + 1, r, x, hx => by
  unfold Rd.list at hx
  split at hx
  ·cases hx
  ·rcases List.mem_cons.1 hx with rfl | hx
   ·exact h r
   ·exact list_allR h n _ x hx
theorem any_wR (r : Rd) : anyW (Rd.any r).1 := by
 obtain ⟨rr, hn⟩ : ∃ rr, r.num 1 = rr := ⟨_, rfl⟩
 obtain ⟨k, r'⟩ := rr
 unfold Rd.any
 rw [hn]
 match k with
 | 0 => exact trivial
 | 1 => exact trivial
 | 2 =>
  have := num_ltO (k := 1) (by omega) r'
  show 0 ≤ r'.one.1 ∧ r'.one.1 ≤ 255
  unfold Rd.one
  simp only
  omega
 | 3 => exact trivial
 | 4 =>
  have := num_ltO (k := 2) (by omega) r'
  show 0 ≤ r'.two.1 ∧ r'.two.1 ≤ 65535
  unfold Rd.two
  simp only
  omega
 | 5 => exact trivial
 | 6 => exact trivial
 | 7 => exact trivial
 | k + 8 => exact trivial
theorem list_lenR {α : Type} {one : Rd → α × Rd} : ∀ (n : Nat) (r : Rd), (Rd.list one n r).1.length ≤ n
 | 0, r => by simp [Rd.list]
 | n + 1, r => by
  unfold Rd.list
  split
  ·simp
  ·have := list_lenR (one := one) n (one r).2
   simp only [List.length_cons]
   omega
theorem pval_eq (r : Rd) : (Rd.pval r).2 = (Rd.any r).2 ∧ ((Rd.any r).2.bad = false → (Rd.pval r).1 = valOf (Rd.any r).1) := by
 obtain ⟨rr, hn⟩ : ∃ rr, r.num 1 = rr := ⟨_, rfl⟩
 obtain ⟨k, r'⟩ := rr
 unfold Rd.any Rd.pval
 rw [hn]
 match k with
 | 0 => exact ⟨rfl, fun _ => rfl⟩
 | 1 => exact ⟨rfl, fun _ => rfl⟩
 | 2 => exact ⟨rfl, fun _ => rfl⟩
 | 3 => exact ⟨rfl, fun _ => rfl⟩
 | 4 => exact ⟨rfl, fun _ => rfl⟩
 | 5 => exact ⟨rfl, fun _ => rfl⟩
 | 6 => exact ⟨rfl, fun _ => rfl⟩
 | 7 => exact ⟨rfl, fun _ => rfl⟩
 | k + 8 => exact ⟨rfl, fun h => by cases h⟩
theorem pitm_eq (r : Rd) : (Rd.pitm r).2 = (Rd.itm r).2 ∧ ((Rd.itm r).2.bad = false → (Rd.pitm r).1 = pitmOf (Rd.itm r).1) := by
 unfold Rd.pitm Rd.itm Rd.one pitmOf
 simp only
 obtain ⟨h1, h2⟩ := pval_eq (((r.text.2.num 1).2.four).2.four).2
 exact ⟨h1, fun h => by rw [h2 h]⟩
theorem list_two {α β : Type} {one : Rd → α × Rd} {two : Rd → β × Rd} {g : α → β} (h : ∀ r, (two r).2 = (one r).2 ∧ ((one r).2.bad = false → (two r).1 = g (one r).1)) :
  ∀ (n : Nat) (r : Rd), (Rd.list two n r).2 = (Rd.list one n r).2 ∧ ((Rd.list one n r).2.bad = false → (Rd.list two n r).1 = (Rd.list one n r).1.map g)
 | 0, r => ⟨rfl, fun _ => rfl⟩
 | n + 1, r => by
  unfold Rd.list
  by_cases hb : r.bad = true
  ·rw [if_pos hb, if_pos hb]
   exact ⟨rfl, fun _ => rfl⟩
  ·rw [if_neg hb, if_neg hb]
   obtain ⟨e1, e2⟩ := h r
   obtain ⟨k1, k2⟩ := list_two h n (one r).2
   simp only
   rw [e1]
   refine ⟨k1, fun hf => ?_⟩
   have hone : (one r).2.bad = false := by
    cases hq : (one r).2.bad with
    | false => rfl
    | true =>
     rw [list_bad _ _ _ hq] at hf
     simp only at hf
     rw [hq] at hf
     cases hf
   rw [e2 hone, k2 hf]
   rfl
theorem pface_eq (r : Rd) : (Rd.pface r).2 = (Rd.face r).2 ∧ ((Rd.face r).2.bad = false → (Rd.pface r).1 = facePl (Rd.face r).1) := by
 unfold Rd.pface Rd.face Rd.lst facePl
 simp only
 obtain ⟨h1, h2⟩ := list_two (g := pitmOf) pitm_eq ((((((r.text.2.num 2).2.list Rd.use (r.text.2.num 2).1).2.num 2).2.list Rd.ty (((r.text.2.num 2).2.list Rd.use (r.text.2.num 2).1).2.num 2).1).2.num 2).1) ((((((r.text.2.num 2).2.list Rd.use (r.text.2.num 2).1).2.num 2).2.list Rd.ty (((r.text.2.num 2).2.list Rd.use (r.text.2.num 2).1).2.num 2).1).2.num 2).2)
 exact ⟨h1, fun h => by rw [h2 h]⟩
theorem face_wR (r : Rd) : (∀ x ∈ (Rd.face r).1.items, anyW x.v) ∧ (Rd.face r).1.items.length ≤ 65535 := by
 refine ⟨list_allR (one := Rd.itm) (p := fun x => anyW x.v) (fun r => any_wR _) _ _, Nat.le_trans (list_lenR _ _) ?_⟩
 have := num_ltO (k := 2) (by omega) ((r.text.2.lst Rd.use).2.lst Rd.ty).2
 omega
theorem form_val (nt : Nat) (v : AnyD) (h : anyW v) : (decide ((valOf v).sort ≤ 7) && smB (valOf v).n && tyB nt (valOf v).type) = anyForm nt v := by
 have t0 : tyB nt 0 = true := inB_iff.2 ⟨by omega, by omega⟩
 have s0 : smB 0 = true := by decide
 have s1 : smB 1 = true := by decide
 cases v with
 | nil => simp [valOf, anyForm, t0, s0]
 | whole n => simp [valOf, anyForm, t0]
 | letter n =>
  have : smB n = true := smB_iff.2 (by have := h.1; have := h.2; omega)
  simp [valOf, anyForm, t0, this]
 | truth b => cases b <;> simp [valOf, anyForm, t0, s0, s1]
 | bits n =>
  have : smB n = true := smB_iff.2 (by have := h.1; have := h.2; omega)
  simp [valOf, anyForm, t0, this]
 | str s => simp [valOf, anyForm, t0, s0]
 | item t n => simp [valOf, anyForm, Bool.and_comm]
 | null => simp [valOf, anyForm, t0, s0]
 | other => simp [valOf, anyForm]
theorem fit_val (v : AnyD) : fwB (valOf v).text.size = anyFit v := by
 cases v <;> simp [valOf, anyFit, fwB] <;> rfl
theorem all_congr {α β : Type} {l : List α} {g : α → β} {p : β → Bool} {q : α → Bool} (h : ∀ x ∈ l, p (g x) = q x) : (l.map g).all p = l.all q := by
 rw [List.all_map]
 induction l with
 | nil => rfl
 | cons x l ih =>
  simp only [List.all_cons, Function.comp]
  rw [h x (by simp), ← ih (fun y hy => h y (by simp [hy]))]
theorem may_pl (f : FaceD) (h : ∀ x ∈ f.items, anyW x.v) : rmayP (facePl f) = mayP f := by
 have e1 : rfitB (facePl f) = faceFit f := by
  unfold rfitB faceFit facePl
  simp only [qlmq]
  congr 1
  exact all_congr fun x _ => by unfold pitFit itmFit pitmOf; simp only; rw [fit_val]
 have e2 : (facePl f).items.map PItm.name = f.items.map ItmD.name := by
  unfold facePl
  simp only [List.map_map]
  rfl
 have e3 : (facePl f).items.all (pitForm (facePl f).types.length) = f.items.all (itmForm f.types.length) := all_congr fun x hx => by
  unfold pitForm itmForm pitmOf
  simp only
  rw [← form_val _ _ (h x hx)]
  show _ = (_ && _ && (_ && _ && _))
  simp only [Bool.and_assoc]
  rfl
 unfold rmayP mayP faceForm
 rw [e1, e2, e3]
 rfl
theorem rdec_eq (l : List UInt8) : rdecP l = (facePl (decFaceP l).1, (decFaceP l).2) := by
 obtain ⟨h1, h2⟩ := pface_eq ⟨l, false⟩
 unfold rdecP rdecQ decFaceP
 rw [h1]
 cases hb : (Rd.face ⟨l, false⟩).2.bad with
 | true => simp only [Bool.true_or, if_true]; rfl
 | false =>
  rw [h2 hb, may_pl _ (face_wR _).1]
  cases (!(Rd.face ⟨l, false⟩).2.s.isEmpty) <;> cases (!decide (mayP (Rd.face ⟨l, false⟩).1 = 0)) <;> rfl
theorem rread_eq (l : List UInt8) : rreadP l = (facePl (readSymP l).1, (readSymP l).2.1, (readSymP l).2.2) := by
 unfold rreadP readSymP
 cases headP symKind l with
 | none => rfl
 | some p =>
  obtain ⟨k, s⟩ := p
  simp only
  rw [rdec_eq]
  simp only
  by_cases h1 : (decFaceP s).2 = 0
  ·by_cases h2 : k = keyL s
   ·simp [h1, h2]
   ·simp [h1, h2]; rfl
  ·simp [h1]; rfl
theorem read_w (l : List UInt8) : (∀ x ∈ (readSymP l).1.items, anyW x.v) ∧ (readSymP l).1.items.length ≤ 1000000 := by
 have hn : (∀ x ∈ noFace.items, anyW x.v) ∧ noFace.items.length ≤ 1000000 := ⟨fun x hx => by simp [noFace] at hx, by simp [noFace]⟩
 have hd : ∀ s, (∀ x ∈ (decFaceP s).1.items, anyW x.v) ∧ (decFaceP s).1.items.length ≤ 1000000 := fun s => by
  unfold decFaceP
  split
  ·exact hn
  ·exact ⟨(face_wR _).1, by have := (face_wR ⟨s, false⟩).2; simp only; omega⟩
 unfold readSymP
 cases headP symKind l with
 | none => exact hn
 | some p =>
  obtain ⟨k, s⟩ := p
  simp only
  split
  ·exact hn
  ·split
   ·exact hn
   ·exact hd s
end Go.Proofs.YtildcdgobdfieaaGreat
namespace Go.Proofs.YtildcdgobdfieaaGreat
open Go.RowKit
theorem pack_no (m : ModD) (vp vi vn : Value) (P : Nat → Prop) (hm : omodB m = false) (w : World) (h : ModL w P vp vi vn m) :
  Calls Tryz.prog 12 #[m.val vp vi vn] w fun e w' => e = .returned (.tuple #[.string ⟨#[]⟩, .int .i64 2]) ∧ Wr [] w w' := by
 obtain ⟨Ap, cp, rfl, lp1, lp2⟩ := Sl.form h.procs
 obtain ⟨Ai, ci, rfl, li1, li2⟩ := Sl.form h.imports
 obtain ⟨An, cn, rfl, ln1, ln2⟩ := Sl.form h.init
 have acc := (Wr.refl [] w).alloc (.cells #[.string m.code, .slice Ap m.procs.length cp, .slice Ai m.imports.length ci, .int .i64 m.data, .slice An m.init.length cn] 28)
 have bA := Blk.new w 28 #[.string m.code, .slice Ap m.procs.length cp, .slice Ai m.imports.length ci, .int .i64 m.data, .slice An m.init.length cn]
 have hc := omod_any m _ _ _ P _ (h.wr0 acc)
 rw [hm] at hc
 unfold ModD.val ModD.cells at hc ⊢
 obtain ⟨w0, hw0⟩ : ∃ w0, w.alloc (.cells #[.string m.code, .slice Ap m.procs.length cp, .slice Ai m.imports.length ci, .int .i64 m.data, .slice An m.init.length cn] 28) = w0 := ⟨_, rfl⟩
 obtain ⟨g, hg⟩ : ∃ g, w.heap.size = g := ⟨_, rfl⟩
 rw [hw0] at acc bA hc
 rw [hg] at bA
 have Hw0 := qh hw0
 have Hg := qh hg
 have HC := qh hc
 clear hw0 hg h hc
 go_in
 go_upto_region 1 with (fail)
 rw [Hw0.out, Hg.out]
 obtain ⟨c0, c1, c2, c3, c4⟩ := c5q bA
 go_wp2_with fail
 refine HC.out.mono ?_
 rintro e w1 ⟨rfl, r1⟩
 go_wp2_with fail
 go_ret2
 exact ⟨rfl, acc.trans r1⟩
theorem pack_yes (m : ModD) (vp vi vn : Value) (P : Nat → Prop) (hm : omodB m = true) (hwd : wordsB m) (w : World) (h : ModL w P vp vi vn m) :
  Calls Tryz.prog 12 #[m.val vp vi vn] w fun e w' => e = .returned (.tuple #[.string ⟨(packL m).toArray⟩, .int .i64 0]) ∧ Wr [] w w' := by
 have okm := mod_ok hm
 have OKM := qh okm
 obtain ⟨PL, hPL⟩ : ∃ q : List UInt8, packL m = q := ⟨_, rfl⟩
 rw [hPL]
 have HPL := qh hPL
 clear hPL
 have HWD := qh hwd
 obtain ⟨Ap, cp, rfl, lp1, lp2⟩ := Sl.form h.procs
 obtain ⟨Ai, ci, rfl, li1, li2⟩ := Sl.form h.imports
 obtain ⟨An, cn, rfl, ln1, ln2⟩ := Sl.form h.init
 have acc := (Wr.refl [] w).alloc (.cells #[.string m.code, .slice Ap m.procs.length cp, .slice Ai m.imports.length ci, .int .i64 m.data, .slice An m.init.length cn] 28)
 have bA := Blk.new w 28 #[.string m.code, .slice Ap m.procs.length cp, .slice Ai m.imports.length ci, .int .i64 m.data, .slice An m.init.length cn]
 have hc := omod_any m _ _ _ P _ (h.wr0 acc)
 rw [hm] at hc
 unfold ModD.val ModD.cells at hc ⊢
 obtain ⟨w0, hw0⟩ : ∃ w0, w.alloc (.cells #[.string m.code, .slice Ap m.procs.length cp, .slice Ai m.imports.length ci, .int .i64 m.data, .slice An m.init.length cn] 28) = w0 := ⟨_, rfl⟩
 obtain ⟨g, hg⟩ : ∃ g, w.heap.size = g := ⟨_, rfl⟩
 rw [hw0] at acc bA hc
 rw [hg] at bA
 have k1 := okm.code
 have k2 := okm.procs
 have k3 := okm.imports
 have k4 := okm.init
 have HN1 := qh (fun w => number_int m.code.size 2 (by omega) (by decide) (by decide) w)
 have HN2 := qh (fun w => number_int m.procs.length 2 (by omega) (by decide) (by decide) w)
 have HN3 := qh (fun w => number_int m.imports.length 1 (by omega) (by decide) (by decide) w)
 have HN4 := qh (fun w => number_int m.init.length 2 (by omega) (by decide) (by decide) w)
 have Hw0 := qh hw0
 have Hg := qh hg
 have HC0 := qh hc
 have HH := qh h
 have ACC := qh acc
 have hns := numS_size
 have hts := truS_size
 have s1 : ¬ 9223372036854775807 < 2 + m.code.size := by omega
 have s2 : ¬ 9223372036854775807 < 2 + m.code.size + 2 := by omega
 clear hw0 hg h hc okm hwd acc
 go_in
 go_upto_region 1 with (fail)
 rw [Hw0.out, Hg.out]
 obtain ⟨c0, c1, c2, c3, c4⟩ := c5q bA
 go_wp2_with fail
 refine HC0.out.mono ?_
 rintro e w1 ⟨rfl, r1⟩
 go_upto_region 4 with (fail)
 have bld0 := Bld.new w1
 have r2 : Wr [] w0 (w1.alloc (.cells #[.pointer none, .slice none 0 0] 92)) := r1.alloc _
 have gb : g < w1.heap.size := Nat.lt_of_lt_of_le bA.lt r1.size
 have hg1 : w.heap.size ≤ g := by rw [Hg.out]; exact Nat.le_refl _
 generalize w1.alloc (.cells #[.pointer none, .slice none 0 0] 92) = wb at *
 generalize w1.heap.size = b at *
 have BLD := qh bld0
 have GB : g < b := gb
 have BS : b ≤ wb.heap.size := Nat.le_of_lt bld0.lt
 replace c0 := r2.cellOf c0 (by simp)
 replace c1 := r2.cellOf c1 (by simp)
 replace c2 := r2.cellOf c2 (by simp)
 replace c3 := r2.cellOf c3 (by simp)
 replace c4 := r2.cellOf c4 (by simp)
 have R2 := qh r2
 clear bld0 r2 gb r1 bA
 have hC : ∀ W, Below b wb W → W.cell? ⟨g, 0, none⟩ = some (.string m.code) ∧ W.cell? ⟨g, 1, none⟩ = some (.slice Ap m.procs.length cp) := fun W hW => ⟨bel_cell hW c0 GB, bel_cell hW c1 GB⟩
 have HC := qh hC
 clear hC
 refine wp_region_noPanic ?_
 refine wp_region_L (AlwO fun w' => w'.cell? ⟨g, 0, none⟩ = some (.string m.code) ∧ w'.cell? ⟨g, 1, none⟩ = some (.slice Ap m.procs.length cp)) (by kernel_rfl) (fun hcl => ?_)
 have hS : AlwO (fun w' => w'.cell? ⟨g, 0, none⟩ = some (.string m.code) ∧ w'.cell? ⟨g, 1, none⟩ = some (.slice Ap m.procs.length cp)) (Array.replicate 13 false) wb.drew := ⟨c0, c1⟩
 refine mva 0 (by rfl) (by kernel_rfl) (by rfl) (fun w' hS => by (try go_split_ands); go_simp; try rfl) hcl hS fun hcl101 hS101 => ?_
 clear hcl hS
 try simp only [Act.put, qsaq, qszq, qssq]
 refine mva 1 (by rfl) (by kernel_rfl) (by rfl) (fun w' hS => by (try go_split_ands); go_simp; try rfl) hcl101 hS101 fun hcl102 hS102 => ?_
 clear hcl101 hS101
 try simp only [Act.put, qsaq, qszq, qssq]
 refine mva 2 (by rfl) (by kernel_rfl) (by rfl) (fun w' hS => by (try go_split_ands); go_simp; try rfl) hcl102 hS102 fun hcl103 hS103 => ?_
 clear hcl102 hS102
 try simp only [Act.put, qsaq, qszq, qssq]
 refine mva 4 (by rfl) (by kernel_rfl) (by rfl) (fun w' hS => by (try go_split_ands); go_simp; try rfl) hcl103 hS103 fun hcl104 hS104 => ?_
 clear hcl103 hS103
 try simp only [Act.put, qsaq, qszq, qssq]
 refine mva 5 (by rfl) (by kernel_rfl) (by rfl) (fun w' hS => by (try go_split_ands); go_simp; try rfl) hcl104 hS104 fun hcl105 hS105 => ?_
 clear hcl104 hS104
 try simp only [Act.put, qsaq, qszq, qssq]
 refine mva 7 (by rfl) (by kernel_rfl) (by rfl) (fun w' hS => by (try go_split_ands); go_simp; try rfl) hcl105 hS105 fun hcl106 hS106 => ?_
 clear hcl105 hS105
 try simp only [Act.put, qsaq, qszq, qssq]
 refine mva 8 (by rfl) (by kernel_rfl) (by rfl) (fun w' hS => by (try go_split_ands); go_simp; try rfl) hcl106 hS106 fun hcl107 hS107 => ?_
 clear hcl106 hS106
 try simp only [Act.put, qsaq, qszq, qssq]
 refine mva 9 (by rfl) (by kernel_rfl) (by rfl) (fun w' hS => by (try go_split_ands); go_simp; try rfl) hcl107 hS107 fun hcl108 hS108 => ?_
 clear hcl107 hS107
 try simp only [Act.put, qsaq, qszq, qssq]
 refine st0 3 (by rfl) (by kernel_rfl) hcl108 fun K hK => ?_
 go_simp
 go_at_call 37
 refine (HN1.out _).mono ?_
 rintro e n1 ⟨rfl, n1q⟩
 have n1r := ((Wr.refl [] wb).drew).trans n1q
 clear n1q
 refine hK _ _ (HC.out _ (wr_bel n1r BS)) (fun hcl109 => ?_)
 clear hK K hcl108 hS108
 try simp only [Act.put, qsaq, qszq, qssq]
 refine mva 6 (by rfl) (by kernel_rfl) (by rfl) (fun w' hS => by (try go_split_ands); go_simp; try rfl) hcl109 (HC.out _ (wr_bel n1r BS)) fun hcl110 hS110 => ?_
 clear hcl109
 try simp only [Act.put, qsaq, qszq, qssq]
 refine st0 10 (by rfl) (by kernel_rfl) hcl110 fun K hK => ?_
 go_simp
 go_at_call 37
 refine (HN2.out _).mono ?_
 rintro e n2 ⟨rfl, n2q⟩
 have n2r := (n1r).trans n2q
 clear n2q
 refine hK _ _ (HC.out _ (wr_bel n2r BS)) (fun hcl111 => ?_)
 clear hK K hcl110 hS110
 try simp only [Act.put, qsaq, qszq, qssq]
 refine mva 11 (by rfl) (by kernel_rfl) (by rfl) (fun w' hS => by (try go_split_ands); go_simp; try rfl) hcl111 (HC.out _ (wr_bel n2r BS)) fun hcl112 hS112 => ?_
 clear hcl111
 try simp only [Act.put, qsaq, qszq, qssq]
 refine st0 12 (by rfl) (by kernel_rfl) hcl112 fun K hK => ?_
 go_simp
 go_at_call 44
 refine (write_b b [] _ _ (BLD.out.keep n2r) (by simp) (by simp only [ByteArray.size_append, hns]; omega)).mono ?_
 rintro e wC ⟨nwC, rfl, bldC, belC⟩
 refine hK _ _ (HC.out _ ((wr_bel n2r BS).trans belC)) (fun hcl113 => ?_)
 clear hK K hcl112 hS112
 try simp only [Act.put, qsaq, qszq, qssq]
 refine wpAnyL_done (by kernel_rfl) (NoPanic.normal ?_) _
 try simp only [Act.put, qsaq, qszq, qssq]
 have bel1 := (wr_bel n2r BS).trans belC
 rw [bytesA] at bldC
 have BEL1 := qh bel1
 have BLC := qh bldC
 replace c0 := bel_cell bel1 c0 GB
 replace c1 := bel_cell bel1 c1 GB
 replace c2 := bel_cell bel1 c2 GB
 replace c3 := bel_cell bel1 c3 GB
 replace c4 := bel_cell bel1 c4 GB
 clear bel1 bldC belC n1r n2r HC
 go_wp2_with fail
 go_loopw [30] (fun i wr => ∃ k : Nat, k ≤ m.procs.length ∧ i = .int .i64 k ∧ PkAt b wC (packA m ++ (m.procs.take k).flatMap prcL) wr) (fun i _ => m.procs.length - (intOf i).toNat)
 case atStart => exact ⟨0, by omega, rfl, Below.refl _ _, by simpa using BLC.out⟩
 case round =>
  obtain ⟨k, hk, rfl, hb1, hb2⟩ := hrel
  have HB1 := qh hb1
  have HB2 := qh hb2
  clear hb1 hb2
  by_cases hlt : k < m.procs.length
  ·obtain ⟨p, hp⟩ : ∃ p, m.procs[k]? = some p := ⟨_, qgeq hlt⟩
   obtain ⟨bp, off, c, e, _, _, hcs⟩ := prc_at HH.out.procs hp
   injection e with e1 e2 e3
   subst e1
   subst e3
   have OK := OKM.out.prc p (List.mem_of_getElem? hp)
   have hbp : bp < b := by
    have := World.block_lt_of_cell? _ _ (hcs 0 _ rfl)
    have h2 : (⟨bp, off + k * 6 + 0, none⟩ : Addr).block = bp := rfl
    rw [h2] at this
    omega
   have tr : ∀ j u, p.cells[j]? = some u → wr.cell? ⟨bp, off + k * 6 + j, none⟩ = some u := fun j u hu =>
    bel_cell HB1.out (bel_cell BEL1.out (R2.out.cellOf (ACC.out.cellOf (hcs j u hu) (by simp)) (by simp)) hbp) hbp
   have x0 := tr 0 _ rfl
   have x1 := tr 1 _ rfl
   have x2 := tr 2 _ rfl
   have x3 := tr 3 _ rfl
   have x4 := tr 4 _ rfl
   have x5 := tr 5 _ rfl
   simp only [Nat.add_zero] at x0
   have hlti : (k : Int) < (m.procs.length : Int) := by omega
   have hk0 : (0 : Int) ≤ (k : Int) := by omega
   have hla : (packA m ++ (m.procs.take k).flatMap prcL).length ≤ 90000 := by
    have h1 := packA_len OKM.out
    have h2 := flat_take_len prcL 10 1024 prcL_len m.procs k (by omega)
    rw [qlaq]
    omega
   have LB := qh hla
   have HX := qh hp
   clear hcs e2 hp tr hla
   go_upto_region 8 with (fail)
   have bz := Blk.new wr 98 #[.int .i64 p.at_, .int .i64 p.params, .int .i64 p.locals, .int .i64 p.depth, .int .i64 p.level, .bool p.func]
   have rz := (Wr.refl [] wr).alloc (.cells #[.int .i64 p.at_, .int .i64 p.params, .int .i64 p.locals, .int .i64 p.depth, .int .i64 p.level, .bool p.func] 98)
   have blz := HB2.out.keep rz
   generalize wr.alloc (.cells #[.int .i64 p.at_, .int .i64 p.params, .int .i64 p.locals, .int .i64 p.depth, .int .i64 p.level, .bool p.func] 98) = wz at *
   generalize wr.heap.size = z at *
   obtain ⟨y0, y1, y2, y3, y4, y5⟩ := c6q bz
   have BLZ := qh blz
   have RZ := qh rz
   clear bz rz blz
   refine begin1 23 [] (fun w' => w'.cell? ⟨z, 0, none⟩ = some (.int .i64 p.at_) ∧ w'.cell? ⟨z, 1, none⟩ = some (.int .i64 p.params) ∧ w'.cell? ⟨z, 2, none⟩ = some (.int .i64 p.locals) ∧ w'.cell? ⟨z, 3, none⟩ = some (.int .i64 p.depth) ∧ w'.cell? ⟨z, 4, none⟩ = some (.int .i64 p.level) ∧ w'.cell? ⟨z, 5, none⟩ = some (.bool p.func)) (by kernel_rfl) (fun W hW => ⟨hW.cellOf y0 (by simp), hW.cellOf y1 (by simp), hW.cellOf y2 (by simp), hW.cellOf y3 (by simp), hW.cellOf y4 (by simp), hW.cellOf y5 (by simp)⟩) fun HC hcl hS => ?_
   refine mvu 0 (by rfl) (by kernel_rfl) (by rfl) (fun w' hS => by (try go_split_ands); go_simp; try rfl) hcl hS fun hcl201 hS201 => ?_
   clear hcl hS
   try simp only [Act.put, qsaq, qszq, qssq]
   refine mvu 1 (by rfl) (by kernel_rfl) (by rfl) (fun w' hS => by (try go_split_ands); go_simp; try rfl) hcl201 hS201 fun hcl202 hS202 => ?_
   clear hcl201 hS201
   try simp only [Act.put, qsaq, qszq, qssq]
   refine mvu 3 (by rfl) (by kernel_rfl) (by rfl) (fun w' hS => by (try go_split_ands); go_simp; try rfl) hcl202 hS202 fun hcl203 hS203 => ?_
   clear hcl202 hS202
   try simp only [Act.put, qsaq, qszq, qssq]
   refine mvu 4 (by rfl) (by kernel_rfl) (by rfl) (fun w' hS => by (try go_split_ands); go_simp; try rfl) hcl203 hS203 fun hcl204 hS204 => ?_
   clear hcl203 hS203
   try simp only [Act.put, qsaq, qszq, qssq]
   refine mvu 7 (by rfl) (by kernel_rfl) (by rfl) (fun w' hS => by (try go_split_ands); go_simp; try rfl) hcl204 hS204 fun hcl205 hS205 => ?_
   clear hcl204 hS204
   try simp only [Act.put, qsaq, qszq, qssq]
   refine mvu 8 (by rfl) (by kernel_rfl) (by rfl) (fun w' hS => by (try go_split_ands); go_simp; try rfl) hcl205 hS205 fun hcl206 hS206 => ?_
   clear hcl205 hS205
   try simp only [Act.put, qsaq, qszq, qssq]
   refine mvu 11 (by rfl) (by kernel_rfl) (by rfl) (fun w' hS => by (try go_split_ands); go_simp; try rfl) hcl206 hS206 fun hcl207 hS207 => ?_
   clear hcl206 hS206
   try simp only [Act.put, qsaq, qszq, qssq]
   refine mvu 12 (by rfl) (by kernel_rfl) (by rfl) (fun w' hS => by (try go_split_ands); go_simp; try rfl) hcl207 hS207 fun hcl208 hS208 => ?_
   clear hcl207 hS207
   try simp only [Act.put, qsaq, qszq, qssq]
   refine mvu 15 (by rfl) (by kernel_rfl) (by rfl) (fun w' hS => by (try go_split_ands); go_simp; try rfl) hcl208 hS208 fun hcl209 hS209 => ?_
   clear hcl208 hS208
   try simp only [Act.put, qsaq, qszq, qssq]
   refine mvu 16 (by rfl) (by kernel_rfl) (by rfl) (fun w' hS => by (try go_split_ands); go_simp; try rfl) hcl209 hS209 fun hcl210 hS210 => ?_
   clear hcl209 hS209
   try simp only [Act.put, qsaq, qszq, qssq]
   refine mvu 19 (by rfl) (by kernel_rfl) (by rfl) (fun w' hS => by (try go_split_ands); go_simp; try rfl) hcl210 hS210 fun hcl211 hS211 => ?_
   clear hcl210 hS210
   try simp only [Act.put, qsaq, qszq, qssq]
   refine mvu 20 (by rfl) (by kernel_rfl) (by rfl) (fun w' hS => by (try go_split_ands); go_simp; try rfl) hcl211 hS211 fun hcl212 hS212 => ?_
   clear hcl211 hS211
   try simp only [Act.put, qsaq, qszq, qssq]
   refine st0 2 (by rfl) (by kernel_rfl) hcl212 fun K hK => ?_
   go_simp
   go_at_call 37
   refine (numI p.at_ 2 OK.a.1 OK.a.2 (by decide) (by decide) _).mono ?_
   rintro e a1 ⟨rfl, a1q⟩
   have a1r := ((Wr.refl [] wz).drew).trans a1q
   clear a1q
   refine hK _ _ (fun _ => HC.out _ a1r) (fun hcl213 => ?_)
   clear hK K hcl212 hS212
   try simp only [Act.put, qsaq, qszq, qssq]
   refine st0 5 (by rfl) (by kernel_rfl) hcl213 fun K hK => ?_
   go_simp
   go_at_call 37
   refine (numI p.params 2 OK.b.1 OK.b.2 (by decide) (by decide) _).mono ?_
   rintro e a2 ⟨rfl, a2q⟩
   have a2r := (a1r).trans a2q
   clear a2q
   refine hK _ _ (fun _ => HC.out _ a2r) (fun hcl214 => ?_)
   clear hK K hcl213
   try simp only [Act.put, qsaq, qszq, qssq]
   refine mvu 6 (by rfl) (by kernel_rfl) (by rfl) (fun w' hS => by (try go_split_ands); go_simp; try rfl) hcl214 (fun _ => HC.out _ a2r) fun hcl215 hS215 => ?_
   clear hcl214
   try simp only [Act.put, qsaq, qszq, qssq]
   refine st0 9 (by rfl) (by kernel_rfl) hcl215 fun K hK => ?_
   go_simp
   go_at_call 37
   refine (numI p.locals 2 OK.c.1 OK.c.2 (by decide) (by decide) _).mono ?_
   rintro e a3 ⟨rfl, a3q⟩
   have a3r := (a2r).trans a3q
   clear a3q
   refine hK _ _ (fun _ => HC.out _ a3r) (fun hcl216 => ?_)
   clear hK K hcl215 hS215
   try simp only [Act.put, qsaq, qszq, qssq]
   refine mvu 10 (by rfl) (by kernel_rfl) (by rfl) (fun w' hS => by (try go_split_ands); go_simp; try rfl) hcl216 (fun _ => HC.out _ a3r) fun hcl217 hS217 => ?_
   clear hcl216
   try simp only [Act.put, qsaq, qszq, qssq]
   refine st0 13 (by rfl) (by kernel_rfl) hcl217 fun K hK => ?_
   go_simp
   go_at_call 37
   refine (numI p.depth 2 OK.d.1 OK.d.2 (by decide) (by decide) _).mono ?_
   rintro e a4 ⟨rfl, a4q⟩
   have a4r := (a3r).trans a4q
   clear a4q
   refine hK _ _ (fun _ => HC.out _ a4r) (fun hcl218 => ?_)
   clear hK K hcl217 hS217
   try simp only [Act.put, qsaq, qszq, qssq]
   refine mvu 14 (by rfl) (by kernel_rfl) (by rfl) (fun w' hS => by (try go_split_ands); go_simp; try rfl) hcl218 (fun _ => HC.out _ a4r) fun hcl219 hS219 => ?_
   clear hcl218
   try simp only [Act.put, qsaq, qszq, qssq]
   refine st0 17 (by rfl) (by kernel_rfl) hcl219 fun K hK => ?_
   go_simp
   go_at_call 37
   refine (numI p.level 1 OK.e.1 (by have := OK.e.2; omega) (by decide) (by decide) _).mono ?_
   rintro e a5 ⟨rfl, a5q⟩
   have a5r := (a4r).trans a5q
   clear a5q
   refine hK _ _ (fun _ => HC.out _ a5r) (fun hcl220 => ?_)
   clear hK K hcl219 hS219
   try simp only [Act.put, qsaq, qszq, qssq]
   refine mvu 18 (by rfl) (by kernel_rfl) (by rfl) (fun w' hS => by (try go_split_ands); go_simp; try rfl) hcl220 (fun _ => HC.out _ a5r) fun hcl221 hS221 => ?_
   clear hcl220
   try simp only [Act.put, qsaq, qszq, qssq]
   refine st0 21 (by rfl) (by kernel_rfl) hcl221 fun K hK => ?_
   go_simp
   go_at_call 35
   refine (otruth_any p.func _).mono ?_
   rintro e a6 ⟨rfl, rfl⟩
   refine hK _ _ (fun _ => HC.out _ a5r) (fun hcl222 => ?_)
   clear hK K hcl221 hS221
   try simp only [Act.put, qsaq, qszq, qssq]
   refine mvu 22 (by rfl) (by kernel_rfl) (by rfl) (fun w' hS => by (try go_split_ands); go_simp; try rfl) hcl222 (fun _ => HC.out _ a5r) fun hcl223 hS223 => ?_
   clear hcl222
   try simp only [Act.put, qsaq, qszq, qssq]
   refine st0 23 (by rfl) (by kernel_rfl) hcl223 fun K hK => ?_
   go_simp
   go_at_call 44
   refine (write_b b _ _ _ (BLZ.out.keep a5r) (by have := LB.out; omega) (by simp only [ByteArray.size_append, hns, hts]; omega)).mono ?_
   rintro e wD ⟨nwD, rfl, bldD, belD⟩
   refine hK _ _ (fun hb => absurd hb (by decide)) (fun hcl999 => ?_)
   clear hK K hcl223 hS223
   refine wpAnyL_done (by kernel_rfl) (NoPanic.normal ?_) _
   try simp only [Act.put, qsaq, qszq, qssq]
   rw [bytesP] at bldD
   have hPK : PkAt b wC (packA m ++ (m.procs.take (k + 1)).flatMap prcL) wD := by
    refine ⟨HB1.out.trans ((wr_bel (RZ.out.trans a5r) (Nat.le_of_lt HB2.out.lt)).trans belD), ?_⟩
    rw [flat_take_succ prcL HX.out, ← qapq]
    exact bldD
   have HPK := qh hPK
   clear hPK bldD belD a1r a2r a3r a4r a5r HC
   go_wp2_with fail
   go_roundw
   case rel => exact ⟨k + 1, by omega, by go_num, HPK.out⟩
   case measure => simp [intOf]; omega
  ·have hkn : k = m.procs.length := by omega
   subst hkn
   have hb2 := HB2.out
   rw [List.take_length] at hb2
   have hb3 : Bld b (packB m) wr := hb2
   have BLB := qh hb3
   have BS3 : b ≤ wr.heap.size := Nat.le_of_lt hb3.lt
   have d0 := bel_cell HB1.out c0 GB
   have d2 := bel_cell HB1.out c2 GB
   have d3 := bel_cell HB1.out c3 GB
   have d4 := bel_cell HB1.out c4 GB
   clear c0 c1 c2 c3 c4 hb2 hb3
   go_wp2_with fail
   refine (HN3.out _).mono ?_
   rintro e n3 ⟨rfl, n3r⟩
   go_wp2_with fail
   refine (write_b b _ _ _ (BLB.out.keep n3r) (by have := packB_len OKM.out; omega) (by rw [hns]; omega)).mono ?_
   rintro e wF ⟨nwF, rfl, bldF, belF⟩
   have blF : Bld b (packC m) wF := bldF
   have belG := HB1.out.trans ((wr_bel n3r BS3).trans belF)
   have hq2 := bel_cell ((wr_bel n3r BS3).trans belF) d2 GB
   have hq3 := bel_cell ((wr_bel n3r BS3).trans belF) d3 GB
   have hq4 := bel_cell ((wr_bel n3r BS3).trans belF) d4 GB
   have BELG := qh belG
   have BLF := qh blF
   clear bldF belF n3r blF belG d0 d2 d3 d4
   go_wp2_with fail
   go_loopw [67] (fun i wr => ∃ k : Nat, k ≤ m.imports.length ∧ i = .int .i64 k ∧ PkAt b wF (packC m ++ (m.imports.take k).flatMap (fun i => numL i.toNat 1)) wr) (fun i _ => m.imports.length - (intOf i).toNat)
   case atStart => exact ⟨0, by omega, rfl, Below.refl _ _, by simpa using BLF.out⟩
   case round =>
    obtain ⟨k, hk, rfl, hb1, hb2⟩ := hrel
    have HI1 := qh hb1
    have HI2 := qh hb2
    have BS4 : b ≤ wr.heap.size := Nat.le_of_lt hb2.lt
    clear hb1 hb2
    by_cases hlt : k < m.imports.length
    ·obtain ⟨x, hx⟩ : ∃ x, m.imports[k]? = some x := ⟨_, qgeq hlt⟩
     obtain ⟨bp, off, c, e, _, _, hcs⟩ := i64_at HH.out.imports hx
     injection e with e1 e2 e3
     subst e1
     subst e3
     have OK := OKM.out.imp x (List.mem_of_getElem? hx)
     have hbp : bp < b := by
      have := World.block_lt_of_cell? _ _ hcs
      have h2 : (⟨bp, off + k, none⟩ : Addr).block = bp := rfl
      rw [h2] at this
      omega
     have x0 := bel_cell HI1.out (bel_cell BELG.out (bel_cell BEL1.out (R2.out.cellOf (ACC.out.cellOf hcs (by simp)) (by simp)) hbp) hbp) hbp
     have hlti : (k : Int) < (m.imports.length : Int) := by omega
     have hk0 : (0 : Int) ≤ (k : Int) := by omega
     have hla : (packC m ++ (m.imports.take k).flatMap (fun i => numL i.toNat 1)).length ≤ 91000 := by
      have h1 := packC_len OKM.out
      have h2 := flat_take_len (fun i : Int => numL i.toNat 1) 1 255 (fun i => numL_len _ _) m.imports k (by omega)
      rw [qlaq]
      omega
     have LB := qh hla
     have HX := qh hx
     have HNX := qh (fun w => numI x 1 OK.1 (by have := OK.2; omega) (by decide) (by decide) w)
     clear hcs e2 hx hla OK
     go_wp2_with fail
     refine (HNX.out _).mono ?_
     rintro e n4 ⟨rfl, n4r⟩
     go_wp2_with fail
     refine (write_b b _ _ _ (HI2.out.keep n4r) (by have := LB.out; omega) (by rw [hns]; omega)).mono ?_
     rintro e wG ⟨nwG, rfl, bldG, belH⟩
     have hPK : PkAt b wF (packC m ++ (m.imports.take (k + 1)).flatMap (fun i => numL i.toNat 1)) wG := by
      refine ⟨HI1.out.trans ((wr_bel n4r BS4).trans belH), ?_⟩
      rw [flat_take_succ _ HX.out, ← qapq]
      exact bldG
     have HPK := qh hPK
     clear hPK bldG belH n4r
     go_wp2_with fail
     refine ⟨⟨k + 1, by omega, by push_cast; rfl, HPK.out⟩, ?_⟩
     show m.imports.length - (intOf (.int .i64 ((k : Int) + 1))).toNat < m.imports.length - (intOf (.int .i64 (k : Int))).toNat
     simp only [intOf]
     omega
    ·have hkn : k = m.imports.length := by omega
     subst hkn
     have hb2 := HI2.out
     rw [List.take_length] at hb2
     have hb3 : Bld b (packD m) wr := hb2
     have BLR := qh hb3
     have BS2 : b ≤ wr.heap.size := BS4
     have c3 := bel_cell HI1.out hq3 GB
     have c4 := bel_cell HI1.out hq4 GB
     clear hq2 hq3 hq4 hb2 hb3
     go_wp2_with fail
     have hC : ∀ W, Below b wr W → W.cell? ⟨g, 3, none⟩ = some (.int .i64 m.data) ∧ W.cell? ⟨g, 4, none⟩ = some (.slice An m.init.length cn) := fun W hW => ⟨bel_cell hW c3 GB, bel_cell hW c4 GB⟩
     have HC := qh hC
     clear hC
     refine wp_region_noPanic ?_
     refine wp_region_L (AlwO fun w' => w'.cell? ⟨g, 3, none⟩ = some (.int .i64 m.data) ∧ w'.cell? ⟨g, 4, none⟩ = some (.slice An m.init.length cn)) (by kernel_rfl) (fun hcl => ?_)
     have hS : AlwO (fun w' => w'.cell? ⟨g, 3, none⟩ = some (.int .i64 m.data) ∧ w'.cell? ⟨g, 4, none⟩ = some (.slice An m.init.length cn)) (Array.replicate 9 false) wr.drew := ⟨c3, c4⟩
     refine mva 0 (by rfl) (by kernel_rfl) (by rfl) (fun w' hS => by (try go_split_ands); go_simp; try rfl) hcl hS fun hcl301 hS301 => ?_
     clear hcl hS
     try simp only [Act.put, qsaq, qszq, qssq]
     refine mva 1 (by rfl) (by kernel_rfl) (by rfl) (fun w' hS => by (try go_split_ands); go_simp; try rfl) hcl301 hS301 fun hcl302 hS302 => ?_
     clear hcl301 hS301
     try simp only [Act.put, qsaq, qszq, qssq]
     refine mva 3 (by rfl) (by kernel_rfl) (by rfl) (fun w' hS => by (try go_split_ands); go_simp; try rfl) hcl302 hS302 fun hcl303 hS303 => ?_
     clear hcl302 hS302
     try simp only [Act.put, qsaq, qszq, qssq]
     refine mva 4 (by rfl) (by kernel_rfl) (by rfl) (fun w' hS => by (try go_split_ands); go_simp; try rfl) hcl303 hS303 fun hcl304 hS304 => ?_
     clear hcl303 hS303
     try simp only [Act.put, qsaq, qszq, qssq]
     refine mva 5 (by rfl) (by kernel_rfl) (by rfl) (fun w' hS => by (try go_split_ands); go_simp; try rfl) hcl304 hS304 fun hcl305 hS305 => ?_
     clear hcl304 hS304
     try simp only [Act.put, qsaq, qszq, qssq]
     refine st0 2 (by rfl) (by kernel_rfl) hcl305 fun K hK => ?_
     go_simp
     go_at_call 37
     refine (numI m.data 2 OKM.out.data.1 OKM.out.data.2 (by decide) (by decide) _).mono ?_
     rintro e e1 ⟨rfl, e1q⟩
     have e1r := ((Wr.refl [] wr).drew).trans e1q
     clear e1q
     refine hK _ _ (HC.out _ (wr_bel e1r BS2)) (fun hcl306 => ?_)
     clear hK K hcl305 hS305
     try simp only [Act.put, qsaq, qszq, qssq]
     refine st0 6 (by rfl) (by kernel_rfl) hcl306 fun K hK => ?_
     go_simp
     go_at_call 37
     refine (HN4.out _).mono ?_
     rintro e e2 ⟨rfl, e2q⟩
     have e2r := (e1r).trans e2q
     clear e2q
     refine hK _ _ (HC.out _ (wr_bel e2r BS2)) (fun hcl307 => ?_)
     clear hK K hcl306
     try simp only [Act.put, qsaq, qszq, qssq]
     refine mva 7 (by rfl) (by kernel_rfl) (by rfl) (fun w' hS => by (try go_split_ands); go_simp; try rfl) hcl307 (HC.out _ (wr_bel e2r BS2)) fun hcl308 hS308 => ?_
     clear hcl307
     try simp only [Act.put, qsaq, qszq, qssq]
     refine st0 8 (by rfl) (by kernel_rfl) hcl308 fun K hK => ?_
     go_simp
     go_at_call 44
     refine (write_b b _ _ _ (BLR.out.keep e2r) (by have := packD_len OKM.out; omega) (by simp only [ByteArray.size_append, hns]; omega)).mono ?_
     rintro e wE ⟨nwE, rfl, bldE, belC⟩
     refine hK _ _ (HC.out _ ((wr_bel e2r BS2).trans belC)) (fun hcl309 => ?_)
     clear hK K hcl308 hS308
     try simp only [Act.put, qsaq, qszq, qssq]
     refine wpAnyL_done (by kernel_rfl) (NoPanic.normal ?_) _
     try simp only [Act.put, qsaq, qszq, qssq]
     have belJ := (wr_bel e2r BS2).trans belC
     rw [bytesE] at bldE
     have BLE := qh bldE
     have BELJ := qh (BELG.out.trans (HI1.out.trans belJ))
     replace c4 := bel_cell belJ c4 GB
     clear bldE belC belJ e1r e2r HC c3
     go_wp2_with fail
     go_loopw [87] (fun i wr => ∃ k : Nat, k ≤ m.init.length ∧ i = .int .i64 k ∧ PkAt b wE (packE m ++ (m.init.take k).flatMap (fun i => numL i.toNat 2)) wr) (fun i _ => m.init.length - (intOf i).toNat)
     case atStart => exact ⟨0, by omega, rfl, Below.refl _ _, by simpa using BLE.out⟩
     case round =>
      obtain ⟨k, hk, rfl, hb1, hb2⟩ := hrel
      have HJ1 := qh hb1
      have HJ2 := qh hb2
      have BS5 : b ≤ wr.heap.size := Nat.le_of_lt hb2.lt
      clear hb1 hb2
      by_cases hlt : k < m.init.length
      ·obtain ⟨x, hx⟩ : ∃ x, m.init[k]? = some x := ⟨_, qgeq hlt⟩
       obtain ⟨bp, off, c, e, _, _, hcs⟩ := u16_at HH.out.init hx
       injection e with e1 e2 e3
       subst e1
       subst e3
       have OK := HWD.out x (List.mem_of_getElem? hx)
       have hbp : bp < b := by
        have := World.block_lt_of_cell? _ _ hcs
        have h2 : (⟨bp, off + k, none⟩ : Addr).block = bp := rfl
        rw [h2] at this
        omega
       have x0 := bel_cell HJ1.out (bel_cell BELJ.out (bel_cell BEL1.out (R2.out.cellOf (ACC.out.cellOf hcs (by simp)) (by simp)) hbp) hbp) hbp
       have hlti : (k : Int) < (m.init.length : Int) := by omega
       have hk0 : (0 : Int) ≤ (k : Int) := by omega
       have hla : (packE m ++ (m.init.take k).flatMap (fun i => numL i.toNat 2)).length ≤ 300000 := by
        have h1 := packE_len OKM.out
        have h2 := flat_take_len (fun i : Int => numL i.toNat 2) 2 65535 (fun i => numL_len _ _) m.init k (by omega)
        rw [qlaq]
        omega
       have LB := qh hla
       have HX := qh hx
       have HNX := qh (fun w => numW x 2 OK.1 OK.2 (by decide) (by decide) w)
       clear hcs e2 hx hla OK
       go_wp2_with fail
       refine (HNX.out _).mono ?_
       rintro e n5 ⟨rfl, n5r⟩
       go_wp2_with fail
       refine (write_b b _ _ _ (HJ2.out.keep n5r) (by have := LB.out; omega) (by rw [hns]; omega)).mono ?_
       rintro e wG ⟨nwG, rfl, bldG, belH⟩
       have hPK : PkAt b wE (packE m ++ (m.init.take (k + 1)).flatMap (fun i => numL i.toNat 2)) wG := by
        refine ⟨HJ1.out.trans ((wr_bel n5r BS5).trans belH), ?_⟩
        rw [flat_take_succ _ HX.out, ← qapq]
        exact bldG
       have HPK := qh hPK
       clear hPK bldG belH n5r
       go_wp2_with fail
       go_roundw
       case rel => exact ⟨k + 1, by omega, by go_num, HPK.out⟩
       case measure => simp [intOf]; omega
      ·have hkn : k = m.init.length := by omega
       subst hkn
       have hb2 := HJ2.out
       rw [List.take_length] at hb2
       replace hb2 : Bld b (packL m) wr := by rw [pack_eq]; exact hb2
       have hst := string_b b _ _ hb2
       rw [HPL.out] at hst
       have HST := qh hst
       have hfin := fun (w' : World) (hx : Below b wr w') => bel_wr (ACC.out.trans R2.out) (by omega) (BEL1.out.trans (BELJ.out.trans (HJ1.out.trans hx)))
       have HFIN := qh hfin
       clear hb2 hst hfin
       go_wp2_with fail
       refine HST.out.mono ?_
       rintro e wZ ⟨rfl, belZ⟩
       go_wp2_with fail
       go_ret2
       exact ⟨rfl, HFIN.out _ belZ⟩
def packP (m : ModD) : List UInt8 × Int := if omodB m then (packL m, 0) else ([], 2)
def PackR (m : ModD) (w : World) (e : Ending) (w' : World) : Prop := e = .returned (.tuple #[.string ⟨(packP m).1.toArray⟩, .int .i64 (packP m).2]) ∧ Wr [] w w'
theorem pack_any (m : ModD) (vp vi vn : Value) (P : Nat → Prop) (hwd : wordsB m) (w : World) (h : ModL w P vp vi vn m) : Calls Tryz.prog 12 #[m.val vp vi vn] w (PackR m w) := by
 unfold PackR packP
 cases hm : omodB m with
 | false => exact pack_no m vp vi vn P hm w h
 | true => exact pack_yes m vp vi vn P hm hwd w h
end Go.Proofs.YtildcdgobdfieaaGreat
