/- How long an object's bytes are; an object in its box. No conditions. -/
import Derived.Test.YtildcdgobdfieaaGreatRD40
set_option linter.unusedVariables false
set_option linter.unusedSimpArgs false
set_option maxRecDepth 100000
set_option maxHeartbeats 32000000
namespace Go.Proofs.YtildcdgobdfieaaGreat
open Go.RowKit
theorem textL_len (s : ByteArray) : (textL s).length = 1 + s.size := by
 unfold textL
 rw [qlaq, numL_len]
 rfl
theorem texS_size (s : ByteArray) : (texS s).size = 1 + s.size := by
 show (textL s).toArray.size = _
 rw [List.size_toArray, textL_len]
theorem bytes_len {s : ByteArray} {l : List UInt8} (h : s.data.toList = l) : s.size = l.length := by rw [← h]; rfl
structure ObjOk (o : ObjD) : Prop where
 name : o.module.size ≤ 255
 uses : o.uses.length ≤ 255
 use : ∀ u ∈ o.uses, u.module.size ≤ 255
 mod : omodB o.mod = true
theorem obj_ok {o : ObjD} (h : objB o = true) : ObjOk o := by
 unfold objB nameB at h
 simp only [Bool.and_eq_true, decide_eq_true_eq] at h
 obtain ⟨⟨⟨⟨⟨n1, n2⟩, u1⟩, i1⟩, u2⟩, m1⟩ := h
 exact ⟨n2, u1, usesB_names _ _ u2, m1⟩
theorem flat_le2 {α : Type} (f : α → List UInt8) (c : Nat) : ∀ l : List α, (∀ x ∈ l, (f x).length ≤ c) → (l.flatMap f).length ≤ l.length * c
 | [], _ => by simp
 | x :: l, h => by
  rw [qfcq, qlaq, List.length_cons, Nat.succ_mul]
  have := h x (by simp)
  have := flat_le2 f c l (fun y hy => h y (by simp [hy]))
  omega
theorem useL_len {u : UseD} (h : u.module.size ≤ 255) : (useL u).length ≤ 264 := by
 unfold useL
 rw [qlaq, textL_len, numL_len]
 omega
theorem packL_len {m : ModD} (h : ModOk m) : (packL m).length ≤ 300000 := by
 rw [pack_eq, qlaq, flat_const _ 2 (fun i => numL_len _ _)]
 have := packE_len h
 have := h.init
 omega
def headO (o : ObjD) : List UInt8 := textL o.module ++ truL o.main ++ numL o.key.toNat 8 ++ numL o.uses.length 1
theorem truL_len (b : Bool) : (truL b).length = 1 := by cases b <;> rfl
theorem headO_len {o : ObjD} (h : ObjOk o) : (headO o).length ≤ 266 := by
 unfold headO
 simp only [qlaq, textL_len, numL_len, truL_len]
 have := h.name
 omega
theorem uses_len {o : ObjD} (h : ObjOk o) (k : Nat) : (headO o ++ (o.uses.take k).flatMap useL).length ≤ 70000 := by
 rw [qlaq]
 have h1 := headO_len h
 have h2 := flat_le2 useL 264 (o.uses.take k) (fun u hu => useL_len (h.use u (List.mem_of_mem_take hu)))
 have h3 : (o.uses.take k).length ≤ 255 := by
  rw [List.length_take]
  have := h.uses
  omega
 omega
theorem body_eq (o : ObjD) : bodyL o = headO o ++ (o.uses.take o.uses.length).flatMap useL ++ packL o.mod := by
 rw [List.take_length]
 rfl
def kindS : ByteArray := ⟨#[83, 69, 80, 79]⟩
theorem file_eq {s : ByteArray} {l : List UInt8} (h : s.data.toList = l) : kindS ++ numS (keyL l) 8 ++ s = ⟨(fileL objKind l).toArray⟩ := by
 apply ByteArray.ext
 rw [ByteArray.data_append, ByteArray.data_append]
 apply Array.ext'
 rw [Array.toList_append, Array.toList_append, h]
 rfl
theorem keyL_nats {s : ByteArray} {l : List UInt8} (h : s.data.toList = l) : ofN (moreN 14695981039346656037 (natsOf s)) = keyL l := by
 unfold keyL natsOf
 rw [h]
theorem numU (x : Int) (h0 : 0 ≤ x ∧ x < 18446744073709551616) (w : World) :
  Calls Tryz.prog 36 #[.int .u64 x, .int .i64 8] w fun e w' => e = .returned (.string (numS x.toNat 8)) ∧ Wr [] w w' := by
 have := number_uint64 x.toNat 8 (by omega) (by decide) (by decide) w
 rw [Int.toNat_of_nonneg h0.1] at this
 exact this
def EnAt (w0 : World) (L : List UInt8) (s4 : Value) (wr : World) : Prop := ∃ s : ByteArray, s4 = .string s ∧ s.data.toList = L ∧ Wr [] w0 wr
theorem oenc_no (o : ObjD) (vu vp vi vn : Value) (P : Nat → Prop) (hm : objB o = false) (w : World) (h : ObjL w P vu vp vi vn o) :
  Calls Tryz.prog 10 #[o.val vu vp vi vn] w fun e w' => e = .returned (.tuple #[.string ⟨#[]⟩, .int .i64 2]) ∧ Wr [] w w' := by
 obtain ⟨Au, cu, rfl, lu1, lu2⟩ := Sl.form h.uses
 obtain ⟨Ap, cp, rfl, lp1, lp2⟩ := Sl.form h.mod.procs
 obtain ⟨Ai, ci, rfl, li1, li2⟩ := Sl.form h.mod.imports
 obtain ⟨An, cn, rfl, ln1, ln2⟩ := Sl.form h.mod.init
 unfold maxLen at lu2
 have acc := (Wr.refl [] w).alloc (.cells #[.string o.module, .bool o.main, .int .u64 o.key, .slice Au o.uses.length cu, .string o.mod.code, .slice Ap o.mod.procs.length cp, .slice Ai o.mod.imports.length ci, .int .i64 o.mod.data, .slice An o.mod.init.length cn] 30)
 have bA := Blk.new w 30 #[.string o.module, .bool o.main, .int .u64 o.key, .slice Au o.uses.length cu, .string o.mod.code, .slice Ap o.mod.procs.length cp, .slice Ai o.mod.imports.length ci, .int .i64 o.mod.data, .slice An o.mod.init.length cn]
 have hc := omay_any o _ _ _ _ P _ (h.wr0 acc)
 rw [hm] at hc
 unfold ObjD.val ObjD.cells at hc ⊢
 obtain ⟨w0, hw0⟩ : ∃ w0, w.alloc (.cells #[.string o.module, .bool o.main, .int .u64 o.key, .slice Au o.uses.length cu, .string o.mod.code, .slice Ap o.mod.procs.length cp, .slice Ai o.mod.imports.length ci, .int .i64 o.mod.data, .slice An o.mod.init.length cn] 30) = w0 := ⟨_, rfl⟩
 obtain ⟨g, hg⟩ : ∃ g, w.heap.size = g := ⟨_, rfl⟩
 rw [hw0] at acc bA hc
 rw [hg] at bA
 have Hw0 := qh hw0
 have Hg := qh hg
 have HC0 := qh hc
 have ACC := qh acc
 have HH := qh (h.wr0 acc)
 clear hw0 hg h hc acc
 go_in
 go_upto_region 1 with (fail)
 rw [Hw0.out, Hg.out]
 obtain ⟨c0, c1, c2, c3, c4, c5, c6, c7, c8⟩ := c9q (bA)
 go_wp2_with fail
 refine HC0.out.mono ?_
 rintro e w1 ⟨rfl, r1⟩
 go_wp2_with fail
 go_ret2
 exact ⟨rfl, ACC.out.trans r1⟩
theorem oenc_yes (o : ObjD) (vu vp vi vn : Value) (P : Nat → Prop) (hm : objB o = true) (hW : objW o) (w : World) (h : ObjL w P vu vp vi vn o) :
  Calls Tryz.prog 10 #[o.val vu vp vi vn] w fun e w' => e = .returned (.tuple #[.string ⟨(fileL objKind (bodyL o)).toArray⟩, .int .i64 0]) ∧ Wr [] w w' := by
 have okm := obj_ok hm
 have OKM := qh okm
 have HW := qh hW
 obtain ⟨FL, hFL⟩ : ∃ q : ByteArray, (⟨(fileL objKind (bodyL o)).toArray⟩ : ByteArray) = q := ⟨_, rfl⟩
 rw [hFL]
 have HFL := qh hFL
 have q1 := okm.name
 have q2 := okm.uses
 have HTX := qh (fun w => otext_any o.module q1 w)
 have HNU := qh (fun w => numU o.key hW.key w)
 have HNI := qh (fun w => number_int o.uses.length 1 (by omega) (by decide) (by decide) w)
 have hpk := fun w (h : ModL w P vp vi vn o.mod) => pack_any o.mod _ _ _ P hW.words w h
 unfold PackR packP at hpk
 rw [okm.mod, if_pos rfl] at hpk
 clear hFL okm hW
 obtain ⟨Au, cu, rfl, lu1, lu2⟩ := Sl.form h.uses
 obtain ⟨Ap, cp, rfl, lp1, lp2⟩ := Sl.form h.mod.procs
 obtain ⟨Ai, ci, rfl, li1, li2⟩ := Sl.form h.mod.imports
 obtain ⟨An, cn, rfl, ln1, ln2⟩ := Sl.form h.mod.init
 unfold maxLen at lu2
 have acc := (Wr.refl [] w).alloc (.cells #[.string o.module, .bool o.main, .int .u64 o.key, .slice Au o.uses.length cu, .string o.mod.code, .slice Ap o.mod.procs.length cp, .slice Ai o.mod.imports.length ci, .int .i64 o.mod.data, .slice An o.mod.init.length cn] 30)
 have bA := Blk.new w 30 #[.string o.module, .bool o.main, .int .u64 o.key, .slice Au o.uses.length cu, .string o.mod.code, .slice Ap o.mod.procs.length cp, .slice Ai o.mod.imports.length ci, .int .i64 o.mod.data, .slice An o.mod.init.length cn]
 have hc := omay_any o _ _ _ _ P _ (h.wr0 acc)
 rw [hm] at hc
 unfold ObjD.val ObjD.cells at hc ⊢
 obtain ⟨w0, hw0⟩ : ∃ w0, w.alloc (.cells #[.string o.module, .bool o.main, .int .u64 o.key, .slice Au o.uses.length cu, .string o.mod.code, .slice Ap o.mod.procs.length cp, .slice Ai o.mod.imports.length ci, .int .i64 o.mod.data, .slice An o.mod.init.length cn] 30) = w0 := ⟨_, rfl⟩
 obtain ⟨g, hg⟩ : ∃ g, w.heap.size = g := ⟨_, rfl⟩
 rw [hw0] at acc bA hc
 rw [hg] at bA
 have Hw0 := qh hw0
 have Hg := qh hg
 have HC0 := qh hc
 have ACC := qh acc
 have HH := qh (h.wr0 acc)
 unfold ModD.val ModD.cells at hpk
 have HPK := qh hpk
 clear hpk
 clear hw0 hg h hc acc
 go_in
 go_upto_region 1 with (fail)
 rw [Hw0.out, Hg.out]
 obtain ⟨c0, c1, c2, c3, c4, c5, c6, c7, c8⟩ := c9q (bA)
 go_wp2_with fail
 refine HC0.out.mono ?_
 rintro e w1 ⟨rfl, r1⟩
 have R1 := qh r1
 replace c0 := r1.cellOf c0 (by simp)
 replace c1 := r1.cellOf c1 (by simp)
 replace c2 := r1.cellOf c2 (by simp)
 replace c3 := r1.cellOf c3 (by simp)
 replace c4 := r1.cellOf c4 (by simp)
 replace c5 := r1.cellOf c5 (by simp)
 replace c6 := r1.cellOf c6 (by simp)
 replace c7 := r1.cellOf c7 (by simp)
 replace c8 := r1.cellOf c8 (by simp)
 have hns := numS_size
 have hts := truS_size
 have hxs := texS_size
 have s1 : ¬ 9223372036854775807 < 1 + o.module.size + 1 := by omega
 have s2 : ¬ 9223372036854775807 < 1 + o.module.size + 1 + 8 := by omega
 have s3 : ¬ 9223372036854775807 < 1 + o.module.size + 1 + 8 + 1 := by omega
 clear r1 bA
 go_wp2_with fail
 refine begin2 [] (fun w' => w'.cell? ⟨g, 0, none⟩ = some (.string o.module) ∧ w'.cell? ⟨g, 1, none⟩ = some (.bool o.main) ∧ w'.cell? ⟨g, 2, none⟩ = some (.int .u64 o.key) ∧ w'.cell? ⟨g, 3, none⟩ = some (.slice Au o.uses.length cu)) (by kernel_rfl) (fun W hW => ⟨hW.cellOf c0 (by simp), hW.cellOf c1 (by simp), hW.cellOf c2 (by simp), hW.cellOf c3 (by simp)⟩) fun HC hcl hS => ?_
 refine mva 0 (by rfl) (by kernel_rfl) (by rfl) (fun w' hS => by (try go_split_ands); go_simp; try rfl) hcl hS fun hcl101 hS101 => ?_
 clear hcl hS
 try simp only [Act.put, qsaq, qszq, qssq]
 refine mva 1 (by rfl) (by kernel_rfl) (by rfl) (fun w' hS => by (try go_split_ands); go_simp; try rfl) hcl101 hS101 fun hcl102 hS102 => ?_
 clear hcl101 hS101
 try simp only [Act.put, qsaq, qszq, qssq]
 refine mva 3 (by rfl) (by kernel_rfl) (by rfl) (fun w' hS => by (try go_split_ands); go_simp; try rfl) hcl102 hS102 fun hcl103 hS103 => ?_
 clear hcl102 hS102
 try simp only [Act.put, qsaq, qszq, qssq]
 refine mva 4 (by rfl) (by kernel_rfl) (by rfl) (fun w' hS => by (try go_split_ands); go_simp; try rfl) hcl103 hS103 fun hcl104 hS104 => ?_
 clear hcl103 hS103
 try simp only [Act.put, qsaq, qszq, qssq]
 refine mva 7 (by rfl) (by kernel_rfl) (by rfl) (fun w' hS => by (try go_split_ands); go_simp; try rfl) hcl104 hS104 fun hcl105 hS105 => ?_
 clear hcl104 hS104
 try simp only [Act.put, qsaq, qszq, qssq]
 refine mva 8 (by rfl) (by kernel_rfl) (by rfl) (fun w' hS => by (try go_split_ands); go_simp; try rfl) hcl105 hS105 fun hcl106 hS106 => ?_
 clear hcl105 hS105
 try simp only [Act.put, qsaq, qszq, qssq]
 refine mva 11 (by rfl) (by kernel_rfl) (by rfl) (fun w' hS => by (try go_split_ands); go_simp; try rfl) hcl106 hS106 fun hcl107 hS107 => ?_
 clear hcl106 hS106
 try simp only [Act.put, qsaq, qszq, qssq]
 refine mva 12 (by rfl) (by kernel_rfl) (by rfl) (fun w' hS => by (try go_split_ands); go_simp; try rfl) hcl107 hS107 fun hcl108 hS108 => ?_
 clear hcl107 hS107
 try simp only [Act.put, qsaq, qszq, qssq]
 refine mva 13 (by rfl) (by kernel_rfl) (by rfl) (fun w' hS => by (try go_split_ands); go_simp; try rfl) hcl108 hS108 fun hcl109 hS109 => ?_
 clear hcl108 hS108
 try simp only [Act.put, qsaq, qszq, qssq]
 refine st0 2 (by rfl) (by kernel_rfl) hcl109 fun K hK => ?_
 go_simp
 go_at_call 34
 refine (HTX.out _).mono ?_
 rintro e a1 ⟨rfl, a1q⟩
 have a1r := ((Wr.refl [] w1).drew).trans a1q
 clear a1q
 refine hK _ _ (HC.out _ a1r) (fun hcl110 => ?_)
 clear hK K hcl109 hS109
 try simp only [Act.put, qsaq, qszq, qssq]
 refine st0 5 (by rfl) (by kernel_rfl) hcl110 fun K hK => ?_
 go_simp
 go_at_call 35
 refine (otruth_any o.main _).mono ?_
 rintro e a2 ⟨rfl, rfl⟩
 refine hK _ _ (HC.out _ a1r) (fun hcl111 => ?_)
 clear hK K hcl110
 try simp only [Act.put, qsaq, qszq, qssq]
 refine mva 6 (by rfl) (by kernel_rfl) (by rfl) (fun w' hS => by (try go_split_ands); go_simp; try rfl) hcl111 (HC.out _ a1r) fun hcl112 hS112 => ?_
 clear hcl111
 try simp only [Act.put, qsaq, qszq, qssq]
 refine st0 9 (by rfl) (by kernel_rfl) hcl112 fun K hK => ?_
 go_simp
 go_at_call 36
 refine (HNU.out _).mono ?_
 rintro e a3 ⟨rfl, a3q⟩
 have a3r := (a1r).trans a3q
 clear a3q
 refine hK _ _ (HC.out _ a3r) (fun hcl113 => ?_)
 clear hK K hcl112 hS112
 try simp only [Act.put, qsaq, qszq, qssq]
 refine mva 10 (by rfl) (by kernel_rfl) (by rfl) (fun w' hS => by (try go_split_ands); go_simp; try rfl) hcl113 (HC.out _ a3r) fun hcl114 hS114 => ?_
 clear hcl113
 try simp only [Act.put, qsaq, qszq, qssq]
 refine st0 14 (by rfl) (by kernel_rfl) hcl114 fun K hK => ?_
 go_simp
 go_at_call 37
 refine (HNI.out _).mono ?_
 rintro e a4 ⟨rfl, a4q⟩
 have a4r := (a3r).trans a4q
 clear a4q
 refine hK _ _ (HC.out _ a4r) (fun hcl115 => ?_)
 clear hK K hcl114 hS114
 try simp only [Act.put, qsaq, qszq, qssq]
 refine mva 15 (by rfl) (by kernel_rfl) (by rfl) (fun w' hS => by (try go_split_ands); go_simp; try rfl) hcl115 (HC.out _ a4r) fun hcl116 hS116 => ?_
 clear hcl115
 try simp only [Act.put, qsaq, qszq, qssq]
 refine mva 16 (by rfl) (by kernel_rfl) (by rfl) (fun w' hS => by (try go_split_ands); go_simp; try rfl) hcl116 hS116 fun hcl117 hS117 => ?_
 clear hcl116 hS116
 try simp only [Act.put, qsaq, qszq, qssq]
 refine wpAnyL_done (by kernel_rfl) (NoPanic.normal ?_) _
 try simp only [Act.put, qsaq, qszq, qssq]
 obtain ⟨S, hS⟩ : ∃ q, texS o.module ++ truS o.main ++ numS o.key.toNat 8 ++ numS o.uses.length 1 = q := ⟨_, rfl⟩
 have hSl : S.data.toList = headO o := by
  rw [← hS]
  simp only [bytes_app, numS_list, truS_list]
  rfl
 rw [hS]
 have HSL := qh hSl
 replace c0 := a4r.cellOf c0 (by simp)
 replace c3 := a4r.cellOf c3 (by simp)
 replace c4 := a4r.cellOf c4 (by simp)
 replace c5 := a4r.cellOf c5 (by simp)
 replace c6 := a4r.cellOf c6 (by simp)
 replace c7 := a4r.cellOf c7 (by simp)
 replace c8 := a4r.cellOf c8 (by simp)
 have R4 := qh a4r
 clear hS hSl a4r a3r a1r HC c1 c2 s1 s2 s3
 go_wp2_with fail
 go_loopw [4, 31] (fun s4 i wr => ∃ k : Nat, k ≤ o.uses.length ∧ i = .int .i64 k ∧ EnAt a4 (headO o ++ (o.uses.take k).flatMap useL) s4 wr) (fun _ i _ => o.uses.length - (intOf i).toNat)
 case atStart => exact ⟨0, by omega, rfl, S, rfl, by simpa using HSL.out, Wr.refl _ _⟩
 case round =>
  obtain ⟨k, hk, rfl, s, rfl, hs, hr⟩ := hrel
  have RR := qh hr
  have hsz : s.size ≤ 70000 := by rw [bytes_len hs]; exact uses_len OKM.out k
  have SS := qh hs
  clear hr hs
  by_cases hlt : k < o.uses.length
  ·obtain ⟨u, hu⟩ : ∃ u, o.uses[k]? = some u := ⟨_, qgeq hlt⟩
   obtain ⟨bu, off, c, e, _, _, hcs⟩ := use_at HH.out.uses hu
   injection e with e1 e2 e3
   subst e1
   subst e3
   have OK := OKM.out.use u (List.mem_of_getElem? hu)
   have HTU := qh (fun w => otext_any u.module OK w)
   have HNK := qh (fun w => numU u.key (HW.out.keys u (List.mem_of_getElem? hu)) w)
   have rwr := (R1.out.trans R4.out).trans RR.out
   have x0 := rwr.cellOf (hcs 0 _ rfl) (by simp)
   have x1 := rwr.cellOf (hcs 1 _ rfl) (by simp)
   simp only [Nat.add_zero] at x0
   have hlti : (k : Int) < (o.uses.length : Int) := by omega
   have hk0 : (0 : Int) ≤ (k : Int) := by omega
   have HX := qh hu
   clear hcs e2 hu rwr
   go_upto_region 7 with (fail)
   have bz := Blk.new wr 72 #[.string u.module, .int .u64 u.key]
   have rz := (Wr.refl [] wr).alloc (.cells #[.string u.module, .int .u64 u.key] 72)
   generalize wr.alloc (.cells #[.string u.module, .int .u64 u.key] 72) = wz at *
   generalize wr.heap.size = z at *
   obtain ⟨y0, y1⟩ := c2q bz
   have s1 : ¬ 9223372036854775807 < 1 + u.module.size + 8 := by omega
   have s2 : ¬ 9223372036854775807 < s.size + (1 + u.module.size + 8) := by omega
   clear bz
   refine begin2 [] (fun w' => w'.cell? ⟨z, 0, none⟩ = some (.string u.module) ∧ w'.cell? ⟨z, 1, none⟩ = some (.int .u64 u.key)) (by kernel_rfl) (fun W hW => ⟨hW.cellOf y0 (by simp), hW.cellOf y1 (by simp)⟩) fun HC hcl hS => ?_
   refine mva 0 (by rfl) (by kernel_rfl) (by rfl) (fun w' hS => by (try go_split_ands); go_simp; try rfl) hcl hS fun hcl201 hS201 => ?_
   clear hcl hS
   try simp only [Act.put, qsaq, qszq, qssq]
   refine mva 1 (by rfl) (by kernel_rfl) (by rfl) (fun w' hS => by (try go_split_ands); go_simp; try rfl) hcl201 hS201 fun hcl202 hS202 => ?_
   clear hcl201 hS201
   try simp only [Act.put, qsaq, qszq, qssq]
   refine mva 2 (by rfl) (by kernel_rfl) (by rfl) (fun w' hS => by (try go_split_ands); go_simp; try rfl) hcl202 hS202 fun hcl203 hS203 => ?_
   clear hcl202 hS202
   try simp only [Act.put, qsaq, qszq, qssq]
   refine mva 4 (by rfl) (by kernel_rfl) (by rfl) (fun w' hS => by (try go_split_ands); go_simp; try rfl) hcl203 hS203 fun hcl204 hS204 => ?_
   clear hcl203 hS203
   try simp only [Act.put, qsaq, qszq, qssq]
   refine mva 5 (by rfl) (by kernel_rfl) (by rfl) (fun w' hS => by (try go_split_ands); go_simp; try rfl) hcl204 hS204 fun hcl205 hS205 => ?_
   clear hcl204 hS204
   try simp only [Act.put, qsaq, qszq, qssq]
   refine st0 3 (by rfl) (by kernel_rfl) hcl205 fun K hK => ?_
   go_simp
   go_at_call 34
   refine (HTU.out _).mono ?_
   rintro e b1 ⟨rfl, b1q⟩
   have b1r := ((Wr.refl [] wz).drew).trans b1q
   clear b1q
   refine hK _ _ (HC.out _ b1r) (fun hcl206 => ?_)
   clear hK K hcl205 hS205
   try simp only [Act.put, qsaq, qszq, qssq]
   refine st0 6 (by rfl) (by kernel_rfl) hcl206 fun K hK => ?_
   go_simp
   go_at_call 36
   refine (HNK.out _).mono ?_
   rintro e b2 ⟨rfl, b2q⟩
   have b2r := (b1r).trans b2q
   clear b2q
   refine hK _ _ (HC.out _ b2r) (fun hcl207 => ?_)
   clear hK K hcl206
   try simp only [Act.put, qsaq, qszq, qssq]
   refine mva 7 (by rfl) (by kernel_rfl) (by rfl) (fun w' hS => by (try go_split_ands); go_simp; try rfl) hcl207 (HC.out _ b2r) fun hcl208 hS208 => ?_
   clear hcl207
   try simp only [Act.put, qsaq, qszq, qssq]
   refine mva 8 (by rfl) (by kernel_rfl) (by rfl) (fun w' hS => by (try go_split_ands); go_simp; try rfl) hcl208 hS208 fun hcl209 hS209 => ?_
   clear hcl208 hS208
   try simp only [Act.put, qsaq, qszq, qssq]
   refine mva 9 (by rfl) (by kernel_rfl) (by rfl) (fun w' hS => by (try go_split_ands); go_simp; try rfl) hcl209 hS209 fun hcl210 hS210 => ?_
   clear hcl209 hS209
   try simp only [Act.put, qsaq, qszq, qssq]
   refine wpAnyL_done (by kernel_rfl) (NoPanic.normal ?_) _
   try simp only [Act.put, qsaq, qszq, qssq]
   have hEn : EnAt a4 (headO o ++ (o.uses.take (k + 1)).flatMap useL) (.string (s ++ (texS u.module ++ numS u.key.toNat 8))) b2 := by
    refine ⟨_, rfl, ?_, (RR.out.trans rz).trans b2r⟩
    rw [flat_take_succ useL HX.out, ← qapq, bytes_app, bytes_app, SS.out]
    rfl
   have HEN := qh hEn
   clear hEn rz b1r b2r HC s1 s2
   go_wp2_with fail
   go_roundw
   case rel => exact ⟨k + 1, by omega, by go_num, HEN.out⟩
   case measure => simp [intOf]; omega
  ·have hkn : k = o.uses.length := by omega
   subst hkn
   have rq := R4.out.trans RR.out
   have d4 := RR.out.cellOf c4 (by simp)
   have d5 := RR.out.cellOf c5 (by simp)
   have d6 := RR.out.cellOf c6 (by simp)
   have d7 := RR.out.cellOf c7 (by simp)
   have d8 := RR.out.cellOf c8 (by simp)
   have hpq := HPK.out wr (HH.out.mod.wr0 (R1.out.trans rq))
   obtain ⟨pk, hpk⟩ : ∃ q : ByteArray, (⟨(packL o.mod).toArray⟩ : ByteArray) = q := ⟨_, rfl⟩
   rw [hpk] at hpq
   have hpl : pk.size ≤ 300000 := by
    rw [← hpk]
    exact packL_len (mod_ok OKM.out.mod)
   have hbo : (s ++ pk).data.toList = bodyL o := by
    rw [bytes_app, SS.out, ← hpk, body_eq]
   have HPQ := qh hpq
   have HBO := qh hbo
   have RQ := qh rq
   have s1 : ¬ 9223372036854775807 < s.size + pk.size := by omega
   have e1 : (s ++ pk).size = s.size + pk.size := ByteArray.size_append
   have hof := fun w => of_any (s ++ pk) (by rw [e1]; unfold maxLen; omega) w
   rw [keyL_nats hbo] at hof
   have hk8 := keyL_lt (bodyL o)
   have hnk := fun w => number_uint64 (keyL (bodyL o)) 8 hk8 (by decide) (by decide) w
   have hfe := file_eq hbo
   rw [HFL.out] at hfe
   obtain ⟨K, hK⟩ : ∃ q, keyL (bodyL o) = q := ⟨_, rfl⟩
   rw [hK] at hof hnk hfe
   have HOF := qh hof
   have HNK := qh hnk
   have HFE := qh hfe
   have s2 : ¬ 9223372036854775807 < 4 + 8 + (s.size + pk.size) := by omega
   clear c0 c3 c4 c5 c6 c7 c8 hpk hpq hbo rq e1 hof hk8 hnk hfe hK
   go_wp2_with fail
   refine HPQ.out.mono ?_
   rintro e w5 ⟨rfl, r5⟩
   go_wp2_with fail
   refine (HOF.out _).mono ?_
   rintro e w6 ⟨rfl, rfl⟩
   go_wp2_with fail
   refine (HNK.out _).mono ?_
   rintro e w7 ⟨rfl, r7⟩
   go_wp2_with fail
   go_ret2
   refine ⟨?_, ((ACC.out.trans R1.out).trans RQ.out).trans (r5.trans r7)⟩
   rw [← HFE.out]
   rfl
def OEncR (o : ObjD) (w : World) (e : Ending) (w' : World) : Prop := e = .returned (.tuple #[.string ⟨(encodeP o).1.toArray⟩, .int .i64 (encodeP o).2]) ∧ Wr [] w w'
theorem oenc_any (o : ObjD) (vu vp vi vn : Value) (P : Nat → Prop) (hW : objW o) (w : World) (h : ObjL w P vu vp vi vn o) : Calls Tryz.prog 10 #[o.val vu vp vi vn] w (OEncR o w) := by
 unfold OEncR encodeP
 cases hm : objB o with
 | false => exact oenc_no o vu vp vi vn P hm w h
 | true => exact oenc_yes o vu vp vi vn P hm hW w h
end Go.Proofs.YtildcdgobdfieaaGreat
