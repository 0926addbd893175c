/- The document's interfaces, whose values are plain: as data, in memory; a plain value as an any. No conditions. -/
import Derived.Test.YtjanbpchedgoiaaGreatKT13
set_option linter.unusedVariables false
set_option linter.unusedSimpArgs false
set_option maxRecDepth 100000
set_option maxHeartbeats 32000000
namespace Go.Proofs.YtjanbpchedgoiaaGreat
open Go.RowKit
structure PVal where
 sort : Int
 n : Int
 type : Int
 text : ByteArray
structure PItm where
 name : ByteArray
 kind : Int
 type : Int
 at_ : Int
 v : PVal
structure FaceP where
 module : ByteArray
 uses : List UseD
 types : List Ty
 items : List PItm
def anyOf (v : PVal) : AnyD :=
 if v.sort = 0 then .nil else if v.sort = 1 then .whole v.n else if v.sort = 2 then .letter (v.n % 256) else if v.sort = 3 then .truth (decide (v.n % 2 ≠ 0)) else if v.sort = 4 then .bits (v.n % 65536) else if v.sort = 5 then .str v.text else if v.sort = 6 then .item v.type v.n else if v.sort = 7 then .null else .other
def itmOf (x : PItm) : ItmD := ⟨x.name, x.kind, x.type, x.at_, anyOf x.v⟩
def faceOf (f : FaceP) : FaceD := ⟨f.module, f.uses, f.types, f.items.map itmOf⟩
def valOf : AnyD → PVal
 | .nil => ⟨0, 0, 0, ⟨#[]⟩⟩
 | .whole n => ⟨1, n, 0, ⟨#[]⟩⟩
 | .letter n => ⟨2, n, 0, ⟨#[]⟩⟩
 | .truth b => ⟨3, if b then 1 else 0, 0, ⟨#[]⟩⟩
 | .bits n => ⟨4, n, 0, ⟨#[]⟩⟩
 | .str s => ⟨5, 0, 0, s⟩
 | .item t n => ⟨6, n, t, ⟨#[]⟩⟩
 | .null => ⟨7, 0, 0, ⟨#[]⟩⟩
 | .other => ⟨8, 0, 0, ⟨#[]⟩⟩
def pitmOf (x : ItmD) : PItm := ⟨x.name, x.kind, x.type, x.at_, valOf x.v⟩
def facePl (f : FaceD) : FaceP := ⟨f.module, f.uses, f.types, f.items.map pitmOf⟩
def PVal.cells (v : PVal) : List Value := [.int .u8 v.sort, .int .i64 v.n, .int .i64 v.type, .string v.text]
def PItm.cells (x : PItm) : List Value := [.string x.name, .int .u8 x.kind, .int .i64 x.type, .int .i64 x.at_, .int .u8 x.v.sort, .int .i64 x.v.n, .int .i64 x.v.type, .string x.v.text]
theorem pitm_len (x : PItm) : x.cells.length = 8 := rfl
def SlPItms (w : World) (P : Nat → Prop) (v : Value) (l : List PItm) : Prop := Sl w P 8 v l.length (l.flatMap PItm.cells)
structure FacePL (w : World) (P : Nat → Prop) (vu vt vi : Value) (f : FaceP) : Prop where
 uses : SlUsesF w P vu f.uses
 types : SlTys w P vt f.types
 items : SlPItms w P vi f.items
theorem pitm_at {w : World} {P : Nat → Prop} {v : Value} {l : List PItm} (h : SlPItms w P v l) {i : Nat} {x : PItm} (hi : l[i]? = some x) : ∃ b off c, v = .slice (some ⟨b, off, none⟩) l.length c ∧ P b ∧ ∀ j u, x.cells[j]? = some u → w.cell? ⟨b, off + i * 8 + j, none⟩ = some u := by
 obtain ⟨b, off, c, e, _, _, hP, h4⟩ := Sl.thing h (by decide) (List.getElem?_eq_some_iff.1 hi).1
 refine ⟨b, off, c, e, hP, fun j u hj => ?_⟩
 have hj5 : j < 8 := (List.getElem?_eq_some_iff.1 hj).1
 rw [Nat.add_assoc]
 exact h4 j u hj5 (by rw [flatF_at pitm_len l i j x hi hj5]; exact hj)
theorem FacePL.keep {w w' : World} {P : Nat → Prop} {vu vt vi : Value} {ls : List Nat} {f : FaceP} (h : FacePL w P vu vt vi f) (hw : Wr ls w w') (hP : ∀ b, P b → b ∉ ls) : FacePL w' P vu vt vi f := ⟨Sl.keep h.uses hw hP, h.types.keep hw hP, Sl.keep h.items hw hP⟩
theorem FacePL.wr0 {w w' : World} {P : Nat → Prop} {vu vt vi : Value} {f : FaceP} (h : FacePL w P vu vt vi f) (hw : Wr [] w w') : FacePL w' P vu vt vi f := h.keep hw (fun _ _ => by simp)
theorem FacePL.forms {w : World} {P : Nat → Prop} {vu vt vi : Value} {f : FaceP} (h : FacePL w P vu vt vi f) : (∃ A k, vu = .slice A f.uses.length k ∧ f.uses.length ≤ k ∧ k ≤ maxLen) ∧ (∃ A k, vt = .slice A f.types.length k ∧ f.types.length ≤ k ∧ k ≤ maxLen) ∧ ∃ A k, vi = .slice A f.items.length k ∧ f.items.length ≤ k ∧ k ≤ maxLen := ⟨Sl.form h.uses, h.types.form, Sl.form h.items⟩
theorem any_0 (n t : Int) (x : ByteArray) (w : World) : Calls Tryz.prog 20 #[.agg #[.int .u8 0, .int .i64 n, .int .i64 t, .string x]] w fun e w' => e = .returned (.nilIface) ∧ Wr [] w w' := by
 go_enter Tryz.func20, Tryz.ntmps20
 go_wp2_with fail
 go_ret
 exact ⟨rfl, (Wr.refl _ _).alloc _⟩
theorem any_1 (n t : Int) (x : ByteArray) (w : World) : Calls Tryz.prog 20 #[.agg #[.int .u8 1, .int .i64 n, .int .i64 t, .string x]] w fun e w' => e = .returned (.iface 96 (.int .i64 n)) ∧ Wr [] w w' := by
 go_enter Tryz.func20, Tryz.ntmps20
 go_wp2_with fail
 go_ret
 exact ⟨rfl, (Wr.refl _ _).alloc _⟩
theorem any_2 (n t : Int) (x : ByteArray) (w : World) : Calls Tryz.prog 20 #[.agg #[.int .u8 2, .int .i64 n, .int .i64 t, .string x]] w fun e w' => e = .returned (.iface 97 (.int .u8 (n % 256))) ∧ Wr [] w w' := by
 have e1 : IntKind.u8.wrap n = n % 256 := IntKind.wrap_u8 n
 go_enter Tryz.func20, Tryz.ntmps20
 go_wp2_with fail
 go_ret
 exact ⟨rfl, (Wr.refl _ _).alloc _⟩
theorem any_3 (n t : Int) (x : ByteArray) (w : World) : Calls Tryz.prog 20 #[.agg #[.int .u8 3, .int .i64 n, .int .i64 t, .string x]] w fun e w' => e = .returned (.iface 98 (.bool (decide (n % 2 ≠ 0)))) ∧ Wr [] w w' := by
 have e1 : (n.tmod 2 != 0) = decide (n % 2 ≠ 0) := by
  have k : n.tmod 2 = 0 ↔ n % 2 = 0 := ⟨fun h => Int.emod_eq_zero_of_dvd (Int.dvd_of_tmod_eq_zero h), fun h => Int.tmod_eq_zero_of_dvd (Int.dvd_of_emod_eq_zero h)⟩
  by_cases h : n % 2 = 0
  ·simp [k.2 h, h]
  ·have h2 : n.tmod 2 ≠ 0 := fun e => h (k.1 e)
   simp [h, h2]
 generalize decide (n % 2 ≠ 0) = tt at *
 go_enter Tryz.func20, Tryz.ntmps20
 go_wp2_with fail
 go_ret
 exact ⟨rfl, (Wr.refl _ _).alloc _⟩
theorem any_4 (n t : Int) (x : ByteArray) (w : World) : Calls Tryz.prog 20 #[.agg #[.int .u8 4, .int .i64 n, .int .i64 t, .string x]] w fun e w' => e = .returned (.iface 100 (.int .u16 (n % 65536))) ∧ Wr [] w w' := by
 have e1 : IntKind.u16.wrap n = n % 65536 := by simp [IntKind.wrap, IntKind.bits, IntKind.signed]
 go_enter Tryz.func20, Tryz.ntmps20
 go_wp2_with fail
 go_ret
 exact ⟨rfl, (Wr.refl _ _).alloc _⟩
theorem any_5 (n t : Int) (x : ByteArray) (w : World) : Calls Tryz.prog 20 #[.agg #[.int .u8 5, .int .i64 n, .int .i64 t, .string x]] w fun e w' => e = .returned (.iface 101 (.string x)) ∧ Wr [] w w' := by
 go_enter Tryz.func20, Tryz.ntmps20
 go_wp2_with fail
 go_ret
 exact ⟨rfl, (Wr.refl _ _).alloc _⟩
theorem any_6 (n t : Int) (x : ByteArray) (w : World) : Calls Tryz.prog 20 #[.agg #[.int .u8 6, .int .i64 n, .int .i64 t, .string x]] w fun e w' => e = .returned (.iface 86 (.agg #[.int .i64 t, .int .i64 n])) ∧ Wr [] w w' := by
 go_enter Tryz.func20, Tryz.ntmps20
 go_wp2_with fail
 go_ret
 exact ⟨rfl, (Wr.refl _ _).alloc _⟩
theorem any_7 (n t : Int) (x : ByteArray) (w : World) : Calls Tryz.prog 20 #[.agg #[.int .u8 7, .int .i64 n, .int .i64 t, .string x]] w fun e w' => e = .returned (.iface 103 (.agg #[])) ∧ Wr [] w w' := by
 go_enter Tryz.func20, Tryz.ntmps20
 go_wp2_with fail
 go_ret
 exact ⟨rfl, (Wr.refl _ _).alloc _⟩
theorem any_8 (s n t : Int) (x : ByteArray) (h0 : 8 ≤ s) (w : World) : Calls Tryz.prog 20 #[.agg #[.int .u8 s, .int .i64 n, .int .i64 t, .string x]] w fun e w' => e = .returned (.iface 9 (.string ⟨#[110, 111, 110, 101]⟩)) ∧ Wr [] w w' := by
 have d0 : (s == 0) = false := by simp; omega
 have d1 : (s == 1) = false := by simp; omega
 have d2 : (s == 2) = false := by simp; omega
 have d3 : (s == 3) = false := by simp; omega
 have d4 : (s == 4) = false := by simp; omega
 have d5 : (s == 5) = false := by simp; omega
 have d6 : (s == 6) = false := by simp; omega
 have d7 : (s == 7) = false := by simp; omega
 go_enter Tryz.func20, Tryz.ntmps20
 go_wp2_with fail
 go_ret
 exact ⟨rfl, (Wr.refl _ _).alloc _⟩
theorem any_any (v : PVal) (h0 : 0 ≤ v.sort) (w : World) : Calls Tryz.prog 20 #[.agg #[.int .u8 v.sort, .int .i64 v.n, .int .i64 v.type, .string v.text]] w fun e w' => e = .returned (anyOf v).val ∧ Wr [] w w' := by
 obtain ⟨s, n, t, x⟩ := v
 simp only at h0 ⊢
 rcases Int.lt_or_le s 8 with h | h
 ·have : s = 0 ∨ s = 1 ∨ s = 2 ∨ s = 3 ∨ s = 4 ∨ s = 5 ∨ s = 6 ∨ s = 7 := by omega
  rcases this with rfl | rfl | rfl | rfl | rfl | rfl | rfl | rfl
  ·exact any_0 n t x w
  ·exact any_1 n t x w
  ·exact any_2 n t x w
  ·exact any_3 n t x w
  ·exact any_4 n t x w
  ·exact any_5 n t x w
  ·exact any_6 n t x w
  ·exact any_7 n t x w
 ·have e : anyOf ⟨s, n, t, x⟩ = .other := by
   unfold anyOf
   simp only
   rw [if_neg (by omega), if_neg (by omega), if_neg (by omega), if_neg (by omega), if_neg (by omega), if_neg (by omega), if_neg (by omega), if_neg (by omega)]
  rw [e]
  exact any_8 s n t x h w
theorem meets_push {kd : Int → List Int} {T : List Int} (hT : ∀ n, 10 ≤ n → n ∈ T → ∀ x ∈ kd n, 10 ≤ x → x ∈ T) {k : Nat} {n : Int} {l ord : List Int} (h10 : 10 ≤ n) (hno : n ∉ ord) (hn : n ∈ T) (hf : fresh T ord ≤ k) :
  meets kd (k + 1) (n :: l) ord = meets kd (k + 1) (kd n ++ l) (ord ++ [n]) := by
 have hlt : fresh T (ord ++ [n]) < fresh T ord := fresh_lt (fun x h => List.mem_append_left _ h) hn hno (by simp)
 rw [meets_cons, if_neg (show ¬ (n < 10 ∨ n ∈ ord) from fun h => by rcases h with h | h; omega; exact hno h), meets_append]
 congr 1
 exact meets_fuel hT k (k + 1) (kd n) (ord ++ [n]) (by omega) (by omega) (hT n h10 hn)
def pitmKids (x : PItm) : List Int := [x.type, x.v.type]
def pstarts (l : List ItmD) : List Int := (l.map pitmOf).flatMap pitmKids
theorem pstarts_eq {kd : Int → List Int} (k : Nat) : ∀ (l : List ItmD) (ord : List Int), meets kd (k + 1) (pstarts l) ord = meets kd (k + 1) (l.flatMap itmKids) ord
 | [], _ => rfl
 | x :: l, ord => by
  have ih := pstarts_eq (kd := kd) k l
  unfold pstarts at ih ⊢
  rw [List.map_cons, qfcq, qfcq, meets_append, meets_append, ih]
  congr 1
  unfold pitmKids itmKids pitmOf
  cases x.v with
  | item t n => rfl
  | _ => simp only [valOf, meets_cons, meets_nil]; rfl
structure MetI (f : FaceD) (ord L : List Int) : Prop where
 eq : meets (kidsAt f.types) (f.types.length + 1) L ord = ordOf f
 nodup : ord.Nodup
 inT : ∀ x ∈ ord, x ∈ nums f.types.length
 todo : ∀ x ∈ L, tyB f.types.length x = true
 room : (f.types.length - ord.length) * 200000 + L.length ≤ 300000000
theorem room_step (T O K M : Nat) (h1 : (T - O) * 200000 + (M + 1) ≤ 300000000) (h2 : K ≤ 131073) (h3 : O + 1 ≤ T) : (T - (O + 1)) * 200000 + (K + M) ≤ 300000000 := by
 have e : T - O = (T - (O + 1)) + 1 := by omega
 rw [e, Nat.add_mul, Nat.one_mul] at h1
 generalize (T - (O + 1)) * 200000 = X at *
 omega
section
variable {f : FaceD} {ord L : List Int} {n : Int} {t : Ty}
theorem nums_len (nt : Nat) : (nums nt).length = nt := by unfold nums; rw [qlmq, List.length_range]
theorem MetI.le (h : MetI f ord L) : ord.length ≤ f.types.length := by
 have := len_sub ord _ h.nodup h.inT
 rw [nums_len] at this
 exact this
theorem may_types (hm : mayP f = 0) : f.types.length ≤ 1024 ∧ f.items.length ≤ 512 ∧ f.uses.length ≤ 64 := by
 have h := (face_parts hm).1
 unfold faceFit at h
 simp only [Bool.and_eq_true, decide_eq_true_eq] at h
 exact ⟨h.1.1.1.1.2, h.1.1.1.1.1.2, h.1.1.1.1.1.1⟩
theorem may_tyFit (hm : mayP f = 0) {t : Ty} (ht : t ∈ f.types) : tyFit t = true := by
 have h := (face_parts hm).1
 unfold faceFit at h
 simp only [Bool.and_eq_true, List.all_eq_true] at h
 exact h.1.2 t ht
theorem flat2_len (l : List ItmD) : (pstarts l).length = 2 * l.length := by
 induction l with
 | nil => rfl
 | cons x l ih => unfold pstarts at ih ⊢; rw [List.map_cons, qfcq, qlaq, ih]; show 2 + _ = _; rw [List.length_cons]; omega
theorem MetI.start (hm : mayP f = 0) : MetI f [] (pstarts f.items) := by
 obtain ⟨h1, h2, _⟩ := may_types hm
 refine ⟨pstarts_eq _ _ _, by simp, by simp, fun x hx => ?_, by rw [flat2_len]; simp only [List.length_nil]; omega⟩
 obtain ⟨y, hy, hxy⟩ := List.mem_flatMap.1 hx
 obtain ⟨z, hz, rfl⟩ := List.mem_map.1 hy
 have hf := itm_form (face_items hm z hz)
 unfold pitmKids pitmOf at hxy
 unfold itmKids at hf
 have h0 : tyB f.types.length 0 = true := by rw [tyB_iff]; omega
 generalize z.v = v at *
 simp only [qmcq, qnnq, or_false] at hxy
 rcases hxy with rfl | rfl
 ·cases v <;> exact hf _ (by simp)
 ·cases v with
  | item t n => exact hf t (by simp)
  | _ => exact h0
theorem MetI.done (h : MetI f ord []) : ord = ordOf f := by
 have := h.eq
 rw [meets_nil] at this
 exact this
theorem MetI.skip (h : MetI f ord (n :: L)) (hn : n < 10 ∨ n ∈ ord) : MetI f ord L := by
 refine ⟨?_, h.nodup, h.inT, fun x hx => h.todo x (List.mem_cons_of_mem _ hx), by have := h.room; rw [List.length_cons] at this; omega⟩
 have := h.eq
 rw [meets_cons, if_pos hn] at this
 exact this
theorem MetI.at_ (h : MetI f ord (n :: L)) (h10 : 10 ≤ n) : ∃ t, f.types[(n - 10).toNat]? = some t ∧ (n - 10).toNat < f.types.length ∧ n ∈ nums f.types.length := by
 have hn := tyB_nums (h.todo n (by simp)) h10
 obtain ⟨h1, h2⟩ := nums_iff.1 hn
 have hlt : (n - 10).toNat < f.types.length := by omega
 exact ⟨_, qgeq hlt, hlt, hn⟩
theorem kids_len (t : Ty) : (kids t).length = 3 + t.fields.length + t.params.length := by
 unfold kids
 simp only [List.length_cons, qlaq, qlmq, List.length_nil]
 omega
theorem kids_room (hm : mayP f = 0) {t : Ty} (ht : t ∈ f.types) : (kids t).length ≤ 131073 := by
 have h := may_tyFit hm ht
 unfold tyFit fwB at h
 simp only [Bool.and_eq_true, decide_eq_true_eq] at h
 rw [kids_len]
 have h1 := h.1.1.1.1.1.2
 have h2 := h.1.1.1.2
 omega
theorem MetI.step (hm : mayP f = 0) (h : MetI f ord (n :: L)) (h10 : 10 ≤ n) (hno : n ∉ ord) (ht : f.types[(n - 10).toNat]? = some t) : MetI f (ord ++ [n]) (kids t ++ L) := by
 have hn := tyB_nums (h.todo n (by simp)) h10
 have hk : kidsAt f.types n = kids t := by unfold kidsAt; rw [ht]
 have hfr : fresh (nums f.types.length) ord ≤ f.types.length := by
  have := fresh_mono (T := nums f.types.length) (o := []) (o' := ord) (fun n h => by cases h)
  rw [fresh_all] at this
  exact this
 have hmem := List.mem_of_getElem? ht
 have hnd : (ord ++ [n]).Nodup := by
  rw [List.nodup_append]
  refine ⟨h.nodup, by simp, fun a ha b hb e => ?_⟩
  rw [qmsq] at hb
  subst hb
  subst e
  exact hno ha
 have hin : ∀ x ∈ ord ++ [n], x ∈ nums f.types.length := fun x hx => by
  rcases List.mem_append.1 hx with h1 | h1
  ·exact h.inT x h1
  ·rw [qmsq] at h1; rw [h1]; exact hn
 have hle := len_sub _ _ hnd hin
 rw [nums_len, qlaq, List.length_singleton] at hle
 refine ⟨?_, hnd, hin, fun x hx => ?_, ?_⟩
 ·have := h.eq
  rw [meets_push (closed hm) h10 hno hn hfr, hk] at this
  exact this
 ·rcases List.mem_append.1 hx with h1 | h1
  ·exact kids_form (face_types hm t hmem) x h1
  ·exact h.todo x (List.mem_cons_of_mem _ h1)
 ·have h1 := h.room
  rw [List.length_cons] at h1
  rw [qlaq, qlaq, List.length_singleton]
  exact room_step _ _ _ _ h1 (kids_room hm hmem) hle
end
end Go.Proofs.YtjanbpchedgoiaaGreat
