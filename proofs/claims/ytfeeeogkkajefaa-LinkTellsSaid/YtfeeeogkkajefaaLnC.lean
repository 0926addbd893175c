/- link's third closure (the keys): walked. Conditions: the names are not too many. -/
import Derived.Test.YtfeeeogkkajefaaLnB
namespace Go.Proofs.Ytfeeeogkkajefaa
open Go.RowKit
set_option linter.unusedVariables false
set_option linter.unusedSimpArgs false

def IntV (v : Value) (n : Int) : Prop := v = .int .i64 n
section
variable (o : ObjD) (vu vp vi vn : Value) (w : World)
theorem fld_main : (Instr.field 52 (o.val vu vp vi vn) 1).run Try.prog w = .ok (.bool o.main) w := by kernel_rfl
theorem fld_key : (Instr.field 52 (o.val vu vp vi vn) 2).run Try.prog w = .ok (.int .u64 o.key) w := by kernel_rfl
theorem fld_uses : (Instr.field 52 (o.val vu vp vi vn) 3).run Try.prog w = .ok vu w := by kernel_rfl
theorem fld_mod : (Instr.field 52 (o.val vu vp vi vn) 4).run Try.prog w = .ok (o.mod.val vp vi vn) w := by kernel_rfl
end
theorem fld_data (m : ModD) (vp vi vn : Value) (w : World) : (Instr.field 50 (m.val vp vi vn) 3).run Try.prog w = .ok (.int .i64 m.data) w := by kernel_rfl
theorem keysAt_drop {l : List ObjD} {n : Nat} {names : List ByteArray} {k : Nat} {m : ByteArray} (h : names[k]? = some m) :
    keysAt l n k (names.drop k) = if (objOf l m).main = decide (k + 1 = n) then if mismatch l (objOf l m) then some (m, 230) else keysAt l n (k + 1) (names.drop (k + 1)) else some (m, 231) := by
  obtain ⟨hk, e⟩ := List.getElem?_eq_some_iff.1 h
  conv => lhs; rw [List.drop_eq_getElem_cons hk, keysAt]
  rw [e]
theorem places_next {names : List ByteArray} {k : Nat} {m : ByteArray} (h : names[k]? = some m) : lastOf (numbered 0 (names.take (k + 1))) = fun j => if j = m then some (k : Int) else lastOf (numbered 0 (names.take k)) j := by
  obtain ⟨hk, _⟩ := List.getElem?_eq_some_iff.1 h
  funext j
  rw [List.take_add_one, h]
  show lastOf (numbered 0 (names.take k ++ [m])) j = _
  rw [numbered_snoc, lastOf_snoc, List.length_take, Nat.min_eq_left (Nat.le_of_lt hk), Nat.zero_add]
  by_cases e : m = j
  · rw [if_pos e, if_pos e.symm]
  · rw [if_neg e, if_neg (fun h => e h.symm)]
/-- What the third closure answers. -/
def C3P (w : World) (gp : Nat) (names : List ByteArray) (r : Option (ByteArray × Int)) (e : Ending) (w' : World) : Prop :=
  Wr [gp] w w' ∧ match r with
    | some p => e = .returned (.tuple #[.string p.1, .int .i64 p.2])
    | none => e = .returned (.tuple #[.string ⟨#[]⟩, .int .i64 0]) ∧ MapR w' gp IntV (lastOf (numbered 0 names))
def C3At (w0 w : World) (gp : Nat) (l : List ObjD) (names : List ByteArray) (k : Nat) (wr : World) : Prop :=
  Wr [gp] w wr ∧ Wr [] w0 wr ∧ MapR wr gp IntV (lastOf (numbered 0 (names.take k))) ∧ keysAt l names.length 0 names = keysAt l names.length k (names.drop k)
def C3In (wo : World) (l : List ObjD) (o : ObjD) (j : Nat) (wr : World) : Prop := Wr [] wo wr ∧ ∀ (i : Nat) (u : UseD), i < j → o.uses[i]? = some u → (objOf l u.module).key = u.key
set_option maxRecDepth 100000 in
set_option maxHeartbeats 8000000 in
theorem clos3_any (l : List ObjD) (names : List ByteArray) (hlen : names.length ≤ 1000000000) (vn : Value) (w0 w : World) (pn pp pa gp ga : Nat) (Q : Nat → Prop) (hQ : ∀ b, Q b → b ≠ gp) (hw : Wr [] w0 w)
    (bn : Blk w pn 25 #[vn]) (bp : Blk w pp 65 #[.map (some gp)]) (ba : Blk w pa 64 #[.map (some ga)]) (hs : SlStr w Q vn names) (hall : AllM w0 w ga l l.length)
    (hm : MapR w gp IntV (fun _ => none)) (hgp : w0.heap.size ≤ gp) (hne : pn ≠ gp ∧ pp ≠ gp ∧ pa ≠ gp ∧ ga ≠ gp) :
    Calls Try.prog 22 #[.pointer (some ⟨pn, 0, none⟩), .pointer (some ⟨pp, 0, none⟩), .pointer (some ⟨pa, 0, none⟩)] w (C3P w gp names (keysAt l names.length 0 names)) := by
  obtain ⟨A, c, rfl, l1, l2⟩ := Sl.form hs
  unfold maxLen at l2
  obtain ⟨r, hr⟩ : ∃ r, keysAt l names.length 0 names = r := ⟨_, rfl⟩
  rw [hr]
  have x0 := bn.cell 0
  simp only [List.getElem?_toArray, List.getElem?_cons_zero] at x0
  obtain ⟨n1, n2, n3, n4⟩ := hne
  have HR := Lib.hid hr
  have BN := Lib.hid bn
  have BP := Lib.hid bp
  have BA := Lib.hid ba
  have HS := Lib.hid hs
  have HALL := Lib.hid hall
  have HM := Lib.hid hm
  have HW := Lib.hid hw
  have HQ := Lib.hid hQ
  clear hr bn bp ba hs hall hm hw hQ
  go_enter Try.func22, Try.ntmps22
  go_wp2_with fail
  go_loopw [11] (fun s11 wr => ∃ k : Nat, k ≤ names.length ∧ s11 = .int .i64 k ∧ C3At w0 w gp l names k wr) (fun s11 _ => names.length - (intOf s11).toNat)
  case atStart => exact ⟨0, by omega, rfl, Wr.refl _ w, HW.out, HM.out, rfl⟩
  case round =>
    obtain ⟨k, hk, rfl, acc, acc0, hmp, hka⟩ := hrel
    have HKA := Lib.hid hka
    clear hka x0
    by_cases hlt : k < names.length
    · obtain ⟨m, hmk⟩ : ∃ m, names[k]? = some m := ⟨_, List.getElem?_eq_getElem hlt⟩
      obtain ⟨b, off, cc, ee, _, _, hqb, hc0⟩ := Sl.at_ HS.out (j := k) (u := .string m) (by rw [List.getElem?_map, hmk]; rfl)
      injection ee with q1 q2 q3
      subst q1
      subst q3
      have hcell := acc.cellOf hc0 (fun hx => HQ.out b hqb (by simpa using hx))
      have y0 := (BP.out.wr acc (by simpa using n2)).cell 0
      obtain ⟨w1, hu1, k1, hm1⟩ := MapR.upd Try.underlying65 Try.underlying9 hmp m (.int .i64 (k : Int)) (k : Int) rfl
      rw [← places_next hmk] at hm1
      have acc1 := acc.trans k1
      have acc01 := acc0.new k1 hgp
      have y1 := (BA.out.wr acc1 (by simpa using n3)).cell 0
      have y2 := (BN.out.wr acc1 (by simpa using n1)).cell 0
      simp only [List.getElem?_toArray, List.getElem?_cons_zero] at y0 y1 y2
      have hall1 : AllM w0 w1 ga l l.length := MapR.keep HALL.out acc1 (by simpa using n4)
      obtain ⟨vu, vp, vi, vn', hl1, hol⟩ := hall1.look m
      obtain ⟨Bu, du, rfl, lu1, lu2⟩ := Sl.form hol.uses
      unfold maxLen at lu2
      have hkd := HKA.out.trans (keysAt_drop hmk)
      have fm := fun w => fld_main (objOf l m) (.slice Bu (objOf l m).uses.length du) vp vi vn' w
      have fu := fun w => fld_uses (objOf l m) (.slice Bu (objOf l m).uses.length du) vp vi vn' w
      obtain ⟨o, ho⟩ : ∃ o, objOf l m = o := ⟨_, rfl⟩
      rw [ho] at hl1 hol hkd fm fu lu1
      have hlti : (k : Int) < (names.length : Int) := by omega
      have hk0 : (0 : Int) ≤ (k : Int) := by omega
      have HKD := Lib.hid hkd
      have HOL := Lib.hid hol
      have HALL1 := Lib.hid hall1
      have HM1 := Lib.hid hm1
      have ACC1 := Lib.hid acc1
      have ACC01 := Lib.hid acc01
      have HO := Lib.hid ho
      clear q2 hmk hqb hc0 hmp k1 hm1 acc1 acc01 acc acc0 hall1 hol hkd ho
      obtain ⟨bl, hbl⟩ : ∃ bl, decide (k + 1 = names.length) = bl := ⟨_, rfl⟩
      have heq : ((k : Int) == (names.length : Int) - 1) = bl := by
        rw [← hbl, Bool.eq_iff_iff, beq_iff_eq, decide_eq_true_iff]
        omega
      have HBL := Lib.hid hbl
      clear hbl
      by_cases hmn : o.main = bl
      · have hkd2 : keysAt l names.length 0 names = if mismatch l o then some (m, 230) else keysAt l names.length (k + 1) (names.drop (k + 1)) := by rw [HKD.out, HBL.out, if_pos hmn]
        have HKD2 := Lib.hid hkd2
        have hne2 : (o.main == bl) = true := by simpa using hmn
        obtain ⟨wo, rfl⟩ : ∃ wo : World, wo = w1 := ⟨_, rfl⟩
        clear hmn hkd2
        go_wp2_with fail
        go_loopw [35] (fun s35 w2 => ∃ j : Nat, j ≤ o.uses.length ∧ s35 = .int .i64 j ∧ C3In wo l o j w2) (fun s35 _ => o.uses.length - (intOf s35).toNat)
        case atStart => exact ⟨0, by omega, rfl, Wr.refl _ _, fun i u hi => absurd hi (by omega)⟩
        case round =>
          obtain ⟨j, hj, rfl, rin, hyes⟩ := hrel
          have HYES := Lib.hid hyes
          clear hyes
          by_cases hlt2 : j < o.uses.length
          · obtain ⟨u, hu⟩ : ∃ u, o.uses[j]? = some u := ⟨_, List.getElem?_eq_getElem hlt2⟩
            obtain ⟨bu, offu, cu, eu, _, _, hcu⟩ := use_at ((HOL.out.wr0 ACC01.out).wr0 rin).uses hu
            injection eu with q1 q2 q3
            subst q1
            subst q3
            have z0 := hcu 0 _ rfl
            have z1 := hcu 1 _ rfl
            simp only [Nat.add_zero] at z0
            have p0 := rin.cellOf y1 (by simp)
            have hpz := World.block_lt_of_cell? wr _ p0
            have hallU : AllM w0 (wr.alloc (.cells #[.string u.module, .int .u64 u.key] 54)) ga l l.length := MapR.keep HALL1.out (rin.alloc _) (by simp)
            obtain ⟨vu2, vp2, vi2, vn2, hl2, _⟩ := hallU.look u.module
            have fk := fun w => fld_key (objOf l u.module) vu2 vp2 vi2 vn2 w
            have rin2 := rin.alloc (.cells #[.string u.module, .int .u64 u.key] 54)
            have HU := Lib.hid hu
            have RIN2 := Lib.hid rin2
            have hlti2 : (j : Int) < (o.uses.length : Int) := by omega
            have hj0 : (0 : Int) ≤ (j : Int) := by omega
            clear q2 hu hcu hallU rin2 rin
            by_cases hke : (objOf l u.module).key = u.key
            · have hb : ((objOf l u.module).key == u.key) = true := by simpa using hke
              have HKE := Lib.hid hke
              clear hke
              go_wp2_with fail
              go_roundw
              case rel =>
                refine ⟨j + 1, by omega, by go_num, RIN2.out, fun i u' hi hu' => ?_⟩
                by_cases hij : i = j
                · subst hij
                  rw [HU.out] at hu'
                  injection hu' with hu'
                  rw [← hu']
                  exact HKE.out
                · exact HYES.out i u' (by omega) hu'
              case measure => simp [intOf]; omega
            · have hb : ((objOf l u.module).key == u.key) = false := by simpa using hke
              have hmm : mismatch l o = true := by
                unfold mismatch
                rw [List.any_eq_true]
                exact ⟨u, List.mem_of_getElem? HU.out, decide_eq_true hke⟩
              have hrr : r = some (m, 230) := by rw [← HR.out, HKD2.out, if_pos hmm]
              have HRR := Lib.hid hrr
              clear hke hmm hrr
              go_wp2_with fail
              go_ret2
              exact ⟨ACC1.out.trans0 RIN2.out, by rw [HRR.out]; rfl⟩
          · have hjn : j = o.uses.length := by omega
            subst hjn
            have hmm : mismatch l o = false := by
              unfold mismatch
              rw [List.any_eq_false]
              intro u hu
              obtain ⟨i, hi⟩ := List.getElem?_of_mem hu
              simpa using HYES.out i u (List.getElem?_eq_some_iff.1 hi).1 hi
            have hka2 : keysAt l names.length 0 names = keysAt l names.length (k + 1) (names.drop (k + 1)) := by rw [HKD2.out, hmm]; rfl
            have hmp2 : MapR wr gp IntV (lastOf (numbered 0 (names.take (k + 1)))) := HM1.out.keep rin (by simp)
            have HKA2 := Lib.hid hka2
            have HMP2 := Lib.hid hmp2
            have ACC2 := Lib.hid (ACC1.out.trans0 rin)
            have ACC02 := Lib.hid (ACC01.out.trans rin)
            clear hmm hka2 hmp2 rin
            go_wp2_with fail
            go_roundw
            case rel => exact ⟨k + 1, by omega, by go_num, ACC2.out, ACC02.out, HMP2.out, HKA2.out⟩
            case measure => simp [intOf]; omega
      · have hrr : r = some (m, 231) := by rw [← HR.out, HKD.out, HBL.out, if_neg hmn]
        have HRR := Lib.hid hrr
        have hne2 : (o.main == bl) = false := by simpa using hmn
        clear hmn hrr
        go_wp2_with fail
        go_ret2
        exact ⟨ACC1.out, by rw [HRR.out]; rfl⟩
    · have hkn : k = names.length := by omega
      subst hkn
      have hrr : r = none := by rw [← HR.out, HKA.out, List.drop_length]; rfl
      rw [List.take_length] at hmp
      have HRR := Lib.hid hrr
      have HMP := Lib.hid hmp
      have ACC := Lib.hid acc
      clear hrr hmp acc acc0
      go_wp2_with fail
      go_ret2
      exact ⟨ACC.out, by rw [HRR.out]; exact ⟨rfl, HMP.out⟩⟩
end Go.Proofs.Ytfeeeogkkajefaa
