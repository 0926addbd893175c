/- The document's New: walked. No conditions. -/
import Derived.Test.YtcpgkeceefoljaaTyM
import Derived.RegionTactic
namespace Go.Proofs.Ytcpgkeceefoljaa
open Go.RowKit
set_option linter.unusedVariables false
set_option linter.unusedSimpArgs false

def tysN : List Ty := [.bare 0 ⟨#[]⟩ 0 0, .bare 1 ⟨#[73, 78, 84, 69, 71, 69, 82]⟩ 0 0, .bare 2 ⟨#[67, 65, 82, 68, 73, 78, 65, 76]⟩ 0 0, .bare 3 ⟨#[66, 79, 79, 76, 69, 65, 78]⟩ 0 0, .bare 4 ⟨#[67, 72, 65, 82]⟩ 0 0, .bare 5 ⟨#[]⟩ 0 0, .bare 6 ⟨#[]⟩ 0 0, .bare 7 ⟨#[]⟩ 0 0, .bare 9 ⟨#[]⟩ 0 0, .bare 13 ⟨#[66, 73, 84, 83, 69, 84]⟩ 0 0]
def RNewAt (w : World) (t gk gn : Nat) (s4 : Value) (wr : World) : Prop :=
  ∃ (k : Nat) (v : Value), k ≤ 10 ∧ s4 = .int .i64 k ∧ Blk wr t 47 #[v] ∧ wr.ownsRow w.heap.size 31 12 v k ((tysN.take k).flatMap Ty.flat) ∧ Wr [] w wr ∧ w.heap.size ≤ t ∧
    Blk wr gk 5 #[.int .u8 0, .int .u8 1, .int .u8 2, .int .u8 3, .int .u8 4, .int .u8 5, .int .u8 6, .int .u8 7, .int .u8 9, .int .u8 13] ∧ Blk wr gn 9 #[.string ⟨#[]⟩, .string ⟨#[73, 78, 84, 69, 71, 69, 82]⟩, .string ⟨#[67, 65, 82, 68, 73, 78, 65, 76]⟩, .string ⟨#[66, 79, 79, 76, 69, 65, 78]⟩, .string ⟨#[67, 72, 65, 82]⟩, .string ⟨#[]⟩, .string ⟨#[]⟩, .string ⟨#[]⟩, .string ⟨#[]⟩, .string ⟨#[66, 73, 84, 83, 69, 84]⟩] ∧ t ≠ gk ∧ t ≠ gn ∧ t ∉ ownL v ∧ gk ∉ ownL v ∧ gn ∉ ownL v
set_option maxRecDepth 100000 in
set_option maxHeartbeats 8000000 in
theorem rnew_any (w : World) : Calls Try.prog 37 #[] w (NewP 47 w) := by
  have at0 : RNewAt w w.heap.size (w.heap.size + 1) (w.heap.size + 1 + 1) (.int .i64 0) (((w.alloc (.cells #[.slice none 0 0] 47)).alloc (.cells #[.int .u8 0, .int .u8 1, .int .u8 2, .int .u8 3, .int .u8 4, .int .u8 5, .int .u8 6, .int .u8 7, .int .u8 9, .int .u8 13] 5)).alloc (.cells #[.string ⟨#[]⟩, .string ⟨#[73, 78, 84, 69, 71, 69, 82]⟩, .string ⟨#[67, 65, 82, 68, 73, 78, 65, 76]⟩, .string ⟨#[66, 79, 79, 76, 69, 65, 78]⟩, .string ⟨#[67, 72, 65, 82]⟩, .string ⟨#[]⟩, .string ⟨#[]⟩, .string ⟨#[]⟩, .string ⟨#[]⟩, .string ⟨#[66, 73, 84, 83, 69, 84]⟩] 9)) := by
    refine ⟨0, .slice none 0 0, by omega, rfl, ((Blk.new w _ _).alloc _).alloc _, World.ownsRow_nil _ _ _ _, (((Wr.refl [] w).alloc _).alloc _).alloc _, Nat.le_refl _, ?_, ?_, by omega, by omega, by simp [ownL, Value.ownBlock], by simp [ownL, Value.ownBlock], by simp [ownL, Value.ownBlock]⟩
    · have := (Blk.new (w.alloc (.cells #[.slice none 0 0] 47)) 5 #[.int .u8 0, .int .u8 1, .int .u8 2, .int .u8 3, .int .u8 4, .int .u8 5, .int .u8 6, .int .u8 7, .int .u8 9, .int .u8 13]).alloc (.cells #[.string ⟨#[]⟩, .string ⟨#[73, 78, 84, 69, 71, 69, 82]⟩, .string ⟨#[67, 65, 82, 68, 73, 78, 65, 76]⟩, .string ⟨#[66, 79, 79, 76, 69, 65, 78]⟩, .string ⟨#[67, 72, 65, 82]⟩, .string ⟨#[]⟩, .string ⟨#[]⟩, .string ⟨#[]⟩, .string ⟨#[]⟩, .string ⟨#[66, 73, 84, 83, 69, 84]⟩] 9)
      rw [World.size_alloc] at this
      exact this
    · have := Blk.new ((w.alloc (.cells #[.slice none 0 0] 47)).alloc (.cells #[.int .u8 0, .int .u8 1, .int .u8 2, .int .u8 3, .int .u8 4, .int .u8 5, .int .u8 6, .int .u8 7, .int .u8 9, .int .u8 13] 5)) 9 #[.string ⟨#[]⟩, .string ⟨#[73, 78, 84, 69, 71, 69, 82]⟩, .string ⟨#[67, 65, 82, 68, 73, 78, 65, 76]⟩, .string ⟨#[66, 79, 79, 76, 69, 65, 78]⟩, .string ⟨#[67, 72, 65, 82]⟩, .string ⟨#[]⟩, .string ⟨#[]⟩, .string ⟨#[]⟩, .string ⟨#[]⟩, .string ⟨#[66, 73, 84, 83, 69, 84]⟩]
      rw [World.size_alloc, World.size_alloc] at this
      exact this
  have AT0 := Lib.hid at0
  clear at0
  go_enter Try.func37, Try.ntmps37
  go_wp2_with fail
  go_loopw [4] (fun s4 wr => RNewAt w w.heap.size (w.heap.size + 1) (w.heap.size + 1 + 1) s4 wr) (fun s4 _ => 10 - (intOf s4).toNat)
  case atStart => exact AT0.out
  case round =>
    obtain ⟨k, v, hk, rfl, hb, ho, hw, hwt, hbk, hbn, h1, h2, h3, h4, h5⟩ := hrel
    clear AT0
    generalize w.heap.size + 1 + 1 = gn at *
    generalize w.heap.size + 1 = gk at *
    have HWT := Lib.hid hwt
    generalize ht : w.heap.size = t at hb hwt h1 h2 h3 ⊢
    have HT := Lib.hid ht
    clear ht hwt
    obtain ⟨Ao, co, hvo, _, _⟩ := Sl.form (P := fun _ => True) (Sl.ofOwn ho (fun _ _ => trivial))
    subst hvo
    have HB := Lib.hid hb
    have HO := Lib.hid ho
    have HW := Lib.hid hw
    have HBK := Lib.hid hbk
    have HBN := Lib.hid hbn
    have HNE := Lib.hid (And.intro h1 (And.intro h2 (And.intro h3 (And.intro h4 h5))))
    have a0 := hb.cell 0
    simp only [List.getElem?_toArray, List.getElem?_cons_zero] at a0
    have zt := hb.lt
    have zk := hbk.lt
    have zn := hbn.lt
    have zw := hw.size
    by_cases hlt : k < 10
    · obtain ⟨ty, hty⟩ : ∃ ty, tysN[k]? = some ty := ⟨tysN[k]'hlt, List.getElem?_eq_getElem hlt⟩
      have hflat : ty.flat = [.int .u8 ty.kind, .string ⟨#[]⟩, .string ty.name, .int .i64 0, .int .i64 0, .int .i64 0, .int .i64 0, .slice none 0 0, .slice none 0 0, .slice none 0 0, .slice none 0 0, .int .i64 0] := by
        match k, hlt, hty with
        | 0, _, h => (injection h with h; subst h; rfl)
        | 1, _, h => (injection h with h; subst h; rfl)
        | 2, _, h => (injection h with h; subst h; rfl)
        | 3, _, h => (injection h with h; subst h; rfl)
        | 4, _, h => (injection h with h; subst h; rfl)
        | 5, _, h => (injection h with h; subst h; rfl)
        | 6, _, h => (injection h with h; subst h; rfl)
        | 7, _, h => (injection h with h; subst h; rfl)
        | 8, _, h => (injection h with h; subst h; rfl)
        | 9, _, h => (injection h with h; subst h; rfl)
      have bk : wr.cell? ⟨gk, k, none⟩ = some (.int .u8 ty.kind) := by
        rw [hbk.cell k]
        match k, hlt, hty with
        | 0, _, h => (injection h with h; subst h; rfl)
        | 1, _, h => (injection h with h; subst h; rfl)
        | 2, _, h => (injection h with h; subst h; rfl)
        | 3, _, h => (injection h with h; subst h; rfl)
        | 4, _, h => (injection h with h; subst h; rfl)
        | 5, _, h => (injection h with h; subst h; rfl)
        | 6, _, h => (injection h with h; subst h; rfl)
        | 7, _, h => (injection h with h; subst h; rfl)
        | 8, _, h => (injection h with h; subst h; rfl)
        | 9, _, h => (injection h with h; subst h; rfl)
      have bn : wr.cell? ⟨gn, k, none⟩ = some (.string ty.name) := by
        rw [hbn.cell k]
        match k, hlt, hty with
        | 0, _, h => (injection h with h; subst h; rfl)
        | 1, _, h => (injection h with h; subst h; rfl)
        | 2, _, h => (injection h with h; subst h; rfl)
        | 3, _, h => (injection h with h; subst h; rfl)
        | 4, _, h => (injection h with h; subst h; rfl)
        | 5, _, h => (injection h with h; subst h; rfl)
        | 6, _, h => (injection h with h; subst h; rfl)
        | 7, _, h => (injection h with h; subst h; rfl)
        | 8, _, h => (injection h with h; subst h; rfl)
        | 9, _, h => (injection h with h; subst h; rfl)
      have hi0 : (0 : Int) ≤ (k : Int) := by omega
      have hi1 : (k : Int) < 10 := by omega
      obtain ⟨v3, w3, hrun, ho3, r3, hat3⟩ := append_ty w.heap.size _ k _ wr.drew HO.out.drew ty.flat (by rw [hflat]; rfl) (by rw [hflat]; simp [Value.oneCell']) (by omega) (by show w.heap.size ≤ wr.heap.size; omega)
      obtain ⟨g3, cap3, rfl, hcap3, hlt3⟩ := ho3.form (by omega)
      have hb3 := HB.out.drew.wr r3 HNE.out.2.2.1
      have a3 := hb3.cell 0
      have f3 := hb3.frozen 0
      have z3 := hb3.lt
      simp only [List.getElem?_toArray, List.getElem?_cons_zero] at a3
      have HB3 := Lib.hid hb3
      have HO3 := Lib.hid ho3
      have R3 := Lib.hid r3
      have HAT3 := Lib.hid hat3
      rw [hflat] at hrun
      have HRUN := Lib.hid hrun
      have HTY := Lib.hid hty
      clear hb3 ho3 r3 hat3 hrun hb ho hw hbk hbn h1 h2 h3 h4 h5 hflat hty
      go_wp2_with fail
      go_region_law (first
        | (refine step_append_run (by rfl) _ _ _ (by rfl) _ _ (by rfl) (by rfl) _ _ HRUN.out ?_))
      all_goals
        go_wp2_with fail
        go_roundw
        case rel =>
          have hdr : wr.drew.heap.size = wr.heap.size := rfl
          have hne := HNE.out
          have hcs : ∀ x, x ∈ ownL (Value.slice (some ⟨g3, 0, none⟩) (k + 1) cap3) → x ∈ ownL (Value.slice Ao k co) ∨ wr.heap.size ≤ x := by
            intro x hx
            rcases HAT3.out with e | ⟨k', e, hk'⟩
            · exact .inl (mem_ownL.2 (e.symm.trans (mem_ownL.1 hx)))
            · have := mem_ownL.1 hx
              rw [e] at this
              injection this with this
              exact .inr (by omega)
          have hav : ∀ y, y < wr.heap.size → y ∉ ownL (Value.slice Ao k co) → y ∉ ownL (Value.slice (some ⟨g3, 0, none⟩) (k + 1) cap3) := fun y hy hn hm => by
            rcases hcs y hm with h | h
            · exact hn h
            · omega
          have hW3 : Wr [t] w3 (w3.setCell ⟨t, 0, none⟩ (.slice (some ⟨g3, 0, none⟩) (k + 1) cap3)) := (Wr.refl _ _).setOn (by simp) _
          have ht3 := hav t zt hne.2.2.1
          have hxs : (tysN.take (k + 1)).flatMap Ty.flat = (tysN.take k).flatMap Ty.flat ++ ty.flat := by
            rw [List.take_add_one, HTY.out, List.flatMap_append]
            simp
          refine ⟨k + 1, .slice (some ⟨g3, 0, none⟩) (k + 1) cap3, by omega, by go_num, HB3.out.set_ 0 _, ?_, ?_, by rw [HT.out]; exact Nat.le_refl _, ?_, ?_, hne.1, hne.2.1, ht3, hav gk zk hne.2.2.2.1, hav gn zn hne.2.2.2.2⟩
          · rw [hxs]
            refine ownsRow_wr HO3.out hW3 (fun k' hk' hm => ?_)
            rw [List.mem_singleton] at hm
            exact ht3 (mem_ownL.2 (hm ▸ hk'))
          · exact ((HW.out.drew).trans' R3.out (fun x hx => .inr ((HO.out.lt x (mem_ownL.1 hx)).1))).trans' hW3 (fun x hx => by rw [List.mem_singleton] at hx; exact .inr (by rw [hx, HT.out]; exact Nat.le_refl _))
          · exact (HBK.out.drew.wr R3.out hne.2.2.2.1).far (fun h => hne.1 h.symm) _
          · exact (HBN.out.drew.wr R3.out hne.2.2.2.2).far (fun h => hne.2.1 h.symm) _
        case measure => simp [intOf]; omega
    · obtain rfl : k = 10 := by omega
      have hk10 : (tysN.take 10).flatMap Ty.flat = tysN.flatMap Ty.flat := rfl
      rw [hk10] at HO
      obtain ⟨g, rfl⟩ : ∃ g, Ao = some ⟨g, 0, none⟩ := by
        rcases HO.out.2 with ⟨e1, _⟩ | ⟨g, _, _, e1, _⟩
        · injection e1 with _ e2 _
          cases e2
        · injection e1 with e1
          exact ⟨g, e1⟩
      have r96 := (HO.out.cellAt 96 (by omega)).trans (show (tysN.flatMap Ty.flat)[96]? = some (.int .u8 9) from rfl)
      have f96 := HO.out.frozenAt 96
      have r97 := (HO.out.cellAt 97 (by omega)).trans (show (tysN.flatMap Ty.flat)[97]? = some (.string ⟨#[]⟩) from rfl)
      have f97 := HO.out.frozenAt 97
      have r98 := (HO.out.cellAt 98 (by omega)).trans (show (tysN.flatMap Ty.flat)[98]? = some (.string ⟨#[]⟩) from rfl)
      have f98 := HO.out.frozenAt 98
      have r99 := (HO.out.cellAt 99 (by omega)).trans (show (tysN.flatMap Ty.flat)[99]? = some (.int .i64 0) from rfl)
      have f99 := HO.out.frozenAt 99
      have r100 := (HO.out.cellAt 100 (by omega)).trans (show (tysN.flatMap Ty.flat)[100]? = some (.int .i64 0) from rfl)
      have f100 := HO.out.frozenAt 100
      have r101 := (HO.out.cellAt 101 (by omega)).trans (show (tysN.flatMap Ty.flat)[101]? = some (.int .i64 0) from rfl)
      have f101 := HO.out.frozenAt 101
      have r102 := (HO.out.cellAt 102 (by omega)).trans (show (tysN.flatMap Ty.flat)[102]? = some (.int .i64 0) from rfl)
      have f102 := HO.out.frozenAt 102
      have r103 := (HO.out.cellAt 103 (by omega)).trans (show (tysN.flatMap Ty.flat)[103]? = some (.slice none 0 0) from rfl)
      have f103 := HO.out.frozenAt 103
      have r104 := (HO.out.cellAt 104 (by omega)).trans (show (tysN.flatMap Ty.flat)[104]? = some (.slice none 0 0) from rfl)
      have f104 := HO.out.frozenAt 104
      have r105 := (HO.out.cellAt 105 (by omega)).trans (show (tysN.flatMap Ty.flat)[105]? = some (.slice none 0 0) from rfl)
      have f105 := HO.out.frozenAt 105
      have r106 := (HO.out.cellAt 106 (by omega)).trans (show (tysN.flatMap Ty.flat)[106]? = some (.slice none 0 0) from rfl)
      have f106 := HO.out.frozenAt 106
      have r107 := (HO.out.cellAt 107 (by omega)).trans (show (tysN.flatMap Ty.flat)[107]? = some (.int .i64 0) from rfl)
      have f107 := HO.out.frozenAt 107
      have r108 := (HO.out.cellAt 108 (by omega)).trans (show (tysN.flatMap Ty.flat)[108]? = some (.int .u8 13) from rfl)
      have f108 := HO.out.frozenAt 108
      have r109 := (HO.out.cellAt 109 (by omega)).trans (show (tysN.flatMap Ty.flat)[109]? = some (.string ⟨#[]⟩) from rfl)
      have f109 := HO.out.frozenAt 109
      have r110 := (HO.out.cellAt 110 (by omega)).trans (show (tysN.flatMap Ty.flat)[110]? = some (.string ⟨#[66, 73, 84, 83, 69, 84]⟩) from rfl)
      have f110 := HO.out.frozenAt 110
      have r111 := (HO.out.cellAt 111 (by omega)).trans (show (tysN.flatMap Ty.flat)[111]? = some (.int .i64 0) from rfl)
      have f111 := HO.out.frozenAt 111
      have r112 := (HO.out.cellAt 112 (by omega)).trans (show (tysN.flatMap Ty.flat)[112]? = some (.int .i64 0) from rfl)
      have f112 := HO.out.frozenAt 112
      have r113 := (HO.out.cellAt 113 (by omega)).trans (show (tysN.flatMap Ty.flat)[113]? = some (.int .i64 0) from rfl)
      have f113 := HO.out.frozenAt 113
      have r114 := (HO.out.cellAt 114 (by omega)).trans (show (tysN.flatMap Ty.flat)[114]? = some (.int .i64 0) from rfl)
      have f114 := HO.out.frozenAt 114
      have r115 := (HO.out.cellAt 115 (by omega)).trans (show (tysN.flatMap Ty.flat)[115]? = some (.slice none 0 0) from rfl)
      have f115 := HO.out.frozenAt 115
      have r116 := (HO.out.cellAt 116 (by omega)).trans (show (tysN.flatMap Ty.flat)[116]? = some (.slice none 0 0) from rfl)
      have f116 := HO.out.frozenAt 116
      have r117 := (HO.out.cellAt 117 (by omega)).trans (show (tysN.flatMap Ty.flat)[117]? = some (.slice none 0 0) from rfl)
      have f117 := HO.out.frozenAt 117
      have r118 := (HO.out.cellAt 118 (by omega)).trans (show (tysN.flatMap Ty.flat)[118]? = some (.slice none 0 0) from rfl)
      have f118 := HO.out.frozenAt 118
      have r119 := (HO.out.cellAt 119 (by omega)).trans (show (tysN.flatMap Ty.flat)[119]? = some (.int .i64 0) from rfl)
      have f119 := HO.out.frozenAt 119
      have hgt : t ≠ g := fun h => HNE.out.2.2.1 (mem_ownL.2 (by rw [h]; rfl))
      have hgt2 : g ≠ t := fun h => hgt h.symm
      have zg : g < wr.heap.size := (HO.out.lt g rfl).2
      have zgw : w.heap.size ≤ g := (HO.out.lt g rfl).1
      clear hb ho hw hbk hbn h1 h2 h3 h4 h5 hk10
      go_wp2_with fail
      go_region
      all_goals
        go_wp2_with fail
        go_region
        all_goals
          go_wp2_with fail
          go_ret
          have s1 := (HO.out.stored 96 (.int .u8 9)).1
          have s2 := (s1.stored 97 (.string ⟨#[]⟩)).1
          have s3 := (s2.stored 98 (.string ⟨#[]⟩)).1
          have s4 := (s3.stored 99 (.int .i64 2)).1
          have s5 := (s4.stored 100 (.int .i64 0)).1
          have s6 := (s5.stored 101 (.int .i64 0)).1
          have s7 := (s6.stored 102 (.int .i64 15)).1
          have s8 := (s7.stored 103 (.slice none 0 0)).1
          have s9 := (s8.stored 104 (.slice none 0 0)).1
          have s10 := (s9.stored 105 (.slice none 0 0)).1
          have s11 := (s10.stored 106 (.slice none 0 0)).1
          have s12 := (s11.stored 107 (.int .i64 0)).1
          have s13 := (s12.stored 108 (.int .u8 13)).1
          have s14 := (s13.stored 109 (.string ⟨#[]⟩)).1
          have s15 := (s14.stored 110 (.string ⟨#[66, 73, 84, 83, 69, 84]⟩)).1
          have s16 := (s15.stored 111 (.int .i64 8)).1
          have s17 := (s16.stored 112 (.int .i64 0)).1
          have s18 := (s17.stored 113 (.int .i64 0)).1
          have s19 := (s18.stored 114 (.int .i64 0)).1
          have s20 := (s19.stored 115 (.slice none 0 0)).1
          have s21 := (s20.stored 116 (.slice none 0 0)).1
          have s22 := (s21.stored 117 (.slice none 0 0)).1
          have s23 := (s22.stored 118 (.slice none 0 0)).1
          have s24 := (s23.stored 119 (.int .i64 0)).1
          have hrow := ((s24.alloc (.cells #[.int .u8 9, .string ⟨#[]⟩, .string ⟨#[]⟩, .int .i64 2, .int .i64 0, .int .i64 0, .int .i64 15, .slice none 0 0, .slice none 0 0, .slice none 0 0, .slice none 0 0, .int .i64 0] 31)).alloc (.cells #[.int .u8 13, .string ⟨#[]⟩, .string ⟨#[66, 73, 84, 83, 69, 84]⟩, .int .i64 8, .int .i64 0, .int .i64 0, .int .i64 0, .slice none 0 0, .slice none 0 0, .slice none 0 0, .slice none 0 0, .int .i64 0] 31)).drew.drew
          have hrow' : ∀ (W : World) (xs : List Value), W.ownsRow w.heap.size 31 12 (.slice (some ⟨g, 0, none⟩) 10 co) 10 xs → xs = tys0.flatMap Ty.flat → W.ownsRow w.heap.size 31 12 (.slice (some ⟨g, 0, none⟩) 10 co) 10 (tys0.flatMap Ty.flat) := fun W xs h e => e ▸ h
          have hrw := hrow' _ _ hrow (by kernel_rfl)
          refine ⟨t, .slice (some ⟨g, 0, none⟩) 10 co, [t, g], rfl, ?_, ⟨?_, ⟨_, hrw, flat_one _, fun i ty hi => ⟨_, _, _, _, fun j u hj => ?_, tys0_all (fun ty => Lists _ _ (.slice .none 0 0) (.slice .none 0 0) (.slice .none 0 0) (.slice .none 0 0) ty) (fun k nm b h => bare_lists _ _ k nm b h) ty (List.mem_of_getElem? hi)⟩⟩, by simp, fun k hk => ?_, tys0_all _ bare_room, fun x hx => ?_⟩, fun x hx => ?_⟩
          · refine Wr.drew (Wr.drew (Wr.alloc (Wr.alloc ?_ _) _))
            iterate 24 refine Wr.setNew ?_ zgw _
            exact HW.out
          · refine Blk.drew (Blk.drew (Blk.alloc (Blk.alloc ?_ _) _))
            iterate 24 refine Blk.far ?_ (by exact hgt) _
            exact HB.out
          · have hj' : j < 12 := (List.getElem?_eq_some_iff.1 hj).1
            exact (flatMap_at Ty.flat 12 flat_len tys0 i j ty hi hj').trans hj
          · have : g = k := by simpa [Value.ownBlock] using hk
            simp [this]
          · have h1 := hrw.lt g rfl
            have h2 : wr.heap.size ≤ (World.alloc (World.alloc wr (.cells #[] 0)) (.cells #[] 0)).heap.size := by simp; omega
            simp only [List.mem_cons, List.not_mem_nil, or_false] at hx
            rcases hx with rfl | rfl
            · simp; omega
            · exact h1.2
          · simp only [List.mem_cons, List.not_mem_nil, or_false] at hx
            rcases hx with rfl | rfl
            · rw [HT.out]; exact Nat.le_refl _
            · exact zgw
end Go.Proofs.Ytcpgkeceefoljaa
