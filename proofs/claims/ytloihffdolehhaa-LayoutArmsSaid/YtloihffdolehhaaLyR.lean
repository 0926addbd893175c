/- LayoutArrays, walked. No conditions. -/
import Derived.Test.YtloihffdolehhaaLyW
import Derived.OpenShut
namespace Go.Proofs.Ytloihffdolehhaa
open Go.RowKit
set_option linter.unusedVariables false
set_option linter.unusedSimpArgs false

theorem append_fld (base : Nat) (v : Value) (n : Nat) (xs : List Value) (W : World) (ho : W.ownsRow base 45 3 v n xs) (x : Fld) (hn : n < 1099511627776) (hb : base ≤ W.heap.size) :
    ∃ v' w', (Builtin.append_ #[34, 34] 34 #[v, .slice (some ⟨W.heap.size, 0, none⟩) 1 1]).run Try.prog (W.alloc (.cells #[.string x.name, .int .i64 x.type, .int .i64 x.arm] 45)) = .ok v' w' ∧
      w'.ownsRow base 45 3 v' (n + 1) (xs ++ x.cells) ∧ Wr (ownL v) W w' ∧ (v'.ownBlock = v.ownBlock ∨ ∃ k, v'.ownBlock = some k ∧ W.heap.size ≤ k) := by
  obtain ⟨i0, hi0, hz0, hz1, hz2⟩ := info_parts info_fld
  have hs : Sl (W.alloc (.cells #[.string x.name, .int .i64 x.type, .int .i64 x.arm] 45)) (fun _ => True) 3 (.slice (some ⟨W.heap.size, 0, none⟩) 1 1) 1 x.cells :=
    Sl.ofOwn (World.ownsRow_lit W #[.string x.name, .int .i64 x.type, .int .i64 x.arm] 1 (Nat.le_refl _) (by simp only [maxLen]; omega) rfl) (fun _ _ => trivial)
  obtain ⟨v', w', hrun, hown, hg, hat⟩ := run_append_sl (P := Try.prog) (W.alloc (.cells #[.string x.name, .int .i64 x.type, .int .i64 x.arm] 45)) base 34 34 45 i0 _ 3 32 Try.underlying34 hi0 hz0 hz1 hz2 rfl (by omega)
    v n xs (ho.alloc _) (fun _ => True) _ 1 _ hs (by intro u hu; simp only [Fld.cells, List.mem_cons, List.not_mem_nil, or_false] at hu; rcases hu with rfl | rfl | rfl <;> rfl) (by simp only [maxLen]; omega) (by omega) (by simp; omega)
  refine ⟨v', w', hrun, hown, ((Wr.refl _ W).alloc _).trans (Wr.ofGrownOwn hg), ?_⟩
  rcases hat with e | e
  · exact .inl e
  · exact .inr ⟨_, e, by simp⟩

def fldF : Fld := ⟨⟨#[102]⟩, 1, 0⟩
def recT (n : Nat) : Ty := ⟨12, ⟨#[]⟩, ⟨#[]⟩, 0, 0, 0, 0, [], List.replicate n fldF, [], [], 0⟩
def subT (lo hi : Int) : Ty := ⟨9, ⟨#[]⟩, ⟨#[]⟩, 1, 0, lo, hi, [], [], [], [], 0⟩
def arrT : Ty := ⟨10, ⟨#[]⟩, ⟨#[]⟩, 10, 11, 0, 0, [], [], [], [], 0⟩
def tysR (n : Nat) (lo hi : Int) : List Ty := ((tys0 ++ [recT n]) ++ [subT lo hi]) ++ [arrT]
theorem lowR (n : Nat) (lo hi : Int) (h : -32768 ≤ lo ∧ lo ≤ 32767 ∧ -32768 ≤ hi ∧ hi ≤ 32767) : Low (tysR n lo hi) := by
  intro i ty hi'
  have hlt : i < 13 := by
    have := (List.getElem?_eq_some_iff.1 hi').1
    exact this
  by_cases h10 : i < 10
  · have : (tysR n lo hi)[i]? = tys0[i]? := by
      unfold tysR
      rw [List.getElem?_append_left (by simp; show i < _; exact (by show i < 12; omega)), List.getElem?_append_left (by show i < 11; omega), List.getElem?_append_left (by exact h10)]
    rw [this] at hi'
    exact low0 i ty hi'
  · unfold lowTy
    match i, hlt, h10 with
    | 10, _, _ =>
      injection hi' with hi'
      subst hi'
      refine ⟨fun h => by simp [recT] at h, fun _ f hf => ?_, by simp [recT], by simp [recT], by simp [recT], by simp [recT]⟩
      rw [List.eq_of_mem_replicate hf]
      show (1 : Int) < 10
      decide
    | 11, _, _ =>
      injection hi' with hi'
      subst hi'
      exact ⟨fun h => by simp [subT] at h, fun h => by simp [subT] at h, by simp only [subT]; omega, by simp only [subT]; omega, by simp only [subT]; omega, by simp only [subT]; omega⟩
    | 12, _, _ =>
      injection hi' with hi'
      subst hi'
      exact ⟨fun _ => by decide, fun h => by simp [arrT] at h, by decide, by decide, by decide, by decide⟩
theorem recK_rep {s : Int → Int × Int} (hs : s 1 = (1, 0)) : ∀ (n : Nat) (a : Int), a + n ≤ 32767 → recK s (List.replicate n fldF) a = (a + n, 0)
  | 0, a, _ => by simp [recK]
  | n + 1, a, h => by
    have hf : fitsK (a + 1) = (a + 1, 0) := by rw [fitsK, if_neg (by omega)]
    rw [List.replicate_succ, recK, show fldF.type = 1 from rfl, hs]
    simp only [hf, ne_eq, not_true_eq_false, if_false]
    rw [recK_rep hs n (a + 1) (by omega)]
    simp
    omega
theorem szR (n : Nat) (hn : n ≤ 40) (lo hi : Int) (h : -32768 ≤ lo ∧ lo ≤ 32767 ∧ -32768 ≤ hi ∧ hi ≤ 32767) : sz (tysR n lo hi) 12 = fitsK (max (hi - lo + 1) 0 * n) := by
  have hlow := lowR n lo hi h
  have h1 : sz (tysR n lo hi) 1 = (1, 0) := by kernel_rfl
  have h10 : sz (tysR n lo hi) 10 = ((n : Int), 0) := by
    rw [sz_eq hlow]
    have o : ordB (tysR n lo hi) 10 = false := by kernel_rfl
    have t : tyOf (tysR n lo hi) 10 = recT n := by kernel_rfl
    rw [reckK, o, t]
    simp only [recT]
    rw [if_neg (by simp), if_neg (by decide), if_neg (by decide), if_neg (by decide), if_pos trivial, recK_rep h1 n 0 (by omega)]
    simp
  rw [sz_eq hlow]
  have o : ordB (tysR n lo hi) 12 = false := by kernel_rfl
  have t : tyOf (tysR n lo hi) 12 = arrT := by kernel_rfl
  have o2 : ordB (tysR n lo hi) 11 = true := by kernel_rfl
  have l2 : loB (tysR n lo hi) 11 = lo := by kernel_rfl
  have l3 : hiB (tysR n lo hi) 11 = hi := by kernel_rfl
  rw [reckK, o, t]
  simp only [arrT]
  rw [if_neg (by simp), if_neg (by decide), if_neg (by decide), if_pos trivial, o2, l2, l3, h10]
  simp [arrK]

def ArrAt (w w5 : World) (n : Nat) (s8 s10 : Value) (wr : World) : Prop :=
  ∃ k : Nat, k ≤ n ∧ s10 = .int .i64 k ∧ wr.ownsRow w5.heap.size 45 3 s8 k ((List.replicate k fldF).flatMap Fld.cells) ∧ Wr [] w5 wr
set_option maxRecDepth 100000 in
set_option maxHeartbeats 8000000 in
theorem arrays_walk (w : World) (lo : Int) (wl : (Lit.int .i16 lo).wf = true) (hi : Int) (wh : (Lit.int .i16 hi).wf = true) (u : Int) (wu : (Lit.int .u8 u).wf = true) :
    Calls Try.prog 4 #[.int .i16 lo, .int .i16 hi, .int .u8 u] w fun e w' => e = .returned (.bool true) ∧ Wr [] w w' := by
  obtain ⟨l0, l1⟩ := Go.bounds_i16 wl
  obtain ⟨h0, h1⟩ := Go.bounds_i16 wh
  obtain ⟨u0, u1⟩ := Go.bounds_u8 wu
  obtain ⟨n, hn⟩ : ∃ n : Nat, u % 40 + 1 = (n : Int) := ⟨(u % 40 + 1).toNat, by omega⟩
  have hn1 : 1 ≤ n := by omega
  have hn2 : n ≤ 40 := by omega
  clear wl wh wu
  go_enter Try.func4, Try.ntmps4
  go_wp2_with fail
  refine (newN (Wr.refl [] w)).mono ?_
  rintro e w5 ⟨t, rfl, h5⟩
  go_wp2_with fail
  have at0 : ArrAt w w5 n (.slice none 0 0) (.int .i64 0) w5 := ⟨0, by omega, rfl, World.ownsRow_nil _ _ _ _, Wr.refl _ _⟩
  have AT0 := Lib.hid at0
  have H5 := Lib.hid h5
  clear at0 h5
  go_loopw [8, 10] (fun s8 s10 wr => ArrAt w w5 n s8 s10 wr) (fun _ s10 _ => n - (intOf s10).toNat)
  case atStart => exact AT0.out
  case round =>
    obtain ⟨k, hk, rfl, ho, hw⟩ := hrel
    have HO := Lib.hid ho
    have HW := Lib.hid hw
    obtain ⟨Ao, co, hvo, _, _⟩ := Sl.form (P := fun _ => True) (Sl.ofOwn ho (fun _ _ => trivial))
    have hwz := hw.size
    subst hvo
    clear ho hw AT0
    by_cases hlt : k < n
    · obtain ⟨v3, w3, hrun, ho3, r3, _⟩ := append_fld w5.heap.size _ k _ wr HO.out fldF (by omega) hwz
      have HO3 := Lib.hid ho3
      have R3 := Lib.hid r3
      simp only [fldF] at hrun
      clear ho3 r3
      go_wp2_with (at_builtin; refine wpList_append_run rfl _ _ _ rfl _ _ rfl rfl _ _ hrun ?_)
      go_roundw
      case rel =>
        refine ⟨k + 1, by omega, by go_num, ?_, HW.out.trans' R3.out (fun x hx => .inr ((HO.out.lt x (mem_ownL.1 hx)).1))⟩
        rw [List.replicate_succ', List.flatMap_append]
        simp only [List.flatMap_cons, List.flatMap_nil, List.append_nil]
        exact HO3.out
      case measure => simp [intOf]; omega
    · obtain rfl : k = n := by omega
      have hl : Lists wr (fun _ => True) (.slice none 0 0) (.slice Ao k co) (.slice none 0 0) (.slice none 0 0) (recT k) := by
        refine ⟨Sl.nil _ _ 1, ?_, SlArms.nil _ _, Sl.nil _ _ 2⟩
        show Sl wr _ 3 _ (List.replicate k fldF).length _
        rw [List.length_replicate]
        exact Sl.ofOwn HO.out (fun _ _ => trivial)
      have hroom : (recT k).room := ⟨by simp [recT], by simp [recT]; omega, by simp [recT], by simp [recT], by simp [recT]⟩
      have hadd := addN (H5.out.wr0 HW.out) (recT k) _ _ _ _ _ hl (by show mayB 12 = true; decide) hroom 10 (by decide) (by decide)
      have HADD := Lib.hid hadd
      clear hl hroom hadd
      go_wp2_with fail
      refine HADD.out.mono ?_
      rintro e w6 ⟨rfl, h6⟩
      go_wp2_with fail
      refine (addN h6 (subT lo hi) _ _ _ _ (fun _ => True) (listsW _ _ _ _ _ _ _) (by show mayB 9 = true; decide) (roomW _ _ _ _ _) 11 (by simp [tys0]) (by decide)).mono ?_
      clear h6
      rintro e w7 ⟨rfl, h7⟩
      go_wp2_with fail
      refine (addN h7 arrT _ _ _ _ (fun _ => True) (listsW _ _ _ _ _ _ _) (by show mayB 10 = true; decide) (roomW _ _ _ _ _) 12 (by simp [tys0]) (by decide)).mono ?_
      clear h7
      rintro e w8 ⟨rfl, h8⟩
      have hsz := sizeN (tys := tysR k lo hi) h8 (lowR k lo hi ⟨l0, l1, h0, h1⟩) 12 _ (szR k hn2 lo hi ⟨l0, l1, h0, h1⟩)
      have HSZ := Lib.hid hsz
      clear hsz h8
      obtain ⟨p, hp⟩ : ∃ p, p = max (hi - lo + 1) 0 * (k : Int) := ⟨_, rfl⟩
      have hpb : 0 ≤ p ∧ p ≤ 65536 * 40 := by
        rw [hp]
        exact ⟨Int.mul_nonneg (by omega) (by omega), Int.mul_le_mul (by omega) (by omega) (by omega) (by omega)⟩
      rw [← hp] at HSZ
      obtain ⟨hpb0, hpb1⟩ := hpb
      by_cases hge : 0 ≤ hi - lo + 1
      · skip
        have hm : max (hi - lo + 1) 0 = hi - lo + 1 := by omega
        rw [hm] at hp
        have hw64 : wrap64 ((hi - lo + 1) * (k : Int)) = p := by rw [← hp]; unfold wrap64; omega
        have hw64' : IntKind.i64.wrap ((hi - lo + 1) * (k : Int)) = p := by rw [← hp, IntKind.wrap_i64]; omega
        clear hm hp
        by_cases hbig : p > 32767
        · rw [show fitsK p = (0, 120) from if_pos hbig] at HSZ
          go_wp2_with fail
          refine HSZ.out.mono ?_
          rintro e w9 ⟨rfl, h9, _⟩
          go_wp2_with fail
          refine (works_any _).mono ?_
          rintro e w10 ⟨rfl, r10⟩
          go_wp2_with fail
          go_ret
          exact ⟨rfl, h9.wr.trans r10⟩
        · rw [show fitsK p = (p, 0) from if_neg hbig] at HSZ
          go_wp2_with fail
          refine HSZ.out.mono ?_
          rintro e w9 ⟨rfl, h9, _⟩
          go_wp2_with fail
          refine (works_any _).mono ?_
          rintro e w10 ⟨rfl, r10⟩
          go_wp2_with fail
          go_ret
          exact ⟨rfl, h9.wr.trans r10⟩
      · skip
        have hm : max (hi - lo + 1) 0 = 0 := by omega
        rw [hm, Int.zero_mul] at hp
        subst hp
        clear hm
        by_cases hbig : (0 : Int) > 32767
        · rw [show fitsK 0 = (0, 120) from if_pos hbig] at HSZ
          go_wp2_with fail
          refine HSZ.out.mono ?_
          rintro e w9 ⟨rfl, h9, _⟩
          go_wp2_with fail
          refine (works_any _).mono ?_
          rintro e w10 ⟨rfl, r10⟩
          go_wp2_with fail
          go_ret
          exact ⟨rfl, h9.wr.trans r10⟩
        · rw [show fitsK 0 = (0, 0) from if_neg hbig] at HSZ
          go_wp2_with fail
          refine HSZ.out.mono ?_
          rintro e w9 ⟨rfl, h9, _⟩
          go_wp2_with fail
          refine (works_any _).mono ?_
          rintro e w10 ⟨rfl, r10⟩
          go_wp2_with fail
          go_ret
          exact ⟨rfl, h9.wr.trans r10⟩
end Go.Proofs.Ytloihffdolehhaa
