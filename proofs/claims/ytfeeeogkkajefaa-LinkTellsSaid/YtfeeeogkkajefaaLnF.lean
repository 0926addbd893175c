/- link's four closures, one behind the other: what they answer together. Conditions: the lists are not too long. -/
import Derived.Test.YtfeeeogkkajefaaLnE
import Derived.Test.YtfeeeogkkajefaaLkC
namespace Go.Proofs.Ytfeeeogkkajefaa
open Go.RowKit
set_option linter.unusedVariables false
set_option linter.unusedSimpArgs false

theorem orderP_ok {l : List NeedD} {f : ByteArray} (h : (orderP l f).2.2 = 0) : (orderP l f).2.1 = ⟨#[]⟩ := by
  unfold orderP at h ⊢
  cases ht : twiceOf [] l with
  | some d =>
    rw [ht] at h
    exact absurd h (show ¬ (6 : Int) = 0 by decide)
  | none =>
    rw [ht] at h
    cases hr : thr (allOf l) (l.length + 1) f ⟨fun _ => 0, []⟩ with
    | ok t => simp only
    | err who e =>
      simp only [hr] at h
      subst h
      exact absurd hr (thr_err_ne _ _ _ _ _)
theorem orderP_len (l : List NeedD) (f : ByteArray) : (orderP l f).1.length ≤ l.length := by
  unfold orderP
  cases ht : twiceOf [] l with
  | some d => simp
  | none =>
    cases hr : thr (allOf l) (l.length + 1) f ⟨fun _ => 0, []⟩ with
    | err who e => simp [hr]
    | ok t =>
      have h1 := thr_bound (told_of l) _ _ _ _ rfl hr
      have h2 : cnt (l.map NeedD.module) ⟨fun _ => 0, []⟩ ≤ l.length := by
        unfold cnt
        exact Nat.le_trans (List.length_filter_le _ _) (by simp)
      have h3 : ((⟨fun _ => 0, []⟩ : Tr).ord).length = 0 := rfl
      simp only [hr]
      omega
theorem data_bd {l : List ObjD} (h : ∀ o ∈ l, objB o = true) (m : ByteArray) : 0 ≤ (objOf l m).mod.data ∧ (objOf l m).mod.data ≤ 65535 := by
  unfold objOf
  cases hl : lastOf (named l) m with
  | none => exact ⟨by decide, by decide⟩
  | some o =>
    have hm := lastOf_mem hl
    obtain ⟨o', ho', e⟩ := List.mem_map.1 hm
    injection e with _ e
    subst e
    have := (objB_mod (h o' ho')).1
    unfold modB at this
    simp only [Bool.and_eq_true, decide_eq_true_eq, inBi] at this
    obtain ⟨⟨⟨⟨⟨⟨⟨_, _⟩, _⟩, _⟩, a5⟩, _⟩, _⟩, _⟩ := this
    show 0 ≤ o'.mod.data ∧ o'.mod.data ≤ 65535
    have h1 : ((0 : Nat) : Int) ≤ (o'.mod.init.length : Int) := by omega
    exact ⟨by omega, a5.2⟩
/-- What stays so while the closures run: everything lies behind s. -/
structure LB (w0 : World) (v : Value) (main : ByteArray) (s : Nat) (w : World) : Prop where
  acc : Wr [] w0 w
  bl : Blk w s 22 #[v]
  bm : Blk w (s + 1) 9 #[.string main]
  bi : Blk w (s + 2) 31 #[.slice none 0 0, .slice none 0 0, .slice none 0 0]
  ba : Blk w (s + 6) 64 #[.map (some (s + 4))]
  bp : Blk w (s + 7) 65 #[.map (some (s + 5))]
  row : RowF (s + 8) #[.pointer (some ⟨s, 0, none⟩), .pointer (some ⟨s + 6, 0, none⟩)] #[.pointer (some ⟨s, 0, none⟩), .pointer (some ⟨s + 1, 0, none⟩), .pointer (some ⟨s + 3, 0, none⟩)]
    #[.pointer (some ⟨s + 3, 0, none⟩), .pointer (some ⟨s + 7, 0, none⟩), .pointer (some ⟨s + 6, 0, none⟩)] #[.pointer (some ⟨s + 3, 0, none⟩), .pointer (some ⟨s + 6, 0, none⟩), .pointer (some ⟨s + 1, 0, none⟩)] w
theorem LB.keep {w0 w W : World} {v : Value} {main : ByteArray} {s x : Nat} (h : LB w0 v main s w) (hs : w0.heap.size ≤ s) (hw : Wr [x] w W) (hx : x = s + 3 ∨ x = s + 4 ∨ x = s + 5) : LB w0 v main s W :=
  ⟨h.acc.new hw (by omega), h.bl.wr hw (by simp; omega), h.bm.wr hw (by simp; omega), h.bi.wr hw (by simp; omega), h.ba.wr hw (by simp; omega), h.bp.wr hw (by simp; omega), Blk.wr h.row hw (by simp; omega)⟩
theorem LB.wr0 {w0 w W : World} {v : Value} {main : ByteArray} {s : Nat} (h : LB w0 v main s w) (hw : Wr [] w W) : LB w0 v main s W :=
  ⟨h.acc.trans hw, h.bl.wr0 hw, h.bm.wr0 hw, h.bi.wr0 hw, h.ba.wr0 hw, h.bp.wr0 hw, Blk.wr0 h.row hw⟩
section
variable (w0 : World) (v : Value) (l : List ObjD) (main : ByteArray) (s : Nat)
def LS0 (w : World) : Prop := LB w0 v main s w ∧ Blk w (s + 3) 25 #[.slice none 0 0] ∧ MapR w (s + 4) (ObjV w0) (fun _ => none) ∧ MapR w (s + 5) IntV (fun _ => none)
def LS1 (w : World) : Prop := LB w0 v main s w ∧ Blk w (s + 3) 25 #[.slice none 0 0] ∧ AllM w0 w (s + 4) l l.length ∧ MapR w (s + 5) IntV (fun _ => none) ∧ l.find? (fun o => !objB o) = none
def NamesAt (w : World) : Prop := ∃ vo, Blk w (s + 3) 25 #[vo] ∧ SlStr w (fun b => s + 8 < b) vo (orderP (l.map needOf) main).1
def LS2 (w : World) : Prop := LB w0 v main s w ∧ NamesAt l main s w ∧ AllM w0 w (s + 4) l l.length ∧ MapR w (s + 5) IntV (fun _ => none) ∧ l.find? (fun o => !objB o) = none ∧ (orderP (l.map needOf) main).2.2 = 0
def LS3 (w : World) : Prop := LB w0 v main s w ∧ NamesAt l main s w ∧ AllM w0 w (s + 4) l l.length ∧ MapR w (s + 5) IntV (lastOf (numbered 0 (orderP (l.map needOf) main).1)) ∧ l.find? (fun o => !objB o) = none ∧ (orderP (l.map needOf) main).2.2 = 0 ∧
  keysAt l (orderP (l.map needOf) main).1.length 0 (orderP (l.map needOf) main).1 = none
def LS4 (w : World) : Prop := LB w0 v main s w ∧ NamesAt l main s w ∧ AllM w0 w (s + 4) l l.length ∧ MapR w (s + 5) IntV (lastOf (numbered 0 (orderP (l.map needOf) main).1)) ∧
  linkP l main = (imgOf l (orderP (l.map needOf) main).1, ⟨#[]⟩, 0)
def LErr (who : ByteArray) (en : Int) (w : World) : Prop := LB w0 v main s w ∧ linkP l main = (noImg, who, en)
end
theorem find_all {l : List ObjD} (h : l.find? (fun o => !objB o) = none) : ∀ o ∈ l, objB o = true := fun o ho => by simpa using (List.find?_eq_none.1 h) o ho
theorem linkP_eq {l : List ObjD} {main : ByteArray} (h : l.find? (fun o => !objB o) = none) (h2 : (orderP (l.map needOf) main).2.2 = 0) : linkP l main = linkN l main (orderP (l.map needOf) main).1 := by
  unfold linkP
  rw [h]
  simp only
  rw [if_pos h2]
theorem link_steps (w0 : World) (v : Value) (l : List ObjD) (main : ByteArray) (s : Nat) (hsz : w0.heap.size ≤ s) (h : SlObjs w0 (fun _ => True) v l) (hlen : l.length ≤ 1000000000) (hus : ∀ o ∈ l, o.uses.length ≤ 1000000000) (w : World) (h0 : LS0 w0 v main s w) :
    Calls Try.prog 24 #[.slice (some ⟨s + 8, 0, none⟩) 4 4] w (StepP (LS4 w0 v l main s) (LErr w0 v l main s)) := by
  refine wrong_any (s + 8) (.pointer (some ⟨s, 0, none⟩)) (.pointer (some ⟨s + 6, 0, none⟩)) (.pointer (some ⟨s, 0, none⟩)) (.pointer (some ⟨s + 1, 0, none⟩)) (.pointer (some ⟨s + 3, 0, none⟩))
    (.pointer (some ⟨s + 3, 0, none⟩)) (.pointer (some ⟨s + 7, 0, none⟩)) (.pointer (some ⟨s + 6, 0, none⟩)) (.pointer (some ⟨s + 3, 0, none⟩)) (.pointer (some ⟨s + 6, 0, none⟩)) (.pointer (some ⟨s + 1, 0, none⟩))
    (LS0 w0 v main s) (LS1 w0 v l main s) (LS2 w0 v l main s) (LS3 w0 v l main s) (LS4 w0 v l main s) (LErr w0 v l main s) ?_ ?_ ?_ ?_ ?_ w h0
  · rintro w (h | h | h | h)
    · exact h.1.row
    · exact h.1.row
    · exact h.1.row
    · exact h.1.row
  · rintro w ⟨hb, bn, hm1, hm2⟩
    refine (clos1_any l v w0 w h s (s + 6) (s + 4) hb.acc hb.bl hb.ba hm1 (by omega) (by omega)).mono ?_
    rintro e w' ⟨hw, hr⟩
    have hb' := hb.keep hsz hw (by omega)
    cases hf : l.find? (fun o => !objB o) with
    | some o =>
      rw [hf] at hr
      refine .inr ⟨o.module, 2, by decide, hr, hb', ?_⟩
      unfold linkP
      rw [hf]
    | none =>
      rw [hf] at hr
      exact .inl ⟨hr.1, hb', bn.wr hw (by simp), hr.2, hm2.keep hw (by simp), hf⟩
  · rintro w ⟨hb, bn, hall, hm2, hf⟩
    refine (clos2_any l v main w0 w h hlen hus s (s + 1) (s + 3) _ hb.acc hb.bl hb.bm bn (by omega)).mono ?_
    rintro e w' ⟨hw, rfl, vo, bo, hs⟩
    have hb' := hb.keep hsz hw (by omega)
    have h8 : s + 8 < w.heap.size := Blk.lt hb.row
    by_cases he : (orderP (l.map needOf) main).2.2 = 0
    · rw [he, orderP_ok he]
      exact .inl ⟨rfl, hb', ⟨vo, bo, Sl.mono hs (fun b hb => by omega)⟩, MapR.keep hall hw (by simp), hm2.keep hw (by simp), hf, he⟩
    · refine .inr ⟨_, _, he, rfl, hb', ?_⟩
      unfold linkP
      rw [hf]
      simp only
      rw [if_neg he]
  · rintro w ⟨hb, ⟨vo, bo, hs⟩, hall, hm2, hf, he⟩
    have hnl : (orderP (l.map needOf) main).1.length ≤ 1000000000 := by
      have := orderP_len (l.map needOf) main
      rw [List.length_map] at this
      omega
    refine (clos3_any l _ hnl vo w0 w (s + 3) (s + 7) (s + 6) (s + 5) (s + 4) (fun b => s + 8 < b) (fun b hb => by omega) hb.acc bo hb.bp hb.ba hs hall hm2 (by omega) (by omega)).mono ?_
    rintro e w' ⟨hw, hr⟩
    have hb' := hb.keep hsz hw (by omega)
    cases hk : keysAt l (orderP (l.map needOf) main).1.length 0 (orderP (l.map needOf) main).1 with
    | some p =>
      rw [hk] at hr
      refine .inr ⟨p.1, p.2, keysAt_ne _ _ _ _ _ hk, hr, hb', ?_⟩
      rw [linkP_eq hf he]
      unfold linkN
      rw [hk]
    | none =>
      rw [hk] at hr
      exact .inl ⟨hr.1, hb', ⟨vo, bo.wr hw (by simp), Sl.keep hs hw (fun b hb hx => by simp at hx; omega)⟩, MapR.keep hall hw (by simp), hr.2, hf, he, hk⟩
  · rintro w ⟨hb, ⟨vo, bo, hs⟩, hall, hm2, hf, he, hk⟩
    have hnl : (orderP (l.map needOf) main).1.length ≤ 1000000000 := by
      have := orderP_len (l.map needOf) main
      rw [List.length_map] at this
      omega
    refine (clos4_any l _ hnl main vo w0 w (s + 3) (s + 1) (s + 6) (s + 4) _ bo hb.bm hb.ba hs hall (data_bd (find_all hf))).mono ?_
    rintro e w' ⟨rfl, hr⟩
    unfold roomP at hr
    by_cases hc : 64 < (orderP (l.map needOf) main).1.length ∨ 65535 < dataOf l (orderP (l.map needOf) main).1
    · rw [if_pos hc] at hr
      refine .inr ⟨main, 5, by decide, hr, hb, ?_⟩
      rw [linkP_eq hf he]
      unfold linkN
      rw [hk]
      simp only
      rw [if_pos hc]
    · rw [if_neg hc] at hr
      refine .inl ⟨hr, hb, ⟨vo, bo, hs⟩, hall, hm2, ?_⟩
      rw [linkP_eq hf he]
      unfold linkN
      rw [hk]
      simp only
      rw [if_neg hc]
end Go.Proofs.Ytfeeeogkkajefaa
