/- types.lists, walked at arms. Conditions: the lists take no more room than there is. -/
import Derived.Test.YtcpgkeceefoljaaTyE
namespace Go.Proofs.Ytcpgkeceefoljaa
open Go.RowKit
set_option linter.unusedVariables false
set_option linter.unusedSimpArgs false

theorem ownsRow_wr {w w' : World} {l : List Nat} {base size n : Nat} {e : TypeId} {v : Value} {xs : List Value} (h : w.ownsRow base e size v n xs) (hw : Wr l w w') (hl : ∀ k, v.ownBlock = some k → k ∉ l) : w'.ownsRow base e size v n xs := by
  refine ⟨h.1, ?_⟩
  rcases h.2 with h0 | ⟨b, cap, cur, rfl, hb, hh, hn, hc, hs, ht⟩
  · exact .inl h0
  · refine .inr ⟨b, cap, cur, rfl, hb, ?_, hn, hc, hs, ht⟩
    have hlt : b < w.heap.size := (h.lt b rfl).2
    exact (hw.block b hlt (hl b rfl)).trans hh
theorem ownsRow_wr0 {w w' : World} {base size n : Nat} {e : TypeId} {v : Value} {xs : List Value} (h : w.ownsRow base e size v n xs) (hw : Wr [] w w') : w'.ownsRow base e size v n xs := ownsRow_wr h hw (by simp)

/-- A list of arms, copied. -/
def ListsP (w : World) (l : List ArmD) (e : Ending) (w' : World) : Prop := ∃ v', e = .returned v' ∧ Wr [] w w' ∧ SlArms w' (fun b => w.heap.size ≤ b) v' l
/-- At the head of a round. -/
def ListsAt (w0 : World) (base : Nat) (v : Value) (l : List ArmD) (i : Value) (wr : World) : Prop :=
  ∃ (k : Nat) (xs : List Value), k ≤ l.length ∧ i = .int .i64 k ∧ wr.ownsRow base 66 3 v l.length xs ∧ (∀ u ∈ xs, u.oneCell' = true) ∧
    (∀ j x, l[j]? = some x → ArmAt wr (fun b => (j < k → base ≤ b) ∧ v.ownBlock ≠ some b) xs j x) ∧ Wr [] w0 wr

set_option maxHeartbeats 1000000 in
theorem lists_any (w : World) (P : Nat → Prop) (v : Value) (l : List ArmD) (h : SlArms w P v l) (hr : l.length ≤ 1099511627776) (hi : ∀ x ∈ l, x.frm.length ≤ 1099511627776 ∧ x.to.length ≤ 1099511627776) :
    Calls Try.prog 44 #[v, .func (.func 45) #[] #[]] w (ListsP w l) := by
  obtain ⟨xs, hs, h1, ha⟩ := h
  have hc := cloneO_arm w P v l.length xs hs h1 (by omega)
  have ha0 : ∀ j x, l[j]? = some x → ArmAt w (fun b => b < w.heap.size) xs j x := by
    intro j x hj
    obtain ⟨va, vb, e1, e2, e3, ka, kb⟩ := ha j x hj
    exact ⟨va, vb, e1, e2, e3, Sl.into ka (fun b _ hb => hb), Sl.into kb (fun b _ hb => hb)⟩
  have HA := Lib.hid ha0
  have H1 := Lib.hid h1
  have HI := Lib.hid hi
  clear ha ha0 h1 hs hi
  go_enter Try.func44, Try.ntmps44
  go_wp2_with fail
  refine hc.mono ?_
  clear hc
  rintro e w1 ⟨v1, rfl, r1, hown⟩
  have R1 := Lib.hid r1
  have HO := Lib.hid hown
  rcases hown.2 with ⟨rfl, h0⟩ | ⟨g, cap, cur, rfl, hb, hh, hn, hcm, hcs, ht⟩
  · have hl0 : l.length = 0 := by
      have := hown.1
      rcases hown.2 with ⟨e1, _⟩ | ⟨_, _, _, e1, _⟩
      · injection e1
      · cases e1
    have hnil : l = [] := List.eq_nil_of_length_eq_zero hl0
    subst hnil
    clear hown r1 hl0 h0
    go_wp2_with fail
    go_loopw [11] (fun i wr => i = .int .i64 0 ∧ wr = w1) (fun i _ => 0)
    case atStart => exact ⟨rfl, rfl⟩
    case round =>
      obtain ⟨rfl, rfl⟩ := hrel
      go_wp2_with fail
      go_ret
      exact ⟨_, rfl, R1.out, SlArms.nil _ _⟩
  · have hlt0 := (hown.lt g rfl).1
    have at0 : ListsAt w w.heap.size (.slice (some ⟨g, 0, none⟩) l.length cap) l (.int .i64 0) w1 := by
      refine ⟨0, xs, Nat.zero_le _, rfl, HO.out, H1.out, fun j x hj => ?_, r1⟩
      obtain ⟨va, vb, e1, e2, e3, ka, kb⟩ := HA.out j x hj
      have hP : ∀ b, b < w.heap.size → (j < 0 → w.heap.size ≤ b) ∧ (Value.slice (some ⟨g, 0, none⟩) l.length cap).ownBlock ≠ some b := by
        intro b hb
        refine ⟨fun h => by omega, fun h => ?_⟩
        have : g = b := by simpa [Value.ownBlock] using h
        omega
      exact ⟨va, vb, e1, e2, e3, Sl.mono (Sl.wr0 ka r1) hP, Sl.mono (Sl.wr0 kb r1) hP⟩
    have AT0 := Lib.hid at0
    clear hown r1 at0 HA H1 R1 HO hb hh hcm hcs ht hlt0
    go_wp2_with fail
    go_loopw [11] (fun i wr => ListsAt w w.heap.size (.slice (some ⟨g, 0, none⟩) l.length cap) l i wr) (fun i _ => l.length - (intOf i).toNat)
    case atStart => exact AT0.out
    case round =>
      obtain ⟨k, ys, hk, rfl, ho, h1, ha, r1⟩ := hrel
      have HO := Lib.hid ho
      have H1 := Lib.hid h1
      have HA := Lib.hid ha
      have R1 := Lib.hid r1
      have z1 : w.heap.size ≤ wr.heap.size := r1.size
      clear ho h1 ha r1
      by_cases hlt : k < l.length
      · obtain ⟨x, hx⟩ : ∃ x, l[k]? = some x := ⟨l[k], List.getElem?_eq_getElem hlt⟩
        obtain ⟨va, vb, e1, e2, e3, ka, kb⟩ := HA.out k x hx
        have hm : x ∈ l := List.mem_of_getElem? hx
        have hcp := arm_copy wr _ va vb x ka kb (HI.out x hm)
        have c0 : wr.cell? ⟨g, k * 3, none⟩ = some va := (HO.out.cellAt (k * 3) (by omega)).trans e1
        have c1 : wr.cell? ⟨g, k * 3 + 1, none⟩ = some vb := (HO.out.cellAt (k * 3 + 1) (by omega)).trans e2
        have c2 : wr.cell? ⟨g, k * 3 + 2, none⟩ = some (.bool x.els) := (HO.out.cellAt (k * 3 + 2) (by omega)).trans e3
        have hgl : w.heap.size ≤ g ∧ g < wr.heap.size := HO.out.lt g rfl
        have HX := Lib.hid hx
        clear e1 e2 e3 ka kb hm hx
        go_wp2_with fail
        refine hcp.mono ?_
        clear hcp
        rintro e w2 ⟨va', vb', rfl, r2, sa, sb⟩
        have ho2 := ownsRow_wr0 HO.out r2
        replace c0 := r2.cellOf c0 (by simp)
        replace c1 := r2.cellOf c1 (by simp)
        replace c2 := r2.cellOf c2 (by simp)
        have f0 := ho2.frozenAt (k * 3)
        have f1 := ho2.frozenAt (k * 3 + 1)
        have f2 := ho2.frozenAt (k * 3 + 2)
        obtain ⟨A1, k1, rfl, _, _⟩ := sa.form
        obtain ⟨A2, k2, rfl, _, _⟩ := sb.form
        have HO2 := Lib.hid ho2
        have R2 := Lib.hid r2
        have SA := Lib.hid sa
        have SB := Lib.hid sb
        clear ho2 r2 sa sb
        go_wp2_with fail
        go_roundw
        case rel =>
          have s1 := (HO2.out.stored (k * 3) (.slice A1 x.frm.length k1)).1
          have s2 := (s1.stored (k * 3 + 1) (.slice A2 x.to.length k2)).1
          have s3 := (s2.stored (k * 3 + 2) (.bool x.els)).1
          have hW : Wr [g] w2 (((w2.setCell ⟨g, k * 3, none⟩ (.slice A1 x.frm.length k1)).setCell ⟨g, k * 3 + 1, none⟩ (.slice A2 x.to.length k2)).setCell ⟨g, k * 3 + 2, none⟩ (.bool x.els)) :=
            (((Wr.refl [g] w2).setOn (by simp) _).setOn (by simp) _).setOn (by simp) _
          have hlen : ys.length = l.length * 3 := HO.out.1
          refine ⟨k + 1, _, by omega, by go_num, s3, ?_, ?_, ((R1.out.trans R2.out).new hW hgl.1)⟩
          · intro u hu
            rcases List.mem_or_eq_of_mem_set hu with h | rfl
            · rcases List.mem_or_eq_of_mem_set h with h | rfl
              · rcases List.mem_or_eq_of_mem_set h with h | rfl
                · exact H1.out u h
                · rfl
              · rfl
            · rfl
          · intro j y hj
            by_cases hjk : j = k
            · subst hjk
              have hyx : y = x := by rw [HX.out] at hj; injection hj with hj; exact hj.symm
              subst hyx
              refine ⟨_, _, ?_, ?_, ?_, Sl.mono (Sl.keep SA.out hW ?_) ?_, Sl.mono (Sl.keep SB.out hW ?_) ?_⟩
              · rw [List.getElem?_set_ne (by omega), List.getElem?_set_ne (by omega), List.getElem?_set_self (by omega)]
              · rw [List.getElem?_set_ne (by omega), List.getElem?_set_self (by simp; omega)]
              · rw [List.getElem?_set_self (by simp; omega)]
              · intro b hb; simp; omega
              · intro b hb; exact ⟨fun _ => by omega, by simp [Value.ownBlock]; omega⟩
              · intro b hb; simp; omega
              · intro b hb; exact ⟨fun _ => by omega, by simp [Value.ownBlock]; omega⟩
            · obtain ⟨va, vb, e1, e2, e3, ka, kb⟩ := HA.out j y hj
              have hne : ∀ b, (j < k → w.heap.size ≤ b) ∧ (Value.slice (some ⟨g, 0, none⟩) l.length cap).ownBlock ≠ some b → b ∉ [g] := by
                intro b hb h
                rw [List.mem_singleton] at h
                exact hb.2 (by rw [h]; rfl)
              have hne' : ∀ b, (j < k → w.heap.size ≤ b) ∧ (Value.slice (some ⟨g, 0, none⟩) l.length cap).ownBlock ≠ some b → (j < k + 1 → w.heap.size ≤ b) ∧ (Value.slice (some ⟨g, 0, none⟩) l.length cap).ownBlock ≠ some b :=
                fun b hb => ⟨fun h => hb.1 (by omega), hb.2⟩
              refine ⟨va, vb, ?_, ?_, ?_, Sl.mono (Sl.keep (Sl.wr0 ka R2.out) hW hne) hne', Sl.mono (Sl.keep (Sl.wr0 kb R2.out) hW hne) hne'⟩
              · rw [List.getElem?_set_ne (by omega), List.getElem?_set_ne (by omega), List.getElem?_set_ne (by omega)]; exact e1
              · rw [List.getElem?_set_ne (by omega), List.getElem?_set_ne (by omega), List.getElem?_set_ne (by omega)]; exact e2
              · rw [List.getElem?_set_ne (by omega), List.getElem?_set_ne (by omega), List.getElem?_set_ne (by omega)]; exact e3
        case measure => simp [intOf]; omega
      · have hkl : k = l.length := by omega
        subst hkl
        go_wp2_with fail
        go_ret
        refine ⟨_, rfl, R1.out, ys, Sl.ofOwn HO.out (fun b hb => (HO.out.lt b hb).1), H1.out, fun j x hj => ?_⟩
        obtain ⟨va, vb, e1, e2, e3, ka, kb⟩ := HA.out j x hj
        have hjl : j < l.length := (List.getElem?_eq_some_iff.1 hj).1
        exact ⟨va, vb, e1, e2, e3, Sl.mono ka (fun b hb => hb.1 hjl), Sl.mono kb (fun b hb => hb.1 hjl)⟩
end Go.Proofs.Ytcpgkeceefoljaa
