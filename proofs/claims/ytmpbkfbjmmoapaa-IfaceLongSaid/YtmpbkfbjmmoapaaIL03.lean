/- How long names and lists of an interface may be: the plain law of IfaceLong. No conditions. -/
import Derived.Test.YtmpbkfbjmmoapaaIL02
import Derived.Laws.IdiomStrings
import Derived.Laws.MakeOwn
import Derived.Test.YtmpbkfbjmmoapaaIL01
import Derived.Laws.Bits64
namespace Go.Proofs.Ytmpbkfbjmmoapaa
set_option linter.unusedVariables false
set_option linter.unusedSimpArgs false
def lTys : List Ty := [⟨10, ⟨#[]⟩, ⟨#[]⟩, 4, 11, 0, 0, [], [], [], [], 0⟩, ⟨9, ⟨#[]⟩, ⟨#[]⟩, 2, 0, 0, 9, [], [], [], [], 0⟩, ⟨12, ⟨#[]⟩, ⟨#[]⟩, 0, 0, 0, 0, [], [], [], [], 0⟩]
def lItms : List ItmD := [⟨⟨#[105]⟩, 3, 11, 0, .nil⟩, ⟨⟨#[97]⟩, 3, 10, 1, .nil⟩]
def xname (a b : Nat) : ByteArray := ⟨#[120, UInt8.ofNat a, UInt8.ofNat b]⟩
def itmN (i : Nat) : ItmD := ⟨xname (97 + i % 26) (97 + i / 26 % 26), 0, 0, 0, .nil⟩
def useN (i : Nat) : UseD := ⟨xname (97 + i % 26) (97 + i / 26), 0⟩
def itmsN (n : Nat) : List ItmD := lItms ++ (List.range' 2 (n - 2)).map itmN
theorem itmsN_len {n : Nat} (h : 2 ≤ n) : (itmsN n).length = n := by
  unfold itmsN
  rw [List.length_append, List.length_map, List.length_range']
  show 2 + (n - 2) = n
  omega
theorem itmsN_succ {n : Nat} (h : 2 ≤ n) : itmsN (n + 1) = itmsN n ++ [itmN n] := by
  unfold itmsN
  rw [show n + 1 - 2 = (n - 2) + 1 by omega, List.range'_concat, List.map_append, List.append_assoc]
  simp
  congr 1
  omega
theorem xname_inj {a b c d : Nat} (ha : a < 256) (hb : b < 256) (hc : c < 256) (hd : d < 256) (h : xname a b = xname c d) : a = c ∧ b = d := by
  unfold xname at h
  have h1 := congrArg (fun x : ByteArray => x.data.toList) h
  simp only [List.cons.injEq, and_true, true_and] at h1
  obtain ⟨e1, e2⟩ := h1
  have f1 := congrArg UInt8.toNat e1
  have f2 := congrArg UInt8.toNat e2
  simp only [UInt8.toNat_ofNat', Nat.reducePow] at f1 f2
  omega
theorem once_nodup : ∀ (l seen : List ByteArray), (seen ++ l).Nodup → onceB seen l = true
  | [], seen, _ => rfl
  | s :: l, seen, h => by
    have h2 : ((seen ++ [s]) ++ l).Nodup := by simpa using h
    have hs : s ∉ seen := by
      intro hm
      have := (List.nodup_append.1 h).2.2 s hm s (by simp)
      exact this rfl
    have hin : inL s seen = false := by
      cases hc : inL s seen with
      | false => rfl
      | true => exact absurd (inL_iff.1 hc) hs
    unfold onceB
    rw [hin, once_nodup l _ h2]
    rfl
theorem nodup_map {α : Type} (f : Nat → α) (a n : Nat) (h : ∀ i j, i < j → j < a + n → f i ≠ f j) : ((List.range' a n).map f).Nodup := by
  rw [List.Nodup, List.pairwise_map]
  refine List.Pairwise.imp_of_mem ?_ (List.pairwise_lt_range' (s := a) (n := n))
  intro x y hx hy hlt
  have := List.mem_range'_1.1 hy
  exact h x y hlt (by omega)
theorem once_items {n : Nat} (hn : n ≤ 676) : onceB [] ((itmsN n).map ItmD.name) = true := by
  refine once_nodup _ _ ?_
  rw [List.nil_append]
  unfold itmsN
  rw [List.map_append, List.map_map]
  refine List.nodup_append.2 ⟨by decide, nodup_map _ _ _ (fun i j hij hj he => ?_), fun a ha b hb he => ?_⟩
  · have := xname_inj (by omega) (by omega) (by omega) (by omega) he
    omega
  · obtain ⟨i, _, rfl⟩ := List.mem_map.1 hb
    have : a.size = 1 := by
      simp only [lItms, List.map_cons, List.map_nil, List.mem_cons, List.not_mem_nil, or_false] at ha
      rcases ha with rfl | rfl <;> rfl
    rw [he] at this
    cases this
theorem once_uses {m : Nat} (hm : m ≤ 676) : onceB [] (((List.range m).map useN).map UseD.module) = true := by
  refine once_nodup _ _ ?_
  rw [List.nil_append, List.map_map, List.range_eq_range']
  refine nodup_map _ _ _ (fun i j hij hj he => ?_)
  have := xname_inj (by omega) (by omega) (by omega) (by omega) he
  omega
theorem may_if {f : FaceD} (h1 : onceB [] (f.uses.map UseD.module) = true) (h2 : onceB [] (f.items.map ItmD.name) = true) (h3 : faceForm f = true) : mayP f = if faceFit f then 0 else 5 := by
  unfold mayP
  rw [h1, h2, h3]
  rfl
theorem once_l : onceB [] (lItms.map ItmD.name) = true := by decide
theorem form_l : (lTys.all (tyForm lTys.length) && lItms.all (itmForm lTys.length)) = true := by decide
theorem may_name (nm : ByteArray) : mayP ⟨nm, [], lTys, lItms⟩ = if nm.size ≤ 255 then 0 else 5 := by
  rw [may_if (f := ⟨nm, [], lTys, lItms⟩) rfl once_l form_l]
  have : faceFit ⟨nm, [], lTys, lItms⟩ = decide (nm.size ≤ 255) := by
    unfold faceFit
    rw [show decide (([] : List UseD).length ≤ 64) = true by decide, show decide (lItms.length ≤ 512) = true by decide, show decide (lTys.length ≤ 1024) = true by decide, show lTys.all tyFit = true by decide, show lItms.all itmFit = true by decide]
    simp [shB]
  rw [this]
  simp
theorem may_items {n : Nat} (h : 2 ≤ n) (hn : n ≤ 676) : mayP ⟨⟨#[77]⟩, [], lTys, itmsN n⟩ = if n ≤ 512 then 0 else 5 := by
  rw [may_if rfl (once_items hn) ?_]
  · have : faceFit ⟨⟨#[77]⟩, [], lTys, itmsN n⟩ = decide (n ≤ 512) := by
      unfold faceFit
      have ha : (itmsN n).all itmFit = true := by
        unfold itmsN
        rw [List.all_append, show lItms.all itmFit = true by decide, Bool.true_and, List.all_eq_true]
        intro x hx
        obtain ⟨i, _, rfl⟩ := List.mem_map.1 hx
        rfl
      rw [show decide (([] : List UseD).length ≤ 64) = true by decide, itmsN_len h, show decide (lTys.length ≤ 1024) = true by decide, show lTys.all tyFit = true by decide, ha, show shB ⟨#[77]⟩ = true by decide]
      simp
    rw [this]
    simp
  · unfold faceForm
    rw [show lTys.all (tyForm lTys.length) = true by decide, Bool.true_and]
    unfold itmsN
    rw [List.all_append, show lItms.all (itmForm lTys.length) = true by decide, Bool.true_and, List.all_eq_true]
    intro x hx
    obtain ⟨i, _, rfl⟩ := List.mem_map.1 hx
    rfl
theorem may_uses {m : Nat} (hm : m ≤ 676) : mayP ⟨⟨#[77]⟩, (List.range m).map useN, lTys, lItms⟩ = if m ≤ 64 then 0 else 5 := by
  rw [may_if (f := ⟨⟨#[77]⟩, (List.range m).map useN, lTys, lItms⟩) (once_uses hm) once_l form_l]
  have : faceFit ⟨⟨#[77]⟩, (List.range m).map useN, lTys, lItms⟩ = decide (m ≤ 64) := by
    unfold faceFit
    have ha : ((List.range m).map useN).all (fun u => shB u.module) = true := by
      rw [List.all_eq_true]
      intro x hx
      obtain ⟨i, _, rfl⟩ := List.mem_map.1 hx
      rfl
    rw [List.length_map, List.length_range, show decide (lItms.length ≤ 512) = true by decide, show decide (lTys.length ≤ 1024) = true by decide, show lTys.all tyFit = true by decide, show lItms.all itmFit = true by decide, ha, show shB ⟨#[77]⟩ = true by decide]
    simp
  rw [this]
  simp
theorem may_types (k : Nat) : mayP ⟨⟨#[77]⟩, [], lTys ++ List.replicate k zeroTy, lItms⟩ = if 3 + k ≤ 1024 then 0 else 5 := by
  have hl : (lTys ++ List.replicate k zeroTy).length = 3 + k := by rw [List.length_append, List.length_replicate]; rfl
  have hall : ∀ p : Ty → Bool, p zeroTy = true → lTys.all p = true → (lTys ++ List.replicate k zeroTy).all p = true := by
    intro p h1 h2
    rw [List.all_append, h2, Bool.true_and, List.all_eq_true]
    intro x hx
    rw [(List.mem_replicate.1 hx).2]
    exact h1
  have low : ∀ n : Int, 0 ≤ n → n ≤ 11 → tyB (3 + k) n = true := by
    intro n h0 h1
    exact inB_iff.2 ⟨h0, by omega⟩
  rw [may_if rfl once_l ?_]
  · have : faceFit ⟨⟨#[77]⟩, [], lTys ++ List.replicate k zeroTy, lItms⟩ = decide (3 + k ≤ 1024) := by
      unfold faceFit
      rw [show decide (([] : List UseD).length ≤ 64) = true by decide, show decide (lItms.length ≤ 512) = true by decide, hl, hall tyFit (by decide) (by decide), show lItms.all itmFit = true by decide, show shB ⟨#[77]⟩ = true by decide]
      simp
    rw [this]
    simp
  · unfold faceForm
    rw [hl, hall (tyForm (3 + k)) ?_ ?_]
    · rw [Bool.true_and, List.all_eq_true]
      intro x hx
      simp only [lItms, List.mem_cons, List.not_mem_nil, or_false] at hx
      rcases hx with rfl | rfl
      · unfold itmForm
        rw [low 11 (by decide) (by decide)]
        rfl
      · unfold itmForm
        rw [low 10 (by decide) (by decide)]
        rfl
    · unfold tyForm zeroTy
      simp only [low 0 (by decide) (by decide)]
      first | rfl | simp [smB, inB]
    · rw [List.all_eq_true]
      intro x hx
      simp only [lTys, List.mem_cons, List.not_mem_nil, or_false] at hx
      rcases hx with rfl | rfl | rfl <;> (unfold tyForm; simp only [low 0 (by decide) (by decide), low 2 (by decide) (by decide), low 4 (by decide) (by decide), low 11 (by decide) (by decide)]; first | rfl | simp [smB, inB])
end Go.Proofs.Ytmpbkfbjmmoapaa

/- slices.Clone of uses, types, items: walked. Conditions: what is copied takes no more room than an address can reach. -/
namespace Go.Proofs.Ytmpbkfbjmmoapaa
open Go.RowKit
set_option linter.unusedVariables false
set_option linter.unusedSimpArgs false
theorem info_use : (Try.prog.info? 47).map (fun i => (i.zero, i.size, i.bytes)) = some (some (.agg #[.string ⟨#[]⟩, .int .u64 0]), 2, 24) := by kernel_rfl
set_option maxHeartbeats 400000 in
theorem cloneO_use (w : World) (P : Nat → Prop) (v : Value) (n : Nat) (xs : List Value) (h : Sl w P 2 v n xs) (h1 : ∀ u ∈ xs, u.oneCell' = true) (hb : n * 24 ≤ 140737488355328) :
    Calls Try.prog 36 #[v] w (CloneO w 47 2 n xs) := by
  obtain ⟨i0, hi0, hz0, hz1, hz2⟩ := info_parts info_use
  have hm : 0 + n ≤ maxLen := by obtain ⟨A, c, _, k1, k2⟩ := h.form; omega
  have H := Lib.hid h
  have hl := Lib.hid h.len
  obtain ⟨A, c, rfl, k1, k2⟩ := h.form
  clear h k1 k2
  cases A with
  | none =>
    clear hi0 hz0 hz1 hz2 hb hm h1
    have he := fun (w : World) => Lib.run_eql_slice_nil (P := Try.prog) w 22 47 none n c 0 0 Try.underlying22
    go_enter Try.func36, Try.ntmps36
    go_wp2_with fail
    go_ret
    have h0 : xs = [] := by
      obtain ⟨A, c, e, _, _, _, hc⟩ := H.out
      cases xs with
      | nil => rfl
      | cons x l =>
        obtain ⟨b, off, e', _, _⟩ := hc 0 x rfl
        subst e'
        injection e with e
        cases e
    subst h0
    have hn : n = 0 := by have := hl.out; simp at this; omega
    subst hn
    exact ⟨_, rfl, Wr.refl _ _, World.ownsRow_nil w _ _ _⟩
  | some ad =>
    obtain ⟨v1, w1, hrun, hown, hg, hat⟩ := run_append_sl (P := Try.prog) (w.alloc (.cells #[] 47)) w.heap.size 22 22 47 i0 _ 2 24 Try.underlying22 hi0 hz0 hz1 hz2 rfl (by omega)
      (.slice (some ⟨w.heap.size, 0, none⟩) 0 0) 0 [] (World.ownsRow_made w #[] 0 (Nat.le_refl _) (by simp) rfl) P (.slice (some ad) n c) n xs (H.out.wr0 ((Wr.refl _ _).alloc _)) h1 hm (by omega) (by simp)
    simp only [Nat.zero_add, List.nil_append] at hown
    have HG := Lib.hid hg
    have HO := Lib.hid hown
    clear hi0 hz0 hz1 hz2 hm hb h1 hg hat hown
    have he := fun (w : World) => Lib.run_eql_slice_nil (P := Try.prog) w 22 47 (some ad) n c 0 0 Try.underlying22
    go_enter Try.func36, Try.ntmps36
    go_wp2_with (at_builtin; refine wpList_append_run rfl _ _ _ rfl _ _ rfl rfl _ _ hrun ?_)
    go_ret
    refine ⟨_, rfl, ?_, HO.out⟩
    exact ((Wr.refl [] w).alloc _).trans' (Wr.ofGrown HG.out (l := [w.heap.size]) (fun k hk => by simp [Value.ownBlock] at hk; simp [hk])) (fun x hx => .inr (by simp at hx; omega))
theorem info_typ : (Try.prog.info? 56).map (fun i => (i.zero, i.size, i.bytes)) = some (some (.agg #[.int .u8 0, .string ⟨#[]⟩, .string ⟨#[]⟩, .int .i64 0, .int .i64 0, .int .i64 0, .int .i64 0, .slice none 0 0, .slice none 0 0, .slice none 0 0, .slice none 0 0, .int .i64 0]), 12, 176) := by kernel_rfl
set_option maxHeartbeats 400000 in
theorem cloneO_typ (w : World) (P : Nat → Prop) (v : Value) (n : Nat) (xs : List Value) (h : Sl w P 12 v n xs) (h1 : ∀ u ∈ xs, u.oneCell' = true) (hb : n * 176 ≤ 140737488355328) :
    Calls Try.prog 37 #[v] w (CloneO w 56 12 n xs) := by
  obtain ⟨i0, hi0, hz0, hz1, hz2⟩ := info_parts info_typ
  have hm : 0 + n ≤ maxLen := by obtain ⟨A, c, _, k1, k2⟩ := h.form; omega
  have H := Lib.hid h
  have hl := Lib.hid h.len
  obtain ⟨A, c, rfl, k1, k2⟩ := h.form
  clear h k1 k2
  cases A with
  | none =>
    clear hi0 hz0 hz1 hz2 hb hm h1
    have he := fun (w : World) => Lib.run_eql_slice_nil (P := Try.prog) w 23 56 none n c 0 0 Try.underlying23
    go_enter Try.func37, Try.ntmps37
    go_wp2_with fail
    go_ret
    have h0 : xs = [] := by
      obtain ⟨A, c, e, _, _, _, hc⟩ := H.out
      cases xs with
      | nil => rfl
      | cons x l =>
        obtain ⟨b, off, e', _, _⟩ := hc 0 x rfl
        subst e'
        injection e with e
        cases e
    subst h0
    have hn : n = 0 := by have := hl.out; simp at this; omega
    subst hn
    exact ⟨_, rfl, Wr.refl _ _, World.ownsRow_nil w _ _ _⟩
  | some ad =>
    obtain ⟨v1, w1, hrun, hown, hg, hat⟩ := run_append_sl (P := Try.prog) (w.alloc (.cells #[] 56)) w.heap.size 23 23 56 i0 _ 12 176 Try.underlying23 hi0 hz0 hz1 hz2 rfl (by omega)
      (.slice (some ⟨w.heap.size, 0, none⟩) 0 0) 0 [] (World.ownsRow_made w #[] 0 (Nat.le_refl _) (by simp) rfl) P (.slice (some ad) n c) n xs (H.out.wr0 ((Wr.refl _ _).alloc _)) h1 hm (by omega) (by simp)
    simp only [Nat.zero_add, List.nil_append] at hown
    have HG := Lib.hid hg
    have HO := Lib.hid hown
    clear hi0 hz0 hz1 hz2 hm hb h1 hg hat hown
    have he := fun (w : World) => Lib.run_eql_slice_nil (P := Try.prog) w 23 56 (some ad) n c 0 0 Try.underlying23
    go_enter Try.func37, Try.ntmps37
    go_wp2_with (at_builtin; refine wpList_append_run rfl _ _ _ rfl _ _ rfl rfl _ _ hrun ?_)
    go_ret
    refine ⟨_, rfl, ?_, HO.out⟩
    exact ((Wr.refl [] w).alloc _).trans' (Wr.ofGrown HG.out (l := [w.heap.size]) (fun k hk => by simp [Value.ownBlock] at hk; simp [hk])) (fun x hx => .inr (by simp at hx; omega))
theorem info_exp : (Try.prog.info? 44).map (fun i => (i.zero, i.size, i.bytes)) = some (some (.agg #[.string ⟨#[]⟩, .int .u8 0, .int .i64 0, .nilIface, .int .i64 0]), 5, 56) := by kernel_rfl
set_option maxHeartbeats 400000 in
theorem cloneO_exp (w : World) (P : Nat → Prop) (v : Value) (n : Nat) (xs : List Value) (h : Sl w P 5 v n xs) (h1 : ∀ u ∈ xs, u.oneCell' = true) (hb : n * 56 ≤ 140737488355328) :
    Calls Try.prog 38 #[v] w (CloneO w 44 5 n xs) := by
  obtain ⟨i0, hi0, hz0, hz1, hz2⟩ := info_parts info_exp
  have hm : 0 + n ≤ maxLen := by obtain ⟨A, c, _, k1, k2⟩ := h.form; omega
  have H := Lib.hid h
  have hl := Lib.hid h.len
  obtain ⟨A, c, rfl, k1, k2⟩ := h.form
  clear h k1 k2
  cases A with
  | none =>
    clear hi0 hz0 hz1 hz2 hb hm h1
    have he := fun (w : World) => Lib.run_eql_slice_nil (P := Try.prog) w 29 44 none n c 0 0 Try.underlying29
    go_enter Try.func38, Try.ntmps38
    go_wp2_with fail
    go_ret
    have h0 : xs = [] := by
      obtain ⟨A, c, e, _, _, _, hc⟩ := H.out
      cases xs with
      | nil => rfl
      | cons x l =>
        obtain ⟨b, off, e', _, _⟩ := hc 0 x rfl
        subst e'
        injection e with e
        cases e
    subst h0
    have hn : n = 0 := by have := hl.out; simp at this; omega
    subst hn
    exact ⟨_, rfl, Wr.refl _ _, World.ownsRow_nil w _ _ _⟩
  | some ad =>
    obtain ⟨v1, w1, hrun, hown, hg, hat⟩ := run_append_sl (P := Try.prog) (w.alloc (.cells #[] 44)) w.heap.size 29 29 44 i0 _ 5 56 Try.underlying29 hi0 hz0 hz1 hz2 rfl (by omega)
      (.slice (some ⟨w.heap.size, 0, none⟩) 0 0) 0 [] (World.ownsRow_made w #[] 0 (Nat.le_refl _) (by simp) rfl) P (.slice (some ad) n c) n xs (H.out.wr0 ((Wr.refl _ _).alloc _)) h1 hm (by omega) (by simp)
    simp only [Nat.zero_add, List.nil_append] at hown
    have HG := Lib.hid hg
    have HO := Lib.hid hown
    clear hi0 hz0 hz1 hz2 hm hb h1 hg hat hown
    have he := fun (w : World) => Lib.run_eql_slice_nil (P := Try.prog) w 29 44 (some ad) n c 0 0 Try.underlying29
    go_enter Try.func38, Try.ntmps38
    go_wp2_with (at_builtin; refine wpList_append_run rfl _ _ _ rfl _ _ rfl rfl _ _ hrun ?_)
    go_ret
    refine ⟨_, rfl, ?_, HO.out⟩
    exact ((Wr.refl [] w).alloc _).trans' (Wr.ofGrown HG.out (l := [w.heap.size]) (fun k hk => by simp [Value.ownBlock] at hk; simp [hk])) (fun x hx => .inr (by simp at hx; omega))
end Go.Proofs.Ytmpbkfbjmmoapaa

/- What IfaceLong does with memory: zeros made, zeros appended, bytes made a text. No conditions. -/
namespace Go.Proofs.Ytmpbkfbjmmoapaa
open Go.RowKit
set_option linter.unusedVariables false
set_option linter.unusedSimpArgs false
theorem run_append_zeros {P : Program} (w : World) (t u ty e : TypeId) (i : TypeInfo) (z : Value) (ht : P.underlying t = some (.slice e)) (hu : P.underlying u = some (.int .i64)) (hi : P.info? e = some i) (hz : i.zero = some z)
    (b : Addr) (sLen sCap : Nat) (olds : List Value) (hlo : olds.length = sLen * i.size) (holds : ∀ j v, olds[j]? = some v → w.cell? (b.add j) = some v)
    (k : Nat) (hk : 0 < k * i.size) (hkb : (k : Int) * (i.bytes : Int) ≤ 281474976710656) (hk63 : (k : Int) ≤ 9223372036854775807)
    (hg : sCap < sLen + k) (h63 : ((sLen + k : Nat) : Int) ≤ 9223372036854775807) (hfit : Builtin.nextslicecap (sLen + k) sCap * i.bytes ≤ 281474976710656) :
    (Builtin.append_ #[t, u] ty #[.slice (some b) sLen sCap, .int .i64 (k : Int)]).run P w =
      .ok (.slice (some ⟨w.heap.size, 0, none⟩) (sLen + k) (grownCap w (sLen + k) sCap e))
        (w.drew.alloc (.cells (olds.toArray ++ Builtin.zeroCells z.cells k ++ Builtin.zeroCells z.cells (grownCap w (sLen + k) sCap e - (sLen + k))) e)) := by
  have hn : ¬ (sLen + k ≤ sCap) := by omega
  have h63' : ¬ (9223372036854775807 < ((sLen : Int) + (k : Int))) := by omega
  have h48' : ¬ (281474976710656 < Builtin.nextslicecap (sLen + k) sCap * i.bytes) := by omega
  have hw : IntKind.i64.wrap (k : Int) = (k : Int) := by rw [IntKind.wrap_i64]; omega
  have hkn : ¬ ((k : Int) < 0) := by omega
  have hkb' : ¬ (281474976710656 < (k : Int) * (i.bytes : Int)) := by omega
  have hk0 : ¬ (k * i.size = 0) := by omega
  have hk1 : ¬ (k = 0) := by intro e; rw [e, Nat.zero_mul] at hk; omega
  have hk2 : ¬ (i.size = 0) := by intro e; rw [e, Nat.mul_zero] at hk; omega
  have hfo := run_firstCells_some (P := P) w.drew i.size sLen b sLen sCap olds hlo (by simpa using holds)
  have ha : (asIntOf (.int .i64 (k : Int))).run P w = .ok (.i64, (k : Int)) w := rfl
  simp [Builtin.append_, run_underlying ht, run_underlying hu, ha, sizeOf, typeInfo, zeroValue, hi, hz, Builtin.lenOf, hn, h63', h48', Question.forced, hfo, newRow, grownCap, asInt, hw, hkn, hkb', hk0, hk1, hk2]
section
variable {P : Program} {a : Act} {w : World} {o : Oper} {Q : Exit → Act → World → Prop}
theorem wp_append_run2 {K : Act → World → Prop} (s x : Operand) (t u : TypeId) (ho : o.op = .call { callee := .builtin .append, args := #[s, x], argTypes := #[t, u] }) (vs vx : Value) (hs : a.eval s = vs) (hx : a.eval x = vx) (v' : Value) (w' : World)
    (hrun : (Builtin.append_ #[t, u] o.type #[vs, vx]).run P w = .ok v' w') (h : K (a.put o.dst v') w') : Oper.wp P o a w K Q := by
  unfold Oper.wp execOp
  simp only [ho, resolve, invoke, builtin, Sem.run_bind, Sem.run_pure, Result.andThen_ok, List.map_toArray, List.map_cons, List.map_nil, hs, hx, hrun]
  exact h
theorem wpList_append_run2 {ops : Array Oper} {rest : List Oper} (hgd : o.guard = none) (s x : Operand) (t u : TypeId) (ho : o.op = .call { callee := .builtin .append, args := #[s, x], argTypes := #[t, u] }) (vs vx : Value) (hs : a.eval s = vs) (hx : a.eval x = vx) (v' : Value) (w' : World)
    (hrun : (Builtin.append_ #[t, u] o.type #[vs, vx]).run P w = .ok v' w') (h : wpList P ops Q rest (a.put o.dst v') w') : wpList P ops Q (o :: rest) a w :=
  wpList_plain hgd fun _ hK => wp_append_run2 s x t u ho vs vx hs hx v' w' hrun (hK _ _ h)
end
/-- A thing is put behind a row of one's own. -/
theorem push_own {w : World} {base k size bytes : Nat} {t T : TypeId} {i0 : TypeInfo} {z v : Value} {xs ys : List Value} (hu : Try.prog.underlying t = some (.slice T)) (hi : Try.prog.info? T = some i0) (hz0 : i0.zero = some z) (hz1 : i0.size = size) (hz2 : i0.bytes = bytes) (hzs : z.cells.size = size) (hsz : 0 < size)
    (h : w.ownsRow base T size v k xs) {B : Nat} (hB : Blk w B T ys.toArray) (hys : ys.length = size) (h1 : ∀ u ∈ ys, u.oneCell' = true) (hk : k ≤ 65535) (hby : bytes ≤ 1000) (hbase : base ≤ w.heap.size) :
    ∃ A c w', (Builtin.append_ #[t, t] t #[v, .slice (some ⟨B, 0, none⟩) 1 1]).run Try.prog w = .ok (.slice A (k + 1) c) w' ∧ w'.ownsRow base T size (.slice A (k + 1) c) (k + 1) (xs ++ ys) ∧ Wr (ownL v) w w' ∧ ((Value.slice A (k + 1) c).ownBlock = v.ownBlock ∨ (Value.slice A (k + 1) c).ownBlock = some w.heap.size) := by
  have hbb : (k + 1) * bytes ≤ 140737488355328 := by
    have : (k + 1) * bytes ≤ 65536 * 1000 := Nat.mul_le_mul (by omega) hby
    omega
  obtain ⟨v', w', hrun, hown, hgrow, _, hbk⟩ := run_append_own_at (P := Try.prog) w base t t T i0 z size bytes hu hi hz0 hz1 hz2 hzs hsz v k _ h ⟨B, 0, none⟩ 1 1 ys (by rw [hys]; omega) (fun jj u hu => by
    rw [Addr.add_lit, Nat.zero_add, hB.cell, List.getElem?_toArray]
    exact hu) h1 (by unfold maxLen; omega) hbb hbase
  obtain ⟨A7, c7, hv7⟩ : ∃ A c, v' = .slice A (k + 1) c := by
    rcases hown.2 with ⟨_, h0⟩ | ⟨gg, cap, cur, e, _⟩
    · omega
    · exact ⟨_, _, e⟩
  subst hv7
  exact ⟨A7, c7, w', hrun, hown, Wr.ofGrownOwn hgrow, hbk⟩
/-- A block that was made in one piece is a row of one's own. -/
theorem own_blk {w : World} {base size n g : Nat} {T : TypeId} {xs : List Value} (h : Blk w g T xs.toArray) (hl : xs.length = n * size) (hb : base ≤ g) (hn : n ≤ maxLen) : w.ownsRow base T size (.slice (some ⟨g, 0, none⟩) n n) n xs :=
  ⟨hl, .inr ⟨g, n, xs.toArray, rfl, hb, h, Nat.le_refl _, hn, by simp [hl], by rw [← hl]; simp⟩⟩
theorem conv_two14 (w : World) (g : Nat) (a b : Int) (hc : w.cell? ⟨g, 0, none⟩ = some (.int .u8 a)) (hd : w.cell? ⟨g, 1, none⟩ = some (.int .u8 b)) :
    (convert 41 9 (.slice (some ⟨g, 0, none⟩) 2 2)).run Try.prog w = .ok (.string ⟨#[UInt8.ofNat a.toNat, UInt8.ofNat b.toNat]⟩) w := by
  rw [run_convert_bytes_string w _ _ 5 _ 2 2 Try.underlying41 Try.underlying5 Try.underlying9,
    run_bytesToString w ⟨g, 0, none⟩ 2 2 [a, b] (by simp [loadCells, loadCellsFrom, run_load, hc, hd, Sem.run_bind, Result.andThen, Sem.run_pure, Addr.add])]
  rfl
def zerosB (n : Nat) : ByteArray := ⟨(List.replicate n (0 : UInt8)).toArray⟩
theorem zerosB_size (n : Nat) : (zerosB n).size = n := by
  show (List.replicate n (0 : UInt8)).toArray.size = n
  simp
theorem made_bytes (n : Nat) (hn : n ≤ 1000) (w : World) : (Instr.makeSlice 41 (.int .i64 (n : Int)) (.int .i64 (n : Int))).run Try.prog w = .ok (.slice (some ⟨w.heap.size, 0, none⟩) n n) (w.alloc (.cells (madeCells #[.int .u8 0] n) 5)) := by
  obtain ⟨i1, hi1, hy0, hy1, hy2⟩ := info_parts (show (Try.prog.info? 5).map (fun i => (i.zero, i.size, i.bytes)) = some (some (.int .u8 0), 1, 1) by kernel_rfl)
  have := run_make (P := Try.prog) w 41 5 i1 (.int .u8 0) Try.underlying41 hi1 hy0 .i64 .i64 (n : Int) (n : Int) (by omega) (Int.le_refl _) (by rw [hy2]; omega) (by omega)
  rw [hy1, Nat.mul_one, Int.toNat_natCast] at this
  exact this
theorem conv_zeros (n : Nat) (w : World) (g : Nat) (h : Blk w g 5 (madeCells #[.int .u8 0] n)) : (convert 41 9 (.slice (some ⟨g, 0, none⟩) n n)).run Try.prog w = .ok (.string (zerosB n)) w := by
  have := run_convert_bytes_back (P := Try.prog) w 41 9 5 ⟨g, 0, none⟩ n (List.replicate n 0) Try.underlying41 Try.underlying5 Try.underlying9 (fun j hj => by
    rw [Addr.add_lit, Nat.zero_add, h.cell]
    rw [List.length_replicate] at hj
    simp [madeCells, hj, Nat.mod_one])
  rw [List.length_replicate] at this
  exact this
theorem x_eq (a b : Nat) (ha : a < 256) (hb : b < 256) : (⟨#[120]⟩ : ByteArray) ++ ⟨#[UInt8.ofNat ((a : Nat) : Int).toNat, UInt8.ofNat ((b : Nat) : Int).toNat]⟩ = xname a b := by
  unfold xname
  apply ByteArray.ext
  rw [ByteArray.data_append]
  simp
/-- Types without lists, ahead of whatever else is in their block. -/
theorem tys14_sl {w : World} {P : Nat → Prop} {g c : Nat} {T : TypeId} {ts : List Ty} {rest : Array Value} (h : Blk w g T ((ts.flatMap (fun t => t.cells (.slice none 0 0) (.slice none 0 0) (.slice none 0 0) (.slice none 0 0))).toArray ++ rest)) (hg : P g)
    (hb : ∀ t ∈ ts, t.names = [] ∧ t.fields = [] ∧ t.arms = [] ∧ t.params = []) (hn : ts.length ≤ c) (hc : c ≤ maxLen) :
    ∃ xs, Sl w P 12 (.slice (some ⟨g, 0, none⟩) ts.length c) ts.length xs ∧ (∀ u ∈ xs, u.oneCell' = true) ∧ ∀ i t, ts[i]? = some t → ∃ vn vf va vp, (∀ j u, (t.cells vn vf va vp)[j]? = some u → xs[i * 12 + j]? = some u) ∧ Lists w P vn vf va vp t := by
  have len : ∀ ts : List Ty, (ts.flatMap (fun t => t.cells (.slice none 0 0) (.slice none 0 0) (.slice none 0 0) (.slice none 0 0))).length = ts.length * 12 := by
    intro ts
    induction ts with
    | nil => rfl
    | cons t ts ih => rw [List.flatMap_cons, List.length_append, ih, List.length_cons]; show 12 + _ = _; omega
  have flat : ∀ (l : List Ty) (i j : Nat) (x : Ty), l[i]? = some x → j < 12 → (l.flatMap (fun t => t.cells (.slice none 0 0) (.slice none 0 0) (.slice none 0 0) (.slice none 0 0)))[i * 12 + j]? = (x.cells (.slice none 0 0) (.slice none 0 0) (.slice none 0 0) (.slice none 0 0))[j]? := by
    intro l
    induction l with
    | nil => intro i j x h; simp at h
    | cons y l ih =>
      intro i j x h hj
      cases i with
      | zero =>
        simp only [List.getElem?_cons_zero, Option.some.injEq] at h
        subst h
        rw [List.flatMap_cons, Nat.zero_mul, Nat.zero_add, List.getElem?_append_left (by show j < 12; exact hj)]
      | succ i =>
        rw [List.getElem?_cons_succ] at h
        rw [List.flatMap_cons, List.getElem?_append_right (by show 12 ≤ _; omega)]
        show (List.flatMap _ l)[(i + 1) * 12 + j - 12]? = _
        rw [show (i + 1) * 12 + j - 12 = i * 12 + j by omega]
        exact ih i j x h hj
  refine ⟨_, ⟨some ⟨g, 0, none⟩, c, rfl, hn, hc, len ts, fun j u hj => ⟨g, 0, rfl, hg, ?_⟩⟩, ?_, fun i t hi => ⟨.slice none 0 0, .slice none 0 0, .slice none 0 0, .slice none 0 0, fun j u hj => ?_, ?_⟩⟩
  · rw [Nat.zero_add, h.cell]
    have hjl := (List.getElem?_eq_some_iff.1 hj).1
    rw [Array.getElem?_append_left (by simpa using hjl), List.getElem?_toArray]
    exact hj
  · intro u hu
    obtain ⟨t, _, hu⟩ := List.mem_flatMap.1 hu
    simp only [Ty.cells, List.mem_cons, List.not_mem_nil, or_false] at hu
    rcases hu with rfl | rfl | rfl | rfl | rfl | rfl | rfl | rfl | rfl | rfl | rfl | rfl <;> rfl
  · have hj12 : j < 12 := (List.getElem?_eq_some_iff.1 hj).1
    rw [flat ts i j t hi hj12]
    exact hj
  · obtain ⟨h1, h2, h3, h4⟩ := hb t (List.mem_of_getElem? hi)
    refine ⟨?_, ?_, ?_, ?_⟩
    · rw [h1]; exact Sl.nil _ _ _
    · rw [h2]; exact Sl.nil _ _ _
    · rw [h3]; exact SlArms.nil _ _
    · rw [h4]; exact Sl.nil _ _ _
theorem zero_cells (c : Array Value) : ∀ n : Nat, (Builtin.zeroCells c n).toList = (List.replicate n c.toList).flatten := by
  have key : ∀ n : Nat, (List.range (n * c.size)).map (fun i => c[i % c.size]!) = (List.replicate n c.toList).flatten := by
    intro n
    induction n with
    | zero => simp
    | succ n ih =>
      rw [Nat.succ_mul, Nat.add_comm, List.range_add, List.map_append, List.map_map, List.replicate_succ, List.flatten_cons, ← ih]
      congr 1
      · apply List.ext_getElem?
        intro i
        by_cases h : i < c.size
        · rw [List.getElem?_map, List.getElem?_range h, Array.getElem?_toList]
          simp [Nat.mod_eq_of_lt h, h]
        · rw [List.getElem?_eq_none (by simp; omega), List.getElem?_eq_none (by simp; omega)]
      · apply List.map_congr_left
        intro i _
        simp
  intro n
  rw [← key n]
  simp [Builtin.zeroCells]
end Go.Proofs.Ytmpbkfbjmmoapaa

/- Bytes as numbers, and one step of a key: plain. No conditions. -/
namespace Go.Proofs.Ytmpbkfbjmmoapaa
open Go.RowKit
set_option linter.unusedVariables false
set_option linter.unusedSimpArgs false
end Go.Proofs.Ytmpbkfbjmmoapaa
