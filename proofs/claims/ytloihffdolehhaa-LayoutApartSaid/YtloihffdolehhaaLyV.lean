/- An argument that is a list of what records are made of, opened; no list of labels is longer than memory. No conditions. -/
import Derived.Test.YtloihffdolehhaaLyU
import Derived.SizedLaws
namespace Go.Proofs.Ytloihffdolehhaa
open Go.ChangeShapes Go.WideShapes Go.ChangeAt Go.RowKit Go.Deep
set_option linter.unusedVariables false

section
variable {H : Type} {enc : TypeId × Value → H} {P : Program} {w : World} {base : Nat} {held : Bool}
theorem weightsAll_in {e : TypeId} : ∀ {l : List (DataW H)} {d : DataW H}, d ∈ l → ∀ n ∈ d.weights P e, n ∈ DataW.weightsAll P e l
  | [], _, h => by cases h
  | a :: l, d, h => fun n hn => by
    rw [DataW.weightsAll]
    rcases List.mem_cons.1 h with e | e
    · subst e
      exact List.mem_append_left _ hn
    · exact List.mem_append_right _ (weightsAll_in e n hn)
theorem inner_ints_sized {t e : TypeId} {k : IntKind} {n : Nat} {v : Value} {y : DataW H × List MemPlace} (ht : P.underlying t = some (.slice e)) (he : P.underlying e = some (.int k)) (hC : P.cellsOf e = 1) {R : Nat}
    (h : DataW.trod enc P w base (fun _ => true) held n t [v] = some y) (hR : ∀ q ∈ y.1.weights P t, q ≤ R) {A : Option Addr} {len cap : Nat} (hv : v = .slice A len cap) : len * P.bytesOf e ≤ R := by
  rcases open_ints ht he hC h with ⟨hcs, _⟩ | ⟨x, l, c, zs, hcs, _, hl, hm, hz, hy, _, _⟩
  · simp only [List.cons.injEq, and_true] at hcs
    rw [hv] at hcs
    injection hcs with _ e2 _
    subst e2
    omega
  · simp only [List.cons.injEq, and_true] at hcs
    rw [hv] at hcs
    injection hcs with _ e2 _
    subst e2
    have hzl : zs.length = c := by simpa using hz
    have hw := hR (((lits k (zs.take len) : List (DataW H)).length + (lits k (zs.drop len) : List (DataW H)).length) * P.bytesOf e) (by
      rw [hy]
      unfold DataW.weights
      rw [ht]
      exact .head _)
    have e1 : (lits k (zs.take len) : List (DataW H)).length = len := by simp [lits]; omega
    rw [e1] at hw
    exact Nat.le_trans (Nat.mul_le_mul_right _ (by omega)) hw
theorem open_slice_fieldsW {spare : Nat → Bool} {t e : TypeId} {fs : Array Field} {fuel : Nat} {cs : List Value} {x : DataW H × List MemPlace} (ht : P.underlying t = some (.slice e)) (he : P.underlying e = some (.struct fs))
    (hone : oneCellFields P fs = true) (hC : P.cellsOf e = fs.size) (h : DataW.trod enc P w base spare held fuel t cs = some x) :
    (cs = [.slice none 0 0]) ∨
    ∃ (a : Addr) (len cap m : Nat) (D : Nat → DataW H) (sp : List (DataW H)), cs = [.slice (some a) len cap] ∧ len ≤ cap ∧ cap ≤ maxLen ∧ m = (if spare a.block then cap else len) ∧ x.1 = .slice ((List.range len).map D) sp ∧
      ∀ i, i < m → ∃ (n : Nat) (ys : List (DataW H × List MemPlace)), D i = .agg (ys.map (·.1)) ∧
        ∀ (j : Nat) (f : Field), fs[j]? = some f → ∃ (v : Value) (y : DataW H × List MemPlace), w.cell? (a.add (i * fs.size + j)) = some v ∧ DataW.trod enc P w base spare held n f.type [v] = some y ∧ ys[j]? = some y := by
  rcases open_slice ht h with ⟨h0, _⟩ | ⟨a, len, cap, m, n, D, Pl, hcs, hb, hl, hm, hmm, hx, hi⟩
  · exact .inl h0
  · refine .inr ⟨a, len, cap, m, D, _, hcs, hl, hm, hmm, by rw [hx], fun i him => ?_⟩
    obtain ⟨cs', hc, ht'⟩ := hi i him
    rw [hC] at hc
    obtain ⟨ys, n', hn', hy, hlen, hyl, hf⟩ := DataW.trod_struct he ht'
    obtain ⟨_, hcl, hat⟩ := World.cells?_some hc
    refine ⟨n', ys, (Prod.ext_iff.1 hy).1, fun j f hj => ?_⟩
    obtain ⟨ho, hk⟩ := hone_of hone j f hj
    have hjl : j < fs.size := (Array.getElem?_eq_some_iff.1 hj).1
    have hcell := hat j hjl
    have hv : cs'[j]? = some (cs'[j]'(by omega)) := List.getElem?_eq_getElem (by omega)
    have h1 := hf j f hj
    rw [ho, hk] at h1
    have hone' : (cs'.drop j).take 1 = [cs'[j]'(by omega)] := by
      rw [List.drop_eq_getElem_cons (by omega)]
      rfl
    rw [hone'] at h1
    have hys : ys[j]? = some (ys[j]'(by omega)) := List.getElem?_eq_getElem (by omega)
    refine ⟨_, _, ?_, h1.trans hys, hys⟩
    rw [← Go.Deep.add_add, hcell, hv]
end

/-- It lies at an address, four cells, and its lists elsewhere. -/
def RecIn (w : World) (bb off : Nat) (m : RecD) : Prop :=
  ∃ (AT AA AF AO : Option Addr) (cT cA cF cO : Nat), IntsAt w .u16 AT cT m.ts ∧ IntsAt w .u8 AA cA m.ars ∧ IntsAt w .i16 AF cF m.fs ∧ IntsAt w .i16 AO cO m.tos ∧
    w.cell? ⟨bb, off, none⟩ = some (.slice AT m.ts.length cT) ∧ w.cell? ⟨bb, off + 1, none⟩ = some (.slice AA m.ars.length cA) ∧ w.cell? ⟨bb, off + 2, none⟩ = some (.slice AF m.fs.length cF) ∧ w.cell? ⟨bb, off + 3, none⟩ = some (.slice AO m.tos.length cO)
theorem RecIn.wr0 {w w' : World} {bb off : Nat} {m : RecD} (h : RecIn w bb off m) (hw : Wr [] w w') : RecIn w' bb off m := by
  obtain ⟨AT, AA, AF, AO, cT, cA, cF, cO, h1, h2, h3, h4, c0, c1, c2, c3⟩ := h
  exact ⟨AT, AA, AF, AO, cT, cA, cF, cO, h1.wr0 hw, h2.wr0 hw, h3.wr0 hw, h4.wr0 hw, hw.cellOf c0 (by simp), hw.cellOf c1 (by simp), hw.cellOf c2 (by simp), hw.cellOf c3 (by simp)⟩
def IsRecs (w : World) (v : Value) (l : List RecD) : Prop :=
  ∃ (A : Option Addr) (c : Nat), v = .slice A l.length c ∧ l.length ≤ c ∧ c ≤ maxLen ∧ (∀ m ∈ l, m.fs.length ≤ 70368744177664) ∧ ∀ i m, l[i]? = some m → ∃ bb off, A = some ⟨bb, off, none⟩ ∧ RecIn w bb (off + i * 4) m
theorem IsRecs.wr0 {w w' : World} {v : Value} {l : List RecD} (h : IsRecs w v l) (hw : Wr [] w w') : IsRecs w' v l := by
  obtain ⟨A, c, h1, h2, h3, h4, h5⟩ := h
  refine ⟨A, c, h1, h2, h3, h4, fun i m hi => ?_⟩
  obtain ⟨bb, off, e1, e2⟩ := h5 i m hi
  exact ⟨bb, off, e1, e2.wr0 hw⟩

set_option maxRecDepth 100000 in
theorem open_recs {H : Type} {enc : TypeId × Value → H} {W : World} {r : Reach} {b0 : Nat} {v : Value} {d : DataW H} {p : List MemPlace}
    (hv : Value.okWide Try.prog W r b0 23 v) (h : DataW.Trod enc Try.prog W 0 (fun _ => true) true 23 v d p) (hsz : ∀ n ∈ d.weights Try.prog 23, n ≤ reachBytes) : ∃ l, IsRecs W v l := by
  obtain ⟨a, len, cap, rfl⟩ := okWide_slice Try.underlying23 hv
  obtain ⟨fuel, hf⟩ := h
  rcases open_slice_fieldsW Try.underlying23 Try.underlying67 (by kernel_rfl) (by kernel_rfl) hf with hcs | ⟨x, l, c, m, D, sp, hcs, hl, hm, hmm, hd, hi⟩
  · simp [Value.cells] at hcs
    obtain ⟨rfl, rfl, rfl⟩ := hcs
    exact ⟨[], _, _, rfl, by simp, by simp, by simp, fun i m hi => by simp at hi⟩
  · simp [Value.cells] at hcs
    obtain ⟨rfl, rfl, rfl⟩ := hcs
    have hlm : len ≤ m := by rw [hmm]; split <;> omega
    have hh : ∀ i, i < len → ∃ q : RecD, q.fs.length ≤ 70368744177664 ∧ ∃ b off, some x = some ⟨b, off, none⟩ ∧ RecIn W b (off + i * 4) q := by
      intro i hil
      obtain ⟨n, ys, hD, hf⟩ := hi i (by omega)
      obtain ⟨v0, y0, hc0, ht0, _⟩ := hf 0 _ rfl
      obtain ⟨v1, y1, hc1, ht1, _⟩ := hf 1 _ rfl
      obtain ⟨v2, y2, hc2, ht2, hy2⟩ := hf 2 _ rfl
      obtain ⟨v3, y3, hc3, ht3, _⟩ := hf 3 _ rfl
      obtain ⟨A0, k0, z0, e0, g0, g0', w0, hz0⟩ := inner_ints Try.underlying64 Try.underlying78 (by kernel_rfl) ht0
      obtain ⟨A1, k1, z1, e1, g1, g1', w1, hz1⟩ := inner_ints Try.underlying51 Try.underlying5 (by kernel_rfl) ht1
      obtain ⟨A2, k2, z2, e2, g2, g2', w2, hz2⟩ := inner_ints Try.underlying65 Try.underlying47 (by kernel_rfl) ht2
      obtain ⟨A3, k3, z3, e3, g3, g3', w3, hz3⟩ := inner_ints Try.underlying65 Try.underlying47 (by kernel_rfl) ht3
      have hlen2 : z2.length * Try.prog.bytesOf 47 ≤ reachBytes := by
        refine inner_ints_sized Try.underlying65 Try.underlying47 (by kernel_rfl) ht2 (fun q hq => hsz q ?_) e2
        have hd2 : d = _ := hd
        rw [hd2]
        unfold DataW.weights
        rw [Try.underlying23]
        refine List.mem_cons_of_mem _ (List.mem_append_left _ (weightsAll_in (d := D i) (List.mem_map.2 ⟨i, List.mem_range.2 hil, rfl⟩) q ?_))
        rw [hD]
        unfold DataW.weights
        rw [Try.underlying67]
        exact DataW.weights_mem_each (j := 2) (t := 65) (d := y2.1) rfl (by rw [List.getElem?_map, hy2]; rfl) q hq
      have hb2 : Try.prog.bytesOf 47 = 2 := by kernel_rfl
      rw [hb2] at hlen2
      unfold reachBytes at hlen2
      subst e0 e1 e2 e3
      obtain ⟨b, off, spot⟩ := x
      have hspot : spot = none := by
        obtain ⟨n', ys', _, hf'⟩ := hi 0 (by omega)
        obtain ⟨v2, y2, hc2, _⟩ := hf' 0 _ rfl
        simpa [Addr.add] using World.cell?_spot hc2
      subst hspot
      refine ⟨⟨z0, z1, z2, z3⟩, by simp only; omega, b, off, rfl, A0, A1, A2, A3, k0, k1, k2, k3, ⟨g0, g0', w0, hz0⟩, ⟨g1, g1', w1, hz1⟩, ⟨g2, g2', w2, hz2⟩, ⟨g3, g3', w3, hz3⟩, ?_, ?_, ?_, ?_⟩
      · simpa [Addr.add_lit, Nat.add_assoc] using hc0
      · simpa [Addr.add_lit, Nat.add_assoc] using hc1
      · simpa [Addr.add_lit, Nat.add_assoc] using hc2
      · simpa [Addr.add_lit, Nat.add_assoc] using hc3
    let F : Nat → RecD := fun i => if h : i < len then Classical.choose (hh i h) else ⟨[], [], [], []⟩
    have hF : ∀ i, i < len → (F i).fs.length ≤ 70368744177664 ∧ ∃ b off, some x = some ⟨b, off, none⟩ ∧ RecIn W b (off + i * 4) (F i) := fun i hil => by
      have := Classical.choose_spec (hh i hil)
      simpa [F, hil] using this
    have hlen : ((List.range len).map F).length = len := by simp
    refine ⟨(List.range len).map F, some x, cap, by rw [hlen], by omega, hm, fun m hm => ?_, fun i m hi => ?_⟩
    · obtain ⟨i, hi, rfl⟩ := List.mem_map.1 hm
      exact (hF i (List.mem_range.1 hi)).1
    · obtain ⟨j, hj, rfl⟩ := List.mem_map.1 (List.mem_of_getElem? hi)
      have hil : i < len := by
        have := (List.getElem?_eq_some_iff.1 hi).1
        omega
      have : F j = F i := by
        rw [List.getElem?_map, List.getElem?_range hil] at hi
        injection hi with hi
        exact hi.symm
      rw [this]
      exact (hF i hil).2
end Go.Proofs.Ytloihffdolehhaa
