/- law 11's Table: two tables side by side, the program's and the document's: walked. Conditions: what types are made of is such as Go has, at most forty. -/
import Derived.Test.YtcpgkeceefoljaaTyO
namespace Go.Proofs.Ytcpgkeceefoljaa
open Go.RowKit
set_option linter.unusedVariables false
set_option linter.unusedSimpArgs false
attribute [local go_sem ↓] Go.wp_at_zero Go.wp_at_succ

/-- What a type is made of. -/
structure MadeD where
  k : Int
  b : Int
  x : Int
  lo : Int
  hi : Int
  ps : List Int
  vs : List Bool
def MadeD.ok (m : MadeD) : Prop := (0 ≤ m.k ∧ m.k ≤ 255) ∧ (0 ≤ m.b ∧ m.b ≤ 65535) ∧ (0 ≤ m.x ∧ m.x ≤ 65535) ∧ (-2147483648 ≤ m.lo ∧ m.lo ≤ 2147483647) ∧ (-2147483648 ≤ m.hi ∧ m.hi ≤ 2147483647) ∧ ∀ i, i < m.ps.length → 0 ≤ m.ps.getD i 0 ∧ m.ps.getD i 0 ≤ 65535
def MadeD.ty (m : MadeD) (n : Nat) : Ty := madeTy m.k m.b m.x m.lo m.hi m.ps m.vs n
/-- It lies at an address, seven cells, and its lists elsewhere. -/
def MadeIn (w : World) (bb off : Nat) (m : MadeD) : Prop :=
  ∃ (Ap Av : Option Addr) (cp cv : Nat), (m.ps.length ≤ cp ∧ cp ≤ maxLen) ∧ (m.vs.length ≤ cv ∧ cv ≤ maxLen) ∧
    w.cell? ⟨bb, off, none⟩ = some (.int .u8 m.k) ∧ w.cell? ⟨bb, off + 1, none⟩ = some (.int .u16 m.b) ∧ w.cell? ⟨bb, off + 2, none⟩ = some (.int .u16 m.x) ∧ w.cell? ⟨bb, off + 3, none⟩ = some (.int .i32 m.lo) ∧ w.cell? ⟨bb, off + 4, none⟩ = some (.int .i32 m.hi) ∧
    w.cell? ⟨bb, off + 5, none⟩ = some (.slice Ap m.ps.length cp) ∧ w.cell? ⟨bb, off + 6, none⟩ = some (.slice Av m.vs.length cv) ∧
    (∀ i, i < m.ps.length → ∃ b' o', Ap = some ⟨b', o', none⟩ ∧ w.cell? ⟨b', o' + i, none⟩ = some (.int .u16 (m.ps.getD i 0))) ∧
    (∀ i, i < m.vs.length → ∃ b' o', Av = some ⟨b', o', none⟩ ∧ w.cell? ⟨b', o' + i, none⟩ = some (.bool (m.vs.getD i false)))
theorem MadeIn.wr0 {w w' : World} {bb off : Nat} {m : MadeD} (h : MadeIn w bb off m) (hw : Wr [] w w') : MadeIn w' bb off m := by
  obtain ⟨Ap, Av, cp, cv, h1, h2, c0, c1, c2, c3, c4, c5, c6, h3, h4⟩ := h
  refine ⟨Ap, Av, cp, cv, h1, h2, hw.cellOf c0 (by simp), hw.cellOf c1 (by simp), hw.cellOf c2 (by simp), hw.cellOf c3 (by simp), hw.cellOf c4 (by simp), hw.cellOf c5 (by simp), hw.cellOf c6 (by simp), fun i hi => ?_, fun i hi => ?_⟩
  · obtain ⟨b', o', e1, e2⟩ := h3 i hi
    exact ⟨b', o', e1, hw.cellOf e2 (by simp)⟩
  · obtain ⟨b', o', e1, e2⟩ := h4 i hi
    exact ⟨b', o', e1, hw.cellOf e2 (by simp)⟩
/-- A slice of such. -/
def IsMades (w : World) (v : Value) (l : List MadeD) : Prop :=
  ∃ (A : Option Addr) (c : Nat), v = .slice A l.length c ∧ l.length ≤ c ∧ c ≤ maxLen ∧ (∀ m ∈ l, m.ok) ∧ ∀ i m, l[i]? = some m → ∃ bb off, A = some ⟨bb, off, none⟩ ∧ MadeIn w bb (off + i * 7) m
theorem IsMades.wr0 {w w' : World} {v : Value} {l : List MadeD} (h : IsMades w v l) (hw : Wr [] w w') : IsMades w' v l := by
  obtain ⟨A, c, h1, h2, h3, h4, h5⟩ := h
  refine ⟨A, c, h1, h2, h3, h4, fun i m hi => ?_⟩
  obtain ⟨bb, off, e1, e2⟩ := h5 i m hi
  exact ⟨bb, off, e1, e2.wr0 hw⟩

/-- The types of a list. -/
def addT (tys : List Ty) (m : MadeD) : List Ty := if mayB (m.k % 12 + 7) = true then tys ++ [m.ty tys.length] else tys
def tabL (l : List MadeD) : List Ty := l.foldl addT tys0
theorem addT_len (tys : List Ty) (m : MadeD) : tys.length ≤ (addT tys m).length ∧ (addT tys m).length ≤ tys.length + 1 := by
  unfold addT
  split <;> simp
theorem foldl_len : ∀ (l : List MadeD) (tys : List Ty), tys.length ≤ (l.foldl addT tys).length ∧ (l.foldl addT tys).length ≤ tys.length + l.length
  | [], tys => by simp
  | m :: l, tys => by
    have h1 := addT_len tys m
    have h2 := foldl_len l (addT tys m)
    simp only [List.foldl_cons, List.length_cons]
    omega
theorem madeTy_room (m : MadeD) (n : Nat) : (m.ty n).room := ⟨by simp [MadeD.ty, madeTy], by simp [MadeD.ty, madeTy], by simp [MadeD.ty, madeTy], by simp [MadeD.ty, madeTy, parsOf]; omega, by simp [MadeD.ty, madeTy]⟩

/-- Two tables side by side, of the same types. -/
structure Two (w0 w : World) (t r : Nat) (vt vr : Value) (L : List Nat) (tys : List Ty) : Prop where
  prog : Tab 71 w t vt L w0.heap.size tys
  doc : Tab 47 w r vr L w0.heap.size tys
  old : ∀ x ∈ L, w0.heap.size ≤ x
  wr : Wr [] w0 w
  tr : t ≠ r
  tor : t ∉ ownL vr
  rot : r ∉ ownL vt
  oo : ∀ x ∈ ownL vt, x ∉ ownL vr
theorem Two.wr0 {w0 w w' : World} {t r : Nat} {vt vr : Value} {L : List Nat} {tys : List Ty} (h : Two w0 w t r vt vr L tys) (hw : Wr [] w w') : Two w0 w' t r vt vr L tys :=
  ⟨h.prog.wr0 hw, h.doc.wr0 hw, h.old, h.wr.trans hw, h.tr, h.tor, h.rot, h.oo⟩

/-- A step by one table leaves the other as it is. -/
theorem tab_beside {T T' : TypeId} {w w' : World} {t r : Nat} {v vr : Value} {L L' : List Nat} {base base' : Nat} {tys tys' : List Ty} (h : Tab T w t v L base tys) (k : Tab T' w r vr L base' tys') (hW : Wr (t :: ownL v) w w') (h1 : ∀ x ∈ L, x ∈ L') (h2 : ∀ x ∈ L', x ∈ L ∨ w.heap.size ≤ x) (h3 : ∀ x ∈ L', x < w'.heap.size)
    (htr : r ≠ t) (hrv : r ∉ ownL v) (htv : t ∉ ownL vr) (hoo : ∀ x ∈ ownL v, x ∉ ownL vr) : Tab T' w' r vr L' base' tys' := by
  refine k.step hW (fun x hx => ?_) (fun hm => ?_) (fun y hy hm => ?_) h1 h2 h3
  · rcases List.mem_cons.1 hx with e | e
    · rw [e]; exact h.tin
    · exact h.rin x (mem_ownL.1 e)
  · rcases List.mem_cons.1 hm with e | e
    · exact htr e
    · exact hrv e
  · rcases List.mem_cons.1 hm with e | e
    · exact htv (e ▸ mem_ownL.2 hy)
    · exact hoo y e (mem_ownL.2 hy)
theorem own_new {v v' : Value} {w : World} (h : v'.ownBlock = v.ownBlock ∨ ∃ k, v'.ownBlock = some k ∧ w.heap.size ≤ k) {x : Nat} (hx : x ∈ ownL v') : x ∈ ownL v ∨ w.heap.size ≤ x := by
  rw [mem_ownL] at hx
  rcases h with e | ⟨k, e, hk⟩
  · exact .inl (mem_ownL.2 (e.symm.trans hx))
  · rw [hx] at e
    injection e with e
    exact .inr (by omega)

/-- The program's table has one type more; the document's not yet. -/
structure Mid (w0 w : World) (t r : Nat) (vt vr : Value) (L : List Nat) (tys tys' : List Ty) : Prop where
  prog : Tab 71 w t vt L w0.heap.size tys'
  doc : Tab 47 w r vr L w0.heap.size tys
  old : ∀ x ∈ L, w0.heap.size ≤ x
  wr : Wr [] w0 w
  tr : t ≠ r
  tor : t ∉ ownL vr
  rot : r ∉ ownL vt
  oo : ∀ x ∈ ownL vt, x ∉ ownL vr
theorem Two.mid {w0 w w' : World} {t r : Nat} {vt vr : Value} {L : List Nat} {tys : List Ty} {ty : Ty} {e : Ending} (h : Two w0 w t r vt vr L tys) (k : AddP 71 w t vt L w0.heap.size tys ty e w') :
    ∃ vt' L', e = .returned (.tuple #[.int .i64 tys.length, .int .i64 0]) ∧ Mid w0 w' t r vt' vr L' tys (tys ++ [ty]) ∧ (∀ x ∈ L, x ∈ L') ∧ (∀ x ∈ L', x ∈ L ∨ w.heap.size ≤ x) ∧ Wr (t :: ownL vt) w w' := by
  obtain ⟨vt', L', he, hW, hT, h1, h2, h3⟩ := k
  have hz := h.wr.size
  have hold : ∀ x ∈ L', w0.heap.size ≤ x := fun x hx => by
    rcases h2 x hx with e | e
    · exact h.old x e
    · omega
  refine ⟨vt', L', he, ⟨hT, tab_beside h.prog h.doc hW h1 h2 hT.lin (fun e => h.tr e.symm) h.rot h.tor h.oo, hold, h.wr.trans' hW (fun x hx => .inr ?_), h.tr, h.tor, fun hm => ?_, fun x hx => ?_⟩, h1, h2, hW⟩
  · rcases List.mem_cons.1 hx with e | e
    · rw [e]; exact h.old _ h.prog.tin
    · exact h.old _ (h.prog.rin x (mem_ownL.1 e))
  · rcases own_new h3 hm with e | e
    · exact h.rot e
    · have := h.doc.blk.lt
      omega
  · rcases own_new h3 hx with e | e
    · exact h.oo x e
    · intro hm
      have := h.doc.lin x (h.doc.rin x (mem_ownL.1 hm))
      omega
theorem Mid.two {w0 w w' : World} {t r : Nat} {vt vr : Value} {L : List Nat} {tys : List Ty} {ty : Ty} {e : Ending} (h : Mid w0 w t r vt vr L tys (tys ++ [ty])) (k : AddP 47 w r vr L w0.heap.size tys ty e w') :
    ∃ vr' L', e = .returned (.tuple #[.int .i64 tys.length, .int .i64 0]) ∧ Two w0 w' t r vt vr' L' (tys ++ [ty]) := by
  obtain ⟨vr', L', he, hW, hT, h1, h2, h3⟩ := k
  have hz := h.wr.size
  have hold : ∀ x ∈ L', w0.heap.size ≤ x := fun x hx => by
    rcases h2 x hx with e | e
    · exact h.old x e
    · omega
  refine ⟨vr', L', he, ⟨tab_beside h.doc h.prog hW h1 h2 hT.lin h.tr h.tor h.rot (fun x hx hm => h.oo x hm hx), hT, hold, h.wr.trans' hW (fun x hx => .inr ?_), h.tr, fun hm => ?_, h.rot, fun x hx hm => ?_⟩⟩
  · rcases List.mem_cons.1 hx with e | e
    · rw [e]; exact h.old _ h.doc.tin
    · exact h.old _ (h.doc.rin x (mem_ownL.1 e))
  · rcases own_new h3 hm with e | e
    · exact h.tor e
    · have := h.prog.blk.lt
      omega
  · rcases own_new h3 hm with e | e
    · exact h.oo x hx e
    · have := h.prog.lin x (h.prog.rin x (mem_ownL.1 hx))
      omega
theorem Sl.free0 {w : World} {P Q : Nat → Prop} {size : Nat} {v : Value} {xs : List Value} (h : Sl w P size v 0 xs) : Sl w Q size v 0 xs := by
  obtain ⟨A, c, hv, h1, h2, h3, h4⟩ := h
  refine ⟨A, c, hv, h1, h2, h3, fun j u hj => ?_⟩
  have := (List.getElem?_eq_some_iff.1 hj).1
  omega
theorem bare_free {w : World} {P Q : Nat → Prop} {xs : List Value} {i : Nat} (k : Int) (nm : ByteArray) (b h : Int) (ht : TyAt w P xs i (Ty.bare k nm b h)) : TyAt w Q xs i (Ty.bare k nm b h) := by
  obtain ⟨vn, vf, va, vp, hc, hl⟩ := ht
  refine ⟨vn, vf, va, vp, hc, ?_, ?_, ?_, ?_⟩
  · exact Sl.free0 (P := P) hl.names
  · exact Sl.free0 (P := P) hl.fields
  · obtain ⟨ys, g1, g2, g3⟩ := hl.arms
    exact ⟨ys, Sl.free0 (P := P) g1, g2, fun j x hj => by simp [Ty.bare] at hj⟩
  · exact Sl.free0 (P := P) hl.params
/-- Both tables, just made. -/
theorem two_new {w0 w1 w2 : World} {t r : Nat} {vt vr : Value} {Lt Lr : List Nat} (h1 : Tab 71 w1 t vt Lt w0.heap.size tys0) (k1 : ∀ x ∈ Lt, w0.heap.size ≤ x) (r1 : Wr [] w0 w1)
    (h2 : Tab 47 w2 r vr Lr w1.heap.size tys0) (k2 : ∀ x ∈ Lr, w1.heap.size ≤ x) (r2 : Wr [] w1 w2) : Two w0 w2 t r vt vr (Lt ++ Lr) tys0 := by
  have hlt : ∀ x ∈ Lt, x < w1.heap.size := h1.lin
  have hz1 := r1.size
  have hz2 := r2.size
  have hp : Tab 71 w2 t vt (Lt ++ Lr) w0.heap.size tys0 := h1.step r2 (by simp) (by simp) (by simp) (fun x hx => List.mem_append_left _ hx) (fun x hx => by
    rcases List.mem_append.1 hx with e | e
    · exact .inl e
    · exact .inr (k2 x e)) (fun x hx => by
    rcases List.mem_append.1 hx with e | e
    · have := hlt x e; omega
    · exact h2.lin x e)
  have hd : Tab 47 w2 r vr (Lt ++ Lr) w0.heap.size tys0 := by
    refine ⟨h2.blk, ?_, List.mem_append_right _ h2.tin, fun k hk => List.mem_append_right _ (h2.rin k hk), h2.room, fun x hx => ?_⟩
    · obtain ⟨xs, ho, g1, g2⟩ := h2.row
      refine ⟨xs, ⟨ho.1, ?_⟩, g1, fun i ty hi => ?_⟩
      · rcases ho.2 with e | ⟨b, cap, cur, e1, e2, e3⟩
        · exact .inl e
        · exact .inr ⟨b, cap, cur, e1, Nat.le_trans hz1 e2, e3⟩
      · have hm := List.mem_of_getElem? hi
        exact tys0_all (fun ty => TyAt w2 (· ∉ Lr) xs i ty → TyAt w2 (· ∉ Lt ++ Lr) xs i ty) (fun k nm b h => bare_free k nm b h) ty hm (g2 i ty hi)
    · rcases List.mem_append.1 hx with e | e
      · have := hlt x e; omega
      · exact h2.lin x e
  refine ⟨hp, hd, fun x hx => ?_, r1.trans r2, fun e => ?_, fun hm => ?_, fun hm => ?_, fun x hx hm => ?_⟩
  · rcases List.mem_append.1 hx with e | e
    · exact k1 x e
    · have := k2 x e; omega
  · have a := hlt t h1.tin
    have b := k2 r h2.tin
    omega
  · have a := hlt t h1.tin
    have b := k2 t (h2.rin t (mem_ownL.1 hm))
    omega
  · have a := hlt r (h1.rin r (mem_ownL.1 hm))
    have b := k2 r h2.tin
    omega
  · have a := hlt x (h1.rin x (mem_ownL.1 hx))
    have b := k2 x (h2.rin x (mem_ownL.1 hm))
    omega
end Go.Proofs.Ytcpgkeceefoljaa
