/- TypesCopies, walked. Conditions: what the type is made of is such as Go has. -/
import Derived.Test.YtcpgkeceefoljaaTyC
import Derived.Test.YtcpgkeceefoljaaTySi
namespace Go.Proofs.Ytcpgkeceefoljaa
open Go.RowKit
set_option linter.unusedVariables false
set_option linter.unusedSimpArgs false
attribute [local go_sem ↓] Go.wp_at_zero Go.wp_at_succ

/-- A table that was made since the world was w0; nothing of it lies in the blocks of G. -/
def TabG (w0 w : World) (t : Nat) (tys : List Ty) (G : List Nat) : Prop :=
  ∃ v L, Tab 71 w t v L w0.heap.size tys ∧ (∀ x ∈ L, w0.heap.size ≤ x) ∧ Wr [] w0 w ∧ ∀ x ∈ G, x ∈ L ∧ x ≠ t ∧ v.ownBlock ≠ some x
section
variable {w0 w w' : World} {t : Nat} {tys : List Ty} {G : List Nat}
theorem TabG.ofN (h : TabN w0 w t tys) : TabG w0 w t tys [] := by
  obtain ⟨v, L, h1, h2, h3⟩ := h
  exact ⟨v, L, h1, h2, h3, by simp⟩
theorem TabG.wr (h : TabG w0 w t tys G) : Wr [] w0 w := by
  obtain ⟨v, L, h1, h2, h3, h4⟩ := h
  exact h3
theorem TabG.wr0 (h : TabG w0 w t tys G) (hw : Wr [] w w') : TabG w0 w' t tys G := by
  obtain ⟨v, L, h1, h2, h3, h4⟩ := h
  exact ⟨v, L, h1.wr0 hw, h2, h3.trans hw, h4⟩
theorem TabG.less {G' : List Nat} (h : TabG w0 w t tys G) (hG : ∀ x ∈ G', x ∈ G) : TabG w0 w t tys G' := by
  obtain ⟨v, L, h1, h2, h3, h4⟩ := h
  exact ⟨v, L, h1, h2, h3, fun x hx => h4 x (hG x hx)⟩
theorem TabG.grow {G' : List Nat} (h : TabG w0 w t tys G) (hw : Wr [] w w') (hG : ∀ x ∈ G', x ∈ G ∨ (w.heap.size ≤ x ∧ x < w'.heap.size)) : TabG w0 w' t tys G' := by
  obtain ⟨v, L, h1, h2, h3, h4⟩ := h
  have hz := hw.size
  have hz0 := h3.size
  have hGL : ∀ x ∈ G', x ∈ L ∨ (w.heap.size ≤ x ∧ x < w'.heap.size) := fun x hx => (hG x hx).imp (fun e => (h4 x e).1) id
  refine ⟨v, G' ++ L, h1.step hw (by simp) (by simp) (by simp) (fun x hx => List.mem_append_right _ hx) (fun x hx => ?_) (fun x hx => ?_), fun x hx => ?_, h3.trans hw, fun x hx => ⟨List.mem_append_left _ hx, ?_, ?_⟩⟩
  · rcases List.mem_append.1 hx with e | e
    · exact (hGL x e).imp id (fun q => q.1)
    · exact .inl e
  · rcases List.mem_append.1 hx with e | e
    · rcases hGL x e with q | q
      · have := h1.lin x q; omega
      · exact q.2
    · have := h1.lin x e; omega
  · rcases List.mem_append.1 hx with e | e
    · rcases hGL x e with q | q
      · exact h2 x q
      · omega
    · exact h2 x e
  · rcases hG x hx with e | e
    · exact (h4 x e).2.1
    · have := h1.blk.lt; omega
  · rcases hG x hx with e | e
    · exact (h4 x e).2.2
    · intro q
      have := h1.lin x (h1.rin x q)
      omega
theorem TabG.store {l : List Nat} (h : TabG w0 w t tys G) (hw : Wr l w w') (hl : ∀ x ∈ l, x ∈ G) : TabG w0 w' t tys G := by
  obtain ⟨v, L, h1, h2, h3, h4⟩ := h
  exact ⟨v, L, h1.keep hw (fun x hx => (h4 x (hl x hx)).1) (fun hm => (h4 t (hl t hm)).2.1 rfl) (fun k hk hm => (h4 k (hl k hm)).2.2 hk), h2, h3.trans' hw (fun x hx => .inr (h2 x (h4 x (hl x hx)).1)), h4⟩
/-- What a call leaves as it is. -/
def Keeps (G : List Nat) (w w' : World) : Prop := ∃ l, Wr l w w' ∧ ∀ x ∈ G, x ∉ l
theorem Keeps.blk {g : Nat} {T : TypeId} {cs : Array Value} (k : Keeps G w w') (hg : g ∈ G) (h : Blk w g T cs) : Blk w' g T cs := by
  obtain ⟨l, hw, hl⟩ := k
  exact h.wr hw (hl g hg)
def AddG (w0 w : World) (t : Nat) (tys : List Ty) (n : Int) (G : List Nat) (e : Ending) (w' : World) : Prop := e = .returned (.tuple #[.int .i64 n, .int .i64 0]) ∧ TabG w0 w' t tys G ∧ Keeps G w w' ∧ w.heap.size ≤ w'.heap.size
theorem addG (h : TabG w0 w t tys G) (ty : Ty) (vn vf va vp : Value) (P : Nat → Prop) (hl : Lists w P vn vf va vp ty) (hm : mayB ty.kind = true) (hr : ty.room) (n : Int) (hn : (tys.length : Int) = n) (hn2 : n < 1024) :
    Calls Try.prog 8 #[.pointer (some ⟨t, 0, none⟩), ty.val vn vf va vp] w (AddG w0 w t (tys ++ [ty]) n G) := by
  obtain ⟨v, L, h1, h2, h3, h4⟩ := h
  refine (add_yes w t v L _ tys h1 ty vn vf va vp P hl hm (by omega) hr h3.size).mono ?_
  rintro e w' ⟨v', L', rfl, r, hT, g1, g2, g3⟩
  have hz := h3.size
  refine ⟨by rw [hn], ⟨v', L', hT, fun x hx => ?_, h3.trans' r (fun x hx => .inr ?_), fun x hx => ⟨g1 x (h4 x hx).1, (h4 x hx).2.1, fun q => ?_⟩⟩, ⟨_, r, fun x hx hm => ?_⟩, r.size⟩
  · rcases g2 x hx with k | k
    · exact h2 x k
    · omega
  · rcases List.mem_cons.1 hx with k | k
    · rw [k]; exact h2 _ h1.tin
    · exact h2 _ (h1.rin _ (mem_ownL.1 k))
  · rcases g3 with e | ⟨k, e, hk⟩
    · exact (h4 x hx).2.2 (e.symm.trans q)
    · rw [e] at q
      injection q with q
      have := h1.lin x (h4 x hx).1
      omega
  · rcases List.mem_cons.1 hm with e | e
    · exact (h4 x hx).2.1 e
    · exact (h4 x hx).2.2 (mem_ownL.1 e)
theorem getG (h : TabG w0 w t tys G) (i : Int) : Calls Try.prog 18 #[.pointer (some ⟨t, 0, none⟩), .int .i64 i] w (CopyS w (tyOf tys i)) := by
  obtain ⟨v, L, h1, h2, h3, h4⟩ := h
  exact get_anyS w t v L _ tys h1 i
def SetG (w0 w : World) (t : Nat) (tys : List Ty) (G : List Nat) (e : Ending) (w' : World) : Prop := e = .returned (.int .i64 0) ∧ TabG w0 w' t tys G ∧ Keeps G w w'
theorem setG (h : TabG w0 w t tys G) (ty : Ty) (vn vf va vp : Value) (P : Nat → Prop) (hl : Lists w P vn vf va vp ty) (k : Nat) (hk : k < tys.length) (hk10 : 10 ≤ k) (hm : mayB ty.kind = true) (hkd : (tys[k]'hk).kind = 17) (hr : ty.room) :
    Calls Try.prog 26 #[.pointer (some ⟨t, 0, none⟩), .int .i64 k, ty.val vn vf va vp] w (SetG w0 w t (tys.set k ty) G) := by
  obtain ⟨v, L, h1, h2, h3, h4⟩ := h
  refine (set_yes w t v L _ tys h1 ty vn vf va vp P hl k hk hk10 hm hkd hr).mono ?_
  rintro e w' ⟨rfl, r, hT⟩
  refine ⟨rfl, ⟨v, L, hT, h2, h3.trans' r (fun x hx => .inr (h2 _ (h1.rin _ (mem_ownL.1 hx)))), h4⟩, ⟨_, r, fun x hx hm => (h4 x hx).2.2 (mem_ownL.1 hm)⟩⟩
theorem setNoG (h : TabG w0 w t tys G) (ty : Ty) (vn vf va vp : Value) (P : Nat → Prop) (hl : Lists w P vn vf va vp ty) (k : Nat) (hk : k < tys.length) (hk10 : 10 ≤ k) (hm : mayB ty.kind = true) (hkd : (tys[k]'hk).kind ≠ 17) :
    Calls Try.prog 26 #[.pointer (some ⟨t, 0, none⟩), .int .i64 k, ty.val vn vf va vp] w fun e w' => e = .returned (.int .i64 2) ∧ Wr [] w w' := by
  obtain ⟨v, L, h1, h2, h3, h4⟩ := h
  exact set_no w t v L _ tys h1 ty vn vf va vp P hl k hk hk10 hm hkd
theorem setLowG (h : TabG w0 w t tys G) (ty : Ty) (vn vf va vp : Value) (P : Nat → Prop) (hl : Lists w P vn vf va vp ty) (i : Int) (hi : i < 10) :
    Calls Try.prog 26 #[.pointer (some ⟨t, 0, none⟩), .int .i64 i, ty.val vn vf va vp] w fun e w' => e = .returned (.int .i64 2) ∧ Wr [] w w' := by
  obtain ⟨v, L, h1, h2, h3, h4⟩ := h
  exact set_low w t v L _ tys h1 ty vn vf va vp P hl i hi
end
def tyX (ty : Ty) (nm : ByteArray) : Ty := { ty with names := [nm, ⟨#[98]⟩], fields := [⟨nm, 1, 0⟩], arms := [⟨[1], [2], false⟩] }
theorem Sl.ofBlk {w : World} {g : Nat} {T : TypeId} {cs : Array Value} (h : Blk w g T cs) (size n : Nat) (hn : cs.size = n * size) (hm : n ≤ maxLen) : Sl w (fun b => b = g) size (.slice (some ⟨g, 0, none⟩) n n) n cs.toList := by
  refine ⟨_, n, rfl, Nat.le_refl _, hm, by rw [Array.length_toList, hn], fun j u hj => ⟨g, 0, rfl, rfl, ?_⟩⟩
  rw [Nat.zero_add, h.cell j, ← Array.getElem?_toList]
  exact hj
theorem six (w : World) (T0 T1 T2 T3 T4 T5 : TypeId) (c0 c1 c2 c3 c4 c5 : Array Value) (W : World) (hW : W = (((((w.alloc (.cells c0 T0)).alloc (.cells c1 T1)).alloc (.cells c2 T2)).alloc (.cells c3 T3)).alloc (.cells c4 T4)).alloc (.cells c5 T5)) :
    Blk W w.heap.size T0 c0 ∧ Blk W (w.heap.size + 1) T1 c1 ∧ Blk W (w.heap.size + 1 + 1) T2 c2 ∧ Blk W (w.heap.size + 1 + 1 + 1) T3 c3 ∧ Blk W (w.heap.size + 1 + 1 + 1 + 1) T4 c4 ∧ Blk W (w.heap.size + 1 + 1 + 1 + 1 + 1) T5 c5 ∧ Wr [] w W := by
  subst hW
  refine ⟨((((( (Blk.new w T0 c0).alloc _).alloc _).alloc _).alloc _).alloc _), ?_, ?_, ?_, ?_, ?_, ((((((Wr.refl [] w).alloc _).alloc _).alloc _).alloc _).alloc _).alloc _⟩
  · have := Blk.new (w.alloc (.cells c0 T0)) T1 c1
    rw [World.size_alloc] at this
    exact (((this.alloc _).alloc _).alloc _).alloc _
  · have := Blk.new ((w.alloc (.cells c0 T0)).alloc (.cells c1 T1)) T2 c2
    rw [World.size_alloc, World.size_alloc] at this
    exact ((this.alloc _).alloc _).alloc _
  · have := Blk.new (((w.alloc (.cells c0 T0)).alloc (.cells c1 T1)).alloc (.cells c2 T2)) T3 c3
    rw [World.size_alloc, World.size_alloc, World.size_alloc] at this
    exact (this.alloc _).alloc _
  · have := Blk.new ((((w.alloc (.cells c0 T0)).alloc (.cells c1 T1)).alloc (.cells c2 T2)).alloc (.cells c3 T3)) T4 c4
    rw [World.size_alloc, World.size_alloc, World.size_alloc, World.size_alloc] at this
    exact this.alloc _
  · have := Blk.new (((((w.alloc (.cells c0 T0)).alloc (.cells c1 T1)).alloc (.cells c2 T2)).alloc (.cells c3 T3)).alloc (.cells c4 T4)) T5 c5
    rw [World.size_alloc, World.size_alloc, World.size_alloc, World.size_alloc, World.size_alloc] at this
    exact this
theorem lists_X {w : World} {ty : Ty} {nm : ByteArray} {gx : Nat} {P : Nat → Prop} {A4 : Option Addr} {k4 : Nat} (b1 : Blk w (gx + 1) 9 #[.string nm, .string ⟨#[98]⟩]) (b2 : Blk w (gx + 1 + 1) 63 #[.string nm, .int .i64 1, .int .i64 0])
    (b3 : Blk w (gx + 1 + 1 + 1) 2 #[.int .i64 1]) (b4 : Blk w (gx + 1 + 1 + 1 + 1) 2 #[.int .i64 2]) (b5 : Blk w (gx + 1 + 1 + 1 + 1 + 1) 66 #[.slice (some ⟨gx + 1 + 1 + 1, 0, none⟩) 1 1, .slice (some ⟨gx + 1 + 1 + 1 + 1, 0, none⟩) 1 1, .bool false])
    (hp : SlPars w P (.slice A4 ty.params.length k4) ty.params) : Lists w (fun _ => True) (.slice (some ⟨gx + 1, 0, none⟩) 2 2) (.slice (some ⟨gx + 1 + 1, 0, none⟩) 1 1) (.slice (some ⟨gx + 1 + 1 + 1 + 1 + 1, 0, none⟩) 1 1) (.slice A4 ty.params.length k4) (tyX ty nm) := by
  refine ⟨Sl.mono (Sl.ofBlk b1 1 2 rfl (by simp only [maxLen]; omega)) (fun _ _ => trivial), Sl.mono (Sl.ofBlk b2 3 1 rfl (by simp only [maxLen]; omega)) (fun _ _ => trivial), ⟨_, Sl.mono (Sl.ofBlk b5 3 1 rfl (by simp only [maxLen]; omega)) (fun _ _ => trivial), by simp [Value.oneCell'], fun i x hi => ?_⟩, Sl.mono hp (fun _ _ => trivial)⟩
  have hlt : i < 1 := (List.getElem?_eq_some_iff.1 hi).1
  obtain rfl : i = 0 := by omega
  injection hi with hi
  subst hi
  exact ⟨_, _, rfl, rfl, rfl, Sl.mono (Sl.ofBlk b3 1 1 rfl (by simp only [maxLen]; omega)) (fun _ _ => trivial), Sl.mono (Sl.ofBlk b4 1 1 rfl (by simp only [maxLen]; omega)) (fun _ _ => trivial)⟩
def tyFw (nm : ByteArray) : Ty := ⟨17, ⟨#[]⟩, nm, 0, 0, 0, 0, [], [], [], [], 0⟩
theorem addNoG {w0 w : World} {t : Nat} {tys : List Ty} {G : List Nat} (h : TabG w0 w t tys G) (ty : Ty) (vn vf va vp : Value) (P : Nat → Prop) (hl : Lists w P vn vf va vp ty) (hm : mayB ty.kind = false) :
    Calls Try.prog 8 #[.pointer (some ⟨t, 0, none⟩), ty.val vn vf va vp] w (AddNo w 2) := by
  obtain ⟨v, L, h1, h2, h3, h4⟩ := h
  exact add_no w t v L _ tys h1 ty vn vf va vp P hl hm

/-- A copy of such a type, opened. -/
theorem copyX {w w' : World} {ty : Ty} {nm : ByteArray} {e : Ending} (h : CopyS w (tyX ty nm) e w') : ∃ (bN oN cN bF oF cF bA oA cA bI oI cI : Nat) (A4 : Option Addr) (c4 : Nat),
    e = .returned (.agg #[.int .u8 ty.kind, .string ty.module, .string ty.name, .int .i64 ty.base, .int .i64 ty.index, .int .i64 ty.low, .int .i64 ty.high, .slice (some ⟨bN, oN, none⟩) 2 cN, .slice (some ⟨bF, oF, none⟩) 1 cF, .slice (some ⟨bA, oA, none⟩) 1 cA, .slice A4 ty.params.length c4, .int .i64 ty.result]) ∧ Wr [] w w' ∧ (2 ≤ cN ∧ cN ≤ maxLen ∧ 1 ≤ cF ∧ cF ≤ maxLen ∧ 1 ≤ cA ∧ cA ≤ maxLen ∧ 1 ≤ cI ∧ cI ≤ maxLen) ∧
    (w'.cell? ⟨bN, oN, none⟩ = some (.string nm) ∧ w'.frozen? ⟨bN, oN, none⟩ = false ∧ w.heap.size ≤ bN) ∧ w'.cell? ⟨bF, oF, none⟩ = some (.string nm) ∧ w'.cell? ⟨bA, oA, none⟩ = some (.slice (some ⟨bI, oI, none⟩) 1 cI) ∧ (w'.cell? ⟨bI, oI, none⟩ = some (.int .i64 1) ∧ w'.frozen? ⟨bI, oI, none⟩ = false ∧ w.heap.size ≤ bI) := by
  obtain ⟨vn, vf, va, vp, rfl, r, hl⟩ := h
  obtain ⟨_, _, _, ⟨A4, c4, rfl⟩⟩ := hl.forms
  obtain ⟨bN, oN, cN, rfl, n1, n2, nP, nc⟩ := Sl.at_ hl.names (j := 0) (u := .string nm) rfl
  obtain ⟨bF, oF, cF, rfl, f1, f2, fP, fc⟩ := Sl.at_ hl.fields (j := 0) (u := .string nm) rfl
  obtain ⟨xs, hs, h1, ha⟩ := hl.arms
  obtain ⟨va', vb', e1, e2, e3, ka, kb⟩ := ha 0 ⟨[1], [2], false⟩ rfl
  obtain ⟨bA, oA, cA, rfl, a1, a2, aP, ac⟩ := Sl.at_ hs (j := 0) e1
  obtain ⟨bI, oI, cI, rfl, i1, i2, iP, ic⟩ := Sl.at_ ka (j := 0) (u := .int .i64 1) rfl
  exact ⟨bN, oN, cN, bF, oF, cF, bA, oA, cA, bI, oI, cI, A4, c4, rfl, r, ⟨n1, n2, f1, f2, a1, a2, i1, i2⟩, ⟨nc, nP.2.frozen _, nP.1⟩, fc, ac, ic, iP.2.frozen _, iP.1⟩
theorem getX {w0 w : World} {t : Nat} {tys : List Ty} {G : List Nat} {ty : Ty} {nm : ByteArray} (h : TabG w0 w t tys G) (i : Int) (hi : tyOf tys i = tyX ty nm) : Calls Try.prog 18 #[.pointer (some ⟨t, 0, none⟩), .int .i64 i] w (CopyS w (tyX ty nm)) := by
  have := getG h i
  rwa [hi] at this
def tyP (b : Int) : Ty := ⟨14, ⟨#[]⟩, ⟨#[]⟩, b, 0, 0, 0, [], [], [], [], 0⟩
set_option maxHeartbeats 4000000 in
theorem set_lowV (w : World) (t : Nat) (i : Int) (hi : i < 10) (ty : Ty) (A1 A2 A3 A4 : Option Addr) (n1 n2 n3 n4 c1 c2 c3 c4 : Nat) : Calls Try.prog 26 #[.pointer (some ⟨t, 0, none⟩), .int .i64 i, .agg #[.int .u8 ty.kind, .string ty.module, .string ty.name, .int .i64 ty.base, .int .i64 ty.index, .int .i64 ty.low, .int .i64 ty.high, .slice A1 n1 c1, .slice A2 n2 c2, .slice A3 n3 c3, .slice A4 n4 c4, .int .i64 ty.result]] w fun e w' => e = .returned (.int .i64 2) ∧ Wr [] w w' := by
  go_enter Try.func26, Try.ntmps26
  go_wp2_with fail
  go_ret
  exact ⟨rfl, (Wr.refl [] w).alloc _⟩
theorem fld_base (A1 A2 A3 A4 : Option Addr) (c1 c2 c3 c4 : Nat) (w : World) : (Instr.field 31 (.agg #[.int .u8 14, .string ⟨#[]⟩, .string ⟨#[]⟩, .int .i64 10, .int .i64 0, .int .i64 0, .int .i64 0, .slice A1 0 c1, .slice A2 0 c2, .slice A3 0 c3, .slice A4 0 c4, .int .i64 0]) 3).run Try.prog w = .ok (.int .i64 10) w := by kernel_rfl
def GetB (w : World) (e : Ending) (w' : World) : Prop := ∃ (A1 : Option Addr) (c1 : Nat) (A2 : Option Addr) (c2 : Nat) (A3 : Option Addr) (c3 : Nat) (A4 : Option Addr) (c4 : Nat), e = .returned (.agg #[.int .u8 14, .string ⟨#[]⟩, .string ⟨#[]⟩, .int .i64 10, .int .i64 0, .int .i64 0, .int .i64 0, .slice A1 0 c1, .slice A2 0 c2, .slice A3 0 c3, .slice A4 0 c4, .int .i64 0]) ∧ Wr [] w w'
theorem getB {w0 w : World} {t : Nat} {tys : List Ty} {G : List Nat} (h : TabG w0 w t tys G) (i : Int) (hi : tyOf tys i = tyP 10) : Calls Try.prog 18 #[.pointer (some ⟨t, 0, none⟩), .int .i64 i] w (GetB w) := by
  refine (getG h i).mono fun e w' hc => ?_
  rw [hi] at hc
  obtain ⟨vn, vf, va, vp, rfl, r1, hl⟩ := hc
  obtain ⟨⟨A1, c1, rfl⟩, ⟨A2, c2, rfl⟩, ⟨A3, c3, rfl⟩, ⟨A4, c4, rfl⟩⟩ := hl.forms
  exact ⟨A1, c1, A2, c2, A3, c3, A4, c4, rfl, r1⟩
def tysA (ty : Ty) (nm : ByteArray) : List Ty := tys0 ++ [tyX ty nm] ++ [tyFw nm]
def tysB (ty : Ty) (nm : ByteArray) : List Ty := (tysA ty nm).set 11 (tyP 10)
theorem addF {w0 w : World} {t : Nat} {ty : Ty} {nm : ByteArray} {G : List Nat} (h : TabG w0 w t (tys0 ++ [tyX ty nm]) G) : Calls Try.prog 8 #[.pointer (some ⟨t, 0, none⟩), .agg #[.int .u8 17, .string ⟨#[]⟩, .string nm, .int .i64 0, .int .i64 0, .int .i64 0, .int .i64 0, .slice none 0 0, .slice none 0 0, .slice none 0 0, .slice none 0 0, .int .i64 0]] w (AddG w0 w t (tysA ty nm) 11 G) :=
  addG h (tyFw nm) (.slice none 0 0) (.slice none 0 0) (.slice none 0 0) (.slice none 0 0) (fun _ => True) ⟨Sl.nil w _ 1, Sl.nil w _ 3, SlArms.nil w _, Sl.nil w _ 2⟩ (show mayB 17 = true by decide) ⟨by simp [tyFw], by simp [tyFw], by simp [tyFw], by simp [tyFw], by simp [tyFw]⟩ 11 rfl (by decide)
theorem setF {w0 w : World} {t : Nat} {ty : Ty} {nm : ByteArray} {G : List Nat} (h : TabG w0 w t (tysA ty nm) G) : Calls Try.prog 26 #[.pointer (some ⟨t, 0, none⟩), .int .i64 11, .agg #[.int .u8 14, .string ⟨#[]⟩, .string ⟨#[]⟩, .int .i64 10, .int .i64 0, .int .i64 0, .int .i64 0, .slice none 0 0, .slice none 0 0, .slice none 0 0, .slice none 0 0, .int .i64 0]] w (SetG w0 w t (tysB ty nm) G) :=
  setG h (tyP 10) (.slice none 0 0) (.slice none 0 0) (.slice none 0 0) (.slice none 0 0) (fun _ => True) ⟨Sl.nil w _ 1, Sl.nil w _ 3, SlArms.nil w _, Sl.nil w _ 2⟩ 11 (Nat.lt_of_lt_of_eq (by decide : 11 < 12) rfl) (by decide) (by decide) rfl ⟨by simp [tyP], by simp [tyP], by simp [tyP], by simp [tyP], by simp [tyP]⟩
theorem setF2 {w0 w : World} {t : Nat} {ty : Ty} {nm : ByteArray} {G : List Nat} (h : TabG w0 w t (tysB ty nm) G) : Calls Try.prog 26 #[.pointer (some ⟨t, 0, none⟩), .int .i64 11, .agg #[.int .u8 14, .string ⟨#[]⟩, .string ⟨#[]⟩, .int .i64 1, .int .i64 0, .int .i64 0, .int .i64 0, .slice none 0 0, .slice none 0 0, .slice none 0 0, .slice none 0 0, .int .i64 0]] w fun e w' => e = .returned (.int .i64 2) ∧ Wr [] w w' :=
  setNoG h (tyP 1) (.slice none 0 0) (.slice none 0 0) (.slice none 0 0) (.slice none 0 0) (fun _ => True) ⟨Sl.nil w _ 1, Sl.nil w _ 3, SlArms.nil w _, Sl.nil w _ 2⟩ 11 (Nat.lt_of_lt_of_eq (by decide : 11 < 12) rfl) (by decide) (by decide) (fun e => absurd (show (14 : Int) = 17 from e) (by decide))

set_option maxRecDepth 100000 in
set_option maxHeartbeats 16000000 in
theorem copies_walk (w : World) (m : MadeD) (hok : m.ok) (Ap Av : Option Addr) (cp cv : Nat) (hcp1 : m.ps.length ≤ cp ∧ cp ≤ maxLen) (hcv1 : m.vs.length ≤ cv ∧ cv ≤ maxLen)
    (hcp : ∀ i, i < m.ps.length → ∃ b' o', Ap = some ⟨b', o', none⟩ ∧ w.cell? ⟨b', o' + i, none⟩ = some (.int .u16 (m.ps.getD i 0)))
    (hcv : ∀ i, i < m.vs.length → ∃ b' o', Av = some ⟨b', o', none⟩ ∧ w.cell? ⟨b', o' + i, none⟩ = some (.bool (m.vs.getD i false))) (nm : ByteArray) :
    Calls Try.prog 5 #[.agg #[.int .u8 m.k, .int .u16 m.b, .int .u16 m.x, .int .i32 m.lo, .int .i32 m.hi, .slice Ap m.ps.length cp, .slice Av m.vs.length cv], .string nm] w fun e w' => e = .returned (.bool true) ∧ Wr [] w w' := by
  have hw := fun w => works_any w
  by_cases hbig : 1024 < nm.size
  · clear hok hcp hcv hcp1 hcv1
    go_enter Try.func5, Try.ntmps5
    go_wp2_with fail
    refine (hw _).mono ?_
    rintro e w2 ⟨rfl, k⟩
    go_wp2_with fail
    go_ret
    exact ⟨rfl, ((Wr.refl [] w).alloc _).trans k⟩
  obtain ⟨q1, q2, q3, q4, q5, q6⟩ := hok
  have hmk : ∀ W, Wr [] w W → Calls Try.prog 25 #[.agg #[.int .u8 m.k, .int .u16 m.b, .int .u16 m.x, .int .i32 m.lo, .int .i32 m.hi, .slice Ap m.ps.length cp, .slice Av m.vs.length cv], .int .i64 10] W (CopyP W (m.ty 10)) := fun W hW =>
    made_any W m.k m.b m.x m.lo m.hi m.ps m.vs 10 Ap Av cp cv q1 q2 q3 q4 q5 q6 (by omega) hcp1 hcv1
      (fun i hi => by obtain ⟨b', o', e1, e2⟩ := hcp i hi; exact ⟨b', o', e1, hW.cellOf e2 (by simp)⟩)
      (fun i hi => by obtain ⟨b', o', e1, e2⟩ := hcv i hi; exact ⟨b', o', e1, hW.cellOf e2 (by simp)⟩)
  have HMK := Lib.hid hmk
  have hb0 := Blk.new w 61 #[.int .u8 m.k, .int .u16 m.b, .int .u16 m.x, .int .i32 m.lo, .int .i32 m.hi, .slice Ap m.ps.length cp, .slice Av m.vs.length cv]
  have r0 := (Wr.refl [] w).alloc (.cells #[.int .u8 m.k, .int .u16 m.b, .int .u16 m.x, .int .i32 m.lo, .int .i32 m.hi, .slice Ap m.ps.length cp, .slice Av m.vs.length cv] 61)
  clear hmk q1 q2 q3 q4 q5 q6 hcp hcv hcp1 hcv1
  go_enter Try.func5, Try.ntmps5
  go_wp2_with fail
  refine (newN (Wr.refl [] _)).mono ?_
  rintro e w1 ⟨t, rfl, h1⟩
  have hb1 : Blk w1 w.heap.size 61 #[.int .u8 m.k, .int .u16 m.b, .int .u16 m.x, .int .i32 m.lo, .int .i32 m.hi, .slice Ap m.ps.length cp, .slice Av m.vs.length cv] := hb0.wr h1.wr (by simp)
  have d0 := hb1.cell 0
  have d1 := hb1.cell 1
  have d2 := hb1.cell 2
  have d3 := hb1.cell 3
  have d4 := hb1.cell 4
  have d5 := hb1.cell 5
  have d6 := hb1.cell 6
  simp only [List.getElem?_toArray, List.getElem?_cons_zero, List.getElem?_cons_succ] at d0 d1 d2 d3 d4 d5 d6
  have r01 := r0.trans h1.wr
  have h1g := TabG.ofN h1
  generalize w.alloc (.cells #[.int .u8 m.k, .int .u16 m.b, .int .u16 m.x, .int .i32 m.lo, .int .i32 m.hi, .slice Ap m.ps.length cp, .slice Av m.vs.length cv] 61) = wb at *
  have H1 := Lib.hid h1g
  have R01 := Lib.hid r01
  have R0 := Lib.hid r0
  clear h1 h1g hb1 hb0 r0 r01
  go_wp2_with fail
  refine (HMK.out _ R01.out).mono ?_
  clear HMK d0 d1 d2 d3 d4 d5 d6
  rintro e w2 ⟨vn, vf, va, vp, rfl, r2, hl⟩
  obtain ⟨⟨A1, k1, rfl⟩, ⟨A2, k2, rfl⟩, ⟨A3, k3, rfl⟩, ⟨A4, k4, rfl⟩⟩ := hl.forms
  have hpar := hl.params
  have h2 := H1.out.wr0 r2
  have R2 := Lib.hid (R01.out.trans r2)
  have H2 := Lib.hid h2
  have HPA := Lib.hid hpar
  obtain ⟨ty, hty⟩ : ∃ ty, ty = m.ty 10 := ⟨_, rfl⟩
  rw [← hty] at HPA ⊢
  have HTY := Lib.hid hty
  clear hl h2 hpar r2 H1 R01 hty
  unfold Ty.val Ty.cells
  go_upto_region 8 with (fail)
  obtain ⟨b0, b1, b2, b3, b4, b5, r3⟩ := six w2 31 9 63 2 2 66 #[.int .u8 ty.kind, .string ty.module, .string ty.name, .int .i64 ty.base, .int .i64 ty.index, .int .i64 ty.low, .int .i64 ty.high, .slice (some ⟨w2.heap.size + 1, 0, none⟩) 2 2, .slice (some ⟨w2.heap.size + 1 + 1, 0, none⟩) 1 1, .slice (some ⟨w2.heap.size + 1 + 1 + 1 + 1 + 1, 0, none⟩) 1 1, .slice A4 ty.params.length k4, .int .i64 ty.result] #[.string nm, .string ⟨#[98]⟩] #[.string nm, .int .i64 1, .int .i64 0] #[.int .i64 1] #[.int .i64 2] #[.slice (some ⟨w2.heap.size + 1 + 1 + 1, 0, none⟩) 1 1, .slice (some ⟨w2.heap.size + 1 + 1 + 1 + 1, 0, none⟩) 1 1, .bool false] _ rfl
  have z5 := b5.lt
  have h3 := H2.out.grow (G' := [w2.heap.size, w2.heap.size + 1, w2.heap.size + 1 + 1, w2.heap.size + 1 + 1 + 1, w2.heap.size + 1 + 1 + 1 + 1 + 1]) r3 (fun x hx => .inr (by simp only [List.mem_cons, List.not_mem_nil, or_false] at hx; omega))
  have hls := lists_X (ty := ty) (A4 := A4) (k4 := k4) b1 b2 b3 b4 b5 (Sl.wr0 HPA.out r3)
  have R3 := Lib.hid (R2.out.trans r3)
  generalize (((((w2.alloc (.cells #[.int .u8 ty.kind, .string ty.module, .string ty.name, .int .i64 ty.base, .int .i64 ty.index, .int .i64 ty.low, .int .i64 ty.high, .slice (some ⟨w2.heap.size + 1, 0, none⟩) 2 2, .slice (some ⟨w2.heap.size + 1 + 1, 0, none⟩) 1 1, .slice (some ⟨w2.heap.size + 1 + 1 + 1 + 1 + 1, 0, none⟩) 1 1, .slice A4 ty.params.length k4, .int .i64 ty.result] 31)).alloc (.cells #[.string nm, .string ⟨#[98]⟩] 9)).alloc (.cells #[.string nm, .int .i64 1, .int .i64 0] 63)).alloc (.cells #[.int .i64 1] 2)).alloc (.cells #[.int .i64 2] 2)).alloc (.cells #[.slice (some ⟨w2.heap.size + 1 + 1 + 1, 0, none⟩) 1 1, .slice (some ⟨w2.heap.size + 1 + 1 + 1 + 1, 0, none⟩) 1 1, .bool false] 66) = w3 at *
  generalize w2.heap.size = gx at *
  have h1c := b0.cell 0
  have hcs := fun j => b0.cell j
  have x0 := b0.cell 0
  have x1 := b0.cell 1
  have x2 := b0.cell 2
  have x3 := b0.cell 3
  have x4 := b0.cell 4
  have x5 := b0.cell 5
  have x6 := b0.cell 6
  have x7 := b0.cell 7
  have x8 := b0.cell 8
  have x9 := b0.cell 9
  have x10 := b0.cell 10
  have x11 := b0.cell 11
  simp only [List.getElem?_toArray, List.getElem?_cons_zero, List.getElem?_cons_succ] at x0 x1 x2 x3 x4 x5 x6 x7 x8 x9 x10 x11
  have hrm : (tyX ty nm).room := by
    rw [HTY.out]
    exact ⟨by simp [tyX], by simp [tyX], by simp [tyX], by simp [tyX, MadeD.ty, madeTy, parsOf]; omega, fun x hx => by
      simp only [tyX, List.mem_singleton] at hx
      rw [hx]
      exact ⟨by decide, by decide⟩⟩
  clear h1c hcs r3 H2 HPA
  cases hm : mayB ty.kind with
  | false =>
    have hadd := addNoG h3 (tyX ty nm) _ _ _ _ _ hls hm
    unfold Ty.val Ty.cells tyX at hadd
    simp only at hadd
    have H3 := Lib.hid h3
    clear hls b0 b1 b2 b3 b4 b5 h3 HTY hrm
    unfold mayB at hm
    by_cases h8 : 8 ≤ ty.kind
    · have h17 : ¬ty.kind ≤ 17 := by simp [h8] at hm; omega
      clear hm
      go_wp2_with fail
      refine hadd.mono ?_
      clear hadd
      rintro e w4 ⟨rfl, r4⟩
      have R4 := Lib.hid (R3.out.trans r4)
      clear r4
      go_wp2_with fail
      refine (hw _).mono ?_
      rintro e w5 ⟨rfl, k⟩
      go_wp2_with fail
      go_ret
      exact ⟨rfl, R4.out.trans k⟩
    · clear hm
      go_wp2_with fail
      refine hadd.mono ?_
      clear hadd
      rintro e w4 ⟨rfl, r4⟩
      have R4 := Lib.hid (R3.out.trans r4)
      clear r4
      go_wp2_with fail
      refine (hw _).mono ?_
      rintro e w5 ⟨rfl, k⟩
      go_wp2_with fail
      go_ret
      exact ⟨rfl, R4.out.trans k⟩
  | true =>
    have hadd := addG h3 (tyX ty nm) _ _ _ _ _ hls hm hrm 10 (by decide) (by decide)
    unfold Ty.val Ty.cells tyX at hadd
    simp only at hadd
    have HADD := Lib.hid hadd
    have HRM := Lib.hid hrm
    have HM := Lib.hid hm
    have h8 : 8 ≤ ty.kind := by unfold mayB at hm; simp at hm; omega
    have h17 : ty.kind ≤ 17 := by unfold mayB at hm; simp at hm; omega
    clear hls h3 HTY hrm hadd hm
    go_wp2_with fail
    refine HADD.out.mono ?_
    clear HADD
    rintro e w4 ⟨rfl, h4, kp, z34⟩
    replace b0 := kp.blk (by simp) b0
    replace b1 := kp.blk (by simp) b1
    replace b2 := kp.blk (by simp) b2
    replace b3 := kp.blk (by simp) b3
    replace b5 := kp.blk (by simp) b5
    clear x0 x1 x2 x3 x4 x5 x6 x7 x8 x9 x10 x11
    have x7 := b0.cell 7
    have x8 := b0.cell 8
    have x9 := b0.cell 9
    have y0 := b5.cell 0
    have n0 := b1.cell 0
    have n0f := b1.frozen 0
    have f0 := b2.cell 0
    have f1 := b2.cell 1
    have f2 := b2.cell 2
    have f0f := b2.frozen 0
    have f1f := b2.frozen 1
    have f2f := b2.frozen 2
    have i0 := b3.cell 0
    have i0f := b3.frozen 0
    simp only [List.getElem?_toArray, List.getElem?_cons_zero, List.getElem?_cons_succ] at x7 x8 x9 y0 n0 f0 f1 f2 i0
    have H4 := Lib.hid h4
    have B0 := Lib.hid b0
    have z4 := b5.lt
    clear b0 b1 b2 b3 b4 b5 h4 kp
    go_upto_region 17 with (fail)
    have r45 : Wr [gx + 1, gx + 1 + 1, gx + 1 + 1 + 1] w4 (((((w4.setCell ⟨gx + 1, 0, none⟩ (.string (nm ++ ⟨#[120]⟩))).setCell ⟨gx + 1 + 1, 0, none⟩ (.string ⟨#[111, 116, 104, 101, 114]⟩)).setCell ⟨gx + 1 + 1, 1, none⟩ (.int .i64 0)).setCell ⟨gx + 1 + 1, 2, none⟩ (.int .i64 0)).setCell ⟨gx + 1 + 1 + 1, 0, none⟩ (.int .i64 9)) :=
      (((((Wr.refl _ w4).setOn (by simp) _).setOn (by simp) _).setOn (by simp) _).setOn (by simp) _).setOn (by simp) _
    have h5 := H4.out.store r45 (fun x hx => by simp only [List.mem_cons, List.not_mem_nil, or_false] at hx ⊢; omega)
    have h5 := h5.less (G' := [gx]) (by simp)
    have B5 := Lib.hid (B0.out.wr r45 (by simp only [List.mem_cons, List.not_mem_nil, or_false]; omega))
    clear r45 H4 B0 x7 x8 x9 y0 n0 f0 f1 f2 i0 n0f f0f f1f f2f i0f z4 z34
    generalize (((((w4.setCell ⟨gx + 1, 0, none⟩ (.string (nm ++ ⟨#[120]⟩))).setCell ⟨gx + 1 + 1, 0, none⟩ (.string ⟨#[111, 116, 104, 101, 114]⟩)).setCell ⟨gx + 1 + 1, 1, none⟩ (.int .i64 0)).setCell ⟨gx + 1 + 1, 2, none⟩ (.int .i64 0)).setCell ⟨gx + 1 + 1 + 1, 0, none⟩ (.int .i64 9)) = w5 at *
    have hg := getX h5 10 (ty := ty) (nm := nm) rfl
    have H5 := Lib.hid h5
    clear h5
    go_wp2_with fail
    refine hg.mono ?_
    clear hg
    intro e w6 hcx
    obtain ⟨bN, oN, cN, bF, oF, cF, bA, oA, cA, bI, oI, cI, A4', c4', rfl, r6, ⟨l1, l2, l3, l4, l5, l6, l7, l8⟩, ⟨cn, fn, zn⟩, cf, ca, ⟨ci, fi, zi⟩⟩ := copyX hcx
    unfold maxLen at l2 l4 l6 l8
    have R6 := Lib.hid r6
    clear hcx
    go_upto_region 18 with (fail)
    have r67 := (Wr.refl [] w6).alloc (.cells #[.int .u8 ty.kind, .string ty.module, .string ty.name, .int .i64 ty.base, .int .i64 ty.index, .int .i64 ty.low, .int .i64 ty.high, .slice (some ⟨bN, oN, none⟩) 2 cN, .slice (some ⟨bF, oF, none⟩) 1 cF, .slice (some ⟨bA, oA, none⟩) 1 cA, .slice A4' ty.params.length c4', .int .i64 ty.result] 31)
    have by7 := Blk.new w6 31 #[.int .u8 ty.kind, .string ty.module, .string ty.name, .int .i64 ty.base, .int .i64 ty.index, .int .i64 ty.low, .int .i64 ty.high, .slice (some ⟨bN, oN, none⟩) 2 cN, .slice (some ⟨bF, oF, none⟩) 1 cF, .slice (some ⟨bA, oA, none⟩) 1 cA, .slice A4' ty.params.length c4', .int .i64 ty.result]
    have zN := World.block_lt_of_cell? w6 _ cn
    have zI := World.block_lt_of_cell? w6 _ ci
    simp only at zN zI
    replace fn := r67.frozenOf cn fn (by simp)
    replace fi := r67.frozenOf ci fi (by simp)
    replace cn := r67.cellOf cn (by simp)
    replace cf := r67.cellOf cf (by simp)
    replace ca := r67.cellOf ca (by simp)
    replace ci := r67.cellOf ci (by simp)
    have h7 := (H5.out.grow (G' := [gx, bN, bI]) (r6.trans r67) (fun x hx => by
      have := r67.size
      simp only [List.mem_cons, List.not_mem_nil, or_false] at hx ⊢
      omega))
    have B7 := Lib.hid ((B5.out.wr r6 (by simp)).wr r67 (by simp))
    have hAN : (⟨bN, oN, none⟩ : Addr) ≠ ⟨bA, oA, none⟩ := by
      intro q
      injection cn.symm.trans ((congrArg _ q).trans ca) with e
      cases e
    have hIN' : (⟨bN, oN, none⟩ : Addr) ≠ ⟨bI, oI, none⟩ := by
      intro q
      injection cn.symm.trans ((congrArg _ q).trans ci) with e
      cases e
    have hYN : (⟨bN, oN, none⟩ : Addr) ≠ ⟨w6.heap.size, 9, none⟩ := by
      intro q
      injection q with q
      omega
    have hxN : gx ≠ bN ∧ gx ≠ bI := by
      have := B5.out.lt
      omega
    clear zN zI H5 B5 r6 zn zi R6
    generalize w6.alloc (.cells #[.int .u8 ty.kind, .string ty.module, .string ty.name, .int .i64 ty.base, .int .i64 ty.index, .int .i64 ty.low, .int .i64 ty.high, .slice (some ⟨bN, oN, none⟩) 2 cN, .slice (some ⟨bF, oF, none⟩) 1 cF, .slice (some ⟨bA, oA, none⟩) 1 cA, .slice A4' ty.params.length c4', .int .i64 ty.result] 31) = w7 at *
    generalize w6.heap.size = gy at *
    have x7 := by7.cell 7
    have x8 := by7.cell 8
    have x9 := by7.cell 9
    simp only [List.getElem?_toArray, List.getElem?_cons_zero, List.getElem?_cons_succ] at x7 x8 x9
    have zy := by7.lt
    have H7 := Lib.hid h7
    clear h7 by7 r67
    go_upto_region 20 with (fail)
    clear x8 cf
    go_upto_region 21 with (fail)
    replace x9 := (World.cell?_setCell_other (w := w7) (v := .string (⟨#[122]⟩ ++ nm)) (h := hYN)).trans x9
    replace ca := (World.cell?_setCell_other (w := w7) (v := .string (⟨#[122]⟩ ++ nm)) (h := hAN)).trans ca
    replace ci := (World.cell?_setCell_other (w := w7) (v := .string (⟨#[122]⟩ ++ nm)) (h := hIN')).trans ci
    have fi8 := (World.frozen?_setCell (w := w7) (a := ⟨bN, oN, none⟩) (v := .string (⟨#[122]⟩ ++ nm)) (b := ⟨bI, oI, none⟩)).trans fi
    have r78 : Wr [bN, bI] w7 (w7.setCell ⟨bN, oN, none⟩ (.string (⟨#[122]⟩ ++ nm))) := (Wr.refl _ w7).setOn (by simp) _
    have R78 := Lib.hid r78
    clear x7 fn cn hAN hIN' hYN fi r78
    generalize w7.setCell ⟨bN, oN, none⟩ (.string (⟨#[122]⟩ ++ nm)) = w8 at *
    go_upto_region 22 with (fail)
    have r79 : Wr [bN, bI] w7 (w8.setCell ⟨bI, oI, none⟩ (.int .i64 8)) := R78.out.trans ((Wr.refl _ w8).setOn (by simp) _)
    have h9 := (H7.out.store r79 (by simp)).less (G' := [gx]) (by simp)
    have B9 := Lib.hid (B7.out.wr r79 (by simp [hxN.1, hxN.2]))
    clear x9 ca ci fi8 R78 r79 H7 B7 zy
    generalize w8.setCell ⟨bI, oI, none⟩ (.int .i64 8) = w9 at *
    have hg := getX h9 10 (ty := ty) (nm := nm) rfl
    have H9 := Lib.hid h9
    clear h9 l1 l2 l3 l4 l5 l6 l7 l8 hxN
    go_wp2_with fail
    refine hg.mono ?_
    clear hg
    intro e wa hcx
    obtain ⟨dN, pN, eN, dF, pF, eF, dA, pA, eA, dI, pI, eI, A4'', c4'', rfl, ra, ⟨l1, l2, l3, l4, l5, l6, l7, l8⟩, ⟨cn, fn, zn⟩, cf, ca, ⟨ci, fi, zi⟩⟩ := copyX hcx
    unfold maxLen at l2 l4 l6 l8
    clear hcx
    go_upto_region 23 with (fail)
    have rab := (Wr.refl [] wa).alloc (.cells #[.int .u8 ty.kind, .string ty.module, .string ty.name, .int .i64 ty.base, .int .i64 ty.index, .int .i64 ty.low, .int .i64 ty.high, .slice (some ⟨dN, pN, none⟩) 2 eN, .slice (some ⟨dF, pF, none⟩) 1 eF, .slice (some ⟨dA, pA, none⟩) 1 eA, .slice A4'' ty.params.length c4'', .int .i64 ty.result] 31)
    have bz := Blk.new wa 31 #[.int .u8 ty.kind, .string ty.module, .string ty.name, .int .i64 ty.base, .int .i64 ty.index, .int .i64 ty.low, .int .i64 ty.high, .slice (some ⟨dN, pN, none⟩) 2 eN, .slice (some ⟨dF, pF, none⟩) 1 eF, .slice (some ⟨dA, pA, none⟩) 1 eA, .slice A4'' ty.params.length c4'', .int .i64 ty.result]
    replace cn := rab.cellOf cn (by simp)
    replace cf := rab.cellOf cf (by simp)
    replace ca := rab.cellOf ca (by simp)
    replace ci := rab.cellOf ci (by simp)
    have hb := H9.out.wr0 (ra.trans rab)
    have BB := Lib.hid (B9.out.wr (ra.trans rab) (by simp))
    clear fn fi zn zi H9 B9 ra
    generalize wa.alloc (.cells #[.int .u8 ty.kind, .string ty.module, .string ty.name, .int .i64 ty.base, .int .i64 ty.index, .int .i64 ty.low, .int .i64 ty.high, .slice (some ⟨dN, pN, none⟩) 2 eN, .slice (some ⟨dF, pF, none⟩) 1 eF, .slice (some ⟨dA, pA, none⟩) 1 eA, .slice A4'' ty.params.length c4'', .int .i64 ty.result] 31) = wz at *
    generalize wa.heap.size = gz at *
    have x7 := bz.cell 7
    have x8 := bz.cell 8
    have x9 := bz.cell 9
    simp only [List.getElem?_toArray, List.getElem?_cons_zero, List.getElem?_cons_succ] at x7 x8 x9
    have HB := Lib.hid hb
    clear hb bz rab
    go_upto_region 25 with (fail)
    clear x7 x8 x9 cn cf ca ci l1 l2 l3 l4 l5 l6 l7 l8
    have hadd := addF HB.out
    clear HB
    go_wp2_with fail
    refine hadd.mono ?_
    clear hadd
    rintro e wc ⟨rfl, h, kp, _⟩
    have BC := Lib.hid (kp.blk (by simp) BB.out)
    have hset := setF h
    clear kp BB h
    go_wp2_with fail
    refine hset.mono ?_
    clear hset
    rintro e wd ⟨rfl, h, kp⟩
    have BD := Lib.hid (kp.blk (by simp) BC.out)
    have hset := setF2 h
    have HT := Lib.hid h
    clear kp BC h
    go_wp2_with fail
    refine hset.mono ?_
    clear hset
    rintro e we ⟨rfl, r⟩
    have h := HT.out.wr0 r
    have hg := getB h 11 rfl
    have BE := Lib.hid (BD.out.wr r (by simp))
    have RE := Lib.hid (R0.out.trans h.wr)
    clear r h HT BD
    go_wp2_with fail
    refine hg.mono ?_
    clear hg
    rintro e wf ⟨A1', c1', A2', c2', A3', c3', A4', c4', rfl, rf⟩
    have f1 := fld_base A1' A2' A3' A4' c1' c2' c3' c4'
    have bf := BE.out.wr rf (by simp)
    have RF := Lib.hid (RE.out.trans rf)
    have x0 := bf.cell 0
    have x1 := bf.cell 1
    have x2 := bf.cell 2
    have x3 := bf.cell 3
    have x4 := bf.cell 4
    have x5 := bf.cell 5
    have x6 := bf.cell 6
    have x7 := bf.cell 7
    have x8 := bf.cell 8
    have x9 := bf.cell 9
    have x10 := bf.cell 10
    have x11 := bf.cell 11
    simp only [List.getElem?_toArray, List.getElem?_cons_zero, List.getElem?_cons_succ] at x0 x1 x2 x3 x4 x5 x6 x7 x8 x9 x10 x11
    clear bf rf BE RE
    have hl := set_lowV wf t 1 (by decide) ty (some ⟨gx + 1, 0, none⟩) (some ⟨gx + 1 + 1, 0, none⟩) (some ⟨gx + 1 + 1 + 1 + 1 + 1, 0, none⟩) A4 2 1 1 ty.params.length 2 1 1 k4
    go_wp2_with fail
    refine hl.mono ?_
    clear hl
    rintro e wg ⟨rfl, rg⟩
    have RG := Lib.hid (RF.out.trans rg)
    clear rg RF x0 x1 x2 x3 x4 x5 x6 x7 x8 x9 x10 x11
    go_wp2_with fail
    refine (hw _).mono ?_
    rintro e wh ⟨rfl, k⟩
    go_wp2_with fail
    go_ret
    exact ⟨rfl, RG.out.trans k⟩
end Go.Proofs.Ytcpgkeceefoljaa

