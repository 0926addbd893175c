/- link's Link: walked. Conditions: the lists are not too long. -/
import Derived.Test.YtfeeeogkkajefaaLnF
namespace Go.Proofs.Ytfeeeogkkajefaa
open Go.RowKit
set_option linter.unusedVariables false
set_option linter.unusedSimpArgs false

theorem info_mod : (Try.prog.info? 50).map (fun i => (i.zero, i.size, i.bytes)) = some (some (.agg #[.string ⟨#[]⟩, .slice none 0 0, .slice none 0 0, .int .i64 0, .slice none 0 0]), 5, 96) := by kernel_rfl
theorem info_int : (Try.prog.info? 3).map (fun i => (i.zero, i.size, i.bytes)) = some (some (.int .i64 0), 1, 8) := by kernel_rfl
theorem look_place {w : World} {g : Nat} {names : List ByteArray} (h : MapR w g IntV (lastOf (numbered 0 names))) (m : ByteArray) : (Instr.lookup 65 (.map (some g)) (.string m) false).run Try.prog w = .ok (.int .i64 (placeOf names m)) w := by
  obtain ⟨v, hl, h1, h2⟩ := MapR.look1 Try.underlying65 Try.underlying9 h m Try.zeroValue3
  rw [hl]
  unfold placeOf
  congr 1
  cases hx : lastOf (numbered 0 names) m with
  | none => exact h2 hx
  | some n => exact h1 n hx
/-- A row of modules, as it grows; Q: where their lists may lie. -/
def RowM (base : Nat) (wr : World) (Q : Nat → Prop) (l : List ModD) (vm : Value) : Prop :=
  ∃ xs, wr.ownsRow base 50 5 vm l.length xs ∧ (∀ u ∈ xs, u.oneCell' = true) ∧ ∀ i m, l[i]? = some m → ∃ vp vi vn, (∀ j u, (m.cells vp vi vn)[j]? = some u → xs[i * 5 + j]? = some u) ∧ ModL wr Q vp vi vn m
theorem RowM.nil (base : Nat) (wr : World) (Q : Nat → Prop) : RowM base wr Q [] (.slice none 0 0) := ⟨[], World.ownsRow_nil _ _ _ _, by simp, fun i m h => by simp at h⟩
theorem RowM.keep {base : Nat} {wr W : World} {Q : Nat → Prop} {l : List ModD} {vm : Value} {ls : List Nat} (h : RowM base wr Q l vm) (hw : Wr ls wr W) (hv : ∀ b, vm.ownBlock = some b → b ∉ ls) (hQ : ∀ b, Q b → b ∉ ls) : RowM base W Q l vm := by
  obtain ⟨xs, h1, h2, h3⟩ := h
  refine ⟨xs, own_keep h1 hw hv, h2, fun i x hi => ?_⟩
  obtain ⟨vp, vi, vn, e1, e2⟩ := h3 i x hi
  exact ⟨vp, vi, vn, e1, e2.keep hw hQ⟩
theorem RowM.into {base : Nat} {wr : World} {Q R : Nat → Prop} {l : List ModD} {vm : Value} (h : RowM base wr Q l vm) (hQ : ∀ b, Q b → b < wr.heap.size → R b) : RowM base wr R l vm := by
  obtain ⟨xs, h1, h2, h3⟩ := h
  refine ⟨xs, h1, h2, fun i x hi => ?_⟩
  obtain ⟨vp, vi, vn, e1, e2⟩ := h3 i x hi
  exact ⟨vp, vi, vn, e1, e2.into hQ⟩
theorem RowM.push {base : Nat} {wr W : World} {Q : Nat → Prop} {l : List ModD} {vm v' vp vi vn : Value} {m : ModD} {xs : List Value} (h1 : wr.ownsRow base 50 5 vm l.length xs) (h2 : ∀ u ∈ xs, u.oneCell' = true)
    (h3 : ∀ (i : Nat) (m : ModD), l[i]? = some m → ∃ vp vi vn, (∀ (j : Nat) (u : Value), (m.cells vp vi vn)[j]? = some u → xs[i * 5 + j]? = some u) ∧ ModL wr Q vp vi vn m)
    (hQ : ∀ b, Q b → b ∉ ownL vm) (hm : ModL wr Q vp vi vn m) (hg : wr.grownBy W vm.ownBlock)
    (hown : W.ownsRow base 50 5 v' (l.length + 1) (xs ++ m.cells vp vi vn)) : RowM base W Q (l ++ [m]) v' := by
  have hw : Wr (ownL vm) wr W := Wr.ofGrownOwn hg
  have hxl := h1.1
  obtain ⟨Ap, cp, rfl, _, _⟩ := Sl.form hm.procs
  obtain ⟨Ai, ci, rfl, _, _⟩ := Sl.form hm.imports
  obtain ⟨An, cn, rfl, _, _⟩ := Sl.form hm.init
  refine ⟨_, by rw [List.length_append]; exact hown, ?_, fun i y hi => ?_⟩
  · intro u hu
    rcases List.mem_append.1 hu with hu | hu
    · exact h2 u hu
    · simp only [ModD.cells, List.mem_cons, List.not_mem_nil, or_false] at hu
      rcases hu with rfl | rfl | rfl | rfl | rfl <;> rfl
  · rcases Nat.lt_or_ge i l.length with hlt | hge
    · rw [List.getElem?_append_left hlt] at hi
      obtain ⟨vp2, vi2, vn2, e1, e2⟩ := h3 i y hi
      refine ⟨vp2, vi2, vn2, fun j u hj => ?_, e2.keep hw hQ⟩
      have := e1 j u hj
      rw [List.getElem?_append_left (List.getElem?_eq_some_iff.1 this).1]
      exact this
    · rw [List.getElem?_append_right hge] at hi
      have hil : i = l.length := by
        rcases Nat.eq_zero_or_pos (i - l.length) with h | h
        · omega
        · rw [List.getElem?_eq_none (by simp; omega)] at hi; cases hi
      subst hil
      rw [Nat.sub_self] at hi
      simp only [List.getElem?_cons_zero, Option.some.injEq] at hi
      subst hi
      refine ⟨_, _, _, fun j u hj => ?_, hm.keep hw hQ⟩
      rw [List.getElem?_append_right (by rw [hxl]; omega), hxl, Nat.add_sub_cancel_left]
      exact hj
theorem RowM.sl {base : Nat} {wr : World} {Q : Nat → Prop} {l : List ModD} {vm : Value} (h : RowM base wr Q l vm) : SlMods wr (fun _ => True) vm l := by
  obtain ⟨xs, h1, h2, h3⟩ := h
  refine ⟨xs, Sl.ofOwn h1 (fun _ _ => trivial), h2, fun i x hi => ?_⟩
  obtain ⟨vp, vi, vn, e1, e2⟩ := h3 i x hi
  exact ⟨vp, vi, vn, e1, e2.into (fun _ _ _ => trivial)⟩
theorem RowM.shape {base : Nat} {wr : World} {Q : Nat → Prop} {l : List ModD} {vm : Value} (h : RowM base wr Q l vm) : ∃ A c, vm = .slice A l.length c := by
  obtain ⟨xs, h1, _⟩ := h
  rcases h1.2 with ⟨e, h0⟩ | ⟨g, cap, cur, e, _⟩
  · exact ⟨none, 0, by rw [e, h0]⟩
  · exact ⟨_, _, e⟩
theorem own_shape {w : World} {base size n : Nat} {e : TypeId} {v : Value} {xs : List Value} (h : w.ownsRow base e size v n xs) : ∃ A c, v = .slice A n c := by
  rcases h.2 with ⟨e, h0⟩ | ⟨g, cap, cur, e, _⟩
  · exact ⟨none, 0, by rw [e, h0]⟩
  · exact ⟨_, _, e⟩
def ints (l : List Int) : List Value := l.map (Value.int .i64)
/-- How far the image has come. -/
def ImAtL (w1 : World) (gi x : Nat) (vnm : Value) (l : List ObjD) (names : List ByteArray) (k : Nat) (wr : World) : Prop :=
  Wr [] w1 wr ∧ ∃ vm vo, Blk wr gi 31 #[vnm, vm, vo] ∧ RowM w1.heap.size wr (fun b => b ≠ gi ∧ b ∉ ownL vm ∧ b ∉ ownL vo ∧ b ≠ x) ((names.take k).map (modOf l names)) vm ∧ wr.ownsRow w1.heap.size 3 1 vo k (ints ((List.range k).map Int.ofNat)) ∧
    (∀ b, vm.ownBlock = some b → b ≠ gi ∧ b ∉ ownL vo) ∧ ∀ b, vo.ownBlock = some b → b ≠ gi
/-- The inner loop: which modules one names. -/
def IncAt (wo : World) (gm : Nat) (o : ObjD) (names : List ByteArray) (vp vn : Value) (j : Nat) (wr : World) : Prop :=
  Wr [] wo wr ∧ ∃ vi, Blk wr gm 50 #[.string o.mod.code, vp, vi, .int .i64 o.mod.data, vn] ∧ wr.ownsRow wo.heap.size 3 1 vi j (ints ((o.uses.take j).map fun u => placeOf names u.module)) ∧ ∀ b, vi.ownBlock = some b → b ≠ gm
/-- What linking answers, as it lies in memory. -/
def LinkR (w : World) (a : ImgD × ByteArray × Int) (e : Ending) (w' : World) : Prop :=
  ∃ vn vm vo, e = .returned (.tuple #[.agg #[vn, vm, vo], .string a.2.1, .int .i64 a.2.2]) ∧ Wr [] w w' ∧ SlStr w' (fun _ => True) vn a.1.names ∧ SlMods w' (fun _ => True) vm a.1.mods ∧ SlI64 w' (fun _ => True) vo a.1.order
theorem SlMods.nil (w : World) (P : Nat → Prop) : SlMods w P (.slice none 0 0) [] := ⟨[], Sl.nil w P 5, by simp, fun i m h => by simp at h⟩
set_option maxRecDepth 100000 in
set_option maxHeartbeats 8000000 in
theorem link_any (l : List ObjD) (v : Value) (main : ByteArray) (w : World) (h : SlObjs w (fun _ => True) v l) (hlen : l.length ≤ 1000000000) (hus : ∀ o ∈ l, o.uses.length ≤ 1000000000) :
    Calls Try.prog 9 #[v, .string main] w (LinkR w (linkP l main)) := by
  have hmm := @run_makeMap Try.prog
  have hmf : ∀ (fn : Fn) (first cap : Array Value) (w : World), (Instr.makeFunc fn first cap).run Try.prog w = .ok (.func fn first cap) w := fun _ _ _ _ => rfl
  obtain ⟨A, c, rfl, l1, l2⟩ := SlObjs.form h
  unfold maxLen at l2
  obtain ⟨a, ha⟩ : ∃ a, linkP l main = a := ⟨_, rfl⟩
  rw [ha]
  obtain ⟨s, hs⟩ : ∃ s, w.heap.size = s := ⟨_, rfl⟩
  obtain ⟨q0, g0⟩ : ∃ q, w.alloc (.cells #[.slice A l.length c] 22) = q := ⟨_, rfl⟩
  obtain ⟨q1, g1⟩ : ∃ q, q0.alloc (.cells #[.string main] 9) = q := ⟨_, rfl⟩
  obtain ⟨q2, g2⟩ : ∃ q, q1.alloc (.cells #[.slice none 0 0, .slice none 0 0, .slice none 0 0] 31) = q := ⟨_, rfl⟩
  obtain ⟨q3, g3⟩ : ∃ q, q2.alloc (.cells #[.slice none 0 0] 25) = q := ⟨_, rfl⟩
  obtain ⟨q4, g4⟩ : ∃ q, q3.alloc (.map #[] 0) = q := ⟨_, rfl⟩
  obtain ⟨q5, g5⟩ : ∃ q, q4.alloc (.map #[] 0) = q := ⟨_, rfl⟩
  obtain ⟨q6, g6⟩ : ∃ q, q5.alloc (.cells #[.map (some (s + 1 + 1 + 1 + 1))] 64) = q := ⟨_, rfl⟩
  obtain ⟨q7, g7⟩ : ∃ q, q6.alloc (.cells #[.map (some (s + 1 + 1 + 1 + 1 + 1))] 65) = q := ⟨_, rfl⟩
  obtain ⟨q8, g8⟩ : ∃ q, q7.alloc (.cells #[.func (.func 18) #[] #[.pointer (some ⟨s, 0, none⟩), .pointer (some ⟨s + 1 + 1 + 1 + 1 + 1 + 1, 0, none⟩)], .func (.func 20) #[] #[.pointer (some ⟨s, 0, none⟩), .pointer (some ⟨s + 1, 0, none⟩), .pointer (some ⟨s + 1 + 1 + 1, 0, none⟩)], .func (.func 22) #[] #[.pointer (some ⟨s + 1 + 1 + 1, 0, none⟩), .pointer (some ⟨s + 1 + 1 + 1 + 1 + 1 + 1 + 1, 0, none⟩), .pointer (some ⟨s + 1 + 1 + 1 + 1 + 1 + 1, 0, none⟩)], .func (.func 23) #[] #[.pointer (some ⟨s + 1 + 1 + 1, 0, none⟩), .pointer (some ⟨s + 1 + 1 + 1 + 1 + 1 + 1, 0, none⟩), .pointer (some ⟨s + 1, 0, none⟩)]] 66) = q := ⟨_, rfl⟩
  have z0 : q0.heap.size = s + 1 := by rw [← g0, World.size_alloc, hs]
  have r0 : Wr [] w q0 := by rw [← g0]; exact (Wr.refl [] w).alloc _
  have z1 : q1.heap.size = s + 1 + 1 := by rw [← g1, World.size_alloc, z0]
  have r1 : Wr [] q0 q1 := by rw [← g1]; exact (Wr.refl [] q0).alloc _
  have z2 : q2.heap.size = s + 1 + 1 + 1 := by rw [← g2, World.size_alloc, z1]
  have r2 : Wr [] q1 q2 := by rw [← g2]; exact (Wr.refl [] q1).alloc _
  have z3 : q3.heap.size = s + 1 + 1 + 1 + 1 := by rw [← g3, World.size_alloc, z2]
  have r3 : Wr [] q2 q3 := by rw [← g3]; exact (Wr.refl [] q2).alloc _
  have z4 : q4.heap.size = s + 1 + 1 + 1 + 1 + 1 := by rw [← g4, World.size_alloc, z3]
  have r4 : Wr [] q3 q4 := by rw [← g4]; exact (Wr.refl [] q3).alloc _
  have z5 : q5.heap.size = s + 1 + 1 + 1 + 1 + 1 + 1 := by rw [← g5, World.size_alloc, z4]
  have r5 : Wr [] q4 q5 := by rw [← g5]; exact (Wr.refl [] q4).alloc _
  have z6 : q6.heap.size = s + 1 + 1 + 1 + 1 + 1 + 1 + 1 := by rw [← g6, World.size_alloc, z5]
  have r6 : Wr [] q5 q6 := by rw [← g6]; exact (Wr.refl [] q5).alloc _
  have z7 : q7.heap.size = s + 1 + 1 + 1 + 1 + 1 + 1 + 1 + 1 := by rw [← g7, World.size_alloc, z6]
  have r7 : Wr [] q6 q7 := by rw [← g7]; exact (Wr.refl [] q6).alloc _
  have z8 : q8.heap.size = s + 1 + 1 + 1 + 1 + 1 + 1 + 1 + 1 + 1 := by rw [← g8, World.size_alloc, z7]
  have r8 : Wr [] q7 q8 := by rw [← g8]; exact (Wr.refl [] q7).alloc _
  have b0 : Blk q0 (s) 22 #[.slice A l.length c] := by rw [← g0, ← hs]; exact Blk.new _ _ _
  have b1 : Blk q1 (s + 1) 9 #[.string main] := by rw [← g1, ← z0]; exact Blk.new _ _ _
  have b2 : Blk q2 (s + 1 + 1) 31 #[.slice none 0 0, .slice none 0 0, .slice none 0 0] := by rw [← g2, ← z1]; exact Blk.new _ _ _
  have b3 : Blk q3 (s + 1 + 1 + 1) 25 #[.slice none 0 0] := by rw [← g3, ← z2]; exact Blk.new _ _ _
  have b4 : MapR q4 (s + 1 + 1 + 1 + 1) (ObjV w) (fun _ => none) := by rw [← g4, ← z3]; exact MapR.new _ _
  have b5 : MapR q5 (s + 1 + 1 + 1 + 1 + 1) IntV (fun _ => none) := by rw [← g5, ← z4]; exact MapR.new _ _
  have b6 : Blk q6 (s + 1 + 1 + 1 + 1 + 1 + 1) 64 #[.map (some (s + 1 + 1 + 1 + 1))] := by rw [← g6, ← z5]; exact Blk.new _ _ _
  have b7 : Blk q7 (s + 1 + 1 + 1 + 1 + 1 + 1 + 1) 65 #[.map (some (s + 1 + 1 + 1 + 1 + 1))] := by rw [← g7, ← z6]; exact Blk.new _ _ _
  have b8 : Blk q8 (s + 1 + 1 + 1 + 1 + 1 + 1 + 1 + 1) 66 #[.func (.func 18) #[] #[.pointer (some ⟨s, 0, none⟩), .pointer (some ⟨s + 1 + 1 + 1 + 1 + 1 + 1, 0, none⟩)], .func (.func 20) #[] #[.pointer (some ⟨s, 0, none⟩), .pointer (some ⟨s + 1, 0, none⟩), .pointer (some ⟨s + 1 + 1 + 1, 0, none⟩)], .func (.func 22) #[] #[.pointer (some ⟨s + 1 + 1 + 1, 0, none⟩), .pointer (some ⟨s + 1 + 1 + 1 + 1 + 1 + 1 + 1, 0, none⟩), .pointer (some ⟨s + 1 + 1 + 1 + 1 + 1 + 1, 0, none⟩)], .func (.func 23) #[] #[.pointer (some ⟨s + 1 + 1 + 1, 0, none⟩), .pointer (some ⟨s + 1 + 1 + 1 + 1 + 1 + 1, 0, none⟩), .pointer (some ⟨s + 1, 0, none⟩)]] := by rw [← g8, ← z7]; exact Blk.new _ _ _
  have hls : LS0 w (.slice A l.length c) main s q8 := ⟨⟨((((((((r0.trans r1).trans r2).trans r3).trans r4).trans r5).trans r6).trans r7).trans r8), ((((((((b0.wr0 r1).wr0 r2).wr0 r3).wr0 r4).wr0 r5).wr0 r6).wr0 r7).wr0 r8), (((((((b1.wr0 r2).wr0 r3).wr0 r4).wr0 r5).wr0 r6).wr0 r7).wr0 r8), ((((((b2.wr0 r3).wr0 r4).wr0 r5).wr0 r6).wr0 r7).wr0 r8), ((b6.wr0 r7).wr0 r8), (b7.wr0 r8), b8⟩, (((((b3.wr0 r4).wr0 r5).wr0 r6).wr0 r7).wr0 r8), ((((b4.keep r5 (by simp)).keep r6 (by simp)).keep r7 (by simp)).keep r8 (by simp)), (((b5.keep r6 (by simp)).keep r7 (by simp)).keep r8 (by simp))⟩
  have hst := link_steps w (.slice A l.length c) l main s (by omega) h hlen hus q8 hls
  have HST := Lib.hid hst
  have HS := Lib.hid hs
  have G0 := Lib.hid g0
  have G1 := Lib.hid g1
  have G2 := Lib.hid g2
  have G3 := Lib.hid g3
  have G4 := Lib.hid g4
  have G5 := Lib.hid g5
  have G6 := Lib.hid g6
  have G7 := Lib.hid g7
  have G8 := Lib.hid g8
  clear hs hls hst g0 z0 r0 b0 g1 z1 r1 b1 g2 z2 r2 b2 g3 z3 r3 b3 g4 z4 r4 b4 g5 z5 r5 b5 g6 z6 r6 b6 g7 z7 r7 b7 g8 z8 r8 b8
  have HH := Lib.hid h
  have HA := Lib.hid ha
  clear h ha
  go_enter Try.func9, Try.ntmps9
  go_wp2_with fail
  rw [HS.out, G0.out, G1.out, G2.out, G3.out, G4.out, G5.out, G6.out, G7.out, G8.out]
  refine HST.out.mono ?_
  intro e w1 hp
  rcases hp with ⟨rfl, hs4⟩ | ⟨who, en, hen, rfl, hb, hl⟩
  · obtain ⟨hb, ⟨vnm, bn, hsn⟩, hall, hpl, hlk⟩ := hs4
    obtain ⟨names, hnm⟩ : ∃ names, (orderP (l.map needOf) main).1 = names := ⟨_, rfl⟩
    have hnl : names.length ≤ 1000000000 := by
      have := orderP_len (l.map needOf) main
      rw [List.length_map, hnm] at this
      omega
    rw [hnm] at hsn hpl hlk
    have hra : a = (imgOf l names, ⟨#[]⟩, 0) := by rw [← HA.out]; exact hlk
    obtain ⟨An, cn, rfl, ln1, ln2⟩ := Sl.form hsn
    unfold maxLen at ln2
    have HRA := Lib.hid hra
    have HB := Lib.hid hb
    have BN := Lib.hid bn
    have HSN := Lib.hid hsn
    have HALL := Lib.hid hall
    have HPL := Lib.hid hpl
    have z0 := bn.cell 0
    have hlt0 := bn.lt
    simp only [List.getElem?_toArray, List.getElem?_cons_zero] at z0
    obtain ⟨gi, hgi⟩ : ∃ gi, w1.heap.size = gi := ⟨_, rfl⟩
    obtain ⟨w2, hw2⟩ : ∃ w2, w1.alloc (.cells #[.slice An names.length cn, .slice none 0 0, .slice none 0 0] 31) = w2 := ⟨_, rfl⟩
    have r2 : Wr [] w1 w2 := by rw [← hw2]; exact (Wr.refl [] w1).alloc _
    have bi2 : Blk w2 gi 31 #[.slice An names.length cn, .slice none 0 0, .slice none 0 0] := by rw [← hw2, ← hgi]; exact Blk.new _ _ _
    have y0 := (bn.wr0 r2).cell 0
    simp only [List.getElem?_toArray, List.getElem?_cons_zero] at y0
    have R2 := Lib.hid r2
    have BI2 := Lib.hid bi2
    have HGI := Lib.hid hgi
    have HW2 := Lib.hid hw2
    clear hra hb bn hsn hall hpl hlk hnm hgi hw2 r2 bi2
    go_upto_region 11 with (fail)
    rw [HGI.out, HW2.out]
    clear z0
    go_wp2_with fail
    go_loopw [46] (fun s46 wr => ∃ k : Nat, k ≤ names.length ∧ s46 = .int .i64 k ∧ ImAtL w1 gi (s + 2) (.slice An names.length cn) l names k wr) (fun s46 _ => names.length - (intOf s46).toNat)
    case atStart => exact ⟨0, by omega, rfl, R2.out, _, _, BI2.out, RowM.nil _ _ _, World.ownsRow_nil _ _ _ _, (fun b hb => by cases hb), (fun b hb => by cases hb)⟩
    case round =>
      obtain ⟨k, hk, rfl, acc, vm, vo, bi, hrm, hro, hne1, hne2⟩ := hrel
      obtain ⟨wo, rfl⟩ : ∃ wo : World, wo = wr := ⟨_, rfl⟩
      obtain ⟨Am, cm, rfl⟩ := hrm.shape
      obtain ⟨Ao, co, rfl⟩ := own_shape hro
      have hmk : ((names.take k).map (modOf l names)).length = k := by rw [List.length_map, List.length_take]; omega
      rw [hmk] at bi hrm hne1
      clear y0
      by_cases hlt : k < names.length
      · obtain ⟨m, hm⟩ : ∃ m, names[k]? = some m := ⟨_, List.getElem?_eq_getElem hlt⟩
        obtain ⟨b, off, cc, ee, _, _, hqb, hc0⟩ := Sl.at_ HSN.out (j := k) (u := .string m) (by rw [List.getElem?_map, hm]; rfl)
        injection ee with q1 q2 q3
        subst q1
        subst q3
        have hcell := acc.cellOf hc0 (by simp)
        have hallw : AllM w wo (s + 4) l l.length := MapR.keep HALL.out acc (by simp)
        obtain ⟨vu, vp, vi, vn', hl1, hol⟩ := hallw.look m
        obtain ⟨o, ho⟩ : ∃ o, objOf l m = o := ⟨_, rfl⟩
        rw [ho] at hl1 hol
        obtain ⟨Bu, du, rfl, lu1, lu2⟩ := Sl.form hol.uses
        obtain ⟨Bp, dp, rfl, _, _⟩ := Sl.form hol.mod.procs
        obtain ⟨Bi, di, rfl, _, _⟩ := Sl.form hol.mod.imports
        obtain ⟨Bn, dn, rfl, _, _⟩ := Sl.form hol.mod.init
        unfold maxLen at lu2
        have fm : ∀ w : World, (Instr.field 52 (o.val (.slice Bu o.uses.length du) (.slice Bp o.mod.procs.length dp) (.slice Bi o.mod.imports.length di) (.slice Bn o.mod.init.length dn)) 4).run Try.prog w = .ok (.agg #[.string o.mod.code, .slice Bp o.mod.procs.length dp, .slice Bi o.mod.imports.length di, .int .i64 o.mod.data, .slice Bn o.mod.init.length dn]) w := fun w => fld_mod o _ _ _ _ w
        have fu := fun w => fld_uses o (.slice Bu o.uses.length du) (.slice Bp o.mod.procs.length dp) (.slice Bi o.mod.imports.length di) (.slice Bn o.mod.init.length dn) w
        have y0 := (HB.out.wr0 acc).ba.cell 0
        simp only [List.getElem?_toArray, List.getElem?_cons_zero] at y0
        have hlti : (k : Int) < (names.length : Int) := by omega
        have hk0 : (0 : Int) ≤ (k : Int) := by omega
        obtain ⟨gm, hgm⟩ : ∃ gm, wo.heap.size = gm := ⟨_, rfl⟩
        obtain ⟨w3, hw3⟩ : ∃ w3, wo.alloc (.cells #[.string o.mod.code, .slice Bp o.mod.procs.length dp, .slice none 0 0, .int .i64 o.mod.data, .slice Bn o.mod.init.length dn] 50) = w3 := ⟨_, rfl⟩
        have r3 : Wr [] wo w3 := by rw [← hw3]; exact (Wr.refl [] wo).alloc _
        have bm3 : Blk w3 gm 50 #[.string o.mod.code, .slice Bp o.mod.procs.length dp, .slice none 0 0, .int .i64 o.mod.data, .slice Bn o.mod.init.length dn] := by rw [← hw3, ← hgm]; exact Blk.new _ _ _
        have hall3 : AllM w w3 (s + 4) l l.length := MapR.keep hallw r3 (by simp)
        have y3 := ((HB.out.wr0 acc).wr0 r3).ba.cell 0
        simp only [List.getElem?_toArray, List.getElem?_cons_zero] at y3
        obtain ⟨vu3, vp3, vi3, vn3, hl3, hol3⟩ := hall3.look m
        rw [ho] at hl3 hol3
        obtain ⟨Cu, eu, rfl, lu3, lu4⟩ := Sl.form hol3.uses
        unfold maxLen at lu4
        have fu3 := fun w => fld_uses o (.slice Cu o.uses.length eu) vp3 vi3 vn3 w
        have HOL3 := Lib.hid hol3
        have ACC := Lib.hid acc
        have BI := Lib.hid bi
        have HRM := Lib.hid hrm
        have HRO := Lib.hid hro
        have HNE1 := Lib.hid hne1
        have HNE2 := Lib.hid hne2
        have HOL := Lib.hid hol
        have HO := Lib.hid ho
        have HM := Lib.hid hm
        have HGM := Lib.hid hgm
        have HW3 := Lib.hid hw3
        have R3 := Lib.hid r3
        have BM3 := Lib.hid bm3
        have husz : o.uses.length ≤ 1000000000 := by
          rw [← ho]
          unfold objOf
          cases hx : lastOf (named l) m with
          | none => exact Nat.zero_le _
          | some o' =>
            obtain ⟨o2, ho2, e2⟩ := List.mem_map.1 (lastOf_mem hx)
            injection e2 with _ e2
            subst e2
            exact hus o2 ho2
        clear acc bi hrm hro hne1 hne2 hol hol3 ho hm hgm hw3 r3 bm3 q2 hqb hc0 hallw hall3 hmk
        go_upto_region 16 with (fail)
        rw [HGM.out, HW3.out]
        clear hcell y0 hl1
        go_wp2_with fail
        go_loopw [61] (fun s61 w4 => ∃ j : Nat, j ≤ o.uses.length ∧ s61 = .int .i64 j ∧ IncAt wo gm o names (.slice Bp o.mod.procs.length dp) (.slice Bn o.mod.init.length dn) j w4) (fun s61 _ => o.uses.length - (intOf s61).toNat)
        case atStart => exact ⟨0, by omega, rfl, R3.out, _, BM3.out, World.ownsRow_nil _ _ _ _, fun b hb => by cases hb⟩
        case round =>
          obtain ⟨j, hj, rfl, rin, vi, bm, hown, hne⟩ := hrel
          obtain ⟨Bv, dv, rfl⟩ := own_shape hown
          clear y3 hl3
          by_cases hlt2 : j < o.uses.length
          · obtain ⟨u, hu⟩ : ∃ u, o.uses[j]? = some u := ⟨_, List.getElem?_eq_getElem hlt2⟩
            obtain ⟨bu, offu, cu, eu2, _, _, hcu⟩ := use_at (((HOL3.out.wr0 HB.out.acc).wr0 ACC.out).wr0 rin).uses hu
            injection eu2 with q1 q2 q3
            subst q1
            subst q3
            have z0 := hcu 0 _ rfl
            have z1 := hcu 1 _ rfl
            simp only [Nat.add_zero] at z0
            have p0 := ((HB.out.wr0 ACC.out).wr0 rin).bp.cell 0
            simp only [List.getElem?_toArray, List.getElem?_cons_zero] at p0
            obtain ⟨zz, hzz⟩ : ∃ zz, wr.heap.size = zz := ⟨_, rfl⟩
            obtain ⟨wu, hwu⟩ : ∃ wu, wr.alloc (.cells #[.string u.module, .int .u64 u.key] 54) = wu := ⟨_, rfl⟩
            obtain ⟨wa, hwa⟩ : ∃ wa, wu.alloc (.cells #[.int .i64 (placeOf names u.module)] 3) = wa := ⟨_, rfl⟩
            have ru : Wr [] wr wu := by rw [← hwu]; exact (Wr.refl [] wr).alloc _
            have rua : Wr [] wu wa := by rw [← hwa]; exact (Wr.refl [] wu).alloc _
            have ra : Wr [] wr wa := ru.trans rua
            have hlp := look_place (HPL.out.keep ((ACC.out.trans rin).trans ru) (by simp)) u.module
            have hnew : Blk wa (zz + 1) 3 #[.int .i64 (placeOf names u.module)] := by
              have := Blk.new wu 3 #[.int .i64 (placeOf names u.module)]
              rw [← hwu, World.size_alloc, hzz, hwu, hwa] at this
              exact this
            have hownA := own_keep hown ra (fun _ _ => by simp)
            have hbase : wo.heap.size ≤ wa.heap.size := Nat.le_trans rin.size ra.size
            obtain ⟨i0, hi0, hz0, hz1, hz2⟩ := info_parts info_int
            obtain ⟨v', w4, hrun, hown4, hgrow, _, hbk⟩ := run_append_own_at (P := Try.prog) wa wo.heap.size 27 27 3 i0 _ 1 8 Try.underlying27 hi0 hz0 hz1 hz2 rfl (by decide) _ j _ hownA ⟨zz + 1, 0, none⟩ 1 1 [.int .i64 (placeOf names u.module)] rfl (fun q u' hq => by
              rw [Addr.add_lit, Nat.zero_add, hnew.cell]
              simpa using hq) (by simp [Value.oneCell']) (by unfold maxLen; omega) (by omega) hbase
            obtain ⟨Av, cv, hv'⟩ := own_shape hown4
            subst hv'
            have hwg := Wr.ofGrownOwn hgrow
            have bmA := (bm.wr0 ra).wr hwg (fun hx => hne _ (mem_ownL.1 hx) rfl)
            have hgm1 : gm < wr.heap.size := bm.lt
            have hgm0 := HGM.out
            have hbw : ∀ b, (Value.slice Av (j + 1) cv).ownBlock = some b → b ≠ gm := by
              intro b hb
              rcases hbk with h1 | h1
              · exact hne b (h1 ▸ hb)
              · rw [h1] at hb
                injection hb with hb
                have := ra.size
                omega
            have hst : Wr [gm] w4 (w4.setCell ⟨gm, 2, none⟩ (.slice Av (j + 1) cv)) := (Wr.refl [gm] w4).setOn (by simp) _
            have rin2 : Wr [] wo (w4.setCell ⟨gm, 2, none⟩ (.slice Av (j + 1) cv)) := by
              refine Wr.setNew ?_ (by omega) _
              exact (rin.trans ra).trans' hwg (fun x hx => .inr ((hownA.lt x (mem_ownL.1 hx)).1))
            have hfin : IncAt wo gm o names (.slice Bp o.mod.procs.length dp) (.slice Bn o.mod.init.length dn) (j + 1) (w4.setCell ⟨gm, 2, none⟩ (.slice Av (j + 1) cv)) := by
              refine ⟨rin2, _, by simpa using bmA.set_ 2 (.slice Av (j + 1) cv), ?_, hbw⟩
              have h1 := own_keep hown4 hst (fun b hb => by simpa using hbw b hb)
              rw [List.take_add_one, hu]
              simpa [ints] using h1
            have d1 := bm.cell 2
            have d0 := bmA.cell 2
            have f1 := bmA.frozen 2
            simp only [List.getElem?_toArray, List.getElem?_cons_zero, List.getElem?_cons_succ] at d1 d0
            have hpz := World.block_lt_of_cell? wr _ p0
            have HZZ := Lib.hid hzz
            have HWU := Lib.hid hwu
            have HWA := Lib.hid hwa
            have HFIN := Lib.hid hfin
            have HRUN := Lib.hid hrun
            have hlti2 : (j : Int) < (o.uses.length : Int) := by omega
            have hj0 : (0 : Int) ≤ (j : Int) := by omega
            rw [← hwu] at hlp
            clear q2 hcu hu rin bm hown hne hzz hwu hwa ru rua ra hnew hownA hbase hrun hown4 hgrow hbk hwg bmA hgm0 hbw hst rin2 hfin hi0 hz0 hz1 hz2
            go_wp2_with (at_builtin; rw [HZZ.out, HWU.out, HWA.out]; refine wpList_append_run rfl _ _ _ rfl _ _ rfl rfl _ _ HRUN.out ?_)
            go_roundw
            case rel => exact ⟨j + 1, by omega, by go_num, HFIN.out⟩
            case measure => simp [intOf]; omega
          · have hjn : j = o.uses.length := by omega
            subst hjn
            have hsz1 := HGI.out
            have hsz2 := HGM.out
            have hszs := HS.out
            have hgw : gi < wo.heap.size := BI.out.lt
            have hacc1 := (HB.out.acc).size
            have hpi := HB.out.bi.lt
            have hwow := ACC.out.size
            obtain ⟨wB, hwB⟩ : ∃ wB, wr.alloc (.cells #[.string o.mod.code, .slice Bp o.mod.procs.length dp, .slice Bv o.uses.length dv, .int .i64 o.mod.data, .slice Bn o.mod.init.length dn] 50) = wB := ⟨_, rfl⟩
            obtain ⟨zz, hzz⟩ : ∃ zz, wr.heap.size = zz := ⟨_, rfl⟩
            have rB : Wr [] wr wB := by rw [← hwB]; exact (Wr.refl [] wr).alloc _
            have zB : wB.heap.size = zz + 1 := by rw [← hwB, World.size_alloc, hzz]
            have hnew : Blk wB zz 50 #[.string o.mod.code, .slice Bp o.mod.procs.length dp, .slice Bv o.uses.length dv, .int .i64 o.mod.data, .slice Bn o.mod.init.length dn] := by rw [← hwB, ← hzz]; exact Blk.new _ _ _
            have rwoB := rin.trans rB
            obtain ⟨xs, h1, h2, h3⟩ := HRM.out.keep rwoB (fun _ _ => by simp) (fun _ _ => by simp)
            have hmk : ((names.take k).map (modOf l names)).length = k := by rw [List.length_map, List.length_take]; omega
            have hroB := own_keep HRO.out rwoB (fun _ _ => by simp)
            have hvmlt := own_lt (own_keep (show wo.ownsRow w1.heap.size _ 5 (.slice Am k cm) _ _ from HRM.out.choose_spec.1) (Wr.refl [] wo) (fun _ _ => by simp))
            have hvolt := own_lt HRO.out
            have hmlB : ModL wB (fun b => (b ≠ gi ∧ b ∉ ownL (.slice Am k cm) ∧ b ∉ ownL (.slice Ao k co) ∧ b ≠ s + 2) ∧ b < wB.heap.size) (.slice Bp o.mod.procs.length dp) (.slice Bv o.uses.length dv) (.slice Bn o.mod.init.length dn) (modOf l names m) := by
              have hold := (HOL.out.mod.into (Q := fun b => b < s) (fun b _ hb => by rw [← hszs]; exact hb)).wr0 (((HB.out.acc).trans ACC.out).trans rwoB)
              have hbl : ∀ b, b < s → (b ≠ gi ∧ b ∉ ownL (.slice Am k cm) ∧ b ∉ ownL (.slice Ao k co) ∧ b ≠ s + 2) := fun b hb => ⟨by omega, fun hm => by
                have := (h1.lt b (mem_ownL.1 hm)).1
                omega, fun hm => by
                have := (HRO.out.lt b (mem_ownL.1 hm)).1
                omega, by omega⟩
              have hold2 := hold.into (Q := fun b => (b ≠ gi ∧ b ∉ ownL (.slice Am k cm) ∧ b ∉ ownL (.slice Ao k co) ∧ b ≠ s + 2) ∧ b < wB.heap.size) (fun b hb hlt => ⟨hbl b hb, hlt⟩)
              have himp := Sl.ofOwn (P := fun b => (b ≠ gi ∧ b ∉ ownL (.slice Am k cm) ∧ b ∉ ownL (.slice Ao k co) ∧ b ≠ s + 2) ∧ b < wB.heap.size) (own_keep hown rB (fun _ _ => by simp)) (fun b hb => by
                have hb1 := (hown.lt b hb)
                refine ⟨⟨by omega, fun hm => ?_, fun hm => ?_, by omega⟩, by have := rB.size; omega⟩
                · have := hvmlt b (mem_ownL.1 hm); omega
                · have := hvolt b (mem_ownL.1 hm); omega)
              rw [List.take_length] at himp
              have e : modOf l names m = { o.mod with imports := o.uses.map fun u => placeOf names u.module } := by unfold modOf; rw [HO.out]
              rw [e]
              refine ⟨hold2.procs, ?_, hold2.init⟩
              unfold SlI64
              rw [List.length_map]
              exact himp
            obtain ⟨i1, hi1, hy0, hy1, hy2⟩ := info_parts info_mod
            obtain ⟨v1, w5, hrun1, hown5, hgrow5, _, hbk5⟩ := run_append_own_at (P := Try.prog) wB w1.heap.size 26 26 50 i1 _ 5 96 Try.underlying26 hi1 hy0 hy1 hy2 rfl (by decide) _ _ _ h1 ⟨zz, 0, none⟩ 1 1 [.string o.mod.code, .slice Bp o.mod.procs.length dp, .slice Bv o.uses.length dv, .int .i64 o.mod.data, .slice Bn o.mod.init.length dn] rfl (fun q u' hq => by
              rw [Addr.add_lit, Nat.zero_add, hnew.cell]
              simpa using hq) (by simp [Value.oneCell']) (by unfold maxLen; omega) (by omega) (Nat.le_trans (ACC.out.trans rwoB).size (Nat.le_refl _))
            rw [hmk] at hown5
            obtain ⟨A1, c1, hv1⟩ := own_shape hown5
            subst hv1
            have hwg5 := Wr.ofGrownOwn hgrow5
            have hv1b : ∀ b, (Value.slice A1 (k + 1) c1).ownBlock = some b → b ≠ gi ∧ b ∉ ownL (.slice Ao k co) := by
              intro b hb
              rcases hbk5 with h | h
              · exact HNE1.out b (h ▸ hb)
              · rw [h] at hb
                injection hb with hb
                have := rwoB.size
                exact ⟨by omega, fun hm => by have := hvolt b (mem_ownL.1 hm); omega⟩
            have hcat : (names.take (k + 1)).map (modOf l names) = (names.take k).map (modOf l names) ++ [modOf l names m] := by rw [List.take_add_one, HM.out]; simp
            have hmcells : [.string o.mod.code, .slice Bp o.mod.procs.length dp, .slice Bv o.uses.length dv, .int .i64 o.mod.data, .slice Bn o.mod.init.length dn] = (modOf l names m).cells (.slice Bp o.mod.procs.length dp) (.slice Bv o.uses.length dv) (.slice Bn o.mod.init.length dn) := by
              unfold modOf ModD.cells
              rw [HO.out]
            have hpush := RowM.push (Q := fun b => (b ≠ gi ∧ b ∉ ownL (.slice Am k cm) ∧ b ∉ ownL (.slice Ao k co) ∧ b ≠ s + 2) ∧ b < wB.heap.size) h1 h2 (fun i x hi => by
              obtain ⟨vp', vi', vn2, e1, e2⟩ := h3 i x hi
              exact ⟨vp', vi', vn2, e1, e2.into (fun b hb hlt => ⟨hb, hlt⟩)⟩) (fun b hb => hb.1.2.1) hmlB hgrow5 (by rw [hmk, ← hmcells]; exact hown5)
            rw [← hcat] at hpush
            have biB := BI.out.wr0 rwoB
            have hgi5 : gi ∉ ownL (.slice Am k cm) := fun hx => (HNE1.out _ (mem_ownL.1 hx)).1 rfl
            have bi5 := biB.wr hwg5 hgi5
            obtain ⟨w6, hw6⟩ : ∃ w6, w5.setCell ⟨gi, 1, none⟩ (.slice A1 (k + 1) c1) = w6 := ⟨_, rfl⟩
            have r6 : Wr [gi] w5 w6 := by rw [← hw6]; exact (Wr.refl [gi] w5).setOn (by simp) _
            have bi6 : Blk w6 gi 31 #[.slice (some ⟨b, off, none⟩) names.length cn, .slice A1 (k + 1) c1, .slice Ao k co] := by rw [← hw6]; simpa using bi5.set_ 1 (.slice A1 (k + 1) c1)
            have hp6 := hpush.keep r6 (fun b hb => by simpa using (hv1b b hb).1) (fun b hb => by simpa using hb.1.1)
            have hro5 := own_keep hroB hwg5 (fun b hb hx => (HNE1.out b (mem_ownL.1 hx)).2 (mem_ownL.2 hb))
            have hro6 := own_keep hro5 r6 (fun b hb => by simpa using HNE2.out b hb)
            obtain ⟨wC, hwC⟩ : ∃ wC, w6.alloc (.cells #[.int .i64 (k : Int)] 3) = wC := ⟨_, rfl⟩
            obtain ⟨z6, hz6⟩ : ∃ z, w6.heap.size = z := ⟨_, rfl⟩
            have rC : Wr [] w6 wC := by rw [← hwC]; exact (Wr.refl [] w6).alloc _
            have hnewC : Blk wC z6 3 #[.int .i64 (k : Int)] := by rw [← hwC, ← hz6]; exact Blk.new _ _ _
            have hp7 := hp6.keep rC (fun _ _ => by simp) (fun _ _ => by simp)
            have hro7 := own_keep hro6 rC (fun _ _ => by simp)
            have acc5 : Wr [] w1 w5 := (ACC.out.trans rwoB).trans' hwg5 (fun x hx => .inr ((h1.lt x (mem_ownL.1 hx)).1))
            have acc6 : Wr [] w1 w6 := acc5.new r6 (by omega)
            have accC := acc6.trans rC
            have sz5 := hwg5.size
            have sz6 := r6.size
            have szC := rC.size
            obtain ⟨i0, hi0, hz0, hz1, hz2⟩ := info_parts info_int
            obtain ⟨v2, w7, hrun2, hown7, hgrow7, _, hbk7⟩ := run_append_own_at (P := Try.prog) wC w1.heap.size 27 27 3 i0 _ 1 8 Try.underlying27 hi0 hz0 hz1 hz2 rfl (by decide) _ _ _ hro7 ⟨z6, 0, none⟩ 1 1 [.int .i64 (k : Int)] rfl (fun q u' hq => by
              rw [Addr.add_lit, Nat.zero_add, hnewC.cell]
              simpa using hq) (by simp [Value.oneCell']) (by unfold maxLen; omega) (by omega) accC.size
            obtain ⟨A2, c2, hv2⟩ := own_shape hown7
            subst hv2
            have hwg7 := Wr.ofGrownOwn hgrow7
            have hgi7 : gi ∉ ownL (.slice Ao k co) := fun hx => HNE2.out _ (mem_ownL.1 hx) rfl
            have bi7 := (bi6.wr0 rC).wr hwg7 hgi7
            obtain ⟨w8, hw8⟩ : ∃ w8, w7.setCell ⟨gi, 2, none⟩ (.slice A2 (k + 1) c2) = w8 := ⟨_, rfl⟩
            have r8 : Wr [gi] w7 w8 := by rw [← hw8]; exact (Wr.refl [gi] w7).setOn (by simp) _
            have bi8 : Blk w8 gi 31 #[.slice (some ⟨b, off, none⟩) names.length cn, .slice A1 (k + 1) c1, .slice A2 (k + 1) c2] := by rw [← hw8]; simpa using bi7.set_ 2 (.slice A2 (k + 1) c2)
            have hv2b : ∀ b, (Value.slice A2 (k + 1) c2).ownBlock = some b → b ≠ gi ∧ (b ∈ ownL (.slice Ao k co) ∨ b = wC.heap.size) := by
              intro b hb
              rcases hbk7 with h | h
              · exact ⟨HNE2.out b (h ▸ hb), .inl (mem_ownL.2 (h ▸ hb))⟩
              · rw [h] at hb
                injection hb with hb
                have := rwoB.size
                exact ⟨by omega, .inr hb.symm⟩
            have hp8 := (hp7.keep hwg7 (fun b hb hx => (hv1b b hb).2 hx) (fun b hb => hb.1.2.2.1)).keep r8 (fun b hb => by simpa using (hv1b b hb).1) (fun b hb => by simpa using hb.1.1)
            have hv1lt : ∀ b, (Value.slice A1 (k + 1) c1).ownBlock = some b → b < w5.heap.size := own_lt hown5
            have hfin : ImAtL w1 gi (s + 2) (.slice (some ⟨b, off, none⟩) names.length cn) l names (k + 1) w8 := by
              refine ⟨(accC.trans' hwg7 (fun x hx => .inr ((hro7.lt x (mem_ownL.1 hx)).1))).new r8 (by omega), _, _, bi8, ?_, ?_, fun b hb => ⟨(hv1b b hb).1, fun hm => ?_⟩, fun b hb => (hv2b b hb).1⟩
              · refine hp8.into (fun b hb _ => ⟨hb.1.1, fun hm => ?_, fun hm => ?_, hb.1.2.2.2⟩)
                · rw [mem_ownL] at hm
                  rcases hbk5 with h | h
                  · exact hb.1.2.1 (mem_ownL.2 (h ▸ hm))
                  · rw [h] at hm
                    injection hm with hm
                    omega
                · rcases (hv2b b (mem_ownL.1 hm)).2 with h | h
                  · exact hb.1.2.2.1 h
                  · omega
              · have h9 := own_keep hown7 r8 (fun b hb => by simpa using (hv2b b hb).1)
                rw [List.range_succ]
                simpa [ints] using h9
              · rcases (hv2b b (mem_ownL.1 hm)).2 with h | h
                · exact (hv1b b hb).2 h
                · have := hv1lt b hb
                  omega
            have d0 := bm.cell 0
            have d1 := bm.cell 1
            have d2 := bm.cell 2
            have d3 := bm.cell 3
            have d4 := bm.cell 4
            have hgm1 := bm.lt
            have e1 := (BI.out.wr0 rin).cell 1
            have hgi1 := (BI.out.wr0 rin).lt
            have e5 := bi5.cell 1
            have f5 := bi5.frozen 1
            have e6 := bi6.cell 2
            have hgi6 := bi6.lt
            have e7 := bi7.cell 2
            have f7 := bi7.frozen 2
            simp only [List.getElem?_toArray, List.getElem?_cons_zero, List.getElem?_cons_succ] at d0 d1 d2 d3 d4 e1 e5 e6 e7
            have HFIN := Lib.hid hfin
            have HRUN1 := Lib.hid hrun1
            have HRUN2 := Lib.hid hrun2
            have HWB := Lib.hid hwB
            have HZZ := Lib.hid hzz
            have HW6 := Lib.hid hw6
            have HWC := Lib.hid hwC
            have HZ6 := Lib.hid hz6
            have HW8 := Lib.hid hw8
            clear hsz1 hsz2 hszs hgw hacc1 hpi hwow hwB hzz rB zB hnew rwoB h1 h2 h3 hmk hroB hvmlt hvolt hmlB hi1 hy0 hy1 hy2 hrun1 hown5 hgrow5 hbk5 hwg5 hv1b hcat hmcells hpush biB hgi5 bi5 hw6 r6 bi6 hp6 hro5 hro6 hwC hz6 rC hnewC hp7 hro7 acc5 acc6 accC sz5 sz6 szC
            clear hi0 hz0 hz1 hz2 hrun2 hown7 hgrow7 hbk7 hwg7 hgi7 bi7 hw8 r8 bi8 hv2b hp8 hv1lt hfin rin bm hown hne
            go_upto_region 22 with (at_builtin; rw [HZZ.out, HWB.out]; refine wpList_append_run rfl _ _ _ rfl _ _ rfl rfl _ _ HRUN1.out ?_)
            rw [HW6.out]
            clear d0 d1 d2 d3 d4 e1 hgi1 hgm1 e5 f5
            go_wp2_with (at_builtin; rw [HZ6.out, HWC.out]; refine wpList_append_run rfl _ _ _ rfl _ _ rfl rfl _ _ HRUN2.out ?_)
            rw [HW8.out]
            go_roundw
            case rel => exact ⟨k + 1, by omega, by go_num, HFIN.out⟩
            case measure => simp [intOf]; omega
      · have hkn : k = names.length := by omega
        subst hkn
        rw [List.take_length] at hrm
        have hgi := HGI.out
        have hS := HS.out
        have hsw := HB.out.acc.size
        have bp := HB.out.bi.wr0 acc
        have z0 := bp.cell 0
        have z1 := bp.cell 1
        have z2 := bp.cell 2
        have f0 := bp.frozen 0
        have f1 := bp.frozen 1
        have f2 := bp.frozen 2
        have y0 := bi.cell 0
        have y1 := bi.cell 1
        have y2 := bi.cell 2
        have hlt2 := bp.lt
        simp only [List.getElem?_toArray, List.getElem?_cons_zero, List.getElem?_cons_succ] at z0 z1 z2 y0 y1 y2
        have hne : s + 2 < gi := by
          have := HB.out.bi.lt
          omega
        have rT : Wr [s + 2] wo (((wo.setCell ⟨s + 2, 0, none⟩ (.slice An names.length cn)).setCell ⟨s + 2, 1, none⟩ (.slice Am names.length cm)).setCell ⟨s + 2, 2, none⟩ (.slice Ao names.length co)) :=
          (((Wr.refl [s + 2] wo).setOn (by simp) _).setOn (by simp) _).setOn (by simp) _
        have hmods : SlMods (((wo.setCell ⟨s + 2, 0, none⟩ (.slice An names.length cn)).setCell ⟨s + 2, 1, none⟩ (.slice Am names.length cm)).setCell ⟨s + 2, 2, none⟩ (.slice Ao names.length co)) (fun _ => True) (.slice Am names.length cm) (names.map (modOf l names)) := by
          have hk := hrm.keep rT (fun b hb hx => ?_) (fun b hb => by simpa using hb.2.2.2)
          · exact hk.sl
          · obtain ⟨xs, g1, _⟩ := hrm
            have := (g1.lt b hb).1
            simp at hx
            omega
        have HACC := Lib.hid acc
        have HRT := Lib.hid rT
        have HMODS := Lib.hid hmods
        have HRO := Lib.hid hro
        have HHS := Lib.hid hS
        clear acc bi hrm hro hne1 hne2 hmk bp hgi hS hsw rT hmods
        go_wp2_with fail
        refine bodyPost_ret (v := .tuple #[.agg #[.slice An names.length cn, .slice Am names.length cm, .slice Ao names.length co], .string ⟨#[]⟩, .int .i64 0]) (by simp [results, Try.results9, go_sem, z0, z1, z2, hlt2]) rfl ⟨_, _, _, by rw [HRA.out], ?_, ?_, ?_, ?_⟩
        · exact (HB.out.acc.trans HACC.out).new HRT.out (by have := HHS.out; omega)
        · rw [HRA.out]
          have hs8 := HSN.out
          exact Sl.mono (Sl.keep (Sl.wr0 hs8 HACC.out) HRT.out (fun b hb hx => by simp at hx; omega)) (fun _ _ => trivial)
        · rw [HRA.out]
          exact HMODS.out
        · rw [HRA.out]
          have h1 := Sl.ofOwn (P := fun b => b ≠ s + 2) HRO.out (fun b hb => by
            have := (HRO.out.lt b hb).1
            have := HGI.out
            omega)
          have h2 := Sl.mono (Sl.keep h1 HRT.out (fun b hb => by simpa using hb)) (fun _ _ => trivial)
          show Sl _ (fun _ => True) 1 _ ((List.range names.length).map Int.ofNat).length _
          rw [List.length_map, List.length_range]
          exact h2
  · have hd : (en == 0) = false := by simpa using hen
    have hd2 : (en != 0) = true := by simpa using hen
    have hra : a = (noImg, who, en) := by rw [← HA.out]; exact hl
    have HRA := Lib.hid hra
    have bi := hb.bi
    have ACC := Lib.hid hb.acc
    have z0 := bi.cell 0
    have z1 := bi.cell 1
    have z2 := bi.cell 2
    have f0 := bi.frozen 0
    have f1 := bi.frozen 1
    have f2 := bi.frozen 2
    have hlt := bi.lt
    simp only [List.getElem?_toArray, List.getElem?_cons_zero, List.getElem?_cons_succ] at z0 z1 z2
    clear hen hb hl hra
    go_wp2_with fail
    refine bodyPost_ret (v := .tuple #[.agg #[.slice none 0 0, .slice none 0 0, .slice none 0 0], .string who, .int .i64 en]) (by simp [results, Try.results9, go_sem, z0, z1, z2, hlt]) rfl ⟨_, _, _, by rw [HRA.out], ?_, ?_, ?_, ?_⟩
    · refine Wr.setNew ?_ (by have := HS.out; omega) _
      refine Wr.setNew ?_ (by have := HS.out; omega) _
      exact Wr.setNew ACC.out (by have := HS.out; omega) _
    · rw [HRA.out]; exact Sl.nil _ _ 1
    · rw [HRA.out]; exact SlMods.nil _ _
    · rw [HRA.out]; exact Sl.nil _ _ 1
end Go.Proofs.Ytfeeeogkkajefaa
