/- slices.Clone, walked at five kinds of lists. Conditions: what is copied takes no more room than an address can reach. -/
import Derived.Test.YtildcdgobdfieaaGreatOL01
namespace Go.Proofs.YtildcdgobdfieaaGreat
open Go.RowKit
set_option linter.unusedVariables false
set_option linter.unusedSimpArgs false
def CloneP (w : World) (size n : Nat) (xs : List Value) (e : Ending) (w' : World) : Prop := ∃ v', e = .returned v' ∧ Wr [] w w' ∧ Sl w' (fun b => w.heap.size ≤ b) size v' n xs
def CloneO (w : World) (t : TypeId) (size n : Nat) (xs : List Value) (e : Ending) (w' : World) : Prop := ∃ v', e = .returned v' ∧ Wr [] w w' ∧ w'.ownsRow w.heap.size t size v' n xs
theorem CloneO.toP {w w' : World} {t : TypeId} {size n : Nat} {xs : List Value} {e : Ending} (h : CloneO w t size n xs e w') : CloneP w size n xs e w' := by
 obtain ⟨v', he, r, ho⟩ := h
 exact ⟨v', he, r, Sl.ofOwn ho fun b hb => (ho.lt b hb).1⟩
theorem info_str : (Tryz.prog.info? 9).map (fun i => (i.zero, i.size, i.bytes)) = some (some (.string ⟨#[]⟩), 1, 16) := by kernel_rfl
set_option maxHeartbeats 400000 in
theorem cloneO_str (w : World) (P : Nat → Prop) (v : Value) (n : Nat) (xs : List Value) (h : Sl w P 1 v n xs) (h1 : ∀ u ∈ xs, u.oneCell' = true) (hb : n * 16 ≤ 140737488355328) :
  Calls Tryz.prog 134 #[v] w (CloneO w 9 1 n xs) := by
 obtain ⟨i0, hi0, hz0, hz1, hz2⟩ := info_parts info_str
 have hm : 0 + n ≤ maxLen := by obtain ⟨A, c, _, k1, k2⟩ := h.form; omega
 have H := Lib.hid h
 have hl := Lib.hid h.len
 obtain ⟨A, c, rfl, k1, k2⟩ := h.form
 clear h k1 k2
 cases A with
 | none =>
  clear hi0 hz0 hz1 hz2 hb hm h1
  have he := fun (w : World) => Lib.run_eql_slice_nil (P := Tryz.prog) w 124 9 none n c 0 0 Tryz.underlying124
  go_enter Tryz.func134, Tryz.ntmps134
  go_wp2_with fail
  go_ret
  have h0 : xs = [] := by
   obtain ⟨A, c, e, _, _, _, hc⟩ := H.out
   cases xs with
   | nil => rfl
   | cons x l =>
    obtain ⟨b, off, e', _, _⟩ := hc 0 x rfl
    subst e'
    injection e with e
    cases e
  subst h0
  have hn : n = 0 := by have := hl.out; simp at this; omega
  subst hn
  exact ⟨_, rfl, Wr.refl _ _, World.ownsRow_nil w _ _ _⟩
 | some ad =>
  obtain ⟨v1, w1, hrun, hown, hg, hat⟩ := run_append_sl (P := Tryz.prog) (w.alloc (.cells #[] 9)) w.heap.size 124 124 9 i0 _ 1 16 Tryz.underlying124 hi0 hz0 hz1 hz2 rfl (by omega)
   (.slice (some ⟨w.heap.size, 0, none⟩) 0 0) 0 [] (World.ownsRow_made w #[] 0 (Nat.le_refl _) (by simp) rfl) P (.slice (some ad) n c) n xs (H.out.wr0 ((Wr.refl _ _).alloc _)) h1 hm (by omega) (by simp)
  simp only [Nat.zero_add, List.nil_append] at hown
  have HG := Lib.hid hg
  have HO := Lib.hid hown
  clear hi0 hz0 hz1 hz2 hm hb h1 hg hat hown
  have he := fun (w : World) => Lib.run_eql_slice_nil (P := Tryz.prog) w 124 9 (some ad) n c 0 0 Tryz.underlying124
  go_enter Tryz.func134, Tryz.ntmps134
  go_wp2_with (at_builtin; refine wpList_append_run rfl _ _ _ rfl _ _ rfl rfl _ _ hrun ?_)
  go_ret
  refine ⟨_, rfl, ?_, HO.out⟩
  exact ((Wr.refl [] w).alloc _).trans' (Wr.ofGrown HG.out (l := [w.heap.size]) (fun k hk => by simp [Value.ownBlock] at hk; simp [hk])) (fun x hx => .inr (by simp at hx; omega))
theorem clone_str (w : World) (P : Nat → Prop) (v : Value) (n : Nat) (xs : List Value) (h : Sl w P 1 v n xs) (h1 : ∀ u ∈ xs, u.oneCell' = true) (hb : n * 16 ≤ 140737488355328) :
  Calls Tryz.prog 134 #[v] w (CloneP w 1 n xs) := (cloneO_str w P v n xs h h1 hb).mono fun _ _ k => k.toP
theorem info_fld : (Tryz.prog.info? 173).map (fun i => (i.zero, i.size, i.bytes)) = some (some (.agg #[.string ⟨#[]⟩, .int .i64 0, .int .i64 0]), 3, 32) := by kernel_rfl
set_option maxHeartbeats 400000 in
theorem cloneO_fld (w : World) (P : Nat → Prop) (v : Value) (n : Nat) (xs : List Value) (h : Sl w P 3 v n xs) (h1 : ∀ u ∈ xs, u.oneCell' = true) (hb : n * 32 ≤ 140737488355328) :
  Calls Tryz.prog 135 #[v] w (CloneO w 173 3 n xs) := by
 obtain ⟨i0, hi0, hz0, hz1, hz2⟩ := info_parts info_fld
 have hm : 0 + n ≤ maxLen := by obtain ⟨A, c, _, k1, k2⟩ := h.form; omega
 have H := Lib.hid h
 have hl := Lib.hid h.len
 obtain ⟨A, c, rfl, k1, k2⟩ := h.form
 clear h k1 k2
 cases A with
 | none =>
  clear hi0 hz0 hz1 hz2 hb hm h1
  have he := fun (w : World) => Lib.run_eql_slice_nil (P := Tryz.prog) w 125 173 none n c 0 0 Tryz.underlying125
  go_enter Tryz.func135, Tryz.ntmps135
  go_wp2_with fail
  go_ret
  have h0 : xs = [] := by
   obtain ⟨A, c, e, _, _, _, hc⟩ := H.out
   cases xs with
   | nil => rfl
   | cons x l =>
    obtain ⟨b, off, e', _, _⟩ := hc 0 x rfl
    subst e'
    injection e with e
    cases e
  subst h0
  have hn : n = 0 := by have := hl.out; simp at this; omega
  subst hn
  exact ⟨_, rfl, Wr.refl _ _, World.ownsRow_nil w _ _ _⟩
 | some ad =>
  obtain ⟨v1, w1, hrun, hown, hg, hat⟩ := run_append_sl (P := Tryz.prog) (w.alloc (.cells #[] 173)) w.heap.size 125 125 173 i0 _ 3 32 Tryz.underlying125 hi0 hz0 hz1 hz2 rfl (by omega)
   (.slice (some ⟨w.heap.size, 0, none⟩) 0 0) 0 [] (World.ownsRow_made w #[] 0 (Nat.le_refl _) (by simp) rfl) P (.slice (some ad) n c) n xs (H.out.wr0 ((Wr.refl _ _).alloc _)) h1 hm (by omega) (by simp)
  simp only [Nat.zero_add, List.nil_append] at hown
  have HG := Lib.hid hg
  have HO := Lib.hid hown
  clear hi0 hz0 hz1 hz2 hm hb h1 hg hat hown
  have he := fun (w : World) => Lib.run_eql_slice_nil (P := Tryz.prog) w 125 173 (some ad) n c 0 0 Tryz.underlying125
  go_enter Tryz.func135, Tryz.ntmps135
  go_wp2_with (at_builtin; refine wpList_append_run rfl _ _ _ rfl _ _ rfl rfl _ _ hrun ?_)
  go_ret
  refine ⟨_, rfl, ?_, HO.out⟩
  exact ((Wr.refl [] w).alloc _).trans' (Wr.ofGrown HG.out (l := [w.heap.size]) (fun k hk => by simp [Value.ownBlock] at hk; simp [hk])) (fun x hx => .inr (by simp at hx; omega))
theorem info_par : (Tryz.prog.info? 175).map (fun i => (i.zero, i.size, i.bytes)) = some (some (.agg #[.bool false, .int .i64 0]), 2, 16) := by kernel_rfl
set_option maxHeartbeats 400000 in
theorem cloneO_par (w : World) (P : Nat → Prop) (v : Value) (n : Nat) (xs : List Value) (h : Sl w P 2 v n xs) (h1 : ∀ u ∈ xs, u.oneCell' = true) (hb : n * 16 ≤ 140737488355328) :
  Calls Tryz.prog 137 #[v] w (CloneO w 175 2 n xs) := by
 obtain ⟨i0, hi0, hz0, hz1, hz2⟩ := info_parts info_par
 have hm : 0 + n ≤ maxLen := by obtain ⟨A, c, _, k1, k2⟩ := h.form; omega
 have H := Lib.hid h
 have hl := Lib.hid h.len
 obtain ⟨A, c, rfl, k1, k2⟩ := h.form
 clear h k1 k2
 cases A with
 | none =>
  clear hi0 hz0 hz1 hz2 hb hm h1
  have he := fun (w : World) => Lib.run_eql_slice_nil (P := Tryz.prog) w 127 175 none n c 0 0 Tryz.underlying127
  go_enter Tryz.func137, Tryz.ntmps137
  go_wp2_with fail
  go_ret
  have h0 : xs = [] := by
   obtain ⟨A, c, e, _, _, _, hc⟩ := H.out
   cases xs with
   | nil => rfl
   | cons x l =>
    obtain ⟨b, off, e', _, _⟩ := hc 0 x rfl
    subst e'
    injection e with e
    cases e
  subst h0
  have hn : n = 0 := by have := hl.out; simp at this; omega
  subst hn
  exact ⟨_, rfl, Wr.refl _ _, World.ownsRow_nil w _ _ _⟩
 | some ad =>
  obtain ⟨v1, w1, hrun, hown, hg, hat⟩ := run_append_sl (P := Tryz.prog) (w.alloc (.cells #[] 175)) w.heap.size 127 127 175 i0 _ 2 16 Tryz.underlying127 hi0 hz0 hz1 hz2 rfl (by omega)
   (.slice (some ⟨w.heap.size, 0, none⟩) 0 0) 0 [] (World.ownsRow_made w #[] 0 (Nat.le_refl _) (by simp) rfl) P (.slice (some ad) n c) n xs (H.out.wr0 ((Wr.refl _ _).alloc _)) h1 hm (by omega) (by simp)
  simp only [Nat.zero_add, List.nil_append] at hown
  have HG := Lib.hid hg
  have HO := Lib.hid hown
  clear hi0 hz0 hz1 hz2 hm hb h1 hg hat hown
  have he := fun (w : World) => Lib.run_eql_slice_nil (P := Tryz.prog) w 127 175 (some ad) n c 0 0 Tryz.underlying127
  go_enter Tryz.func137, Tryz.ntmps137
  go_wp2_with (at_builtin; refine wpList_append_run rfl _ _ _ rfl _ _ rfl rfl _ _ hrun ?_)
  go_ret
  refine ⟨_, rfl, ?_, HO.out⟩
  exact ((Wr.refl [] w).alloc _).trans' (Wr.ofGrown HG.out (l := [w.heap.size]) (fun k hk => by simp [Value.ownBlock] at hk; simp [hk])) (fun x hx => .inr (by simp at hx; omega))
theorem info_i64 : (Tryz.prog.info? 2).map (fun i => (i.zero, i.size, i.bytes)) = some (some (.int .i64 0), 1, 8) := by kernel_rfl
set_option maxHeartbeats 400000 in
theorem cloneO_i64 (w : World) (P : Nat → Prop) (v : Value) (n : Nat) (xs : List Value) (h : Sl w P 1 v n xs) (h1 : ∀ u ∈ xs, u.oneCell' = true) (hb : n * 8 ≤ 140737488355328) :
  Calls Tryz.prog 138 #[v] w (CloneO w 2 1 n xs) := by
 obtain ⟨i0, hi0, hz0, hz1, hz2⟩ := info_parts info_i64
 have hm : 0 + n ≤ maxLen := by obtain ⟨A, c, _, k1, k2⟩ := h.form; omega
 have H := Lib.hid h
 have hl := Lib.hid h.len
 obtain ⟨A, c, rfl, k1, k2⟩ := h.form
 clear h k1 k2
 cases A with
 | none =>
  clear hi0 hz0 hz1 hz2 hb hm h1
  have he := fun (w : World) => Lib.run_eql_slice_nil (P := Tryz.prog) w 185 2 none n c 0 0 Tryz.underlying185
  go_enter Tryz.func138, Tryz.ntmps138
  go_wp2_with fail
  go_ret
  have h0 : xs = [] := by
   obtain ⟨A, c, e, _, _, _, hc⟩ := H.out
   cases xs with
   | nil => rfl
   | cons x l =>
    obtain ⟨b, off, e', _, _⟩ := hc 0 x rfl
    subst e'
    injection e with e
    cases e
  subst h0
  have hn : n = 0 := by have := hl.out; simp at this; omega
  subst hn
  exact ⟨_, rfl, Wr.refl _ _, World.ownsRow_nil w _ _ _⟩
 | some ad =>
  obtain ⟨v1, w1, hrun, hown, hg, hat⟩ := run_append_sl (P := Tryz.prog) (w.alloc (.cells #[] 2)) w.heap.size 185 185 2 i0 _ 1 8 Tryz.underlying185 hi0 hz0 hz1 hz2 rfl (by omega)
   (.slice (some ⟨w.heap.size, 0, none⟩) 0 0) 0 [] (World.ownsRow_made w #[] 0 (Nat.le_refl _) (by simp) rfl) P (.slice (some ad) n c) n xs (H.out.wr0 ((Wr.refl _ _).alloc _)) h1 hm (by omega) (by simp)
  simp only [Nat.zero_add, List.nil_append] at hown
  have HG := Lib.hid hg
  have HO := Lib.hid hown
  clear hi0 hz0 hz1 hz2 hm hb h1 hg hat hown
  have he := fun (w : World) => Lib.run_eql_slice_nil (P := Tryz.prog) w 185 2 (some ad) n c 0 0 Tryz.underlying185
  go_enter Tryz.func138, Tryz.ntmps138
  go_wp2_with (at_builtin; refine wpList_append_run rfl _ _ _ rfl _ _ rfl rfl _ _ hrun ?_)
  go_ret
  refine ⟨_, rfl, ?_, HO.out⟩
  exact ((Wr.refl [] w).alloc _).trans' (Wr.ofGrown HG.out (l := [w.heap.size]) (fun k hk => by simp [Value.ownBlock] at hk; simp [hk])) (fun x hx => .inr (by simp at hx; omega))
theorem info_arm : (Tryz.prog.info? 187).map (fun i => (i.zero, i.size, i.bytes)) = some (some (.agg #[.slice none 0 0, .slice none 0 0, .bool false]), 3, 56) := by kernel_rfl
set_option maxHeartbeats 400000 in
theorem cloneO_arm (w : World) (P : Nat → Prop) (v : Value) (n : Nat) (xs : List Value) (h : Sl w P 3 v n xs) (h1 : ∀ u ∈ xs, u.oneCell' = true) (hb : n * 56 ≤ 140737488355328) :
  Calls Tryz.prog 136 #[v] w (CloneO w 187 3 n xs) := by
 obtain ⟨i0, hi0, hz0, hz1, hz2⟩ := info_parts info_arm
 have hm : 0 + n ≤ maxLen := by obtain ⟨A, c, _, k1, k2⟩ := h.form; omega
 have H := Lib.hid h
 have hl := Lib.hid h.len
 obtain ⟨A, c, rfl, k1, k2⟩ := h.form
 clear h k1 k2
 cases A with
 | none =>
  clear hi0 hz0 hz1 hz2 hb hm h1
  have he := fun (w : World) => Lib.run_eql_slice_nil (P := Tryz.prog) w 126 187 none n c 0 0 Tryz.underlying126
  go_enter Tryz.func136, Tryz.ntmps136
  go_wp2_with fail
  go_ret
  have h0 : xs = [] := by
   obtain ⟨A, c, e, _, _, _, hc⟩ := H.out
   cases xs with
   | nil => rfl
   | cons x l =>
    obtain ⟨b, off, e', _, _⟩ := hc 0 x rfl
    subst e'
    injection e with e
    cases e
  subst h0
  have hn : n = 0 := by have := hl.out; simp at this; omega
  subst hn
  exact ⟨_, rfl, Wr.refl _ _, World.ownsRow_nil w _ _ _⟩
 | some ad =>
  obtain ⟨v1, w1, hrun, hown, hg, hat⟩ := run_append_sl (P := Tryz.prog) (w.alloc (.cells #[] 187)) w.heap.size 126 126 187 i0 _ 3 56 Tryz.underlying126 hi0 hz0 hz1 hz2 rfl (by omega)
   (.slice (some ⟨w.heap.size, 0, none⟩) 0 0) 0 [] (World.ownsRow_made w #[] 0 (Nat.le_refl _) (by simp) rfl) P (.slice (some ad) n c) n xs (H.out.wr0 ((Wr.refl _ _).alloc _)) h1 hm (by omega) (by simp)
  simp only [Nat.zero_add, List.nil_append] at hown
  have HG := Lib.hid hg
  have HO := Lib.hid hown
  clear hi0 hz0 hz1 hz2 hm hb h1 hg hat hown
  have he := fun (w : World) => Lib.run_eql_slice_nil (P := Tryz.prog) w 126 187 (some ad) n c 0 0 Tryz.underlying126
  go_enter Tryz.func136, Tryz.ntmps136
  go_wp2_with (at_builtin; refine wpList_append_run rfl _ _ _ rfl _ _ rfl rfl _ _ hrun ?_)
  go_ret
  refine ⟨_, rfl, ?_, HO.out⟩
  exact ((Wr.refl [] w).alloc _).trans' (Wr.ofGrown HG.out (l := [w.heap.size]) (fun k hk => by simp [Value.ownBlock] at hk; simp [hk])) (fun x hx => .inr (by simp at hx; omega))
end Go.Proofs.YtildcdgobdfieaaGreat

/- A type, as plain data, and as it lies in memory. No conditions. -/
namespace Go.Proofs.YtildcdgobdfieaaGreat
open Go.RowKit
set_option linter.unusedVariables false
set_option linter.unusedSimpArgs false
structure Fld where
 name : ByteArray
 type : Int
 arm : Int
structure ArmD where
 frm : List Int
 to : List Int
 els : Bool
structure Par where
 var : Bool
 type : Int
structure Ty where
 kind : Int
 module : ByteArray
 name : ByteArray
 base : Int
 index : Int
 low : Int
 high : Int
 names : List ByteArray
 fields : List Fld
 arms : List ArmD
 params : List Par
 result : Int
def Fld.cells (x : Fld) : List Value := [.string x.name, .int .i64 x.type, .int .i64 x.arm]
def Par.cells (x : Par) : List Value := [.bool x.var, .int .i64 x.type]
def SlInts (w : World) (P : Nat → Prop) (v : Value) (l : List Int) : Prop := Sl w P 1 v l.length (l.map (Value.int .i64))
def SlStrs (w : World) (P : Nat → Prop) (v : Value) (l : List ByteArray) : Prop := Sl w P 1 v l.length (l.map Value.string)
def SlFlds (w : World) (P : Nat → Prop) (v : Value) (l : List Fld) : Prop := Sl w P 3 v l.length (l.flatMap Fld.cells)
def SlPars (w : World) (P : Nat → Prop) (v : Value) (l : List Par) : Prop := Sl w P 2 v l.length (l.flatMap Par.cells)
def ArmAt (w : World) (P : Nat → Prop) (xs : List Value) (i : Nat) (x : ArmD) : Prop :=
 ∃ va vb, xs[i * 3]? = some va ∧ xs[i * 3 + 1]? = some vb ∧ xs[i * 3 + 2]? = some (.bool x.els) ∧ SlInts w P va x.frm ∧ SlInts w P vb x.to
def SlArms (w : World) (P : Nat → Prop) (v : Value) (l : List ArmD) : Prop := ∃ xs, Sl w P 3 v l.length xs ∧ (∀ u ∈ xs, u.oneCell' = true) ∧ ∀ i x, l[i]? = some x → ArmAt w P xs i x
structure Lists (w : World) (P : Nat → Prop) (vn vf va vp : Value) (t : Ty) : Prop where
 names : SlStrs w P vn t.names
 fields : SlFlds w P vf t.fields
 arms : SlArms w P va t.arms
 params : SlPars w P vp t.params
def Ty.cells (t : Ty) (vn vf va vp : Value) : List Value :=
 [.int .u8 t.kind, .string t.module, .string t.name, .int .i64 t.base, .int .i64 t.index, .int .i64 t.low, .int .i64 t.high, vn, vf, va, vp, .int .i64 t.result]
def Ty.val (t : Ty) (vn vf va vp : Value) : Value := .agg (t.cells vn vf va vp).toArray
structure Ty.room (t : Ty) : Prop where
 names : t.names.length ≤ 1099511627776
 fields : t.fields.length ≤ 1099511627776
 arms : t.arms.length ≤ 1099511627776
 params : t.params.length ≤ 1099511627776
 ints : ∀ x ∈ t.arms, x.frm.length ≤ 1099511627776 ∧ x.to.length ≤ 1099511627776
theorem one_ints (l : List Int) : ∀ u ∈ l.map (Value.int .i64), u.oneCell' = true := by simp [Value.oneCell']
theorem one_strs (l : List ByteArray) : ∀ u ∈ l.map Value.string, u.oneCell' = true := by simp [Value.oneCell']
theorem one_flds (l : List Fld) : ∀ u ∈ l.flatMap Fld.cells, u.oneCell' = true := by
 intro u hu
 simp only [List.mem_flatMap, Fld.cells] at hu
 obtain ⟨x, _, hx⟩ := hu
 simp at hx
 rcases hx with rfl | rfl | rfl <;> rfl
theorem one_pars (l : List Par) : ∀ u ∈ l.flatMap Par.cells, u.oneCell' = true := by
 intro u hu
 simp only [List.mem_flatMap, Par.cells] at hu
 obtain ⟨x, _, hx⟩ := hu
 simp at hx
 rcases hx with rfl | rfl <;> rfl
section
variable {w w' : World} {P Q : Nat → Prop} {v : Value}
theorem SlArms.keep {l : List Nat} {ams : List ArmD} (h : SlArms w P v ams) (hw : Wr l w w') (hP : ∀ b, P b → b ∉ l) : SlArms w' P v ams := by
 obtain ⟨xs, hs, h1, ha⟩ := h
 refine ⟨xs, hs.keep hw hP, h1, fun i x hi => ?_⟩
 obtain ⟨va, vb, e1, e2, e3, ka, kb⟩ := ha i x hi
 exact ⟨va, vb, e1, e2, e3, Sl.keep ka hw hP, Sl.keep kb hw hP⟩
theorem SlArms.into {ams : List ArmD} (h : SlArms w P v ams) (hP : ∀ b, P b → b < w.heap.size → Q b) : SlArms w Q v ams := by
 obtain ⟨xs, hs, h1, ha⟩ := h
 refine ⟨xs, hs.into hP, h1, fun i x hi => ?_⟩
 obtain ⟨va, vb, e1, e2, e3, ka, kb⟩ := ha i x hi
 exact ⟨va, vb, e1, e2, e3, Sl.into ka hP, Sl.into kb hP⟩
theorem SlArms.nil (w : World) (P : Nat → Prop) : SlArms w P (.slice none 0 0) [] := ⟨[], Sl.nil w P 3, by simp, fun i x h => by simp at h⟩
variable {vn vf va vp : Value} {t : Ty}
theorem Lists.keep {l : List Nat} (h : Lists w P vn vf va vp t) (hw : Wr l w w') (hP : ∀ b, P b → b ∉ l) : Lists w' P vn vf va vp t :=
 ⟨Sl.keep h.names hw hP, Sl.keep h.fields hw hP, SlArms.keep h.arms hw hP, Sl.keep h.params hw hP⟩
theorem Lists.wr0 (h : Lists w P vn vf va vp t) (hw : Wr [] w w') : Lists w' P vn vf va vp t := h.keep hw (fun _ _ => by simp)
theorem Lists.into (h : Lists w P vn vf va vp t) (hP : ∀ b, P b → b < w.heap.size → Q b) : Lists w Q vn vf va vp t :=
 ⟨Sl.into h.names hP, Sl.into h.fields hP, SlArms.into h.arms hP, Sl.into h.params hP⟩
theorem Lists.mono (h : Lists w P vn vf va vp t) (hP : ∀ b, P b → Q b) : Lists w Q vn vf va vp t := h.into fun b hb _ => hP b hb
end
end Go.Proofs.YtildcdgobdfieaaGreat

/- Interfaces as plain data: which may be, as bytes, and back. No conditions. -/
namespace Go.Proofs.YtildcdgobdfieaaGreat
set_option linter.unusedVariables false
set_option linter.unusedSimpArgs false
inductive AnyD where
 | nil
 | whole (n : Int)
 | letter (n : Int)
 | truth (b : Bool)
 | bits (n : Int)
 | str (s : ByteArray)
 | item (t n : Int)
 | null
 | other
structure ItmD where
 name : ByteArray
 kind : Int
 type : Int
 at_ : Int
 v : AnyD
structure FaceD where
 module : ByteArray
 uses : List UseD
 types : List Ty
 items : List ItmD
def shB (s : ByteArray) : Bool := decide (s.size ≤ 255)
def fwB (n : Nat) : Bool := decide (n ≤ 65535)
def smB (n : Int) : Bool := inB n (-2147483648) 2147483647
def tyB (nt : Nat) (n : Int) : Bool := inB n 0 (9 + (nt : Int))
def armFit (a : ArmD) : Bool := fwB a.frm.length && fwB a.to.length
def tyFit (t : Ty) : Bool :=
 shB t.module && shB t.name && fwB t.names.length && fwB t.fields.length && fwB t.arms.length && fwB t.params.length && t.names.all shB && t.fields.all (fun f => shB f.name) && t.arms.all armFit
def anyFit : AnyD → Bool
 | .str s => fwB s.size
 | _ => true
def itmFit (x : ItmD) : Bool := shB x.name && anyFit x.v
def faceFit (f : FaceD) : Bool :=
 decide (f.uses.length ≤ 64) && decide (f.items.length ≤ 512) && decide (f.types.length ≤ 1024) && shB f.module && f.uses.all (fun u => shB u.module) && f.types.all tyFit && f.items.all itmFit
def onceB : List ByteArray → List ByteArray → Bool
 | _, [] => true
 | seen, s :: l => !(inL s seen) && onceB (seen ++ [s]) l
def armForm (a : ArmD) : Bool := decide (a.frm.length = a.to.length) && a.frm.all smB && a.to.all smB
def tyForm (nt : Nat) (t : Ty) : Bool :=
 tyB nt t.base && tyB nt t.index && tyB nt t.result && smB t.low && smB t.high && t.fields.all (fun f => tyB nt f.type && smB f.arm) && t.arms.all armForm && t.params.all (fun p => tyB nt p.type)
def anyForm (nt : Nat) : AnyD → Bool
 | .whole n => smB n
 | .item t n => tyB nt t && smB n
 | .other => false
 | _ => true
def itmForm (nt : Nat) (x : ItmD) : Bool := tyB nt x.type && smB x.at_ && anyForm nt x.v
def faceForm (f : FaceD) : Bool := f.types.all (tyForm f.types.length) && f.items.all (itmForm f.types.length)
def mayP (f : FaceD) : Int :=
 if faceFit f then if onceB [] (f.uses.map UseD.module) && onceB [] (f.items.map ItmD.name) then if faceForm f then 0 else 7 else 6 else 5
def fourL (n : Int) : List UInt8 := numL (n % 4294967296).toNat 4
def fldL (f : Fld) : List UInt8 := textL f.name ++ fourL f.type ++ fourL f.arm
def pairL (p : Int × Int) : List UInt8 := fourL p.1 ++ fourL p.2
def armL (a : ArmD) : List UInt8 := numL a.frm.length 2 ++ (a.frm.zip a.to).flatMap pairL ++ truL a.els
def parL (p : Par) : List UInt8 := truL p.var ++ fourL p.type
def tyL (t : Ty) : List UInt8 :=
 numL t.kind.toNat 1 ++ textL t.module ++ textL t.name ++ fourL t.base ++ fourL t.index ++ fourL t.low ++ fourL t.high ++ numL t.names.length 2 ++ t.names.flatMap textL ++ numL t.fields.length 2 ++ t.fields.flatMap fldL ++
  numL t.arms.length 2 ++ t.arms.flatMap armL ++ numL t.params.length 2 ++ t.params.flatMap parL ++ fourL t.result
def anyL : AnyD → List UInt8
 | .nil => numL 0 1
 | .whole n => numL 1 1 ++ fourL n
 | .letter n => numL 2 1 ++ numL n.toNat 1
 | .truth b => numL 3 1 ++ truL b
 | .bits n => numL 4 1 ++ numL n.toNat 2
 | .str s => numL 5 1 ++ (numL s.size 2 ++ s.data.toList)
 | .item t n => numL 6 1 ++ (fourL t ++ fourL n)
 | .null => numL 7 1
 | .other => numL 0 1
def itmL (x : ItmD) : List UInt8 := textL x.name ++ numL x.kind.toNat 1 ++ fourL x.type ++ fourL x.at_ ++ anyL x.v
def faceL (f : FaceD) : List UInt8 :=
 textL f.module ++ numL f.uses.length 2 ++ f.uses.flatMap useL ++ numL f.types.length 2 ++ f.types.flatMap tyL ++ numL f.items.length 2 ++ f.items.flatMap itmL
def encFaceP (f : FaceD) : List UInt8 × Int := if mayP f = 0 then (faceL f, 0) else ([], mayP f)
def signN (n : Nat) : Int := if n < 2147483648 then (n : Int) else (n : Int) - 4294967296
def Rd.four (r : Rd) : Int × Rd := (signN (r.num 4).1, (r.num 4).2)
def Rd.fld (r : Rd) : Fld × Rd :=
 let a := r.text
 let b := a.2.four
 let c := b.2.four
 (⟨a.1, b.1, c.1⟩, c.2)
def Rd.pair (r : Rd) : (Int × Int) × Rd :=
 let a := r.four
 let b := a.2.four
 ((a.1, b.1), b.2)
def Rd.arm (r : Rd) : ArmD × Rd :=
 let a := r.num 2
 let b := a.2.list Rd.pair a.1
 let c := b.2.truth
 (⟨b.1.map Prod.fst, b.1.map Prod.snd, c.1⟩, c.2)
def Rd.par (r : Rd) : Par × Rd :=
 let a := r.truth
 let b := a.2.four
 (⟨a.1, b.1⟩, b.2)
def Rd.lst {α : Type} (one : Rd → α × Rd) (r : Rd) : List α × Rd := (r.num 2).2.list one (r.num 2).1
def Rd.ty (r : Rd) : Ty × Rd :=
 let k := r.one
 let a := k.2.text
 let b := a.2.text
 let c := b.2.four
 let d := c.2.four
 let e := d.2.four
 let f := e.2.four
 let g := f.2.lst Rd.text
 let h := g.2.lst Rd.fld
 let i := h.2.lst Rd.arm
 let j := i.2.lst Rd.par
 let l := j.2.four
 (⟨k.1, a.1, b.1, c.1, d.1, e.1, f.1, g.1, h.1, i.1, j.1, l.1⟩, l.2)
def Rd.any (r : Rd) : AnyD × Rd :=
 let k := r.num 1
 match k.1 with
 | 0 => (.nil, k.2)
 | 1 => (.whole k.2.four.1, k.2.four.2)
 | 2 => (.letter k.2.one.1, k.2.one.2)
 | 3 => (.truth k.2.truth.1, k.2.truth.2)
 | 4 => (.bits k.2.two.1, k.2.two.2)
 | 5 => (.str ⟨((k.2.num 2).2.raw (k.2.num 2).1).1.toArray⟩, ((k.2.num 2).2.raw (k.2.num 2).1).2)
 | 6 => (.item k.2.four.1 k.2.four.2.four.1, k.2.four.2.four.2)
 | 7 => (.null, k.2)
 | _ => (.nil, ⟨k.2.s, true⟩)
def Rd.itm (r : Rd) : ItmD × Rd :=
 let a := r.text
 let b := a.2.one
 let c := b.2.four
 let d := c.2.four
 let e := d.2.any
 (⟨a.1, b.1, c.1, d.1, e.1⟩, e.2)
def Rd.face (r : Rd) : FaceD × Rd :=
 let a := r.text
 let b := a.2.lst Rd.use
 let c := b.2.lst Rd.ty
 let d := c.2.lst Rd.itm
 (⟨a.1, b.1, c.1, d.1⟩, d.2)
def noFace : FaceD := ⟨⟨#[]⟩, [], [], []⟩
def decFaceP (l : List UInt8) : FaceD × Int :=
 if (Rd.face ⟨l, false⟩).2.bad || !((Rd.face ⟨l, false⟩).2.s).isEmpty || !decide (mayP (Rd.face ⟨l, false⟩).1 = 0) then (noFace, 7) else ((Rd.face ⟨l, false⟩).1, 0)
theorem smB_iff {n : Int} : smB n = true ↔ -2147483648 ≤ n ∧ n ≤ 2147483647 := inB_iff
theorem four_app (n : Int) (h : smB n = true) (rest : List UInt8) : (Rd.mk (fourL n ++ rest) false).four = (n, ⟨rest, false⟩) := by
 obtain ⟨h1, h2⟩ := smB_iff.1 h
 unfold Rd.four fourL
 rw [num_app _ 4 (by omega)]
 simp only [signN]
 congr 1
 split <;> omega
theorem lst_app {α : Type} {one : Rd → α × Rd} {enc : α → List UInt8} (l : List α) (hl : l.length ≤ 65535) (rest : List UInt8) (h : ∀ x ∈ l, ∀ r, one ⟨enc x ++ r, false⟩ = (x, ⟨r, false⟩)) :
  Rd.lst one ⟨numL l.length 2 ++ (l.flatMap enc ++ rest), false⟩ = (l, ⟨rest, false⟩) := by
 unfold Rd.lst
 rw [num_app l.length 2 (by omega)]
 exact list_app l rest h
theorem tyB_sm {nt : Nat} (hn : nt ≤ 1024) {n : Int} (h : tyB nt n = true) : smB n = true := by
 obtain ⟨h1, h2⟩ := inB_iff.1 h
 exact smB_iff.2 ⟨by omega, by omega⟩
theorem fld_app (f : Fld) (h1 : f.name.size ≤ 255) (h2 : smB f.type = true) (h3 : smB f.arm = true) (rest : List UInt8) : (Rd.mk (fldL f ++ rest) false).fld = (f, ⟨rest, false⟩) := by
 unfold Rd.fld fldL
 simp only [List.append_assoc]
 rw [text_app f.name h1]
 simp only
 rw [four_app f.type h2]
 simp only
 rw [four_app f.arm h3]
theorem pair_app (p : Int × Int) (h2 : smB p.1 = true) (h3 : smB p.2 = true) (rest : List UInt8) : (Rd.mk (pairL p ++ rest) false).pair = (p, ⟨rest, false⟩) := by
 unfold Rd.pair pairL
 simp only [List.append_assoc]
 rw [four_app p.1 h2]
 simp only
 rw [four_app p.2 h3]
theorem arm_app (a : ArmD) (hf : armFit a = true) (h : armForm a = true) (rest : List UInt8) : (Rd.mk (armL a ++ rest) false).arm = (a, ⟨rest, false⟩) := by
 unfold armForm at h
 unfold armFit fwB at hf
 simp only [Bool.and_eq_true, decide_eq_true_eq, List.all_eq_true] at h hf
 obtain ⟨⟨h1, h2⟩, h3⟩ := h
 unfold Rd.arm armL
 simp only [List.append_assoc]
 rw [num_app a.frm.length 2 (by omega)]
 simp only
 have hz : (a.frm.zip a.to).length = a.frm.length := by rw [List.length_zip]; omega
 have := list_app (one := Rd.pair) (enc := pairL) (a.frm.zip a.to) (truL a.els ++ rest) (fun p hp r => pair_app p (h2 _ (List.of_mem_zip hp).1) (h3 _ (List.of_mem_zip hp).2) r)
 rw [hz] at this
 rw [this]
 simp only
 rw [truth_app]
 simp only
 rw [List.map_fst_zip (by omega), List.map_snd_zip (by omega)]
theorem par_app (p : Par) (h : smB p.type = true) (rest : List UInt8) : (Rd.mk (parL p ++ rest) false).par = (p, ⟨rest, false⟩) := by
 unfold Rd.par parL
 simp only [List.append_assoc]
 rw [truth_app]
 simp only
 rw [four_app p.type h]
theorem ty_app (t : Ty) (nt : Nat) (hn : nt ≤ 1024) (hk : 0 ≤ t.kind ∧ t.kind ≤ 255) (hf : tyFit t = true) (h : tyForm nt t = true) (rest : List UInt8) : (Rd.mk (tyL t ++ rest) false).ty = (t, ⟨rest, false⟩) := by
 unfold tyForm at h
 unfold tyFit fwB shB at hf
 simp only [Bool.and_eq_true, decide_eq_true_eq, List.all_eq_true] at h hf
 obtain ⟨⟨⟨⟨⟨⟨⟨a1, a2⟩, a3⟩, a4⟩, a5⟩, a6⟩, a7⟩, a8⟩ := h
 obtain ⟨⟨⟨⟨⟨⟨⟨⟨b1, b2⟩, b3⟩, b4⟩, b5⟩, b6⟩, b7⟩, b8⟩, b9⟩ := hf
 unfold Rd.ty tyL
 simp only [List.append_assoc]
 rw [one_app t.kind hk.1 hk.2]
 simp only
 rw [text_app t.module b1]
 simp only
 rw [text_app t.name b2]
 simp only
 rw [four_app t.base (tyB_sm hn a1)]
 simp only
 rw [four_app t.index (tyB_sm hn a2)]
 simp only
 rw [four_app t.low a4]
 simp only
 rw [four_app t.high a5]
 simp only
 rw [lst_app t.names b3 _ (fun s hs r => text_app s (b7 s hs) r)]
 simp only
 rw [lst_app t.fields b4 _ (fun f hf r => fld_app f (b8 f hf) (tyB_sm hn (a6 f hf).1) (a6 f hf).2 r)]
 simp only
 rw [lst_app t.arms b5 _ (fun a ha r => arm_app a (b9 a ha) (a7 a ha) r)]
 simp only
 rw [lst_app t.params b6 _ (fun p hp r => par_app p (tyB_sm hn (a8 p hp)) r)]
 simp only
 rw [four_app t.result (tyB_sm hn a3)]
def anyW : AnyD → Prop
 | .letter n => 0 ≤ n ∧ n ≤ 255
 | .bits n => 0 ≤ n ∧ n ≤ 65535
 | _ => True
structure faceW (f : FaceD) : Prop where
 keys : ∀ u ∈ f.uses, 0 ≤ u.key ∧ u.key < 18446744073709551616
 kinds : ∀ t ∈ f.types, 0 ≤ t.kind ∧ t.kind ≤ 255
 sorts : ∀ x ∈ f.items, 0 ≤ x.kind ∧ x.kind ≤ 255
 vals : ∀ x ∈ f.items, anyW x.v
theorem any_app (v : AnyD) (nt : Nat) (hn : nt ≤ 1024) (hw : anyW v) (hf : anyFit v = true) (h : anyForm nt v = true) (rest : List UInt8) : (Rd.mk (anyL v ++ rest) false).any = (v, ⟨rest, false⟩) := by
 have n1 := fun k (hk : k < 256) rest => num_app k 1 (by simpa using hk) rest
 cases v with
 | nil =>
  unfold Rd.any anyL
  rw [n1 0 (by decide)]
  simp only
 | whole n =>
  unfold Rd.any anyL
  rw [List.append_assoc, n1 1 (by decide)]
  simp only
  rw [four_app n h]
 | letter n =>
  unfold Rd.any anyL
  rw [List.append_assoc, n1 2 (by decide)]
  simp only
  rw [one_app n hw.1 hw.2]
 | truth b =>
  unfold Rd.any anyL
  rw [List.append_assoc, n1 3 (by decide)]
  simp only
  rw [truth_app]
 | bits n =>
  unfold Rd.any anyL
  rw [List.append_assoc, n1 4 (by decide)]
  simp only
  rw [two_app n hw.1 hw.2]
 | str s =>
  unfold Rd.any anyL
  rw [List.append_assoc, n1 5 (by decide)]
  simp only
  have hs : s.size ≤ 65535 := of_decide_eq_true hf
  rw [List.append_assoc, num_app s.size 2 (by omega)]
  simp only
  have hl : s.data.toList.length = s.size := rfl
  have := raw_app s.data.toList rest
  rw [hl] at this
  rw [this]
 | item t n =>
  unfold anyForm at h
  simp only [Bool.and_eq_true] at h
  unfold Rd.any anyL
  rw [List.append_assoc, n1 6 (by decide)]
  simp only
  rw [List.append_assoc, four_app t (tyB_sm hn h.1)]
  simp only
  rw [four_app n h.2]
 | null =>
  unfold Rd.any anyL
  rw [n1 7 (by decide)]
  simp only
 | other => cases h
theorem itm_app (x : ItmD) (nt : Nat) (hn : nt ≤ 1024) (hk : 0 ≤ x.kind ∧ x.kind ≤ 255) (hw : anyW x.v) (hf : itmFit x = true) (h : itmForm nt x = true) (rest : List UInt8) : (Rd.mk (itmL x ++ rest) false).itm = (x, ⟨rest, false⟩) := by
 unfold itmForm at h
 unfold itmFit shB at hf
 simp only [Bool.and_eq_true, decide_eq_true_eq] at h hf
 unfold Rd.itm itmL
 simp only [List.append_assoc]
 rw [text_app x.name hf.1]
 simp only
 rw [one_app x.kind hk.1 hk.2]
 simp only
 rw [four_app x.type (tyB_sm hn h.1.1)]
 simp only
 rw [four_app x.at_ h.1.2]
 simp only
 rw [any_app x.v nt hn hw hf.2 h.2]
theorem face_parts {f : FaceD} (h : mayP f = 0) : faceFit f = true ∧ onceB [] (f.uses.map UseD.module) = true ∧ onceB [] (f.items.map ItmD.name) = true ∧ faceForm f = true := by
 unfold mayP at h
 by_cases h1 : faceFit f = true
 ·rw [if_pos h1] at h
  by_cases h2 : (onceB [] (f.uses.map UseD.module) && onceB [] (f.items.map ItmD.name)) = true
  ·rw [if_pos h2] at h
   by_cases h3 : faceForm f = true
   ·rw [Bool.and_eq_true] at h2
    exact ⟨h1, h2.1, h2.2, h3⟩
   ·rw [if_neg h3] at h; exact absurd h (by decide)
  ·rw [if_neg h2] at h; exact absurd h (by decide)
 ·rw [if_neg h1] at h; exact absurd h (by decide)
theorem face_app (f : FaceD) (hw : faceW f) (hm : mayP f = 0) (rest : List UInt8) : (Rd.mk (faceL f ++ rest) false).face = (f, ⟨rest, false⟩) := by
 obtain ⟨h1, _, _, h2⟩ := face_parts hm
 unfold faceFit shB at h1
 unfold faceForm at h2
 simp only [Bool.and_eq_true, decide_eq_true_eq, List.all_eq_true] at h1 h2
 obtain ⟨⟨⟨⟨⟨⟨a1, a2⟩, a3⟩, a4⟩, a5⟩, a6⟩, a7⟩ := h1
 unfold Rd.face faceL
 simp only [List.append_assoc]
 rw [text_app f.module a4]
 simp only
 rw [lst_app f.uses (by omega) _ (fun u hu r => use_app u (a5 u hu) (hw.keys u hu) r)]
 simp only
 rw [lst_app f.types (by omega) _ (fun t ht r => ty_app t _ a3 (hw.kinds t ht) (a6 t ht) (h2.1 t ht) r)]
 simp only
 rw [lst_app f.items (by omega) _ (fun x hx r => itm_app x _ a3 (hw.sorts x hx) (hw.vals x hx) (a7 x hx) (h2.2 x hx) r)]
theorem dec_enc (f : FaceD) (hw : faceW f) (hm : mayP f = 0) : decFaceP (faceL f) = (f, 0) := by
 have := face_app f hw hm []
 rw [List.append_nil] at this
 unfold decFaceP
 rw [this]
 simp [hm]
end Go.Proofs.YtildcdgobdfieaaGreat

/- Interface bytes that are read are written as they were. No conditions. -/
namespace Go.Proofs.YtildcdgobdfieaaGreat
set_option linter.unusedVariables false
structure Back {α : Type} (f : Rd → α × Rd) (enc : α → List UInt8) : Prop where
 keeps : ∀ r : Rd, r.bad = true → (f r).2.bad = true
 back : ∀ (s : List UInt8) (x : α) (r : List UInt8), f ⟨s, false⟩ = (x, ⟨r, false⟩) → s = enc x ++ r
theorem Back.map {α β : Type} {f : Rd → α × Rd} {e : α → List UInt8} (hf : Back f e) (g : α → β) {k : β → List UInt8} (hk : ∀ x, k (g x) = e x) : Back (fun r => (g (f r).1, (f r).2)) k := by
 refine ⟨fun r h => hf.keeps r h, fun s x r h => ?_⟩
 injection h with h1 h2
 rw [← h1, hk]
 exact hf.back s _ r (by rw [← h2])
theorem numL_valN : ∀ (k : Nat) (l : List UInt8), l.length = k → numL (valN l) k = l ∧ valN l < 256 ^ k := by
 intro k
 induction k with
 | zero =>
  intro l hl
  rw [List.eq_nil_of_length_eq_zero hl]
  exact ⟨rfl, by decide⟩
 | succ k ih =>
  intro l hl
  have hne : l ≠ [] := by intro e; rw [e] at hl; cases hl
  have dl : l = l.dropLast ++ [l.getLast hne] := (List.dropLast_concat_getLast hne).symm
  generalize l.getLast hne = x at dl
  obtain ⟨h1, h2⟩ := ih l.dropLast (by simp [hl])
  have hx := x.toNat_lt
  generalize l.dropLast = m at dl h1 h2
  subst dl
  rw [valN_snoc, numL_snoc, show (256 * valN m + x.toNat) / 256 = valN m by omega, show (256 * valN m + x.toNat) % 256 = x.toNat by omega, h1]
  refine ⟨by rw [UInt8.ofNat_toNat], by rw [Nat.pow_succ]; omega⟩
def Rd.str (k : Nat) (r : Rd) : ByteArray × Rd := (⟨(((r.num k).2.raw (r.num k).1).1).toArray⟩, ((r.num k).2.raw (r.num k).1).2)
end Go.Proofs.YtildcdgobdfieaaGreat
