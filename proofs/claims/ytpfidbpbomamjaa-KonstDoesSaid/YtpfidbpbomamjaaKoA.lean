/- KonstDoes, walked. No conditions. -/
import Derived.Test.YtpfidbpbomamjaaKoZ
import Derived.Test.YtpfidbpbomamjaaGridI
import Derived.Deep.RegionHeld3
import Derived.BigQuiet
import Derived.Deep.Cut
import Derived.Deep.DeepCutAuto
import Derived.Deep.DrawnRows
import Derived.Deep.RegionWith
import Derived.Deep.QuietTactic
namespace Go.Proofs.Ytpfidbpbomamjaa
open Go.RowKit
set_option linter.unusedVariables false
set_option linter.unusedSimpArgs false

/-- What a call may have done, so that 'assumption' does not find it. -/
structure Acc (w w' : World) : Prop where
  h : Wr [] w w'

def allCells : Array Value := #[.string ⟨#[43]⟩, .string ⟨#[45]⟩, .string ⟨#[42]⟩, .string ⟨#[47]⟩, .string ⟨#[68, 73, 86]⟩, .string ⟨#[77, 79, 68]⟩, .string ⟨#[65, 78, 68]⟩, .string ⟨#[79, 82]⟩, .string ⟨#[61]⟩, .string ⟨#[35]⟩, .string ⟨#[60]⟩, .string ⟨#[60, 61]⟩, .string ⟨#[62]⟩, .string ⟨#[62, 61]⟩, .string ⟨#[73, 78]⟩, .string ⟨#[78, 79, 84]⟩, .string ⟨#[]⟩, .string ⟨#[100, 105, 118]⟩]
theorem allCells_at : ∀ k, k < 18 → allCells[k]? = some (.string (opS k))
  | 0, _ => rfl
  | 1, _ => rfl
  | 2, _ => rfl
  | 3, _ => rfl
  | 4, _ => rfl
  | 5, _ => rfl
  | 6, _ => rfl
  | 7, _ => rfl
  | 8, _ => rfl
  | 9, _ => rfl
  | 10, _ => rfl
  | 11, _ => rfl
  | 12, _ => rfl
  | 13, _ => rfl
  | 14, _ => rfl
  | 15, _ => rfl
  | 16, _ => rfl
  | 17, _ => rfl
  | n + 18, h => absurd h (by omega)
set_option maxHeartbeats 1000000 in
theorem ops_any (w : World) : Calls Try.prog 16 #[] w fun e w' => ∃ g, e = .returned (.slice (some ⟨g, 0, none⟩) 18 18) ∧ Wr [] w w' ∧ ∀ k, k < 18 → w'.cell? ⟨g, k, none⟩ = some (.string (opS k)) := by
  have hw0 : ∀ k, k < 18 → (w.alloc (.cells allCells 9)).cell? ⟨w.heap.size, k, none⟩ = some (.string (opS k)) := fun k hk => ((Blk.new w 9 allCells).cell k).trans (allCells_at k hk)
  have acc : Wr [] w (w.alloc (.cells allCells 9)) := (Wr.refl [] w).alloc _
  go_enter Try.func16, Try.ntmps16
  go_wp2_with fail
  go_ret
  exact ⟨_, rfl, acc, hw0⟩

def zeroR' : Array Value := #[.int .i64 0, .int .i64 0, .string ⟨#[]⟩, .int .i64 0]
set_option maxRecDepth 100000 in
set_option maxHeartbeats 2000000 in
theorem kd_heavy (s1 n1 t1 s2 n2 t2 : Int) (b1 b2 : ByteArray) (o : Int) (h1 : b1.size ≤ 9223372036854775807) (h2 : b2.size ≤ 9223372036854775807) (hv : decide (wrap64 ((b1.size : Int) + b2.size) > 4096) = true) (w : World) :
    Calls Try.prog 7 #[rawV s1 n1 t1 b1, rawV s2 n2 t2 b2, .int .u8 o] w fun e w' => e = .returned (.bool true) ∧ Wr [] w w' := by
  have hh := fun w => heavy_any s1 n1 t1 s2 n2 t2 b1 b2 h1 h2 w
  rw [hv] at hh
  clear hv h1 h2
  have hw := fun w => works_any w
  unfold rawV at hh ⊢
  go_enter Try.func7, Try.ntmps7
  go_wp2_with fail
  refine (hh _).mono ?_
  rintro e w1 ⟨rfl, k1⟩
  go_wp2_with fail
  refine (hw _).mono ?_
  rintro e w2 ⟨rfl, k2⟩
  go_wp2_with fail
  go_ret
  exact ⟨rfl, ((((Wr.refl [] w).alloc _).alloc _).trans k1).trans k2⟩

/-- Behind the two Looks. -/
def KdCut (w : World) (g : Nat) (ca cb cp cq : Array Value) (s9 s10 : Value) (wx : World) : Prop := ∃ b9 b10 : Nat, s9 = .pointer (some ⟨b9, 0, none⟩) ∧ s10 = .pointer (some ⟨b10, 0, none⟩) ∧ Wr [] w wx ∧
  Blk wx g 23 ca ∧ Blk wx (g + 1) 23 cb ∧ Blk wx b9 31 cp ∧ Blk wx b10 31 cq

def kdVal (a b c d e f : Value) : Nat → Value
  | 0 => a
  | 1 => b
  | 2 => c
  | 3 => d
  | 4 => e
  | _ => f
def kdAl (cp cq : Array Value) : List Made_ := [⟨6, 8, 31, zeroR, cp⟩, ⟨7, 9, 31, zeroR, cq⟩]
theorem kdNa (cp cq : Array Value) (i : Nat) (h : i ≤ 5) : ∀ a ∈ kdAl cp cq, a.i ≠ i ∧ a.s ≠ i := by
  intro a ha
  simp [kdAl] at ha
  rcases ha with rfl | rfl <;> simp <;> omega
theorem kdApart (cp cq : Array Value) : Apart_ (kdAl cp cq) (fun j => j ≤ 5) := by
  refine ⟨?_, ?_, ?_, ?_, ?_⟩
  · intro a ha a' ha'
    simp [kdAl] at ha ha'
    rcases ha with rfl | rfl <;> rcases ha' with rfl | rfl <;> simp
  · intro a ha a' ha'
    simp [kdAl] at ha ha'
    rcases ha with rfl | rfl <;> rcases ha' with rfl | rfl <;> simp
  · intro a ha a' ha'
    simp [kdAl] at ha ha'
    rcases ha with rfl | rfl <;> rcases ha' with rfl | rfl <;> simp
  · intro a ha
    simp [kdAl] at ha
    rcases ha with rfl | rfl <;> simp
  · intro a ha
    simp [kdAl] at ha
    rcases ha with rfl | rfl <;> simp

set_option maxRecDepth 100000 in
set_option maxHeartbeats 8000000 in
theorem kd_main {V1 V2 V U : Value} {s1 n1 t1 s2 n2 t2 : Int} {b1 b2 : ByteArray} {o : Int} {k : Nat} {ev fv : Int} {p0 p1 p3 q0 q1 q3 : Int} {p2 q2 : ByteArray} {r0 r1 r3 u0 u1 u3 : Int} {r2 u2 : ByteArray}
    (ob1 : b1.size ≤ 9223372036854775807) (ob2 : b2.size ≤ 9223372036854775807) (hv : decide (wrap64 ((b1.size : Int) + b2.size) > 4096) = false) (hk : k < 18) (ho : 0 ≤ o ∧ o ≤ 255) (hmod : o.tmod 18 = (k : Int))
    (hA1 : ∀ w, Calls Try.prog 10 #[.agg #[.int .u8 s1, .int .i64 n1, .string b1, .int .i64 t1]] w fun e w' => e = .returned V1 ∧ Wr [] w w')
    (hA2 : ∀ w, Calls Try.prog 10 #[.agg #[.int .u8 s2, .int .i64 n2, .string b2, .int .i64 t2]] w fun e w' => e = .returned V2 ∧ Wr [] w w')
    (hL1 : ∀ w, Calls Try.prog 17 #[V1] w fun e w' => e = .returned (.agg #[.int .i64 p0, .int .i64 p1, .string p2, .int .i64 p3]) ∧ Wr [] w w')
    (hL2 : ∀ w, Calls Try.prog 17 #[V2] w fun e w' => e = .returned (.agg #[.int .i64 q0, .int .i64 q1, .string q2, .int .i64 q3]) ∧ Wr [] w w')
    (hD : ∀ w, Calls Try.prog 11 #[.string (opS k), V1, V2] w fun e w' => e = .returned (.tuple #[V, .int .i64 ev]) ∧ Wr [] w w')
    (hR : ∀ w, Calls Try.prog 18 #[.string (opS k), .agg #[.int .i64 p0, .int .i64 p1, .string p2, .int .i64 p3], .agg #[.int .i64 q0, .int .i64 q1, .string q2, .int .i64 q3]] w fun e w' => e = .returned (.tuple #[.agg #[.int .i64 r0, .int .i64 r1, .string r2, .int .i64 r3], .int .i64 ev]) ∧ Wr [] w w')
    (hO : ∀ w, Calls Try.prog 19 #[.string (opS k), V1] w fun e w' => e = .returned (.tuple #[U, .int .i64 fv]) ∧ Wr [] w w')
    (hP : ∀ w, Calls Try.prog 20 #[.string (opS k), .agg #[.int .i64 p0, .int .i64 p1, .string p2, .int .i64 p3]] w fun e w' => e = .returned (.tuple #[.agg #[.int .i64 u0, .int .i64 u1, .string u2, .int .i64 u3], .int .i64 fv]) ∧ Wr [] w w')
    (hS1 : ∀ w, Calls Try.prog 12 #[V, .agg #[.int .i64 r0, .int .i64 r1, .string r2, .int .i64 r3]] w fun e w' => e = .returned (.bool true) ∧ Wr [] w w')
    (hS2 : ∀ w, Calls Try.prog 12 #[U, .agg #[.int .i64 u0, .int .i64 u1, .string u2, .int .i64 u3]] w fun e w' => e = .returned (.bool true) ∧ Wr [] w w')
    (w : World) :
    Calls Try.prog 7 #[.agg #[.int .u8 s1, .int .i64 n1, .string b1, .int .i64 t1], .agg #[.int .u8 s2, .int .i64 n2, .string b2, .int .i64 t2], .int .u8 o] w fun e w' => e = .returned (.bool true) ∧ Wr [] w w' := by
  have hh := fun w => heavy_any s1 n1 t1 s2 n2 t2 b1 b2 ob1 ob2 w
  rw [hv] at hh
  unfold rawV at hh
  clear hv ob1 ob2
  have hw := fun w => works_any w
  obtain ⟨w0, hw0⟩ : ∃ w0, (w.alloc (.cells #[.int .u8 s1, .int .i64 n1, .string b1, .int .i64 t1] 23)).alloc (.cells #[.int .u8 s2, .int .i64 n2, .string b2, .int .i64 t2] 23) = w0 := ⟨_, rfl⟩
  obtain ⟨g, hg⟩ : ∃ g, w.heap.size = g := ⟨_, rfl⟩
  have acc : Wr [] w w0 := by rw [← hw0]; exact ((Wr.refl _ _).alloc _).alloc _
  have bA : Blk w0 g 23 #[.int .u8 s1, .int .i64 n1, .string b1, .int .i64 t1] := by rw [← hw0, ← hg]; exact (Blk.new _ _ _).alloc _
  have bB : Blk w0 (g + 1) 23 #[.int .u8 s2, .int .i64 n2, .string b2, .int .i64 t2] := by
    have hb := Blk.new (w.alloc (.cells #[.int .u8 s1, .int .i64 n1, .string b1, .int .i64 t1] 23)) 23 #[.int .u8 s2, .int .i64 n2, .string b2, .int .i64 t2]
    rw [show (w.alloc (.cells #[.int .u8 s1, .int .i64 n1, .string b1, .int .i64 t1] 23)).heap.size = g + 1 by simp [hg], hw0] at hb
    exact hb
  have a0 := bA.cell 0
  have a1 := bA.cell 1
  have a2 := bA.cell 2
  have a3 := bA.cell 3
  have e0 := bB.cell 0
  have e1 := bB.cell 1
  have e2 := bB.cell 2
  have e3 := bB.cell 3
  simp at a0 a1 a2 a3 e0 e1 e2 e3
  have Hw0 := Lib.hid hw0
  have Hg := Lib.hid hg
  clear hw0 hg
  go_enter Try.func7, Try.ntmps7
  go_wp2_with fail
  rw [Hw0.out, Hg.out]
  go_wp2_with fail
  refine (hh _).mono ?_
  rintro e wh ⟨rfl, kh⟩
  replace acc := acc.trans kh
  replace bA := bA.wr0 kh
  replace bB := bB.wr0 kh
  clear kh a0 a1 a2 a3 e0 e1 e2 e3 hh
  go_wp2_with fail
  refine (ops_any _).mono ?_
  rintro e wo ⟨go, rfl, ko, hcs⟩
  replace acc := acc.trans ko
  replace bA := bA.wr0 ko
  replace bB := bB.wr0 ko
  have hc := hcs k hk
  clear ko hcs
  generalize opS k = s at *
  go_upto_region 5 with (fail)
  go_cut [9, 10] (fun s9 s10 wx => KdCut w g #[.int .u8 s1, .int .i64 n1, .string b1, .int .i64 t1] #[.int .u8 s2, .int .i64 n2, .string b2, .int .i64 t2] #[.int .i64 p0, .int .i64 p1, .string p2, .int .i64 p3] #[.int .i64 q0, .int .i64 q1, .string q2, .int .i64 q3] s9 s10 wx)
  case first =>
    rename_i J K' hJ hK'
    refine wp_region_L (fun _ _ => True) (by kernel_rfl) (fun hcl => ?_)
    clear hcl
    change wpAnyL _ _ _ _ _ _ _ _ wo.drew
    replace acc := acc.drew
    replace bA := bA.drew
    replace bB := bB.drew
    generalize wo.drew = wd at *
    refine wpAnyL_grid0 [(0, 32), (1, 33), (2, 34), (3, 35), (4, 36), (5, 37), (6, 9), (7, 10)] (GridI wd (kdVal (.agg #[.int .u8 s1, .int .i64 n1, .string b1, .int .i64 t1]) V1 (.agg #[.int .i64 p0, .int .i64 p1, .string p2, .int .i64 p3]) (.agg #[.int .u8 s2, .int .i64 n2, .string b2, .int .i64 t2]) V2 (.agg #[.int .i64 q0, .int .i64 q1, .string q2, .int .i64 q3])) (fun j => j ≤ 5) (kdAl #[.int .i64 p0, .int .i64 p1, .string p2, .int .i64 p3] #[.int .i64 q0, .int .i64 q1, .string q2, .int .i64 q3]) (fun _ _ _ => True)) (by kernel_rfl) (by kernel_rfl) ?steps (by kernel_rfl) (fun _ _ _ _ => trivial) ?fin (GridI.start (Wr.refl [] wd) _ trivial)
    case steps =>
      intro i hi
      have : i = 0 ∨ i = 1 ∨ i = 2 ∨ i = 3 ∨ i = 4 ∨ i = 5 ∨ i = 6 ∨ i = 7 ∨ i = 8 ∨ i = 9 := by
        have : i < 10 := hi
        omega
      rcases this with h | h | h | h | h | h | h | h | h | h <;> subst h <;> intro oi hoi <;> simp only [List.getElem?_toArray, List.getElem?_cons_succ, List.getElem?_cons_zero, Option.some.injEq] at hoi <;> subst hoi <;> intro σ l w1 hsz hl hd hI K hK <;>
        simp only [puts, List.foldl_cons, List.foldl_nil, Act.put, List.setIfInBounds_toArray, List.set_cons_zero, List.set_cons_succ] at hK ⊢
      · -- load
        have b := bA.wr0 hI.acc
        have c0 := b.cell 0
        have c1 := b.cell 1
        have c2 := b.cell 2
        have c3 := b.cell 3
        simp at c0 c1 c2 c3
        go_simp
        exact hK _ _ (hI.quiet (Wr.refl [] _) (kdNa _ _ _ (by decide)) (fun _ => rfl) trivial)
      · have e0 := hI.v 0 (by decide) (hd 0 (by decide +kernel))
        simp only [kdVal] at e0
        simp only [e0] at hK ⊢
        go_simp
        refine (hA1 _).mono ?_
        rintro e w2 ⟨rfl, r⟩
        exact hK _ _ (hI.quiet r (kdNa _ _ _ (by decide)) (fun _ => rfl) trivial)
      · have e0 := hI.v 1 (by decide) (hd 1 (by decide +kernel))
        simp only [kdVal] at e0
        simp only [e0] at hK ⊢
        go_simp
        refine (hL1 _).mono ?_
        rintro e w2 ⟨rfl, r⟩
        exact hK _ _ (hI.quiet r (kdNa _ _ _ (by decide)) (fun _ => rfl) trivial)
      · have b := bB.wr0 hI.acc
        have c0 := b.cell 0
        have c1 := b.cell 1
        have c2 := b.cell 2
        have c3 := b.cell 3
        simp at c0 c1 c2 c3
        go_simp
        exact hK _ _ (hI.quiet (Wr.refl [] _) (kdNa _ _ _ (by decide)) (fun _ => rfl) trivial)
      · have e0 := hI.v 3 (by decide) (hd 3 (by decide +kernel))
        simp only [kdVal] at e0
        simp only [e0] at hK ⊢
        go_simp
        refine (hA2 _).mono ?_
        rintro e w2 ⟨rfl, r⟩
        exact hK _ _ (hI.quiet r (kdNa _ _ _ (by decide)) (fun _ => rfl) trivial)
      · have e0 := hI.v 4 (by decide) (hd 4 (by decide +kernel))
        simp only [kdVal] at e0
        simp only [e0] at hK ⊢
        go_simp
        refine (hL2 _).mono ?_
        rintro e w2 ⟨rfl, r⟩
        exact hK _ _ (hI.quiet r (kdNa _ _ _ (by decide)) (fun _ => rfl) trivial)
      · go_simp
        exact hK _ _ (hI.alloc (kdApart _ _) ⟨6, 8, 31, zeroR, #[.int .i64 p0, .int .i64 p1, .string p2, .int .i64 p3]⟩ (by simp [kdAl]) hl trivial)
      · go_simp
        exact hK _ _ (hI.alloc (kdApart _ _) ⟨7, 9, 31, zeroR, #[.int .i64 q0, .int .i64 q1, .string q2, .int .i64 q3]⟩ (by simp [kdAl]) hl trivial)
      · have e0 := hI.v 2 (by decide) (hd 2 (by decide +kernel))
        have l6 := hd 6 (by decide +kernel)
        obtain ⟨b, e6, hb, hz, _⟩ := hI.b ⟨6, 8, 31, zeroR, #[.int .i64 p0, .int .i64 p1, .string p2, .int .i64 p3]⟩ (by simp [kdAl]) l6
        have hz := hz hl
        simp only at hz e6
        simp only [kdVal] at e0
        have c0 := hz.cell 0
        have c1 := hz.cell 1
        have c2 := hz.cell 2
        have c3 := hz.cell 3
        simp [zeroR] at c0 c1 c2 c3
        have z0 := hz.frozen 0
        have z1 := hz.frozen 1
        have z2 := hz.frozen 2
        have z3 := hz.frozen 3
        simp only [e0, e6] at hK ⊢
        go_simp
        exact hK undef _ (hI.store (kdApart _ _) ⟨6, 8, 31, zeroR, #[.int .i64 p0, .int .i64 p1, .string p2, .int .i64 p3]⟩ (by simp [kdAl]) (by rw [hsz]; exact (by decide : 8 < 10)) l6 e6 hb (wr4 _ _ _ _ _ _) (blk4 _ _ _ _ _ _ _ _ _ _ _ hz) trivial)
      · have e0 := hI.v 5 (by decide) (hd 5 (by decide +kernel))
        have l6 := hd 7 (by decide +kernel)
        obtain ⟨b, e6, hb, hz, _⟩ := hI.b ⟨7, 9, 31, zeroR, #[.int .i64 q0, .int .i64 q1, .string q2, .int .i64 q3]⟩ (by simp [kdAl]) l6
        have hz := hz hl
        simp only at hz e6
        simp only [kdVal] at e0
        have c0 := hz.cell 0
        have c1 := hz.cell 1
        have c2 := hz.cell 2
        have c3 := hz.cell 3
        simp [zeroR] at c0 c1 c2 c3
        have z0 := hz.frozen 0
        have z1 := hz.frozen 1
        have z2 := hz.frozen 2
        have z3 := hz.frozen 3
        simp only [e0, e6] at hK ⊢
        go_simp
        exact hK undef _ (hI.store (kdApart _ _) ⟨7, 9, 31, zeroR, #[.int .i64 q0, .int .i64 q1, .string q2, .int .i64 q3]⟩ (by simp [kdAl]) (by rw [hsz]; exact (by decide : 9 < 10)) l6 e6 hb (wr4 _ _ _ _ _ _) (blk4 _ _ _ _ _ _ _ _ _ _ _ hz) trivial)
    case fin =>
      intro σ l w1 hall hI
      have hl : ∀ i, i < 10 → lst l i = true := hall
      obtain ⟨b9, e6, hb9, _, t9⟩ := hI.b ⟨6, 8, 31, zeroR, #[.int .i64 p0, .int .i64 p1, .string p2, .int .i64 p3]⟩ (by simp [kdAl]) (hl 6 (by decide))
      obtain ⟨b10, e7, hb10, _, t10⟩ := hI.b ⟨7, 9, 31, zeroR, #[.int .i64 q0, .int .i64 q1, .string q2, .int .i64 q3]⟩ (by simp [kdAl]) (hl 7 (by decide))
      have t9 := t9 (hl 8 (by decide))
      have t10 := t10 (hl 9 (by decide))
      simp only at e6 e7
      simp only [puts, List.foldl_cons, List.foldl_nil, Act.put, List.setIfInBounds_toArray, List.set_cons_zero, List.set_cons_succ]
      simp only [e6, e7]
      have hcut : KdCut w g #[.int .u8 s1, .int .i64 n1, .string b1, .int .i64 t1] #[.int .u8 s2, .int .i64 n2, .string b2, .int .i64 t2] #[.int .i64 p0, .int .i64 p1, .string p2, .int .i64 p3] #[.int .i64 q0, .int .i64 q1, .string q2, .int .i64 q3] (.pointer (some ⟨b9, 0, none⟩)) (.pointer (some ⟨b10, 0, none⟩)) w1 := ⟨b9, b10, rfl, rfl, acc.trans hI.acc, bA.wr0 hI.acc, bB.wr0 hI.acc, t9, t10⟩
      clear t9 t10 e6 e7
      refine hK' _ _ (Met.intro (hJ _ _ ?_))
      repeat apply Exists.intro
      exact ⟨hcut, rfl⟩
  case rest =>
    obtain ⟨b9, b10, rfl, rfl, acc', bA', bB', B9, B10⟩ := hcut
    clear acc bA bB hc
    have acc := acc'
    have bA := bA'
    have bB := bB'
    clear acc' bA' bB'
    have a0 := bA.cell 0
    have a1 := bA.cell 1
    have a2 := bA.cell 2
    have a3 := bA.cell 3
    simp at a0 a1 a2 a3
    have e0 := bB.cell 0
    have e1 := bB.cell 1
    have e2 := bB.cell 2
    have e3 := bB.cell 3
    simp at e0 e1 e2 e3
    replace acc := Acc.mk acc.drew
    have accx := Acc.mk (Wr.refl [] wc).drew
    go_wp2_with fail
    go_region_held3 (fun w' => w'.cell? ⟨g, 0, none⟩ = some (.int .u8 s1) ∧ w'.cell? ⟨g, 1, none⟩ = some (.int .i64 n1) ∧ w'.cell? ⟨g, 2, none⟩ = some (.string b1) ∧ w'.cell? ⟨g, 3, none⟩ = some (.int .i64 t1) ∧ w'.cell? ⟨g + 1, 0, none⟩ = some (.int .u8 s2) ∧ w'.cell? ⟨g + 1, 1, none⟩ = some (.int .i64 n2) ∧ w'.cell? ⟨g + 1, 2, none⟩ = some (.string b2) ∧ w'.cell? ⟨g + 1, 3, none⟩ = some (.int .i64 t2)) (first | (go_split_ands; refine ⟨?_, ?_, ?_, ?_, ?_, ?_, ?_, ?_⟩ <;> (first | assumption | exact Wr.cellOf (by assumption) (by assumption) (by simp)))) (first
      | (go_at_call 10; with_reducible refine (hA1 _).mono ?_; rintro e wa ⟨rfl, ka⟩; have acc := Acc.mk (acc.h.trans ka); have accx := Acc.mk (accx.h.trans ka))
      | (go_at_call 10; with_reducible refine (hA2 _).mono ?_; rintro e wa ⟨rfl, ka⟩; have acc := Acc.mk (acc.h.trans ka); have accx := Acc.mk (accx.h.trans ka))
      | (go_at_call 11; with_reducible refine (hD _).mono ?_; rintro e wa ⟨rfl, ka⟩; have acc := Acc.mk (acc.h.trans ka); have accx := Acc.mk (accx.h.trans ka)))
    replace acc := acc.h
    replace bA := bA.wr0 accx.h
    replace bB := bB.wr0 accx.h
    replace B9 := B9.wr0 accx.h
    replace B10 := B10.wr0 accx.h
    clear a0 a1 a2 a3 e0 e1 e2 e3 accx
    have x0 := B9.cell 0
    have x1 := B9.cell 1
    have x2 := B9.cell 2
    have x3 := B9.cell 3
    simp at x0 x1 x2 x3
    have y0 := B10.cell 0
    have y1 := B10.cell 1
    have y2 := B10.cell 2
    have y3 := B10.cell 3
    simp at y0 y1 y2 y3
    go_wp2_with fail
    clear x0 x1 x2 x3 y0 y1 y2 y3
    refine (hR _).mono ?_
    rintro e v7 ⟨rfl, k7⟩
    replace acc := acc.trans k7
    replace bA := bA.wr0 k7
    replace bB := bB.wr0 k7
    replace B9 := B9.wr0 k7
    replace B10 := B10.wr0 k7
    clear k7
    have a0 := bA.cell 0
    have a1 := bA.cell 1
    have a2 := bA.cell 2
    have a3 := bA.cell 3
    simp at a0 a1 a2 a3
    have x0 := B9.cell 0
    have x1 := B9.cell 1
    have x2 := B9.cell 2
    have x3 := B9.cell 3
    simp at x0 x1 x2 x3
    have La0 := fun o => ((Wr.refl [] v7).alloc o).cellOf a0 (by simp)
    have La1 := fun o => ((Wr.refl [] v7).alloc o).cellOf a1 (by simp)
    have La2 := fun o => ((Wr.refl [] v7).alloc o).cellOf a2 (by simp)
    have La3 := fun o => ((Wr.refl [] v7).alloc o).cellOf a3 (by simp)
    have Lx0 := fun o => ((Wr.refl [] v7).alloc o).cellOf x0 (by simp)
    have Lx1 := fun o => ((Wr.refl [] v7).alloc o).cellOf x1 (by simp)
    have Lx2 := fun o => ((Wr.refl [] v7).alloc o).cellOf x2 (by simp)
    have Lx3 := fun o => ((Wr.refl [] v7).alloc o).cellOf x3 (by simp)
    go_wp2_with fail
    clear La0 La1 La2 La3 Lx0 Lx1 Lx2 Lx3 a0 a1 a2 a3 x0 x1 x2 x3
    obtain ⟨wy, hwy⟩ : ∃ wy, v7.alloc (.cells #[.int .i64 r0, .int .i64 r1, .string r2, .int .i64 r3] 31) = wy := ⟨_, rfl⟩
    have BR := Blk.new v7 31 #[.int .i64 r0, .int .i64 r1, .string r2, .int .i64 r3]
    replace acc := acc.alloc (.cells #[.int .i64 r0, .int .i64 r1, .string r2, .int .i64 r3] 31)
    replace bA := bA.alloc (.cells #[.int .i64 r0, .int .i64 r1, .string r2, .int .i64 r3] 31)
    replace bB := bB.alloc (.cells #[.int .i64 r0, .int .i64 r1, .string r2, .int .i64 r3] 31)
    replace B9 := B9.alloc (.cells #[.int .i64 r0, .int .i64 r1, .string r2, .int .i64 r3] 31)
    replace B10 := B10.alloc (.cells #[.int .i64 r0, .int .i64 r1, .string r2, .int .i64 r3] 31)
    rw [hwy] at acc BR bA bB B9 B10
    generalize v7.heap.size = gBR at BR ⊢
    rw [hwy]
    clear hwy
    refine (hA1 _).mono ?_
    rintro e v8 ⟨rfl, k8⟩
    replace acc := acc.trans k8
    replace bA := bA.wr0 k8
    replace bB := bB.wr0 k8
    replace B9 := B9.wr0 k8
    replace B10 := B10.wr0 k8
    replace BR := BR.wr0 k8
    clear k8
    go_wp2_with fail
    refine (hO _).mono ?_
    rintro e v9 ⟨rfl, k9⟩
    replace acc := acc.trans k9
    replace bA := bA.wr0 k9
    replace bB := bB.wr0 k9
    replace B9 := B9.wr0 k9
    replace B10 := B10.wr0 k9
    replace BR := BR.wr0 k9
    clear k9
    have x0 := B9.cell 0
    have x1 := B9.cell 1
    have x2 := B9.cell 2
    have x3 := B9.cell 3
    simp at x0 x1 x2 x3
    go_wp2_with fail
    clear x0 x1 x2 x3
    refine (hP _).mono ?_
    rintro e v10 ⟨rfl, k10⟩
    replace acc := acc.trans k10
    replace bA := bA.wr0 k10
    replace bB := bB.wr0 k10
    replace B9 := B9.wr0 k10
    replace B10 := B10.wr0 k10
    replace BR := BR.wr0 k10
    clear k10
    have a0 := BR.cell 0
    have a1 := BR.cell 1
    have a2 := BR.cell 2
    have a3 := BR.cell 3
    simp at a0 a1 a2 a3
    have La0 := fun o => ((Wr.refl [] v10).alloc o).cellOf a0 (by simp)
    have La1 := fun o => ((Wr.refl [] v10).alloc o).cellOf a1 (by simp)
    have La2 := fun o => ((Wr.refl [] v10).alloc o).cellOf a2 (by simp)
    have La3 := fun o => ((Wr.refl [] v10).alloc o).cellOf a3 (by simp)
    go_wp2_with fail
    clear La0 La1 La2 La3 a0 a1 a2 a3
    obtain ⟨wz, hwz⟩ : ∃ wz, v10.alloc (.cells #[.int .i64 u0, .int .i64 u1, .string u2, .int .i64 u3] 31) = wz := ⟨_, rfl⟩
    have BU := Blk.new v10 31 #[.int .i64 u0, .int .i64 u1, .string u2, .int .i64 u3]
    replace acc := acc.alloc (.cells #[.int .i64 u0, .int .i64 u1, .string u2, .int .i64 u3] 31)
    replace BR := BR.alloc (.cells #[.int .i64 u0, .int .i64 u1, .string u2, .int .i64 u3] 31)
    rw [hwz] at acc BU BR
    generalize v10.heap.size = gBU at BU ⊢
    rw [hwz]
    clear hwz
    refine (hS1 _).mono ?_
    rintro e v11 ⟨rfl, k11⟩
    replace acc := acc.trans k11
    replace BR := BR.wr0 k11
    replace BU := BU.wr0 k11
    clear k11
    have a0 := BU.cell 0
    have a1 := BU.cell 1
    have a2 := BU.cell 2
    have a3 := BU.cell 3
    simp at a0 a1 a2 a3
    go_wp2_with fail
    clear a0 a1 a2 a3
    refine (hS2 _).mono ?_
    rintro e v12 ⟨rfl, k12⟩
    replace acc := acc.trans k12
    clear k12
    go_wp2_with fail
    refine (hw _).mono ?_
    rintro e v13 ⟨rfl, k13⟩
    replace acc := acc.trans k13
    clear k13
    go_wp2_with fail
    go_ret
    exact ⟨rfl, acc⟩

end Go.Proofs.Ytpfidbpbomamjaa
