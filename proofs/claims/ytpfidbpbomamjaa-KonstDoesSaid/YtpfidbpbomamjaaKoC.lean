/- konst's closures, walked; alike. No conditions but that the numbers are such as Go has. -/
import Derived.Test.YtpfidbpbomamjaaKoM
import Derived.LoopN
namespace Go.Proofs.Ytpfidbpbomamjaa
open Go.RowKit
set_option linter.unusedVariables false

set_option maxHeartbeats 400000 in
theorem ask1_any (a b : Int) (w : World) : Calls Try.prog 40 #[.int .i64 a, .int .i64 b] w fun e w' => e = .returned (.bool (a == b)) ∧ w = w' := by
  go_enter Try.func40, Try.ntmps40
  go_wp2
  go_ret
  exact ⟨rfl, rfl⟩
set_option maxHeartbeats 400000 in
theorem ask2_any (a b : Int) (w : World) : Calls Try.prog 41 #[.int .i64 a, .int .i64 b] w fun e w' => e = .returned (.bool (a != b)) ∧ w = w' := by
  go_enter Try.func41, Try.ntmps41
  go_wp2
  go_ret
  exact ⟨rfl, rfl⟩
set_option maxHeartbeats 400000 in
theorem ask3_any (a b : Int) (w : World) : Calls Try.prog 42 #[.int .i64 a, .int .i64 b] w fun e w' => e = .returned (.bool (decide (a < b))) ∧ w = w' := by
  go_enter Try.func42, Try.ntmps42
  go_wp2
  go_ret
  exact ⟨rfl, rfl⟩
set_option maxHeartbeats 400000 in
theorem ask4_any (a b : Int) (w : World) : Calls Try.prog 43 #[.int .i64 a, .int .i64 b] w fun e w' => e = .returned (.bool (decide (a ≤ b))) ∧ w = w' := by
  go_enter Try.func43, Try.ntmps43
  go_wp2
  go_ret
  exact ⟨rfl, rfl⟩
set_option maxHeartbeats 400000 in
theorem ask5_any (a b : Int) (w : World) : Calls Try.prog 44 #[.int .i64 a, .int .i64 b] w fun e w' => e = .returned (.bool (decide (a > b))) ∧ w = w' := by
  go_enter Try.func44, Try.ntmps44
  go_wp2
  go_ret
  exact ⟨rfl, rfl⟩
set_option maxHeartbeats 400000 in
theorem ask6_any (a b : Int) (w : World) : Calls Try.prog 45 #[.int .i64 a, .int .i64 b] w fun e w' => e = .returned (.bool (decide (a ≥ b))) ∧ w = w' := by
  go_enter Try.func45, Try.ntmps45
  go_wp2
  go_ret
  exact ⟨rfl, rfl⟩
set_option maxHeartbeats 400000 in
theorem set1_any (a b : Int) (w : World) : Calls Try.prog 53 #[.int .u16 a, .int .u16 b] w fun e w' => e = .returned (KV.bits (bits .or .u16 a b)).val ∧ w = w' := by
  have hmi := @mkIface 40 rfl
  have hmb := @mkIface 39 rfl
  have hq : (KV.bits (bits .or .u16 a b)).val = .iface 39 (.int .u16 (bits .or .u16 a b)) := by first | rfl | exact KV.truth_val _
  rw [hq]
  clear hq
  go_enter Try.func53, Try.ntmps53
  go_wp2
  go_ret
  exact ⟨rfl, rfl⟩
set_option maxHeartbeats 400000 in
theorem set2_any (a b : Int) (w : World) : Calls Try.prog 54 #[.int .u16 a, .int .u16 b] w fun e w' => e = .returned (KV.bits (bits .andNot .u16 a b)).val ∧ w = w' := by
  have hmi := @mkIface 40 rfl
  have hmb := @mkIface 39 rfl
  have hq : (KV.bits (bits .andNot .u16 a b)).val = .iface 39 (.int .u16 (bits .andNot .u16 a b)) := by first | rfl | exact KV.truth_val _
  rw [hq]
  clear hq
  go_enter Try.func54, Try.ntmps54
  go_wp2
  go_ret
  exact ⟨rfl, rfl⟩
set_option maxHeartbeats 400000 in
theorem set3_any (a b : Int) (w : World) : Calls Try.prog 55 #[.int .u16 a, .int .u16 b] w fun e w' => e = .returned (KV.bits (bits .and .u16 a b)).val ∧ w = w' := by
  have hmi := @mkIface 40 rfl
  have hmb := @mkIface 39 rfl
  have hq : (KV.bits (bits .and .u16 a b)).val = .iface 39 (.int .u16 (bits .and .u16 a b)) := by first | rfl | exact KV.truth_val _
  rw [hq]
  clear hq
  go_enter Try.func55, Try.ntmps55
  go_wp2
  go_ret
  exact ⟨rfl, rfl⟩
set_option maxHeartbeats 400000 in
theorem set4_any (a b : Int) (w : World) : Calls Try.prog 56 #[.int .u16 a, .int .u16 b] w fun e w' => e = .returned (KV.bits (bits .xor .u16 a b)).val ∧ w = w' := by
  have hmi := @mkIface 40 rfl
  have hmb := @mkIface 39 rfl
  have hq : (KV.bits (bits .xor .u16 a b)).val = .iface 39 (.int .u16 (bits .xor .u16 a b)) := by first | rfl | exact KV.truth_val _
  rw [hq]
  clear hq
  go_enter Try.func56, Try.ntmps56
  go_wp2
  go_ret
  exact ⟨rfl, rfl⟩
set_option maxHeartbeats 400000 in
theorem set5_any (a b : Int) (w : World) : Calls Try.prog 57 #[.int .u16 a, .int .u16 b] w fun e w' => e = .returned (KV.truth (bits .andNot .u16 a b == 0)).val ∧ w = w' := by
  have hmi := @mkIface 40 rfl
  have hmb := @mkIface 39 rfl
  have hq : (KV.truth (bits .andNot .u16 a b == 0)).val = .iface 40 (.bool (bits .andNot .u16 a b == 0)) := by first | rfl | exact KV.truth_val _
  rw [hq]
  clear hq
  go_enter Try.func57, Try.ntmps57
  go_wp2
  go_ret
  exact ⟨rfl, rfl⟩
set_option maxHeartbeats 400000 in
theorem set6_any (a b : Int) (w : World) : Calls Try.prog 58 #[.int .u16 a, .int .u16 b] w fun e w' => e = .returned (KV.truth (bits .andNot .u16 b a == 0)).val ∧ w = w' := by
  have hmi := @mkIface 40 rfl
  have hmb := @mkIface 39 rfl
  have hq : (KV.truth (bits .andNot .u16 b a == 0)).val = .iface 40 (.bool (bits .andNot .u16 b a == 0)) := by first | rfl | exact KV.truth_val _
  rw [hq]
  clear hq
  go_enter Try.func58, Try.ntmps58
  go_wp2
  go_ret
  exact ⟨rfl, rfl⟩
set_option maxHeartbeats 400000 in
theorem set7_any (a b : Int) (w : World) : Calls Try.prog 59 #[.int .u16 a, .int .u16 b] w fun e w' => e = .returned (KV.truth (a == b)).val ∧ w = w' := by
  have hmi := @mkIface 40 rfl
  have hmb := @mkIface 39 rfl
  have hq : (KV.truth (a == b)).val = .iface 40 (.bool (a == b)) := by first | rfl | exact KV.truth_val _
  rw [hq]
  clear hq
  go_enter Try.func59, Try.ntmps59
  go_wp2
  go_ret
  exact ⟨rfl, rfl⟩
set_option maxHeartbeats 400000 in
theorem set8_any (a b : Int) (w : World) : Calls Try.prog 60 #[.int .u16 a, .int .u16 b] w fun e w' => e = .returned (KV.truth (a != b)).val ∧ w = w' := by
  have hmi := @mkIface 40 rfl
  have hmb := @mkIface 39 rfl
  have hq : (KV.truth (a != b)).val = .iface 40 (.bool (a != b)) := by first | rfl | exact KV.truth_val _
  rw [hq]
  clear hq
  go_enter Try.func60, Try.ntmps60
  go_wp2
  go_ret
  exact ⟨rfl, rfl⟩
set_option maxHeartbeats 400000 in
theorem wh2_any (a b : Int) (w : World) : Calls Try.prog 48 #[.int .i64 a, .int .i64 b] w fun e w' => e = .returned (.tuple #[(wholeK (wrap64 (a + b))).1.val, .int .i64 (wholeK (wrap64 (a + b))).2]) ∧ w = w' := by
  have hw := whole_any (wrap64 (a + b)) w
  go_enter Try.func48, Try.ntmps48
  go_wp2_with fail
  refine hw.mono ?_
  clear hw
  rintro e w1 ⟨rfl, rfl⟩
  go_wp2_with fail
  go_ret2
  exact ⟨rfl, rfl⟩
set_option maxHeartbeats 400000 in
theorem wh3_any (a b : Int) (w : World) : Calls Try.prog 49 #[.int .i64 a, .int .i64 b] w fun e w' => e = .returned (.tuple #[(wholeK (wrap64 (a - b))).1.val, .int .i64 (wholeK (wrap64 (a - b))).2]) ∧ w = w' := by
  have hw := whole_any (wrap64 (a - b)) w
  go_enter Try.func49, Try.ntmps49
  go_wp2_with fail
  refine hw.mono ?_
  clear hw
  rintro e w1 ⟨rfl, rfl⟩
  go_wp2_with fail
  go_ret2
  exact ⟨rfl, rfl⟩
set_option maxHeartbeats 400000 in
theorem wh4_any (a b : Int) (w : World) : Calls Try.prog 50 #[.int .i64 a, .int .i64 b] w fun e w' => e = .returned (.tuple #[(wholeK (wrap64 (a * b))).1.val, .int .i64 (wholeK (wrap64 (a * b))).2]) ∧ w = w' := by
  have hw := whole_any (wrap64 (a * b)) w
  go_enter Try.func50, Try.ntmps50
  go_wp2_with fail
  refine hw.mono ?_
  clear hw
  rintro e w1 ⟨rfl, rfl⟩
  go_wp2_with fail
  go_ret2
  exact ⟨rfl, rfl⟩
set_option maxHeartbeats 400000 in
theorem wh5_any (a b : Int) (hb : ¬b = 0) (w : World) : Calls Try.prog 51 #[.int .i64 a, .int .i64 b] w fun e w' => e = .returned (.int .i64 (wrap64 (a.tdiv b))) ∧ w = w' := by
  go_enter Try.func51, Try.ntmps51
  go_wp2
  go_ret
  exact ⟨rfl, rfl⟩
set_option maxHeartbeats 400000 in
theorem wh6_any (a b : Int) (hb : ¬b = 0) (w : World) : Calls Try.prog 52 #[.int .i64 a, .int .i64 b] w fun e w' => e = .returned (.int .i64 (a.tmod b)) ∧ w = w' := by
  go_enter Try.func52, Try.ntmps52
  go_wp2
  go_ret
  exact ⟨rfl, rfl⟩

/-- Of two numbers: what a division yields. -/
def divK (f : Int → Int → Int) (a b : Int) : KV × Int := if b = 0 then (KV.none_, 102) else wholeK (f a b)

set_option maxHeartbeats 400000 in
theorem div5_any (a b : Int) (r : Nat) (w : World) (hc : w.cell? ⟨r, 0, none⟩ = some (.func (.func 51) #[] #[])) :
    Calls Try.prog 47 #[.int .i64 a, .int .i64 b, .pointer (some ⟨r, 0, none⟩)] w fun e w' => e = .returned (.tuple #[(divK (fun a b => wrap64 (a.tdiv b)) a b).1.val, .int .i64 (divK (fun a b => wrap64 (a.tdiv b)) a b).2]) ∧ w = w' := by
  by_cases hb : b = 0
  · have hd : divK (fun a b => wrap64 (a.tdiv b)) a b = (KV.none_, 102) := by simp [divK, hb]
    rw [hd, KV.none_val]
    clear hd
    subst hb
    go_enter Try.func47, Try.ntmps47
    go_wp2_with fail
    go_ret2
    exact ⟨rfl, rfl⟩
  · have hd : divK (fun a b => wrap64 (a.tdiv b)) a b = wholeK (wrap64 (a.tdiv b)) := by simp [divK, hb]
    rw [hd]
    clear hd
    have hw := whole_any (wrap64 (a.tdiv b)) w
    have hf := wh5_any a b hb w
    have hbb : (b == 0) = false := by simp [hb]
    go_enter Try.func47, Try.ntmps47
    go_wp2_with fail
    refine hf.mono ?_
    clear hf
    rintro e w1 ⟨rfl, rfl⟩
    go_wp2_with fail
    refine hw.mono ?_
    clear hw
    rintro e w1 ⟨rfl, rfl⟩
    go_wp2_with fail
    go_ret2
    exact ⟨rfl, rfl⟩
set_option maxHeartbeats 400000 in
theorem div6_any (a b : Int) (r : Nat) (w : World) (hc : w.cell? ⟨r, 0, none⟩ = some (.func (.func 52) #[] #[])) :
    Calls Try.prog 47 #[.int .i64 a, .int .i64 b, .pointer (some ⟨r, 0, none⟩)] w fun e w' => e = .returned (.tuple #[(divK (fun a b => a.tmod b) a b).1.val, .int .i64 (divK (fun a b => a.tmod b) a b).2]) ∧ w = w' := by
  by_cases hb : b = 0
  · have hd : divK (fun a b => a.tmod b) a b = (KV.none_, 102) := by simp [divK, hb]
    rw [hd, KV.none_val]
    clear hd
    subst hb
    go_enter Try.func47, Try.ntmps47
    go_wp2_with fail
    go_ret2
    exact ⟨rfl, rfl⟩
  · have hd : divK (fun a b => a.tmod b) a b = wholeK (a.tmod b) := by simp [divK, hb]
    rw [hd]
    clear hd
    have hw := whole_any (a.tmod b) w
    have hf := wh6_any a b hb w
    have hbb : (b == 0) = false := by simp [hb]
    go_enter Try.func47, Try.ntmps47
    go_wp2_with fail
    refine hf.mono ?_
    clear hf
    rintro e w1 ⟨rfl, rfl⟩
    go_wp2_with fail
    refine hw.mono ?_
    clear hw
    rintro e w1 ⟨rfl, rfl⟩
    go_wp2_with fail
    go_ret2
    exact ⟨rfl, rfl⟩
set_option maxHeartbeats 400000 in
theorem sort1_any (x : KV) (w : World) : Calls Try.prog 61 #[x.val] w fun e w' => e = .returned (.bool (x.is 1)) ∧ Wr [] w w' := by
  have a1 := fun w => as_whole x w
  generalize x.val = V at a1 ⊢
  go_enter Try.func61, Try.ntmps61
  go_wp2_with fail
  go_ret
  first
  | exact ⟨rfl, Wr.refl _ _⟩
  | exact ⟨rfl, (Wr.refl _ _).alloc _⟩
set_option maxHeartbeats 400000 in
theorem sort2_any (x : KV) (w : World) : Calls Try.prog 62 #[x.val] w fun e w' => e = .returned (.bool (x.is 2)) ∧ Wr [] w w' := by
  have a1 := fun w => as_letter x w
  generalize x.val = V at a1 ⊢
  go_enter Try.func62, Try.ntmps62
  go_wp2_with fail
  go_ret
  first
  | exact ⟨rfl, Wr.refl _ _⟩
  | exact ⟨rfl, (Wr.refl _ _).alloc _⟩
set_option maxHeartbeats 400000 in
theorem sort3_any (x : KV) (w : World) : Calls Try.prog 63 #[x.val] w fun e w' => e = .returned (.bool (x.is 3)) ∧ Wr [] w w' := by
  have a1 := fun w => as_truth x w
  generalize x.val = V at a1 ⊢
  go_enter Try.func63, Try.ntmps63
  go_wp2_with fail
  go_ret
  first
  | exact ⟨rfl, Wr.refl _ _⟩
  | exact ⟨rfl, (Wr.refl _ _).alloc _⟩
set_option maxHeartbeats 400000 in
theorem sort4_any (x : KV) (w : World) : Calls Try.prog 64 #[x.val] w fun e w' => e = .returned (.bool (x.is 7)) ∧ Wr [] w w' := by
  have a1 := fun w => as_null x w
  generalize x.val = V at a1 ⊢
  go_enter Try.func64, Try.ntmps64
  go_wp2_with fail
  go_ret
  first
  | exact ⟨rfl, Wr.refl _ _⟩
  | exact ⟨rfl, (Wr.refl _ _).alloc _⟩

/-- Are both of one sort? -/
def alikeB (x y : KV) : Bool := if x.sort = 6 then y.is 6 && x.typ == y.typ else if x.sort = 1 then y.is 1 else if x.sort = 2 then y.is 2 else if x.sort = 3 then y.is 3 else if x.sort = 7 then y.is 7 else false

set_option maxHeartbeats 400000 in
theorem alike_item (x y : KV) (hx : x.is 6 = true) (hy : y.is 6 = true) (w : World) :
    Calls Try.prog 27 #[x.val, y.val] w fun e w' => e = .returned (.bool (x.typ == y.typ)) ∧ Wr [] w w' := by
  have a1 := fun w => as_item x w
  have a2 := fun w => as_item y w
  rw [hx] at a1
  rw [hy] at a2
  clear hx hy
  generalize x.val = V at a1 ⊢
  generalize y.val = U at a2 ⊢
  generalize x.typ = xt at a1 ⊢
  generalize y.typ = yt at a2 ⊢
  generalize x.num 6 = xn at a1 ⊢
  generalize y.num 6 = yn at a2 ⊢
  go_enter Try.func27, Try.ntmps27
  go_wp2_with fail
  go_ret
  exact ⟨rfl, ((Wr.refl [] w).alloc _).alloc _⟩
set_option maxHeartbeats 400000 in
theorem alike_item_not (x y : KV) (hx : x.is 6 = true) (hy : y.is 6 = false) (w : World) :
    Calls Try.prog 27 #[x.val, y.val] w fun e w' => e = .returned (.bool false) ∧ Wr [] w w' := by
  have a1 := fun w => as_item x w
  have a2 := fun w => as_item y w
  rw [hx] at a1
  rw [hy] at a2
  clear hx hy
  generalize x.val = V at a1 ⊢
  generalize y.val = U at a2 ⊢
  generalize x.typ = xt at a1 ⊢
  generalize y.typ = yt at a2 ⊢
  generalize x.num 6 = xn at a1 ⊢
  generalize y.num 6 = yn at a2 ⊢
  go_enter Try.func27, Try.ntmps27
  go_wp2_with fail
  go_ret
  exact ⟨rfl, ((Wr.refl [] w).alloc _).alloc _⟩

set_option maxHeartbeats 800000 in
theorem alike_1 (x y : KV) (hx : x.is 6 = false) (h1 : x.is 1 = true) (w : World) :
    Calls Try.prog 27 #[x.val, y.val] w fun e w' => e = .returned (.bool (y.is 1)) ∧ Wr [] w w' := by
  have a1 := fun w => as_item x w
  have s1 := fun w => sort1_any x w
  have t1 := fun w => sort1_any y w
  rw [hx] at a1
  rw [h1] at s1
  clear hx h1
  generalize x.val = V at a1 s1 ⊢
  generalize y.val = U at t1 ⊢
  generalize x.typ = xt at a1 ⊢
  generalize x.num 6 = xn at a1 ⊢
  go_enter Try.func27, Try.ntmps27
  go_wp2_with fail
  have hw0 : Wr [] w ((w.alloc (Obj.cells #[Value.int IntKind.i64 xt, Value.int IntKind.i64 xn] 61)).alloc (Obj.cells #[Value.func (Fn.func 61) #[] #[], Value.func (Fn.func 62) #[] #[], Value.func (Fn.func 63) #[] #[], Value.func (Fn.func 64) #[] #[]] 36)) := ((Wr.refl [] w).alloc _).alloc _
  have hb0 : Blk ((w.alloc (Obj.cells #[Value.int IntKind.i64 xt, Value.int IntKind.i64 xn] 61)).alloc (Obj.cells #[Value.func (Fn.func 61) #[] #[], Value.func (Fn.func 62) #[] #[], Value.func (Fn.func 63) #[] #[], Value.func (Fn.func 64) #[] #[]] 36)) (w.heap.size + 1) 36 #[Value.func (Fn.func 61) #[] #[], Value.func (Fn.func 62) #[] #[], Value.func (Fn.func 63) #[] #[], Value.func (Fn.func 64) #[] #[]] := by
    have hb := Blk.new (w.alloc (Obj.cells #[Value.int IntKind.i64 xt, Value.int IntKind.i64 xn] 61)) 36 #[Value.func (Fn.func 61) #[] #[], Value.func (Fn.func 62) #[] #[], Value.func (Fn.func 63) #[] #[], Value.func (Fn.func 64) #[] #[]]
    rw [show (w.alloc (Obj.cells #[Value.int IntKind.i64 xt, Value.int IntKind.i64 xn] 61)).heap.size = w.heap.size + 1 by simp] at hb
    exact hb
  generalize ((w.alloc (Obj.cells #[Value.int IntKind.i64 xt, Value.int IntKind.i64 xn] 61)).alloc (Obj.cells #[Value.func (Fn.func 61) #[] #[], Value.func (Fn.func 62) #[] #[], Value.func (Fn.func 63) #[] #[], Value.func (Fn.func 64) #[] #[]] 36)) = w0 at hw0 hb0 ⊢
  generalize w.heap.size + 1 = g at hb0 ⊢
  refine wp_loop_rounds 5 ?_
  have c1 := hb0.cell 0
  simp at c1
  rw [rounds_succ]
  go_wp2_with fail
  refine (s1 w0).mono ?_
  clear c1
  rintro e w1 ⟨rfl, v1⟩
  have hb1 := hb0.wr0 v1
  have hw1 := hw0.trans v1
  clear v1 hb0 hw0 s1
  go_wp2_with fail
  refine (t1 w1).mono ?_
  rintro e w5 ⟨rfl, v5⟩
  go_wp2_with fail
  go_ret
  exact ⟨rfl, hw1.trans v5⟩
set_option maxHeartbeats 800000 in
theorem alike_2 (x y : KV) (hx : x.is 6 = false) (h1 : x.is 1 = false) (h2 : x.is 2 = true) (w : World) :
    Calls Try.prog 27 #[x.val, y.val] w fun e w' => e = .returned (.bool (y.is 2)) ∧ Wr [] w w' := by
  have a1 := fun w => as_item x w
  have s1 := fun w => sort1_any x w
  have s2 := fun w => sort2_any x w
  have t1 := fun w => sort2_any y w
  rw [hx] at a1
  rw [h1] at s1
  rw [h2] at s2
  clear hx h1 h2
  generalize x.val = V at a1 s1 s2 ⊢
  generalize y.val = U at t1 ⊢
  generalize x.typ = xt at a1 ⊢
  generalize x.num 6 = xn at a1 ⊢
  go_enter Try.func27, Try.ntmps27
  go_wp2_with fail
  have hw0 : Wr [] w ((w.alloc (Obj.cells #[Value.int IntKind.i64 xt, Value.int IntKind.i64 xn] 61)).alloc (Obj.cells #[Value.func (Fn.func 61) #[] #[], Value.func (Fn.func 62) #[] #[], Value.func (Fn.func 63) #[] #[], Value.func (Fn.func 64) #[] #[]] 36)) := ((Wr.refl [] w).alloc _).alloc _
  have hb0 : Blk ((w.alloc (Obj.cells #[Value.int IntKind.i64 xt, Value.int IntKind.i64 xn] 61)).alloc (Obj.cells #[Value.func (Fn.func 61) #[] #[], Value.func (Fn.func 62) #[] #[], Value.func (Fn.func 63) #[] #[], Value.func (Fn.func 64) #[] #[]] 36)) (w.heap.size + 1) 36 #[Value.func (Fn.func 61) #[] #[], Value.func (Fn.func 62) #[] #[], Value.func (Fn.func 63) #[] #[], Value.func (Fn.func 64) #[] #[]] := by
    have hb := Blk.new (w.alloc (Obj.cells #[Value.int IntKind.i64 xt, Value.int IntKind.i64 xn] 61)) 36 #[Value.func (Fn.func 61) #[] #[], Value.func (Fn.func 62) #[] #[], Value.func (Fn.func 63) #[] #[], Value.func (Fn.func 64) #[] #[]]
    rw [show (w.alloc (Obj.cells #[Value.int IntKind.i64 xt, Value.int IntKind.i64 xn] 61)).heap.size = w.heap.size + 1 by simp] at hb
    exact hb
  generalize ((w.alloc (Obj.cells #[Value.int IntKind.i64 xt, Value.int IntKind.i64 xn] 61)).alloc (Obj.cells #[Value.func (Fn.func 61) #[] #[], Value.func (Fn.func 62) #[] #[], Value.func (Fn.func 63) #[] #[], Value.func (Fn.func 64) #[] #[]] 36)) = w0 at hw0 hb0 ⊢
  generalize w.heap.size + 1 = g at hb0 ⊢
  refine wp_loop_rounds 5 ?_
  have c1 := hb0.cell 0
  simp at c1
  rw [rounds_succ]
  go_wp2_with fail
  refine (s1 w0).mono ?_
  clear c1
  rintro e w1 ⟨rfl, v1⟩
  have hb1 := hb0.wr0 v1
  have hw1 := hw0.trans v1
  clear v1 hb0 hw0 s1
  have c2 := hb1.cell 1
  simp at c2
  go_wp2_with fail
  rw [rounds_succ]
  go_wp2_with fail
  refine (s2 w1).mono ?_
  clear c2
  rintro e w2 ⟨rfl, v2⟩
  have hb2 := hb1.wr0 v2
  have hw2 := hw1.trans v2
  clear v2 hb1 hw1 s2
  go_wp2_with fail
  refine (t1 w2).mono ?_
  rintro e w5 ⟨rfl, v5⟩
  go_wp2_with fail
  go_ret
  exact ⟨rfl, hw2.trans v5⟩
set_option maxHeartbeats 800000 in
theorem alike_3 (x y : KV) (hx : x.is 6 = false) (h1 : x.is 1 = false) (h2 : x.is 2 = false) (h3 : x.is 3 = true) (w : World) :
    Calls Try.prog 27 #[x.val, y.val] w fun e w' => e = .returned (.bool (y.is 3)) ∧ Wr [] w w' := by
  have a1 := fun w => as_item x w
  have s1 := fun w => sort1_any x w
  have s2 := fun w => sort2_any x w
  have s3 := fun w => sort3_any x w
  have t1 := fun w => sort3_any y w
  rw [hx] at a1
  rw [h1] at s1
  rw [h2] at s2
  rw [h3] at s3
  clear hx h1 h2 h3
  generalize x.val = V at a1 s1 s2 s3 ⊢
  generalize y.val = U at t1 ⊢
  generalize x.typ = xt at a1 ⊢
  generalize x.num 6 = xn at a1 ⊢
  go_enter Try.func27, Try.ntmps27
  go_wp2_with fail
  have hw0 : Wr [] w ((w.alloc (Obj.cells #[Value.int IntKind.i64 xt, Value.int IntKind.i64 xn] 61)).alloc (Obj.cells #[Value.func (Fn.func 61) #[] #[], Value.func (Fn.func 62) #[] #[], Value.func (Fn.func 63) #[] #[], Value.func (Fn.func 64) #[] #[]] 36)) := ((Wr.refl [] w).alloc _).alloc _
  have hb0 : Blk ((w.alloc (Obj.cells #[Value.int IntKind.i64 xt, Value.int IntKind.i64 xn] 61)).alloc (Obj.cells #[Value.func (Fn.func 61) #[] #[], Value.func (Fn.func 62) #[] #[], Value.func (Fn.func 63) #[] #[], Value.func (Fn.func 64) #[] #[]] 36)) (w.heap.size + 1) 36 #[Value.func (Fn.func 61) #[] #[], Value.func (Fn.func 62) #[] #[], Value.func (Fn.func 63) #[] #[], Value.func (Fn.func 64) #[] #[]] := by
    have hb := Blk.new (w.alloc (Obj.cells #[Value.int IntKind.i64 xt, Value.int IntKind.i64 xn] 61)) 36 #[Value.func (Fn.func 61) #[] #[], Value.func (Fn.func 62) #[] #[], Value.func (Fn.func 63) #[] #[], Value.func (Fn.func 64) #[] #[]]
    rw [show (w.alloc (Obj.cells #[Value.int IntKind.i64 xt, Value.int IntKind.i64 xn] 61)).heap.size = w.heap.size + 1 by simp] at hb
    exact hb
  generalize ((w.alloc (Obj.cells #[Value.int IntKind.i64 xt, Value.int IntKind.i64 xn] 61)).alloc (Obj.cells #[Value.func (Fn.func 61) #[] #[], Value.func (Fn.func 62) #[] #[], Value.func (Fn.func 63) #[] #[], Value.func (Fn.func 64) #[] #[]] 36)) = w0 at hw0 hb0 ⊢
  generalize w.heap.size + 1 = g at hb0 ⊢
  refine wp_loop_rounds 5 ?_
  have c1 := hb0.cell 0
  simp at c1
  rw [rounds_succ]
  go_wp2_with fail
  refine (s1 w0).mono ?_
  clear c1
  rintro e w1 ⟨rfl, v1⟩
  have hb1 := hb0.wr0 v1
  have hw1 := hw0.trans v1
  clear v1 hb0 hw0 s1
  have c2 := hb1.cell 1
  simp at c2
  go_wp2_with fail
  rw [rounds_succ]
  go_wp2_with fail
  refine (s2 w1).mono ?_
  clear c2
  rintro e w2 ⟨rfl, v2⟩
  have hb2 := hb1.wr0 v2
  have hw2 := hw1.trans v2
  clear v2 hb1 hw1 s2
  have c3 := hb2.cell 2
  simp at c3
  go_wp2_with fail
  rw [rounds_succ]
  go_wp2_with fail
  refine (s3 w2).mono ?_
  clear c3
  rintro e w3 ⟨rfl, v3⟩
  have hb3 := hb2.wr0 v3
  have hw3 := hw2.trans v3
  clear v3 hb2 hw2 s3
  go_wp2_with fail
  refine (t1 w3).mono ?_
  rintro e w5 ⟨rfl, v5⟩
  go_wp2_with fail
  go_ret
  exact ⟨rfl, hw3.trans v5⟩
set_option maxHeartbeats 800000 in
theorem alike_4 (x y : KV) (hx : x.is 6 = false) (h1 : x.is 1 = false) (h2 : x.is 2 = false) (h3 : x.is 3 = false) (h4 : x.is 7 = true) (w : World) :
    Calls Try.prog 27 #[x.val, y.val] w fun e w' => e = .returned (.bool (y.is 7)) ∧ Wr [] w w' := by
  have a1 := fun w => as_item x w
  have s1 := fun w => sort1_any x w
  have s2 := fun w => sort2_any x w
  have s3 := fun w => sort3_any x w
  have s4 := fun w => sort4_any x w
  have t1 := fun w => sort4_any y w
  rw [hx] at a1
  rw [h1] at s1
  rw [h2] at s2
  rw [h3] at s3
  rw [h4] at s4
  clear hx h1 h2 h3 h4
  generalize x.val = V at a1 s1 s2 s3 s4 ⊢
  generalize y.val = U at t1 ⊢
  generalize x.typ = xt at a1 ⊢
  generalize x.num 6 = xn at a1 ⊢
  go_enter Try.func27, Try.ntmps27
  go_wp2_with fail
  have hw0 : Wr [] w ((w.alloc (Obj.cells #[Value.int IntKind.i64 xt, Value.int IntKind.i64 xn] 61)).alloc (Obj.cells #[Value.func (Fn.func 61) #[] #[], Value.func (Fn.func 62) #[] #[], Value.func (Fn.func 63) #[] #[], Value.func (Fn.func 64) #[] #[]] 36)) := ((Wr.refl [] w).alloc _).alloc _
  have hb0 : Blk ((w.alloc (Obj.cells #[Value.int IntKind.i64 xt, Value.int IntKind.i64 xn] 61)).alloc (Obj.cells #[Value.func (Fn.func 61) #[] #[], Value.func (Fn.func 62) #[] #[], Value.func (Fn.func 63) #[] #[], Value.func (Fn.func 64) #[] #[]] 36)) (w.heap.size + 1) 36 #[Value.func (Fn.func 61) #[] #[], Value.func (Fn.func 62) #[] #[], Value.func (Fn.func 63) #[] #[], Value.func (Fn.func 64) #[] #[]] := by
    have hb := Blk.new (w.alloc (Obj.cells #[Value.int IntKind.i64 xt, Value.int IntKind.i64 xn] 61)) 36 #[Value.func (Fn.func 61) #[] #[], Value.func (Fn.func 62) #[] #[], Value.func (Fn.func 63) #[] #[], Value.func (Fn.func 64) #[] #[]]
    rw [show (w.alloc (Obj.cells #[Value.int IntKind.i64 xt, Value.int IntKind.i64 xn] 61)).heap.size = w.heap.size + 1 by simp] at hb
    exact hb
  generalize ((w.alloc (Obj.cells #[Value.int IntKind.i64 xt, Value.int IntKind.i64 xn] 61)).alloc (Obj.cells #[Value.func (Fn.func 61) #[] #[], Value.func (Fn.func 62) #[] #[], Value.func (Fn.func 63) #[] #[], Value.func (Fn.func 64) #[] #[]] 36)) = w0 at hw0 hb0 ⊢
  generalize w.heap.size + 1 = g at hb0 ⊢
  refine wp_loop_rounds 5 ?_
  have c1 := hb0.cell 0
  simp at c1
  rw [rounds_succ]
  go_wp2_with fail
  refine (s1 w0).mono ?_
  clear c1
  rintro e w1 ⟨rfl, v1⟩
  have hb1 := hb0.wr0 v1
  have hw1 := hw0.trans v1
  clear v1 hb0 hw0 s1
  have c2 := hb1.cell 1
  simp at c2
  go_wp2_with fail
  rw [rounds_succ]
  go_wp2_with fail
  refine (s2 w1).mono ?_
  clear c2
  rintro e w2 ⟨rfl, v2⟩
  have hb2 := hb1.wr0 v2
  have hw2 := hw1.trans v2
  clear v2 hb1 hw1 s2
  have c3 := hb2.cell 2
  simp at c3
  go_wp2_with fail
  rw [rounds_succ]
  go_wp2_with fail
  refine (s3 w2).mono ?_
  clear c3
  rintro e w3 ⟨rfl, v3⟩
  have hb3 := hb2.wr0 v3
  have hw3 := hw2.trans v3
  clear v3 hb2 hw2 s3
  have c4 := hb3.cell 3
  simp at c4
  go_wp2_with fail
  rw [rounds_succ]
  go_wp2_with fail
  refine (s4 w3).mono ?_
  clear c4
  rintro e w4 ⟨rfl, v4⟩
  have hb4 := hb3.wr0 v4
  have hw4 := hw3.trans v4
  clear v4 hb3 hw3 s4
  go_wp2_with fail
  refine (t1 w4).mono ?_
  rintro e w5 ⟨rfl, v5⟩
  go_wp2_with fail
  go_ret
  exact ⟨rfl, hw4.trans v5⟩
set_option maxHeartbeats 800000 in
theorem alike_5 (x y : KV) (hx : x.is 6 = false) (h1 : x.is 1 = false) (h2 : x.is 2 = false) (h3 : x.is 3 = false) (h4 : x.is 7 = false) (w : World) :
    Calls Try.prog 27 #[x.val, y.val] w fun e w' => e = .returned (.bool (false)) ∧ Wr [] w w' := by
  have a1 := fun w => as_item x w
  have s1 := fun w => sort1_any x w
  have s2 := fun w => sort2_any x w
  have s3 := fun w => sort3_any x w
  have s4 := fun w => sort4_any x w
  rw [hx] at a1
  rw [h1] at s1
  rw [h2] at s2
  rw [h3] at s3
  rw [h4] at s4
  clear hx h1 h2 h3 h4
  generalize x.val = V at a1 s1 s2 s3 s4 ⊢
  generalize y.val = U at ⊢
  generalize x.typ = xt at a1 ⊢
  generalize x.num 6 = xn at a1 ⊢
  go_enter Try.func27, Try.ntmps27
  go_wp2_with fail
  have hw0 : Wr [] w ((w.alloc (Obj.cells #[Value.int IntKind.i64 xt, Value.int IntKind.i64 xn] 61)).alloc (Obj.cells #[Value.func (Fn.func 61) #[] #[], Value.func (Fn.func 62) #[] #[], Value.func (Fn.func 63) #[] #[], Value.func (Fn.func 64) #[] #[]] 36)) := ((Wr.refl [] w).alloc _).alloc _
  have hb0 : Blk ((w.alloc (Obj.cells #[Value.int IntKind.i64 xt, Value.int IntKind.i64 xn] 61)).alloc (Obj.cells #[Value.func (Fn.func 61) #[] #[], Value.func (Fn.func 62) #[] #[], Value.func (Fn.func 63) #[] #[], Value.func (Fn.func 64) #[] #[]] 36)) (w.heap.size + 1) 36 #[Value.func (Fn.func 61) #[] #[], Value.func (Fn.func 62) #[] #[], Value.func (Fn.func 63) #[] #[], Value.func (Fn.func 64) #[] #[]] := by
    have hb := Blk.new (w.alloc (Obj.cells #[Value.int IntKind.i64 xt, Value.int IntKind.i64 xn] 61)) 36 #[Value.func (Fn.func 61) #[] #[], Value.func (Fn.func 62) #[] #[], Value.func (Fn.func 63) #[] #[], Value.func (Fn.func 64) #[] #[]]
    rw [show (w.alloc (Obj.cells #[Value.int IntKind.i64 xt, Value.int IntKind.i64 xn] 61)).heap.size = w.heap.size + 1 by simp] at hb
    exact hb
  generalize ((w.alloc (Obj.cells #[Value.int IntKind.i64 xt, Value.int IntKind.i64 xn] 61)).alloc (Obj.cells #[Value.func (Fn.func 61) #[] #[], Value.func (Fn.func 62) #[] #[], Value.func (Fn.func 63) #[] #[], Value.func (Fn.func 64) #[] #[]] 36)) = w0 at hw0 hb0 ⊢
  generalize w.heap.size + 1 = g at hb0 ⊢
  refine wp_loop_rounds 5 ?_
  have c1 := hb0.cell 0
  simp at c1
  rw [rounds_succ]
  go_wp2_with fail
  refine (s1 w0).mono ?_
  clear c1
  rintro e w1 ⟨rfl, v1⟩
  have hb1 := hb0.wr0 v1
  have hw1 := hw0.trans v1
  clear v1 hb0 hw0 s1
  have c2 := hb1.cell 1
  simp at c2
  go_wp2_with fail
  rw [rounds_succ]
  go_wp2_with fail
  refine (s2 w1).mono ?_
  clear c2
  rintro e w2 ⟨rfl, v2⟩
  have hb2 := hb1.wr0 v2
  have hw2 := hw1.trans v2
  clear v2 hb1 hw1 s2
  have c3 := hb2.cell 2
  simp at c3
  go_wp2_with fail
  rw [rounds_succ]
  go_wp2_with fail
  refine (s3 w2).mono ?_
  clear c3
  rintro e w3 ⟨rfl, v3⟩
  have hb3 := hb2.wr0 v3
  have hw3 := hw2.trans v3
  clear v3 hb2 hw2 s3
  have c4 := hb3.cell 3
  simp at c4
  go_wp2_with fail
  rw [rounds_succ]
  go_wp2_with fail
  refine (s4 w3).mono ?_
  clear c4
  rintro e w4 ⟨rfl, v4⟩
  have hb4 := hb3.wr0 v4
  have hw4 := hw3.trans v4
  clear v4 hb3 hw3 s4
  go_wp2_with fail
  rw [rounds_succ]
  go_wp2_with fail
  go_ret
  exact ⟨rfl, hw4⟩

theorem KV.is_eq {x : KV} {k : Nat} : x.is k = true ↔ x.sort = k := by simp [KV.is]
theorem alike_any (x y : KV) (w : World) :
    Calls Try.prog 27 #[x.val, y.val] w fun e w' => e = .returned (.bool (alikeB x y)) ∧ Wr [] w w' := by
  by_cases h6 : x.sort = 6
  · by_cases k6 : y.sort = 6
    · have hv : alikeB x y = (x.typ == y.typ) := by simp [alikeB, KV.is, h6, k6]
      rw [hv]
      exact alike_item x y (by simp [KV.is, h6]) (by simp [KV.is, k6]) w
    · have hv : alikeB x y = false := by simp [alikeB, KV.is, h6, k6]
      rw [hv]
      exact alike_item_not x y (by simp [KV.is, h6]) (by simp [KV.is, k6]) w
  by_cases h1 : x.sort = 1
  · have hv : alikeB x y = y.is 1 := by simp [alikeB, h1]
    rw [hv]
    exact alike_1 x y (by simp [KV.is, h1]) (by simp [KV.is, h1]) w
  by_cases h2 : x.sort = 2
  · have hv : alikeB x y = y.is 2 := by simp [alikeB, h2]
    rw [hv]
    exact alike_2 x y (by simp [KV.is, h2]) (by simp [KV.is, h2]) (by simp [KV.is, h2]) w
  by_cases h3 : x.sort = 3
  · have hv : alikeB x y = y.is 3 := by simp [alikeB, h3]
    rw [hv]
    exact alike_3 x y (by simp [KV.is, h3]) (by simp [KV.is, h3]) (by simp [KV.is, h3]) (by simp [KV.is, h3]) w
  by_cases h7 : x.sort = 7
  · have hv : alikeB x y = y.is 7 := by simp [alikeB, h7]
    rw [hv]
    exact alike_4 x y (by simp [KV.is, h7]) (by simp [KV.is, h7]) (by simp [KV.is, h7]) (by simp [KV.is, h7]) (by simp [KV.is, h7]) w
  have hv : alikeB x y = false := by simp [alikeB, h1, h2, h3, h6, h7]
  rw [hv]
  exact alike_5 x y (by simp [KV.is, h6]) (by simp [KV.is, h1]) (by simp [KV.is, h2]) (by simp [KV.is, h3]) (by simp [KV.is, h7]) w

end Go.Proofs.Ytpfidbpbomamjaa
