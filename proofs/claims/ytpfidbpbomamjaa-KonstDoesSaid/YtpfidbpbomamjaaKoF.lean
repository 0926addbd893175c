/- konst's small functions, walked: inside, whole, Number, Is, letter. No conditions but that the value is one that Go has. -/
import Derived.Test.YtpfidbpbomamjaaKoV
namespace Go.Proofs.Ytpfidbpbomamjaa
open Go.RowKit
set_option linter.unusedVariables false

/-- May a whole number be? -/
def inB (n : Int) : Bool := decide (-32768 ≤ n) && decide (n ≤ 65535)
theorem inB_yes {n : Int} (h0 : -32768 ≤ n) (h1 : n ≤ 65535) : inB n = true := by simp [inB, h0, h1]
theorem inB_true {n : Int} (h : inB n = true) : -32768 ≤ n ∧ n ≤ 65535 := by simpa [inB] using h
theorem inB_false {n : Int} (h : inB n = false) : n < -32768 ∨ 65535 < n := by
  simp only [inB, Bool.and_eq_false_iff, decide_eq_false_iff_not] at h
  omega

/-- Such a value as Go has. -/
def KV.ok (x : KV) : Prop :=
  ((x.sort = 1 ∨ x.sort = 6 ∨ x.sort = 8) → -9223372036854775808 ≤ x.n ∧ x.n ≤ 9223372036854775807) ∧ (x.sort = 2 → 0 ≤ x.n ∧ x.n ≤ 255) ∧ (x.sort = 3 → x.n = 0 ∨ x.n = 1) ∧ (x.sort = 4 → 0 ≤ x.n ∧ x.n ≤ 65535) ∧
  (x.sort = 5 → x.s.size ≤ 9223372036854775807) ∧ (x.sort = 6 → -9223372036854775808 ≤ x.t ∧ x.t ≤ 9223372036854775807)

/-- The one byte of a string. -/
def byte0 (s : ByteArray) : Int := (s.data.toList.getD 0 0).toNat
theorem byte0_eq (s : ByteArray) (h : 0 < s.size) : ((s[0]'h).toNat : Int) = byte0 s := by
  unfold byte0
  obtain ⟨⟨l⟩⟩ := s
  cases l with
  | nil => exact absurd h (by simp [ByteArray.size])
  | cons x l => rfl
theorem byte0_range (s : ByteArray) : 0 ≤ byte0 s ∧ byte0 s ≤ 255 := by
  unfold byte0
  have := (s.data.toList.getD 0 0).toNat_lt
  omega

def KV.has (x : KV) : Bool := (x.is 1 && inB x.n) || x.is 2 || x.is 3 || x.is 6 || (x.is 5 && x.s.size == 1)
def KV.number (x : KV) : Int := if x.sort = 1 then (bif inB x.n then x.n else 0) else if x.sort = 2 ∨ x.sort = 3 ∨ x.sort = 6 then x.n else if x.sort = 5 ∧ x.s.size = 1 then byte0 x.s else 0
/-- Is it one? -/
def KV.isB (x : KV) : Bool := (x.is 1 && inB x.n) || x.is 2 || x.is 3 || x.is 4 || x.is 5 || x.is 6 || x.is 7
/-- A string of one byte is a letter. -/
def KV.letter (x : KV) : KV := if x.sort = 5 ∧ x.s.size = 1 then ⟨2, byte0 x.s, 0, ⟨#[]⟩⟩ else x

set_option maxHeartbeats 400000 in
theorem inside_any (n : Int) (w : World) :
    Calls Try.prog 28 #[.int .i64 n] w fun e w' => e = .returned (.tuple #[.int .i64 (bif inB n then n else 0), .bool (inB n)]) ∧ w = w' := by
  by_cases h0 : n < -32768
  · have hv : inB n = false := by simp [inB]; omega
    rw [hv]
    clear hv
    go_enter Try.func28, Try.ntmps28
    go_wp2
    go_ret2
    exact ⟨rfl, rfl⟩
  · by_cases h1 : 65535 < n
    · have hv : inB n = false := by simp [inB]; omega
      rw [hv]
      clear hv
      go_enter Try.func28, Try.ntmps28
      go_wp2
      go_ret2
      exact ⟨rfl, rfl⟩
    · have hv : inB n = true := inB_yes (by omega) (by omega)
      rw [hv]
      clear hv
      go_enter Try.func28, Try.ntmps28
      go_wp2
      go_ret2
      exact ⟨rfl, rfl⟩

def KV.none_ : KV := ⟨0, 0, 0, ⟨#[]⟩⟩
def KV.whole (n : Int) : KV := ⟨1, n, 0, ⟨#[]⟩⟩
def KV.truth (b : Bool) : KV := ⟨3, bif b then 1 else 0, 0, ⟨#[]⟩⟩
def KV.bits (n : Int) : KV := ⟨4, n, 0, ⟨#[]⟩⟩
theorem KV.none_val : KV.none_.val = .nilIface := rfl
theorem KV.whole_val (n : Int) : (KV.whole n).val = .iface 34 (.int .i64 n) := rfl
theorem KV.bits_val (n : Int) : (KV.bits n).val = .iface 39 (.int .u16 n) := rfl
theorem KV.truth_val (b : Bool) : (KV.truth b).val = .iface 40 (.bool b) := by cases b <;> rfl

/-- What becomes of a sum, or such. -/
def wholeK (n : Int) : KV × Int := bif inB n then (KV.whole n, 0) else (KV.none_, 101)

theorem mkIface {T : TypeId} (h : Try.prog.concrete T = true) (v : Value) (w : World) : (Instr.makeInterface T v).run Try.prog w = .ok (.iface T v) w := run_makeInterface w T v h

set_option maxHeartbeats 400000 in
theorem whole_any (n : Int) (w : World) :
    Calls Try.prog 37 #[.int .i64 n] w fun e w' => e = .returned (.tuple #[(wholeK n).1.val, .int .i64 (wholeK n).2]) ∧ w = w' := by
  have hin := inside_any n w
  unfold wholeK
  cases hb : inB n with
  | true =>
    rw [hb] at hin
    go_enter Try.func37, Try.ntmps37
    go_wp2_with fail
    refine hin.mono ?_
    clear hin hb
    rintro e w1 ⟨rfl, rfl⟩
    go_wp2_with fail
    go_ret2
    exact ⟨rfl, rfl⟩
  | false =>
    rw [hb] at hin
    go_enter Try.func37, Try.ntmps37
    go_wp2_with fail
    refine hin.mono ?_
    clear hin hb
    rintro e w1 ⟨rfl, rfl⟩
    go_wp2_with fail
    go_ret2
    exact ⟨rfl, rfl⟩

set_option maxHeartbeats 400000 in
theorem letter_any (x : KV) (hx : x.ok) (w : World) :
    Calls Try.prog 26 #[x.val] w fun e w' => e = .returned x.letter.val ∧ w = w' := by
  have a5 := fun w => as_string x w
  by_cases h5 : x.sort = 5
  · have i5 : x.is 5 = true := by simp [KV.is, h5]
    have hs : x.str = x.s := by simp [KV.str, h5]
    have hm := hx.2.2.2.2.1 h5
    rw [hs] at a5
    by_cases h1 : x.s.size = 1
    · have hl : x.letter = ⟨2, byte0 x.s, 0, ⟨#[]⟩⟩ := by simp [KV.letter, h5, h1]
      have hv : x.letter.val = .iface 55 (.int .u8 (byte0 x.s)) := by rw [hl]; rfl
      have h0 : 0 < x.s.size := by omega
      have hb := byte0_eq x.s h0
      rw [hv, ← hb]
      have hlen : ((x.s.size : Int) == 1) = true := by simp [h1]
      clear hv hl hb h5 hs h1
      go_enter Try.func26, Try.ntmps26
      go_wp2
      go_ret
      exact ⟨rfl, rfl⟩
    · have hl : x.letter = x := by simp [KV.letter, h1]
      rw [hl]
      have hlen : ((x.s.size : Int) == 1) = false := by simp; omega
      clear hl h5 hs h1
      go_enter Try.func26, Try.ntmps26
      go_wp2
      go_ret
      exact ⟨rfl, rfl⟩
  · have i5 : x.is 5 = false := by simp [KV.is, h5]
    have hl : x.letter = x := by simp [KV.letter, h5]
    rw [hl]
    clear hl h5
    go_enter Try.func26, Try.ntmps26
    go_wp2
    go_ret
    exact ⟨rfl, rfl⟩

/-- A key and its value put into a map that was just made. -/
theorem run_insert {P : Program} {T K E : TypeId} {d : TypeDesc} (hu : P.underlying T = some (.map K E)) (hk : P.underlying K = some d) (w w1 : World) (r : Nat) (es : Array MapEntry) (c : Nat) (k v : Value)
    (hw : w1.heap[r]? = some (.map es c)) (hc : ∀ w, (Instr.checkKey false 10000 K k).run P w = .ok () w) (hf : Instr.findNow d k es.toList 0 = some none) :
    (Instr.mapUpdate T (.map (some r)) k v).run P w1 = .ok () { w1 with heap := w1.heap.setIfInBounds r (.map (es.push { key := k, val := v, born := c }) (c + 1)) } := by
  simp [Instr.mapUpdate, run_underlying hu, Sem.run_bind, hc, Instr.findKey, run_underlying hk, hf, getObj, setObj, Sem.run, hw, Result.andThen]

/-- The same of a map in the newest block. -/
theorem run_insert_new {P : Program} {T K E : TypeId} {d : TypeDesc} (hu : P.underlying T = some (.map K E)) (hk : P.underlying K = some d) (w : World) (es : Array MapEntry) (c : Nat) (k v : Value)
    (hc : ∀ w, (Instr.checkKey false 10000 K k).run P w = .ok () w) (hf : Instr.findNow d k es.toList 0 = some none) :
    (Instr.mapUpdate T (.map (some w.heap.size)) k v).run P (w.alloc (.map es c)) = .ok () (w.alloc (.map (es.push { key := k, val := v, born := c }) (c + 1))) := by
  rw [run_insert hu hk w (w.alloc (.map es c)) w.heap.size es c k v (heap_alloc_new w _) hc hf]
  have h : ∀ (a : Array Obj) (o o' : Obj), (a.push o).setIfInBounds a.size o' = a.push o' := by
    intro a o o'
    apply Array.ext'
    simp
  exact congrArg (fun hp => Result.ok () ({ w with heap := hp } : World)) (h w.heap _ _)

/-- What a look-up finds. -/
theorem run_lookup_at {P : Program} {T K E : TypeId} {d : TypeDesc} (hu : P.underlying T = some (.map K E)) (hk : P.underlying K = some d) (w : World) (r : Nat) (es : Array MapEntry) (c : Nat) (k : Value) (o : Option (Nat × Value)) (z : Value)
    (hw : w.heap[r]? = some (.map es c)) (hc : ∀ b w, (Instr.checkKey b 10000 K k).run P w = .ok () w) (hf : Instr.findNow d k es.toList 0 = some o) (hz : ∀ w, (zeroValue E).run P w = .ok z w) (ok : Bool) :
    (Instr.lookup T (.map (some r)) k ok).run P w = .ok (bif ok then .tuple #[(o.map (·.2)).getD z, .bool o.isSome] else (o.map (·.2)).getD z) w := by
  cases o with
  | none => cases ok <;> simp [Instr.lookup, run_underlying hu, Sem.run_bind, hc, Instr.findKey, run_underlying hk, hf, getObj, Sem.run, hw, Result.andThen, hz]
  | some p => cases ok <;> simp [Instr.lookup, run_underlying hu, Sem.run_bind, hc, Instr.findKey, run_underlying hk, hf, getObj, Sem.run, hw, Result.andThen]
end Go.Proofs.Ytpfidbpbomamjaa
