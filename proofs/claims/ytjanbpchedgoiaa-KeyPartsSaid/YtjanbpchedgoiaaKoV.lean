/- The values of constants: as what lies in an interface value; what a type assertion says of each. No conditions. -/
import Derived.Test.YtjanbpchedgoiaaCom
namespace Go.Proofs.Ytjanbpchedgoiaa
open Go.RowKit
set_option linter.unusedVariables false

/-- A value, by its sort: 1 a whole number, 2 a letter, 3 a truth (n: 1, or 0), 4 a set, 5 a string, 6 an item, 7 null, 8 a number that is no value; else none. -/
structure KV where
  sort : Nat
  n : Int
  t : Int
  s : ByteArray

def KV.is (x : KV) (k : Nat) : Bool := x.sort == k
def KV.num (x : KV) (k : Nat) : Int := if x.sort = k then x.n else 0
def KV.tru (x : KV) : Bool := x.sort == 3 && x.n == 1
def KV.str (x : KV) : ByteArray := if x.sort = 5 then x.s else ⟨#[]⟩
def KV.typ (x : KV) : Int := if x.sort = 6 then x.t else 0
def KV.val (x : KV) : Value :=
  if x.sort = 1 then .iface 94 (.int .i64 x.n) else if x.sort = 2 then .iface 95 (.int .u8 x.n) else if x.sort = 3 then .iface 96 (.bool (x.n == 1))
  else if x.sort = 4 then .iface 97 (.int .u16 x.n) else if x.sort = 5 then .iface 98 (.string x.s) else if x.sort = 6 then .iface 79 (.agg #[.int .i64 x.t, .int .i64 x.n])
  else if x.sort = 7 then .iface 100 (.agg #[]) else if x.sort = 8 then .iface 2 (.int .i64 x.n) else .nilIface

theorem KV.val_cases (x : KV) (Q : Value → Prop) (h1 : x.sort = 1 → Q (.iface 94 (.int .i64 x.n))) (h2 : x.sort = 2 → Q (.iface 95 (.int .u8 x.n))) (h3 : x.sort = 3 → Q (.iface 96 (.bool (x.n == 1))))
    (h4 : x.sort = 4 → Q (.iface 97 (.int .u16 x.n))) (h5 : x.sort = 5 → Q (.iface 98 (.string x.s))) (h6 : x.sort = 6 → Q (.iface 79 (.agg #[.int .i64 x.t, .int .i64 x.n])))
    (h7 : x.sort = 7 → Q (.iface 100 (.agg #[]))) (h8 : x.sort = 8 → Q (.iface 2 (.int .i64 x.n))) (h0 : x.sort = 0 ∨ 8 < x.sort → Q .nilIface) : Q x.val := by
  unfold KV.val
  by_cases c1 : x.sort = 1
  · rw [if_pos c1]; exact h1 c1
  by_cases c2 : x.sort = 2
  · rw [if_neg c1, if_pos c2]; exact h2 c2
  by_cases c3 : x.sort = 3
  · rw [if_neg c1, if_neg c2, if_pos c3]; exact h3 c3
  by_cases c4 : x.sort = 4
  · rw [if_neg c1, if_neg c2, if_neg c3, if_pos c4]; exact h4 c4
  by_cases c5 : x.sort = 5
  · rw [if_neg c1, if_neg c2, if_neg c3, if_neg c4, if_pos c5]; exact h5 c5
  by_cases c6 : x.sort = 6
  · rw [if_neg c1, if_neg c2, if_neg c3, if_neg c4, if_neg c5, if_pos c6]; exact h6 c6
  by_cases c7 : x.sort = 7
  · rw [if_neg c1, if_neg c2, if_neg c3, if_neg c4, if_neg c5, if_neg c6, if_pos c7]; exact h7 c7
  by_cases c8 : x.sort = 8
  · rw [if_neg c1, if_neg c2, if_neg c3, if_neg c4, if_neg c5, if_neg c6, if_neg c7, if_pos c8]; exact h8 c8
  rw [if_neg c1, if_neg c2, if_neg c3, if_neg c4, if_neg c5, if_neg c6, if_neg c7, if_neg c8]; exact h0 (by omega)

theorem as_self {T xT : TypeId} {u : TypeDesc} (hu : Try.prog.underlying T = some u) (hi : (match u with | .interface _ => true | _ => false) = false) (v : Value) (w : World) :
    (Instr.typeAssert (.iface T v) xT T true).run Try.prog w = .ok (.tuple #[v, .bool true]) w := by
  cases u <;> first | (cases hi; done) | simp [Instr.typeAssert, run_underlying hu]

theorem as_other {T xT t : TypeId} {u : TypeDesc} {z : Value} (hu : Try.prog.underlying T = some u) (hi : (match u with | .interface _ => true | _ => false) = false) (hz : ∀ w, (zeroValue T).run Try.prog w = .ok z w) (ht : t ≠ T) (v : Value) (w : World) :
    (Instr.typeAssert (.iface t v) xT T true).run Try.prog w = .ok (.tuple #[z, .bool false]) w := by
  cases u <;> first | (cases hi; done) | simp [Instr.typeAssert, run_underlying hu, ht, hz]

theorem as_nil {T xT : TypeId} {u : TypeDesc} {z : Value} (hu : Try.prog.underlying T = some u) (hi : (match u with | .interface _ => true | _ => false) = false) (hz : ∀ w, (zeroValue T).run Try.prog w = .ok z w) (w : World) :
    (Instr.typeAssert .nilIface xT T true).run Try.prog w = .ok (.tuple #[z, .bool false]) w := by
  cases u <;> first | (cases hi; done) | simp [Instr.typeAssert, run_underlying hu, hz]

theorem as_whole (x : KV) (w : World) : (Instr.typeAssert x.val 20 94 true).run Try.prog w = .ok (.tuple #[.int .i64 (x.num 1), .bool (x.is 1)]) w := by
  refine x.val_cases (fun V => (Instr.typeAssert V 20 94 true).run Try.prog w = .ok (.tuple #[.int .i64 (x.num 1), .bool (x.is 1)]) w) ?_ ?_ ?_ ?_ ?_ ?_ ?_ ?_ ?_ <;> intro h
  all_goals first
    | (rw [as_self Try.underlying94 rfl]; simp [KV.num, KV.is, h]; done)
    | (rw [as_other Try.underlying94 rfl Try.zeroValue94 (by decide)]; simp [KV.num, KV.is, h]; done)
    | (rw [as_nil Try.underlying94 rfl Try.zeroValue94]; have h1 : x.sort ≠ 1 := by omega
       simp [KV.num, KV.is, h1]; done)

theorem as_letter (x : KV) (w : World) : (Instr.typeAssert x.val 20 95 true).run Try.prog w = .ok (.tuple #[.int .u8 (x.num 2), .bool (x.is 2)]) w := by
  refine x.val_cases (fun V => (Instr.typeAssert V 20 95 true).run Try.prog w = .ok (.tuple #[.int .u8 (x.num 2), .bool (x.is 2)]) w) ?_ ?_ ?_ ?_ ?_ ?_ ?_ ?_ ?_ <;> intro h
  all_goals first
    | (rw [as_self Try.underlying95 rfl]; simp [KV.num, KV.is, h]; done)
    | (rw [as_other Try.underlying95 rfl Try.zeroValue95 (by decide)]; simp [KV.num, KV.is, h]; done)
    | (rw [as_nil Try.underlying95 rfl Try.zeroValue95]; have h1 : x.sort ≠ 2 := by omega
       simp [KV.num, KV.is, h1]; done)

theorem as_truth (x : KV) (w : World) : (Instr.typeAssert x.val 20 96 true).run Try.prog w = .ok (.tuple #[.bool x.tru, .bool (x.is 3)]) w := by
  refine x.val_cases (fun V => (Instr.typeAssert V 20 96 true).run Try.prog w = .ok (.tuple #[.bool x.tru, .bool (x.is 3)]) w) ?_ ?_ ?_ ?_ ?_ ?_ ?_ ?_ ?_ <;> intro h
  all_goals first
    | (rw [as_self Try.underlying96 rfl]; simp [KV.tru, KV.is, h]; done)
    | (rw [as_other Try.underlying96 rfl Try.zeroValue96 (by decide)]; simp [KV.tru, KV.is, h]; done)
    | (rw [as_nil Try.underlying96 rfl Try.zeroValue96]; have h1 : x.sort ≠ 3 := by omega
       simp [KV.tru, KV.is, h1]; done)

theorem as_bits (x : KV) (w : World) : (Instr.typeAssert x.val 20 97 true).run Try.prog w = .ok (.tuple #[.int .u16 (x.num 4), .bool (x.is 4)]) w := by
  refine x.val_cases (fun V => (Instr.typeAssert V 20 97 true).run Try.prog w = .ok (.tuple #[.int .u16 (x.num 4), .bool (x.is 4)]) w) ?_ ?_ ?_ ?_ ?_ ?_ ?_ ?_ ?_ <;> intro h
  all_goals first
    | (rw [as_self Try.underlying97 rfl]; simp [KV.num, KV.is, h]; done)
    | (rw [as_other Try.underlying97 rfl Try.zeroValue97 (by decide)]; simp [KV.num, KV.is, h]; done)
    | (rw [as_nil Try.underlying97 rfl Try.zeroValue97]; have h1 : x.sort ≠ 4 := by omega
       simp [KV.num, KV.is, h1]; done)

theorem as_string (x : KV) (w : World) : (Instr.typeAssert x.val 20 98 true).run Try.prog w = .ok (.tuple #[.string x.str, .bool (x.is 5)]) w := by
  refine x.val_cases (fun V => (Instr.typeAssert V 20 98 true).run Try.prog w = .ok (.tuple #[.string x.str, .bool (x.is 5)]) w) ?_ ?_ ?_ ?_ ?_ ?_ ?_ ?_ ?_ <;> intro h
  all_goals first
    | (rw [as_self Try.underlying98 rfl]; simp [KV.str, KV.is, h]; done)
    | (rw [as_other Try.underlying98 rfl Try.zeroValue98 (by decide)]; simp [KV.str, KV.is, h]; done)
    | (rw [as_nil Try.underlying98 rfl Try.zeroValue98]; have h1 : x.sort ≠ 5 := by omega
       simp [KV.str, KV.is, h1]; done)

theorem as_item (x : KV) (w : World) : (Instr.typeAssert x.val 20 79 true).run Try.prog w = .ok (.tuple #[.agg #[.int .i64 x.typ, .int .i64 (x.num 6)], .bool (x.is 6)]) w := by
  refine x.val_cases (fun V => (Instr.typeAssert V 20 79 true).run Try.prog w = .ok (.tuple #[.agg #[.int .i64 x.typ, .int .i64 (x.num 6)], .bool (x.is 6)]) w) ?_ ?_ ?_ ?_ ?_ ?_ ?_ ?_ ?_ <;> intro h
  all_goals first
    | (rw [as_self Try.underlying79 rfl]; simp [KV.num, KV.typ, KV.is, h]; done)
    | (rw [as_other Try.underlying79 rfl Try.zeroValue79 (by decide)]; simp [KV.num, KV.typ, KV.is, h]; done)
    | (rw [as_nil Try.underlying79 rfl Try.zeroValue79]; have h1 : x.sort ≠ 6 := by omega
       simp [KV.num, KV.typ, KV.is, h1]; done)

theorem as_null (x : KV) (w : World) : (Instr.typeAssert x.val 20 100 true).run Try.prog w = .ok (.tuple #[.agg #[], .bool (x.is 7)]) w := by
  refine x.val_cases (fun V => (Instr.typeAssert V 20 100 true).run Try.prog w = .ok (.tuple #[.agg #[], .bool (x.is 7)]) w) ?_ ?_ ?_ ?_ ?_ ?_ ?_ ?_ ?_ <;> intro h
  all_goals first
    | (rw [as_self Try.underlying100 rfl]; simp [KV.num, KV.is, h]; done)
    | (rw [as_other Try.underlying100 rfl Try.zeroValue100 (by decide)]; simp [KV.num, KV.is, h]; done)
    | (rw [as_nil Try.underlying100 rfl Try.zeroValue100]; have h1 : x.sort ≠ 7 := by omega
       simp [KV.num, KV.is, h1]; done)

end Go.Proofs.Ytjanbpchedgoiaa
