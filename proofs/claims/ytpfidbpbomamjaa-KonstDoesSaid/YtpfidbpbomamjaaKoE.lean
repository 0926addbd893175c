/- The operators: what the three tables say of each. No conditions. -/
import Derived.Test.YtpfidbpbomamjaaKoC
namespace Go.Proofs.Ytpfidbpbomamjaa
open Go.RowKit
set_option linter.unusedVariables false

def AsksP (w : World) (e : Ending) (w' : World) : Prop := ∃ r, e = .returned (.map (some r)) ∧ Wr [] w w' ∧ w'.heap[r]? = some (.map asksEs 6)
def SetsP (w : World) (e : Ending) (w' : World) : Prop := ∃ r, e = .returned (.map (some r)) ∧ Wr [] w w' ∧ w'.heap[r]? = some (.map setsEs 8)
def WholesP (w : World) (e : Ending) (w' : World) : Prop := ∃ r, e = .returned (.map (some r)) ∧ Wr [] w w' ∧ w'.heap[r]? = some (.map (wholesEs r) 5) ∧
  w'.cell? ⟨r + 1, 0, none⟩ = some (.func (.func 51) #[] #[]) ∧ w'.cell? ⟨r + 2, 0, none⟩ = some (.func (.func 52) #[] #[])
theorem asks_P (w : World) : Calls Try.prog 23 #[] w (AsksP w) := by
  refine (asks_any w).mono ?_
  rintro e w' ⟨rfl, rfl⟩
  exact ⟨_, rfl, (Wr.refl [] w).alloc _, heap_alloc_new w _⟩
theorem sets_P (w : World) : Calls Try.prog 25 #[] w (SetsP w) := by
  refine (sets_any w).mono ?_
  rintro e w' ⟨rfl, rfl⟩
  exact ⟨_, rfl, (Wr.refl [] w).alloc _, heap_alloc_new w _⟩
theorem wholes_P (w : World) : Calls Try.prog 24 #[] w (WholesP w) := by
  refine (wholes_any w).mono ?_
  rintro e w' ⟨rfl, rfl⟩
  have hs1 : ∀ (w : World) (o : Obj), (w.alloc o).heap.size = w.heap.size + 1 := by intro w o; simp
  refine ⟨_, rfl, (((Wr.refl [] w).alloc _).alloc _).alloc _, ?_, ?_, ?_⟩
  · refine (Below.heap_alloc _ _ _ (by rw [hs1, hs1]; omega)).trans ((Below.heap_alloc _ _ _ (by rw [hs1]; omega)).trans (heap_alloc_new w _))
  · have hb := Blk.new (w.alloc (.map (wholesEs w.heap.size) 5)) 92 #[.func (.func 51) #[] #[]]
    rw [hs1] at hb
    have hc := (hb.alloc (.cells #[.func (.func 52) #[] #[]] 92)).cell 0
    exact hc
  · have hb := Blk.new ((w.alloc (.map (wholesEs w.heap.size) 5)).alloc (.cells #[.func (.func 51) #[] #[]] 92)) 92 #[.func (.func 52) #[] #[]]
    rw [hs1, hs1] at hb
    exact hb.cell 0

theorem zero_ask (w : World) : (zeroValue 62).run Try.prog w = .ok .nilFunc w := by
  simp [zeroValue]
  rfl
theorem zero_whole (w : World) : (zeroValue 66).run Try.prog w = .ok .nilFunc w := by
  simp [zeroValue]
  rfl
theorem zero_set (w : World) : (zeroValue 70).run Try.prog w = .ok .nilFunc w := by
  simp [zeroValue]
  rfl

/-- What the three tables say of an operator. -/
structure OpF (s : ByteArray) (ba br bo : Bool) (fa : Value) (fw : Nat → Value) (fs : Value) : Prop where
  lookA : ∀ r w, w.heap[r]? = some (.map asksEs 6) → (Instr.lookup 64 (.map (some r)) (.string s) true).run Try.prog w = .ok (.tuple #[fa, .bool ba]) w
  lookW : ∀ r w, w.heap[r]? = some (.map (wholesEs r) 5) → (Instr.lookup 68 (.map (some r)) (.string s) true).run Try.prog w = .ok (.tuple #[fw r, .bool br]) w
  lookS : ∀ r w, w.heap[r]? = some (.map setsEs 8) → (Instr.lookup 72 (.map (some r)) (.string s) true).run Try.prog w = .ok (.tuple #[fs, .bool bo]) w

theorem op0 : OpF ⟨#[43]⟩ false true true (.nilFunc) (fun _ => .func (.func 48) #[] #[]) (.func (.func 53) #[] #[]) :=
  ⟨fun r w hr => run_lookup_at Try.underlying64 Try.underlying9 w r asksEs 6 (.string ⟨#[43]⟩) none .nilFunc hr (fun e w => key_str _ e w) (by kernel_rfl) zero_ask true,
   fun r w hr => run_lookup_at Try.underlying68 Try.underlying9 w r (wholesEs r) 5 (.string ⟨#[43]⟩) (some (0, .func (.func 48) #[] #[])) .nilFunc hr (fun e w => key_str _ e w) (by kernel_rfl) zero_whole true,
   fun r w hr => run_lookup_at Try.underlying72 Try.underlying9 w r setsEs 8 (.string ⟨#[43]⟩) (some (0, .func (.func 53) #[] #[])) .nilFunc hr (fun e w => key_str _ e w) (by kernel_rfl) zero_set true⟩
theorem op1 : OpF ⟨#[45]⟩ false true true (.nilFunc) (fun _ => .func (.func 49) #[] #[]) (.func (.func 54) #[] #[]) :=
  ⟨fun r w hr => run_lookup_at Try.underlying64 Try.underlying9 w r asksEs 6 (.string ⟨#[45]⟩) none .nilFunc hr (fun e w => key_str _ e w) (by kernel_rfl) zero_ask true,
   fun r w hr => run_lookup_at Try.underlying68 Try.underlying9 w r (wholesEs r) 5 (.string ⟨#[45]⟩) (some (1, .func (.func 49) #[] #[])) .nilFunc hr (fun e w => key_str _ e w) (by kernel_rfl) zero_whole true,
   fun r w hr => run_lookup_at Try.underlying72 Try.underlying9 w r setsEs 8 (.string ⟨#[45]⟩) (some (1, .func (.func 54) #[] #[])) .nilFunc hr (fun e w => key_str _ e w) (by kernel_rfl) zero_set true⟩
theorem op2 : OpF ⟨#[42]⟩ false true true (.nilFunc) (fun _ => .func (.func 50) #[] #[]) (.func (.func 55) #[] #[]) :=
  ⟨fun r w hr => run_lookup_at Try.underlying64 Try.underlying9 w r asksEs 6 (.string ⟨#[42]⟩) none .nilFunc hr (fun e w => key_str _ e w) (by kernel_rfl) zero_ask true,
   fun r w hr => run_lookup_at Try.underlying68 Try.underlying9 w r (wholesEs r) 5 (.string ⟨#[42]⟩) (some (2, .func (.func 50) #[] #[])) .nilFunc hr (fun e w => key_str _ e w) (by kernel_rfl) zero_whole true,
   fun r w hr => run_lookup_at Try.underlying72 Try.underlying9 w r setsEs 8 (.string ⟨#[42]⟩) (some (2, .func (.func 55) #[] #[])) .nilFunc hr (fun e w => key_str _ e w) (by kernel_rfl) zero_set true⟩
theorem op3 : OpF ⟨#[47]⟩ false false true (.nilFunc) (fun _ => .nilFunc) (.func (.func 56) #[] #[]) :=
  ⟨fun r w hr => run_lookup_at Try.underlying64 Try.underlying9 w r asksEs 6 (.string ⟨#[47]⟩) none .nilFunc hr (fun e w => key_str _ e w) (by kernel_rfl) zero_ask true,
   fun r w hr => run_lookup_at Try.underlying68 Try.underlying9 w r (wholesEs r) 5 (.string ⟨#[47]⟩) none .nilFunc hr (fun e w => key_str _ e w) (by kernel_rfl) zero_whole true,
   fun r w hr => run_lookup_at Try.underlying72 Try.underlying9 w r setsEs 8 (.string ⟨#[47]⟩) (some (3, .func (.func 56) #[] #[])) .nilFunc hr (fun e w => key_str _ e w) (by kernel_rfl) zero_set true⟩
theorem op4 : OpF ⟨#[68, 73, 86]⟩ false true false (.nilFunc) (fun r => .func (.func 47) #[] #[.pointer (some ⟨r + 1, 0, none⟩)]) (.nilFunc) :=
  ⟨fun r w hr => run_lookup_at Try.underlying64 Try.underlying9 w r asksEs 6 (.string ⟨#[68, 73, 86]⟩) none .nilFunc hr (fun e w => key_str _ e w) (by kernel_rfl) zero_ask true,
   fun r w hr => run_lookup_at Try.underlying68 Try.underlying9 w r (wholesEs r) 5 (.string ⟨#[68, 73, 86]⟩) (some (3, .func (.func 47) #[] #[.pointer (some ⟨r + 1, 0, none⟩)])) .nilFunc hr (fun e w => key_str _ e w) (by kernel_rfl) zero_whole true,
   fun r w hr => run_lookup_at Try.underlying72 Try.underlying9 w r setsEs 8 (.string ⟨#[68, 73, 86]⟩) none .nilFunc hr (fun e w => key_str _ e w) (by kernel_rfl) zero_set true⟩
theorem op5 : OpF ⟨#[77, 79, 68]⟩ false true false (.nilFunc) (fun r => .func (.func 47) #[] #[.pointer (some ⟨r + 2, 0, none⟩)]) (.nilFunc) :=
  ⟨fun r w hr => run_lookup_at Try.underlying64 Try.underlying9 w r asksEs 6 (.string ⟨#[77, 79, 68]⟩) none .nilFunc hr (fun e w => key_str _ e w) (by kernel_rfl) zero_ask true,
   fun r w hr => run_lookup_at Try.underlying68 Try.underlying9 w r (wholesEs r) 5 (.string ⟨#[77, 79, 68]⟩) (some (4, .func (.func 47) #[] #[.pointer (some ⟨r + 2, 0, none⟩)])) .nilFunc hr (fun e w => key_str _ e w) (by kernel_rfl) zero_whole true,
   fun r w hr => run_lookup_at Try.underlying72 Try.underlying9 w r setsEs 8 (.string ⟨#[77, 79, 68]⟩) none .nilFunc hr (fun e w => key_str _ e w) (by kernel_rfl) zero_set true⟩
theorem op6 : OpF ⟨#[65, 78, 68]⟩ false false false (.nilFunc) (fun _ => .nilFunc) (.nilFunc) :=
  ⟨fun r w hr => run_lookup_at Try.underlying64 Try.underlying9 w r asksEs 6 (.string ⟨#[65, 78, 68]⟩) none .nilFunc hr (fun e w => key_str _ e w) (by kernel_rfl) zero_ask true,
   fun r w hr => run_lookup_at Try.underlying68 Try.underlying9 w r (wholesEs r) 5 (.string ⟨#[65, 78, 68]⟩) none .nilFunc hr (fun e w => key_str _ e w) (by kernel_rfl) zero_whole true,
   fun r w hr => run_lookup_at Try.underlying72 Try.underlying9 w r setsEs 8 (.string ⟨#[65, 78, 68]⟩) none .nilFunc hr (fun e w => key_str _ e w) (by kernel_rfl) zero_set true⟩
theorem op7 : OpF ⟨#[79, 82]⟩ false false false (.nilFunc) (fun _ => .nilFunc) (.nilFunc) :=
  ⟨fun r w hr => run_lookup_at Try.underlying64 Try.underlying9 w r asksEs 6 (.string ⟨#[79, 82]⟩) none .nilFunc hr (fun e w => key_str _ e w) (by kernel_rfl) zero_ask true,
   fun r w hr => run_lookup_at Try.underlying68 Try.underlying9 w r (wholesEs r) 5 (.string ⟨#[79, 82]⟩) none .nilFunc hr (fun e w => key_str _ e w) (by kernel_rfl) zero_whole true,
   fun r w hr => run_lookup_at Try.underlying72 Try.underlying9 w r setsEs 8 (.string ⟨#[79, 82]⟩) none .nilFunc hr (fun e w => key_str _ e w) (by kernel_rfl) zero_set true⟩
theorem op8 : OpF ⟨#[61]⟩ true false true (.func (.func 40) #[] #[]) (fun _ => .nilFunc) (.func (.func 59) #[] #[]) :=
  ⟨fun r w hr => run_lookup_at Try.underlying64 Try.underlying9 w r asksEs 6 (.string ⟨#[61]⟩) (some (0, .func (.func 40) #[] #[])) .nilFunc hr (fun e w => key_str _ e w) (by kernel_rfl) zero_ask true,
   fun r w hr => run_lookup_at Try.underlying68 Try.underlying9 w r (wholesEs r) 5 (.string ⟨#[61]⟩) none .nilFunc hr (fun e w => key_str _ e w) (by kernel_rfl) zero_whole true,
   fun r w hr => run_lookup_at Try.underlying72 Try.underlying9 w r setsEs 8 (.string ⟨#[61]⟩) (some (6, .func (.func 59) #[] #[])) .nilFunc hr (fun e w => key_str _ e w) (by kernel_rfl) zero_set true⟩
theorem op9 : OpF ⟨#[35]⟩ true false true (.func (.func 41) #[] #[]) (fun _ => .nilFunc) (.func (.func 60) #[] #[]) :=
  ⟨fun r w hr => run_lookup_at Try.underlying64 Try.underlying9 w r asksEs 6 (.string ⟨#[35]⟩) (some (1, .func (.func 41) #[] #[])) .nilFunc hr (fun e w => key_str _ e w) (by kernel_rfl) zero_ask true,
   fun r w hr => run_lookup_at Try.underlying68 Try.underlying9 w r (wholesEs r) 5 (.string ⟨#[35]⟩) none .nilFunc hr (fun e w => key_str _ e w) (by kernel_rfl) zero_whole true,
   fun r w hr => run_lookup_at Try.underlying72 Try.underlying9 w r setsEs 8 (.string ⟨#[35]⟩) (some (7, .func (.func 60) #[] #[])) .nilFunc hr (fun e w => key_str _ e w) (by kernel_rfl) zero_set true⟩
theorem op10 : OpF ⟨#[60]⟩ true false false (.func (.func 42) #[] #[]) (fun _ => .nilFunc) (.nilFunc) :=
  ⟨fun r w hr => run_lookup_at Try.underlying64 Try.underlying9 w r asksEs 6 (.string ⟨#[60]⟩) (some (2, .func (.func 42) #[] #[])) .nilFunc hr (fun e w => key_str _ e w) (by kernel_rfl) zero_ask true,
   fun r w hr => run_lookup_at Try.underlying68 Try.underlying9 w r (wholesEs r) 5 (.string ⟨#[60]⟩) none .nilFunc hr (fun e w => key_str _ e w) (by kernel_rfl) zero_whole true,
   fun r w hr => run_lookup_at Try.underlying72 Try.underlying9 w r setsEs 8 (.string ⟨#[60]⟩) none .nilFunc hr (fun e w => key_str _ e w) (by kernel_rfl) zero_set true⟩
theorem op11 : OpF ⟨#[60, 61]⟩ true false true (.func (.func 43) #[] #[]) (fun _ => .nilFunc) (.func (.func 57) #[] #[]) :=
  ⟨fun r w hr => run_lookup_at Try.underlying64 Try.underlying9 w r asksEs 6 (.string ⟨#[60, 61]⟩) (some (3, .func (.func 43) #[] #[])) .nilFunc hr (fun e w => key_str _ e w) (by kernel_rfl) zero_ask true,
   fun r w hr => run_lookup_at Try.underlying68 Try.underlying9 w r (wholesEs r) 5 (.string ⟨#[60, 61]⟩) none .nilFunc hr (fun e w => key_str _ e w) (by kernel_rfl) zero_whole true,
   fun r w hr => run_lookup_at Try.underlying72 Try.underlying9 w r setsEs 8 (.string ⟨#[60, 61]⟩) (some (4, .func (.func 57) #[] #[])) .nilFunc hr (fun e w => key_str _ e w) (by kernel_rfl) zero_set true⟩
theorem op12 : OpF ⟨#[62]⟩ true false false (.func (.func 44) #[] #[]) (fun _ => .nilFunc) (.nilFunc) :=
  ⟨fun r w hr => run_lookup_at Try.underlying64 Try.underlying9 w r asksEs 6 (.string ⟨#[62]⟩) (some (4, .func (.func 44) #[] #[])) .nilFunc hr (fun e w => key_str _ e w) (by kernel_rfl) zero_ask true,
   fun r w hr => run_lookup_at Try.underlying68 Try.underlying9 w r (wholesEs r) 5 (.string ⟨#[62]⟩) none .nilFunc hr (fun e w => key_str _ e w) (by kernel_rfl) zero_whole true,
   fun r w hr => run_lookup_at Try.underlying72 Try.underlying9 w r setsEs 8 (.string ⟨#[62]⟩) none .nilFunc hr (fun e w => key_str _ e w) (by kernel_rfl) zero_set true⟩
theorem op13 : OpF ⟨#[62, 61]⟩ true false true (.func (.func 45) #[] #[]) (fun _ => .nilFunc) (.func (.func 58) #[] #[]) :=
  ⟨fun r w hr => run_lookup_at Try.underlying64 Try.underlying9 w r asksEs 6 (.string ⟨#[62, 61]⟩) (some (5, .func (.func 45) #[] #[])) .nilFunc hr (fun e w => key_str _ e w) (by kernel_rfl) zero_ask true,
   fun r w hr => run_lookup_at Try.underlying68 Try.underlying9 w r (wholesEs r) 5 (.string ⟨#[62, 61]⟩) none .nilFunc hr (fun e w => key_str _ e w) (by kernel_rfl) zero_whole true,
   fun r w hr => run_lookup_at Try.underlying72 Try.underlying9 w r setsEs 8 (.string ⟨#[62, 61]⟩) (some (5, .func (.func 58) #[] #[])) .nilFunc hr (fun e w => key_str _ e w) (by kernel_rfl) zero_set true⟩
theorem op14 : OpF ⟨#[73, 78]⟩ false false false (.nilFunc) (fun _ => .nilFunc) (.nilFunc) :=
  ⟨fun r w hr => run_lookup_at Try.underlying64 Try.underlying9 w r asksEs 6 (.string ⟨#[73, 78]⟩) none .nilFunc hr (fun e w => key_str _ e w) (by kernel_rfl) zero_ask true,
   fun r w hr => run_lookup_at Try.underlying68 Try.underlying9 w r (wholesEs r) 5 (.string ⟨#[73, 78]⟩) none .nilFunc hr (fun e w => key_str _ e w) (by kernel_rfl) zero_whole true,
   fun r w hr => run_lookup_at Try.underlying72 Try.underlying9 w r setsEs 8 (.string ⟨#[73, 78]⟩) none .nilFunc hr (fun e w => key_str _ e w) (by kernel_rfl) zero_set true⟩
theorem op15 : OpF ⟨#[78, 79, 84]⟩ false false false (.nilFunc) (fun _ => .nilFunc) (.nilFunc) :=
  ⟨fun r w hr => run_lookup_at Try.underlying64 Try.underlying9 w r asksEs 6 (.string ⟨#[78, 79, 84]⟩) none .nilFunc hr (fun e w => key_str _ e w) (by kernel_rfl) zero_ask true,
   fun r w hr => run_lookup_at Try.underlying68 Try.underlying9 w r (wholesEs r) 5 (.string ⟨#[78, 79, 84]⟩) none .nilFunc hr (fun e w => key_str _ e w) (by kernel_rfl) zero_whole true,
   fun r w hr => run_lookup_at Try.underlying72 Try.underlying9 w r setsEs 8 (.string ⟨#[78, 79, 84]⟩) none .nilFunc hr (fun e w => key_str _ e w) (by kernel_rfl) zero_set true⟩
theorem op16 : OpF ⟨#[]⟩ false false false (.nilFunc) (fun _ => .nilFunc) (.nilFunc) :=
  ⟨fun r w hr => run_lookup_at Try.underlying64 Try.underlying9 w r asksEs 6 (.string ⟨#[]⟩) none .nilFunc hr (fun e w => key_str _ e w) (by kernel_rfl) zero_ask true,
   fun r w hr => run_lookup_at Try.underlying68 Try.underlying9 w r (wholesEs r) 5 (.string ⟨#[]⟩) none .nilFunc hr (fun e w => key_str _ e w) (by kernel_rfl) zero_whole true,
   fun r w hr => run_lookup_at Try.underlying72 Try.underlying9 w r setsEs 8 (.string ⟨#[]⟩) none .nilFunc hr (fun e w => key_str _ e w) (by kernel_rfl) zero_set true⟩
theorem op17 : OpF ⟨#[100, 105, 118]⟩ false false false (.nilFunc) (fun _ => .nilFunc) (.nilFunc) :=
  ⟨fun r w hr => run_lookup_at Try.underlying64 Try.underlying9 w r asksEs 6 (.string ⟨#[100, 105, 118]⟩) none .nilFunc hr (fun e w => key_str _ e w) (by kernel_rfl) zero_ask true,
   fun r w hr => run_lookup_at Try.underlying68 Try.underlying9 w r (wholesEs r) 5 (.string ⟨#[100, 105, 118]⟩) none .nilFunc hr (fun e w => key_str _ e w) (by kernel_rfl) zero_whole true,
   fun r w hr => run_lookup_at Try.underlying72 Try.underlying9 w r setsEs 8 (.string ⟨#[100, 105, 118]⟩) none .nilFunc hr (fun e w => key_str _ e w) (by kernel_rfl) zero_set true⟩
/-- Is a number in a set? -/
def inK (n b : Int) : Bool := bits .and .u16 (b / 2 ^ min (IntKind.u64.wrap (bits .and .i64 n 15)).toNat 16) 1 == 1
end Go.Proofs.Ytpfidbpbomamjaa
