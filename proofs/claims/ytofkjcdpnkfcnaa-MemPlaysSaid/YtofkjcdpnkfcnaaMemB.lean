/- The memory's struct: its cells, and what 'build' makes of it. No conditions. -/
import Derived.Test.YtofkjcdpnkfcnaaMemZ
namespace Go.Proofs.Ytofkjcdpnkfcnaa
open Go.RowKit
set_option linter.unusedVariables false

/-- The cells of a memory: its words, how many there are, that it was made. -/
def memCells (f : Nat → Int) (n : Int) : Array Value := ((List.range 65535).map (fun i => Value.int .u16 (f i)) ++ [Value.int .i64 n, Value.bool true]).toArray

theorem set_at_len {L : List Value} {N : Nat} (h : L.length = N) (a b x : Value) : ((L ++ [a, b]).toArray).setIfInBounds N x = (L ++ [x, b]).toArray := by
  subst h
  apply Array.ext'
  simp
theorem set_at_len1 {L : List Value} {N : Nat} (h : L.length + 1 = N) (a b x : Value) : ((L ++ [a, b]).toArray).setIfInBounds N x = (L ++ [a, x]).toArray := by
  subst h
  apply Array.ext'
  simp

theorem memCells_word (f : Nat → Int) (n : Int) (i : Nat) (h : i < 65535) : (memCells f n)[i]? = some (.int .u16 (f i)) := by
  unfold memCells
  rw [List.getElem?_toArray, List.getElem?_append_left (by rw [List.length_map, List.length_range]; exact h), List.getElem?_map, List.getElem?_range h]; rfl
theorem memCells_n (f : Nat → Int) (n : Int) : (memCells f n)[65535]? = some (.int .i64 n) := by
  unfold memCells
  rw [List.getElem?_toArray, List.getElem?_append_right (by rw [List.length_map, List.length_range]; exact Nat.le_refl _), List.length_map, List.length_range]; rfl
theorem memCells_made (f : Nat → Int) (n : Int) : (memCells f n)[65536]? = some (.bool true) := by
  unfold memCells
  rw [List.getElem?_toArray, List.getElem?_append_right (by rw [List.length_map, List.length_range]; decide), List.length_map, List.length_range]; rfl

theorem mem_zero_cells : ∃ v, Try.t52.zero = some v ∧ v.cells = ((List.range 65535).map (fun i => Value.int .u16 0) ++ [Value.int .i64 0, Value.bool false]).toArray := by
  have h := stripZeros_eq _ _ _ mem_zero
  unfold zeroList at h
  cases hz : Try.t52.zero with
  | none =>
    rw [hz] at h
    have := congrArg List.length h
    rw [List.length_append, List.length_replicate] at this
    exact absurd this (by show ¬ 0 = 65535 + 2; omega)
  | some v =>
    rw [hz] at h
    refine ⟨v, rfl, ?_⟩
    apply Array.ext'
    have h2 : v.cells.toList = List.replicate 65535 (Value.int .u16 0) ++ [Value.int .i64 0, Value.bool false] := h
    rw [h2, List.map_const', List.length_range]

theorem fill_mem (L : List Value) (h : L.length = 65535) (a b : Value) (n : Int) :
    Instr.fill (#[(0, 65535), (65535, 1), (65536, 1)][·]?) (L ++ [a, b]).toArray [(1, Value.int .i64 n), (2, Value.bool true)] = some (L ++ [Value.int .i64 n, Value.bool true]).toArray := by
  have hs : (L ++ [a, b]).toArray.size = 65537 := by rw [List.size_toArray, List.length_append, h]; rfl
  have hs2 : (L ++ [Value.int .i64 n, b]).toArray.size = 65537 := by rw [List.size_toArray, List.length_append, h]; rfl
  have e1 : (Value.int .i64 n).cells = #[Value.int .i64 n] := rfl
  have e2 : (Value.bool true).cells = #[Value.bool true] := rfl
  have f1 : ((#[Value.int .i64 n] : Array Value).zipIdx.foldl (fun cs (cj : Value × Nat) => cs.setIfInBounds (65535 + cj.2) cj.1) (L ++ [a, b]).toArray) = (L ++ [a, b]).toArray.setIfInBounds 65535 (Value.int .i64 n) := rfl
  have f2 : ((#[Value.bool true] : Array Value).zipIdx.foldl (fun cs (cj : Value × Nat) => cs.setIfInBounds (65536 + cj.2) cj.1) (L ++ [Value.int .i64 n, b]).toArray) = (L ++ [Value.int .i64 n, b]).toArray.setIfInBounds 65536 (Value.bool true) := rfl
  rw [set_at_len h] at f1
  rw [set_at_len1 (by rw [h])] at f2
  have g1 : (#[(0, 65535), (65535, 1), (65536, 1)] : Array (Nat × Nat))[1]? = some (65535, 1) := rfl
  have g2 : (#[(0, 65535), (65535, 1), (65536, 1)] : Array (Nat × Nat))[2]? = some (65536, 1) := rfl
  unfold Instr.fill
  simp only [g1, e1, hs]
  rw [if_neg (by simp)]
  unfold Instr.fill
  rw [show ((#[Value.int .i64 n] : Array Value).zipIdx.foldl (fun cs x => match x with | (c, j) => cs.setIfInBounds (65535 + j) c) (L ++ [a, b]).toArray) = _ from f1]
  simp only [g2, e2, hs2]
  rw [if_neg (by simp)]
  unfold Instr.fill
  exact congrArg some f2

theorem run_build_mem (w : World) (n : Int) : (Instr.build 52 #[(1, .int .i64 n), (2, .bool true)]).run Try.prog w = .ok (.agg (memCells (fun _ => 0) n)) w := by
  refine run_build w _ _ _ ?_
  obtain ⟨v, hz, hc⟩ := mem_zero_cells
  have hi : Try.prog.info? 52 = some Try.t52 := Try.type52
  unfold Program.built
  rw [hi, Try.underlying52]
  simp only [hz]
  generalize hg : List.mapM (fun (f : Field) => Option.map (fun (i : TypeInfo) => (f.offset, i.size)) (Try.prog.info? f.type)) _ = g
  obtain rfl : g = some [(0, 65535), (65535, 1), (65536, 1)] := by rw [← hg]; kernel_rfl
  clear hg
  show Instr.fill _ v.cells _ = _
  rw [hc]
  exact fill_mem _ (by rw [List.length_map, List.length_range]) _ _ n
end Go.Proofs.Ytofkjcdpnkfcnaa
