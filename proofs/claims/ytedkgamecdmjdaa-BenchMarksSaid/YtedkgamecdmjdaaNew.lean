/-
  Package cell: New.
-/
import Derived.Test.YtedkgamecdmjdaaBegW
set_option linter.unusedVariables false
set_option linter.unusedSimpArgs false
namespace Go.Proofs.Ytedkgamecdmjdaa
open Go.RowKit

theorem clampT_big (top : Int) : clampT top 1099511627776 = clampI top 0 1099511627776 := rfl

/-- The cells of a new cell. -/
def newC (k T : Int) : Array Value := #[.int .i64 k, .int .i64 T, .int .i64 0, .bool false, .bool false, .int .i64 0, .bool false, .slice none 0 0, .bool false, .bool false, .int .i64 0, .bool false, .slice none 0 0, .bool false, .bool false, .int .i64 0, .bool false, .slice none 0 0, .bool false, .bool false, .int .i64 0, .bool false, .slice none 0 0, .bool false, .bool false, .int .i64 0, .bool false, .slice none 0 0, .bool false, .bool false, .int .i64 0, .bool false, .slice none 0 0, .bool false, .bool false, .int .i64 0, .bool false, .slice none 0 0, .bool false, .bool false, .int .i64 0, .bool false, .slice none 0 0]
theorem new_is {W : World} {h : Nat} {kind T : Int} (hb : W.heap[h]? = some (.cells (newC kind T) 109 (0, 0))) : CellIs W h h ⟨kind, T, 0, fun _ => acc0⟩ (fun _ => .slice none 0 0) := by
  refine ⟨Nat.le_of_lt (Array.getElem?_eq_some_iff.1 hb).1, cell_of_row _ _ 0 _ _ _ hb, cell_of_row _ _ 1 _ _ _ hb, cell_of_row _ _ 2 _ _ _ hb, fun i hi => ?_, fun j => frozen_of_row _ _ j _ _ hb, fun i hi => .inl ⟨rfl, .inl ⟨rfl, rfl⟩⟩, fun i hi => by simp [Value.ownBlock], fun i j hi hj hne k hk => by simp [Value.ownBlock]⟩
  have h8 : i = 0 ∨ i = 1 ∨ i = 2 ∨ i = 3 ∨ i = 4 ∨ i = 5 ∨ i = 6 ∨ i = 7 := by omega
  rcases h8 with rfl | rfl | rfl | rfl | rfl | rfl | rfl | rfl
  all_goals exact ⟨cell_of_row _ _ _ _ _ _ hb, cell_of_row _ _ _ _ _ _ hb, cell_of_row _ _ _ _ _ _ hb, cell_of_row _ _ _ _ _ _ hb, cell_of_row _ _ _ _ _ _ hb⟩

set_option maxRecDepth 10000 in
set_option maxHeartbeats 4000000 in
theorem new_any (kind top : Int) (w : World) : Calls Try.prog 50 #[.int .i64 kind, .int .i64 top] w fun e w' => e = .returned (.pointer (some ⟨w.heap.size, 0, none⟩)) ∧ CellIs w' w.heap.size w.heap.size (CS.new kind top) (fun _ => .slice none 0 0) ∧ Up w w' := by
  have HCL := Lib.hid (nclamp_any top 1099511627776)
  go_enter Try.func50, Try.ntmps50
  go_wp2_with fail
  refine (HCL.out _).mono ?_
  rintro e w1 ⟨rfl, rfl⟩
  rw [clampT_big]
  obtain ⟨T, hT⟩ : ∃ x, clampI top 0 1099511627776 = x := ⟨_, rfl⟩
  rw [hT]
  have HT := Lib.hid (show CS.new kind top = ⟨kind, T, 0, fun _ => acc0⟩ from by unfold CS.new; rw [hT])
  clear hT
  go_wp2_with fail
  go_ret
  rw [HT.out]
  exact ⟨rfl, new_is (heap_alloc_new w1 (.cells (newC kind T) 109)), (Up.refl w1).alloc _⟩

end Go.Proofs.Ytedkgamecdmjdaa
