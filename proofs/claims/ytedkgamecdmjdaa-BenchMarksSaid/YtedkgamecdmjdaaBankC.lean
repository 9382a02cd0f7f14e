/-
  How many cells any strips are.
-/
import Derived.Test.YtedkgamecdmjdaaRow
import Derived.Test.YtedkgamecdmjdaaStill
import Derived.Test.YtedkgamecdmjdaaChecked
set_option linter.unusedVariables false
set_option linter.unusedSimpArgs false
namespace Go.Proofs.Ytedkgamecdmjdaa
open Go.RowKit

structure SD where
  many : Int
  kind : Int
  top : Int
def sd0 : SD := ⟨0, 0, 0⟩
def fineS (s : SD) : Bool := decide (0 ≤ s.many) && (decide (1 ≤ s.kind) && (decide (s.kind ≤ 3) && (decide (0 ≤ s.top) && decide (s.top ≤ 1099511627776))))

set_option maxRecDepth 10000 in
set_option maxHeartbeats 1000000 in
theorem fineS_any (s : SD) (w : World) : Calls Try.prog 47 #[.agg #[.int .i64 s.many, .int .i64 s.kind, .int .i64 s.top]] w fun e w' => e = .returned (.bool (fineS s)) ∧ Up w w' := by
  obtain ⟨M, K, T⟩ := s
  have hb := heap_alloc_new w (.cells #[.int .i64 M, .int .i64 K, .int .i64 T] 41)
  have x0 : (w.alloc (.cells #[.int .i64 M, .int .i64 K, .int .i64 T] 41)).cell? ⟨w.heap.size, 0, none⟩ = some (.int .i64 M) := cell_of_row _ _ 0 _ _ _ hb
  have x1 : (w.alloc (.cells #[.int .i64 M, .int .i64 K, .int .i64 T] 41)).cell? ⟨w.heap.size, 1, none⟩ = some (.int .i64 K) := cell_of_row _ _ 1 _ _ _ hb
  have x2 : (w.alloc (.cells #[.int .i64 M, .int .i64 K, .int .i64 T] 41)).cell? ⟨w.heap.size, 2, none⟩ = some (.int .i64 T) := cell_of_row _ _ 2 _ _ _ hb
  have HU := Lib.hid ((Up.refl w).alloc (.cells #[.int .i64 M, .int .i64 K, .int .i64 T] 41))
  have HF : Hid (fineS ⟨M, K, T⟩ = (decide (0 ≤ M) && (decide (1 ≤ K) && (decide (K ≤ 3) && (decide (0 ≤ T) && decide (T ≤ 1099511627776)))))) := Lib.hid rfl
  clear hb
  cases h0 : decide (0 ≤ M) <;> cases h1 : decide (1 ≤ K) <;> cases h2 : decide (K ≤ 3) <;> cases h3 : decide (0 ≤ T) <;> cases h4 : decide (T ≤ 1099511627776)
  all_goals
    rw [h0, h1, h2, h3, h4] at HF
    go_enter Try.func47, Try.ntmps47
    go_wp2_with fail
    go_ret
    exact ⟨by rw [HF.out]; rfl, HU.out⟩

def StripRow (w : World) (A : Option Addr) (l : List SD) : Prop := ∀ k, k < l.length → ∃ b off, A = some ⟨b, off, none⟩ ∧
  w.cell? ⟨b, off + k * 3, none⟩ = some (.int .i64 (l.getD k sd0).many) ∧ w.cell? ⟨b, off + k * 3 + 1, none⟩ = some (.int .i64 (l.getD k sd0).kind) ∧ w.cell? ⟨b, off + k * 3 + 2, none⟩ = some (.int .i64 (l.getD k sd0).top)
theorem StripRow.up {w w' : World} {A : Option Addr} {l : List SD} (h : StripRow w A l) (u : Up w w') : StripRow w' A l := fun k hk => by
  obtain ⟨b, off, e, h0, h1, h2⟩ := h k hk
  exact ⟨b, off, e, (u.cell (cell_lt h0)).trans h0, (u.cell (cell_lt h1)).trans h1, (u.cell (cell_lt h2)).trans h2⟩
def minI (a b : Int) : Int := if b < a then b else a
def cntK (l : List SD) : Nat → Int
  | 0 => 0
  | k + 1 => minI (cntK l k + minI (l.getD k sd0).many 32769) 32769
def allF (l : List SD) (k : Nat) : Bool := (List.range k).all fun i => fineS (l.getD i sd0)
/-- How many cells, or why none. -/
def countP (l : List SD) : Int × Int := if allF l l.length then (if 32768 < cntK l l.length then (0, 5) else (cntK l l.length, 0)) else (0, 1)

end Go.Proofs.Ytedkgamecdmjdaa
