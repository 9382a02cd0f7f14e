/-
  The bakery: plain parts.
-/
import Derived.Test.YtleebaebihbcdaaJumps
import Derived.BigRegion
set_option linter.unusedVariables false
set_option linter.unusedSimpArgs false
namespace Go.Proofs.Ytleebaebihbcdaa
open Go.RowKit

/-- The greatest of the answers 1 to n - 1. -/
def mostU (a : List Int) : Nat → Int
  | 0 => 0
  | n + 1 => if n = 0 then 0 else max (mostU a n) (a.getD n 0)
theorem mostU_one (a : List Int) : mostU a 1 = 0 := by unfold mostU; rw [if_pos rfl]
theorem mostU_succ (a : List Int) (n : Nat) (h : 1 ≤ n) : mostU a (n + 1) = max (mostU a n) (a.getD n 0) := by
  show (if n = 0 then 0 else max (mostU a n) (a.getD n 0)) = _
  rw [if_neg (by omega)]
/-- How many accesses there are ahead of the j-th place, when one looks at all others. -/
def cN (t j : Nat) : Nat := 1 + (if t < j then j - 1 else j)
theorem mostU_in (a : List Int) (M : Int) (hM : 0 ≤ M) (h : ∀ x, x ∈ a → 0 ≤ x ∧ x ≤ M) : ∀ n, 0 ≤ mostU a n ∧ mostU a n ≤ M
  | 0 => ⟨Int.le_refl _, hM⟩
  | n + 1 => by
    unfold mostU
    split
    · exact ⟨Int.le_refl _, hM⟩
    · have h1 := mostU_in a M hM h n
      have h2 : 0 ≤ a.getD n 0 ∧ a.getD n 0 ≤ M := by
        rw [List.getD_eq_getElem?_getD]
        cases hx : a[n]? with
        | none => exact ⟨Int.le_refl _, hM⟩
        | some x => exact h x (List.mem_of_getElem? hx)
      omega

set_option maxRecDepth 10000 in
set_option maxHeartbeats 1000000 in
theorem bsizes_any (many room : Int) (x0 x2 x3 x4 : Int) (w : World) (hm : 1 ≤ many ∧ many ≤ 8) (hr : 1 ≤ room ∧ room ≤ 1048576) :
    Calls Try.prog 101 #[.agg #[.int .i64 x0, .int .i64 many, .int .i64 x2, .int .i64 x3, .int .i64 x4, .int .i64 room]] w fun e w' => e = .returned (.tuple #[.int .i64 many, .int .i64 room]) ∧ Up w w' := by
  have hb := heap_alloc_new w (.cells #[.int .i64 x0, .int .i64 many, .int .i64 x2, .int .i64 x3, .int .i64 x4, .int .i64 room] 68)
  have c1 := cell_of_row _ _ 1 _ _ _ hb
  have c5 := cell_of_row _ _ 5 _ _ _ hb
  simp only [List.getElem?_toArray, List.getElem?_cons_zero, List.getElem?_cons_succ] at c1 c5
  have e1 : min (max many 1) 8 = many := by omega
  have e2 : min (max room 1) 1048576 = room := by omega
  have HU := Lib.hid (show Up w (w.alloc (.cells #[.int .i64 x0, .int .i64 many, .int .i64 x2, .int .i64 x3, .int .i64 x4, .int .i64 room] 68)) from (Up.refl w).alloc _)
  clear hb hm hr
  go_enter Try.func101, Try.ntmps101
  go_wp2_with fail
  generalize w.alloc (.cells #[.int .i64 x0, .int .i64 many, .int .i64 x2, .int .i64 x3, .int .i64 x4, .int .i64 room] 68) = W at *
  go_region
  all_goals
    go_wp2_with fail
    go_ret2
    exact ⟨rfl, HU.out.drew⟩

end Go.Proofs.Ytleebaebihbcdaa
