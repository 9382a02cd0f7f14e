/-
  plan.Lay.
-/
import Derived.Test.YtlclijnoablejaaPlanB
import Derived.Test.YtlclijnoablejaaWants
set_option linter.unusedVariables false
set_option linter.unusedSimpArgs false
namespace Go.Proofs.Ytlclijnoablejaa
open Go.RowKit

/-- The registers of wants, one behind the other. -/
def regsOf (n : Nat) (built : Bool) : Nat → Nat → List (Int × Int) → List Rg
  | _, _, [] => []
  | b, c, a :: l => { wantR a.1 a.2 n built with base := b, loc := c } :: regsOf n built (b + cellsN (wantR a.1 a.2 n built)) (c + localsN (wantR a.1 a.2 n built)) l
theorem regsOf_len (n : Nat) (built : Bool) : ∀ (l : List (Int × Int)) (b c : Nat), (regsOf n built b c l).length = l.length
  | [], _, _ => rfl
  | a :: l, b, c => by rw [regsOf, List.length_cons, List.length_cons, regsOf_len n built l]
theorem regsOf_at (n : Nat) (built : Bool) : ∀ (l : List (Int × Int)) (b c j : Nat), j < l.length →
    (regsOf n built b c l).getD j r0 = { wantR (l.getD j (0, 0)).1 (l.getD j (0, 0)).2 n built with base := ((b + sumF cellsN (regsOf n built b c l) j : Nat) : Int), loc := ((c + sumF localsN (regsOf n built b c l) j : Nat) : Int) }
  | [], _, _, j, h => absurd h (Nat.not_lt_zero j)
  | a :: l, b, c, 0, _ => rfl
  | a :: l, b, c, j + 1, h => by
    have ih := regsOf_at n built l (b + cellsN (wantR a.1 a.2 n built)) (c + localsN (wantR a.1 a.2 n built)) j (by simpa using h)
    have e1 : sumF cellsN (regsOf n built b c (a :: l)) (j + 1) = cellsN (wantR a.1 a.2 n built) + sumF cellsN (regsOf n built (b + cellsN (wantR a.1 a.2 n built)) (c + localsN (wantR a.1 a.2 n built)) l) j := by
      unfold sumF
      rw [regsOf, List.take_succ_cons, List.map_cons, List.sum_cons]
      rfl
    have e2 : sumF localsN (regsOf n built b c (a :: l)) (j + 1) = localsN (wantR a.1 a.2 n built) + sumF localsN (regsOf n built (b + cellsN (wantR a.1 a.2 n built)) (c + localsN (wantR a.1 a.2 n built)) l) j := by
      unfold sumF
      rw [regsOf, List.take_succ_cons, List.map_cons, List.sum_cons]
      rfl
    rw [e1, e2, ← Nat.add_assoc, ← Nat.add_assoc]
    exact ih
/-- Writers that may be. -/
def WriterOk (n : Nat) (l : List (Int × Int)) : Prop := ∀ j, j < l.length → -1 ≤ (l.getD j (0, 0)).1 ∧ (l.getD j (0, 0)).1 < n
def AllFine (l : List Rg) (j : Nat) : Prop := ∀ k, k < j → fineB (l.getD k r0) = true
theorem sum_of_fine (n : Nat) (built : Bool) (l : List (Int × Int)) (b c j : Nat) (hb : b ≤ 32768) (hc : c ≤ 32768) (hj : j ≤ l.length) (h : AllFine (regsOf n built b c l) j) :
    b + sumF cellsN (regsOf n built b c l) j ≤ 32768 ∧ c + sumF localsN (regsOf n built b c l) j ≤ 32768 := by
  cases j with
  | zero => simp [sumF]; omega
  | succ j =>
    have hf := h j (by omega)
    have ha := regsOf_at n built l b c j (by omega)
    rw [sumF_succ cellsN _ j (by rw [regsOf_len]; omega), sumF_succ localsN _ j (by rw [regsOf_len]; omega)]
    have eb := congrArg Rg.base ha
    have el := congrArg Rg.loc ha
    dsimp only at eb el
    unfold fineB withinB at hf
    simp only [Bool.and_eq_true, decide_eq_true_eq] at hf
    rw [eb, el] at hf
    omega

end Go.Proofs.Ytlclijnoablejaa
