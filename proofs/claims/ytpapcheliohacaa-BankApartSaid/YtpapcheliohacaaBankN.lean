/-
  The runs of a bank, as plain data: where each strip that has cells ends.
-/
import Derived.Test.YtpapcheliohacaaBankD
set_option linter.unusedVariables false
set_option linter.unusedSimpArgs false
namespace Go.Proofs.Ytpapcheliohacaa
open Go.RowKit

/-- How many cells the first k strips have. -/
def endK (l : List SD) : Nat → Int
  | 0 => 0
  | k + 1 => if 0 < (l.getD k sd0).many then endK l k + (l.getD k sd0).many else endK l k
def runsK (l : List SD) : Nat → List (Int × SD)
  | 0 => []
  | k + 1 => if 0 < (l.getD k sd0).many then runsK l k ++ [(endK l (k + 1), l.getD k sd0)] else runsK l k
def rcell (r : Int × SD) : List Value := [.int .i64 r.1, .int .i64 r.2.many, .int .i64 r.2.kind, .int .i64 r.2.top]
def rcells (l : List (Int × SD)) : List Value := l.flatMap rcell
theorem rcells_append (l m : List (Int × SD)) : rcells (l ++ m) = rcells l ++ rcells m := by unfold rcells; rw [List.flatMap_append]
theorem runsK_len (l : List SD) : ∀ k, (runsK l k).length ≤ k
  | 0 => Nat.le_refl _
  | k + 1 => by
    have := runsK_len l k
    unfold runsK
    split
    · rw [List.length_append]; exact Nat.succ_le_succ this
    · omega
/-- While it is not too many, the count is the end of the last run. -/
theorem cnt_end {l : List SD} : ∀ {k}, allF l k = true → cntK l k ≤ 32768 → endK l k = cntK l k
  | 0, _, _ => rfl
  | k + 1, h, hc => by
    rw [allF_succ, Bool.and_eq_true] at h
    have hin := cntK_in h.1
    have h2 : 0 ≤ (l.getD k sd0).many := by
      have := h.2
      unfold fineS at this
      rw [Bool.and_eq_true] at this
      exact of_decide_eq_true this.1
    unfold cntK minI at hc ⊢
    have hk : cntK l k ≤ 32768 := by split at hc <;> split at hc <;> omega
    have ih := cnt_end h.1 hk
    unfold endK
    split <;> split <;> split <;> (try split at hc) <;> (try split at hc) <;> omega

end Go.Proofs.Ytpapcheliohacaa
