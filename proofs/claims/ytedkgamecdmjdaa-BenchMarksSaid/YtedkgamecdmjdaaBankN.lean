/-
  The runs of a bank, as plain data: where each strip that has cells ends.
-/
import Derived.Test.YtedkgamecdmjdaaBankD
import Derived.Test.YtedkgamecdmjdaaCellP
set_option linter.unusedVariables false
set_option linter.unusedSimpArgs false
namespace Go.Proofs.Ytedkgamecdmjdaa
open Go.RowKit

/-- How many cells the first k strips have. -/
def endK (l : List SD) : Nat → Int
  | 0 => 0
  | k + 1 => if 0 < (l.getD k sd0).many then endK l k + (l.getD k sd0).many else endK l k
def runsK (l : List SD) : Nat → List (Int × SD)
  | 0 => []
  | k + 1 => if 0 < (l.getD k sd0).many then runsK l k ++ [(endK l (k + 1), l.getD k sd0)] else runsK l k
def rcell (r : Int × SD) : List Value := [.int .i64 r.1, .int .i64 r.2.many, .int .i64 r.2.kind, .int .i64 r.2.top]
def rcells (l : List (Int × SD)) : List Value := l.flatMap rcell
theorem rcells_append (l m : List (Int × SD)) : rcells (l ++ m) = rcells l ++ rcells m := by unfold rcells; rw [List.flatMap_append]
theorem runsK_len (l : List SD) : ∀ k, (runsK l k).length ≤ k
  | 0 => Nat.le_refl _
  | k + 1 => by
    have := runsK_len l k
    unfold runsK
    split
    · rw [List.length_append]; exact Nat.succ_le_succ this
    · omega
/-- While it is not too many, the count is the end of the last run. -/
theorem cnt_end {l : List SD} : ∀ {k}, allF l k = true → cntK l k ≤ 32768 → endK l k = cntK l k
  | 0, _, _ => rfl
  | k + 1, h, hc => by
    rw [allF_succ, Bool.and_eq_true] at h
    have hin := cntK_in h.1
    have h2 : 0 ≤ (l.getD k sd0).many := by
      have := h.2
      unfold fineS at this
      rw [Bool.and_eq_true] at this
      exact of_decide_eq_true this.1
    unfold cntK minI at hc ⊢
    have hk : cntK l k ≤ 32768 := by split at hc <;> split at hc <;> omega
    have ih := cnt_end h.1 hk
    unfold endK
    split <;> split <;> split <;> (try split at hc) <;> (try split at hc) <;> omega

end Go.Proofs.Ytedkgamecdmjdaa

/-
  Which strip a cell is of, by the runs' ends.
-/
namespace Go.Proofs.Ytedkgamecdmjdaa
open Go.RowKit

/-- The strip of the cell n, among the first k. -/
def pickK (l : List SD) (n : Int) : Nat → Option SD
  | 0 => none
  | k + 1 => (pickK l n k).or (if 0 < (l.getD k sd0).many ∧ n < endK l (k + 1) then some (l.getD k sd0) else none)
def mkP (l : List SD) (n : Int) : CS := match pickK l n l.length with | some s => CS.new s.kind s.top | none => CS.new 0 0

theorem runs_find (l : List SD) (n : Int) : ∀ k, ((runsK l k).find? (fun r => decide (n < r.1))).map (·.2) = pickK l n k
  | 0 => rfl
  | k + 1 => by
    have ih := runs_find l n k
    unfold runsK pickK
    by_cases hm : 0 < (l.getD k sd0).many
    · rw [if_pos hm, List.find?_append]
      cases hf : (runsK l k).find? (fun r => decide (n < r.1)) with
      | some x => rw [hf] at ih; rw [← ih]; rfl
      | none =>
        rw [hf] at ih
        rw [← ih]
        by_cases hn : n < endK l (k + 1)
        · rw [if_pos ⟨hm, hn⟩]; simp [hn]
        · rw [if_neg (fun h => hn h.2)]; simp [hn]
    · rw [if_neg hm, if_neg (fun h => hm h.1), ih]; simp
theorem count_find {α : Type} (p : α → Bool) : ∀ rs : List α, rs.Pairwise (fun a b => p a = true → p b = true) → rs[rs.countP (fun r => !p r)]? = rs.find? p
  | [], _ => rfl
  | a :: rs, h => by
    rw [List.pairwise_cons] at h
    cases ha : p a
    · rw [List.countP_cons_of_pos (by simp [ha]), List.find?_cons, ha, List.getElem?_cons_succ]
      exact count_find p rs h.2
    · have h0 : rs.countP (fun r => !p r) = 0 := by
        rw [List.countP_eq_zero]
        intro b hb
        simp [h.1 b hb ha]
      rw [List.countP_cons_of_neg (by simp [ha]), h0, List.find?_cons, ha]
      rfl
theorem runs_ends (l : List SD) : ∀ k, (∀ r ∈ runsK l k, r.1 ≤ endK l k) ∧ (runsK l k).Pairwise (fun a b => a.1 ≤ b.1)
  | 0 => ⟨fun r h => (by cases h), List.Pairwise.nil⟩
  | k + 1 => by
    obtain ⟨h1, h2⟩ := runs_ends l k
    unfold runsK
    by_cases hm : 0 < (l.getD k sd0).many
    · have he : endK l (k + 1) = endK l k + (l.getD k sd0).many := by
        show (if 0 < (l.getD k sd0).many then _ else _) = _
        rw [if_pos hm]
      rw [if_pos hm]
      refine ⟨fun r hr => ?_, ?_⟩
      · rcases List.mem_append.1 hr with hr | hr
        · have := h1 r hr; omega
        · rw [List.mem_singleton] at hr; rw [hr]; exact Int.le_refl _
      · rw [List.pairwise_append]
        refine ⟨h2, List.pairwise_singleton _ _, fun a ha b hb => ?_⟩
        rw [List.mem_singleton] at hb
        have := h1 a ha
        rw [hb]
        show a.1 ≤ endK l (k + 1)
        omega
    · have he : endK l (k + 1) = endK l k := by
        show (if 0 < (l.getD k sd0).many then _ else _) = _
        rw [if_neg hm]
      rw [if_neg hm, he]
      exact ⟨h1, h2⟩
theorem pick_some (l : List SD) (n : Int) (h0 : 0 ≤ n) : ∀ k, n < endK l k → (pickK l n k).isSome = true
  | 0, h => by unfold endK at h; omega
  | k + 1, h => by
    unfold pickK
    by_cases hk : n < endK l k
    · have := pick_some l n h0 k hk
      cases hp : pickK l n k with
      | none => rw [hp] at this; cases this
      | some x => rfl
    · have hm : 0 < (l.getD k sd0).many := by
        unfold endK at h
        split at h
        · assumption
        · omega
      rw [if_pos ⟨hm, h⟩]
      cases pickK l n k <;> rfl
/-- What sort.Search finds is the strip. -/
theorem runs_at (l : List SD) (n : Int) (h0 : 0 ≤ n) (k : Nat) (h : n < endK l k) : ∃ r s, (runsK l k)[(runsK l k).countP (fun r => !decide (n < r.1))]? = some r ∧ pickK l n k = some s ∧ r.2 = s := by
  rw [count_find (fun r => decide (n < r.1)) _ ((runs_ends l k).2.imp fun {a b} hab ha => by have := of_decide_eq_true ha; exact decide_eq_true (by omega))]
  have h1 := runs_find l n k
  have h2 := pick_some l n h0 k h
  cases hf : (runsK l k).find? (fun r => decide (n < r.1)) with
  | none => rw [hf] at h1; rw [← h1] at h2; cases h2
  | some r => rw [hf] at h1; exact ⟨r, r.2, rfl, h1.symm, rfl⟩
theorem rcells_len (l : List (Int × SD)) : (rcells l).length = l.length * 4 := by
  induction l with
  | nil => rfl
  | cons a l ih =>
    have e : rcells (a :: l) = rcell a ++ rcells l := rfl
    rw [e, List.length_append, ih]
    simp [rcell]
    omega
theorem rcells_at (l : List (Int × SD)) : ∀ k r, l[k]? = some r → ∀ j, j < 4 → (rcells l)[k * 4 + j]? = (rcell r)[j]? := by
  induction l with
  | nil => intro k r hk; cases hk
  | cons a l ih =>
    intro k r hk j hj
    have e : rcells (a :: l) = rcell a ++ rcells l := rfl
    have e4 : (rcell a).length = 4 := rfl
    rw [e]
    cases k with
    | zero =>
      rw [Nat.zero_mul, Nat.zero_add, List.getElem?_append_left (by omega)]
      rw [List.getElem?_cons_zero, Option.some.injEq] at hk
      rw [hk]
    | succ k =>
      rw [List.getElem?_append_right (by omega), e4, show (k + 1) * 4 + j - 4 = k * 4 + j by omega]
      exact ih k r hk j hj

end Go.Proofs.Ytedkgamecdmjdaa
