/-
  A row of writes by one writer, answered by zeros: plainly.
-/
import Derived.Test.YtpandnodeldbjaaAlive11
set_option linter.unusedVariables false
set_option linter.unusedSimpArgs false
namespace Go.Proofs.Ytpandnodeldbjaa
open Go.RowKit

def wrP (b lo : Int) : List Int → TS → Option Int × TS
  | [], s => (some 0, s)
  | x :: l, s => match stW b lo x s with
    | (some _, s') => wrP b lo l s'
    | (none, s') => (none, s')
theorem wrP_drop (b lo : Int) {l : List Int} {k : Nat} (hk : k < l.length) (s : TS) : wrP b lo (l.drop k) s = match stW b lo (l.getD k 0) s with
    | (some _, s') => wrP b lo (l.drop (k + 1)) s'
    | (none, s') => (none, s') := by
  rw [List.drop_eq_getElem_cons hk, getD_lt hk]
  rfl

/-- The writes take turns, from 1 on. -/
structure Turned (s : TS) : Prop where
  loc : s.get 0 = (s.acc.length : Int) % 2
  acc : ∀ i, i < s.acc.length → s.acc.getD i (0, 0, 0) = (2, 1, ((i : Int) + 1) % 2)
  nts : s.nts = []
theorem turned_step (x : Int) (s : TS) (h : Turned s) (hlt : s.acc.length < s.ans.length) : ∃ s', stW 1 0 x s = (some (), s') ∧ Turned s' ∧ s'.acc.length ≤ s.acc.length + 1 ∧ s'.ans = s.ans := by
  unfold stW
  by_cases hg : s.get 0 = bitI x
  · rw [if_pos hg]
    exact ⟨s, rfl, h, by omega, rfl⟩
  · rw [if_neg hg, if_pos hlt]
    have hu : bitI x = 0 ∨ bitI x = 1 := by unfold bitI; split <;> simp
    have hb : bitI x = ((s.acc.length : Int) + 1) % 2 := by
      have := h.loc
      omega
    obtain ⟨h1, h2, h3⟩ := set_len (s.asked (2, 1, bitI x)) 0 (bitI x)
    have hans : ((s.asked (2, 1, bitI x)).set 0 (bitI x)).ans = s.ans := by
      unfold TS.set
      split
      · rfl
      · split
        · split <;> rfl
        · rfl
    have hal : ((s.asked (2, 1, bitI x)).set 0 (bitI x)).acc = s.acc ++ [(2, 1, bitI x)] := by rw [h1]; rfl
    refine ⟨_, rfl, ⟨?_, ?_, by rw [h2]; exact h.nts⟩, by rw [hal]; simp, hans⟩
    · rw [hal, get_eq]
      have := set_loc (s.asked (2, 1, bitI x)) 0 (bitI x) (by decide) 0
      simp only [Int.toNat_zero] at this ⊢
      rw [if_neg (by decide)]
      have e : ((0 : Nat) : Int) = 0 := rfl
      rw [e] at this
      rw [this, if_pos trivial, hb]
      simp
    · intro i hi
      rw [hal, List.length_append] at hi
      rw [hal]
      by_cases hi2 : i < s.acc.length
      · rw [List.getD_eq_getElem?_getD, List.getElem?_append_left hi2, ← List.getD_eq_getElem?_getD]
        exact h.acc i hi2
      · have e : i = s.acc.length := by simp at hi; omega
        subst e
        rw [List.getD_eq_getElem?_getD, List.getElem?_append_right (Nat.le_refl _)]
        simp [hb]
theorem wrP_turned : ∀ (l : List Int) (s : TS), Turned s → s.acc.length + l.length ≤ s.ans.length → ∃ s', wrP 1 0 l s = (some 0, s') ∧ Turned s' ∧ s'.acc.length ≤ s.acc.length + l.length
  | [], s, h, _ => ⟨s, rfl, h, by simp⟩
  | x :: l, s, h, hl => by
    simp only [List.length_cons] at hl ⊢
    obtain ⟨s1, e1, h1, a1, b1⟩ := turned_step x s h (by omega)
    obtain ⟨s2, e2, h2, a2⟩ := wrP_turned l s1 h1 (by rw [b1]; omega)
    unfold wrP
    rw [e1]
    exact ⟨s2, e2, h2, by omega⟩

end Go.Proofs.Ytpandnodeldbjaa
