/-
  A row of writes and reads of a steady register, as plain functions: both sides, and that they meet.
-/
import Derived.Test.YtpandnodeldbjaaSteadyB
import Derived.Test.YtpandnodeldbjaaActs
set_option linter.unusedVariables false
set_option linter.unusedSimpArgs false
namespace Go.Proofs.Ytpandnodeldbjaa
open Go.RowKit

def stepP (b lo x sum : Int) (s : TS) : Option Int × TS :=
  if x < 0 then ((stR b s).1.map fun v => wrap64 (sum + v), (stR b s).2) else ((stW b lo x s).1.map fun _ => sum, (stW b lo x s).2)
def rstepP (b lo x sum : Int) (r : RS) : Int × RS :=
  if x < 0 then (wrap64 (sum + (rAsk (1, b, 0) r).1), (rAsk (1, b, 0) r).2) else (sum, rstW b lo x r)
def stP (b lo : Int) : List Int → Int → TS → Option Int × TS
  | [], sum, s => (some sum, s)
  | x :: l, sum, s => match stepP b lo x sum s with
    | (some y, s') => stP b lo l y s'
    | (none, s') => (none, s')
def rstP (b lo : Int) : List Int → Int → RS → Int × RS
  | [], sum, r => (sum, r)
  | x :: l, sum, r => if r.over = true then (sum, r) else rstP b lo l (rstepP b lo x sum r).1 (rstepP b lo x sum r).2
theorem rstP_over (b lo : Int) (l : List Int) (sum : Int) (r : RS) (h : r.over = true) : rstP b lo l sum r = (sum, r) := by
  cases l with
  | nil => rfl
  | cons a l => unfold rstP; rw [if_pos h]
theorem stP_drop (b lo : Int) {l : List Int} {k : Nat} (hk : k < l.length) (sum : Int) (s : TS) : stP b lo (l.drop k) sum s = match stepP b lo (l.getD k 0) sum s with
    | (some x, s') => stP b lo (l.drop (k + 1)) x s'
    | (none, s') => (none, s') := by
  rw [List.drop_eq_getElem_cons hk, getD_lt hk]
  rfl
theorem rstP_drop (b lo : Int) {l : List Int} {k : Nat} (hk : k < l.length) (sum : Int) (r : RS) (h : r.over = false) : rstP b lo (l.drop k) sum r = rstP b lo (l.drop (k + 1)) (rstepP b lo (l.getD k 0) sum r).1 (rstepP b lo (l.getD k 0) sum r).2 := by
  rw [List.drop_eq_getElem_cons hk, getD_lt hk]
  show (if r.over = true then (sum, r) else _) = _
  rw [if_neg (by simp [h])]
theorem rAsk_over (a : Int × Int × Int) {r : RS} (h : r.over = true) : (rAsk a r).2 = r := by unfold rAsk; rw [if_pos h]
theorem rSet_over (i v : Int) {r : RS} (h : r.over = true) : rSet i v r = r := by unfold rSet; rw [if_pos (by simp [h])]

theorem step_meets (b lo x sum : Int) (s : TS) (r : RS) (h : Rel s r.t) (ho : r.over = false) : Meets (stepP b lo x sum s) (rstepP b lo x sum r) := by
  unfold stepP rstepP
  by_cases hx : x < 0
  · rw [if_pos hx, if_pos hx]
    unfold stR
    by_cases hlt : s.acc.length < s.ans.length
    · rw [if_pos hlt, rAsk_ok h ho hlt]
      exact ⟨rfl, rfl, h.asked _⟩
    · rw [if_neg hlt, rAsk_stop h ho hlt]
      exact ⟨rfl, h.asked _⟩
  · rw [if_neg hx, if_neg hx]
    unfold stW rstW
    rw [h.get lo]
    by_cases hg : r.t.get lo = bitI x
    · rw [if_pos hg, if_pos hg]
      exact ⟨rfl, ho, h⟩
    · rw [if_neg hg, if_neg hg]
      by_cases hlt : s.acc.length < s.ans.length
      · rw [if_pos hlt, rAsk_ok h ho hlt]
        obtain ⟨h1, h2⟩ := Rel.set (r := ⟨r.t.asked (2, b, bitI x), false⟩) (h.asked (2, b, bitI x)) rfl lo (bitI x)
        exact ⟨rfl, h2, h1⟩
      · rw [if_neg hlt, rAsk_stop h ho hlt, rSet_over _ _ rfl]
        exact ⟨rfl, h.asked _⟩
theorem stP_meets (b lo : Int) : ∀ (l : List Int) (sum : Int) (s : TS) (r : RS), Rel s r.t → r.over = false → Meets (stP b lo l sum s) (rstP b lo l sum r)
  | [], sum, s, r, h, ho => ⟨rfl, ho, h⟩
  | a :: l, sum, s, r, h, ho => by
    have e : rstP b lo (a :: l) sum r = rstP b lo l (rstepP b lo a sum r).1 (rstepP b lo a sum r).2 := by
      show (if r.over = true then (sum, r) else _) = _
      rw [if_neg (by simp [ho])]
    rw [e]
    have hm := step_meets b lo a sum s r h ho
    unfold stP
    generalize stepP b lo a sum s = x at hm
    obtain ⟨xo, s1⟩ := x
    cases xo with
    | some v =>
      obtain ⟨hv, h1, h2⟩ := hm
      rw [hv]
      exact stP_meets b lo l v s1 _ h2 h1
    | none =>
      obtain ⟨h1, h2⟩ := hm
      rw [rstP_over _ _ _ _ _ h1]
      exact ⟨h1, h2⟩

theorem stepP_len (b lo x sum : Int) (s : TS) : (stepP b lo x sum s).2.acc.length ≤ s.acc.length + 1 ∧ (stepP b lo x sum s).2.nts = s.nts ∧ (stepP b lo x sum s).2.loc.length ≤ max s.loc.length 32768 := by
  unfold stepP
  split
  · unfold stR
    split <;> simp [TS.asked] <;> omega
  · unfold stW
    split
    · exact ⟨Nat.le_succ _, rfl, Nat.le_max_left _ _⟩
    · split
      · obtain ⟨h1, h2, h3⟩ := set_len (s.asked (2, b, bitI x)) lo (bitI x)
        obtain ⟨h4, h5, h6⟩ := asked_len s (2, b, bitI x)
        exact ⟨by rw [h1]; omega, by rw [h2, h5], by rw [h6] at h3; exact h3⟩
      · simp [TS.asked]; omega
theorem stP_len (b lo : Int) : ∀ (l : List Int) (sum : Int) (s : TS), (stP b lo l sum s).2.acc.length ≤ s.acc.length + l.length ∧ (stP b lo l sum s).2.nts = s.nts ∧ (stP b lo l sum s).2.loc.length ≤ max s.loc.length 32768
  | [], sum, s => by simp [stP]; omega
  | a :: l, sum, s => by
    obtain ⟨h1, h2, h3⟩ := stepP_len b lo a sum s
    unfold stP
    obtain ⟨⟨x, s'⟩, hx⟩ : ∃ p, stepP b lo a sum s = p := ⟨_, rfl⟩
    rw [hx] at h1 h2 h3 ⊢
    cases x with
    | none => simp only [List.length_cons] at *; exact ⟨by omega, h2, h3⟩
    | some y =>
      obtain ⟨i1, i2, i3⟩ := stP_len b lo l y s'
      simp only [List.length_cons] at *
      exact ⟨by omega, i2.trans h2, by omega⟩

end Go.Proofs.Ytpandnodeldbjaa
