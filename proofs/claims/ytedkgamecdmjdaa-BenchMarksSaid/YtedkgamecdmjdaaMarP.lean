/-
  BenchMarks, plain: what a row of fitted acts costs; when it asks and what; thread 0 at the bank.
-/
import Derived.Test.YtedkgamecdmjdaaActs50
import Derived.Test.YtedkgamecdmjdaaDo50
import Derived.Test.YtedkgamecdmjdaaBenG
set_option linter.unusedVariables false
set_option linter.unusedSimpArgs false
namespace Go.Proofs.Ytedkgamecdmjdaa
open Go.RowKit

/-- An act with cells 0 to 3. -/
def fitA (a : Act3) : Act3 := (a.1, wrapI a.2.1 3, if a.1 % 6 = 4 then wrapI a.2.2 3 else a.2.2)
def costA (a : Act3) : Nat := if a.1 % 6 = 0 ∨ a.1 % 6 = 1 ∨ 3 < a.1 % 6 then 1 else 0
def costL : List Act3 → Nat
  | [] => 0
  | a :: l => costA a + costL l
theorem costL_le : ∀ l : List Act3, costL l ≤ l.length
  | [] => Nat.le_refl _
  | a :: l => by
    have := costL_le l
    unfold costL costA
    simp only [List.length_cons]
    split <;> omega
theorem wrap3 (n : Int) : 0 ≤ wrapI n 3 ∧ wrapI n 3 < 4 := by
  have h : wrapI n 3 = n % 4 := by unfold wrapI clampI; rfl
  rw [h]
  omega
/-- An access that a bank of four cells takes. -/
def AccOk (x : Int × Int × Int) : Prop := (x.1 = 1 ∨ x.1 = 2) ∧ 0 ≤ x.2.1 ∧ x.2.1 < 4
/-- What a row of acts leaves, begun at some place of the tape. -/
def Ran (c : Nat) (s : TS) (r : Option Int × TS) : Prop :=
  match r.1 with
  | some _ => r.2.acc.length = s.acc.length + c ∧ s.acc.length + c ≤ s.ans.length
  | none => r.2.acc.length = s.ans.length + 1 ∧ s.ans.length < s.acc.length + c ∧ AccOk (r.2.acc.getD (r.2.acc.length - 1) (0, 0, 0))
theorem last_asked (s : TS) (x : Int × Int × Int) : (s.asked x).acc.getD ((s.asked x).acc.length - 1) (0, 0, 0) = x := by
  unfold TS.asked
  simp
theorem actP_ran (a : Act3) (sum : Int) (s : TS) (h : s.acc.length ≤ s.ans.length) : Ran (costA (fitA a)) s (actP (fitA a) sum s) ∧ (actP (fitA a) sum s).2.ans = s.ans := by
  have hw := wrap3 a.2.1
  have hw2 := wrap3 a.2.2
  have hk : (fitA a).1 = a.1 := rfl
  have hA : (fitA a).2.1 = wrapI a.2.1 3 := rfl
  have hB : (fitA a).2.2 = if a.1 % 6 = 4 then wrapI a.2.2 3 else a.2.2 := rfl
  have hl : ∀ x, (s.asked x).acc.length = s.acc.length + 1 := fun x => by simp [TS.asked]
  have hs : ∀ x i v, ((s.asked x).set i v).acc.length = s.acc.length + 1 := fun x i v => by rw [set_acc]; exact hl x
  have hsa : ∀ x, (s.asked x).ans = s.ans := fun x => rfl
  unfold actP costA
  rw [hk]
  by_cases h0 : a.1 % 6 = 0
  · rw [if_pos h0, if_pos (.inl h0)]
    by_cases hst : s.acc.length < s.ans.length
    · rw [if_pos hst]
      exact ⟨⟨hl _, by omega⟩, rfl⟩
    · rw [if_neg hst]
      exact ⟨⟨by rw [hl]; omega, by omega, by rw [last_asked, hA]; exact ⟨.inl rfl, hw.1, hw.2⟩⟩, rfl⟩
  rw [if_neg h0]
  by_cases h1 : a.1 % 6 = 1
  · rw [if_pos h1, if_pos (.inr (.inl h1))]
    by_cases hst : s.acc.length < s.ans.length
    · rw [if_pos hst]
      exact ⟨⟨hl _, by omega⟩, rfl⟩
    · rw [if_neg hst]
      exact ⟨⟨by rw [hl]; omega, by omega, by rw [last_asked, hA]; exact ⟨.inr rfl, hw.1, hw.2⟩⟩, rfl⟩
  rw [if_neg h1]
  by_cases h2 : a.1 % 6 = 2
  · rw [if_pos h2, if_neg (by omega)]
    exact ⟨⟨by rw [set_acc]; rfl, by omega⟩, set_ans _ _ _⟩
  rw [if_neg h2]
  by_cases h3 : a.1 % 6 = 3
  · rw [if_pos h3, if_neg (by omega)]
    exact ⟨⟨rfl, by omega⟩, rfl⟩
  rw [if_neg h3]
  by_cases h4 : a.1 % 6 = 4
  · rw [if_pos h4, if_pos (.inr (.inr (by omega)))]
    rw [hB, if_pos h4]
    by_cases hst : s.acc.length < s.ans.length
    · rw [if_pos hst]
      exact ⟨⟨hl _, by omega⟩, rfl⟩
    · rw [if_neg hst]
      exact ⟨⟨by rw [hl]; omega, by omega, by rw [last_asked]; exact ⟨.inr rfl, hw2.1, hw2.2⟩⟩, rfl⟩
  rw [if_neg h4, if_pos (.inr (.inr (by omega)))]
  by_cases hst : s.acc.length < s.ans.length
  · rw [if_pos hst]
    exact ⟨⟨hs _ _ _, by omega⟩, by rw [set_ans]; rfl⟩
  · rw [if_neg hst]
    exact ⟨⟨by rw [hl]; omega, by omega, by rw [last_asked, hA]; exact ⟨.inl rfl, hw.1, hw.2⟩⟩, rfl⟩
theorem doP_ran : ∀ (l : List Act3) (sum : Int) (s : TS), s.acc.length ≤ s.ans.length → Ran (costL (l.map fitA)) s (doP (l.map fitA) sum s)
  | [], sum, s, h => ⟨rfl, h⟩
  | a :: l, sum, s, h => by
    obtain ⟨h1, h2⟩ := actP_ran a sum s h
    show Ran (costA (fitA a) + costL (l.map fitA)) s (match actP (fitA a) sum s with
      | (some x, s') => doP (l.map fitA) x s'
      | (none, s') => (none, s'))
    obtain ⟨⟨ro, s'⟩, hr⟩ : ∃ q, actP (fitA a) sum s = q := ⟨_, rfl⟩
    rw [hr] at h1 h2 ⊢
    cases ro with
    | none =>
      obtain ⟨p1, p2, p3⟩ := h1
      exact ⟨p1, by omega, p3⟩
    | some x =>
      obtain ⟨p1, p2⟩ := h1
      dsimp only at p1 p2 h2 ⊢
      have ih := doP_ran l x s' (by rw [h2]; omega)
      obtain ⟨⟨ro2, s2⟩, hr2⟩ : ∃ q, doP (l.map fitA) x s' = q := ⟨_, rfl⟩
      rw [hr2] at ih ⊢
      cases ro2 with
      | none =>
        obtain ⟨q1, q2, q3⟩ := ih
        rw [h2] at q1 q2
        exact ⟨q1, by omega, q3⟩
      | some y =>
        obtain ⟨q1, q2⟩ := ih
        rw [h2] at q2
        exact ⟨by show s2.acc.length = _; have q1 : s2.acc.length = s'.acc.length + costL (l.map fitA) := q1; omega, by omega⟩

/-- Thread 0 has nothing under way; and has. -/
def Free0 (u : BS) : Prop := (u.by' 0).1 = false ∧ ∀ cl c, getU u.u cl = some c → (c.bys 0).on = false
def Busy0 (u : BS) : Prop := (u.by' 0).1 = true ∧ ∀ cl c, getU u.u cl = some c → cl ≠ (u.by' 0).2 → (c.bys 0).on = false
theorem free_bs0 : Free0 bs0 := ⟨rfl, fun cl c h => by cases h⟩
theorem mkP_off (l : List SD) (n : Int) : ((mkP l n).bys 0).on = false := by
  unfold mkP
  split <;> rfl
theorem Free0.begin {u : BS} (h : Free0 u) (many er : Int) (l : List SD) (k cl v : Int) (hk : k = 1 ∨ k = 2) (h0 : 0 ≤ cl) (h1 : cl < many) :
    (u.begin many er (mkP l) 0 k cl v).1 = 0 ∧ Busy0 (u.begin many er (mkP l) 0 k cl v).2 := by
  have hb : (u.busy 0).2 = false := by unfold BS.busy; rw [if_neg (by omega)]; exact h.1
  have hoff : (((getU u.u cl).getD (mkP l cl)).bys 0).on = false := by
    cases hg : getU u.u cl with
    | none => exact mkP_off l cl
    | some c => exact h.2 cl c hg
  have hok : (((getU u.u cl).getD (mkP l cl)).begin 0 k v).1 = 0 := by
    unfold CS.begin
    rw [if_neg (by omega), if_neg (by rw [show (0 : Int).toNat = 0 from rfl, hoff]; simp)]
    split <;> rfl
  unfold BS.begin
  rw [if_neg (by simp; omega), if_neg (by rw [hb]; simp), if_neg (by simpa using hok)]
  refine ⟨rfl, rfl, fun x c hx hne => ?_⟩
  have hne : x ≠ cl := hne
  have hx : getU (putU u.u cl _) x = some c := hx
  rw [getU_other hne] at hx
  exact h.2 x c hx
theorem Busy0.endA {u : BS} (h : Busy0 u) (l : List SD) : Free0 (u.endA (mkP l) 0 0).2.2 := by
  have hb : (u.busy 0).2 = true := by unfold BS.busy; rw [if_neg (by omega)]; exact h.1
  have hb1 : (u.busy 0).1 = (u.by' 0).2 := by unfold BS.busy; rw [if_neg (by omega)]; rfl
  unfold BS.endA
  rw [if_neg (by rw [hb]; simp)]
  refine ⟨rfl, fun x c hx => ?_⟩
  have hx : getU (putU u.u (u.busy 0).1 (((getU u.u (u.busy 0).1).getD (mkP l 0)).endA 0 0).2.2) x = some c := hx
  by_cases e : x = (u.busy 0).1
  · subst e
    rw [getU_same, Option.some.injEq] at hx
    subst hx
    generalize (getU u.u (u.busy 0).1).getD (mkP l 0) = d
    unfold CS.endA
    rw [if_neg (by omega)]
    split
    · rename_i h2; exact h2
    · split <;> rfl
  · rw [getU_other e] at hx
    exact h.2 x c hx (by rw [← hb1]; exact e)

end Go.Proofs.Ytedkgamecdmjdaa
