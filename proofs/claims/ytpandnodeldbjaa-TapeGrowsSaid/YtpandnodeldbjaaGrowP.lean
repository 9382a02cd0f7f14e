/-
  Acts on a tape with fewer answers: the same, or a beginning of it.
-/
import Derived.Test.YtpandnodeldbjaaPlays
set_option linter.unusedVariables false
set_option linter.unusedSimpArgs false
namespace Go.Proofs.Ytpandnodeldbjaa
open Go.RowKit

def Begins (s t : TS) : Prop := s.acc <+: t.acc ∧ s.nts <+: t.nts
theorem Begins.refl (s : TS) : Begins s s := ⟨List.prefix_refl _, List.prefix_refl _⟩
theorem Begins.trans {a b c : TS} (h : Begins a b) (k : Begins b c) : Begins a c := ⟨h.1.trans k.1, h.2.trans k.2⟩
theorem Begins.asked (s : TS) (a : Int × Int × Int) : Begins s (s.asked a) := ⟨List.prefix_append _ _, List.prefix_refl _⟩
theorem Begins.noted (s : TS) (k : Int) : Begins s (s.noted k) := ⟨List.prefix_refl _, List.prefix_append _ _⟩
theorem Begins.set (s : TS) (i v : Int) : Begins s (s.set i v) := by
  obtain ⟨h1, h2, _⟩ := set_len s i v
  exact ⟨by rw [h1]; exact List.prefix_refl _, by rw [h2]; exact List.prefix_refl _⟩
theorem actP_begins (a : Act3) (sum : Int) (s : TS) : Begins s (actP a sum s).2 := by
  unfold actP
  split
  · split <;> exact .asked _ _
  · split
    · exact .asked _ _
    · split
      · exact .set _ _ _
      · split
        · exact .noted _ _
        · split
          · exact .asked _ _
          · split
            · exact (Begins.asked _ _).trans (.set _ _ _)
            · exact .asked _ _
theorem doP_begins : ∀ (l : List Act3) (sum : Int) (s : TS), Begins s (doP l sum s).2
  | [], sum, s => .refl s
  | a :: l, sum, s => by
    have h := actP_begins a sum s
    unfold doP
    obtain ⟨⟨x, s'⟩, hx⟩ : ∃ p, actP a sum s = p := ⟨_, rfl⟩
    rw [hx] at h ⊢
    cases x with
    | none => exact h
    | some y => exact h.trans (doP_begins l y s')

structure Half (k : Nat) (s t : TS) : Prop where
  ans : s.ans = t.ans.take k
  le : k ≤ t.ans.length
  loc : s.loc = t.loc
  acc : s.acc = t.acc
  nts : s.nts = t.nts
  at' : s.acc.length ≤ k
theorem Half.len {k : Nat} {s t : TS} (h : Half k s t) : s.ans.length = k := by rw [h.ans, List.length_take, Nat.min_eq_left h.le]
theorem Half.told {k : Nat} {s t : TS} (h : Half k s t) (hlt : s.acc.length < k) : s.told = t.told := by
  unfold TS.told
  rw [h.ans, ← h.acc, List.getD_eq_getElem?_getD, List.getD_eq_getElem?_getD, List.getElem?_take, if_pos hlt]
theorem Half.asked {k : Nat} {s t : TS} (h : Half k s t) (hlt : s.acc.length < k) (a : Int × Int × Int) : Half k (s.asked a) (t.asked a) := ⟨h.ans, h.le, h.loc, by simp [TS.asked, h.acc], h.nts, by simp [TS.asked]; omega⟩
theorem Half.noted {k : Nat} {s t : TS} (h : Half k s t) (n : Int) : Half k (s.noted n) (t.noted n) := ⟨h.ans, h.le, h.loc, h.acc, by simp [TS.noted, h.nts, h.acc], h.at'⟩
theorem Half.get {k : Nat} {s t : TS} (h : Half k s t) (i : Int) : s.get i = t.get i := by unfold TS.get; rw [h.loc]
theorem Half.set {k : Nat} {s t : TS} (h : Half k s t) (i v : Int) : Half k (s.set i v) (t.set i v) := by
  unfold TS.set
  rw [h.loc]
  split
  · exact h
  · split
    · split
      · exact h
      · exact ⟨h.ans, h.le, rfl, h.acc, h.nts, h.at'⟩
    · exact ⟨h.ans, h.le, rfl, h.acc, h.nts, h.at'⟩

/-- What the shorter tape comes to, and the longer. -/
def Grows (k : Nat) (x y : Option Int × TS) : Prop := match x with
  | (some v, s') => ∃ t', y = (some v, t') ∧ Half k s' t'
  | (none, s') => s'.acc.length = k + 1 ∧ Begins s' y.2
theorem stop_grows {k : Nat} {s t : TS} (h : Half k s t) (hlt : ¬ s.acc.length < s.ans.length) (a : Int × Int × Int) {y : Option Int × TS} (hy : Begins (t.asked a) y.2) : Grows k (none, s.asked a) y := by
  have h1 := h.len
  have h2 := h.at'
  refine ⟨by simp [TS.asked]; omega, Begins.trans ⟨?_, ?_⟩ hy⟩
  · simp [TS.asked, h.acc]
  · simp [TS.asked, h.nts]
theorem act_grows (a : Act3) (sum : Int) (k : Nat) (s t : TS) (h : Half k s t) : Grows k (actP a sum s) (actP a sum t) := by
  have hl := h.len
  have hle := h.le
  have hacc : s.acc.length = t.acc.length := by rw [h.acc]
  unfold actP
  by_cases h0 : a.1 % 6 = 0
  · simp only [if_pos h0]
    by_cases hlt : s.acc.length < s.ans.length
    · rw [if_pos hlt, if_pos (show t.acc.length < t.ans.length by omega), h.told (by omega)]
      exact ⟨_, rfl, h.asked (by omega) _⟩
    · rw [if_neg hlt]
      refine stop_grows h hlt _ ?_
      split <;> exact .refl _
  · simp only [if_neg h0]
    by_cases h1 : a.1 % 6 = 1
    · simp only [if_pos h1]
      by_cases hlt : s.acc.length < s.ans.length
      · rw [if_pos hlt, if_pos (show t.acc.length < t.ans.length by omega)]
        exact ⟨_, rfl, h.asked (by omega) _⟩
      · rw [if_neg hlt]
        exact stop_grows h hlt _ (.refl _)
    · simp only [if_neg h1]
      by_cases h2 : a.1 % 6 = 2
      · simp only [if_pos h2]
        exact ⟨_, rfl, h.set _ _⟩
      · simp only [if_neg h2]
        by_cases h3 : a.1 % 6 = 3
        · simp only [if_pos h3]
          exact ⟨_, rfl, h.noted _⟩
        · simp only [if_neg h3]
          by_cases h4 : a.1 % 6 = 4
          · simp only [if_pos h4]
            rw [h.get]
            by_cases hlt : s.acc.length < s.ans.length
            · rw [if_pos hlt, if_pos (show t.acc.length < t.ans.length by omega)]
              exact ⟨_, rfl, h.asked (by omega) _⟩
            · rw [if_neg hlt]
              exact stop_grows h hlt _ (.refl _)
          · simp only [if_neg h4]
            by_cases hlt : s.acc.length < s.ans.length
            · rw [if_pos hlt, if_pos (show t.acc.length < t.ans.length by omega), h.told (by omega)]
              have h5 := (h.asked (a := (1, a.2.1, 0)) (by omega)).set a.2.2 t.told
              rw [h5.get]
              exact ⟨_, rfl, h5⟩
            · rw [if_neg hlt]
              refine stop_grows h hlt _ ?_
              split
              · exact .set _ _ _
              · exact .refl _
theorem do_grows : ∀ (l : List Act3) (sum : Int) (k : Nat) (s t : TS), Half k s t → Grows k (doP l sum s) (doP l sum t)
  | [], sum, k, s, t, h => ⟨t, rfl, h⟩
  | a :: l, sum, k, s, t, h => by
    have hg := act_grows a sum k s t h
    unfold doP
    obtain ⟨⟨x, s'⟩, hx⟩ : ∃ p, actP a sum s = p := ⟨_, rfl⟩
    rw [hx] at hg ⊢
    cases x with
    | some v =>
      obtain ⟨t', ht, hh⟩ := hg
      rw [ht]
      exact do_grows l v k s' t' hh
    | none =>
      obtain ⟨h1, h2⟩ := hg
      refine ⟨h1, ?_⟩
      obtain ⟨⟨y, t'⟩, hy⟩ : ∃ p, actP a sum t = p := ⟨_, rfl⟩
      rw [hy] at h2 ⊢
      cases y with
      | none => exact h2
      | some v => exact h2.trans (doP_begins l v t')

/-- The law, plainly. -/
theorem grow_law (l : List Act3) (loc ans : List Int) (k : Nat) (hk : k ≤ ans.length) : ∃ (da : Bool) (a b : Option Int × TS), doP l 0 ⟨ans.take k, loc, [], []⟩ = a ∧ doP l 0 ⟨ans, loc, [], []⟩ = b ∧ a.1.isSome = da ∧ a.2.acc <+: b.2.acc ∧ a.2.nts <+: b.2.nts ∧
    ((da = true ∧ b.1.isSome = true ∧ a.1.getD 0 = b.1.getD 0 ∧ sameB true true a.2.acc b.2.acc a.2.nts b.2.nts (shortL a.2.loc) (shortL b.2.loc) = true ∧ a.2.acc.length ≤ k) ∨ (da = false ∧ a.1.getD 0 = 0 ∧ a.2.acc.length = k + 1)) := by
  have h := do_grows l 0 k ⟨ans.take k, loc, [], []⟩ ⟨ans, loc, [], []⟩ ⟨rfl, hk, rfl, rfl, rfl, Nat.zero_le _⟩
  obtain ⟨a, ha⟩ : ∃ p, doP l 0 ⟨ans.take k, loc, [], []⟩ = p := ⟨_, rfl⟩
  obtain ⟨b, hb⟩ : ∃ p, doP l 0 ⟨ans, loc, [], []⟩ = p := ⟨_, rfl⟩
  rw [ha, hb] at h
  refine ⟨a.1.isSome, a, b, ha, hb, rfl, ?_⟩
  obtain ⟨x, s'⟩ := a
  cases x with
  | some v =>
    obtain ⟨t', rfl, hh⟩ := h
    refine ⟨by rw [hh.acc]; exact List.prefix_refl _, by rw [hh.nts]; exact List.prefix_refl _, .inl ⟨rfl, rfl, rfl, decide_eq_true ⟨rfl, hh.acc, hh.nts, by rw [hh.loc]⟩, hh.at'⟩⟩
  | none => exact ⟨h.2.1, h.2.2, .inr ⟨rfl, rfl, h.1⟩⟩

end Go.Proofs.Ytpandnodeldbjaa
