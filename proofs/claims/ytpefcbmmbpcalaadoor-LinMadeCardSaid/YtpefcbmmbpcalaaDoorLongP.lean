/-
  The longest row, as plain data: by its ends (the program's), by its beginnings (the document's).
-/
import Derived.Test.YtpefcbmmbpcalaaDoorAhd
set_option linter.unusedVariables false
set_option linter.unusedSimpArgs false
namespace Go.Proofs.YtpefcbmmbpcalaaDoor
open Go.RowKit

def ahI (l : List OpD) (i k : Nat) : Bool := aheadB (l.getD i op0) (l.getD k op0)
def maxK (f : Nat → Nat) : Nat → Nat
  | 0 => 0
  | k + 1 => max (maxK f k) (f k)
theorem maxK_ge {f : Nat → Nat} {k : Nat} : ∀ {n}, k < n → f k ≤ maxK f n
  | 0, h => by omega
  | n + 1, h => by
    unfold maxK
    by_cases e : k = n
    · subst e; omega
    · have := maxK_ge (f := f) (show k < n by omega); omega
theorem maxK_le {f : Nat → Nat} {b : Nat} (n : Nat) (h : ∀ k, k < n → f k ≤ b) : maxK f n ≤ b := by
  induction n with
  | zero => unfold maxK; omega
  | succ n ih =>
    unfold maxK
    have h1 := ih (fun k hk => h k (by omega))
    have h2 := h n (by omega)
    omega
/-- The greatest of those ahead, among the first k. -/
def endM (l : List OpD) (f : Nat → Nat) (i : Nat) : Nat → Nat
  | 0 => 0
  | k + 1 => if ahI l k i then max (endM l f i k) (f k) else endM l f i k
theorem endM_congr {l : List OpD} {f g : Nat → Nat} {i : Nat} : ∀ {k}, (∀ q, q < k → f q = g q) → endM l f i k = endM l g i k
  | 0, _ => rfl
  | k + 1, h => by
    unfold endM
    rw [endM_congr (fun q hq => h q (by omega)), h k (by omega)]
theorem endM_ge {l : List OpD} {f : Nat → Nat} {i q : Nat} (ha : ahI l q i = true) : ∀ {k}, q < k → f q ≤ endM l f i k
  | 0, h => by omega
  | k + 1, h => by
    unfold endM
    by_cases e : q = k
    · subst e; rw [if_pos ha]; omega
    · have := endM_ge (f := f) ha (show q < k by omega)
      split <;> omega
theorem endM_ex {l : List OpD} {f : Nat → Nat} {i : Nat} : ∀ k, endM l f i k = 0 ∨ ∃ q, q < k ∧ ahI l q i = true ∧ endM l f i k = f q
  | 0 => .inl rfl
  | k + 1 => by
    unfold endM
    have ih := endM_ex (l := l) (f := f) (i := i) k
    split
    · rename_i ha
      by_cases hle : f k ≤ endM l f i k
      · rw [Nat.max_eq_left hle]
        rcases ih with h | ⟨q, h1, h2, h3⟩
        · exact .inl h
        · exact .inr ⟨q, by omega, h2, h3⟩
      · rw [Nat.max_eq_right (by omega)]
        exact .inr ⟨k, by omega, ha, rfl⟩
    · rcases ih with h | ⟨q, h1, h2, h3⟩
      · exact .inl h
      · exact .inr ⟨q, by omega, h2, h3⟩
/-- The rows' lengths by their ends, the first k. -/
def longs (l : List OpD) : Nat → List Nat
  | 0 => []
  | k + 1 => longs l k ++ [endM l (fun q => (longs l k).getD q 0) k k + 1]
theorem longs_len (l : List OpD) : ∀ k, (longs l k).length = k
  | 0 => rfl
  | k + 1 => by unfold longs; rw [List.length_append, longs_len l k]; rfl
def endL (l : List OpD) (i : Nat) : Nat := (longs l (i + 1)).getD i 0
theorem longs_get (l : List OpD) {q : Nat} : ∀ {k}, q < k → (longs l k).getD q 0 = endL l q
  | 0, h => by omega
  | k + 1, h => by
    by_cases e : q = k
    · subst e; rfl
    · have ih := longs_get l (show q < k by omega)
      rw [← ih]
      have e2 : longs l (k + 1) = longs l k ++ [endM l (fun q => (longs l k).getD q 0) k k + 1] := rfl
      rw [e2, List.getD_eq_getElem?_getD, List.getD_eq_getElem?_getD, List.getElem?_append_left (by rw [longs_len]; omega)]
theorem endL_is (l : List OpD) (i : Nat) : endL l i = endM l (endL l) i i + 1 := by
  have e : endM l (endL l) i i = endM l (fun q => (longs l i).getD q 0) i i := endM_congr (fun q hq => (longs_get l hq).symm)
  rw [e]
  unfold endL
  have hl := longs_len l i
  show (longs l i ++ [endM l (fun q => (longs l i).getD q 0) i i + 1]).getD i 0 = _
  rw [List.getD_eq_getElem?_getD, List.getElem?_append_right (by omega), hl, Nat.sub_self]; rfl
/-- The greatest of those behind, among the next k. -/
def stK (l : List OpD) (g : Nat → Nat) (i : Nat) : Nat → Nat
  | 0 => 0
  | k + 1 => if ahI l i (i + 1 + k) then max (stK l g i k) (g (i + 1 + k)) else stK l g i k
theorem stK_ge {l : List OpD} {g : Nat → Nat} {i q : Nat} (ha : ahI l i (i + 1 + q) = true) : ∀ {k}, q < k → g (i + 1 + q) ≤ stK l g i k
  | 0, h => by omega
  | k + 1, h => by
    unfold stK
    by_cases e : q = k
    · subst e; rw [if_pos ha]; omega
    · have := stK_ge (g := g) ha (show q < k by omega)
      split <;> omega
theorem stK_ex {l : List OpD} {g : Nat → Nat} {i : Nat} : ∀ k, stK l g i k = 0 ∨ ∃ q, q < k ∧ ahI l i (i + 1 + q) = true ∧ stK l g i k = g (i + 1 + q)
  | 0 => .inl rfl
  | k + 1 => by
    unfold stK
    have ih := stK_ex (l := l) (g := g) (i := i) k
    split
    · rename_i ha
      by_cases hle : g (i + 1 + k) ≤ stK l g i k
      · rw [Nat.max_eq_left hle]
        rcases ih with h | ⟨q, h1, h2, h3⟩
        · exact .inl h
        · exact .inr ⟨q, by omega, h2, h3⟩
      · rw [Nat.max_eq_right (by omega)]
        exact .inr ⟨k, by omega, ha, rfl⟩
    · rcases ih with h | ⟨q, h1, h2, h3⟩
      · exact .inl h
      · exact .inr ⟨q, by omega, h2, h3⟩
/-- The rows' lengths by their beginnings. -/
def stF (l : List OpD) : Nat → Nat → Nat
  | 0, _ => 0
  | f + 1, i => stK l (stF l f) i (l.length - (i + 1)) + 1
def startL (l : List OpD) (i : Nat) : Nat := stF l (l.length - i) i
theorem stK_congr {l : List OpD} {f g : Nat → Nat} {i : Nat} : ∀ {k}, (∀ q, q < k → f (i + 1 + q) = g (i + 1 + q)) → stK l f i k = stK l g i k
  | 0, _ => rfl
  | k + 1, h => by
    unfold stK
    rw [stK_congr (fun q hq => h q (by omega)), h k (by omega)]
theorem stF_more {l : List OpD} : ∀ (m j f : Nat), l.length - j ≤ m → l.length - j ≤ f → j < l.length → stF l f j = stF l (l.length - j) j
  | 0, j, f, h1, _, h3 => by omega
  | m + 1, j, f, h1, h2, h3 => by
    obtain ⟨g, hg⟩ : ∃ g, l.length - j = g + 1 := ⟨l.length - (j + 1), by omega⟩
    obtain ⟨f', hf⟩ : ∃ f', f = f' + 1 := ⟨f - 1, by omega⟩
    rw [hg, hf]
    unfold stF
    congr 1
    apply stK_congr
    intro q hq
    rw [stF_more m (j + 1 + q) f' (by omega) (by omega) (by omega), stF_more m (j + 1 + q) g (by omega) (by omega) (by omega)]
theorem startL_is {l : List OpD} {i : Nat} (hi : i < l.length) : startL l i = stK l (startL l) i (l.length - (i + 1)) + 1 := by
  obtain ⟨g, hg⟩ : ∃ g, l.length - i = g + 1 := ⟨l.length - (i + 1), by omega⟩
  have e : startL l i = stF l (g + 1) i := by unfold startL; rw [hg]
  rw [e]
  show stK l (stF l g) i (l.length - (i + 1)) + 1 = _
  congr 1
  apply stK_congr
  intro q hq
  exact stF_more l.length (i + 1 + q) g (by omega) (by omega) (by omega)

/-- A row of m, each ahead of the next one. -/
inductive Ch (l : List OpD) : Nat → Nat → Nat → Prop
  | one {i : Nat} : i < l.length → Ch l 1 i i
  | step {m s e k : Nat} : Ch l m s e → e < k → k < l.length → ahI l e k = true → Ch l (m + 1) s k
theorem Ch.lt {l : List OpD} {m s e : Nat} (h : Ch l m s e) : s < l.length ∧ e < l.length ∧ s ≤ e ∧ 0 < m := by
  induction h with
  | one h => exact ⟨h, h, Nat.le_refl _, by omega⟩
  | step h h1 h2 h3 ih => exact ⟨ih.1, h2, by omega, by omega⟩
theorem Ch.cons {l : List OpD} {m s e q : Nat} (h : Ch l m s e) (h1 : q < s) (ha : ahI l q s = true) : Ch l (m + 1) q e := by
  induction h with
  | one h => exact .step (.one (by omega)) h1 h ha
  | step h h2 h3 h4 ih => exact .step (ih h1 ha) h2 h3 h4
theorem Ch.uncons {l : List OpD} {m s e : Nat} (h : Ch l m s e) : m = 1 ∨ ∃ m' q, m = m' + 1 ∧ s < q ∧ q < l.length ∧ ahI l s q = true ∧ Ch l m' q e := by
  induction h with
  | one h => exact .inl rfl
  | @step m s e k h h2 h3 h4 ih =>
    right
    rcases ih with rfl | ⟨m', q, rfl, b1, b2, b3, b4⟩
    · cases h with
      | one h => exact ⟨1, k, rfl, h2, h3, h4, .one h3⟩
      | step h' _ _ _ => have := h'.lt; omega
    · exact ⟨m' + 1, q, rfl, b1, b2, b3, .step b4 h2 h3 h4⟩
theorem end_ge {l : List OpD} {m s e : Nat} (h : Ch l m s e) : m ≤ endL l e := by
  induction h with
  | one h => rw [endL_is]; omega
  | @step m s e k h h2 h3 h4 ih =>
    rw [endL_is]
    have := endM_ge (l := l) (f := endL l) h4 h2
    omega
theorem end_ex {l : List OpD} : ∀ (n e : Nat), e < n → e < l.length → ∃ s, Ch l (endL l e) s e
  | 0, e, h, _ => by omega
  | n + 1, e, h, he => by
    rw [endL_is]
    rcases endM_ex (l := l) (f := endL l) (i := e) e with h0 | ⟨q, h1, h2, h3⟩
    · rw [h0]; exact ⟨e, .one he⟩
    · rw [h3]
      obtain ⟨s, hs⟩ := end_ex (l := l) n q (by omega) (by omega)
      exact ⟨s, .step hs h1 he h2⟩
theorem start_ge {l : List OpD} : ∀ {m s e : Nat}, Ch l m s e → m ≤ startL l s
  | m, s, e, h => by
    have hl := h.lt
    rw [startL_is hl.1]
    rcases h.uncons with rfl | ⟨m', q, rfl, b1, b2, b3, b4⟩
    · omega
    · have ih := start_ge b4
      obtain ⟨d, rfl⟩ : ∃ d, q = s + 1 + d := ⟨q - s - 1, by omega⟩
      have := stK_ge (l := l) (g := startL l) b3 (show d < l.length - (s + 1) by omega)
      omega
termination_by m => m
decreasing_by omega
theorem start_ex {l : List OpD} : ∀ (n s : Nat), l.length - s ≤ n → s < l.length → ∃ e, Ch l (startL l s) s e
  | 0, s, h, _ => by omega
  | n + 1, s, h, hs => by
    rw [startL_is hs]
    rcases stK_ex (l := l) (g := startL l) (i := s) (l.length - (s + 1)) with h0 | ⟨q, h1, h2, h3⟩
    · rw [h0]; exact ⟨s, .one hs⟩
    · rw [h3]
      obtain ⟨e, he⟩ := start_ex (l := l) n (s + 1 + q) (by omega) (by omega)
      exact ⟨e, he.cons (by omega) h2⟩
/-- The longest row, either way. -/
theorem long_eq (l : List OpD) : maxK (endL l) l.length = maxK (startL l) l.length := by
  apply Nat.le_antisymm
  · apply maxK_le _
    intro k hk
    obtain ⟨s, hs⟩ := end_ex (l := l) (k + 1) k (by omega) hk
    exact Nat.le_trans (start_ge hs) (maxK_ge hs.lt.1)
  · apply maxK_le _
    intro k hk
    obtain ⟨e, he⟩ := start_ex (l := l) l.length k (by omega) hk
    exact Nat.le_trans (end_ge he) (maxK_ge he.lt.2.1)
theorem Ch.len {l : List OpD} {m s e : Nat} (h : Ch l m s e) : m + s ≤ e + 1 := by
  induction h with
  | one h => omega
  | step h h1 h2 h3 ih => omega
theorem endL_le {l : List OpD} {i : Nat} (hi : i < l.length) : endL l i ≤ i + 1 := by
  obtain ⟨s, hs⟩ := end_ex (l := l) (i + 1) i (by omega) hi
  have := hs.len
  omega
theorem startL_le {l : List OpD} {i : Nat} (hi : i < l.length) : startL l i ≤ l.length := by
  obtain ⟨e, he⟩ := start_ex (l := l) l.length i (by omega) hi
  have := he.len
  have := he.lt
  omega

end Go.Proofs.YtpefcbmmbpcalaaDoor
