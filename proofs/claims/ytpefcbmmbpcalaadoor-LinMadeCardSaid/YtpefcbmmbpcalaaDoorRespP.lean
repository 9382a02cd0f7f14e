/-
  Which orders respect a history, as plain data.
-/
import Derived.Test.YtpefcbmmbpcalaaDoorNextP
set_option linter.unusedVariables false
set_option linter.unusedSimpArgs false
namespace Go.Proofs.YtpefcbmmbpcalaaDoor
open Go.RowKit

def inR (l : List OpD) (x : Int) : Bool := decide (0 ≤ x) && decide (x < l.length)
/-- x behind y. -/
def pairB (l : List OpD) (x y : Int) : Bool := !(y == x) && !aheadB (l.getD x.toNat op0) (l.getD y.toNat op0)
def rowK (l : List OpD) (o : List Int) (i k : Nat) : Bool := (List.range k).all fun q => pairB l (o.getD i 0) (o.getD q 0)
def rowB (l : List OpD) (o : List Int) (i : Nat) : Bool := rowK l o i i
def inAll (l : List OpD) (o : List Int) (k : Nat) : Bool := (List.range k).all fun i => inR l (o.getD i 0)
def rowAll (l : List OpD) (o : List Int) (k : Nat) : Bool := (List.range k).all (rowB l o)
def thereK (l : List OpD) (o : List Int) (n k : Nat) : Bool := (l.getD n op0).to == -1 || (List.range k).any fun i => o.getD i 0 == (n : Int)
def thereB (l : List OpD) (o : List Int) (n : Nat) : Bool := thereK l o n o.length
def allB (l : List OpD) (o : List Int) (k : Nat) : Bool := (List.range k).all (thereB l o)
def respP (l : List OpD) (o : List Int) : Bool := inAll l o o.length && (rowAll l o o.length && allB l o l.length)
theorem all_succ (f : Nat → Bool) (k : Nat) : (List.range (k + 1)).all f = ((List.range k).all f && f k) := by rw [List.range_succ, List.all_append]; simp
theorem any_succ (f : Nat → Bool) (k : Nat) : (List.range (k + 1)).any f = ((List.range k).any f || f k) := by rw [List.range_succ, List.any_append]; simp
theorem rowK_succ (l : List OpD) (o : List Int) (i k : Nat) : rowK l o i (k + 1) = (rowK l o i k && pairB l (o.getD i 0) (o.getD k 0)) := all_succ _ _
theorem inAll_succ (l : List OpD) (o : List Int) (k : Nat) : inAll l o (k + 1) = (inAll l o k && inR l (o.getD k 0)) := all_succ _ _
theorem rowAll_succ (l : List OpD) (o : List Int) (k : Nat) : rowAll l o (k + 1) = (rowAll l o k && rowB l o k) := all_succ _ _
theorem thereK_succ (l : List OpD) (o : List Int) (n k : Nat) : thereK l o n (k + 1) = (thereK l o n k || o.getD k 0 == (n : Int)) := by unfold thereK; rw [any_succ, Bool.or_assoc]
theorem allB_succ (l : List OpD) (o : List Int) (k : Nat) : allB l o (k + 1) = (allB l o k && thereB l o k) := all_succ _ _
theorem all_no {f : Nat → Bool} {k n : Nat} (hk : k < n) (h : f k = false) : (List.range n).all f = false := by
  rw [List.all_eq_false]; exact ⟨k, List.mem_range.2 hk, by rw [h]; simp⟩
theorem all_at {f : Nat → Bool} {n : Nat} (h : (List.range n).all f = true) {k : Nat} (hk : k < n) : f k = true := by
  rw [List.all_eq_true] at h; exact h k (List.mem_range.2 hk)
theorem inR_parts {l : List OpD} {x : Int} (h : inR l x = true) : 0 ≤ x ∧ x < l.length := by
  unfold inR at h
  rw [Bool.and_eq_true] at h
  exact ⟨of_decide_eq_true h.1, of_decide_eq_true h.2⟩
theorem resp_no_in {l : List OpD} {o : List Int} {k : Nat} (hk : k < o.length) (h : inR l (o.getD k 0) = false) : respP l o = false := by
  unfold respP inAll; rw [all_no hk h]; rfl
theorem resp_no_row {l : List OpD} {o : List Int} {k : Nat} (hk : k < o.length) (h : rowB l o k = false) : respP l o = false := by
  unfold respP rowAll; rw [all_no hk h]; simp
theorem row_no {l : List OpD} {o : List Int} {i q : Nat} (hq : q < i) (h : pairB l (o.getD i 0) (o.getD q 0) = false) : rowB l o i = false := all_no hq h

/-- The set of those that were over. -/
def overK (l : List OpD) : Nat → Nat
  | 0 => 0
  | k + 1 => if (l.getD k op0).to = -1 then overK l k else withN (overK l k) k
def overL (l : List OpD) : Nat := overK l l.length
theorem overK_lt (l : List OpD) : ∀ k, k ≤ 64 → overK l k < top64
  | 0, _ => by unfold overK top64; decide
  | k + 1, h => by
    unfold overK
    split
    · exact overK_lt l k (by omega)
    · exact withN_lt (overK_lt l k (by omega)) (by omega)
theorem overK_has (l : List OpD) (n : Nat) : ∀ k, hasB (overK l k) n = (decide (n < k) && !((l.getD n op0).to == -1))
  | 0 => by unfold overK; rw [hasB_bit, Nat.zero_testBit, decide_eq_false (by omega)]; rfl
  | k + 1 => by
    unfold overK
    split
    · rename_i h
      rw [overK_has l n k]
      by_cases hn : n = k
      · subst hn
        rw [h, decide_eq_false (by omega)]; simp
      · by_cases h2 : n < k
        · rw [decide_eq_true h2, decide_eq_true (by omega)]
        · rw [decide_eq_false h2, decide_eq_false (by omega)]
    · rename_i h
      rw [hasB_with, overK_has l n k]
      by_cases hn : n = k
      · subst hn
        rw [decide_eq_true (show n < n + 1 by omega), beq_eq_false_iff_ne.2 h]; simp
      · rw [beq_eq_false_iff_ne.2 hn, Bool.false_or]
        by_cases h2 : n < k
        · rw [decide_eq_true h2, decide_eq_true (by omega)]
        · rw [decide_eq_false h2, decide_eq_false (by omega)]
/-- The set of the first k of an order. -/
def thereN (o : List Int) : Nat → Nat
  | 0 => 0
  | k + 1 => withN (thereN o k) (o.getD k 0).toNat
theorem thereN_has (o : List Int) (n : Nat) : ∀ k, hasB (thereN o k) n = (List.range k).any fun i => (o.getD i 0).toNat == n
  | 0 => by unfold thereN; rw [hasB_bit, Nat.zero_testBit]; rfl
  | k + 1 => by
    unfold thereN
    rw [hasB_with, thereN_has o n k, any_succ, Bool.or_comm]
    congr 1
    exact Bool.eq_iff_iff.2 ⟨fun h => by rw [beq_iff_eq] at h ⊢; exact h.symm, fun h => by rw [beq_iff_eq] at h ⊢; exact h.symm⟩
theorem thereN_lt {o : List Int} : ∀ k, (∀ i, i < k → (o.getD i 0).toNat < 64) → thereN o k < top64
  | 0, _ => by unfold thereN top64; decide
  | k + 1, h => withN_lt (thereN_lt k (fun i hi => h i (by omega))) (h k (by omega))
theorem diff_zero {a b : Nat} : diffN a b = 0 ↔ ∀ i, i < 64 → hasB a i = true → hasB b i = true := by
  constructor
  · intro h i hi ha
    have := diffN_has (a := a) (b := b) hi
    rw [h, hasB_bit, Nat.zero_testBit, ha, Bool.true_and] at this
    cases hb : hasB b i
    · rw [hb] at this; cases this
    · rfl
  · intro h
    apply hasB_ext
    intro i
    rw [hasB_bit 0, Nat.zero_testBit]
    by_cases hi : i < 64
    · rw [diffN_has hi]
      cases ha : hasB a i
      · rfl
      · rw [h i hi ha]; rfl
    · exact hasB_top (diffN_lt _ _) (Nat.le_of_not_lt hi)
/-- A place that has come already. -/
theorem has_there {l : List OpD} {o : List Int} {k : Nat} (hin : inAll l o k = true) (hx : 0 ≤ o.getD k 0) (h : hasB (thereN o k) (o.getD k 0).toNat = true) : rowB l o k = false := by
  rw [thereN_has, List.any_eq_true] at h
  obtain ⟨i, hi, he⟩ := h
  have hi2 := List.mem_range.1 hi
  have h1 := (inR_parts (all_at hin hi2)).1
  rw [beq_iff_eq] at he
  refine row_no hi2 ?_
  unfold pairB
  have : o.getD i 0 = o.getD k 0 := by omega
  rw [this]; simp
theorem row_there {l : List OpD} {o : List Int} {k q : Nat} (hin : inAll l o k = true) (hx : 0 ≤ o.getD k 0) (hq : q < k) (h : hasB (thereN o k) (o.getD k 0).toNat = false) : (o.getD q 0 == o.getD k 0) = false := by
  rw [thereN_has, List.any_eq_false] at h
  have h2 := h q (List.mem_range.2 hq)
  have h1 := (inR_parts (all_at hin hq)).1
  rw [beq_iff_eq] at h2
  rw [beq_eq_false_iff_ne]
  intro e
  exact h2 (by rw [e])
theorem resp_last {l : List OpD} {o : List Int} (hl : l.length ≤ 64) (h1 : inAll l o o.length = true) (h2 : rowAll l o o.length = true) : respP l o = (diffN (overL l) (thereN o o.length) == 0) := by
  unfold respP
  rw [h1, h2, Bool.true_and, Bool.true_and, Bool.eq_iff_iff, beq_iff_eq, diff_zero]
  unfold allB
  rw [List.all_eq_true]
  constructor
  · intro h i hi ho
    unfold overL at ho
    rw [overK_has, Bool.and_eq_true] at ho
    have := h i (List.mem_range.2 (of_decide_eq_true ho.1))
    unfold thereB thereK at this
    have hto : ((l.getD i op0).to == -1) = false := by
      have := ho.2
      rwa [Bool.not_eq_true'] at this
    rw [hto, Bool.false_or] at this
    rw [List.any_eq_true] at this
    obtain ⟨q, hq, he⟩ := this
    rw [thereN_has, List.any_eq_true]
    refine ⟨q, hq, ?_⟩
    rw [beq_iff_eq] at he ⊢
    rw [he]; rfl
  · intro h i hi
    have hi2 := List.mem_range.1 hi
    unfold thereB thereK
    cases hto : (l.getD i op0).to == -1
    · rw [Bool.false_or]
      have ho : hasB (overL l) i = true := by
        unfold overL
        rw [overK_has, hto, decide_eq_true hi2]; rfl
      have := h i (by omega) ho
      rw [thereN_has, List.any_eq_true] at this
      obtain ⟨q, hq, he⟩ := this
      rw [List.any_eq_true]
      refine ⟨q, hq, ?_⟩
      have := (inR_parts (all_at h1 (List.mem_range.1 hq))).1
      rw [beq_iff_eq] at he ⊢
      omega
    · rfl

end Go.Proofs.YtpefcbmmbpcalaaDoor
