/-
  Sets as numbers: testBit; and-not; the lowest bit; the places of a set, rising.
-/
import Derived.Test.YtpefcbmmbpcalaaDoorMask
import Derived.Lib.TrailingZeros
import Derived.Laws.Bits64b
set_option linter.unusedVariables false
set_option linter.unusedSimpArgs false
namespace Go.Proofs.YtpefcbmmbpcalaaDoor
open Go.RowKit

theorem hasB_bit (s i : Nat) : hasB s i = s.testBit i := by
  unfold hasB
  rw [Nat.testBit_eq_decide_div_mod_eq]
  by_cases h : s / 2 ^ i % 2 = 1
  · rw [h]; rfl
  · rw [decide_eq_false h, beq_eq_false_iff_ne.2 h]
theorem hasB_ext {s t : Nat} (h : ∀ i, hasB s i = hasB t i) : s = t := by
  apply Nat.eq_of_testBit_eq
  intro i
  rw [← hasB_bit, ← hasB_bit, h i]
theorem hasB_top {s i : Nat} (hs : s < top64) (hi : 64 ≤ i) : hasB s i = false := by
  rw [hasB_bit]
  exact Nat.testBit_lt_two_pow (Nat.lt_of_lt_of_le hs (Nat.pow_le_pow_right (by decide) hi))
theorem or_with (s t : Nat) : s ||| 2 ^ t = withN s t := by
  apply hasB_ext
  intro i
  rw [hasB_with, hasB_bit, hasB_bit, Nat.testBit_or, Nat.testBit_two_pow, Bool.or_comm]
  congr 1
  by_cases h : t = i
  · subst h; simp
  · rw [decide_eq_false h, beq_eq_false_iff_ne.2 (fun e => h e.symm)]
def diffN (a b : Nat) : Nat := (BitVec.ofNat 64 a &&& ~~~ BitVec.ofNat 64 b).toNat
theorem diffN_lt (a b : Nat) : diffN a b < top64 := BitVec.isLt _
theorem diffN_has {a b i : Nat} (hi : i < 64) : hasB (diffN a b) i = (hasB a i && !hasB b i) := by
  rw [hasB_bit, hasB_bit, hasB_bit]
  unfold diffN
  rw [BitVec.testBit_toNat, BitVec.getLsbD_and, BitVec.getLsbD_not, BitVec.getLsbD_ofNat, BitVec.getLsbD_ofNat, decide_eq_true hi]
  simp
theorem bits_andNot (a b : Nat) (ha : a < top64) (hb : b < top64) : bits .andNot .u64 (a : Int) (b : Int) = (diffN a b : Int) := by
  have h := diffN_lt a b
  rw [top64_is] at h
  show IntKind.u64.wrap ((BitVec.ofInt 64 (a : Int) &&& ~~~ BitVec.ofInt 64 (b : Int)).toNat : Int) = _
  rw [BitVec.ofInt_natCast, BitVec.ofInt_natCast, IntKind.wrap_u64]
  unfold diffN at h ⊢
  omega
def firstN (n : Nat) : Nat := 2 ^ n - 1
theorem firstN_lt {n : Nat} (h : n ≤ 64) : firstN n < top64 := by
  have h1 : 2 ^ n ≤ 2 ^ 64 := Nat.pow_le_pow_right (by decide) h
  have h2 := Nat.two_pow_pos n
  unfold firstN top64
  omega
theorem firstN_has (n i : Nat) : hasB (firstN n) i = decide (i < n) := by
  rw [hasB_bit]; exact Nat.testBit_two_pow_sub_one n i
/-- What is left of n places behind d. -/
def leftN (n d : Nat) : Nat := diffN (firstN n) d
theorem leftN_has {n d i : Nat} (hn : n ≤ 64) : hasB (leftN n d) i = (decide (i < n) && !hasB d i) := by
  by_cases hi : i < 64
  · unfold leftN; rw [diffN_has hi, firstN_has]
  · rw [hasB_top (s := leftN n d) (diffN_lt _ _) (Nat.le_of_not_lt hi), decide_eq_false (by omega)]; rfl

/-- The places of a set, rising. -/
def bitsL (s : Nat) : List Nat := (List.range 64).filter (hasB s)
theorem bitsL_zero : bitsL 0 = [] := by
  unfold bitsL
  rw [List.filter_eq_nil_iff]
  intro i _
  rw [hasB_bit, Nat.zero_testBit]; simp
theorem bitsL_mem {s i : Nat} : i ∈ bitsL s ↔ i < 64 ∧ hasB s i = true := by
  unfold bitsL
  rw [List.mem_filter, List.mem_range]
theorem bitsL_len (s : Nat) : (bitsL s).length ≤ 64 := Nat.le_trans (List.length_filter_le _ _) (by simp)
/-- The set without its lowest place. -/
def dropN (s : Nat) : Nat := s &&& (s - 1)
theorem low_parts {s : Nat} (h0 : s ≠ 0) (hs : s < top64) : ∃ m, s = 2 ^ Lib.ctz 64 s * (2 * m + 1) ∧ Lib.ctz 64 s < 64 ∧ dropN s = 2 ^ Lib.ctz 64 s * (2 * m) := by
  obtain ⟨m, hm, hk⟩ := Lib.ctzFrom_spec 64 s (by omega) hs
  have e : Lib.ctz 64 s = Lib.ctzFrom 64 s := by simp [Lib.ctz, h0]
  rw [e]
  refine ⟨m, hm, hk, ?_⟩
  generalize Lib.ctzFrom 64 s = k at *
  have e1 : s - 1 = 2 ^ k * (2 * m) + (2 ^ k - 1) := by
    have := Nat.two_pow_pos k
    rw [hm, Nat.mul_add]; omega
  unfold dropN
  rw [e1, hm]
  apply Nat.eq_of_testBit_eq
  intro i
  rw [Nat.testBit_and, Nat.testBit_two_pow_mul, Nat.testBit_two_pow_mul, Nat.testBit_two_pow_mul_add _ (by have := Nat.two_pow_pos k; omega)]
  by_cases hik : i < k
  · rw [if_pos hik]
    have : decide (i ≥ k) = false := decide_eq_false (by omega)
    rw [this]; simp
  · rw [if_neg hik]
    have : decide (i ≥ k) = true := decide_eq_true (by omega)
    rw [this]
    cases h : i - k with
    | zero => simp [Nat.testBit_zero]
    | succ j =>
      rw [Nat.testBit_succ, Nat.testBit_succ]
      have d1 : (2 * m + 1) / 2 = m := by omega
      have d2 : (2 * m) / 2 = m := by omega
      rw [d1, d2]; simp
theorem low_has {s : Nat} (h0 : s ≠ 0) (hs : s < top64) (i : Nat) : hasB s i = (i == Lib.ctz 64 s || hasB (dropN s) i) ∧ (i ≤ Lib.ctz 64 s → hasB (dropN s) i = false) := by
  obtain ⟨m, h1, h2, h3⟩ := low_parts h0 hs
  generalize Lib.ctz 64 s = k at *
  rw [hasB_bit, hasB_bit, h3, h1, Nat.testBit_two_pow_mul, Nat.testBit_two_pow_mul]
  by_cases hik : i < k
  · have : decide (i ≥ k) = false := decide_eq_false (by omega)
    rw [this, beq_eq_false_iff_ne.2 (by omega)]
    exact ⟨rfl, fun _ => rfl⟩
  · have : decide (i ≥ k) = true := decide_eq_true (by omega)
    rw [this]
    cases h : i - k with
    | zero =>
      have : i = k := by omega
      subst this
      simp [Nat.testBit_zero]
    | succ j =>
      rw [Nat.testBit_succ, Nat.testBit_succ]
      have d1 : (2 * m + 1) / 2 = m := by omega
      have d2 : (2 * m) / 2 = m := by omega
      rw [d1, d2, beq_eq_false_iff_ne.2 (by omega)]
      exact ⟨rfl, fun h => by omega⟩
theorem dropN_lt {s : Nat} (h0 : s ≠ 0) : dropN s < s := by
  have : dropN s ≤ s - 1 := Nat.and_le_right
  omega
theorem filter_split {n k : Nat} (hk : k < n) (f g : Nat → Bool) (hf : f k = true) (h1 : ∀ i, i < k → f i = false) (h2 : ∀ i, i ≤ k → g i = false) (h3 : ∀ i, k < i → f i = g i) : (List.range n).filter f = k :: (List.range n).filter g := by
  obtain ⟨d, rfl⟩ : ∃ d, n = k + (d + 1) := ⟨n - k - 1, by omega⟩
  rw [List.range_add, List.filter_append, List.filter_append]
  have e1 : (List.range k).filter f = [] := List.filter_eq_nil_iff.2 (fun i hi => by rw [h1 i (List.mem_range.1 hi)]; simp)
  have e2 : (List.range k).filter g = [] := List.filter_eq_nil_iff.2 (fun i hi => by rw [h2 i (Nat.le_of_lt (List.mem_range.1 hi))]; simp)
  rw [e1, e2, List.nil_append, List.nil_append, List.range_succ_eq_map, List.map_cons, List.filter_cons, List.filter_cons, Nat.add_zero, hf, h2 k (Nat.le_refl _)]
  simp only [if_true, Bool.false_eq_true, if_false]
  congr 1
  apply List.filter_congr
  intro i hi
  obtain ⟨j, hj, rfl⟩ := List.mem_map.1 hi
  obtain ⟨q, hq, rfl⟩ := List.mem_map.1 hj
  exact h3 _ (by omega)
theorem bitsL_step {s : Nat} (h0 : s ≠ 0) (hs : s < top64) : bitsL s = Lib.ctz 64 s :: bitsL (dropN s) := by
  obtain ⟨m, h1, h2, h3⟩ := low_parts h0 hs
  unfold bitsL
  refine filter_split h2 _ _ ?_ ?_ ?_ ?_
  · rw [(low_has h0 hs _).1, beq_self_eq_true, Bool.true_or]
  · intro i hi
    rw [(low_has h0 hs i).1, (low_has h0 hs i).2 (by omega), beq_eq_false_iff_ne.2 (by omega)]; rfl
  · intro i hi
    exact (low_has h0 hs i).2 hi
  · intro i hi
    rw [(low_has h0 hs i).1, beq_eq_false_iff_ne.2 (by omega), Bool.false_or]
theorem dropN_sub {s : Nat} (h0 : s ≠ 0) (hs : s < top64) {i : Nat} (h : hasB (dropN s) i = true) : hasB s i = true := by
  rw [(low_has h0 hs i).1, h, Bool.or_true]
theorem low_in {s : Nat} (h0 : s ≠ 0) (hs : s < top64) : hasB s (Lib.ctz 64 s) = true := by
  rw [(low_has h0 hs _).1, beq_self_eq_true, Bool.true_or]
theorem low_lt {s : Nat} (h0 : s ≠ 0) (hs : s < top64) : Lib.ctz 64 s < 64 := by
  obtain ⟨m, h1, h2, h3⟩ := low_parts h0 hs
  exact h2

end Go.Proofs.YtpefcbmmbpcalaaDoor
