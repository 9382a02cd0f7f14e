/-
  Numbers as bytes, in plain Lean: how they are put, how they are read, and that one undoes the other.
-/
import Derived.Test.YtjbphkcbfhhgbaaApp
set_option linter.unusedVariables false
set_option linter.unusedSimpArgs false
namespace Go.Proofs.Ytjbphkcbfhhgbaa

/-- A number's bytes; the first argument bounds how many. -/
def enc : Nat → Nat → List UInt8
  | 0, _ => []
  | f + 1, n => if n < 128 then [UInt8.ofNat n] else UInt8.ofNat (128 + n % 128) :: enc f (n / 128)
def clampW (n : Int) : Nat := (max 0 (min n 1073741823)).toNat
def putL (n : Int) : List UInt8 := enc 5 (clampW n)
def putAll (l : List Int) : List UInt8 := l.flatMap putL

theorem clampW_lt (n : Int) : clampW n < 1073741824 := by unfold clampW; omega
theorem enc_length (f n : Nat) : (enc f n).length ≤ f := by
  induction f generalizing n with
  | zero => simp [enc]
  | succ f ih =>
    unfold enc
    split
    · simp
    · simp; exact ih _
theorem putL_length (n : Int) : (putL n).length ≤ 5 := enc_length 5 _
theorem putAll_length (l : List Int) : (putAll l).length ≤ 5 * l.length := by
  induction l with
  | nil => simp [putAll]
  | cons x l ih =>
    unfold putAll at ih ⊢
    rw [List.flatMap_cons, List.length_append, List.length_cons]
    have := putL_length x
    omega
theorem putAll_snoc (l : List Int) (x : Int) : putAll (l ++ [x]) = putAll l ++ putL x := by
  unfold putAll; rw [List.flatMap_append]; simp
theorem enc_more (f n : Nat) (h : n < 128 ^ f) : ∀ g, f ≤ g → 1 ≤ f → enc g n = enc f n := by
  induction f generalizing n with
  | zero => intro g _ h1; omega
  | succ f ih =>
    intro g hg h1
    obtain ⟨g, rfl⟩ : ∃ k, g = k + 1 := ⟨g - 1, by omega⟩
    unfold enc
    split
    · rfl
    · rename_i hn
      have hf : 1 ≤ f := by
        rcases Nat.eq_zero_or_pos f with h0 | h0
        · subst h0; simp at h; omega
        · exact h0
      rw [ih (n / 128) (by rw [Nat.pow_succ] at h; exact Nat.div_lt_of_lt_mul (by rw [Nat.mul_comm]; exact h)) g (by omega) hf]
theorem enc_lo (f n : Nat) (h : n < 128) : enc (f + 1) n = [UInt8.ofNat n] := by unfold enc; rw [if_pos h]
theorem enc_hi (f n : Nat) (h : ¬ n < 128) : enc (f + 1) n = UInt8.ofNat (128 + n % 128) :: enc f (n / 128) := by conv => lhs; unfold enc; rw [if_neg h]

/-- Reading a number: i bytes are behind, which said n. The result: the number, how many bytes it took in all, and the fault (0: none). -/
def numL : Nat → Nat → List UInt8 → Nat × Nat × Nat
  | _, _, [] => (0, 0, 4)
  | i, n, c :: l => if i = 5 then (0, 0, 3) else
      if 128 ≤ c.toNat then numL (i + 1) (n + (c.toNat % 128) * 128 ^ i) l
      else if c.toNat = 0 ∧ 0 < i then (0, 0, 3) else (n + (c.toNat % 128) * 128 ^ i, i + 1, 0)

theorem toNat_small (n : Nat) (h : n < 256) : (UInt8.ofNat n).toNat = n := by
  rw [UInt8.toNat_ofNat']; exact Nat.mod_eq_of_lt h

/-- What was put is read. -/
theorem numL_enc (f : Nat) : ∀ (i n acc : Nat) (rest : List UInt8), n < 128 ^ f → i + f ≤ 5 → 1 ≤ f → (0 < i → 0 < n) → numL i acc (enc f n ++ rest) = (acc + n * 128 ^ i, i + (enc f n).length, 0) := by
  induction f with
  | zero => intro i n acc rest _ _ h; omega
  | succ f ih =>
    intro i n acc rest hn hi _ hz
    by_cases hlt : n < 128
    · rw [enc_lo f n hlt]
      show numL i acc (UInt8.ofNat n :: rest) = _
      have e := toNat_small n (by omega)
      unfold numL
      rw [if_neg (by omega), if_neg (by rw [e]; omega), if_neg (by rw [e]; intro h; have := hz h.2; omega), e, Nat.mod_eq_of_lt hlt]
      rfl
    · rw [enc_hi f n hlt]
      show numL i acc (UInt8.ofNat (128 + n % 128) :: (enc f (n / 128) ++ rest)) = _
      have hm : n % 128 < 128 := Nat.mod_lt _ (by decide)
      have e := toNat_small (128 + n % 128) (by omega)
      have hf : 1 ≤ f := by
        rcases Nat.eq_zero_or_pos f with h0 | h0
        · subst h0; simp at hn; omega
        · exact h0
      unfold numL
      rw [if_neg (by omega), if_pos (by rw [e]; omega), e]
      rw [ih (i + 1) (n / 128) _ rest (by rw [Nat.pow_succ] at hn; exact Nat.div_lt_of_lt_mul (by rw [Nat.mul_comm]; exact hn)) (by omega) hf (fun _ => by omega)]
      rw [show (128 + n % 128) % 128 = n % 128 by omega]
      have hd : n = n % 128 + n / 128 * 128 := by omega
      simp only [Prod.mk.injEq, List.length_cons, and_true]
      refine ⟨?_, by omega⟩
      rw [Nat.pow_succ, Nat.add_assoc]
      congr 1
      conv => rhs; rw [hd]
      rw [Nat.add_mul, Nat.mul_assoc (n / 128) 128, Nat.mul_comm 128 (128 ^ i)]

/-- Whatever is read took from one to five bytes, which are there. -/
theorem numL_ok : ∀ (l : List UInt8) (i n x k : Nat), i ≤ 5 → numL i n l = (x, k, 0) → i < k ∧ k ≤ 5 ∧ k ≤ i + l.length
  | [], i, n, x, k, _, h => by unfold numL at h; simp at h
  | c :: l, i, n, x, k, h5, h => by
    unfold numL at h
    split at h
    · simp at h
    · split at h
      · have := numL_ok l _ _ _ _ (by omega) h
        simp
        omega
      · split at h
        · simp at h
        · simp at h
          simp
          omega

/-- What is read is put as it stood. -/
theorem enc_numL : ∀ (l : List UInt8) (i n x k : Nat), i ≤ 5 → n < 128 ^ i → numL i n l = (x, k, 0) → ∃ y, x = n + y * 128 ^ i ∧ y < 128 ^ (k - i) ∧ (0 < i → 0 < y) ∧ enc (k - i) y = l.take (k - i)
  | [], i, n, x, k, _, _, h => by unfold numL at h; simp at h
  | c :: l, i, n, x, k, h5, hn, h => by
    have hc := c.toNat_lt
    unfold numL at h
    split at h
    · simp at h
    · rename_i hi
      split at h
      · rename_i hbig
        have hlt : n + c.toNat % 128 * 128 ^ i < 128 ^ (i + 1) := by
          rw [Nat.pow_succ]
          have hm : c.toNat % 128 ≤ 127 := by omega
          have := Nat.mul_le_mul_right (128 ^ i) hm
          omega
        obtain ⟨y, hx, hy, hz, he⟩ := enc_numL l (i + 1) _ x k (by omega) hlt h
        have hk := numL_ok l (i + 1) _ x k (by omega) h
        have hy0 : 0 < y := hz (by omega)
        obtain ⟨d, hd⟩ : ∃ d, k - i = d + 1 := ⟨k - i - 1, by omega⟩
        have hd' : k - (i + 1) = d := by omega
        rw [hd'] at hy he
        refine ⟨c.toNat % 128 + y * 128, ?_, ?_, ?_, ?_⟩
        · rw [hx, Nat.pow_succ, Nat.add_mul, ← Nat.add_assoc, Nat.mul_assoc, Nat.mul_comm 128 (128 ^ i)]
        · rw [hd, Nat.pow_succ]
          have : (y + 1) * 128 ≤ 128 ^ d * 128 := Nat.mul_le_mul_right _ hy
          omega
        · intro _; omega
        · rw [hd, enc_hi d _ (by omega), List.take_succ_cons]
          rw [show (c.toNat % 128 + y * 128) / 128 = y by omega, show (c.toNat % 128 + y * 128) % 128 = c.toNat % 128 by omega, he]
          congr 1
          rw [show 128 + c.toNat % 128 = c.toNat by omega]
          exact UInt8.ofNat_toNat
      · rename_i hsmall
        split at h
        · simp at h
        · rename_i hnz
          simp at h
          obtain ⟨hx, hk⟩ := h
          refine ⟨c.toNat % 128, hx.symm, ?_, ?_, ?_⟩
          · rw [show k - i = 1 by omega]; omega
          · intro hpos
            have hne : c.toNat ≠ 0 := fun h0 => hnz ⟨h0, hpos⟩
            omega
          · rw [show k - i = 0 + 1 by omega, enc_lo 0 _ (by omega), List.take_succ_cons, List.take_zero]
            congr 1
            rw [Nat.mod_eq_of_lt (by omega)]
            exact UInt8.ofNat_toNat

theorem numL_max : ∀ (l : List UInt8) (i n : Nat), n < 128 ^ i → i ≤ 5 → (numL i n l).1 < 34359738368
  | [], i, n, _, _ => by unfold numL; decide
  | c :: l, i, n, hn, hi5 => by
    have hm : c.toNat % 128 ≤ 127 := by omega
    unfold numL
    split
    · decide
    · rename_i hi
      have hlt : n + c.toNat % 128 * 128 ^ i < 128 ^ (i + 1) := by
        rw [Nat.pow_succ]
        have := Nat.mul_le_mul_right (128 ^ i) hm
        omega
      split
      · exact numL_max l (i + 1) _ hlt (by omega)
      · split
        · decide
        · simp only
          have : 128 ^ (i + 1) ≤ 128 ^ 5 := Nat.pow_le_pow_right (by decide) (by omega)
          have e : (128 : Nat) ^ 5 = 34359738368 := by decide
          omega

end Go.Proofs.Ytjbphkcbfhhgbaa
