/-
  Plain law of WireBack: what is put is read; what is read is put as it stood.
-/
import Derived.Test.YtjbphkcbfhhgbaaWireF
set_option linter.unusedVariables false
set_option linter.unusedSimpArgs false
namespace Go.Proofs.Ytjbphkcbfhhgbaa

theorem putAll_cons (x : Int) (l : List Int) : putAll (x :: l) = putL x ++ putAll l := by unfold putAll; rw [List.flatMap_cons]

theorem numL_putL (x : Int) (h0 : 0 ≤ x) (h1 : x ≤ 1073741823) (rest : List UInt8) : numL 0 0 (putL x ++ rest) = (x.toNat, (putL x).length, 0) := by
  have hc : clampW x = x.toNat := by unfold clampW; omega
  unfold putL
  rw [hc, numL_enc 5 0 x.toNat 0 rest (lt_pow5 (by omega)) (by omega) (by omega) (by omega)]
  simp

theorem numS_putL (x : Int) (h0 : 0 ≤ x) (h1 : x ≤ 1073741823) (rest : List UInt8) : numS (putL x ++ rest, 0) 1073741824 = (x, (rest, 0)) := by
  have h := numL_putL x h0 h1 rest
  rw [numS_ok _ _ rfl (by rw [h]; unfold errOf; simp only; rw [if_pos trivial, if_neg (by omega), if_neg (by omega)]), h]
  simp only [List.drop_left]
  rw [Int.toNat_of_nonneg h0]

/-- A number that is read, put again. -/
theorem putL_numL (l : List UInt8) (x k : Nat) (h : numL 0 0 l = (x, k, 0)) (hx : x ≤ 1073741823) : putL (x : Int) = l.take k ∧ k ≤ l.length := by
  obtain ⟨h1, h5, hk⟩ := numL_ok l 0 0 x k (by decide) h
  obtain ⟨y, hy, hy2, _, he⟩ := enc_numL l 0 0 x k (by decide) (by decide) h
  have hxy : x = y := by rw [hy]; simp
  subst hxy
  rw [Nat.sub_zero] at hy2 he
  have hc : clampW (x : Int) = x := by unfold clampW; omega
  unfold putL
  rw [hc, enc_more k x hy2 5 h5 h1, he]
  exact ⟨rfl, by omega⟩

theorem numS_end (l : List UInt8) : (∃ f, f ≠ 0 ∧ numS (l, 0) 1073741824 = (0, (l, f))) ∨ ∃ x k : Nat, x ≤ 1073741823 ∧ k ≤ l.length ∧ 0 < k ∧ numS (l, 0) 1073741824 = ((x : Int), (l.drop k, 0)) ∧ putL (x : Int) = l.take k := by
  by_cases he : errOf (numL 0 0 l) 1073741824 ≠ 0
  · left
    exact ⟨_, he, numS_fault _ _ rfl he⟩
  · right
    have he : errOf (numL 0 0 l) 1073741824 = 0 := by simpa using he
    obtain ⟨x, k, f, hr⟩ : ∃ x k f, numL 0 0 l = (x, k, f) := ⟨_, _, _, rfl⟩
    have he' := he
    rw [hr] at he
    obtain ⟨rfl, hm, hb⟩ := errOf_zero he
    obtain ⟨hp, hk⟩ := putL_numL l x k hr hb
    refine ⟨x, k, hb, hk, (numL_ok l 0 0 x k (by decide) hr).1, ?_, hp⟩
    rw [numS_ok _ _ rfl he', hr]

end Go.Proofs.Ytjbphkcbfhhgbaa
