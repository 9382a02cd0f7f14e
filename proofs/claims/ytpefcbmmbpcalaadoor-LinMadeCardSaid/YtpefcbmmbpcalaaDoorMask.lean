/-
  Sets of places as numbers: the document's Has and With.
-/
import Derived.Test.YtpefcbmmbpcalaaDoorOpd
set_option linter.unusedVariables false
set_option linter.unusedSimpArgs false
namespace Go.Proofs.YtpefcbmmbpcalaaDoor
open Go.RowKit

def hasB (s t : Nat) : Bool := s / 2 ^ t % 2 == 1
def withN (s t : Nat) : Nat := if hasB s t then s else s + 2 ^ t
def top64 : Nat := 2 ^ 64
theorem top64_is : top64 = 18446744073709551616 := by decide
theorem no_carry {s t : Nat} (h : hasB s t = false) : (s + 2 ^ t) / 2 ^ (t + 1) = s / 2 ^ (t + 1) := by
  unfold hasB at h
  have h1 : s / 2 ^ t % 2 = 0 := by
    have := beq_eq_false_iff_ne.1 h
    omega
  rw [Nat.pow_succ, ← Nat.div_div_eq_div_mul, ← Nat.div_div_eq_div_mul, Nat.add_div_right _ (Nat.two_pow_pos t)]
  omega
theorem hasB_with (s t k : Nat) : hasB (withN s t) k = (k == t || hasB s k) := by
  unfold withN
  cases h : hasB s t
  · simp only [Bool.false_eq_true, if_false]
    by_cases hk : k = t
    · subst hk
      rw [beq_self_eq_true, Bool.true_or]
      unfold hasB at h ⊢
      have := beq_eq_false_iff_ne.1 h
      rw [Nat.add_div_right _ (Nat.two_pow_pos k), beq_iff_eq]
      omega
    · rw [beq_eq_false_iff_ne.2 hk, Bool.false_or]
      rcases Nat.lt_or_ge k t with hlt | hge
      · unfold hasB
        obtain ⟨d, rfl⟩ : ∃ d, t = k + 1 + d := ⟨t - k - 1, by omega⟩
        have e : 2 ^ (k + 1 + d) = 2 ^ k * (2 * 2 ^ d) := by rw [Nat.pow_add, Nat.pow_succ, Nat.mul_assoc]
        rw [e, Nat.add_mul_div_left _ _ (Nat.two_pow_pos k)]
        have : (s / 2 ^ k + 2 * 2 ^ d) % 2 = s / 2 ^ k % 2 := by omega
        rw [this]
      · obtain ⟨d, rfl⟩ : ∃ d, k = t + 1 + d := ⟨k - t - 1, by omega⟩
        unfold hasB
        rw [Nat.pow_add, ← Nat.div_div_eq_div_mul, ← Nat.div_div_eq_div_mul, no_carry h]
  · simp only [if_true]
    by_cases hk : k = t
    · subst hk; rw [h]; simp
    · rw [beq_eq_false_iff_ne.2 hk, Bool.false_or]
theorem withN_lt {s t : Nat} (hs : s < top64) (ht : t < 64) : withN s t < top64 := by
  unfold withN
  cases h : hasB s t
  · simp only [Bool.false_eq_true, if_false]
    have h1 := no_carry h
    obtain ⟨d, hd⟩ : ∃ d, 64 = t + 1 + d := ⟨63 - t, by omega⟩
    have e : top64 = 2 ^ (t + 1) * 2 ^ d := by unfold top64; rw [hd, Nat.pow_add]
    rw [e] at hs ⊢
    have h2 : s / 2 ^ (t + 1) < 2 ^ d := Nat.div_lt_of_lt_mul hs
    rw [← h1] at h2
    have := Nat.lt_mul_of_div_lt h2 (Nat.two_pow_pos _)
    rw [Nat.mul_comm] at this
    exact this
  · simp only [if_true]; exact hs
theorem pow_le64 {j : Nat} (h : j ≤ 63) : 2 ^ j ≤ 9223372036854775808 := by
  have := Nat.pow_le_pow_right (show 0 < 2 by decide) h
  exact Nat.le_trans this (by decide)
theorem u64w (x : Int) (h0 : 0 ≤ x) (h1 : x < 18446744073709551616) : IntKind.u64.wrap x = x := by
  simp [IntKind.wrap, IntKind.signed, IntKind.bits]
  omega

set_option maxRecDepth 10000 in
set_option maxHeartbeats 1000000 in
theorem rhas_any (s t : Nat) (w : World) (hs : s < top64) (ht : t < 64) : Calls Tryd.prog 26 #[.int .u64 s, .int .i64 t] w fun e w' => e = .returned (.bool (hasB s t)) ∧ w' = w := by
  have HS : Hid (∀ j, j ≤ t → ((s / 2 ^ j : Nat) : Int) ≤ 18446744073709551615) := Lib.hid (fun j _ => by
    have := Nat.div_le_self s (2 ^ j)
    rw [top64_is] at hs
    omega)
  have HD : Hid (∀ j, ((s / 2 ^ j : Nat) : Int) / 2 = ((s / 2 ^ (j + 1) : Nat) : Int)) := Lib.hid (fun j => by
    rw [Nat.pow_succ, ← Nat.div_div_eq_div_mul]
    exact (Int.natCast_ediv _ _).symm)
  have HH : Hid ((((s / 2 ^ t : Nat) : Int) % 2 == 1) = hasB s t) := Lib.hid (by
    unfold hasB
    rw [Bool.eq_iff_iff, beq_iff_eq, beq_iff_eq]
    omega)
  have H0 : Hid (((s / 2 ^ 0 : Nat) : Int) = (s : Int)) := Lib.hid (by simp)
  have hti : (t : Int) ≤ 63 := by omega
  have ht0 : (0 : Int) ≤ t := by omega
  generalize hasB s t = r at *
  clear hs ht
  go_enter Tryd.func26, Tryd.ntmps26
  go_wp2_with fail
  go_loop [0, 5] (fun x y => ∃ j : Nat, j ≤ t ∧ y = .int .i64 j ∧ x = .int .u64 ((s / 2 ^ j : Nat) : Int)) (fun _ y => t - (intOf y).toNat)
  case atStart => exact ⟨0, by omega, rfl, by rw [H0.out]⟩
  case round =>
    obtain ⟨j, hj, rfl, rfl⟩ := hrel
    have hb := HS.out j hj
    have hd := HD.out j
    have HHD := Lib.hid hd
    have hb0 : (0 : Int) ≤ ((s / 2 ^ j : Nat) : Int) := Int.natCast_nonneg _
    by_cases hlt : j < t
    · have hji : (j : Int) < t := by omega
      have hb2 := HS.out (j + 1) (by omega)
      generalize hy : ((s / 2 ^ (j + 1) : Nat) : Int) = y at *
      have HY := Lib.hid hy
      clear hy
      generalize ((s / 2 ^ j : Nat) : Int) = x at *
      clear hd
      go_wp2_with fail
      go_round
      case rel => exact ⟨j + 1, by omega, by go_num, by rw [HHD.out, HY.out]⟩
      case measure => simp [intOf]; omega
    · obtain rfl : j = t := by omega
      clear hlt hd HHD
      generalize ((s / 2 ^ j : Nat) : Int) = x at *
      go_wp2_with fail
      go_ret
      exact ⟨by rw [← HH.out]; rfl, rfl⟩

set_option maxRecDepth 10000 in
set_option maxHeartbeats 1000000 in
theorem rwith_any (s t : Nat) (w : World) (hs : s < top64) (ht : t < 64) : Calls Tryd.prog 10 #[.int .u64 s, .int .i64 t] w fun e w' => e = .returned (.int .u64 (withN s t : Nat)) ∧ w' = w := by
  have C1 := Lib.hid (rhas_any s t w hs ht)
  have HT := Lib.hid (withN_lt hs ht)
  have HP : Hid (∀ j, j < t → (2 : Int) ^ (j + 1) = 2 * 2 ^ j ∧ IntKind.u64.wrap (2 * 2 ^ j) = 2 * 2 ^ j) := Lib.hid (fun j hj => by
    have h1 := pow_le64 (show j ≤ 62 + 1 by omega)
    have h2 := pow_le64 (show j + 1 ≤ 63 by omega)
    have h3 : (2 : Nat) ^ (j + 1) = 2 * 2 ^ j := by rw [Nat.pow_succ, Nat.mul_comm]
    have h4 : (2 : Int) ^ j = ((2 ^ j : Nat) : Int) := by simp
    have h5 : (2 : Int) ^ (j + 1) = ((2 ^ (j + 1) : Nat) : Int) := by simp
    rw [h4, h5]
    refine ⟨by omega, u64w _ (by omega) (by omega)⟩)
  have HN : Hid (hasB s t = false → IntKind.u64.wrap ((s : Int) + 2 ^ t) = ((withN s t : Nat) : Int)) := Lib.hid (fun h => by
    have h0 := HT.out
    have e : withN s t = s + 2 ^ t := by unfold withN; rw [h]; simp
    rw [e] at h0 ⊢
    rw [top64_is] at h0
    have h4 : (2 : Int) ^ t = ((2 ^ t : Nat) : Int) := by simp
    rw [h4, u64w _ (by omega) (by omega)]
    omega)
  have HY : Hid (hasB s t = true → withN s t = s) := Lib.hid (fun h => by unfold withN; rw [h]; simp)
  have hti : (t : Int) ≤ 63 := by omega
  have ht0 : (0 : Int) ≤ t := by omega
  generalize withN s t = W at *
  clear hs ht
  go_enter Tryd.func10, Tryd.ntmps10
  go_wp2_with fail
  refine C1.out.mono ?_
  rintro _ _ ⟨rfl, rfl⟩
  cases hb : hasB s t
  · have HN2 := Lib.hid (HN.out hb)
    clear HN HY
    go_wp2_with fail
    go_loop [5, 6] (fun x y => ∃ j : Nat, j ≤ t ∧ y = .int .i64 j ∧ x = .int .u64 (2 ^ j)) (fun _ y => t - (intOf y).toNat)
    case atStart => exact ⟨0, by omega, rfl, rfl⟩
    case round =>
      obtain ⟨j, hj, rfl, rfl⟩ := hrel
      by_cases hlt : j < t
      · have hji : (j : Int) < t := by omega
        have HP2 := Lib.hid (HP.out j hlt)
        go_wp2_with fail
        go_round
        case rel => exact ⟨j + 1, by omega, by go_num, by rw [HP2.out.2, HP2.out.1]⟩
        case measure => simp [intOf]; omega
      · obtain rfl : j = t := by omega
        clear hlt
        go_wp2_with fail
        go_ret
        exact ⟨by show Ending.returned (.int .u64 (IntKind.u64.wrap ((s : Int) + 2 ^ j))) = _; rw [HN2.out], rfl⟩
  · have e := HY.out hb
    subst e
    go_wp2_with fail
    go_ret
    exact ⟨rfl, rfl⟩

end Go.Proofs.YtpefcbmmbpcalaaDoor
