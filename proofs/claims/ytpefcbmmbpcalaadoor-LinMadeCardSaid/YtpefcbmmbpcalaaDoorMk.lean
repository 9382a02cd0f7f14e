/-
  Sets of threads: thread, Has, With, First, TrailingZeros64.
-/
import Derived.Test.YtpefcbmmbpcalaaDoorBits
import Derived.Laws.Shifts
set_option linter.unusedVariables false
set_option linter.unusedSimpArgs false
namespace Go.Proofs.YtpefcbmmbpcalaaDoor
open Go.RowKit

set_option maxHeartbeats 400000 in
theorem thread_any (t : Int) (w : World) : Calls Tryd.prog 40 #[.int .i64 t] w fun e w' => e = .returned (.bool (decide (0 ≤ t) && decide (t < 64))) ∧ w = w' := by
  by_cases h0 : 0 ≤ t
  · have h0d := decide_eq_true h0
    rw [h0d, Bool.true_and]
    clear h0
    go_enter Tryd.func40, Tryd.ntmps40
    go_wp2_with fail
    go_ret
    exact ⟨rfl, rfl⟩
  · have h0d := decide_eq_false h0
    rw [h0d, Bool.false_and]
    clear h0
    go_enter Tryd.func40, Tryd.ntmps40
    go_wp2_with fail
    go_ret
    exact ⟨rfl, rfl⟩

set_option maxRecDepth 10000 in
set_option maxHeartbeats 400000 in
/-- mask.Has at a place below 64. -/
theorem mhas_any (s t : Nat) (w : World) (hs : s < top64) (ht : t < 64) : Calls Tryd.prog 30 #[.int .u64 s, .int .i64 t] w fun e w' => e = .returned (.bool (hasB s t)) ∧ w = w' := by
  have HT := Lib.hid (thread_any t w)
  rw [decide_eq_true (show (0 : Int) ≤ (t : Int) by omega), decide_eq_true (show (t : Int) < 64 by omega)] at HT
  have hw : IntKind.u64.wrap (t : Int) = (t : Int) := by rw [IntKind.wrap_u64]; omega
  have hsh : Op.shift .shr .u64 (s : Int) .u64 (t : Int) = pure (.int .u64 ((s / 2 ^ t : Nat) : Int)) := by
    rw [shift_shr _ _ _ _ (by omega) (by show (t : Int) ≤ 64; omega)]
    simp
  have hlt : s / 2 ^ t < top64 := Nat.lt_of_le_of_lt (Nat.div_le_self _ _) hs
  have hand : bits .and .u64 ((s / 2 ^ t : Nat) : Int) 1 = ((s / 2 ^ t % 2 : Nat) : Int) := by
    rw [top64_is] at hlt
    rw [show (1 : Int) = ((1 : Nat) : Int) from rfl, bits_and_u64_nat _ _ hlt (by decide), Nat.and_one_is_mod]
  have HB : Hid (hasB s t = (s / 2 ^ t % 2 == 1)) := Lib.hid rfl
  generalize hasB s t = b at *
  have h2 : s / 2 ^ t % 2 < 2 := Nat.mod_lt _ (by decide)
  generalize s / 2 ^ t = q at *
  obtain ⟨r, hr⟩ : ∃ r, q % 2 = r := ⟨_, rfl⟩
  rw [hr] at hand HB h2
  have hcase : r = 0 ∨ r = 1 := by omega
  clear hr h2 hs ht hlt
  rcases hcase with rfl | rfl
  · have hbb : b = false := HB.out
    subst hbb
    go_enter Tryd.func30, Tryd.ntmps30
    go_wp2_with fail
    refine HT.out.mono ?_
    rintro e w1 ⟨rfl, rfl⟩
    go_wp2_with fail
    go_ret
    exact ⟨rfl, rfl⟩
  · have hbb : b = true := HB.out
    subst hbb
    go_enter Tryd.func30, Tryd.ntmps30
    go_wp2_with fail
    refine HT.out.mono ?_
    rintro e w1 ⟨rfl, rfl⟩
    go_wp2_with fail
    go_ret
    exact ⟨rfl, rfl⟩

theorem one_shl (t : Nat) (ht : t < 64) : Op.shift .shl .u64 1 .u64 (t : Int) = pure (.int .u64 ((2 ^ t : Nat) : Int)) := by
  have h1 : 2 ^ t < 2 ^ 64 := Nat.pow_lt_pow_right (by decide) ht
  have e : (1 : Int) * 2 ^ (t : Int).toNat = ((2 ^ t : Nat) : Int) := by simp
  have h2 : (2 : Nat) ^ 64 = 18446744073709551616 := by decide
  rw [shift_shl _ _ _ _ (by omega) (by show (t : Int) ≤ 64; omega), e, IntKind.wrap_u64]
  generalize 2 ^ t = q at *
  congr 2
  omega

set_option maxRecDepth 10000 in
set_option maxHeartbeats 400000 in
/-- mask.With at a place below 64. -/
theorem mwith_any (s t : Nat) (w : World) (hs : s < top64) (ht : t < 64) : Calls Tryd.prog 31 #[.int .u64 s, .int .i64 t] w fun e w' => e = .returned (.int .u64 (withN s t)) ∧ w = w' := by
  have HT := Lib.hid (thread_any t w)
  rw [decide_eq_true (show (0 : Int) ≤ (t : Int) by omega), decide_eq_true (show (t : Int) < 64 by omega)] at HT
  have hw : IntKind.u64.wrap (t : Int) = (t : Int) := by rw [IntKind.wrap_u64]; omega
  have hsh := one_shl t ht
  have hor : bits .or .u64 (s : Int) ((2 ^ t : Nat) : Int) = ((withN s t : Nat) : Int) := by
    have h1 : 2 ^ t < 2 ^ 64 := Nat.pow_lt_pow_right (by decide) ht
    have h2 : (2 : Nat) ^ 64 = 18446744073709551616 := by decide
    rw [top64_is] at hs
    rw [bits_or_u64_nat _ _ hs (by omega), or_with]
  generalize withN s t = r at *
  generalize 2 ^ t = q at *
  clear hs ht
  go_enter Tryd.func31, Tryd.ntmps31
  go_wp2_with fail
  refine HT.out.mono ?_
  rintro e w1 ⟨rfl, rfl⟩
  go_wp2_with fail
  go_ret
  exact ⟨rfl, rfl⟩

set_option maxRecDepth 10000 in
set_option maxHeartbeats 400000 in
/-- mask.First of a number below 64. -/
theorem mfirst_any (n : Nat) (w : World) (hn : n < 64) : Calls Tryd.prog 27 #[.int .i64 n] w fun e w' => e = .returned (.int .u64 (firstN n)) ∧ w = w' := by
  cases n with
  | zero =>
    rw [show firstN 0 = 0 from rfl, show ((0 : Nat) : Int) = 0 from rfl]
    go_enter Tryd.func27, Tryd.ntmps27
    go_wp2_with fail
    go_ret
    exact ⟨rfl, rfl⟩
  | succ n =>
    have hw : IntKind.u64.wrap ((n + 1 : Nat) : Int) = ((n + 1 : Nat) : Int) := by rw [IntKind.wrap_u64]; omega
    have hsh := one_shl (n + 1) hn
    have hsub : IntKind.u64.wrap (((2 ^ (n + 1) : Nat) : Int) - 1) = ((firstN (n + 1) : Nat) : Int) := by
      have h1 : 2 ^ (n + 1) < 2 ^ 64 := Nat.pow_lt_pow_right (by decide) hn
      have h2 : (2 : Nat) ^ 64 = 18446744073709551616 := by decide
      have h3 := Nat.two_pow_pos (n + 1)
      rw [IntKind.wrap_u64]
      unfold firstN
      omega
    have h0 : ((((n + 1 : Nat) : Int)) ≤ 0) = False := by simp
    have hm0 : decide (n + 1 = 0) = false := decide_eq_false (by omega)
    have hm1 : (n + 1 = 0) = False := by simp
    have h64 : ((64 : Int) ≤ ((n + 1 : Nat) : Int)) = False := by simp only [eq_iff_iff, iff_false]; omega
    have h0d : decide ((((n + 1 : Nat) : Int)) ≤ 0) = false := decide_eq_false (by omega)
    have h64d : decide ((64 : Int) ≤ ((n + 1 : Nat) : Int)) = false := decide_eq_false (by omega)
    generalize firstN (n + 1) = r at *
    generalize 2 ^ (n + 1) = q at *
    generalize n + 1 = m at *
    clear hn
    go_enter Tryd.func27, Tryd.ntmps27
    go_wp2_with fail
    go_ret
    exact ⟨rfl, rfl⟩

/-- The table of the library's variable. -/
def TabT (W : World) : Prop := ∀ j, j < 64 → W.cell? ⟨0, j, none⟩ = some (.int .u8 (Lib.deBruijn64tab.getD j 0))
theorem TabT.up {W W' : World} (h : TabT W) (u : Up W W') : TabT W' := fun j hj => (u.cell (cell_lt (h j hj))).trans (h j hj)
theorem TabT.below {W W' : World} {n : Nat} (h : TabT W) (hn : 0 < n) (u : Below n W W') : TabT W' := fun j hj => (u.cell (p := ⟨0, j, none⟩) hn).trans (h j hj)
theorem TabT.pos {W : World} (h : TabT W) : 0 < W.heap.size := cell_lt (h 0 (by decide))

set_option maxRecDepth 10000 in
set_option maxHeartbeats 400000 in
theorem tz_core (x k idx : Nat) (w : World) (hx0 : ((x : Int) == 0) = false)
    (key : IntKind.u64.wrap (bits BinOp.and IntKind.u64 (x : Int) (IntKind.u64.wrap (-(x : Int))) * 285870213051353865) / 288230376151711744 = (idx : Int))
    (hi : idx < 64) (hk : k < 64) (hcell : w.cell? ⟨0, idx, none⟩ = some (.int .u8 k)) :
    Calls Tryd.prog 39 #[.int .u64 x] w fun e w' => e = .returned (.int .i64 k) ∧ w = w' := by
  go_enter Tryd.func39, Tryd.ntmps39
  go_wp2_with (simp only [key])
  go_ret
  exact ⟨rfl, rfl⟩
theorem tz_key (x a : Nat) (hx : x < 18446744073709551616) (hx0 : x ≠ 0) (hlow : x &&& (18446744073709551616 - x) = a) :
    IntKind.u64.wrap (bits BinOp.and IntKind.u64 (x : Int) (IntKind.u64.wrap (-(x : Int))) * 285870213051353865) / 288230376151711744 = ((a * 285870213051353865 % 18446744073709551616 / 288230376151711744 : Nat) : Int) := by
  have e1 : IntKind.u64.wrap (-(x : Int)) = ((18446744073709551616 - x : Nat) : Int) := by rw [IntKind.wrap_u64]; omega
  rw [e1, bits_and_u64_nat x _ hx (by omega), hlow, IntKind.wrap_u64]
  omega
theorem tz_any (x : Nat) (h0 : x ≠ 0) (hx : x < top64) (w : World) (hT : TabT w) : Calls Tryd.prog 39 #[.int .u64 x] w fun e w' => e = .returned (.int .i64 (Lib.ctz 64 x)) ∧ w = w' := by
  rw [top64_is] at hx
  obtain ⟨hlow, hk⟩ := Lib.lowest_bit 64 x h0 hx
  obtain ⟨hi, htab⟩ := Lib.deBruijn64_at _ hk
  have hcell := hT _ hi
  rw [htab] at hcell
  exact tz_core x _ _ w (by simp; omega) (tz_key x _ hx h0 hlow) hi hk hcell

end Go.Proofs.YtpefcbmmbpcalaaDoor
