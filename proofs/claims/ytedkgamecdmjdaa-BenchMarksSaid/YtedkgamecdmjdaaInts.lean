/-
  The document's numbers: within, Wrap (XInts without Ints).
-/
import Derived.Test.YtedkgamecdmjdaaRow
import Derived.Test.YtedkgamecdmjdaaChecked
import Derived.BigQuiet
set_option linter.unusedVariables false
set_option linter.unusedSimpArgs false
namespace Go.Proofs.Ytedkgamecdmjdaa
open Go.RowKit

theorem list_ext_getD {a b : List Int} (hl : a.length = b.length) (h : ∀ j, j < a.length → a.getD j 0 = b.getD j 0) : a = b := by
  apply List.ext_getElem hl
  intro i h1 h2
  have := h i h1
  rwa [getD_lt h1, getD_lt h2] at this

def clampI (n lo hi : Int) : Int := if n < lo then lo else if hi < n then hi else n
theorem within_any (n lo hi : Int) (w : World) : Calls Try.prog 38 #[.int .i64 n, .int .i64 lo, .int .i64 hi] w fun e w' => e = .returned (.int .i64 (clampI n lo hi)) ∧ w = w' := by
  unfold clampI
  by_cases h1 : n < lo
  · rw [if_pos h1]
    go_enter Try.func38, Try.ntmps38
    go_wp2
    go_ret
    exact ⟨rfl, rfl⟩
  · rw [if_neg h1]
    by_cases h2 : hi < n
    · rw [if_pos h2]
      go_enter Try.func38, Try.ntmps38
      go_wp2
      go_ret
      exact ⟨rfl, rfl⟩
    · rw [if_neg h2]
      go_enter Try.func38, Try.ntmps38
      go_wp2
      go_ret
      exact ⟨rfl, rfl⟩

/-- Modulo top + 1. -/
def wrapI (n top : Int) : Int := n % (clampI top 0 1099511627776 + 1)
theorem clampI_le (top : Int) : 0 ≤ clampI top 0 1099511627776 ∧ clampI top 0 1099511627776 ≤ 1099511627776 := by
  unfold clampI
  split
  · omega
  · split <;> omega
theorem tmod_emod (n m : Int) (hm : 0 < m) : -m < n.tmod m ∧ n.tmod m < m ∧ n % m = if n.tmod m < 0 then n.tmod m + m else n.tmod m := by
  by_cases hn : 0 ≤ n
  · rw [Int.tmod_eq_emod_of_nonneg hn]
    have h1 := Int.emod_nonneg n (show m ≠ 0 by omega)
    have h2 := Int.emod_lt_of_pos n hm
    refine ⟨by omega, h2, ?_⟩
    rw [if_neg (by omega)]
  · have e : n.tmod m = -((-n) % m) := by
      have := Int.neg_tmod (-n) m
      rw [Int.neg_neg] at this
      rw [this, Int.tmod_eq_emod_of_nonneg (by omega)]
    have h1 := Int.emod_nonneg (-n) (show m ≠ 0 by omega)
    have h2 := Int.emod_lt_of_pos (-n) hm
    have h3 := Int.mul_ediv_add_emod (-n) m
    generalize hk : (-n) % m = k at *
    have hn2 : n = m * (-((-n) / m)) + (-k) := by
      rw [Int.mul_neg]
      omega
    have h4 : n % m = (-k) % m := by
      rw [hn2, Int.mul_add_emod_self_left]
    rw [e]
    refine ⟨by omega, by omega, ?_⟩
    rw [h4]
    by_cases hk0 : k = 0
    · subst hk0; simp
    · rw [if_pos (by omega), ← Int.add_emod_right, Int.emod_eq_of_lt (by omega) (by omega)]
theorem wrapR_any (n top : Int) (w : World) : Calls Try.prog 24 #[.int .i64 n, .int .i64 top] w fun e w' => e = .returned (.int .i64 (wrapI n top)) ∧ w = w' := by
  have C := Lib.hid (within_any top 0 1099511627776 w)
  have HW := Lib.hid (show wrapI n top = n % (clampI top 0 1099511627776 + 1) from rfl)
  obtain ⟨h0, h1⟩ := clampI_le top
  generalize clampI top 0 1099511627776 = t at *
  have hm0 : ¬ (t + 1 = 0) := by omega
  obtain ⟨hq, hp, he⟩ := tmod_emod n (t + 1) (by omega)
  have HE := Lib.hid he
  have HP := Lib.hid hp
  have HQ := Lib.hid hq
  clear hp hq he
  go_enter Try.func24, Try.ntmps24
  go_wp2_with fail
  refine C.out.mono ?_
  rintro e w' ⟨rfl, rfl⟩
  by_cases hr : n.tmod (t + 1) < 0
  · have hq := HQ.out
    have hp := HP.out
    have HE2 := Lib.hid (HE.out.trans (if_pos hr))
    go_wp2_with fail
    go_ret
    exact ⟨by rw [HW.out, HE2.out]; rfl, rfl⟩
  · have hq := HQ.out
    have hp := HP.out
    have HE2 := Lib.hid (HE.out.trans (if_neg hr))
    go_wp2_with fail
    go_ret
    exact ⟨by rw [HW.out, HE2.out]; rfl, rfl⟩

end Go.Proofs.Ytedkgamecdmjdaa
