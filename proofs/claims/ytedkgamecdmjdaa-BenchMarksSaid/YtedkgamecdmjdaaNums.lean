/-
  Package nums: Clamp and Wrap.
-/
import Derived.Test.YtedkgamecdmjdaaCellP
set_option linter.unusedVariables false
set_option linter.unusedSimpArgs false
namespace Go.Proofs.Ytedkgamecdmjdaa
open Go.RowKit

theorem clampT_cases (n top : Int) : (n < 0 ∨ top < 0) ∧ clampT n top = 0 ∨ 0 ≤ n ∧ 0 ≤ top ∧ n ≤ top ∧ n ≤ 1099511627776 ∧ clampT n top = n ∨ 0 ≤ n ∧ 0 ≤ top ∧ top < n ∧ top ≤ 1099511627776 ∧ clampT n top = top ∨ 0 ≤ n ∧ 0 ≤ top ∧ 1099511627776 < n ∧ 1099511627776 < top ∧ clampT n top = 1099511627776 := by
  by_cases h1 : n < 0
  · exact .inl ⟨.inl h1, by unfold clampT clampI; rw [if_pos h1]⟩
  by_cases h2 : top < 0
  · refine .inl ⟨.inr h2, ?_⟩
    unfold clampT clampI
    rw [if_neg h1, if_pos h2]
    split <;> omega
  have e : clampI top 0 1099511627776 = if 1099511627776 < top then 1099511627776 else top := by unfold clampI; rw [if_neg h2]
  unfold clampT
  rw [e]
  unfold clampI
  rw [if_neg h1]
  by_cases h3 : 1099511627776 < top
  · rw [if_pos h3]
    by_cases h5 : 1099511627776 < n
    · rw [if_pos h5]; exact .inr (.inr (.inr ⟨by omega, by omega, h5, h3, rfl⟩))
    · rw [if_neg h5]; exact .inr (.inl ⟨by omega, by omega, by omega, by omega, rfl⟩)
  · rw [if_neg h3]
    by_cases h5 : top < n
    · rw [if_pos h5]; exact .inr (.inr (.inl ⟨by omega, by omega, h5, by omega, rfl⟩))
    · rw [if_neg h5]; exact .inr (.inl ⟨by omega, by omega, by omega, by omega, rfl⟩)
theorem clampT_le (n top : Int) : 0 ≤ clampT n top ∧ clampT n top ≤ 1099511627776 := by
  rcases clampT_cases n top with ⟨_, h⟩ | ⟨_, _, _, _, h⟩ | ⟨_, _, _, _, h⟩ | ⟨_, _, _, _, h⟩ <;> rw [h] <;> omega

set_option maxHeartbeats 1000000 in
theorem nclamp_any (n top : Int) (w : World) : Calls Try.prog 52 #[.int .i64 n, .int .i64 top] w fun e w' => e = .returned (.int .i64 (clampT n top)) ∧ w' = w := by
  have hc := clampT_cases n top
  generalize clampT n top = r at *
  go_enter Try.func52, Try.ntmps52
  go_wp2_with fail
  all_goals
    go_ret
    refine ⟨?_, rfl⟩
    show Ending.returned (Value.int .i64 _) = Ending.returned (Value.int .i64 r)
    refine congrArg (fun z => Ending.returned (Value.int .i64 z)) ?_
    omega

set_option maxHeartbeats 1000000 in
theorem nwrap_any (n top : Int) (w : World) : Calls Try.prog 54 #[.int .i64 n, .int .i64 top] w fun e w' => e = .returned (.int .i64 (wrapI n top)) ∧ w' = w := by
  have HC := Lib.hid (nclamp_any top 1099511627776 w)
  have e0 : clampT top 1099511627776 = clampI top 0 1099511627776 := rfl
  rw [e0] at HC
  have hm := clampI_le top
  have HW := Lib.hid (show wrapI n top = n % (clampI top 0 1099511627776 + 1) from rfl)
  obtain ⟨r, hr⟩ : ∃ r, wrapI n top = r := ⟨_, rfl⟩
  rw [hr] at HW ⊢
  generalize clampI top 0 1099511627776 = m at *
  obtain ⟨h1, h2, h3⟩ := tmod_emod n (m + 1) (by omega)
  rw [← HW.out] at h3
  have x1 : wrap64 (m + 1) = m + 1 := IntWalk.wrap64_in _ (by omega)
  have x2 : ((m + 1) == 0) = false := by rw [beq_eq_false_iff_ne]; omega
  have x3 : wrap64 (n.tmod (m + 1)) = n.tmod (m + 1) := IntWalk.wrap64_in _ (by omega)
  have x4 : wrap64 (n.tmod (m + 1) + (m + 1)) = n.tmod (m + 1) + (m + 1) := IntWalk.wrap64_in _ (by omega)
  have x5 : ¬ (m + 1 = 0) := by omega
  have HM := Lib.hid hm
  have H3 := Lib.hid h3
  have H12 := Lib.hid (And.intro h1 h2)
  clear hr e0 h3 hm h1 h2
  go_enter Try.func54, Try.ntmps54
  go_wp2_with fail
  refine HC.out.mono ?_
  rintro e w1 ⟨rfl, rfl⟩
  have X4 := Lib.hid x4
  by_cases hr : n.tmod (m + 1) < 0
  · have HE2 := Lib.hid (H3.out.trans (if_pos hr))
    go_wp2_with fail
    go_ret
    refine ⟨?_, rfl⟩
    rw [HE2.out]
    exact congrArg (fun z => Ending.returned (Value.int .i64 z)) X4.out
  · have HE2 := Lib.hid (H3.out.trans (if_neg hr))
    go_wp2_with fail
    go_ret
    refine ⟨?_, rfl⟩
    rw [HE2.out]
    rfl

end Go.Proofs.Ytedkgamecdmjdaa
