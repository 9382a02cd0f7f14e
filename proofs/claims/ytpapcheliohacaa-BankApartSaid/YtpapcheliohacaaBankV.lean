/-
  Value.
-/
import Derived.Test.YtpapcheliohacaaBankM
import Derived.Test.YtpapcheliohacaaCellI
set_option linter.unusedVariables false
set_option linter.unusedSimpArgs false
namespace Go.Proofs.Ytpapcheliohacaa
open Go.RowKit

set_option maxHeartbeats 400000 in
/-- A nil cell's value. -/
theorem value_nil (w : World) : Calls Try.prog 14 #[.pointer none] w fun e w' => e = .returned (.int .i64 0) ∧ w' = w := by
  go_enter Try.func14, Try.ntmps14
  go_wp2_with fail
  go_ret
  exact ⟨rfl, rfl⟩

set_option maxRecDepth 10000 in
set_option maxHeartbeats 400000 in
theorem bvalue_any (b : Nat) (R : Value) (many : Int) (m sz : Nat) (by' : Nat → Bool × Int) (F : Int → Option Nat) (n x : Int) (w : World) (hn : Wf n) (HB : BankB w b R many m by') (HM : MapB w m sz F)
    (hc : Calls Try.prog 14 #[ptrV (F n)] w fun e w' => e = .returned (.int .i64 x) ∧ w' = w) :
    Calls Try.prog 26 #[.pointer (some ⟨b, 0, none⟩), .int .i64 n] w fun e w' => e = .returned (.int .i64 x) ∧ w' = w := by
  have hlk := HM.look hn
  have k2 := HB.k2
  have HC := Lib.hid hc
  clear hc HM HB
  go_enter Try.func26, Try.ntmps26
  go_wp2_with fail
  refine HC.out.mono ?_
  rintro e w2 ⟨rfl, rfl⟩
  go_wp2_with fail
  go_ret
  exact ⟨rfl, rfl⟩

set_option maxHeartbeats 400000 in
theorem bhas_any (b : Nat) (R : Value) (many : Int) (m : Nat) (by' : Nat → Bool × Int) (n : Int) (w : World) (HB : BankB w b R many m by') :
    Calls Try.prog 43 #[.pointer (some ⟨b, 0, none⟩), .int .i64 n] w fun e w' => e = .returned (.bool (decide (0 ≤ n ∧ n < many))) ∧ w' = w := by
  have k1 := HB.k1
  clear HB
  by_cases h0 : 0 ≤ n
  · by_cases h1 : n < many
    · have he : decide (0 ≤ n ∧ n < many) = true := decide_eq_true ⟨h0, h1⟩
      rw [he]
      clear he
      go_enter Try.func43, Try.ntmps43
      go_wp2_with fail
      go_ret
      exact ⟨rfl, rfl⟩
    · have he : decide (0 ≤ n ∧ n < many) = false := decide_eq_false (fun h => h1 h.2)
      have hd : decide (n < many) = false := decide_eq_false h1
      rw [he]
      clear he h1
      go_enter Try.func43, Try.ntmps43
      go_wp2_with fail
      go_ret
      exact ⟨rfl, rfl⟩
  · have he : decide (0 ≤ n ∧ n < many) = false := decide_eq_false (fun h => h0 h.1)
    have hd : decide (0 ≤ n) = false := decide_eq_false h0
    rw [he]
    clear he
    have h0' : n < 0 := by omega
    clear h0
    go_enter Try.func43, Try.ntmps43
    go_wp2_with fail
    go_ret
    exact ⟨rfl, rfl⟩

end Go.Proofs.Ytpapcheliohacaa
