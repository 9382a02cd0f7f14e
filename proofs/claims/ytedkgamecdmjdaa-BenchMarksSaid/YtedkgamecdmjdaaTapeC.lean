/-
  Package tape: Read and Write once more, Get, Note, Set.
-/
import Derived.Test.YtedkgamecdmjdaaTapeB
set_option linter.unusedVariables false
set_option linter.unusedSimpArgs false
namespace Go.Proofs.Ytedkgamecdmjdaa
open Go.RowKit

theorem read_ok (g B : Nat) (c : Int) (s : TS) (w : World) (h : Tape1 w g B s) (hlt : s.acc.length < s.ans.length) :
    Calls Try.prog 23 #[.pointer (some ⟨g, 0, none⟩), .int .i64 c] w fun e w' => e = .returned (.int .i64 s.told) ∧ Tape1 w' g B (s.asked (1, c, 0)) ∧ TK g B w w' :=
  (read_any g B c s w h).mono fun e w' q => q.of_some (tAsk_ok (1, c, 0) s hlt)
theorem read_stop (g B : Nat) (c : Int) (s : TS) (w : World) (h : Tape1 w g B s) (hlt : ¬ s.acc.length < s.ans.length) :
    Calls Try.prog 23 #[.pointer (some ⟨g, 0, none⟩), .int .i64 c] w fun e w' => e = .panicked (stopC g) ∧ TapeIs w' g B 2 (s.asked (1, c, 0)) ∧ TK g B w w' :=
  (read_any g B c s w h).mono fun e w' q => q.of_none (tAsk_stop (1, c, 0) s hlt)

theorem write_ok (g B : Nat) (c v : Int) (s : TS) (w : World) (h : Tape1 w g B s) (hlt : s.acc.length < s.ans.length) :
    Calls Try.prog 27 #[.pointer (some ⟨g, 0, none⟩), .int .i64 c, .int .i64 v] w fun e w' => e = .returned (.tuple #[]) ∧ Tape1 w' g B (s.asked (2, c, v)) ∧ TK g B w w' := by
  have HA := Lib.hid (ask_any g B (2, c, v) s w h)
  have HR := Lib.hid (tAsk_ok (2, c, v) s hlt)
  clear h
  go_enter Try.func27, Try.ntmps27
  go_wp2_with fail
  refine HA.out.mono ?_
  intro e w' q
  obtain ⟨rfl, h2, h3⟩ := q.of_some HR.out
  have H2 := Lib.hid h2
  have H3 := Lib.hid h3
  clear q h2 h3
  go_wp2_with fail
  go_end0
  exact ⟨rfl, H2.out, H3.out⟩
theorem write_stop (g B : Nat) (c v : Int) (s : TS) (w : World) (h : Tape1 w g B s) (hlt : ¬ s.acc.length < s.ans.length) :
    Calls Try.prog 27 #[.pointer (some ⟨g, 0, none⟩), .int .i64 c, .int .i64 v] w fun e w' => e = .panicked (stopC g) ∧ TapeIs w' g B 2 (s.asked (2, c, v)) ∧ TK g B w w' := by
  have HA := Lib.hid (ask_any g B (2, c, v) s w h)
  have HR := Lib.hid (tAsk_stop (2, c, v) s hlt)
  clear h
  go_enter Try.func27, Try.ntmps27
  go_wp2_with fail
  refine HA.out.mono ?_
  intro e w' q
  obtain ⟨rfl, h2, h3⟩ := q.of_none HR.out
  have H2 := Lib.hid h2
  have H3 := Lib.hid h3
  clear q h2 h3
  go_wp2_with fail
  exact ⟨rfl, rfl, H2.out, H3.out⟩

theorem get_any (g B : Nat) (i : Int) (s : TS) (w : World) (h : Tape1 w g B s) :
    Calls Try.prog 30 #[.pointer (some ⟨g, 0, none⟩), .int .i64 i] w fun e w' => e = .returned (.int .i64 (s.get i)) ∧ w' = w := by
  obtain ⟨v, hcv, hown⟩ := h.1.loc
  obtain ⟨A, c, rfl, hac, hcm⟩ := own_form hown
  have c0 := h.1.c0
  have hll := h.1.ll
  by_cases hr : i < 0 ∨ (s.loc.length : Int) ≤ i
  · have HG := Lib.hid (show s.get i = 0 by unfold TS.get; rw [if_pos hr])
    clear h hown
    generalize s.loc.length = n at *
    rcases hr with h1 | h1
    · go_enter Try.func30, Try.ntmps30
      go_wp2_with fail
      go_ret
      exact ⟨by rw [HG.out]; rfl, rfl⟩
    · have h2 : ¬ i < 0 := by omega
      go_enter Try.func30, Try.ntmps30
      go_wp2_with fail
      go_ret
      exact ⟨by rw [HG.out]; rfl, rfl⟩
  · have HG := Lib.hid (show s.get i = s.loc.getD i.toNat 0 by unfold TS.get; rw [if_neg hr])
    have h1 : ¬ i < 0 := by omega
    obtain ⟨k, rfl⟩ : ∃ k : Nat, i = k := ⟨i.toNat, by omega⟩
    have hk : k < s.loc.length := by omega
    obtain ⟨A', c', hA, hrow, _⟩ := own_row (f := IVal s.loc) hown (fun k hk => iVal_map hk)
    injection hA with hA1 hA2 hA3
    subst hA1
    obtain ⟨b, off, rfl, hcell⟩ := hrow k hk
    unfold IVal at hcell
    rw [Int.toNat_natCast] at HG
    have HG2 := Lib.hid HG.out.symm
    rw [HG2.out] at hcell
    have h2 : ¬ ((s.loc.length : Int) ≤ (k : Int)) := by omega
    clear h hown hrow hr hk
    generalize s.loc.length = n at *
    go_enter Try.func30, Try.ntmps30
    go_wp2_with fail
    go_ret
    exact ⟨rfl, rfl⟩

end Go.Proofs.Ytedkgamecdmjdaa
