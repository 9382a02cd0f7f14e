/-
  The document's Has.
-/
import Derived.Test.YtpefcbmmbpcalaaDoorHas
set_option linter.unusedVariables false
set_option linter.unusedSimpArgs false
namespace Go.Proofs.YtpefcbmmbpcalaaDoor
open Go.RowKit

set_option maxRecDepth 10000 in
set_option maxHeartbeats 1000000 in
theorem rhas21_any (l : List OpD) (A : Option Addr) (c : Nat) (v : Int) (w : World) (hL : l.length ≤ 64) (hr : OpRow w A l) (hcap : capS (und l 0) ≤ 1000000000) :
    Calls Tryd.prog 23 #[.slice A l.length c, .int .i64 v] w fun e w' => ∃ ok : Bool, e = .returned (.bool ok) ∧ (ok = true ↔ Comp l 0 v) ∧ Up w w' := by
  have HC := Lib.hid (has_any l A c w w.heap.size (Nat.le_refl _) hL hr (und l 0) 0 v (.slice none 0 0) [] w rfl (by rw [top64_is]; decide) (Below.refl _ _) (Nat.le_refl _) (own_nil _ _ _ _) (by simpa using hcap))
  have HG : Hid (∀ e w', HasPost l 0 v [] w.heap.size (und l 0) w (.slice none 0 0) e w' → ∃ ok x, e = .returned (.tuple #[.bool ok, x]) ∧ (ok = true ↔ Comp l 0 v) ∧ Up w w') := Lib.hid (fun e w' h => by
    obtain ⟨ok, x, T', he, hh, _, hg, _, _⟩ := h
    exact ⟨ok, x, he, hh.comp, ⟨hg.os, hg.tape, hg.output, hg.size, fun k hk => hg.block k hk (by simp [Value.ownBlock])⟩⟩)
  clear hL hr hcap
  generalize l.length = n at *
  go_enter Tryd.func23, Tryd.ntmps23
  go_wp2_with fail
  refine HC.out.mono ?_
  rintro _ w1 hpost
  obtain ⟨ok, x, rfl, hiff, hu⟩ := HG.out _ _ hpost
  have HIFF := Lib.hid hiff
  have HU := Lib.hid hu
  clear hpost hiff hu
  go_wp2_with fail
  go_ret
  refine ⟨ok, rfl, HIFF.out, HU.out⟩

end Go.Proofs.YtpefcbmmbpcalaaDoor
