/-
  PROVED: UnaryBack returns true for every input, and leaves its arguments as they were. No condition.
-/
import Derived.Test.YtpandnodeldbjaaLawB
import Derived.Test.YtpandnodeldbjaaBackW
import Derived.Test.YtpandnodeldbjaaRows
set_option linter.unusedVariables false
set_option linter.unusedSimpArgs false
namespace Go.Proofs.Ytpandnodeldbjaa
open Go.ChangeShapes Go.WideShapes Go.ChangeAt Go.RowKit Go.ChangeMaps

theorem unaryBack_own : ownKnob Try.prog.godebug = none := by kernel_rfl
theorem unaryBack_laidOut : laidOutB Try.prog = true := by kernel_rfl

set_option maxRecDepth 100000 in
theorem unaryBack_lifted (os : Os) (started : os.Started) (H : Type) (enc : TypeId × Value → H) :
    ReturnsInHanded {} Try.checked os 8 .any (Rows.unaryBackSpec.pre6 enc Try.prog Try.f8 Rows.unaryBackRow.domain false) (Rows.unaryBackSpec.post enc Try.prog Try.f8 false true false false) := by
  refine law_lifted (C := Try.checked) (tb := 4) unaryBack_own started (by kernel_rfl) Try.func8
    (ChangeSpec.witness6 (enc := enc) (C := Try.checked) false ⟨#[], #[.int .u8 0, .slice none 0 0], []⟩ 8 (by kernel_rfl) (by kernel_rfl) (by kernel_rfl) (by kernel_rfl))
    unaryBack_laidOut (by rw [Try.params8]; intro t ht; simp at ht; rcases ht with rfl | rfl <;> exact ⟨by kernel_rfl, of_decide_eq_true (by kernel_rfl)⟩) (by kernel_rfl) (by kernel_rfl) Try.underlying4
    (by
      intro ds gs h hg
      rw [Try.params8] at h
      match ds, gs, h, hg with
      | [d0, d1], [], _, _ => exact ⟨rfl, rfl, rfl⟩) ?_
  intro W base args ds gs before hval0 hW hsz
  have hval : ∀ (j : Nat) t v, Try.f8.params[j]? = some t → args[j]? = some v → Value.okWide Try.prog W .any base t v := hval0
  obtain ⟨p, q, hA0, _, _, _, _⟩ := hW
  have hA : DataW.TrodAll enc Try.prog W 0 (fun _ => true) true Try.f8.params.toList args.toList ds p := hA0
  clear hA0 hval0
  rw [Try.params8] at hA hval
  obtain ⟨v0, v1, d0, d1, p0, p1, rfl, rfl, rfl, h0, h1⟩ := trodAll_two hA
  obtain ⟨x0, rfl, rfl, rfl, wx0⟩ := open_int Try.underlying5 (hval 0 5 v0 rfl rfl) h0
  obtain ⟨A1, l1, c1, rfl, hr1, hc1, hm1, hw1, hn1, hd1⟩ := open_introw2 Try.underlying23 Try.underlying3 (by kernel_rfl) (hval 1 23 v1 rfl rfl) h1
  have hx := u8_wf wx0
  obtain ⟨top, rfl⟩ : ∃ t : Nat, x0 = t := ⟨x0.toNat, by omega⟩
  exact unaryBack_any top (by omega) l1 A1 c1 W (by omega) hr1

theorem unaryBack_holds : Rows.UnaryBackSaid :=
  OpenClaim.holds_of_wide 8 Try.f8 rfl rfl rfl rfl rfl rfl rfl ⟨rfl, rfl, rfl, rfl, rfl⟩ rfl rfl rfl rfl rfl (by kernel_rfl) Try.func8 (by kernel_rfl)
    (of_decide_eq_true (by kernel_rfl)) (by unfold Func.isWrapper; first | (rw [if_pos (by decide +kernel)]; kernel_rfl) | (rw [if_neg (by decide +kernel)]; exact ⟨rfl, rfl⟩))
    (fun os started H enc _ => unaryBack_lifted os started H enc)

end Go.Proofs.Ytpandnodeldbjaa
