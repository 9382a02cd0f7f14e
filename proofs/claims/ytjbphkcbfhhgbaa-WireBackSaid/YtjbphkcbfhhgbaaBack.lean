/-
  PROVED: WireBack returns true for every input, and leaves its arguments as they were. No condition.
-/
import Derived.Test.YtjbphkcbfhhgbaaLawB
import Derived.Test.YtjbphkcbfhhgbaaBackWalk
set_option linter.unusedVariables false
set_option linter.unusedSimpArgs false
namespace Go.Proofs.Ytjbphkcbfhhgbaa
open Go.ChangeShapes Go.WideShapes Go.ChangeAt Go.RowKit Go.ChangeMaps

theorem wireBack_own : ownKnob Try.prog.godebug = none := by kernel_rfl
theorem wireBack_laidOut : laidOutB Try.prog = true := by kernel_rfl

set_option maxRecDepth 100000 in
theorem wireBack_lifted (os : Os) (started : os.Started) (H : Type) (enc : TypeId × Value → H) :
    ReturnsInHanded {} Try.checked os 4 .any (Rows.wireBackSpec.pre6 enc Try.prog Try.f4 Rows.wireBackRow.domain false) (Rows.wireBackSpec.post enc Try.prog Try.f4 false true false false) := by
  refine law_lifted (C := Try.checked) (tb := 4) wireBack_own started (by kernel_rfl) Try.func4
    (ChangeSpec.witness6 (enc := enc) (C := Try.checked) false ⟨#[], #[.slice none 0 0, .slice none 0 0], []⟩ 8 (by kernel_rfl) (by kernel_rfl) (by kernel_rfl) (by kernel_rfl))
    wireBack_laidOut (by rw [Try.params4]; intro t ht; simp at ht; rcases ht with rfl | rfl <;> exact ⟨by kernel_rfl, of_decide_eq_true (by kernel_rfl)⟩) (by kernel_rfl) (by kernel_rfl) Try.underlying4
    (by
      intro ds gs h hg
      rw [Try.params4] at h
      match ds, gs, h, hg with
      | [d0, d1], [], _, _ => exact ⟨rfl, rfl, rfl⟩) ?_
  intro W base args ds gs before hval0 hW hsz
  have hval : ∀ (j : Nat) t v, Try.f4.params[j]? = some t → args[j]? = some v → Value.okWide Try.prog W .any base t v := hval0
  obtain ⟨p, q, hA0, _, _, _, _⟩ := hW
  have hA : DataW.TrodAll enc Try.prog W 0 (fun _ => true) true Try.f4.params.toList args.toList ds p := hA0
  clear hA0 hval0
  rw [Try.params4] at hA hval
  obtain ⟨v0, v1, d0, d1, p0, p1, rfl, rfl, rfl, h0, h1⟩ := trodAll_two hA
  obtain ⟨A0, l0, c0, rfl, hr0, hc0, hm0, hw0, hn0, hd0⟩ := open_introw2 Try.underlying29 Try.underlying30 (by kernel_rfl) (hval 0 29 v0 rfl rfl) h0
  obtain ⟨A1, l1, c1, rfl, hr1, hc1, hm1, hn1⟩ := open_bytes Try.underlying22 Try.underlying5 (by kernel_rfl) (hval 1 22 v1 rfl rfl) h1
  exact wireBack_any l0 l1 A0 c0 A1 c1 W hn1 (by omega) hc1 hm1 (fun n hn => u32_wf (hw0 n hn)) hr0 hr1

theorem wireBack_holds : Rows.WireBackSaid :=
  OpenClaim.holds_of_wide 4 Try.f4 rfl rfl rfl rfl rfl rfl rfl ⟨rfl, rfl, rfl, rfl, rfl⟩ rfl rfl rfl rfl rfl (by kernel_rfl) Try.func4 (by kernel_rfl)
    (of_decide_eq_true (by kernel_rfl)) (by unfold Func.isWrapper; first | (rw [if_pos (by decide +kernel)]; kernel_rfl) | (rw [if_neg (by decide +kernel)]; exact ⟨rfl, rfl⟩))
    (fun os started H enc _ => wireBack_lifted os started H enc)

end Go.Proofs.Ytjbphkcbfhhgbaa
