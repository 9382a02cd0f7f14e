/-
  PROVED: UnaryPlays returns true for every input, and leaves its arguments as they were. No condition.
-/
import Derived.Test.YtpandnodeldbjaaLawB
import Derived.Test.YtpandnodeldbjaaUnaryW
import Derived.Test.YtpandnodeldbjaaSteadyE
import Derived.Test.YtpandnodeldbjaaRows
set_option linter.unusedVariables false
set_option linter.unusedSimpArgs false
namespace Go.Proofs.Ytpandnodeldbjaa
open Go.ChangeShapes Go.WideShapes Go.ChangeAt Go.RowKit Go.ChangeMaps

theorem unaryPlays_own : ownKnob Try.prog.godebug = none := by kernel_rfl
theorem unaryPlays_laidOut : laidOutB Try.prog = true := by kernel_rfl

set_option maxRecDepth 100000 in
theorem unaryPlays_lifted (os : Os) (started : os.Started) (H : Type) (enc : TypeId × Value → H) :
    ReturnsInHanded {} Try.checked os 7 .any (Rows.unaryPlaysSpec.pre6 enc Try.prog Try.f7 Rows.unaryPlaysRow.domain false) (Rows.unaryPlaysSpec.post enc Try.prog Try.f7 false true false false) := by
  refine law_lifted (C := Try.checked) (tb := 4) unaryPlays_own started (by kernel_rfl) Try.func7
    (ChangeSpec.witness6 (enc := enc) (C := Try.checked) false ⟨#[], #[.agg #[.int .i64 0, .int .i64 0, .int .i64 0, .int .i64 0, .int .i64 0, .int .i64 0, .int .i64 0], .slice none 0 0, .slice none 0 0, .slice none 0 0], []⟩ 8 (by kernel_rfl) (by kernel_rfl) (by kernel_rfl) (by kernel_rfl))
    unaryPlays_laidOut (by rw [Try.params7]; intro t ht; simp at ht; rcases ht with rfl | rfl | rfl | rfl <;> exact ⟨by kernel_rfl, of_decide_eq_true (by kernel_rfl)⟩) (by kernel_rfl) (by kernel_rfl) Try.underlying4
    (by
      intro ds gs h hg
      rw [Try.params7] at h
      match ds, gs, h, hg with
      | [d0, d1, d2, d3], [], _, _ => exact ⟨rfl, rfl, rfl⟩) ?_
  intro W base args ds gs before hval0 hW hsz
  have hval : ∀ (j : Nat) t v, Try.f7.params[j]? = some t → args[j]? = some v → Value.okWide Try.prog W .any base t v := hval0
  obtain ⟨p, q, hA0, _, _, _, _⟩ := hW
  have hA : DataW.TrodAll enc Try.prog W 0 (fun _ => true) true Try.f7.params.toList args.toList ds p := hA0
  clear hA0 hval0
  rw [Try.params7] at hA hval
  obtain ⟨v0, v1, v2, v3, d0, d1, d2, d3, p0, p1, p2, p3, rfl, rfl, rfl, h0, h1, h2, h3⟩ := trodAll_four hA
  obtain ⟨k0, b, lo, n0, wt, rd, tp, rfl⟩ := open_seven Try.underlying50 (by kernel_rfl) (by kernel_rfl) (by intro f hf; simp only [List.mem_cons, List.not_mem_nil, or_false] at hf; rcases hf with rfl | rfl | rfl | rfl | rfl | rfl | rfl <;> exact Try.underlying3) (hval 0 50 v0 rfl rfl) h0
  obtain ⟨A1, l1, c1, rfl, hr1, hc1, hm1, hw1, hn1, hd1⟩ := open_introw2 Try.underlying23 Try.underlying3 (by kernel_rfl) (hval 1 23 v1 rfl rfl) h1
  obtain ⟨A2, l2, c2, rfl, hr2, hc2, hm2, hw2, hn2, hd2⟩ := open_introw2 Try.underlying23 Try.underlying3 (by kernel_rfl) (hval 2 23 v2 rfl rfl) h2
  obtain ⟨A3, l3, c3, rfl, hr3, hc3, hm3, hw3, hn3, hd3⟩ := open_introw2 Try.underlying23 Try.underlying3 (by kernel_rfl) (hval 3 23 v3 rfl rfl) h3
  exact unaryPlays_any l1 l2 l3 A1 A2 A3 c1 c2 c3 k0 b lo n0 wt rd tp W (by omega) (by omega) (by omega) hr1 hr2 hr3

theorem unaryPlays_holds : Rows.UnaryPlaysSaid :=
  OpenClaim.holds_of_wide 7 Try.f7 rfl rfl rfl rfl rfl rfl rfl ⟨rfl, rfl, rfl, rfl, rfl⟩ rfl rfl rfl rfl rfl (by kernel_rfl) Try.func7 (by kernel_rfl)
    (of_decide_eq_true (by kernel_rfl)) (by unfold Func.isWrapper; first | (rw [if_pos (by decide +kernel)]; kernel_rfl) | (rw [if_neg (by decide +kernel)]; exact ⟨rfl, rfl⟩))
    (fun os started H enc _ => unaryPlays_lifted os started H enc)

end Go.Proofs.Ytpandnodeldbjaa
