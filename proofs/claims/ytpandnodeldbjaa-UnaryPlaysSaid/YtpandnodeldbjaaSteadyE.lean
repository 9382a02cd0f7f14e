/-
  PROVED: SteadyPlays returns true for every input, and leaves its arguments as they were. No condition.
-/
import Derived.Test.YtpandnodeldbjaaLawB
import Derived.Test.YtpandnodeldbjaaSteadyW
import Derived.Test.YtpandnodeldbjaaRows
set_option linter.unusedVariables false
set_option linter.unusedSimpArgs false
namespace Go.Proofs.Ytpandnodeldbjaa
open Go.ChangeShapes Go.WideShapes Go.ChangeAt Go.RowKit Go.ChangeMaps

open Go.Deep in
/-- A struct of seven ints that came in. -/
theorem open_seven {H : Type} {enc : TypeId × Value → H} {P : Program} {w : World} {base : Nat} {spare : Nat → Bool} {held : Bool} {r : Reach} {b0 : Nat} {t : TypeId} {f0 f1 f2 f3 f4 f5 f6 : Field} {v : Value} {d : DataW H} {p : List MemPlace}
    (hs : P.underlying t = some (.struct #[f0, f1, f2, f3, f4, f5, f6])) (hone : oneCellFields P #[f0, f1, f2, f3, f4, f5, f6] = true) (hC : P.cellsOf t = 7)
    (hu : ∀ f ∈ [f0, f1, f2, f3, f4, f5, f6], P.underlying f.type = some (.int .i64)) (hv : Value.okWide P w r b0 t v) (h : DataW.Trod enc P w base spare held t v d p) :
    ∃ x0 x1 x2 x3 x4 x5 x6 : Int, v = .agg #[.int .i64 x0, .int .i64 x1, .int .i64 x2, .int .i64 x3, .int .i64 x4, .int .i64 x5, .int .i64 x6] := by
  obtain ⟨cs, rfl, hsz⟩ := okWide_struct hs hv
  obtain ⟨l⟩ := cs
  match l, hsz.trans hC with
  | [c0, c1, c2, c3, c4, c5, c6], _ =>
    obtain ⟨fuel, hf⟩ := h
    obtain ⟨xs, n, _, hx, _, hlen, hg⟩ := DataW.trod_struct hs hf
    match xs, hlen with
    | [y0, y1, y2, y3, y4, y5, y6], _ =>
      obtain ⟨o0, k0⟩ := hone_of hone 0 f0 rfl
      have g0 : DataW.trod enc P w base spare held n f0.type [c0] = some y0 := by simpa [Value.cells, o0, k0] using hg 0 f0 rfl
      obtain ⟨x0, e0, _, _⟩ := DataW.trod_int (hu f0 (by simp)) g0
      simp only [List.cons.injEq, and_true] at e0
      subst e0
      obtain ⟨o1, k1⟩ := hone_of hone 1 f1 rfl
      have g1 : DataW.trod enc P w base spare held n f1.type [c1] = some y1 := by simpa [Value.cells, o1, k1] using hg 1 f1 rfl
      obtain ⟨x1, e1, _, _⟩ := DataW.trod_int (hu f1 (by simp)) g1
      simp only [List.cons.injEq, and_true] at e1
      subst e1
      obtain ⟨o2, k2⟩ := hone_of hone 2 f2 rfl
      have g2 : DataW.trod enc P w base spare held n f2.type [c2] = some y2 := by simpa [Value.cells, o2, k2] using hg 2 f2 rfl
      obtain ⟨x2, e2, _, _⟩ := DataW.trod_int (hu f2 (by simp)) g2
      simp only [List.cons.injEq, and_true] at e2
      subst e2
      obtain ⟨o3, k3⟩ := hone_of hone 3 f3 rfl
      have g3 : DataW.trod enc P w base spare held n f3.type [c3] = some y3 := by simpa [Value.cells, o3, k3] using hg 3 f3 rfl
      obtain ⟨x3, e3, _, _⟩ := DataW.trod_int (hu f3 (by simp)) g3
      simp only [List.cons.injEq, and_true] at e3
      subst e3
      obtain ⟨o4, k4⟩ := hone_of hone 4 f4 rfl
      have g4 : DataW.trod enc P w base spare held n f4.type [c4] = some y4 := by simpa [Value.cells, o4, k4] using hg 4 f4 rfl
      obtain ⟨x4, e4, _, _⟩ := DataW.trod_int (hu f4 (by simp)) g4
      simp only [List.cons.injEq, and_true] at e4
      subst e4
      obtain ⟨o5, k5⟩ := hone_of hone 5 f5 rfl
      have g5 : DataW.trod enc P w base spare held n f5.type [c5] = some y5 := by simpa [Value.cells, o5, k5] using hg 5 f5 rfl
      obtain ⟨x5, e5, _, _⟩ := DataW.trod_int (hu f5 (by simp)) g5
      simp only [List.cons.injEq, and_true] at e5
      subst e5
      obtain ⟨o6, k6⟩ := hone_of hone 6 f6 rfl
      have g6 : DataW.trod enc P w base spare held n f6.type [c6] = some y6 := by simpa [Value.cells, o6, k6] using hg 6 f6 rfl
      obtain ⟨x6, e6, _, _⟩ := DataW.trod_int (hu f6 (by simp)) g6
      simp only [List.cons.injEq, and_true] at e6
      subst e6
      exact ⟨x0, x1, x2, x3, x4, x5, x6, rfl⟩

theorem steadyPlays_own : ownKnob Try.prog.godebug = none := by kernel_rfl
theorem steadyPlays_laidOut : laidOutB Try.prog = true := by kernel_rfl

set_option maxRecDepth 100000 in
theorem steadyPlays_lifted (os : Os) (started : os.Started) (H : Type) (enc : TypeId × Value → H) :
    ReturnsInHanded {} Try.checked os 5 .any (Rows.steadyPlaysSpec.pre6 enc Try.prog Try.f5 Rows.steadyPlaysRow.domain false) (Rows.steadyPlaysSpec.post enc Try.prog Try.f5 false true false false) := by
  refine law_lifted (C := Try.checked) (tb := 4) steadyPlays_own started (by kernel_rfl) Try.func5
    (ChangeSpec.witness6 (enc := enc) (C := Try.checked) false ⟨#[], #[.agg #[.int .i64 0, .int .i64 0, .int .i64 0, .int .i64 0, .int .i64 0, .int .i64 0, .int .i64 0], .slice none 0 0, .slice none 0 0, .slice none 0 0], []⟩ 8 (by kernel_rfl) (by kernel_rfl) (by kernel_rfl) (by kernel_rfl))
    steadyPlays_laidOut (by rw [Try.params5]; intro t ht; simp at ht; rcases ht with rfl | rfl | rfl | rfl <;> exact ⟨by kernel_rfl, of_decide_eq_true (by kernel_rfl)⟩) (by kernel_rfl) (by kernel_rfl) Try.underlying4
    (by
      intro ds gs h hg
      rw [Try.params5] at h
      match ds, gs, h, hg with
      | [d0, d1, d2, d3], [], _, _ => exact ⟨rfl, rfl, rfl⟩) ?_
  intro W base args ds gs before hval0 hW hsz
  have hval : ∀ (j : Nat) t v, Try.f5.params[j]? = some t → args[j]? = some v → Value.okWide Try.prog W .any base t v := hval0
  obtain ⟨p, q, hA0, _, _, _, _⟩ := hW
  have hA : DataW.TrodAll enc Try.prog W 0 (fun _ => true) true Try.f5.params.toList args.toList ds p := hA0
  clear hA0 hval0
  rw [Try.params5] at hA hval
  obtain ⟨v0, v1, v2, v3, d0, d1, d2, d3, p0, p1, p2, p3, rfl, rfl, rfl, h0, h1, h2, h3⟩ := trodAll_four hA
  obtain ⟨k0, b, lo, n0, wt, rd, tp, rfl⟩ := open_seven Try.underlying50 (by kernel_rfl) (by kernel_rfl) (by intro f hf; simp only [List.mem_cons, List.not_mem_nil, or_false] at hf; rcases hf with rfl | rfl | rfl | rfl | rfl | rfl | rfl <;> exact Try.underlying3) (hval 0 50 v0 rfl rfl) h0
  obtain ⟨A1, l1, c1, rfl, hr1, hc1, hm1, hw1, hn1, hd1⟩ := open_introw2 Try.underlying23 Try.underlying3 (by kernel_rfl) (hval 1 23 v1 rfl rfl) h1
  obtain ⟨A2, l2, c2, rfl, hr2, hc2, hm2, hw2, hn2, hd2⟩ := open_introw2 Try.underlying23 Try.underlying3 (by kernel_rfl) (hval 2 23 v2 rfl rfl) h2
  obtain ⟨A3, l3, c3, rfl, hr3, hc3, hm3, hw3, hn3, hd3⟩ := open_introw2 Try.underlying23 Try.underlying3 (by kernel_rfl) (hval 3 23 v3 rfl rfl) h3
  exact steadyPlays_any l1 l2 l3 A1 A2 A3 c1 c2 c3 k0 b lo n0 wt rd tp W (by omega) (by omega) (by omega) hr1 hr2 hr3

theorem steadyPlays_holds : Rows.SteadyPlaysSaid :=
  OpenClaim.holds_of_wide 5 Try.f5 rfl rfl rfl rfl rfl rfl rfl ⟨rfl, rfl, rfl, rfl, rfl⟩ rfl rfl rfl rfl rfl (by kernel_rfl) Try.func5 (by kernel_rfl)
    (of_decide_eq_true (by kernel_rfl)) (by unfold Func.isWrapper; first | (rw [if_pos (by decide +kernel)]; kernel_rfl) | (rw [if_neg (by decide +kernel)]; exact ⟨rfl, rfl⟩))
    (fun os started H enc _ => steadyPlays_lifted os started H enc)

end Go.Proofs.Ytpandnodeldbjaa
