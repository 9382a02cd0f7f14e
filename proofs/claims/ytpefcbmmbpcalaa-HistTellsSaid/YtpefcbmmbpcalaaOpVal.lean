/-
  An operation that came in by value, opened.
-/
import Derived.Test.YtpefcbmmbpcalaaLawB
import Derived.Test.YtpefcbmmbpcalaaOpd
set_option linter.unusedVariables false
set_option linter.unusedSimpArgs false
namespace Go.Proofs.Ytpefcbmmbpcalaa
open Go.ChangeShapes Go.WideShapes Go.ChangeAt Go.RowKit Go.ChangeMaps

open Go.Deep in
theorem open_opval {H : Type} {enc : TypeId × Value → H} {P : Program} {w : World} {base : Nat} {spare : Nat → Bool} {held : Bool} {r : Reach} {b0 : Nat} {t : TypeId} {f0 f1 f2 f3 f4 : Field} {v : Value} {d : DataW H} {p : List MemPlace}
    (hs : P.underlying t = some (.struct #[f0, f1, f2, f3, f4])) (hone : oneCellFields P #[f0, f1, f2, f3, f4] = true) (hC : P.cellsOf t = 5)
    (u0 : P.underlying f0.type = some (.int .i64)) (u1 : P.underlying f1.type = some (.int .i64)) (u2 : P.underlying f2.type = some .bool) (u3 : P.underlying f3.type = some (.int .i64)) (u4 : P.underlying f4.type = some (.int .i64))
    (hv : Value.okWide P w r b0 t v) (h : DataW.Trod enc P w base spare held t v d p) :
    ∃ o : OpD, v = oagg o := by
  obtain ⟨cs, rfl, hsz⟩ := okWide_struct hs hv
  obtain ⟨l⟩ := cs
  match l, hsz.trans hC with
  | [c0, c1, c2, c3, c4], _ =>
    obtain ⟨fuel, hf⟩ := h
    obtain ⟨xs, n, _, hx, _, hlen, hg⟩ := DataW.trod_struct hs hf
    match xs, hlen with
    | [y0, y1, y2, y3, y4], _ =>
      obtain ⟨o0, k0⟩ := hone_of hone 0 f0 rfl
      have g0 : DataW.trod enc P w base spare held n f0.type [c0] = some y0 := by simpa [Value.cells, o0, k0] using hg 0 f0 rfl
      obtain ⟨x0, e0, _, _⟩ := DataW.trod_int u0 g0
      simp only [List.cons.injEq, and_true] at e0
      subst e0
      obtain ⟨o1, k1⟩ := hone_of hone 1 f1 rfl
      have g1 : DataW.trod enc P w base spare held n f1.type [c1] = some y1 := by simpa [Value.cells, o1, k1] using hg 1 f1 rfl
      obtain ⟨x1, e1, _, _⟩ := DataW.trod_int u1 g1
      simp only [List.cons.injEq, and_true] at e1
      subst e1
      obtain ⟨o2, k2⟩ := hone_of hone 2 f2 rfl
      have g2 : DataW.trod enc P w base spare held n f2.type [c2] = some y2 := by simpa [Value.cells, o2, k2] using hg 2 f2 rfl
      obtain ⟨x2, e2, _⟩ := DataW.trod_bool u2 g2
      simp only [List.cons.injEq, and_true] at e2
      subst e2
      obtain ⟨o3, k3⟩ := hone_of hone 3 f3 rfl
      have g3 : DataW.trod enc P w base spare held n f3.type [c3] = some y3 := by simpa [Value.cells, o3, k3] using hg 3 f3 rfl
      obtain ⟨x3, e3, _, _⟩ := DataW.trod_int u3 g3
      simp only [List.cons.injEq, and_true] at e3
      subst e3
      obtain ⟨o4, k4⟩ := hone_of hone 4 f4 rfl
      have g4 : DataW.trod enc P w base spare held n f4.type [c4] = some y4 := by simpa [Value.cells, o4, k4] using hg 4 f4 rfl
      obtain ⟨x4, e4, _, _⟩ := DataW.trod_int u4 g4
      simp only [List.cons.injEq, and_true] at e4
      subst e4
      exact ⟨⟨x0, x1, x2, x3, x4⟩, rfl⟩

end Go.Proofs.Ytpefcbmmbpcalaa
