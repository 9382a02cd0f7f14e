/-
  A slice of wants (structs of two ints) that came in, opened.
-/
import Derived.Test.YtlclijnoablejaaLawB
import Derived.Deep.Slices
import Derived.Deep.Fields
import Derived.OpenShut
import Derived.ChangeSame
set_option linter.unusedVariables false
set_option linter.unusedSimpArgs false
namespace Go.Proofs.Ytlclijnoablejaa
open Go.ChangeShapes Go.WideShapes Go.ChangeAt Go.RowKit Go.Deep

def PairRow (w : World) (A : Option Addr) (l : List (Int × Int)) : Prop := ∀ k, k < l.length → ∃ b off, A = some ⟨b, off, none⟩ ∧ w.cell? ⟨b, off + k * 2, none⟩ = some (.int .i64 (l.getD k (0, 0)).1) ∧ w.cell? ⟨b, off + k * 2 + 1, none⟩ = some (.int .i64 (l.getD k (0, 0)).2)
theorem PairRow.up {w w' : World} {A : Option Addr} {l : List (Int × Int)} (h : PairRow w A l) (u : Up w w') : PairRow w' A l := fun k hk => by
  obtain ⟨b, off, e, h1, h2⟩ := h k hk
  exact ⟨b, off, e, (u.cell (p := ⟨b, off + k * 2, none⟩) (cell_lt h1)).trans h1, (u.cell (p := ⟨b, off + k * 2 + 1, none⟩) (cell_lt h2)).trans h2⟩

section
variable {H : Type} {enc : TypeId × Value → H} {P : Program} {w : World}
theorem open_wants {t e : TypeId} {f0 f1 : Field} {v : Value} {d : DataW H} {ps : List MemPlace} {base : Nat} (ht : P.underlying t = some (.slice e)) (he : P.underlying e = some (.struct #[f0, f1])) (hC : P.cellsOf e = 2)
    (o0 : f0.offset = 0) (o1 : f1.offset = 1) (k0 : P.cellsOf f0.type = 1) (k1 : P.cellsOf f1.type = 1) (u0 : P.underlying f0.type = some (.int .i64)) (u1 : P.underlying f1.type = some (.int .i64))
    (hval : Value.okWide P w .any base t v) (h : DataW.Trod enc P w 0 (fun _ => true) true t v d ps) :
    ∃ (A : Option Addr) (l : List (Int × Int)) (c : Nat), v = .slice A l.length c ∧ PairRow w A l ∧ l.length ≤ c ∧ c ≤ 9223372036854775807 := by
  obtain ⟨A, len, cap, rfl⟩ := okWide_slice ht hval
  obtain ⟨fuel, hf⟩ := h
  rcases open_slice ht hf with ⟨hcs, _⟩ | ⟨a, len', cap', m, n0, D, Pl, hcs, _, hl, hm, hmm, hx, hi⟩
  · simp [Value.cells] at hcs
    obtain ⟨rfl, rfl, rfl⟩ := hcs
    exact ⟨none, [], 0, rfl, fun k hk => absurd hk (Nat.not_lt_zero k), Nat.le_refl _, by omega⟩
  · simp [Value.cells] at hcs
    obtain ⟨rfl, rfl, rfl⟩ := hcs
    simp only [if_true] at hmm
    subst hmm
    have hcell : ∀ i, i < m → ∃ p : Int × Int, w.cell? (a.add (i * 2)) = some (.int .i64 p.1) ∧ w.cell? (a.add (i * 2 + 1)) = some (.int .i64 p.2) := by
      intro i him
      obtain ⟨cs', hc, ht'⟩ := hi i him
      rw [hC] at hc
      obtain ⟨xs, n, _, _, _, hxl, hfs⟩ := DataW.trod_struct he ht'
      obtain ⟨_, hcl, hat⟩ := World.cells?_some hc
      match cs', hcl, xs, hxl with
      | [q0, q1], _, [y0, y1], _ =>
      have ht0 := hfs 0 f0 rfl
      have ht1 := hfs 1 f1 rfl
      rw [o0, k0] at ht0
      rw [o1, k1] at ht1
      simp only [List.drop_zero, List.drop_succ_cons, List.take_succ_cons, List.take_zero, List.getElem?_cons_zero, List.getElem?_cons_succ] at ht0 ht1
      obtain ⟨x0, e0, _, _⟩ := DataW.trod_int u0 ht0
      obtain ⟨x1, e1, _, _⟩ := DataW.trod_int u1 ht1
      simp only [List.cons.injEq, and_true] at e0 e1
      subst e0 e1
      have hc0 := hat 0 (by decide)
      have hc1 := hat 1 (by decide)
      rw [add_add] at hc0 hc1
      exact ⟨(x0, x1), hc0, hc1⟩
    obtain ⟨p, hp⟩ : ∃ p : Nat → Int × Int, ∀ i, i < m → w.cell? (a.add (i * 2)) = some (.int .i64 (p i).1) ∧ w.cell? (a.add (i * 2 + 1)) = some (.int .i64 (p i).2) :=
      ⟨fun i => if h : i < m then (hcell i h).choose else (0, 0), fun i him => by simpa only [dif_pos him] using (hcell i him).choose_spec⟩
    unfold maxLen at hm
    have hlen : ((List.range len).map p).length = len := by simp
    refine ⟨some a, (List.range len).map p, m, by rw [hlen], ?_, by omega, by omega⟩
    rw [PairRow, hlen]
    intro k hk
    obtain ⟨h0, h1⟩ := hp k (by omega)
    obtain ⟨b, off, spot⟩ := a
    have hspot : spot = none := by simpa [Addr.add] using World.cell?_spot (hp 0 (by omega)).1
    subst hspot
    have e : ((List.range len).map p).getD k (0, 0) = p k := by rw [List.getD_eq_getElem?_getD, List.getElem?_map, List.getElem?_range hk]; rfl
    rw [e]
    exact ⟨b, off, rfl, by rw [← Go.WideShapes.add_plain]; exact h0, by rw [Nat.add_assoc, ← Go.WideShapes.add_plain]; exact h1⟩
end

end Go.Proofs.Ytlclijnoablejaa
