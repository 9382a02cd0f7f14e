/-
  A slice of calls (Act2) that came in, opened: with the bounds of its numbers.
-/
import Derived.Test.YtpapcheliohacaaAct2
import Derived.Test.YtpapcheliohacaaBankC
import Derived.Test.YtpapcheliohacaaLawB
import Derived.Deep.Slices
import Derived.Deep.Fields
import Derived.ChangeSame
set_option linter.unusedVariables false
set_option linter.unusedSimpArgs false
namespace Go.Proofs.Ytpapcheliohacaa
open Go.ChangeShapes Go.WideShapes Go.ChangeAt Go.RowKit Go.Deep

def In64 (n : Int) : Prop := -9223372036854775808 ≤ n ∧ n ≤ 9223372036854775807
/-- A call's numbers are those of a machine. -/
def A2W (a : A2) : Prop := In64 a.t ∧ In64 a.n ∧ In64 a.k ∧ In64 a.cl ∧ In64 a.v
theorem in64_0 : In64 0 := ⟨by decide, by decide⟩
theorem in64_of {n : Int} (h : (Lit.int .i64 n).wf = true) : In64 n := by simpa [In64, Lit.wf, IntKind.min, IntKind.max, IntKind.signed, IntKind.bits] using h

section
variable {H : Type} {enc : TypeId × Value → H} {P : Program} {w : World}
theorem open_acts2w {t e : TypeId} {f0 f1 f2 f3 g0 g1 g2 : Field} {v : Value} {d : DataW H} {ps : List MemPlace} {base : Nat} (ht : P.underlying t = some (.slice e)) (he : P.underlying e = some (.struct #[f0, f1, f2, f3])) (hC : P.cellsOf e = 6)
    (o0 : f0.offset = 0) (o1 : f1.offset = 1) (o2 : f2.offset = 2) (o3 : f3.offset = 3) (k0 : P.cellsOf f0.type = 1) (k1 : P.cellsOf f1.type = 1) (k2 : P.cellsOf f2.type = 1) (k3 : P.cellsOf f3.type = 3)
    (u0 : P.underlying f0.type = some .bool) (u1 : P.underlying f1.type = some (.int .i64)) (u2 : P.underlying f2.type = some (.int .i64)) (u3 : P.underlying f3.type = some (.struct #[g0, g1, g2]))
    (p0 : g0.offset = 0) (p1 : g1.offset = 1) (p2 : g2.offset = 2) (l0 : P.cellsOf g0.type = 1) (l1 : P.cellsOf g1.type = 1) (l2 : P.cellsOf g2.type = 1)
    (r0 : P.underlying g0.type = some (.int .i64)) (r1 : P.underlying g1.type = some (.int .i64)) (r2 : P.underlying g2.type = some (.int .i64))
    (hval : Value.okWide P w .any base t v) (h : DataW.Trod enc P w 0 (fun _ => true) true t v d ps) :
    ∃ (A : Option Addr) (l : List A2) (c : Nat), v = .slice A l.length c ∧ A2Row w A l ∧ (∀ k, k < l.length → A2W (l.getD k a20)) ∧ l.length ≤ c ∧ c ≤ 9223372036854775807 := by
  obtain ⟨A, len, cap, rfl⟩ := okWide_slice ht hval
  obtain ⟨fuel, hf⟩ := h
  rcases open_slice ht hf with ⟨hcs, _⟩ | ⟨a, len', cap', m, n0, D, Pl, hcs, _, hl, hm, hmm, hx, hi⟩
  · simp [Value.cells] at hcs
    obtain ⟨rfl, rfl, rfl⟩ := hcs
    exact ⟨none, [], 0, rfl, fun k hk => absurd hk (Nat.not_lt_zero k), fun k hk => absurd hk (Nat.not_lt_zero k), Nat.le_refl _, by omega⟩
  · simp [Value.cells] at hcs
    obtain ⟨rfl, rfl, rfl⟩ := hcs
    simp only [if_true] at hmm
    subst hmm
    have hcell : ∀ i, i < m → ∃ p : A2, A2W p ∧ w.cell? (a.add (i * 6)) = some (.bool p.e) ∧ w.cell? (a.add (i * 6 + 1)) = some (.int .i64 p.t) ∧ w.cell? (a.add (i * 6 + 2)) = some (.int .i64 p.n) ∧ w.cell? (a.add (i * 6 + 3)) = some (.int .i64 p.k) ∧ w.cell? (a.add (i * 6 + 4)) = some (.int .i64 p.cl) ∧ w.cell? (a.add (i * 6 + 5)) = some (.int .i64 p.v) := by
      intro i him
      obtain ⟨cs', hc, ht'⟩ := hi i him
      rw [hC] at hc
      obtain ⟨xs, n, _, _, _, hxl, hfs⟩ := DataW.trod_struct he ht'
      obtain ⟨_, hcl, hat⟩ := World.cells?_some hc
      match cs', hcl, xs, hxl with
      | [q0, q1, q2, q3, q4, q5], _, [y0, y1, y2, y3], _ =>
      have ht0 := hfs 0 f0 rfl
      have ht1 := hfs 1 f1 rfl
      have ht2 := hfs 2 f2 rfl
      have ht3 := hfs 3 f3 rfl
      rw [o0, k0] at ht0
      rw [o1, k1] at ht1
      rw [o2, k2] at ht2
      rw [o3, k3] at ht3
      simp only [List.drop_zero, List.drop_succ_cons, List.take_succ_cons, List.take_zero, List.getElem?_cons_zero, List.getElem?_cons_succ] at ht0 ht1 ht2 ht3
      obtain ⟨x0, e0, _⟩ := DataW.trod_bool u0 ht0
      obtain ⟨x1, e1, _, i1⟩ := DataW.trod_int u1 ht1
      obtain ⟨x2, e2, _, i2⟩ := DataW.trod_int u2 ht2
      obtain ⟨ys, n', _, _, _, hyl, hgs⟩ := DataW.trod_struct u3 ht3
      match ys, hyl with
      | [z0, z1, z2], _ =>
      have hs0 := hgs 0 g0 rfl
      have hs1 := hgs 1 g1 rfl
      have hs2 := hgs 2 g2 rfl
      rw [p0, l0] at hs0
      rw [p1, l1] at hs1
      rw [p2, l2] at hs2
      simp only [List.drop_zero, List.drop_succ_cons, List.take_succ_cons, List.take_zero, List.getElem?_cons_zero, List.getElem?_cons_succ] at hs0 hs1 hs2
      obtain ⟨x3, e3, _, i3⟩ := DataW.trod_int r0 hs0
      obtain ⟨x4, e4, _, i4⟩ := DataW.trod_int r1 hs1
      obtain ⟨x5, e5, _, i5⟩ := DataW.trod_int r2 hs2
      simp only [List.cons.injEq, and_true] at e0 e1 e2 e3 e4 e5
      subst e0 e1 e2 e3 e4 e5
      have hc0 := hat 0 (by decide)
      have hc1 := hat 1 (by decide)
      have hc2 := hat 2 (by decide)
      have hc3 := hat 3 (by decide)
      have hc4 := hat 4 (by decide)
      have hc5 := hat 5 (by decide)
      rw [add_add] at hc0 hc1 hc2 hc3 hc4 hc5
      exact ⟨⟨x0, x1, x2, x3, x4, x5⟩, ⟨in64_of i1, in64_of i2, in64_of i3, in64_of i4, in64_of i5⟩, hc0, hc1, hc2, hc3, hc4, hc5⟩
    obtain ⟨p, hp⟩ : ∃ p : Nat → A2, ∀ i, i < m → A2W (p i) ∧ w.cell? (a.add (i * 6)) = some (.bool (p i).e) ∧ w.cell? (a.add (i * 6 + 1)) = some (.int .i64 (p i).t) ∧ w.cell? (a.add (i * 6 + 2)) = some (.int .i64 (p i).n) ∧ w.cell? (a.add (i * 6 + 3)) = some (.int .i64 (p i).k) ∧ w.cell? (a.add (i * 6 + 4)) = some (.int .i64 (p i).cl) ∧ w.cell? (a.add (i * 6 + 5)) = some (.int .i64 (p i).v) :=
      ⟨fun i => if h : i < m then (hcell i h).choose else a20, fun i him => by simpa only [dif_pos him] using (hcell i him).choose_spec⟩
    unfold maxLen at hm
    have hlen : ((List.range len).map p).length = len := by simp
    have e : ∀ k, k < len → ((List.range len).map p).getD k a20 = p k := fun k hk => by rw [List.getD_eq_getElem?_getD, List.getElem?_map, List.getElem?_range hk]; rfl
    refine ⟨some a, (List.range len).map p, m, by rw [hlen], ?_, fun k hk => by rw [hlen] at hk; rw [e k hk]; exact (hp k (by omega)).1, by omega, by omega⟩
    rw [A2Row, hlen]
    intro k hk
    obtain ⟨_, h0, h1, h2, h3, h4, h5⟩ := hp k (by omega)
    obtain ⟨b, off, spot⟩ := a
    have hspot : spot = none := by simpa [Addr.add] using World.cell?_spot (hp 0 (by omega)).2.1
    subst hspot
    rw [e k hk]
    refine ⟨b, off, rfl, by rw [← Go.WideShapes.add_plain]; exact h0, ?_, ?_, ?_, ?_, ?_⟩
    · rw [Nat.add_assoc, ← Go.WideShapes.add_plain]; exact h1
    · rw [Nat.add_assoc, ← Go.WideShapes.add_plain]; exact h2
    · rw [Nat.add_assoc, ← Go.WideShapes.add_plain]; exact h3
    · rw [Nat.add_assoc, ← Go.WideShapes.add_plain]; exact h4
    · rw [Nat.add_assoc, ← Go.WideShapes.add_plain]; exact h5
end

end Go.Proofs.Ytpapcheliohacaa

/-
  A slice of strips that came in, opened.
-/
namespace Go.Proofs.Ytpapcheliohacaa
open Go.ChangeShapes Go.WideShapes Go.ChangeAt Go.RowKit Go.Deep

section
variable {H : Type} {enc : TypeId × Value → H} {P : Program} {w : World}
theorem open_strips {t e : TypeId} {f0 f1 f2 : Field} {v : Value} {d : DataW H} {ps : List MemPlace} {base : Nat} (ht : P.underlying t = some (.slice e)) (he : P.underlying e = some (.struct #[f0, f1, f2])) (hC : P.cellsOf e = 3)
    (o0 : f0.offset = 0) (o1 : f1.offset = 1) (o2 : f2.offset = 2) (k0 : P.cellsOf f0.type = 1) (k1 : P.cellsOf f1.type = 1) (k2 : P.cellsOf f2.type = 1)
    (u0 : P.underlying f0.type = some (.int .i64)) (u1 : P.underlying f1.type = some (.int .i64)) (u2 : P.underlying f2.type = some (.int .i64))
    (hval : Value.okWide P w .any base t v) (h : DataW.Trod enc P w 0 (fun _ => true) true t v d ps) :
    ∃ (A : Option Addr) (l : List SD) (c : Nat), v = .slice A l.length c ∧ StripRow w A l ∧ l.length ≤ c ∧ c ≤ 9223372036854775807 := by
  obtain ⟨A, len, cap, rfl⟩ := okWide_slice ht hval
  obtain ⟨fuel, hf⟩ := h
  rcases open_slice ht hf with ⟨hcs, _⟩ | ⟨a, len', cap', m, n0, D, Pl, hcs, _, hl, hm, hmm, hx, hi⟩
  · simp [Value.cells] at hcs
    obtain ⟨rfl, rfl, rfl⟩ := hcs
    exact ⟨none, [], 0, rfl, fun k hk => absurd hk (Nat.not_lt_zero k), Nat.le_refl _, by omega⟩
  · simp [Value.cells] at hcs
    obtain ⟨rfl, rfl, rfl⟩ := hcs
    simp only [if_true] at hmm
    subst hmm
    have hcell : ∀ i, i < m → ∃ p : SD, w.cell? (a.add (i * 3)) = some (.int .i64 p.many) ∧ w.cell? (a.add (i * 3 + 1)) = some (.int .i64 p.kind) ∧ w.cell? (a.add (i * 3 + 2)) = some (.int .i64 p.top) := by
      intro i him
      obtain ⟨cs', hc, ht'⟩ := hi i him
      rw [hC] at hc
      obtain ⟨xs, n, _, _, _, hxl, hfs⟩ := DataW.trod_struct he ht'
      obtain ⟨_, hcl, hat⟩ := World.cells?_some hc
      match cs', hcl, xs, hxl with
      | [q0, q1, q2], _, [y0, y1, y2], _ =>
      have ht0 := hfs 0 f0 rfl
      have ht1 := hfs 1 f1 rfl
      have ht2 := hfs 2 f2 rfl
      rw [o0, k0] at ht0
      rw [o1, k1] at ht1
      rw [o2, k2] at ht2
      simp only [List.drop_zero, List.drop_succ_cons, List.take_succ_cons, List.take_zero, List.getElem?_cons_zero, List.getElem?_cons_succ] at ht0 ht1 ht2
      obtain ⟨x0, e0, _, _⟩ := DataW.trod_int u0 ht0
      obtain ⟨x1, e1, _, _⟩ := DataW.trod_int u1 ht1
      obtain ⟨x2, e2, _, _⟩ := DataW.trod_int u2 ht2
      simp only [List.cons.injEq, and_true] at e0 e1 e2
      subst e0 e1 e2
      have hc0 := hat 0 (by decide)
      have hc1 := hat 1 (by decide)
      have hc2 := hat 2 (by decide)
      rw [add_add] at hc0 hc1 hc2
      exact ⟨⟨x0, x1, x2⟩, hc0, hc1, hc2⟩
    obtain ⟨p, hp⟩ : ∃ p : Nat → SD, ∀ i, i < m → w.cell? (a.add (i * 3)) = some (.int .i64 (p i).many) ∧ w.cell? (a.add (i * 3 + 1)) = some (.int .i64 (p i).kind) ∧ w.cell? (a.add (i * 3 + 2)) = some (.int .i64 (p i).top) :=
      ⟨fun i => if h : i < m then (hcell i h).choose else sd0, fun i him => by simpa only [dif_pos him] using (hcell i him).choose_spec⟩
    unfold maxLen at hm
    have hlen : ((List.range len).map p).length = len := by simp
    refine ⟨some a, (List.range len).map p, m, by rw [hlen], ?_, by omega, by omega⟩
    rw [StripRow, hlen]
    intro k hk
    obtain ⟨h0, h1, h2⟩ := hp k (by omega)
    obtain ⟨b, off, spot⟩ := a
    have hspot : spot = none := by simpa [Addr.add] using World.cell?_spot (hp 0 (by omega)).1
    subst hspot
    have e : ((List.range len).map p).getD k sd0 = p k := by rw [List.getD_eq_getElem?_getD, List.getElem?_map, List.getElem?_range hk]; rfl
    rw [e]
    exact ⟨b, off, rfl, by rw [← Go.WideShapes.add_plain]; exact h0, by rw [Nat.add_assoc, ← Go.WideShapes.add_plain]; exact h1, by rw [Nat.add_assoc, ← Go.WideShapes.add_plain]; exact h2⟩
end

end Go.Proofs.Ytpapcheliohacaa
