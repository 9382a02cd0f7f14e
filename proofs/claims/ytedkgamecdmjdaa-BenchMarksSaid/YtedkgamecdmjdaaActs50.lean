/-
  A slice of acts that came in, opened; and the rows of an outcome are short.
-/
import Derived.Test.YtedkgamecdmjdaaLawB
import Derived.Test.YtedkgamecdmjdaaDoP
import Derived.Deep.Slices
import Derived.Deep.Fields
import Derived.ChangeSame
set_option linter.unusedVariables false
set_option linter.unusedSimpArgs false
namespace Go.Proofs.Ytedkgamecdmjdaa
open Go.ChangeShapes Go.WideShapes Go.ChangeAt Go.RowKit Go.Deep

section
variable {H : Type} {enc : TypeId × Value → H} {P : Program} {w : World}
/-- A slice of structs of a byte and two ints. -/
theorem open_acts {t e : TypeId} {f0 f1 f2 : Field} {v : Value} {d : DataW H} {ps : List MemPlace} {base : Nat} (ht : P.underlying t = some (.slice e)) (he : P.underlying e = some (.struct #[f0, f1, f2])) (hC : P.cellsOf e = 3)
    (o0 : f0.offset = 0) (o1 : f1.offset = 1) (o2 : f2.offset = 2) (k0 : P.cellsOf f0.type = 1) (k1 : P.cellsOf f1.type = 1) (k2 : P.cellsOf f2.type = 1)
    (u0 : P.underlying f0.type = some (.int .u8)) (u1 : P.underlying f1.type = some (.int .i64)) (u2 : P.underlying f2.type = some (.int .i64))
    (hval : Value.okWide P w .any base t v) (h : DataW.Trod enc P w 0 (fun _ => true) true t v d ps) :
    ∃ (A : Option Addr) (l : List Act3) (c : Nat), v = .slice A l.length c ∧ ActRow w A l ∧ l.length ≤ c ∧ c ≤ 9223372036854775807 ∧ (∀ a ∈ l, 0 ≤ a.1 ∧ a.1 ≤ 255) ∧ (A = none → c = 0) := by
  obtain ⟨A, len, cap, rfl⟩ := okWide_slice ht hval
  obtain ⟨fuel, hf⟩ := h
  rcases open_slice ht hf with ⟨hcs, _⟩ | ⟨a, len', cap', m, n0, D, Pl, hcs, _, hl, hm, hmm, hx, hi⟩
  · simp [Value.cells] at hcs
    obtain ⟨rfl, rfl, rfl⟩ := hcs
    exact ⟨none, [], 0, rfl, fun k hk => absurd hk (Nat.not_lt_zero k), Nat.le_refl _, by omega, fun a ha => (by cases ha), fun _ => rfl⟩
  · simp [Value.cells] at hcs
    obtain ⟨rfl, rfl, rfl⟩ := hcs
    simp only [if_true] at hmm
    subst hmm
    have hcell : ∀ i, i < m → ∃ p : Act3, w.cell? (a.add (i * 3)) = some (.int .u8 p.1) ∧ w.cell? (a.add (i * 3 + 1)) = some (.int .i64 p.2.1) ∧ w.cell? (a.add (i * 3 + 2)) = some (.int .i64 p.2.2) ∧ 0 ≤ p.1 ∧ p.1 ≤ 255 := by
      intro i him
      obtain ⟨cs', hc, ht'⟩ := hi i him
      rw [hC] at hc
      obtain ⟨xs, n, _, _, _, hxl, hfs⟩ := DataW.trod_struct he ht'
      obtain ⟨_, hcl, hat⟩ := World.cells?_some hc
      match cs', hcl, xs, hxl with
      | [q0, q1, q2], _, [y0, y1, y2], _ =>
      have ht0 := hfs 0 f0 rfl
      have ht1 := hfs 1 f1 rfl
      have ht2 := hfs 2 f2 rfl
      rw [o0, k0] at ht0
      rw [o1, k1] at ht1
      rw [o2, k2] at ht2
      simp only [List.drop_zero, List.drop_succ_cons, List.take_succ_cons, List.take_zero, List.getElem?_cons_zero, List.getElem?_cons_succ] at ht0 ht1 ht2
      obtain ⟨x0, e0, _, hw0⟩ := DataW.trod_int u0 ht0
      obtain ⟨x1, e1, _, _⟩ := DataW.trod_int u1 ht1
      obtain ⟨x2, e2, _, _⟩ := DataW.trod_int u2 ht2
      simp only [List.cons.injEq, and_true] at e0 e1 e2
      subst e0 e1 e2
      have hc0 := hat 0 (by decide)
      have hc1 := hat 1 (by decide)
      have hc2 := hat 2 (by decide)
      rw [add_add] at hc0 hc1 hc2
      exact ⟨(x0, x1, x2), hc0, hc1, hc2, u8_wf hw0⟩
    obtain ⟨p, hp⟩ : ∃ p : Nat → Act3, ∀ i, i < m → w.cell? (a.add (i * 3)) = some (.int .u8 (p i).1) ∧ w.cell? (a.add (i * 3 + 1)) = some (.int .i64 (p i).2.1) ∧ w.cell? (a.add (i * 3 + 2)) = some (.int .i64 (p i).2.2) ∧ 0 ≤ (p i).1 ∧ (p i).1 ≤ 255 :=
      ⟨fun i => if h : i < m then (hcell i h).choose else (0, 0, 0), fun i him => by simpa only [dif_pos him] using (hcell i him).choose_spec⟩
    unfold maxLen at hm
    have hlen : ((List.range len).map p).length = len := by simp
    refine ⟨some a, (List.range len).map p, m, by rw [hlen], ?_, by omega, by omega, ?_, fun h => by cases h⟩
    · rw [ActRow, hlen]
      intro k hk
      obtain ⟨h0, h1, h2, _, _⟩ := hp k (by omega)
      obtain ⟨b, off, spot⟩ := a
      have hspot : spot = none := by simpa [Addr.add] using World.cell?_spot (hp 0 (by omega)).1
      subst hspot
      have e : ((List.range len).map p).getD k (0, 0, 0) = p k := by rw [List.getD_eq_getElem?_getD, List.getElem?_map, List.getElem?_range hk]; rfl
      rw [e]
      exact ⟨b, off, rfl, by rw [← Go.WideShapes.add_plain]; exact h0, by rw [Nat.add_assoc, ← Go.WideShapes.add_plain]; exact h1, by rw [Nat.add_assoc, ← Go.WideShapes.add_plain]; exact h2⟩
    · intro x hx
      obtain ⟨i, hi', rfl⟩ := List.mem_map.1 hx
      obtain ⟨_, _, _, h3, h4⟩ := hp i (by have := List.mem_range.1 hi'; omega)
      exact ⟨h3, h4⟩
end

theorem set_len (s : TS) (i v : Int) : (s.set i v).acc = s.acc ∧ (s.set i v).nts = s.nts ∧ (s.set i v).loc.length ≤ max s.loc.length 32768 := by
  unfold TS.set
  split
  · exact ⟨rfl, rfl, by omega⟩
  · split
    · split
      · exact ⟨rfl, rfl, by omega⟩
      · refine ⟨rfl, rfl, ?_⟩
        simp only [List.length_set, List.length_append, List.length_replicate]
        omega
    · refine ⟨rfl, rfl, ?_⟩
      simp only [List.length_set]
      omega
theorem asked_len (s : TS) (a : Int × Int × Int) : (s.asked a).acc.length = s.acc.length + 1 ∧ (s.asked a).nts = s.nts ∧ (s.asked a).loc = s.loc := by simp [TS.asked]
theorem actP_len (a : Act3) (sum : Int) (s : TS) : (actP a sum s).2.acc.length ≤ s.acc.length + 1 ∧ (actP a sum s).2.nts.length ≤ s.nts.length + 1 ∧ (actP a sum s).2.loc.length ≤ max s.loc.length 32768 := by
  have ha := asked_len s
  have hn : ∀ k, (s.noted k).acc = s.acc ∧ (s.noted k).nts.length = s.nts.length + 1 ∧ (s.noted k).loc = s.loc := by simp [TS.noted]
  unfold actP
  split
  · split <;> simp [TS.asked] <;> omega
  · split
    · simp [TS.asked]; omega
    · split
      · obtain ⟨h1, h2, h3⟩ := set_len s a.2.1 a.2.2
        exact ⟨by rw [h1]; omega, by rw [h2]; omega, h3⟩
      · split
        · simp [TS.noted]; omega
        · split
          · simp [TS.asked]; omega
          · split
            · obtain ⟨h1, h2, h3⟩ := set_len (s.asked (1, a.2.1, 0)) a.2.2 s.told
              obtain ⟨h4, h5, h6⟩ := ha (1, a.2.1, 0)
              exact ⟨by rw [h1]; omega, by rw [h2, h5]; omega, by rw [h6] at h3; exact h3⟩
            · simp [TS.asked]; omega
theorem doP_len : ∀ (l : List Act3) (sum : Int) (s : TS), (doP l sum s).2.acc.length ≤ s.acc.length + l.length ∧ (doP l sum s).2.nts.length ≤ s.nts.length + l.length ∧ (doP l sum s).2.loc.length ≤ max s.loc.length 32768
  | [], sum, s => by simp [doP]; omega
  | a :: l, sum, s => by
    obtain ⟨h1, h2, h3⟩ := actP_len a sum s
    unfold doP
    obtain ⟨⟨x, s'⟩, hx⟩ : ∃ p, actP a sum s = p := ⟨_, rfl⟩
    rw [hx] at h1 h2 h3 ⊢
    cases x with
    | none => simp only [List.length_cons] at *; exact ⟨by omega, by omega, h3⟩
    | some y =>
      obtain ⟨i1, i2, i3⟩ := doP_len l y s'
      simp only [List.length_cons] at *
      exact ⟨by omega, by omega, by omega⟩

end Go.Proofs.Ytedkgamecdmjdaa
