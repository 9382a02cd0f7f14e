/-
  Operations in memory: a slice of them; one that came in, opened.
-/
import Derived.Test.YtpefcbmmbpcalaaDoorLawB
import Derived.Test.YtpefcbmmbpcalaaDoorChecked
import Derived.Deep.Slices
import Derived.Deep.Fields
import Derived.OpenShut
import Derived.ChangeSame
set_option linter.unusedVariables false
set_option linter.unusedSimpArgs false
namespace Go.Proofs.YtpefcbmmbpcalaaDoor
open Go.ChangeShapes Go.WideShapes Go.ChangeAt Go.RowKit Go.Deep

/-- An operation as plain data. -/
structure OpD where
  frm : Int
  to : Int
  wr : Bool
  val : Int
  thr : Int
def op0 : OpD := ⟨0, 0, false, 0, 0⟩
def ocell (o : OpD) : List Value := [.int .i64 o.frm, .int .i64 o.to, .bool o.wr, .int .i64 o.val, .int .i64 o.thr]
def ocells (l : List OpD) : List Value := l.flatMap ocell
def oagg (o : OpD) : Value := .agg #[.int .i64 o.frm, .int .i64 o.to, .bool o.wr, .int .i64 o.val, .int .i64 o.thr]
theorem ocells_append (l m : List OpD) : ocells (l ++ m) = ocells l ++ ocells m := by unfold ocells; rw [List.flatMap_append]
theorem ocells_len (l : List OpD) : (ocells l).length = l.length * 5 := by
  induction l with
  | nil => rfl
  | cons a l ih =>
    have e : ocells (a :: l) = ocell a ++ ocells l := rfl
    rw [e, List.length_append, ih]
    simp [ocell]; omega
theorem ocells_one (l : List OpD) : ∀ u ∈ ocells l, u.oneCell' = true := by
  intro u hu
  unfold ocells at hu
  obtain ⟨a, _, ha⟩ := List.mem_flatMap.1 hu
  simp only [ocell, List.mem_cons, List.not_mem_nil, or_false] at ha
  rcases ha with rfl | rfl | rfl | rfl | rfl <;> rfl
theorem ocells_at (l : List OpD) : ∀ k, k < l.length → ∀ j, j < 5 → (ocells l)[k * 5 + j]? = (ocell (l.getD k op0))[j]? := by
  induction l with
  | nil => intro k hk; simp at hk
  | cons a l ih =>
    intro k hk j hj
    have e : ocells (a :: l) = ocell a ++ ocells l := rfl
    have e5 : (ocell a).length = 5 := rfl
    rw [e]
    cases k with
    | zero =>
      rw [Nat.zero_mul, Nat.zero_add, List.getElem?_append_left (by omega)]
      rfl
    | succ k =>
      rw [List.getElem?_append_right (by omega), e5, show (k + 1) * 5 + j - 5 = k * 5 + j by omega]
      exact ih k (by simpa using hk) j hj
/-- The operation at a place in memory. -/
def OpAt (w : World) (b off : Nat) (o : OpD) : Prop := w.cell? ⟨b, off, none⟩ = some (.int .i64 o.frm) ∧ w.cell? ⟨b, off + 1, none⟩ = some (.int .i64 o.to) ∧ w.cell? ⟨b, off + 2, none⟩ = some (.bool o.wr) ∧ w.cell? ⟨b, off + 3, none⟩ = some (.int .i64 o.val) ∧ w.cell? ⟨b, off + 4, none⟩ = some (.int .i64 o.thr)
theorem OpAt.up {w w' : World} {b off : Nat} {o : OpD} (h : OpAt w b off o) (u : Up w w') : OpAt w' b off o :=
  ⟨(u.cell (cell_lt h.1)).trans h.1, (u.cell (cell_lt h.2.1)).trans h.2.1, (u.cell (cell_lt h.2.2.1)).trans h.2.2.1, (u.cell (cell_lt h.2.2.2.1)).trans h.2.2.2.1, (u.cell (cell_lt h.2.2.2.2)).trans h.2.2.2.2⟩
/-- A slice's operations in memory. -/
def OpRow (w : World) (A : Option Addr) (l : List OpD) : Prop := ∀ k, k < l.length → ∃ b off, A = some ⟨b, off, none⟩ ∧ OpAt w b (off + k * 5) (l.getD k op0)
theorem OpRow.up {w w' : World} {A : Option Addr} {l : List OpD} (h : OpRow w A l) (u : Up w w') : OpRow w' A l := fun k hk => by
  obtain ⟨b, off, e, h1⟩ := h k hk
  exact ⟨b, off, e, h1.up u⟩
theorem OpRow.nil (w : World) (A : Option Addr) : OpRow w A [] := fun k hk => absurd hk (Nat.not_lt_zero k)
theorem opAt_block {w : World} {b : Nat} {cs : List Value} {t : TypeId} {k : Nat} {o : OpD} (h : w.heap[b]? = some (.cells cs.toArray t (0, 0))) (hk : ∀ j, j < 5 → cs[k + j]? = (ocell o)[j]?) : OpAt w b k o := by
  have c : ∀ j, j < 5 → w.cell? ⟨b, k + j, none⟩ = (ocell o)[j]? := fun j hj => (cell_of_row w b (k + j) _ _ _ h).trans (by rw [List.getElem?_toArray]; exact hk j hj)
  exact ⟨c 0 (by decide), c 1 (by decide), c 2 (by decide), c 3 (by decide), c 4 (by decide)⟩
def OwnO (w : World) (B : Nat) (v : Value) (l : List OpD) : Prop := w.ownsRow B 28 5 v l.length (ocells l)
theorem OwnO.row {w : World} {B : Nat} {v : Value} {l : List OpD} (ho : OwnO w B v l) : ∃ A cc, v = .slice A l.length cc ∧ OpRow w A l := by
  rcases ho.2 with ⟨a1, a2⟩ | ⟨g, cap, cur, a1, _⟩
  · exact ⟨none, 0, by rw [a1, a2], fun j hj => by omega⟩
  · refine ⟨_, cap, a1, fun j hj => ⟨g, 0, rfl, ?_⟩⟩
    have ho' := ho
    rw [a1] at ho'
    have c : ∀ q, q < 5 → w.cell? ⟨g, 0 + j * 5 + q, none⟩ = (ocell (l.getD j op0))[q]? := fun q hq => by
      rw [Nat.zero_add]
      exact (ho'.cellAt (j * 5 + q) (by omega)).trans (ocells_at l j hj q hq)
    exact ⟨c 0 (by decide), c 1 (by decide), c 2 (by decide), c 3 (by decide), c 4 (by decide)⟩

section
variable {H : Type} {enc : TypeId × Value → H} {P : Program} {w : World}
theorem open_ops {t e : TypeId} {f0 f1 f2 f3 f4 : Field} {v : Value} {d : DataW H} {ps : List MemPlace} {base : Nat} (ht : P.underlying t = some (.slice e)) (he : P.underlying e = some (.struct #[f0, f1, f2, f3, f4])) (hC : P.cellsOf e = 5)
    (o0 : f0.offset = 0) (o1 : f1.offset = 1) (o2 : f2.offset = 2) (o3 : f3.offset = 3) (o4 : f4.offset = 4)
    (k0 : P.cellsOf f0.type = 1) (k1 : P.cellsOf f1.type = 1) (k2 : P.cellsOf f2.type = 1) (k3 : P.cellsOf f3.type = 1) (k4 : P.cellsOf f4.type = 1)
    (u0 : P.underlying f0.type = some (.int .i64)) (u1 : P.underlying f1.type = some (.int .i64)) (u2 : P.underlying f2.type = some .bool) (u3 : P.underlying f3.type = some (.int .i64)) (u4 : P.underlying f4.type = some (.int .i64))
    (hval : Value.okWide P w .any base t v) (h : DataW.Trod enc P w 0 (fun _ => true) true t v d ps) :
    ∃ (A : Option Addr) (l : List OpD) (c : Nat), v = .slice A l.length c ∧ OpRow w A l ∧ l.length ≤ c ∧ c ≤ 9223372036854775807 ∧
      ∀ o ∈ l, (-9223372036854775808 ≤ o.frm ∧ o.frm ≤ 9223372036854775807) ∧ (-9223372036854775808 ≤ o.to ∧ o.to ≤ 9223372036854775807) ∧ (-9223372036854775808 ≤ o.val ∧ o.val ≤ 9223372036854775807) ∧ (-9223372036854775808 ≤ o.thr ∧ o.thr ≤ 9223372036854775807) := by
  obtain ⟨A, len, cap, rfl⟩ := okWide_slice ht hval
  obtain ⟨fuel, hf⟩ := h
  rcases open_slice ht hf with ⟨hcs, _⟩ | ⟨a, len', cap', m, n0, D, Pl, hcs, _, hl, hm, hmm, hx, hi⟩
  · simp [Value.cells] at hcs
    obtain ⟨rfl, rfl, rfl⟩ := hcs
    exact ⟨none, [], 0, rfl, fun k hk => absurd hk (Nat.not_lt_zero k), Nat.le_refl _, by omega, fun o ho => by cases ho⟩
  · simp [Value.cells] at hcs
    obtain ⟨rfl, rfl, rfl⟩ := hcs
    simp only [if_true] at hmm
    subst hmm
    have hcell : ∀ i, i < m → ∃ p : OpD, w.cell? (a.add (i * 5)) = some (.int .i64 p.frm) ∧ w.cell? (a.add (i * 5 + 1)) = some (.int .i64 p.to) ∧ w.cell? (a.add (i * 5 + 2)) = some (.bool p.wr) ∧ w.cell? (a.add (i * 5 + 3)) = some (.int .i64 p.val) ∧ w.cell? (a.add (i * 5 + 4)) = some (.int .i64 p.thr) ∧
        (-9223372036854775808 ≤ p.frm ∧ p.frm ≤ 9223372036854775807) ∧ (-9223372036854775808 ≤ p.to ∧ p.to ≤ 9223372036854775807) ∧ (-9223372036854775808 ≤ p.val ∧ p.val ≤ 9223372036854775807) ∧ (-9223372036854775808 ≤ p.thr ∧ p.thr ≤ 9223372036854775807) := by
      intro i him
      obtain ⟨cs', hc, ht'⟩ := hi i him
      rw [hC] at hc
      obtain ⟨xs, n, _, _, _, hxl, hfs⟩ := DataW.trod_struct he ht'
      obtain ⟨_, hcl, hat⟩ := World.cells?_some hc
      match cs', hcl, xs, hxl with
      | [q0, q1, q2, q3, q4], _, [y0, y1, y2, y3, y4], _ =>
      have ht0 := hfs 0 f0 rfl
      have ht1 := hfs 1 f1 rfl
      have ht2 := hfs 2 f2 rfl
      have ht3 := hfs 3 f3 rfl
      have ht4 := hfs 4 f4 rfl
      rw [o0, k0] at ht0
      rw [o1, k1] at ht1
      rw [o2, k2] at ht2
      rw [o3, k3] at ht3
      rw [o4, k4] at ht4
      simp only [List.drop_zero, List.drop_succ_cons, List.take_succ_cons, List.take_zero, List.getElem?_cons_zero, List.getElem?_cons_succ] at ht0 ht1 ht2 ht3 ht4
      obtain ⟨x0, e0, _, hw0⟩ := DataW.trod_int u0 ht0
      obtain ⟨x1, e1, _, hw1⟩ := DataW.trod_int u1 ht1
      obtain ⟨x2, e2, _⟩ := DataW.trod_bool u2 ht2
      obtain ⟨x3, e3, _, hw3⟩ := DataW.trod_int u3 ht3
      obtain ⟨x4, e4, _, hw4⟩ := DataW.trod_int u4 ht4
      simp only [List.cons.injEq, and_true] at e0 e1 e2 e3 e4
      subst e0 e1 e2 e3 e4
      have hc0 := hat 0 (by decide)
      have hc1 := hat 1 (by decide)
      have hc2 := hat 2 (by decide)
      have hc3 := hat 3 (by decide)
      have hc4 := hat 4 (by decide)
      rw [add_add] at hc0 hc1 hc2 hc3 hc4
      exact ⟨⟨x0, x1, x2, x3, x4⟩, hc0, hc1, hc2, hc3, hc4, i64_wf hw0, i64_wf hw1, i64_wf hw3, i64_wf hw4⟩
    obtain ⟨p, hp⟩ : ∃ p : Nat → OpD, ∀ i, i < m → w.cell? (a.add (i * 5)) = some (.int .i64 (p i).frm) ∧ w.cell? (a.add (i * 5 + 1)) = some (.int .i64 (p i).to) ∧ w.cell? (a.add (i * 5 + 2)) = some (.bool (p i).wr) ∧ w.cell? (a.add (i * 5 + 3)) = some (.int .i64 (p i).val) ∧ w.cell? (a.add (i * 5 + 4)) = some (.int .i64 (p i).thr) ∧
        (-9223372036854775808 ≤ (p i).frm ∧ (p i).frm ≤ 9223372036854775807) ∧ (-9223372036854775808 ≤ (p i).to ∧ (p i).to ≤ 9223372036854775807) ∧ (-9223372036854775808 ≤ (p i).val ∧ (p i).val ≤ 9223372036854775807) ∧ (-9223372036854775808 ≤ (p i).thr ∧ (p i).thr ≤ 9223372036854775807) :=
      ⟨fun i => if h : i < m then (hcell i h).choose else op0, fun i him => by simpa only [dif_pos him] using (hcell i him).choose_spec⟩
    unfold maxLen at hm
    have hlen : ((List.range len).map p).length = len := by simp
    refine ⟨some a, (List.range len).map p, m, by rw [hlen], ?_, by omega, by omega, ?_⟩
    · rw [OpRow, hlen]
      intro k hk
      obtain ⟨h0, h1, h2, h3, h4, _⟩ := hp k (by omega)
      obtain ⟨b, off, spot⟩ := a
      have hspot : spot = none := by simpa [Addr.add] using World.cell?_spot (hp 0 (by omega)).1
      subst hspot
      have e : ((List.range len).map p).getD k op0 = p k := by rw [List.getD_eq_getElem?_getD, List.getElem?_map, List.getElem?_range hk]; rfl
      rw [e]
      exact ⟨b, off, rfl, by rw [← Go.WideShapes.add_plain]; exact h0, by rw [Nat.add_assoc, ← Go.WideShapes.add_plain]; exact h1, by rw [Nat.add_assoc, ← Go.WideShapes.add_plain]; exact h2, by rw [Nat.add_assoc, ← Go.WideShapes.add_plain]; exact h3, by rw [Nat.add_assoc, ← Go.WideShapes.add_plain]; exact h4⟩
    · intro x hx
      obtain ⟨i, hi', rfl⟩ := List.mem_map.1 hx
      obtain ⟨_, _, _, _, _, h5⟩ := hp i (by have := List.mem_range.1 hi'; omega)
      exact h5
end

/-- An operation in a block of its own: its five cells. -/
theorem box_cells {w : World} {b : Nat} {F T V Th : Int} {Wr : Bool} {t : TypeId} (h : w.heap[b]? = some (.cells #[.int .i64 F, .int .i64 T, .bool Wr, .int .i64 V, .int .i64 Th] t (0, 0))) :
    w.cell? ⟨b, 0, none⟩ = some (.int .i64 F) ∧ w.cell? ⟨b, 1, none⟩ = some (.int .i64 T) ∧ w.cell? ⟨b, 2, none⟩ = some (.bool Wr) ∧ w.cell? ⟨b, 3, none⟩ = some (.int .i64 V) ∧ w.cell? ⟨b, 4, none⟩ = some (.int .i64 Th) :=
  ⟨cell_of_row _ _ 0 _ _ _ h, cell_of_row _ _ 1 _ _ _ h, cell_of_row _ _ 2 _ _ _ h, cell_of_row _ _ 3 _ _ _ h, cell_of_row _ _ 4 _ _ _ h⟩
theorem box_up {w w' : World} {b : Nat} {o : Obj} (h : w.heap[b]? = some o) (u : Up w w') : w'.heap[b]? = some o := (u.block _ (Array.getElem?_eq_some_iff.1 h).1).trans h
def aheadB (a b : OpD) : Bool := (a.to != -1) && decide (a.to < b.frm)
def bothB (a b : OpD) : Bool := !aheadB a b && !aheadB b a

end Go.Proofs.YtpefcbmmbpcalaaDoor
