/-
  A row of registers; plan.Size.
-/
import Derived.Test.YtlclijnoablejaaPlanA
set_option linter.unusedVariables false
set_option linter.unusedSimpArgs false
namespace Go.Proofs.Ytlclijnoablejaa
open Go.RowKit

def r0 : Rg := ⟨0, 0, 0, 0, 0, 0, 0⟩
def rrow (l : List Rg) : List Value := l.flatMap fun r => (rcells r).toList
theorem rrow_append (l m : List Rg) : rrow (l ++ m) = rrow l ++ rrow m := by unfold rrow; rw [List.flatMap_append]
theorem rrow_len (l : List Rg) : (rrow l).length = l.length * 7 := by
  induction l with
  | nil => rfl
  | cons a l ih =>
    have e : rrow (a :: l) = (rcells a).toList ++ rrow l := rfl
    rw [e, List.length_append, ih]
    simp [rcells]; omega
theorem rrow_one (l : List Rg) : ∀ u ∈ rrow l, u.oneCell' = true := by
  intro u hu
  unfold rrow at hu
  obtain ⟨a, _, ha⟩ := List.mem_flatMap.1 hu
  simp only [rcells, List.mem_cons, List.not_mem_nil, or_false] at ha
  rcases ha with rfl | rfl | rfl | rfl | rfl | rfl | rfl <;> rfl
theorem rrow_at (l : List Rg) : ∀ k, k < l.length → ∀ j, j < 7 → (rrow l)[k * 7 + j]? = (rcells (l.getD k r0)).toList[j]? := by
  induction l with
  | nil => intro k hk; simp at hk
  | cons a l ih =>
    intro k hk j hj
    have e : rrow (a :: l) = (rcells a).toList ++ rrow l := rfl
    have e3 : (rcells a).toList.length = 7 := rfl
    rw [e]
    cases k with
    | zero =>
      rw [Nat.zero_mul, Nat.zero_add, List.getElem?_append_left (by omega)]
      rfl
    | succ k =>
      rw [List.getElem?_append_right (by omega), e3, show (k + 1) * 7 + j - 7 = k * 7 + j by omega]
      exact ih k (by simpa using hk) j hj
def OwnReg (w : World) (B : Nat) (v : Value) (l : List Rg) : Prop := w.ownsRow B 29 7 v l.length (rrow l)
/-- A slice's registers in memory. -/
def RegRow (w : World) (A : Option Addr) (l : List Rg) : Prop := ∀ j, j < l.length → ∃ b, A = some ⟨b, 0, none⟩ ∧ w.cell? ⟨b, j * 7, none⟩ = some (.int .i64 (l.getD j r0).kind) ∧ w.cell? ⟨b, j * 7 + 1, none⟩ = some (.int .i64 (l.getD j r0).base) ∧ w.cell? ⟨b, j * 7 + 2, none⟩ = some (.int .i64 (l.getD j r0).loc) ∧ w.cell? ⟨b, j * 7 + 3, none⟩ = some (.int .i64 (l.getD j r0).n) ∧ w.cell? ⟨b, j * 7 + 4, none⟩ = some (.int .i64 (l.getD j r0).writer) ∧ w.cell? ⟨b, j * 7 + 5, none⟩ = some (.int .i64 (l.getD j r0).reader) ∧ w.cell? ⟨b, j * 7 + 6, none⟩ = some (.int .i64 (l.getD j r0).top)
theorem RegRow.up {w w' : World} {A : Option Addr} {l : List Rg} (h : RegRow w A l) (u : Up w w') : RegRow w' A l := fun j hj => by
  obtain ⟨b, e, x0, x1, x2, x3, x4, x5, x6⟩ := h j hj
  exact ⟨b, e, (u.cell (cell_lt x0)).trans x0, (u.cell (cell_lt x1)).trans x1, (u.cell (cell_lt x2)).trans x2, (u.cell (cell_lt x3)).trans x3, (u.cell (cell_lt x4)).trans x4, (u.cell (cell_lt x5)).trans x5, (u.cell (cell_lt x6)).trans x6⟩
theorem OwnReg.row {w : World} {B : Nat} {v : Value} {l : List Rg} (ho : OwnReg w B v l) : ∃ A cc, v = .slice A l.length cc ∧ RegRow w A l := by
  rcases ho.2 with ⟨a1, a2⟩ | ⟨g, cap, cur, a1, _⟩
  · exact ⟨none, 0, by rw [a1, a2], fun j hj => by omega⟩
  · refine ⟨_, cap, a1, fun j hj => ⟨g, rfl, ?_⟩⟩
    have ho' := ho
    rw [a1] at ho'
    have c : ∀ q, q < 7 → w.cell? ⟨g, j * 7 + q, none⟩ = (rcells (l.getD j r0)).toList[q]? := fun q hq => (ho'.cellAt (j * 7 + q) (by omega)).trans (rrow_at l j hj q hq)
    exact ⟨c 0 (by decide), c 1 (by decide), c 2 (by decide), c 3 (by decide), c 4 (by decide), c 5 (by decide), c 6 (by decide)⟩
/-- What the first j have together. -/
def sumF (f : Rg → Nat) (l : List Rg) (j : Nat) : Nat := ((l.take j).map f).sum
theorem sumF_succ (f : Rg → Nat) (l : List Rg) (j : Nat) (h : j < l.length) : sumF f l (j + 1) = sumF f l j + f (l.getD j r0) := by
  unfold sumF
  rw [List.take_succ_eq_append_getElem h, List.map_append, List.sum_append, List.getD_eq_getElem?_getD, List.getElem?_eq_getElem h]
  simp
theorem getD_mem {l : List Rg} {j : Nat} (h : j < l.length) : l.getD j r0 ∈ l := by
  rw [List.getD_eq_getElem?_getD, List.getElem?_eq_getElem h]
  exact List.getElem_mem _
theorem sumF_le (f : Rg → Nat) (l : List Rg) (m : Nat) (h : ∀ r ∈ l, f r ≤ m) : ∀ j, j ≤ l.length → sumF f l j ≤ m * j
  | 0, _ => by simp [sumF]
  | j + 1, hj => by
    have ih := sumF_le f l m h j (by omega)
    rw [sumF_succ f l j (by omega), Nat.mul_succ]
    have := h _ (getD_mem (show j < l.length by omega))
    omega
theorem sum_wrap (a b : Nat) (h : a + b ≤ 1000000) : wrap64 ((a : Int) + (b : Int)) = ((a + b : Nat) : Int) := by rw [IntWalk.wrap64_in _ (by omega)]; omega

set_option maxRecDepth 10000 in
set_option maxHeartbeats 1000000 in
theorem size_any (A : Option Addr) (cc : Nat) (l : List Rg) (w : World) (h : RegRow w A l) (hl : ∀ r ∈ l, Laid r) (hn : l.length ≤ 40) : Calls Try.prog 13 #[.slice A l.length cc] w fun e w' => e = .returned (.tuple #[.int .i64 (sumF cellsN l l.length), .int .i64 (sumF localsN l l.length)]) ∧ Up w w' := by
  have HR := Lib.hid h
  have HCE := Lib.hid (fun r hr W => rcells_any r W (hl r hr))
  have HLO := Lib.hid (fun r hr W => rlocals_any r W (hl r hr))
  have HC := Lib.hid (sumF_le cellsN l 6272 (fun r hr => cellsN_le r (hl r hr)))
  have HL := Lib.hid (sumF_le localsN l 7072 (fun r hr => localsN_le r (hl r hr)))
  clear h hl
  unfold rcells at HCE HLO
  go_enter Try.func13, Try.ntmps13
  go_wp2_with fail
  go_loopw [4, 5, 10] (fun u v x wr => ∃ j : Nat, j ≤ l.length ∧ u = .int .i64 (sumF cellsN l j) ∧ v = .int .i64 (sumF localsN l j) ∧ x = .int .i64 j ∧ Hid (Up w wr)) (fun _ _ v _ => l.length - (intOf v).toNat)
  case atStart => exact ⟨0, by omega, rfl, rfl, rfl, Lib.hid (Up.refl _)⟩
  case round =>
    obtain ⟨j, hj, rfl, rfl, rfl, HW⟩ := hrel
    by_cases hlt : j < l.length
    · have hji : (j : Int) < l.length := by omega
      have hj0 : (0 : Int) ≤ j := by omega
      obtain ⟨b, rfl, x0, x1, x2, x3, x4, x5, x6⟩ := HR.out.up HW.out j hlt
      have HS1 := Lib.hid (sumF_succ cellsN l j hlt)
      have HS2 := Lib.hid (sumF_succ localsN l j hlt)
      have hw1 := sum_wrap (sumF cellsN l j) (cellsN (l.getD j r0)) (by have := HC.out (j + 1) hlt; rw [HS1.out] at this; omega)
      have hw2 := sum_wrap (sumF localsN l j) (localsN (l.getD j r0)) (by have := HL.out (j + 1) hlt; rw [HS2.out] at this; omega)
      have HCJ := Lib.hid (HCE.out (l.getD j r0) (getD_mem hlt))
      have HLJ := Lib.hid (HLO.out (l.getD j r0) (getD_mem hlt))
      have HWB := Lib.hid (HW.out.trans ((Up.refl wr).alloc (.cells (rcells (l.getD j r0)) 29)))
      have HB : Hid (RegBox (wr.alloc (.cells (rcells (l.getD j r0)) 29)) wr.heap.size (l.getD j r0)) := Lib.hid (heap_alloc_new wr _)
      rw [← HS1.out] at hw1
      rw [← HS2.out] at hw2
      clear HS1 HS2
      unfold RegBox at HB
      unfold rcells at HB HWB
      generalize l.getD j r0 = r at *
      generalize cellsN r = c1 at *
      generalize localsN r = c2 at *
      obtain ⟨rk, rb, rl, rn, rw', rr, rt⟩ := r
      dsimp only at *
      generalize ((sumF cellsN l j : Nat) : Int) = s1 at *
      generalize ((sumF localsN l j : Nat) : Int) = s2 at *
      go_wp2_with fail
      refine (HCJ.out _).mono ?_
      rintro e w2 ⟨rfl, hu2⟩
      have HU2 := Lib.hid (HWB.out.trans hu2)
      have HB2 := Lib.hid (show RegBox w2 wr.heap.size ⟨rk, rb, rl, rn, rw', rr, rt⟩ from RegBox.up HB.out hu2)
      clear hu2
      obtain ⟨y0, y1, y2, y3, y4, y5, y6⟩ := HB2.out.cells
      dsimp only at y0 y1 y2 y3 y4 y5 y6
      go_wp2_with fail
      refine (HLJ.out _).mono ?_
      rintro e w3 ⟨rfl, hu3⟩
      have HU3 := Lib.hid (HU2.out.trans hu3)
      clear hu3
      go_wp2_with fail
      go_roundw
      case rel => exact ⟨j + 1, by omega, by first | rfl | rw [hw1], by first | rfl | rw [hw2], by go_num, HU3⟩
      case measure => simp [intOf]; omega
    · obtain rfl : j = l.length := by omega
      clear hlt
      go_wp2_with fail
      go_ret2
      exact ⟨rfl, HW.out⟩

end Go.Proofs.Ytlclijnoablejaa
