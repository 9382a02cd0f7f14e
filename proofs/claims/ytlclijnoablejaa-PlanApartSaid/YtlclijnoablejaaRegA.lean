/-
  Registers of the kinds 1, 6, 7: how many cells and locals.
-/
import Derived.Test.YtlclijnoablejaaStrB
set_option linter.unusedVariables false
set_option linter.unusedSimpArgs false
namespace Go.Proofs.Ytlclijnoablejaa
open Go.RowKit

structure Rg where
  kind : Int
  base : Int
  loc : Int
  n : Nat
  writer : Int
  reader : Int
  top : Int
def rcells (r : Rg) : Array Value := #[.int .i64 r.kind, .int .i64 r.base, .int .i64 r.loc, .int .i64 r.n, .int .i64 r.writer, .int .i64 r.reader, .int .i64 r.top]
/-- A register of a kind that a plan lays. -/
def Laid (r : Rg) : Prop := (1 ≤ r.n ∧ r.n ≤ 8) ∧ (r.kind = 1 ∨ r.kind = 6 ∨ r.kind = 7)
def sqN (n : Nat) : Nat := (n - 1) * (n - 1)
def cellsN (r : Rg) : Nat := if r.kind = 1 then 1 else if r.kind = 6 then 16 * sqN r.n else 16 * (sqN r.n * r.n)
def localsN (r : Rg) : Nat := if r.kind = 1 then 0 else if r.kind = 6 then 2 + 18 * sqN r.n else r.n * (2 + 18 * sqN r.n)
theorem sqN_le (n : Nat) (h : n ≤ 8) : sqN n ≤ 49 := Nat.mul_le_mul (show n - 1 ≤ 7 by omega) (show n - 1 ≤ 7 by omega)
theorem cellsN_le (r : Rg) (h : Laid r) : cellsN r ≤ 6272 := by
  have h1 := sqN_le r.n h.1.2
  have h2 : sqN r.n * r.n ≤ 49 * 8 := Nat.mul_le_mul h1 h.1.2
  unfold cellsN
  split
  · omega
  split <;> omega
theorem localsN_le (r : Rg) (h : Laid r) : localsN r ≤ 7072 := by
  have h1 := sqN_le r.n h.1.2
  have h2 : r.n * (2 + 18 * sqN r.n) ≤ 8 * 884 := Nat.mul_le_mul h.1.2 (by omega)
  unfold localsN
  split
  · omega
  split <;> omega
/-- A register in its box. -/
def RegBox (w : World) (b : Nat) (r : Rg) : Prop := w.heap[b]? = some (.cells (rcells r) 29 (0, 0))
theorem RegBox.cells {w : World} {b : Nat} {r : Rg} (h : RegBox w b r) : w.cell? ⟨b, 0, none⟩ = some (.int .i64 r.kind) ∧ w.cell? ⟨b, 1, none⟩ = some (.int .i64 r.base) ∧ w.cell? ⟨b, 2, none⟩ = some (.int .i64 r.loc) ∧ w.cell? ⟨b, 3, none⟩ = some (.int .i64 r.n) ∧ w.cell? ⟨b, 4, none⟩ = some (.int .i64 r.writer) ∧ w.cell? ⟨b, 5, none⟩ = some (.int .i64 r.reader) ∧ w.cell? ⟨b, 6, none⟩ = some (.int .i64 r.top) :=
  ⟨cell_of_row _ _ 0 _ _ _ h, cell_of_row _ _ 1 _ _ _ h, cell_of_row _ _ 2 _ _ _ h, cell_of_row _ _ 3 _ _ _ h, cell_of_row _ _ 4 _ _ _ h, cell_of_row _ _ 5 _ _ _ h, cell_of_row _ _ 6 _ _ _ h⟩
theorem RegBox.up {w w' : World} {b : Nat} {r : Rg} (h : RegBox w b r) (u : Up w w') : RegBox w' b r := (u.block b (Array.getElem?_eq_some_iff.1 h).1).trans h

theorem slocals_any (w : World) : Calls Try.prog 33 #[] w fun e w' => e = .returned (.int .i64 18) ∧ w' = w := by
  have HT := Lib.hid (show Calls Try.prog 32 #[] w fun e w' => e = .returned (.int .i64 4) ∧ w' = w from by
    go_enter Try.func32, Try.ntmps32
    go_wp2_with fail
    go_ret
    exact ⟨rfl, rfl⟩)
  go_enter Try.func33, Try.ntmps33
  go_wp2_with fail
  refine HT.out.mono ?_
  rintro e w1 ⟨rfl, rfl⟩
  go_wp2_with fail
  go_ret
  exact ⟨rfl, rfl⟩
theorem blocals_any (n : Nat) (w : World) (hn : 1 ≤ n ∧ n ≤ 8) : Calls Try.prog 34 #[.int .i64 n] w fun e w' => e = .returned (.int .i64 ((2 + 18 * sqN n : Nat) : Int)) ∧ w' = w := by
  have HTH := Lib.hid (threads_table n w hn)
  obtain ⟨k, hk⟩ : ∃ k : Nat, n - 1 = k := ⟨_, rfl⟩
  have hk1 : (n : Int) - 1 = k := by omega
  have hs : sqN n = k * k := by unfold sqN; rw [hk]
  have h49 := sqN_le n hn.2
  have h7 : 18 * k ≤ 18 * 7 := Nat.mul_le_mul (Nat.le_refl _) (by omega)
  have e1 : wrap64 ((n : Int) - 1) = (k : Int) := by rw [hk1]; exact IntWalk.wrap64_in _ (by omega)
  have e2 : wrap64 (18 * (k : Int)) = 18 * (k : Int) := IntWalk.wrap64_in _ (by omega)
  have e3 : 18 * (k : Int) * (k : Int) = ((18 * sqN n : Nat) : Int) := by rw [hs]; simp [Int.mul_assoc]
  have e4 : wrap64 (18 * (k : Int) * (k : Int)) = ((18 * sqN n : Nat) : Int) := by rw [e3]; exact IntWalk.wrap64_in _ (by omega)
  have HF := Lib.hid (show wrap64 (2 + ((18 * sqN n : Nat) : Int)) = ((2 + 18 * sqN n : Nat) : Int) from by rw [IntWalk.wrap64_in _ (by omega)]; omega)
  have hF := HF.out
  clear hk hs h49 h7 hn e3 hk1
  generalize ((18 * sqN n : Nat) : Int) = z at *
  generalize ((2 + 18 * sqN n : Nat) : Int) = y at *
  go_enter Try.func34, Try.ntmps34
  go_wp2_with fail
  refine HTH.out.mono ?_
  rintro e w1 ⟨rfl, rfl⟩
  go_wp2_with fail
  refine (slocals_any _).mono ?_
  rintro e w2 ⟨rfl, rfl⟩
  go_wp2_with fail
  go_ret
  exact ⟨congrArg (fun x => Ending.returned (Value.int .i64 x)) HF.out, rfl⟩
theorem mlocals_any (n : Nat) (w : World) (hn : 1 ≤ n ∧ n ≤ 8) : Calls Try.prog 35 #[.int .i64 n] w fun e w' => e = .returned (.int .i64 ((n * (2 + 18 * sqN n) : Nat) : Int)) ∧ w' = w := by
  have HTH := Lib.hid (threads_many n w hn)
  have HB := Lib.hid (blocals_any n w hn)
  have h1 : n * (2 + 18 * sqN n) ≤ 8 * 884 := Nat.mul_le_mul hn.2 (by have := sqN_le n hn.2; omega)
  have e1 : wrap64 ((n : Int) * ((2 + 18 * sqN n : Nat) : Int)) = ((n * (2 + 18 * sqN n) : Nat) : Int) := by
    rw [← Int.natCast_mul]
    exact IntWalk.wrap64_in _ (by omega)
  have HE1 := Lib.hid e1
  clear h1 hn
  generalize ((n * (2 + 18 * sqN n) : Nat) : Int) = z at *
  generalize ((2 + 18 * sqN n : Nat) : Int) = y at *
  go_enter Try.func35, Try.ntmps35
  go_wp2_with fail
  refine HTH.out.mono ?_
  rintro e w1 ⟨rfl, rfl⟩
  go_wp2_with fail
  refine HB.out.mono ?_
  rintro e w2 ⟨rfl, rfl⟩
  go_wp2_with fail
  go_ret
  exact ⟨congrArg (fun x => Ending.returned (Value.int .i64 x)) HE1.out, rfl⟩

set_option maxRecDepth 10000 in
set_option maxHeartbeats 1000000 in
theorem rlocals_any (r : Rg) (w : World) (h : Laid r) : Calls Try.prog 12 #[.agg (rcells r)] w fun e w' => e = .returned (.int .i64 (localsN r)) ∧ Up w w' := by
  have hb : RegBox (w.alloc (.cells (rcells r) 29)) w.heap.size r := heap_alloc_new w _
  have HU := Lib.hid (show Up w (w.alloc (.cells (rcells r) 29)) from (Up.refl _).alloc _)
  obtain ⟨c0, -, -, c3, -⟩ := hb.cells
  unfold rcells at c0 c3 HU ⊢
  have HB := Lib.hid (fun W => blocals_any r.n W h.1)
  have HM := Lib.hid (fun W => mlocals_any r.n W h.1)
  clear hb
  rcases h.2 with hk | hk | hk
  · have e0 : localsN r = 0 := by unfold localsN; rw [if_pos hk]
    rw [hk] at c0 HU c3 ⊢
    rw [e0]
    go_enter Try.func12, Try.ntmps12
    go_wp2_with fail
    go_ret
    exact ⟨rfl, HU.out⟩
  · have e0 : localsN r = 2 + 18 * sqN r.n := by unfold localsN; rw [if_neg (by omega), if_pos hk]
    rw [hk] at c0 HU c3 ⊢
    rw [e0]
    go_enter Try.func12, Try.ntmps12
    go_wp2_with fail
    refine (HB.out _).mono ?_
    rintro e w1 ⟨rfl, rfl⟩
    go_wp2_with fail
    go_ret
    exact ⟨rfl, HU.out⟩
  · have e0 : localsN r = r.n * (2 + 18 * sqN r.n) := by unfold localsN; rw [if_neg (by omega), if_neg (by omega)]
    rw [hk] at c0 HU c3 ⊢
    rw [e0]
    go_enter Try.func12, Try.ntmps12
    go_wp2_with fail
    refine (HM.out _).mono ?_
    rintro e w1 ⟨rfl, rfl⟩
    go_wp2_with fail
    go_ret
    exact ⟨rfl, HU.out⟩

end Go.Proofs.Ytlclijnoablejaa
