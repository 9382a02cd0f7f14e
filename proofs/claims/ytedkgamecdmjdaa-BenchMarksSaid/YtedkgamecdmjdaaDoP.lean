/-
  Acts on a tape, as plain functions: the program's side.
-/
import Derived.Test.YtedkgamecdmjdaaTapeF
set_option linter.unusedVariables false
set_option linter.unusedSimpArgs false
namespace Go.Proofs.Ytedkgamecdmjdaa
open Go.RowKit

/-- An act: kind, A, B. -/
abbrev Act3 := Int × Int × Int
def tWrite (c v : Int) (s : TS) : Option Unit × TS := (if s.acc.length < s.ans.length then some () else none, s.asked (2, c, v))

def actP (a : Act3) (sum : Int) (s : TS) : Option Int × TS :=
  if a.1 % 6 = 0 then (if s.acc.length < s.ans.length then (some (wrap64 (sum + s.told)), s.asked (1, a.2.1, 0)) else (none, s.asked (1, a.2.1, 0)))
  else if a.1 % 6 = 1 then (if s.acc.length < s.ans.length then some sum else none, s.asked (2, a.2.1, a.2.2))
  else if a.1 % 6 = 2 then (some sum, s.set a.2.1 a.2.2)
  else if a.1 % 6 = 3 then (some sum, s.noted a.2.1)
  else if a.1 % 6 = 4 then (if s.acc.length < s.ans.length then some sum else none, s.asked (2, a.2.2, s.get a.2.1))
  else (if s.acc.length < s.ans.length then (some (wrap64 (sum + ((s.asked (1, a.2.1, 0)).set a.2.2 s.told).get a.2.2)), (s.asked (1, a.2.1, 0)).set a.2.2 s.told) else (none, s.asked (1, a.2.1, 0)))

def doP : List Act3 → Int → TS → Option Int × TS
  | [], sum, s => (some sum, s)
  | a :: l, sum, s => match actP a sum s with
    | (some x, s') => doP l x s'
    | (none, s') => (none, s')

theorem doP_drop {l : List Act3} {k : Nat} (hk : k < l.length) (sum : Int) (s : TS) : doP (l.drop k) sum s = match actP (l.getD k (0, 0, 0)) sum s with
    | (some x, s') => doP (l.drop (k + 1)) x s'
    | (none, s') => (none, s') := by
  rw [List.drop_eq_getElem_cons hk]
  have e : l.getD k (0, 0, 0) = l[k] := by rw [List.getD_eq_getElem?_getD, List.getElem?_eq_getElem hk]; rfl
  rw [e]
  rfl

/-- A slice of acts. -/
def ActRow (w : World) (A : Option Addr) (l : List Act3) : Prop := ∀ k, k < l.length → ∃ b off, A = some ⟨b, off, none⟩ ∧
  w.cell? ⟨b, off + k * 3, none⟩ = some (.int .u8 (l.getD k (0, 0, 0)).1) ∧ w.cell? ⟨b, off + k * 3 + 1, none⟩ = some (.int .i64 (l.getD k (0, 0, 0)).2.1) ∧ w.cell? ⟨b, off + k * 3 + 2, none⟩ = some (.int .i64 (l.getD k (0, 0, 0)).2.2)
theorem ActRow.keep {w w' : World} {A : Option Addr} {l : List Act3} (h : ActRow w A l) (hk : ∀ b, b < w.heap.size → (∃ off, A = some ⟨b, off, none⟩) → w'.heap[b]? = w.heap[b]?) : ActRow w' A l := fun k hlt => by
  obtain ⟨b, off, e, h1, h2, h3⟩ := h k hlt
  have := hk b (cell_lt h1) ⟨off, e⟩
  exact ⟨b, off, e, (tcell this).trans h1, (tcell this).trans h2, (tcell this).trans h3⟩
theorem ActRow.up {w w' : World} {A : Option Addr} {l : List Act3} (h : ActRow w A l) (hU : Up w w') : ActRow w' A l := h.keep fun b hb _ => hU.block b hb

end Go.Proofs.Ytedkgamecdmjdaa
