/-
  A cell in memory.
-/
import Derived.Test.YtedkgamecdmjdaaOver
set_option linter.unusedVariables false
set_option linter.unusedSimpArgs false
namespace Go.Proofs.Ytedkgamecdmjdaa
open Go.RowKit

/-- An access at a place. -/
def AccAt (w : World) (b o : Nat) (a : Acc8) (m : Value) : Prop := w.cell? ⟨b, o, none⟩ = some (.bool a.on) ∧ w.cell? ⟨b, o + 1, none⟩ = some (.bool a.wr) ∧ w.cell? ⟨b, o + 2, none⟩ = some (.int .i64 a.val) ∧
  w.cell? ⟨b, o + 3, none⟩ = some (.bool a.ov) ∧ w.cell? ⟨b, o + 4, none⟩ = some m
structure CellIs (w : World) (h B : Nat) (c : CS) (ms : Nat → Value) : Prop where
  sz : B ≤ w.heap.size
  k0 : w.cell? ⟨h, 0, none⟩ = some (.int .i64 c.kind)
  k1 : w.cell? ⟨h, 1, none⟩ = some (.int .i64 c.top)
  k2 : w.cell? ⟨h, 2, none⟩ = some (.int .i64 c.value)
  acc : ∀ i, i < 8 → AccAt w h (3 + i * 5) (c.bys i) (ms i)
  fz : ∀ j, w.frozen? ⟨h, j, none⟩ = false
  own : ∀ i, i < 8 → MayIs w B (ms i) (c.bys i).may
  apart : ∀ i, i < 8 → (ms i).ownBlock ≠ some h
  two : ∀ i j, i < 8 → j < 8 → i ≠ j → ∀ k, (ms i).ownBlock = some k → (ms j).ownBlock ≠ some k
theorem CellIs.lt {w : World} {h B : Nat} {c : CS} {ms : Nat → Value} (H : CellIs w h B c ms) : h < w.heap.size := cell_lt H.k0

theorem value_any (h B : Nat) (c : CS) (ms : Nat → Value) (w : World) (H : CellIs w h B c ms) : Calls Try.prog 36 #[.pointer (some ⟨h, 0, none⟩)] w fun e w' => e = .returned (.int .i64 c.value) ∧ w' = w := by
  have k2 := H.k2
  clear H
  go_enter Try.func36, Try.ntmps36
  go_wp2_with fail
  go_ret
  exact ⟨rfl, rfl⟩
theorem busyN_le (c : CS) : ∀ n, busyN c n ≤ n
  | 0 => Nat.le_refl _
  | n + 1 => by
    have := busyN_le c n
    unfold busyN
    split <;> omega

end Go.Proofs.Ytedkgamecdmjdaa
