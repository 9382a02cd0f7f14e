/-
  Slices that are read: an element by its place, nil let in; and that this stays while nothing that was there is written.
-/
import Derived.WalkKit
import Derived.Lib.Hide
namespace Go.Proofs.Ytaplhooapgfdgaa
open Go.RowKit

theorem cell_lt {w : World} {b o : Nat} {v : Value} (h : w.cell? ⟨b, o, none⟩ = some v) : b < w.heap.size := by
  unfold World.cell? at h
  cases hh : w.heap[b]? with
  | none => simp [hh] at h
  | some x => exact (Array.getElem?_eq_some_iff.1 hh).1

/-- The slice at A has, at its first n places, what f says; each is one cell. -/
def Row (w : World) (A : Option Addr) (n : Nat) (f : Nat → Value) : Prop :=
  ∀ k, k < n → ∃ b off, A = some ⟨b, off, none⟩ ∧ w.cell? ⟨b, off + k, none⟩ = some (f k)

theorem Row.below {w w' : World} {A : Option Addr} {n : Nat} {f : Nat → Value} (h : Row w A n f) (hb : Below w.heap.size w w') : Row w' A n f := fun k hk => by
  obtain ⟨b, off, e, hc⟩ := h k hk
  exact ⟨b, off, e, (hb.cell (p := ⟨b, off + k, none⟩) (cell_lt hc)).trans hc⟩
theorem Row.belowOf {w w' : World} {B : Nat} {A : Option Addr} {n : Nat} {f : Nat → Value} (h : Row w A n f) (hB : w.heap.size ≤ B) (hb : Below B w w') : Row w' A n f := fun k hk => by
  obtain ⟨b, off, e, hc⟩ := h k hk
  exact ⟨b, off, e, (hb.cell (p := ⟨b, off + k, none⟩) (Nat.lt_of_lt_of_le (cell_lt hc) hB)).trans hc⟩
theorem Row.nil (w : World) (A : Option Addr) (f : Nat → Value) : Row w A 0 f := fun k hk => absurd hk (by omega)

end Go.Proofs.Ytaplhooapgfdgaa
