/-
  A drawn region whose operations read and whose callees may make memory, but turn nothing that was there: ONE walk, in the text's order (the library's wp_region_quiet, at the class of all worlds above a fixed one).
-/
import Derived.Test.YtedkgamecdmjdaaRow
import Derived.BigQuiet
set_option linter.unusedVariables false
namespace Go.Proofs.Ytedkgamecdmjdaa
open Go.RowKit

/-- A world above a fixed one. -/
structure UpW (w0 : World) where
  w : World
  up : Up w0 w
instance (w0 : World) : Nonempty (UpW w0) := ⟨⟨w0, Up.refl w0⟩⟩
theorem upCell {w0 : World} {b o : Nat} {v : Value} (h : w0.cell? ⟨b, o, none⟩ = some v) : ∀ x : UpW w0, x.w.cell? ⟨b, o, none⟩ = some v := fun x => (x.up.cell (cell_lt h)).trans h
theorem wp_region_up {P : Program} {id : Nat} {Q : Exit → Act → World → Prop} {a : Act} {w w0 : World} {l : List Oper} (hm : P.follows .mixedOrders = true) (hB : Region.lexB .any l.toArray = true) (hu : Up w0 w)
    (h : wpQuiet P l.toArray (fun w' => ∃ x : UpW w0, w' = x.w) (fun a' => ∀ w', (∃ x : UpW w0, w' = x.w) → Q .normal a' w') l a) : (Code.region id l.toArray true).wp P Q a w :=
  wp_region_quiet (C := fun w' => ∃ x : UpW w0, w' = x.w) hm hB ⟨⟨_, hu.drew⟩, rfl⟩ (by simpa using h)
/-- A callee's contract, at the class. -/
theorem callUp {P : Program} {f : FuncId} {args : Array Value} {w0 : World} {v : Value} (h : ∀ W, Up w0 W → Calls P f args W fun e w' => e = .returned v ∧ Up w0 w') (x : UpW w0) :
    Calls P f args x.w fun e w'' => e = .returned v ∧ ∃ y : UpW w0, w'' = y.w := (h x.w x.up).mono fun _ w' ⟨he, hu⟩ => ⟨he, ⟨w', hu⟩, rfl⟩
theorem callAbove {P : Program} {f : FuncId} {args : Array Value} {w0 : World} {v : Value} (h : ∀ W, Calls P f args W fun e w' => e = .returned v ∧ Up W w') (x : UpW w0) :
    Calls P f args x.w fun e w'' => e = .returned v ∧ ∃ y : UpW w0, w'' = y.w := (h x.w).mono fun _ w' ⟨he, hu⟩ => ⟨he, ⟨w', x.up.trans hu⟩, rfl⟩

end Go.Proofs.Ytedkgamecdmjdaa
