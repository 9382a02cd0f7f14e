/-
  A cell of memory, as plain data: what beginning and ending an access make of it.
-/
import Derived.Test.YtedkgamecdmjdaaInts
set_option linter.unusedVariables false
set_option linter.unusedSimpArgs false
namespace Go.Proofs.Ytedkgamecdmjdaa
open Go.RowKit

/-- An access under way, or none. -/
structure Acc8 where
  on : Bool
  wr : Bool
  val : Int
  ov : Bool
  may : List Int
def acc0 : Acc8 := ⟨false, false, 0, false, []⟩
structure CS where
  kind : Int
  top : Int
  value : Int
  bys : Nat → Acc8
def CS.new (kind top : Int) : CS := ⟨kind, clampI top 0 1099511627776, 0, fun _ => acc0⟩
def CS.put (c : CS) (t : Nat) (a : Acc8) : CS := { c with bys := fun i => if i = t then a else c.bys i }
def ovl (kind : Int) (v : Int) (r : Acc8) : Acc8 := { r with ov := true, may := if kind = 2 then r.may ++ [v] else r.may }
/-- A read that begins: what is there, and what is being written by the first n threads. -/
def readN (c : CS) : Nat → Acc8
  | 0 => ⟨true, false, 0, false, if c.kind = 2 then [c.value] else []⟩
  | n + 1 => if (c.bys n).on = true ∧ (c.bys n).wr = true then ovl c.kind (c.bys n).val (readN c n) else readN c n
/-- A write that begins is told to the reads of the first n threads. -/
def wrN (c : CS) (v : Int) : Nat → CS
  | 0 => c
  | n + 1 => if ((wrN c v n).bys n).on = true ∧ ((wrN c v n).bys n).wr = false then (wrN c v n).put n (ovl c.kind v ((wrN c v n).bys n)) else wrN c v n
def clampT (v top : Int) : Int := clampI v 0 (clampI top 0 1099511627776)
def CS.begin (c : CS) (t k v : Int) : Int × CS :=
  if t < 0 ∨ 8 ≤ t ∨ (k ≠ 1 ∧ k ≠ 2) then (1, c)
  else if (c.bys t.toNat).on = true then (12, c)
  else if k = 1 then (0, c.put t.toNat (readN c 8))
  else (0, (wrN c (clampT v c.top) 8).put t.toNat ⟨true, true, clampT v c.top, false, []⟩)
def tellC (c : CS) (a : Acc8) (d : Int) : Int :=
  if c.kind = 1 ∧ a.ov = true then wrapI d c.top else if c.kind = 2 then a.may.getD (wrapI d ((a.may.length : Int) - 1)).toNat 0 else c.value
def CS.endA (c : CS) (t d : Int) : Int × Int × CS :=
  if t < 0 ∨ 8 ≤ t then (0, 7, c)
  else if (c.bys t.toNat).on = false then (0, 7, c)
  else if (c.bys t.toNat).wr = true then (0, 0, { c.put t.toNat acc0 with value := (c.bys t.toNat).val })
  else (tellC c (c.bys t.toNat) d, 0, c.put t.toNat acc0)
def busyN (c : CS) : Nat → Nat
  | 0 => 0
  | n + 1 => busyN c n + if (c.bys n).on = true then 1 else 0

end Go.Proofs.Ytedkgamecdmjdaa
