/-
  No cell of these rows narrows 'for every input' (looked for: loops, veiled, ifaces, maps, wideKeys, modest, calm, conditions, laid).
  DERIVED. THE GIVEN ROWS OF THIS SEAT. 5 by the template 'for every input the law returns true; each argument reads behind the call as it read before'; 0 by the template 'total and deterministic' (their statements: YtpapcheliohacaaTotals.lean).
  GIVEN WITH THE SEED: the statements are not yours to turn. If you find one false, say at which input.
  Laid BY PROGRAM, IN A SANDBOX (cutbox-rows.mjs): the forced cells as the released guide's own fill.sh prints them over the translation d77c7a4d67e1ec15… (all of the seat's roots in one cut). By AI agents, Wed Nov 11 2026. No macro, syntax, notation, axiom, sorry.
-/
import Derived.Test.YtpapcheliohacaaChecked
import GoSem.Claim
import GoSem.ClaimJoined
import GoSem.ClaimMapViews
import Derived.JoinedTies
import Derived.KernelRfl
namespace Go.Proofs.Ytpapcheliohacaa
/- THE CELL 'sum', in the pinned program and in every row, IS THE sha256 OF THE DUMP (.gsa) THAT YtpapcheliohacaaProg.lean LOADS. Nothing in Lean hashes anything: it is a label: what it is worth is what the hold of that sum in a sandbox is worth. -/
noncomputable def Try.pinned : Pinned := { name := "ytpapcheliohacaa", sum := "d77c7a4d67e1ec158e82a1c1f712f271b04a0648e7aca410f214baec778c9c80", checked := Try.checked }
namespace Rows
def none {H : Type} : Left H := { results := [], args := [] }

/-- 'kevellaw08.CellPlays': WHATEVER THE INPUT: true; the input reads as it did. -/
def cellPlaysSpec : ChangeSpec := { name := "cellPlays", fn := fun _ => fun
  | [d1, d2, d3] => { results := [.lit (.bool true)], args := [d1, d2, d3] }
  | _ => none }
def cellPlaysRow : OpenClaim := { program := "ytpapcheliohacaa", sum := "d77c7a4d67e1ec158e82a1c1f712f271b04a0648e7aca410f214baec778c9c80", func := "kevel/kevellaw08.CellPlays", spec := "cellPlays", apart := false }
def CellPlaysSaid : Prop := cellPlaysRow.holds Try.pinned (OpenSpec.ofChange cellPlaysSpec)

/-- ITS FALSE NEIGHBOUR: 'it returns false'. Refute it at one input. -/
def cellPlaysWrong : ChangeSpec := { name := "cellPlays", fn := fun _ => fun
  | [d1, d2, d3] => { results := [.lit (.bool false)], args := [d1, d2, d3] }
  | _ => none }
def CellPlaysWrongFalsely : Prop := cellPlaysRow.holds Try.pinned (OpenSpec.ofChange cellPlaysWrong)

/-- 'kevellaw08.CellQuiet': WHATEVER THE INPUT: true; the input reads as it did. -/
def cellQuietSpec : ChangeSpec := { name := "cellQuiet", fn := fun _ => fun
  | [d1, d2, d3] => { results := [.lit (.bool true)], args := [d1, d2, d3] }
  | _ => none }
def cellQuietRow : OpenClaim := { program := "ytpapcheliohacaa", sum := "d77c7a4d67e1ec158e82a1c1f712f271b04a0648e7aca410f214baec778c9c80", func := "kevel/kevellaw08.CellQuiet", spec := "cellQuiet", apart := false }
def CellQuietSaid : Prop := cellQuietRow.holds Try.pinned (OpenSpec.ofChange cellQuietSpec)

/-- ITS FALSE NEIGHBOUR: 'it returns false'. Refute it at one input. -/
def cellQuietWrong : ChangeSpec := { name := "cellQuiet", fn := fun _ => fun
  | [d1, d2, d3] => { results := [.lit (.bool false)], args := [d1, d2, d3] }
  | _ => none }
def CellQuietWrongFalsely : Prop := cellQuietRow.holds Try.pinned (OpenSpec.ofChange cellQuietWrong)

/-- 'kevellaw08.CellMay': WHATEVER THE INPUT: true; the input reads as it did. -/
def cellMaySpec : ChangeSpec := { name := "cellMay", fn := fun _ => fun
  | [d1, d2, d3] => { results := [.lit (.bool true)], args := [d1, d2, d3] }
  | _ => none }
def cellMayRow : OpenClaim := { program := "ytpapcheliohacaa", sum := "d77c7a4d67e1ec158e82a1c1f712f271b04a0648e7aca410f214baec778c9c80", func := "kevel/kevellaw08.CellMay", spec := "cellMay", apart := false }
def CellMaySaid : Prop := cellMayRow.holds Try.pinned (OpenSpec.ofChange cellMaySpec)

/-- ITS FALSE NEIGHBOUR: 'it returns false'. Refute it at one input. -/
def cellMayWrong : ChangeSpec := { name := "cellMay", fn := fun _ => fun
  | [d1, d2, d3] => { results := [.lit (.bool false)], args := [d1, d2, d3] }
  | _ => none }
def CellMayWrongFalsely : Prop := cellMayRow.holds Try.pinned (OpenSpec.ofChange cellMayWrong)

/-- 'kevellaw09.BankPlays': WHATEVER THE INPUT: true; the input reads as it did. -/
def bankPlaysSpec : ChangeSpec := { name := "bankPlays", fn := fun _ => fun
  | [d1, d2] => { results := [.lit (.bool true)], args := [d1, d2] }
  | _ => none }
def bankPlaysRow : OpenClaim := { program := "ytpapcheliohacaa", sum := "d77c7a4d67e1ec158e82a1c1f712f271b04a0648e7aca410f214baec778c9c80", func := "kevel/kevellaw09.BankPlays", spec := "bankPlays", unfollowed := true, recurses := true, apart := false }
def BankPlaysSaid : Prop := bankPlaysRow.holds Try.pinned (OpenSpec.ofChange bankPlaysSpec)

/-- ITS FALSE NEIGHBOUR: 'it returns false'. Refute it at one input. -/
def bankPlaysWrong : ChangeSpec := { name := "bankPlays", fn := fun _ => fun
  | [d1, d2] => { results := [.lit (.bool false)], args := [d1, d2] }
  | _ => none }
def BankPlaysWrongFalsely : Prop := bankPlaysRow.holds Try.pinned (OpenSpec.ofChange bankPlaysWrong)

/-- 'kevellaw09.BankApart': WHATEVER THE INPUT: true; the input reads as it did. -/
def bankApartSpec : ChangeSpec := { name := "bankApart", fn := fun _ => fun
  | [d1, d2] => { results := [.lit (.bool true)], args := [d1, d2] }
  | _ => none }
def bankApartRow : OpenClaim := { program := "ytpapcheliohacaa", sum := "d77c7a4d67e1ec158e82a1c1f712f271b04a0648e7aca410f214baec778c9c80", func := "kevel/kevellaw09.BankApart", spec := "bankApart", unfollowed := true, recurses := true, apart := false }
def BankApartSaid : Prop := bankApartRow.holds Try.pinned (OpenSpec.ofChange bankApartSpec)

/-- ITS FALSE NEIGHBOUR: 'it returns false'. Refute it at one input. -/
def bankApartWrong : ChangeSpec := { name := "bankApart", fn := fun _ => fun
  | [d1, d2] => { results := [.lit (.bool false)], args := [d1, d2] }
  | _ => none }
def BankApartWrongFalsely : Prop := bankApartRow.holds Try.pinned (OpenSpec.ofChange bankApartWrong)

/- THE SECOND FORM. 'bulk': how many values and letters a reading holds, each counted each time it is reached (what is shared counts as often as it is met; a slice's spare places count too). A statement '..UptoSaid' is the law's where the arguments, and the package variables that the reading takes, are together of bulk at most 1048576: NARROWER than '..Said'. Prove '..Said' where nothing that the law and all that it calls make is longer than what came in: it says more and counts as full. Else prove '..UptoSaid'. A law counts once. -/
mutual
def uptoBulk {H : Type} : DataW H → Nat
  | .lit (.string bytes) => bytes.length + 1
  | .lit _ => 1
  | .nil => 1
  | .ptr d => uptoBulk d + 1
  | .slice elems spare => uptoBulkAll elems + uptoBulkAll spare + 1
  | .agg parts => uptoBulkAll parts + 1
  | .iface _ d => uptoBulk d + 1
  | .map entries => uptoBulkEntries entries + 1
  | .held _ => 1
def uptoBulkAll {H : Type} : List (DataW H) → Nat
  | [] => 0
  | d :: r => uptoBulk d + uptoBulkAll r
def uptoBulkEntries {H : Type} : List (Lit × DataW H) → Nat
  | [] => 0
  | x :: r => uptoBulkEntry x + uptoBulkEntries r
def uptoBulkEntry {H : Type} : Lit × DataW H → Nat
  | (.string bytes, d) => bytes.length + uptoBulk d + 1
  | (_, d) => uptoBulk d + 1
 end
def uptoSmall : (H : Type) → List (DataW H) → Bool := fun _ ds => decide (uptoBulkAll ds ≤ 1048576)
def OpenSpec.upto (s : _root_.Go.ChangeSpec) : _root_.Go.OpenSpec := { _root_.Go.OpenSpec.ofChange s with cond := some uptoSmall }

/-- 'kevellaw08.CellPlays', WHERE WHAT IT READS IS OF BULK AT MOST 1048576: true; the input reads as it did. -/
def cellPlaysUptoRow : OpenClaim := { program := "ytpapcheliohacaa", sum := "d77c7a4d67e1ec158e82a1c1f712f271b04a0648e7aca410f214baec778c9c80", func := "kevel/kevellaw08.CellPlays", spec := "cellPlays", apart := false, narrowed := true }
def CellPlaysUptoSaid : Prop := cellPlaysUptoRow.holds Try.pinned (OpenSpec.upto cellPlaysSpec)

/-- 'kevellaw08.CellQuiet', WHERE WHAT IT READS IS OF BULK AT MOST 1048576: true; the input reads as it did. -/
def cellQuietUptoRow : OpenClaim := { program := "ytpapcheliohacaa", sum := "d77c7a4d67e1ec158e82a1c1f712f271b04a0648e7aca410f214baec778c9c80", func := "kevel/kevellaw08.CellQuiet", spec := "cellQuiet", apart := false, narrowed := true }
def CellQuietUptoSaid : Prop := cellQuietUptoRow.holds Try.pinned (OpenSpec.upto cellQuietSpec)

/-- 'kevellaw08.CellMay', WHERE WHAT IT READS IS OF BULK AT MOST 1048576: true; the input reads as it did. -/
def cellMayUptoRow : OpenClaim := { program := "ytpapcheliohacaa", sum := "d77c7a4d67e1ec158e82a1c1f712f271b04a0648e7aca410f214baec778c9c80", func := "kevel/kevellaw08.CellMay", spec := "cellMay", apart := false, narrowed := true }
def CellMayUptoSaid : Prop := cellMayUptoRow.holds Try.pinned (OpenSpec.upto cellMaySpec)

/-- 'kevellaw09.BankPlays', WHERE WHAT IT READS IS OF BULK AT MOST 1048576: true; the input reads as it did. -/
def bankPlaysUptoRow : OpenClaim := { program := "ytpapcheliohacaa", sum := "d77c7a4d67e1ec158e82a1c1f712f271b04a0648e7aca410f214baec778c9c80", func := "kevel/kevellaw09.BankPlays", spec := "bankPlays", unfollowed := true, recurses := true, apart := false, narrowed := true }
def BankPlaysUptoSaid : Prop := bankPlaysUptoRow.holds Try.pinned (OpenSpec.upto bankPlaysSpec)

/-- 'kevellaw09.BankApart', WHERE WHAT IT READS IS OF BULK AT MOST 1048576: true; the input reads as it did. -/
def bankApartUptoRow : OpenClaim := { program := "ytpapcheliohacaa", sum := "d77c7a4d67e1ec158e82a1c1f712f271b04a0648e7aca410f214baec778c9c80", func := "kevel/kevellaw09.BankApart", spec := "bankApart", unfollowed := true, recurses := true, apart := false, narrowed := true }
def BankApartUptoSaid : Prop := bankApartUptoRow.holds Try.pinned (OpenSpec.upto bankApartSpec)

end Rows
end Go.Proofs.Ytpapcheliohacaa
