/-
  NARROWER THAN 'FOR EVERY INPUT', by the rows' own cells (each row's printed sentence says how): StampsTells: laid · StampsLast: laid.
  DERIVED. THE GIVEN ROWS OF THIS SEAT. 2 by the template 'for every input the law returns true; each argument reads behind the call as it read before'; 0 by the template 'total and deterministic' (their statements: YtlclijnoablejaaDoorTotals.lean).
  GIVEN WITH THE SEED: the statements are not yours to turn. If you find one false, say at which input.
  Laid BY PROGRAM, IN A SANDBOX (cutbox-rows.mjs): the forced cells as the released guide's own fill.sh prints them over the translation 12ea9d96685887e3… (all of the seat's roots in one cut). By AI agents, Wed Nov 11 2026. No macro, syntax, notation, axiom, sorry.
-/
import Derived.Test.YtlclijnoablejaaDoorChecked
import GoSem.Claim
import GoSem.ClaimJoined
import GoSem.ClaimMapViews
import Derived.JoinedTies
import Derived.KernelRfl
namespace Go.Proofs.YtlclijnoablejaaDoor
/- THE CELL 'sum', in the pinned program and in every row, IS THE sha256 OF THE DUMP (.gsa) THAT YtlclijnoablejaaDoorProg.lean LOADS. Nothing in Lean hashes anything: it is a label: what it is worth is what the hold of that sum in a sandbox is worth. -/
noncomputable def Tryd.pinned : Pinned := { name := "ytlclijnoablejaadoor", sum := "12ea9d96685887e36bf3a29932dc79bb48c336a138659f7f847ec6e026a7b114", checked := Tryd.checked }
namespace Rows
def none {H : Type} : Left H := { results := [], args := [] }

/- WHAT THE LISTED PACKAGE-LEVEL VARIABLES READ AS WHEN THE CALL BEGINS. Each datum BY PROGRAM (the guide's laid-datum.mjs) off the statement by which the dump's own 'gosem.cut.vars' lays the variable. In a bare row this is a premise. The card (YtlclijnoablejaaDoorCards.lean) ties it to the program's text. -/
def laid_kevel_cycle_ring {H : Type} : DataW H := .agg [.lit (.int .i64 1), .lit (.int .i64 2), .lit (.int .i64 0)]

/-- 'kevellaw07.StampsTells': WHATEVER THE INPUT: true; the input reads as it did. -/
def stampsTellsSpec : ChangeSpec := { name := "stampsTells", fn := fun _ => fun
  | [d1, d2, d3, d4] => { results := [.lit (.bool true)], args := [d1, d2, d3, d4] }
  | _ => none }
def stampsTellsRow : OpenClaim := { program := "ytlclijnoablejaadoor", sum := "12ea9d96685887e36bf3a29932dc79bb48c336a138659f7f847ec6e026a7b114", func := "kevel/kevellaw07.StampsTells", spec := "stampsTells", unfollowed := true, recurses := true, named := ["kevel/cycle.ring"], apart := false, laid := [("kevel/cycle.ring", laid_kevel_cycle_ring)] }
def StampsTellsSaid : Prop := stampsTellsRow.holds Tryd.pinned (OpenSpec.ofChange stampsTellsSpec)

/-- ITS FALSE NEIGHBOUR: 'it returns false'. Refute it at one input. -/
def stampsTellsWrong : ChangeSpec := { name := "stampsTells", fn := fun _ => fun
  | [d1, d2, d3, d4] => { results := [.lit (.bool false)], args := [d1, d2, d3, d4] }
  | _ => none }
def StampsTellsWrongFalsely : Prop := stampsTellsRow.holds Tryd.pinned (OpenSpec.ofChange stampsTellsWrong)

/-- 'kevellaw07.StampsLast': WHATEVER THE INPUT: true; the input reads as it did. -/
def stampsLastSpec : ChangeSpec := { name := "stampsLast", fn := fun _ => fun
  | [d1, d2] => { results := [.lit (.bool true)], args := [d1, d2] }
  | _ => none }
def stampsLastRow : OpenClaim := { program := "ytlclijnoablejaadoor", sum := "12ea9d96685887e36bf3a29932dc79bb48c336a138659f7f847ec6e026a7b114", func := "kevel/kevellaw07.StampsLast", spec := "stampsLast", unfollowed := true, recurses := true, named := ["kevel/cycle.ring"], apart := false, laid := [("kevel/cycle.ring", laid_kevel_cycle_ring)] }
def StampsLastSaid : Prop := stampsLastRow.holds Tryd.pinned (OpenSpec.ofChange stampsLastSpec)

/-- ITS FALSE NEIGHBOUR: 'it returns false'. Refute it at one input. -/
def stampsLastWrong : ChangeSpec := { name := "stampsLast", fn := fun _ => fun
  | [d1, d2] => { results := [.lit (.bool false)], args := [d1, d2] }
  | _ => none }
def StampsLastWrongFalsely : Prop := stampsLastRow.holds Tryd.pinned (OpenSpec.ofChange stampsLastWrong)

/- THE SECOND FORM. 'bulk': how many values and letters a reading holds, each counted each time it is reached (what is shared counts as often as it is met; a slice's spare places count too). A statement '..UptoSaid' is the law's where the arguments, and the package variables that the reading takes, are together of bulk at most 1048576: NARROWER than '..Said'. Prove '..Said' where nothing that the law and all that it calls make is longer than what came in: it says more and counts as full. Else prove '..UptoSaid'. A law counts once. -/
mutual
def uptoBulk {H : Type} : DataW H → Nat
  | .lit (.string bytes) => bytes.length + 1
  | .lit _ => 1
  | .nil => 1
  | .ptr d => uptoBulk d + 1
  | .slice elems spare => uptoBulkAll elems + uptoBulkAll spare + 1
  | .agg parts => uptoBulkAll parts + 1
  | .iface _ d => uptoBulk d + 1
  | .map entries => uptoBulkEntries entries + 1
  | .held _ => 1
def uptoBulkAll {H : Type} : List (DataW H) → Nat
  | [] => 0
  | d :: r => uptoBulk d + uptoBulkAll r
def uptoBulkEntries {H : Type} : List (Lit × DataW H) → Nat
  | [] => 0
  | x :: r => uptoBulkEntry x + uptoBulkEntries r
def uptoBulkEntry {H : Type} : Lit × DataW H → Nat
  | (.string bytes, d) => bytes.length + uptoBulk d + 1
  | (_, d) => uptoBulk d + 1
 end
def uptoSmall : (H : Type) → List (DataW H) → Bool := fun _ ds => decide (uptoBulkAll ds ≤ 1048576)
def OpenSpec.upto (s : _root_.Go.ChangeSpec) : _root_.Go.OpenSpec := { _root_.Go.OpenSpec.ofChange s with cond := some uptoSmall }

/-- 'kevellaw07.StampsTells', WHERE WHAT IT READS IS OF BULK AT MOST 1048576: true; the input reads as it did. -/
def stampsTellsUptoRow : OpenClaim := { program := "ytlclijnoablejaadoor", sum := "12ea9d96685887e36bf3a29932dc79bb48c336a138659f7f847ec6e026a7b114", func := "kevel/kevellaw07.StampsTells", spec := "stampsTells", unfollowed := true, recurses := true, named := ["kevel/cycle.ring"], apart := false, laid := [("kevel/cycle.ring", laid_kevel_cycle_ring)], narrowed := true }
def StampsTellsUptoSaid : Prop := stampsTellsUptoRow.holds Tryd.pinned (OpenSpec.upto stampsTellsSpec)

/-- 'kevellaw07.StampsLast', WHERE WHAT IT READS IS OF BULK AT MOST 1048576: true; the input reads as it did. -/
def stampsLastUptoRow : OpenClaim := { program := "ytlclijnoablejaadoor", sum := "12ea9d96685887e36bf3a29932dc79bb48c336a138659f7f847ec6e026a7b114", func := "kevel/kevellaw07.StampsLast", spec := "stampsLast", unfollowed := true, recurses := true, named := ["kevel/cycle.ring"], apart := false, laid := [("kevel/cycle.ring", laid_kevel_cycle_ring)], narrowed := true }
def StampsLastUptoSaid : Prop := stampsLastUptoRow.holds Tryd.pinned (OpenSpec.upto stampsLastSpec)

end Rows
end Go.Proofs.YtlclijnoablejaaDoor
