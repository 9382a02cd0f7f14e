/-
  NARROWER THAN 'FOR EVERY INPUT', by the rows' own cells (each row's printed sentence says how): CycleTells: laid · CycleParses: laid · CycleOne: laid.
  DERIVED. THE GIVEN ROWS OF THIS SEAT. 3 by the template 'for every input the law returns true; each argument reads behind the call as it read before'; 0 by the template 'total and deterministic' (their statements: YtaplhooapgfdgaaDoorTotals.lean).
  GIVEN WITH THE SEED: the statements are not yours to turn. If you find one false, say at which input.
  Laid BY PROGRAM, IN A SANDBOX (cutbox-rows.mjs): the forced cells as the released guide's own fill.sh prints them over the translation 3fa72c9eff34562b… (all of the seat's roots in one cut). By AI agents, Wed Nov 11 2026. No macro, syntax, notation, axiom, sorry.
-/
import Derived.Test.YtaplhooapgfdgaaDoorChecked
import GoSem.Claim
import GoSem.ClaimJoined
import GoSem.ClaimMapViews
import Derived.JoinedTies
import Derived.KernelRfl
namespace Go.Proofs.YtaplhooapgfdgaaDoor
/- THE CELL 'sum', in the pinned program and in every row, IS THE sha256 OF THE DUMP (.gsa) THAT YtaplhooapgfdgaaDoorProg.lean LOADS. Nothing in Lean hashes anything: it is a label: what it is worth is what the hold of that sum in a sandbox is worth. -/
noncomputable def Tryd.pinned : Pinned := { name := "ytaplhooapgfdgaadoor", sum := "3fa72c9eff34562b1c8cc55aedfac4d63476837f9df1461320ab6ec36a500e10", checked := Tryd.checked }
namespace Rows
def none {H : Type} : Left H := { results := [], args := [] }

/- WHAT THE LISTED PACKAGE-LEVEL VARIABLES READ AS WHEN THE CALL BEGINS. Each datum BY PROGRAM (the guide's laid-datum.mjs) off the statement by which the dump's own 'gosem.cut.vars' lays the variable. In a bare row this is a premise. The card (YtaplhooapgfdgaaDoorCards.lean) ties it to the program's text. -/
def laid_kevel_cycle_ring {H : Type} : DataW H := .agg [.lit (.int .i64 1), .lit (.int .i64 2), .lit (.int .i64 0)]

/-- 'kevellaw06.CycleTells': WHATEVER THE INPUT: true; the input reads as it did. -/
def cycleTellsSpec : ChangeSpec := { name := "cycleTells", fn := fun _ => fun
  | [d1, d2, d3, d4] => { results := [.lit (.bool true)], args := [d1, d2, d3, d4] }
  | _ => none }
def cycleTellsRow : OpenClaim := { program := "ytaplhooapgfdgaadoor", sum := "3fa72c9eff34562b1c8cc55aedfac4d63476837f9df1461320ab6ec36a500e10", func := "kevel/kevellaw06.CycleTells", spec := "cycleTells", recurses := true, named := ["kevel/cycle.ring"], apart := false, laid := [("kevel/cycle.ring", laid_kevel_cycle_ring)] }
def CycleTellsSaid : Prop := cycleTellsRow.holds Tryd.pinned (OpenSpec.ofChange cycleTellsSpec)

/-- ITS FALSE NEIGHBOUR: 'it returns false'. Refute it at one input. -/
def cycleTellsWrong : ChangeSpec := { name := "cycleTells", fn := fun _ => fun
  | [d1, d2, d3, d4] => { results := [.lit (.bool false)], args := [d1, d2, d3, d4] }
  | _ => none }
def CycleTellsWrongFalsely : Prop := cycleTellsRow.holds Tryd.pinned (OpenSpec.ofChange cycleTellsWrong)

/-- 'kevellaw06.CycleParses': WHATEVER THE INPUT: true; the input reads as it did. -/
def cycleParsesSpec : ChangeSpec := { name := "cycleParses", fn := fun _ => fun
  | [d1, d2] => { results := [.lit (.bool true)], args := [d1, d2] }
  | _ => none }
def cycleParsesRow : OpenClaim := { program := "ytaplhooapgfdgaadoor", sum := "3fa72c9eff34562b1c8cc55aedfac4d63476837f9df1461320ab6ec36a500e10", func := "kevel/kevellaw06.CycleParses", spec := "cycleParses", named := ["kevel/cycle.ring"], apart := false, laid := [("kevel/cycle.ring", laid_kevel_cycle_ring)] }
def CycleParsesSaid : Prop := cycleParsesRow.holds Tryd.pinned (OpenSpec.ofChange cycleParsesSpec)

/-- ITS FALSE NEIGHBOUR: 'it returns false'. Refute it at one input. -/
def cycleParsesWrong : ChangeSpec := { name := "cycleParses", fn := fun _ => fun
  | [d1, d2] => { results := [.lit (.bool false)], args := [d1, d2] }
  | _ => none }
def CycleParsesWrongFalsely : Prop := cycleParsesRow.holds Tryd.pinned (OpenSpec.ofChange cycleParsesWrong)

/-- 'kevellaw06.CycleOne': WHATEVER THE INPUT: true; the input reads as it did. -/
def cycleOneSpec : ChangeSpec := { name := "cycleOne", fn := fun _ => fun
  | [d1, d2] => { results := [.lit (.bool true)], args := [d1, d2] }
  | _ => none }
def cycleOneRow : OpenClaim := { program := "ytaplhooapgfdgaadoor", sum := "3fa72c9eff34562b1c8cc55aedfac4d63476837f9df1461320ab6ec36a500e10", func := "kevel/kevellaw06.CycleOne", spec := "cycleOne", named := ["kevel/cycle.ring"], apart := false, laid := [("kevel/cycle.ring", laid_kevel_cycle_ring)] }
def CycleOneSaid : Prop := cycleOneRow.holds Tryd.pinned (OpenSpec.ofChange cycleOneSpec)

/-- ITS FALSE NEIGHBOUR: 'it returns false'. Refute it at one input. -/
def cycleOneWrong : ChangeSpec := { name := "cycleOne", fn := fun _ => fun
  | [d1, d2] => { results := [.lit (.bool false)], args := [d1, d2] }
  | _ => none }
def CycleOneWrongFalsely : Prop := cycleOneRow.holds Tryd.pinned (OpenSpec.ofChange cycleOneWrong)

/- THE SECOND FORM. 'bulk': how many values and letters a reading holds, each counted each time it is reached (what is shared counts as often as it is met; a slice's spare places count too). A statement '..UptoSaid' is the law's where the arguments, and the package variables that the reading takes, are together of bulk at most 1048576: NARROWER than '..Said'. Prove '..Said' where nothing that the law and all that it calls make is longer than what came in: it says more and counts as full. Else prove '..UptoSaid'. A law counts once. -/
mutual
def uptoBulk {H : Type} : DataW H → Nat
  | .lit (.string bytes) => bytes.length + 1
  | .lit _ => 1
  | .nil => 1
  | .ptr d => uptoBulk d + 1
  | .slice elems spare => uptoBulkAll elems + uptoBulkAll spare + 1
  | .agg parts => uptoBulkAll parts + 1
  | .iface _ d => uptoBulk d + 1
  | .map entries => uptoBulkEntries entries + 1
  | .held _ => 1
def uptoBulkAll {H : Type} : List (DataW H) → Nat
  | [] => 0
  | d :: r => uptoBulk d + uptoBulkAll r
def uptoBulkEntries {H : Type} : List (Lit × DataW H) → Nat
  | [] => 0
  | x :: r => uptoBulkEntry x + uptoBulkEntries r
def uptoBulkEntry {H : Type} : Lit × DataW H → Nat
  | (.string bytes, d) => bytes.length + uptoBulk d + 1
  | (_, d) => uptoBulk d + 1
 end
def uptoSmall : (H : Type) → List (DataW H) → Bool := fun _ ds => decide (uptoBulkAll ds ≤ 1048576)
def OpenSpec.upto (s : _root_.Go.ChangeSpec) : _root_.Go.OpenSpec := { _root_.Go.OpenSpec.ofChange s with cond := some uptoSmall }

/-- 'kevellaw06.CycleTells', WHERE WHAT IT READS IS OF BULK AT MOST 1048576: true; the input reads as it did. -/
def cycleTellsUptoRow : OpenClaim := { program := "ytaplhooapgfdgaadoor", sum := "3fa72c9eff34562b1c8cc55aedfac4d63476837f9df1461320ab6ec36a500e10", func := "kevel/kevellaw06.CycleTells", spec := "cycleTells", recurses := true, named := ["kevel/cycle.ring"], apart := false, laid := [("kevel/cycle.ring", laid_kevel_cycle_ring)], narrowed := true }
def CycleTellsUptoSaid : Prop := cycleTellsUptoRow.holds Tryd.pinned (OpenSpec.upto cycleTellsSpec)

/-- 'kevellaw06.CycleParses', WHERE WHAT IT READS IS OF BULK AT MOST 1048576: true; the input reads as it did. -/
def cycleParsesUptoRow : OpenClaim := { program := "ytaplhooapgfdgaadoor", sum := "3fa72c9eff34562b1c8cc55aedfac4d63476837f9df1461320ab6ec36a500e10", func := "kevel/kevellaw06.CycleParses", spec := "cycleParses", named := ["kevel/cycle.ring"], apart := false, laid := [("kevel/cycle.ring", laid_kevel_cycle_ring)], narrowed := true }
def CycleParsesUptoSaid : Prop := cycleParsesUptoRow.holds Tryd.pinned (OpenSpec.upto cycleParsesSpec)

/-- 'kevellaw06.CycleOne', WHERE WHAT IT READS IS OF BULK AT MOST 1048576: true; the input reads as it did. -/
def cycleOneUptoRow : OpenClaim := { program := "ytaplhooapgfdgaadoor", sum := "3fa72c9eff34562b1c8cc55aedfac4d63476837f9df1461320ab6ec36a500e10", func := "kevel/kevellaw06.CycleOne", spec := "cycleOne", named := ["kevel/cycle.ring"], apart := false, laid := [("kevel/cycle.ring", laid_kevel_cycle_ring)], narrowed := true }
def CycleOneUptoSaid : Prop := cycleOneUptoRow.holds Tryd.pinned (OpenSpec.upto cycleOneSpec)

end Rows
end Go.Proofs.YtaplhooapgfdgaaDoor
