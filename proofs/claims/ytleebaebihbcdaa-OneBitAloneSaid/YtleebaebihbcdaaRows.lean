/-
  No cell of these rows narrows 'for every input' (looked for: loops, veiled, ifaces, maps, wideKeys, modest, calm, conditions, laid).
  DERIVED. THE GIVEN ROWS OF THIS SEAT. 10 by the template 'for every input the law returns true; each argument reads behind the call as it read before'; 0 by the template 'total and deterministic' (their statements: YtleebaebihbcdaaTotals.lean).
  GIVEN WITH THE SEED: the statements are not yours to turn. If you find one false, say at which input.
  Laid BY PROGRAM, IN A SANDBOX (cutbox-rows.mjs): the forced cells as the released guide's own fill.sh prints them over the translation 7239ed3077854ba9… (all of the seat's roots in one cut). By AI agents, Wed Nov 11 2026. No macro, syntax, notation, axiom, sorry.
-/
import Derived.Test.YtleebaebihbcdaaChecked
import GoSem.Claim
import GoSem.ClaimJoined
import GoSem.ClaimMapViews
import Derived.JoinedTies
import Derived.KernelRfl
namespace Go.Proofs.Ytleebaebihbcdaa
/- THE CELL 'sum', in the pinned program and in every row, IS THE sha256 OF THE DUMP (.gsa) THAT YtleebaebihbcdaaProg.lean LOADS. Nothing in Lean hashes anything: it is a label: what it is worth is what the hold of that sum in a sandbox is worth. -/
noncomputable def Try.pinned : Pinned := { name := "ytleebaebihbcdaa", sum := "7239ed3077854ba9595c73ed92249312f993b42858948cc6f9a098420cb5bd8b", checked := Try.checked }
namespace Rows
def none {H : Type} : Left H := { results := [], args := [] }

/-- 'kevellaw10.TapePlays': WHATEVER THE INPUT: true; the input reads as it did. -/
def tapePlaysSpec : ChangeSpec := { name := "tapePlays", fn := fun _ => fun
  | [d1, d2, d3] => { results := [.lit (.bool true)], args := [d1, d2, d3] }
  | _ => none }
def tapePlaysRow : OpenClaim := { program := "ytleebaebihbcdaa", sum := "7239ed3077854ba9595c73ed92249312f993b42858948cc6f9a098420cb5bd8b", func := "kevel/kevellaw10.TapePlays", spec := "tapePlays", unfollowed := true, recurses := true, apart := false }
def TapePlaysSaid : Prop := tapePlaysRow.holds Try.pinned (OpenSpec.ofChange tapePlaysSpec)

/-- ITS FALSE NEIGHBOUR: 'it returns false'. Refute it at one input. -/
def tapePlaysWrong : ChangeSpec := { name := "tapePlays", fn := fun _ => fun
  | [d1, d2, d3] => { results := [.lit (.bool false)], args := [d1, d2, d3] }
  | _ => none }
def TapePlaysWrongFalsely : Prop := tapePlaysRow.holds Try.pinned (OpenSpec.ofChange tapePlaysWrong)

/-- 'kevellaw10.TapeGrows': WHATEVER THE INPUT: true; the input reads as it did. -/
def tapeGrowsSpec : ChangeSpec := { name := "tapeGrows", fn := fun _ => fun
  | [d1, d2, d3, d4] => { results := [.lit (.bool true)], args := [d1, d2, d3, d4] }
  | _ => none }
def tapeGrowsRow : OpenClaim := { program := "ytleebaebihbcdaa", sum := "7239ed3077854ba9595c73ed92249312f993b42858948cc6f9a098420cb5bd8b", func := "kevel/kevellaw10.TapeGrows", spec := "tapeGrows", unfollowed := true, recurses := true, apart := false }
def TapeGrowsSaid : Prop := tapeGrowsRow.holds Try.pinned (OpenSpec.ofChange tapeGrowsSpec)

/-- ITS FALSE NEIGHBOUR: 'it returns false'. Refute it at one input. -/
def tapeGrowsWrong : ChangeSpec := { name := "tapeGrows", fn := fun _ => fun
  | [d1, d2, d3, d4] => { results := [.lit (.bool false)], args := [d1, d2, d3, d4] }
  | _ => none }
def TapeGrowsWrongFalsely : Prop := tapeGrowsRow.holds Try.pinned (OpenSpec.ofChange tapeGrowsWrong)

/-- 'kevellaw11.SteadyPlays': WHATEVER THE INPUT: true; the input reads as it did. -/
def steadyPlaysSpec : ChangeSpec := { name := "steadyPlays", fn := fun _ => fun
  | [d1, d2, d3, d4] => { results := [.lit (.bool true)], args := [d1, d2, d3, d4] }
  | _ => none }
def steadyPlaysRow : OpenClaim := { program := "ytleebaebihbcdaa", sum := "7239ed3077854ba9595c73ed92249312f993b42858948cc6f9a098420cb5bd8b", func := "kevel/kevellaw11.SteadyPlays", spec := "steadyPlays", unfollowed := true, recurses := true, apart := false }
def SteadyPlaysSaid : Prop := steadyPlaysRow.holds Try.pinned (OpenSpec.ofChange steadyPlaysSpec)

/-- ITS FALSE NEIGHBOUR: 'it returns false'. Refute it at one input. -/
def steadyPlaysWrong : ChangeSpec := { name := "steadyPlays", fn := fun _ => fun
  | [d1, d2, d3, d4] => { results := [.lit (.bool false)], args := [d1, d2, d3, d4] }
  | _ => none }
def SteadyPlaysWrongFalsely : Prop := steadyPlaysRow.holds Try.pinned (OpenSpec.ofChange steadyPlaysWrong)

/-- 'kevellaw11.SteadyTurns': WHATEVER THE INPUT: true; the input reads as it did. -/
def steadyTurnsSpec : ChangeSpec := { name := "steadyTurns", fn := fun _ => fun
  | [d] => { results := [.lit (.bool true)], args := [d] }
  | _ => none }
def steadyTurnsRow : OpenClaim := { program := "ytleebaebihbcdaa", sum := "7239ed3077854ba9595c73ed92249312f993b42858948cc6f9a098420cb5bd8b", func := "kevel/kevellaw11.SteadyTurns", spec := "steadyTurns", unfollowed := true, recurses := true, apart := false }
def SteadyTurnsSaid : Prop := steadyTurnsRow.holds Try.pinned (OpenSpec.ofChange steadyTurnsSpec)

/-- ITS FALSE NEIGHBOUR: 'it returns false'. Refute it at one input. -/
def steadyTurnsWrong : ChangeSpec := { name := "steadyTurns", fn := fun _ => fun
  | [d] => { results := [.lit (.bool false)], args := [d] }
  | _ => none }
def SteadyTurnsWrongFalsely : Prop := steadyTurnsRow.holds Try.pinned (OpenSpec.ofChange steadyTurnsWrong)

/-- 'kevellaw13.TrompPlays': WHATEVER THE INPUT: true; the input reads as it did. -/
def trompPlaysSpec : ChangeSpec := { name := "trompPlays", fn := fun _ => fun
  | [d1, d2, d3, d4] => { results := [.lit (.bool true)], args := [d1, d2, d3, d4] }
  | _ => none }
def trompPlaysRow : OpenClaim := { program := "ytleebaebihbcdaa", sum := "7239ed3077854ba9595c73ed92249312f993b42858948cc6f9a098420cb5bd8b", func := "kevel/kevellaw13.TrompPlays", spec := "trompPlays", unfollowed := true, recurses := true, apart := false }
def TrompPlaysSaid : Prop := trompPlaysRow.holds Try.pinned (OpenSpec.ofChange trompPlaysSpec)

/-- ITS FALSE NEIGHBOUR: 'it returns false'. Refute it at one input. -/
def trompPlaysWrong : ChangeSpec := { name := "trompPlays", fn := fun _ => fun
  | [d1, d2, d3, d4] => { results := [.lit (.bool false)], args := [d1, d2, d3, d4] }
  | _ => none }
def TrompPlaysWrongFalsely : Prop := trompPlaysRow.holds Try.pinned (OpenSpec.ofChange trompPlaysWrong)

/-- 'kevellaw13.TrompCosts': WHATEVER THE INPUT: true; the input reads as it did. -/
def trompCostsSpec : ChangeSpec := { name := "trompCosts", fn := fun _ => fun
  | [d1, d2, d3] => { results := [.lit (.bool true)], args := [d1, d2, d3] }
  | _ => none }
def trompCostsRow : OpenClaim := { program := "ytleebaebihbcdaa", sum := "7239ed3077854ba9595c73ed92249312f993b42858948cc6f9a098420cb5bd8b", func := "kevel/kevellaw13.TrompCosts", spec := "trompCosts", unfollowed := true, recurses := true, apart := false }
def TrompCostsSaid : Prop := trompCostsRow.holds Try.pinned (OpenSpec.ofChange trompCostsSpec)

/-- ITS FALSE NEIGHBOUR: 'it returns false'. Refute it at one input. -/
def trompCostsWrong : ChangeSpec := { name := "trompCosts", fn := fun _ => fun
  | [d1, d2, d3] => { results := [.lit (.bool false)], args := [d1, d2, d3] }
  | _ => none }
def TrompCostsWrongFalsely : Prop := trompCostsRow.holds Try.pinned (OpenSpec.ofChange trompCostsWrong)

/-- 'kevellaw12.UnaryPlays': WHATEVER THE INPUT: true; the input reads as it did. -/
def unaryPlaysSpec : ChangeSpec := { name := "unaryPlays", fn := fun _ => fun
  | [d1, d2, d3, d4] => { results := [.lit (.bool true)], args := [d1, d2, d3, d4] }
  | _ => none }
def unaryPlaysRow : OpenClaim := { program := "ytleebaebihbcdaa", sum := "7239ed3077854ba9595c73ed92249312f993b42858948cc6f9a098420cb5bd8b", func := "kevel/kevellaw12.UnaryPlays", spec := "unaryPlays", unfollowed := true, recurses := true, apart := false }
def UnaryPlaysSaid : Prop := unaryPlaysRow.holds Try.pinned (OpenSpec.ofChange unaryPlaysSpec)

/-- ITS FALSE NEIGHBOUR: 'it returns false'. Refute it at one input. -/
def unaryPlaysWrong : ChangeSpec := { name := "unaryPlays", fn := fun _ => fun
  | [d1, d2, d3, d4] => { results := [.lit (.bool false)], args := [d1, d2, d3, d4] }
  | _ => none }
def UnaryPlaysWrongFalsely : Prop := unaryPlaysRow.holds Try.pinned (OpenSpec.ofChange unaryPlaysWrong)

/-- 'kevellaw12.UnaryBack': WHATEVER THE INPUT: true; the input reads as it did. -/
def unaryBackSpec : ChangeSpec := { name := "unaryBack", fn := fun _ => fun
  | [d1, d2] => { results := [.lit (.bool true)], args := [d1, d2] }
  | _ => none }
def unaryBackRow : OpenClaim := { program := "ytleebaebihbcdaa", sum := "7239ed3077854ba9595c73ed92249312f993b42858948cc6f9a098420cb5bd8b", func := "kevel/kevellaw12.UnaryBack", spec := "unaryBack", unfollowed := true, recurses := true, apart := false }
def UnaryBackSaid : Prop := unaryBackRow.holds Try.pinned (OpenSpec.ofChange unaryBackSpec)

/-- ITS FALSE NEIGHBOUR: 'it returns false'. Refute it at one input. -/
def unaryBackWrong : ChangeSpec := { name := "unaryBack", fn := fun _ => fun
  | [d1, d2] => { results := [.lit (.bool false)], args := [d1, d2] }
  | _ => none }
def UnaryBackWrongFalsely : Prop := unaryBackRow.holds Try.pinned (OpenSpec.ofChange unaryBackWrong)

/-- 'kevellaw24.OneBitAlone': WHATEVER THE INPUT: true; the input reads as it did. -/
def oneBitAloneSpec : ChangeSpec := { name := "oneBitAlone", fn := fun _ => fun
  | [d1, d2, d3] => { results := [.lit (.bool true)], args := [d1, d2, d3] }
  | _ => none }
def oneBitAloneRow : OpenClaim := { program := "ytleebaebihbcdaa", sum := "7239ed3077854ba9595c73ed92249312f993b42858948cc6f9a098420cb5bd8b", func := "kevel/kevellaw24.OneBitAlone", spec := "oneBitAlone", unfollowed := true, recurses := true, apart := false }
def OneBitAloneSaid : Prop := oneBitAloneRow.holds Try.pinned (OpenSpec.ofChange oneBitAloneSpec)

/-- ITS FALSE NEIGHBOUR: 'it returns false'. Refute it at one input. -/
def oneBitAloneWrong : ChangeSpec := { name := "oneBitAlone", fn := fun _ => fun
  | [d1, d2, d3] => { results := [.lit (.bool false)], args := [d1, d2, d3] }
  | _ => none }
def OneBitAloneWrongFalsely : Prop := oneBitAloneRow.holds Try.pinned (OpenSpec.ofChange oneBitAloneWrong)

/-- 'kevellaw23.BakeryDoor': WHATEVER THE INPUT: true; the input reads as it did. -/
def bakeryDoorSpec : ChangeSpec := { name := "bakeryDoor", fn := fun _ => fun
  | [d1, d2, d3, d4] => { results := [.lit (.bool true)], args := [d1, d2, d3, d4] }
  | _ => none }
def bakeryDoorRow : OpenClaim := { program := "ytleebaebihbcdaa", sum := "7239ed3077854ba9595c73ed92249312f993b42858948cc6f9a098420cb5bd8b", func := "kevel/kevellaw23.BakeryDoor", spec := "bakeryDoor", unfollowed := true, recurses := true, apart := false }
def BakeryDoorSaid : Prop := bakeryDoorRow.holds Try.pinned (OpenSpec.ofChange bakeryDoorSpec)

/-- ITS FALSE NEIGHBOUR: 'it returns false'. Refute it at one input. -/
def bakeryDoorWrong : ChangeSpec := { name := "bakeryDoor", fn := fun _ => fun
  | [d1, d2, d3, d4] => { results := [.lit (.bool false)], args := [d1, d2, d3, d4] }
  | _ => none }
def BakeryDoorWrongFalsely : Prop := bakeryDoorRow.holds Try.pinned (OpenSpec.ofChange bakeryDoorWrong)

/- THE SECOND FORM. 'bulk': how many values and letters a reading holds, each counted each time it is reached (what is shared counts as often as it is met; a slice's spare places count too). A statement '..UptoSaid' is the law's where the arguments, and the package variables that the reading takes, are together of bulk at most 1048576: NARROWER than '..Said'. Prove '..Said' where nothing that the law and all that it calls make is longer than what came in: it says more and counts as full. Else prove '..UptoSaid'. A law counts once. -/
mutual
def uptoBulk {H : Type} : DataW H → Nat
  | .lit (.string bytes) => bytes.length + 1
  | .lit _ => 1
  | .nil => 1
  | .ptr d => uptoBulk d + 1
  | .slice elems spare => uptoBulkAll elems + uptoBulkAll spare + 1
  | .agg parts => uptoBulkAll parts + 1
  | .iface _ d => uptoBulk d + 1
  | .map entries => uptoBulkEntries entries + 1
  | .held _ => 1
def uptoBulkAll {H : Type} : List (DataW H) → Nat
  | [] => 0
  | d :: r => uptoBulk d + uptoBulkAll r
def uptoBulkEntries {H : Type} : List (Lit × DataW H) → Nat
  | [] => 0
  | x :: r => uptoBulkEntry x + uptoBulkEntries r
def uptoBulkEntry {H : Type} : Lit × DataW H → Nat
  | (.string bytes, d) => bytes.length + uptoBulk d + 1
  | (_, d) => uptoBulk d + 1
 end
def uptoSmall : (H : Type) → List (DataW H) → Bool := fun _ ds => decide (uptoBulkAll ds ≤ 1048576)
def OpenSpec.upto (s : _root_.Go.ChangeSpec) : _root_.Go.OpenSpec := { _root_.Go.OpenSpec.ofChange s with cond := some uptoSmall }

/-- 'kevellaw10.TapePlays', WHERE WHAT IT READS IS OF BULK AT MOST 1048576: true; the input reads as it did. -/
def tapePlaysUptoRow : OpenClaim := { program := "ytleebaebihbcdaa", sum := "7239ed3077854ba9595c73ed92249312f993b42858948cc6f9a098420cb5bd8b", func := "kevel/kevellaw10.TapePlays", spec := "tapePlays", unfollowed := true, recurses := true, apart := false, narrowed := true }
def TapePlaysUptoSaid : Prop := tapePlaysUptoRow.holds Try.pinned (OpenSpec.upto tapePlaysSpec)

/-- 'kevellaw10.TapeGrows', WHERE WHAT IT READS IS OF BULK AT MOST 1048576: true; the input reads as it did. -/
def tapeGrowsUptoRow : OpenClaim := { program := "ytleebaebihbcdaa", sum := "7239ed3077854ba9595c73ed92249312f993b42858948cc6f9a098420cb5bd8b", func := "kevel/kevellaw10.TapeGrows", spec := "tapeGrows", unfollowed := true, recurses := true, apart := false, narrowed := true }
def TapeGrowsUptoSaid : Prop := tapeGrowsUptoRow.holds Try.pinned (OpenSpec.upto tapeGrowsSpec)

/-- 'kevellaw11.SteadyPlays', WHERE WHAT IT READS IS OF BULK AT MOST 1048576: true; the input reads as it did. -/
def steadyPlaysUptoRow : OpenClaim := { program := "ytleebaebihbcdaa", sum := "7239ed3077854ba9595c73ed92249312f993b42858948cc6f9a098420cb5bd8b", func := "kevel/kevellaw11.SteadyPlays", spec := "steadyPlays", unfollowed := true, recurses := true, apart := false, narrowed := true }
def SteadyPlaysUptoSaid : Prop := steadyPlaysUptoRow.holds Try.pinned (OpenSpec.upto steadyPlaysSpec)

/-- 'kevellaw11.SteadyTurns', WHERE WHAT IT READS IS OF BULK AT MOST 1048576: true; the input reads as it did. -/
def steadyTurnsUptoRow : OpenClaim := { program := "ytleebaebihbcdaa", sum := "7239ed3077854ba9595c73ed92249312f993b42858948cc6f9a098420cb5bd8b", func := "kevel/kevellaw11.SteadyTurns", spec := "steadyTurns", unfollowed := true, recurses := true, apart := false, narrowed := true }
def SteadyTurnsUptoSaid : Prop := steadyTurnsUptoRow.holds Try.pinned (OpenSpec.upto steadyTurnsSpec)

/-- 'kevellaw13.TrompPlays', WHERE WHAT IT READS IS OF BULK AT MOST 1048576: true; the input reads as it did. -/
def trompPlaysUptoRow : OpenClaim := { program := "ytleebaebihbcdaa", sum := "7239ed3077854ba9595c73ed92249312f993b42858948cc6f9a098420cb5bd8b", func := "kevel/kevellaw13.TrompPlays", spec := "trompPlays", unfollowed := true, recurses := true, apart := false, narrowed := true }
def TrompPlaysUptoSaid : Prop := trompPlaysUptoRow.holds Try.pinned (OpenSpec.upto trompPlaysSpec)

/-- 'kevellaw13.TrompCosts', WHERE WHAT IT READS IS OF BULK AT MOST 1048576: true; the input reads as it did. -/
def trompCostsUptoRow : OpenClaim := { program := "ytleebaebihbcdaa", sum := "7239ed3077854ba9595c73ed92249312f993b42858948cc6f9a098420cb5bd8b", func := "kevel/kevellaw13.TrompCosts", spec := "trompCosts", unfollowed := true, recurses := true, apart := false, narrowed := true }
def TrompCostsUptoSaid : Prop := trompCostsUptoRow.holds Try.pinned (OpenSpec.upto trompCostsSpec)

/-- 'kevellaw12.UnaryPlays', WHERE WHAT IT READS IS OF BULK AT MOST 1048576: true; the input reads as it did. -/
def unaryPlaysUptoRow : OpenClaim := { program := "ytleebaebihbcdaa", sum := "7239ed3077854ba9595c73ed92249312f993b42858948cc6f9a098420cb5bd8b", func := "kevel/kevellaw12.UnaryPlays", spec := "unaryPlays", unfollowed := true, recurses := true, apart := false, narrowed := true }
def UnaryPlaysUptoSaid : Prop := unaryPlaysUptoRow.holds Try.pinned (OpenSpec.upto unaryPlaysSpec)

/-- 'kevellaw12.UnaryBack', WHERE WHAT IT READS IS OF BULK AT MOST 1048576: true; the input reads as it did. -/
def unaryBackUptoRow : OpenClaim := { program := "ytleebaebihbcdaa", sum := "7239ed3077854ba9595c73ed92249312f993b42858948cc6f9a098420cb5bd8b", func := "kevel/kevellaw12.UnaryBack", spec := "unaryBack", unfollowed := true, recurses := true, apart := false, narrowed := true }
def UnaryBackUptoSaid : Prop := unaryBackUptoRow.holds Try.pinned (OpenSpec.upto unaryBackSpec)

/-- 'kevellaw24.OneBitAlone', WHERE WHAT IT READS IS OF BULK AT MOST 1048576: true; the input reads as it did. -/
def oneBitAloneUptoRow : OpenClaim := { program := "ytleebaebihbcdaa", sum := "7239ed3077854ba9595c73ed92249312f993b42858948cc6f9a098420cb5bd8b", func := "kevel/kevellaw24.OneBitAlone", spec := "oneBitAlone", unfollowed := true, recurses := true, apart := false, narrowed := true }
def OneBitAloneUptoSaid : Prop := oneBitAloneUptoRow.holds Try.pinned (OpenSpec.upto oneBitAloneSpec)

/-- 'kevellaw23.BakeryDoor', WHERE WHAT IT READS IS OF BULK AT MOST 1048576: true; the input reads as it did. -/
def bakeryDoorUptoRow : OpenClaim := { program := "ytleebaebihbcdaa", sum := "7239ed3077854ba9595c73ed92249312f993b42858948cc6f9a098420cb5bd8b", func := "kevel/kevellaw23.BakeryDoor", spec := "bakeryDoor", unfollowed := true, recurses := true, apart := false, narrowed := true }
def BakeryDoorUptoSaid : Prop := bakeryDoorUptoRow.holds Try.pinned (OpenSpec.upto bakeryDoorSpec)

end Rows
end Go.Proofs.Ytleebaebihbcdaa
