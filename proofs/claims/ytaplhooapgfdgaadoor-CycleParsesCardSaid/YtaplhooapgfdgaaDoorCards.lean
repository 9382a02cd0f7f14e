/-
  DERIVED. GIVEN WITH THE SEED: THE CARDS: each row of YtaplhooapgfdgaaDoorRows.lean that lists a variable, with what it lists TIED to the program's text (the seventh form; the later family's looks); each row that meets fmt, with fmt's text TOLD by the authors' own Lean function (tested against real Go, not proved from fmt's source: count such statements apart). THE CARD IS WHAT COUNTS. Prove the row's statement (the work); the ties are given (YtaplhooapgfdgaaDoorTie.lean); close each card by the builder's one call (the guide's Derived/Test/ToyasCard.lean, 'card_holds'). Laid BY PROGRAM, IN A SANDBOX (cutbox-door.mjs). By AI agents, Wed Nov 11 2026. No macro, syntax, notation, axiom, sorry.
-/
import Derived.Test.YtaplhooapgfdgaaDoorRows
import GoSem.ClaimSeven
namespace Go.Proofs.YtaplhooapgfdgaaDoor
namespace Rows

/-- THE TIED CARD OF 'kevellaw06.CycleTells'. -/
def cycleTellsCard : Claim7 := { stood := { row := cycleTellsRow, standIns := [], harness := (true, "7e3c41a9d8caf4effe6041aa161bf6eb6f3eaa49fe4040e10d9821b1cc27ee24"), looks := false }, kinds := [], alts := [], laidByText := true, laidKinds := [.data], laidTests := true, laidLooks := .later }
def CycleTellsCardSaid : Prop := Claim7.holds Tryd.pinned (.plain (OpenSpec.ofChange cycleTellsSpec)) cycleTellsCard

/-- THE TIED CARD OF 'kevellaw06.CycleParses'. -/
def cycleParsesCard : Claim7 := { stood := { row := cycleParsesRow, standIns := [], harness := (true, "7e3c41a9d8caf4effe6041aa161bf6eb6f3eaa49fe4040e10d9821b1cc27ee24"), looks := false }, kinds := [], alts := [], laidByText := true, laidKinds := [.data], laidTests := true, laidLooks := .later }
def CycleParsesCardSaid : Prop := Claim7.holds Tryd.pinned (.plain (OpenSpec.ofChange cycleParsesSpec)) cycleParsesCard

/-- THE TIED CARD OF 'kevellaw06.CycleOne'. -/
def cycleOneCard : Claim7 := { stood := { row := cycleOneRow, standIns := [], harness := (true, "7e3c41a9d8caf4effe6041aa161bf6eb6f3eaa49fe4040e10d9821b1cc27ee24"), looks := false }, kinds := [], alts := [], laidByText := true, laidKinds := [.data], laidTests := true, laidLooks := .later }
def CycleOneCardSaid : Prop := Claim7.holds Tryd.pinned (.plain (OpenSpec.ofChange cycleOneSpec)) cycleOneCard

/-- THE SECOND FORM's CARD OF 'kevellaw06.CycleTells'. -/
def cycleTellsUptoCard : Claim7 := { stood := { row := cycleTellsUptoRow, standIns := [], harness := (true, "7e3c41a9d8caf4effe6041aa161bf6eb6f3eaa49fe4040e10d9821b1cc27ee24"), looks := false }, kinds := [], alts := [], laidByText := true, laidKinds := [.data], laidTests := true, laidLooks := .later }
def CycleTellsUptoCardSaid : Prop := Claim7.holds Tryd.pinned (.plain (OpenSpec.upto cycleTellsSpec)) cycleTellsUptoCard

/-- THE SECOND FORM's CARD OF 'kevellaw06.CycleParses'. -/
def cycleParsesUptoCard : Claim7 := { stood := { row := cycleParsesUptoRow, standIns := [], harness := (true, "7e3c41a9d8caf4effe6041aa161bf6eb6f3eaa49fe4040e10d9821b1cc27ee24"), looks := false }, kinds := [], alts := [], laidByText := true, laidKinds := [.data], laidTests := true, laidLooks := .later }
def CycleParsesUptoCardSaid : Prop := Claim7.holds Tryd.pinned (.plain (OpenSpec.upto cycleParsesSpec)) cycleParsesUptoCard

/-- THE SECOND FORM's CARD OF 'kevellaw06.CycleOne'. -/
def cycleOneUptoCard : Claim7 := { stood := { row := cycleOneUptoRow, standIns := [], harness := (true, "7e3c41a9d8caf4effe6041aa161bf6eb6f3eaa49fe4040e10d9821b1cc27ee24"), looks := false }, kinds := [], alts := [], laidByText := true, laidKinds := [.data], laidTests := true, laidLooks := .later }
def CycleOneUptoCardSaid : Prop := Claim7.holds Tryd.pinned (.plain (OpenSpec.upto cycleOneSpec)) cycleOneUptoCard
end Rows
end Go.Proofs.YtaplhooapgfdgaaDoor
