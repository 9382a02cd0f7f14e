/-
  DERIVED. GIVEN WITH THE SEED: THE CARDS: each row of YtlclijnoablejaaDoorRows.lean that lists a variable, with what it lists TIED to the program's text (the seventh form; the later family's looks); each row that meets fmt, with fmt's text TOLD by the authors' own Lean function (tested against real Go, not proved from fmt's source: count such statements apart). THE CARD IS WHAT COUNTS. Prove the row's statement (the work); the ties are given (YtlclijnoablejaaDoorTie.lean); close each card by the builder's one call (the guide's Derived/Test/ToyasCard.lean, 'card_holds'). Laid BY PROGRAM, IN A SANDBOX (cutbox-door.mjs). By AI agents, Wed Nov 11 2026. No macro, syntax, notation, axiom, sorry.
-/
import Derived.Test.YtlclijnoablejaaDoorRows
import GoSem.ClaimSeven
namespace Go.Proofs.YtlclijnoablejaaDoor
namespace Rows

/-- THE TIED CARD OF 'kevellaw07.StampsTells'. -/
def stampsTellsCard : Claim7 := { stood := { row := stampsTellsRow, standIns := [], harness := (true, "52d7bdc53c5e69997c7876dd969451b73a05571bc2f769ac2f927cd129c7323d"), looks := false }, kinds := [], alts := [], laidByText := true, laidKinds := [.data], laidTests := true, laidLooks := .later }
def StampsTellsCardSaid : Prop := Claim7.holds Tryd.pinned (.plain (OpenSpec.ofChange stampsTellsSpec)) stampsTellsCard

/-- THE TIED CARD OF 'kevellaw07.StampsLast'. -/
def stampsLastCard : Claim7 := { stood := { row := stampsLastRow, standIns := [], harness := (true, "52d7bdc53c5e69997c7876dd969451b73a05571bc2f769ac2f927cd129c7323d"), looks := false }, kinds := [], alts := [], laidByText := true, laidKinds := [.data], laidTests := true, laidLooks := .later }
def StampsLastCardSaid : Prop := Claim7.holds Tryd.pinned (.plain (OpenSpec.ofChange stampsLastSpec)) stampsLastCard

/-- THE SECOND FORM's CARD OF 'kevellaw07.StampsTells'. -/
def stampsTellsUptoCard : Claim7 := { stood := { row := stampsTellsUptoRow, standIns := [], harness := (true, "52d7bdc53c5e69997c7876dd969451b73a05571bc2f769ac2f927cd129c7323d"), looks := false }, kinds := [], alts := [], laidByText := true, laidKinds := [.data], laidTests := true, laidLooks := .later }
def StampsTellsUptoCardSaid : Prop := Claim7.holds Tryd.pinned (.plain (OpenSpec.upto stampsTellsSpec)) stampsTellsUptoCard

/-- THE SECOND FORM's CARD OF 'kevellaw07.StampsLast'. -/
def stampsLastUptoCard : Claim7 := { stood := { row := stampsLastUptoRow, standIns := [], harness := (true, "52d7bdc53c5e69997c7876dd969451b73a05571bc2f769ac2f927cd129c7323d"), looks := false }, kinds := [], alts := [], laidByText := true, laidKinds := [.data], laidTests := true, laidLooks := .later }
def StampsLastUptoCardSaid : Prop := Claim7.holds Tryd.pinned (.plain (OpenSpec.upto stampsLastSpec)) stampsLastUptoCard
end Rows
end Go.Proofs.YtlclijnoablejaaDoor
