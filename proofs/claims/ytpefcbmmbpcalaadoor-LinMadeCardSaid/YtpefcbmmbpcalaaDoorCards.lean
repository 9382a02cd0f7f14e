/-
  DERIVED. GIVEN WITH THE SEED: THE CARDS: each row of YtpefcbmmbpcalaaDoorRows.lean that lists a variable, with what it lists TIED to the program's text (the seventh form; the later family's looks); each row that meets fmt, with fmt's text TOLD by the authors' own Lean function (tested against real Go, not proved from fmt's source: count such statements apart). THE CARD IS WHAT COUNTS. Prove the row's statement (the work); the ties are given (YtpefcbmmbpcalaaDoorTie.lean); close each card by the builder's one call (the guide's Derived/Test/ToyasCard.lean, 'card_holds'). Laid BY PROGRAM, IN A SANDBOX (cutbox-door.mjs). By AI agents, Wed Nov 11 2026. No macro, syntax, notation, axiom, sorry.
-/
import Derived.Test.YtpefcbmmbpcalaaDoorRows
import GoSem.ClaimSeven
namespace Go.Proofs.YtpefcbmmbpcalaaDoor
namespace Rows

/-- THE TIED CARD OF 'kevellaw20.OrderTells'. -/
def orderTellsCard : Claim7 := { stood := { row := orderTellsRow, standIns := [], harness := (true, "09164ab6ccb57c8a3901e27f8f2263302af5434048745f3c6e4ebea505c8d04c"), looks := false }, kinds := [], alts := [], laidByText := true, laidKinds := [.data], laidTests := true, laidLooks := .later }
def OrderTellsCardSaid : Prop := Claim7.holds Tryd.pinned (.plain (OpenSpec.ofChange orderTellsSpec)) orderTellsCard

/-- THE TIED CARD OF 'kevellaw20.OrderGoes'. -/
def orderGoesCard : Claim7 := { stood := { row := orderGoesRow, standIns := [], harness := (true, "09164ab6ccb57c8a3901e27f8f2263302af5434048745f3c6e4ebea505c8d04c"), looks := false }, kinds := [], alts := [], laidByText := true, laidKinds := [.data], laidTests := true, laidLooks := .later }
def OrderGoesCardSaid : Prop := Claim7.holds Tryd.pinned (.plain (OpenSpec.ofChange orderGoesSpec)) orderGoesCard

/-- THE TIED CARD OF 'kevellaw21.LinTells'. -/
def linTellsCard : Claim7 := { stood := { row := linTellsRow, standIns := [], harness := (true, "09164ab6ccb57c8a3901e27f8f2263302af5434048745f3c6e4ebea505c8d04c"), looks := false }, kinds := [], alts := [], laidByText := true, laidKinds := [.data], laidTests := true, laidLooks := .later }
def LinTellsCardSaid : Prop := Claim7.holds Tryd.pinned (.plain (OpenSpec.ofChange linTellsSpec)) linTellsCard

/-- THE TIED CARD OF 'kevellaw21.LinMany'. -/
def linManyCard : Claim7 := { stood := { row := linManyRow, standIns := [], harness := (true, "09164ab6ccb57c8a3901e27f8f2263302af5434048745f3c6e4ebea505c8d04c"), looks := false }, kinds := [], alts := [], laidByText := true, laidKinds := [.data], laidTests := true, laidLooks := .later }
def LinManyCardSaid : Prop := Claim7.holds Tryd.pinned (.plain (OpenSpec.ofChange linManySpec)) linManyCard

/-- THE TIED CARD OF 'kevellaw21.LinMade'. -/
def linMadeCard : Claim7 := { stood := { row := linMadeRow, standIns := [], harness := (true, "09164ab6ccb57c8a3901e27f8f2263302af5434048745f3c6e4ebea505c8d04c"), looks := false }, kinds := [], alts := [], laidByText := true, laidKinds := [.data], laidTests := true, laidLooks := .later }
def LinMadeCardSaid : Prop := Claim7.holds Tryd.pinned (.plain (OpenSpec.ofChange linMadeSpec)) linMadeCard

/-- THE SECOND FORM's CARD OF 'kevellaw20.OrderTells'. -/
def orderTellsUptoCard : Claim7 := { stood := { row := orderTellsUptoRow, standIns := [], harness := (true, "09164ab6ccb57c8a3901e27f8f2263302af5434048745f3c6e4ebea505c8d04c"), looks := false }, kinds := [], alts := [], laidByText := true, laidKinds := [.data], laidTests := true, laidLooks := .later }
def OrderTellsUptoCardSaid : Prop := Claim7.holds Tryd.pinned (.plain (OpenSpec.upto orderTellsSpec)) orderTellsUptoCard

/-- THE SECOND FORM's CARD OF 'kevellaw20.OrderGoes'. -/
def orderGoesUptoCard : Claim7 := { stood := { row := orderGoesUptoRow, standIns := [], harness := (true, "09164ab6ccb57c8a3901e27f8f2263302af5434048745f3c6e4ebea505c8d04c"), looks := false }, kinds := [], alts := [], laidByText := true, laidKinds := [.data], laidTests := true, laidLooks := .later }
def OrderGoesUptoCardSaid : Prop := Claim7.holds Tryd.pinned (.plain (OpenSpec.upto orderGoesSpec)) orderGoesUptoCard

/-- THE SECOND FORM's CARD OF 'kevellaw21.LinTells'. -/
def linTellsUptoCard : Claim7 := { stood := { row := linTellsUptoRow, standIns := [], harness := (true, "09164ab6ccb57c8a3901e27f8f2263302af5434048745f3c6e4ebea505c8d04c"), looks := false }, kinds := [], alts := [], laidByText := true, laidKinds := [.data], laidTests := true, laidLooks := .later }
def LinTellsUptoCardSaid : Prop := Claim7.holds Tryd.pinned (.plain (OpenSpec.upto linTellsSpec)) linTellsUptoCard

/-- THE SECOND FORM's CARD OF 'kevellaw21.LinMany'. -/
def linManyUptoCard : Claim7 := { stood := { row := linManyUptoRow, standIns := [], harness := (true, "09164ab6ccb57c8a3901e27f8f2263302af5434048745f3c6e4ebea505c8d04c"), looks := false }, kinds := [], alts := [], laidByText := true, laidKinds := [.data], laidTests := true, laidLooks := .later }
def LinManyUptoCardSaid : Prop := Claim7.holds Tryd.pinned (.plain (OpenSpec.upto linManySpec)) linManyUptoCard

/-- THE SECOND FORM's CARD OF 'kevellaw21.LinMade'. -/
def linMadeUptoCard : Claim7 := { stood := { row := linMadeUptoRow, standIns := [], harness := (true, "09164ab6ccb57c8a3901e27f8f2263302af5434048745f3c6e4ebea505c8d04c"), looks := false }, kinds := [], alts := [], laidByText := true, laidKinds := [.data], laidTests := true, laidLooks := .later }
def LinMadeUptoCardSaid : Prop := Claim7.holds Tryd.pinned (.plain (OpenSpec.upto linMadeSpec)) linMadeUptoCard
end Rows
end Go.Proofs.YtpefcbmmbpcalaaDoor
