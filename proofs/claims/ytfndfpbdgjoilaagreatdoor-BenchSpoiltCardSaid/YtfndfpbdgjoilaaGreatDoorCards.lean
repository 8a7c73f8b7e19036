/-
  DERIVED. GIVEN WITH THE SEED: THE CARDS: each row of YtfndfpbdgjoilaaGreatDoorRows.lean that lists a variable, with what it lists TIED to the program's text (the seventh form; the later family's looks); each row that meets fmt, with fmt's text TOLD by the authors' own Lean function (tested against real Go, not proved from fmt's source: count such statements apart). THE CARD IS WHAT COUNTS. Prove the row's statement (the work); the ties are given (YtfndfpbdgjoilaaGreatDoorTie.lean); close each card by the builder's one call (the guide's Derived/Test/ToyasCard.lean, 'card_holds'). Laid BY PROGRAM, IN A SANDBOX (cutbox-door.mjs). By AI agents, Wed Nov 11 2026. No macro, syntax, notation, axiom, sorry.
-/
import Derived.Test.YtfndfpbdgjoilaaGreatDoorRows
import GoSem.ClaimSeven
namespace Go.Proofs.YtfndfpbdgjoilaaGreatDoor
namespace Rows

/-- THE TIED CARD OF 'mahlsticklaw06.BenchBetween'. -/
def benchBetweenCard : Claim7 := { stood := { row := benchBetweenRow, standIns := [], harness := (true, "8771728aba0d1714095fb83e05d29a8b88380942a44dd647203ff7e14084f3ef"), looks := true }, kinds := [], alts := [], laidByText := true, laidKinds := [.data, .data, .data, .data, .pinned], laidTests := true, laidLooks := .later }
def BenchBetweenCardSaid : Prop := Claim7.holds Tryz.pinned (.plain (OpenSpec.ofChange benchBetweenSpec)) benchBetweenCard

/-- THE TIED CARD OF 'mahlsticklaw06.BenchLates'. -/
def benchLatesCard : Claim7 := { stood := { row := benchLatesRow, standIns := [], harness := (true, "8771728aba0d1714095fb83e05d29a8b88380942a44dd647203ff7e14084f3ef"), looks := true }, kinds := [], alts := [], laidByText := true, laidKinds := [.data, .data, .data, .data, .pinned], laidTests := true, laidLooks := .later }
def BenchLatesCardSaid : Prop := Claim7.holds Tryz.pinned (.plain (OpenSpec.ofChange benchLatesSpec)) benchLatesCard

/-- THE TIED CARD OF 'mahlsticklaw06.BenchDue'. -/
def benchDueCard : Claim7 := { stood := { row := benchDueRow, standIns := [], harness := (true, "8771728aba0d1714095fb83e05d29a8b88380942a44dd647203ff7e14084f3ef"), looks := true }, kinds := [], alts := [], laidByText := true, laidKinds := [.data, .data, .data, .data, .pinned], laidTests := true, laidLooks := .later }
def BenchDueCardSaid : Prop := Claim7.holds Tryz.pinned (.plain (OpenSpec.ofChange benchDueSpec)) benchDueCard

/-- THE TIED CARD OF 'mahlsticklaw06.BenchChains'. -/
def benchChainsCard : Claim7 := { stood := { row := benchChainsRow, standIns := [], harness := (true, "8771728aba0d1714095fb83e05d29a8b88380942a44dd647203ff7e14084f3ef"), looks := true }, kinds := [], alts := [], laidByText := true, laidKinds := [.data, .data, .data, .data, .pinned], laidTests := true, laidLooks := .later }
def BenchChainsCardSaid : Prop := Claim7.holds Tryz.pinned (.plain (OpenSpec.ofChange benchChainsSpec)) benchChainsCard

/-- THE TIED CARD OF 'mahlsticklaw06.BenchDelays'. -/
def benchDelaysCard : Claim7 := { stood := { row := benchDelaysRow, standIns := [], harness := (true, "8771728aba0d1714095fb83e05d29a8b88380942a44dd647203ff7e14084f3ef"), looks := true }, kinds := [], alts := [], laidByText := true, laidKinds := [.data, .data, .data, .data, .pinned], laidTests := true, laidLooks := .later }
def BenchDelaysCardSaid : Prop := Claim7.holds Tryz.pinned (.plain (OpenSpec.ofChange benchDelaysSpec)) benchDelaysCard

/-- THE TIED CARD OF 'mahlsticklaw06.BenchSpared'. -/
def benchSparedCard : Claim7 := { stood := { row := benchSparedRow, standIns := [], harness := (true, "8771728aba0d1714095fb83e05d29a8b88380942a44dd647203ff7e14084f3ef"), looks := true }, kinds := [], alts := [], laidByText := true, laidKinds := [.data, .data, .data, .data, .pinned], laidTests := true, laidLooks := .later }
def BenchSparedCardSaid : Prop := Claim7.holds Tryz.pinned (.plain (OpenSpec.ofChange benchSparedSpec)) benchSparedCard

/-- THE TIED CARD OF 'mahlsticklaw06.BenchBests'. -/
def benchBestsCard : Claim7 := { stood := { row := benchBestsRow, standIns := [], harness := (true, "8771728aba0d1714095fb83e05d29a8b88380942a44dd647203ff7e14084f3ef"), looks := true }, kinds := [], alts := [], laidByText := true, laidKinds := [.data, .data, .data, .data, .pinned], laidTests := true, laidLooks := .later }
def BenchBestsCardSaid : Prop := Claim7.holds Tryz.pinned (.plain (OpenSpec.ofChange benchBestsSpec)) benchBestsCard

/-- THE TIED CARD OF 'mahlsticklaw06.BenchSoonest'. -/
def benchSoonestCard : Claim7 := { stood := { row := benchSoonestRow, standIns := [], harness := (true, "8771728aba0d1714095fb83e05d29a8b88380942a44dd647203ff7e14084f3ef"), looks := true }, kinds := [], alts := [], laidByText := true, laidKinds := [.data, .data, .data, .data, .pinned], laidTests := true, laidLooks := .later }
def BenchSoonestCardSaid : Prop := Claim7.holds Tryz.pinned (.plain (OpenSpec.ofChange benchSoonestSpec)) benchSoonestCard

/-- THE TIED CARD OF 'mahlsticklaw06.BenchWhos'. -/
def benchWhosCard : Claim7 := { stood := { row := benchWhosRow, standIns := [], harness := (true, "8771728aba0d1714095fb83e05d29a8b88380942a44dd647203ff7e14084f3ef"), looks := true }, kinds := [], alts := [], laidByText := true, laidKinds := [.data, .data, .data, .data, .pinned], laidTests := true, laidLooks := .later }
def BenchWhosCardSaid : Prop := Claim7.holds Tryz.pinned (.plain (OpenSpec.ofChange benchWhosSpec)) benchWhosCard

/-- THE TIED CARD OF 'mahlsticklaw06.BenchGiven'. -/
def benchGivenCard : Claim7 := { stood := { row := benchGivenRow, standIns := [], harness := (true, "8771728aba0d1714095fb83e05d29a8b88380942a44dd647203ff7e14084f3ef"), looks := true }, kinds := [], alts := [], laidByText := true, laidKinds := [.data, .data, .data, .data, .pinned], laidTests := true, laidLooks := .later }
def BenchGivenCardSaid : Prop := Claim7.holds Tryz.pinned (.plain (OpenSpec.ofChange benchGivenSpec)) benchGivenCard

/-- THE TIED CARD OF 'mahlsticklaw06.BenchMores'. -/
def benchMoresCard : Claim7 := { stood := { row := benchMoresRow, standIns := [], harness := (true, "8771728aba0d1714095fb83e05d29a8b88380942a44dd647203ff7e14084f3ef"), looks := true }, kinds := [], alts := [], laidByText := true, laidKinds := [.data, .data, .data, .data, .pinned], laidTests := true, laidLooks := .later }
def BenchMoresCardSaid : Prop := Claim7.holds Tryz.pinned (.plain (OpenSpec.ofChange benchMoresSpec)) benchMoresCard

/-- THE TIED CARD OF 'mahlsticklaw06.BenchEnough'. -/
def benchEnoughCard : Claim7 := { stood := { row := benchEnoughRow, standIns := [], harness := (true, "8771728aba0d1714095fb83e05d29a8b88380942a44dd647203ff7e14084f3ef"), looks := true }, kinds := [], alts := [], laidByText := true, laidKinds := [.data, .data, .data, .data, .pinned], laidTests := true, laidLooks := .later }
def BenchEnoughCardSaid : Prop := Claim7.holds Tryz.pinned (.plain (OpenSpec.ofChange benchEnoughSpec)) benchEnoughCard

/-- THE TIED CARD OF 'mahlsticklaw06.BenchMore'. -/
def benchMoreCard : Claim7 := { stood := { row := benchMoreRow, standIns := [], harness := (true, "8771728aba0d1714095fb83e05d29a8b88380942a44dd647203ff7e14084f3ef"), looks := true }, kinds := [], alts := [], laidByText := true, laidKinds := [.data, .data, .data, .data, .pinned], laidTests := true, laidLooks := .later }
def BenchMoreCardSaid : Prop := Claim7.holds Tryz.pinned (.plain (OpenSpec.ofChange benchMoreSpec)) benchMoreCard

/-- THE TIED CARD OF 'mahlsticklaw06.BenchNamed'. -/
def benchNamedCard : Claim7 := { stood := { row := benchNamedRow, standIns := [], harness := (true, "8771728aba0d1714095fb83e05d29a8b88380942a44dd647203ff7e14084f3ef"), looks := true }, kinds := [], alts := [], laidByText := true, laidKinds := [.data, .data, .data, .data, .pinned], laidTests := true, laidLooks := .later }
def BenchNamedCardSaid : Prop := Claim7.holds Tryz.pinned (.plain (OpenSpec.ofChange benchNamedSpec)) benchNamedCard

/-- THE TIED CARD OF 'mahlsticklaw06.BenchEnds'. -/
def benchEndsCard : Claim7 := { stood := { row := benchEndsRow, standIns := [], harness := (true, "8771728aba0d1714095fb83e05d29a8b88380942a44dd647203ff7e14084f3ef"), looks := true }, kinds := [], alts := [], laidByText := true, laidKinds := [.data, .data, .data, .data, .pinned], laidTests := true, laidLooks := .later }
def BenchEndsCardSaid : Prop := Claim7.holds Tryz.pinned (.plain (OpenSpec.ofChange benchEndsSpec)) benchEndsCard

/-- THE TIED CARD OF 'mahlsticklaw06.BenchPrints'. -/
def benchPrintsCard : Claim7 := { stood := { row := benchPrintsRow, standIns := [], harness := (true, "8771728aba0d1714095fb83e05d29a8b88380942a44dd647203ff7e14084f3ef"), looks := true }, kinds := [], alts := [], laidByText := true, laidKinds := [.data, .data, .data, .data, .pinned], laidTests := true, laidLooks := .later }
def BenchPrintsCardSaid : Prop := Claim7.holds Tryz.pinned (.plain (OpenSpec.ofChange benchPrintsSpec)) benchPrintsCard

/-- THE TIED CARD OF 'mahlsticklaw06.BenchReads'. -/
def benchReadsCard : Claim7 := { stood := { row := benchReadsRow, standIns := [], harness := (true, "8771728aba0d1714095fb83e05d29a8b88380942a44dd647203ff7e14084f3ef"), looks := true }, kinds := [], alts := [], laidByText := true, laidKinds := [.data, .data, .data, .data, .pinned], laidTests := true, laidLooks := .later }
def BenchReadsCardSaid : Prop := Claim7.holds Tryz.pinned (.plain (OpenSpec.ofChange benchReadsSpec)) benchReadsCard

/-- THE TIED CARD OF 'mahlsticklaw06.BenchSpoilt'. -/
def benchSpoiltCard : Claim7 := { stood := { row := benchSpoiltRow, standIns := [], harness := (true, "8771728aba0d1714095fb83e05d29a8b88380942a44dd647203ff7e14084f3ef"), looks := true }, kinds := [], alts := [], laidByText := true, laidKinds := [.data, .data, .data, .data, .pinned], laidTests := true, laidLooks := .later }
def BenchSpoiltCardSaid : Prop := Claim7.holds Tryz.pinned (.plain (OpenSpec.ofChange benchSpoiltSpec)) benchSpoiltCard

/-- THE SECOND FORM's CARD OF 'mahlsticklaw06.BenchBetween'. -/
def benchBetweenUptoCard : Claim7 := { stood := { row := benchBetweenUptoRow, standIns := [], harness := (true, "8771728aba0d1714095fb83e05d29a8b88380942a44dd647203ff7e14084f3ef"), looks := true }, kinds := [], alts := [], laidByText := true, laidKinds := [.data, .data, .data, .data, .pinned], laidTests := true, laidLooks := .later }
def BenchBetweenUptoCardSaid : Prop := Claim7.holds Tryz.pinned (.plain (OpenSpec.upto benchBetweenSpec)) benchBetweenUptoCard

/-- THE SECOND FORM's CARD OF 'mahlsticklaw06.BenchLates'. -/
def benchLatesUptoCard : Claim7 := { stood := { row := benchLatesUptoRow, standIns := [], harness := (true, "8771728aba0d1714095fb83e05d29a8b88380942a44dd647203ff7e14084f3ef"), looks := true }, kinds := [], alts := [], laidByText := true, laidKinds := [.data, .data, .data, .data, .pinned], laidTests := true, laidLooks := .later }
def BenchLatesUptoCardSaid : Prop := Claim7.holds Tryz.pinned (.plain (OpenSpec.upto benchLatesSpec)) benchLatesUptoCard

/-- THE SECOND FORM's CARD OF 'mahlsticklaw06.BenchDue'. -/
def benchDueUptoCard : Claim7 := { stood := { row := benchDueUptoRow, standIns := [], harness := (true, "8771728aba0d1714095fb83e05d29a8b88380942a44dd647203ff7e14084f3ef"), looks := true }, kinds := [], alts := [], laidByText := true, laidKinds := [.data, .data, .data, .data, .pinned], laidTests := true, laidLooks := .later }
def BenchDueUptoCardSaid : Prop := Claim7.holds Tryz.pinned (.plain (OpenSpec.upto benchDueSpec)) benchDueUptoCard

/-- THE SECOND FORM's CARD OF 'mahlsticklaw06.BenchChains'. -/
def benchChainsUptoCard : Claim7 := { stood := { row := benchChainsUptoRow, standIns := [], harness := (true, "8771728aba0d1714095fb83e05d29a8b88380942a44dd647203ff7e14084f3ef"), looks := true }, kinds := [], alts := [], laidByText := true, laidKinds := [.data, .data, .data, .data, .pinned], laidTests := true, laidLooks := .later }
def BenchChainsUptoCardSaid : Prop := Claim7.holds Tryz.pinned (.plain (OpenSpec.upto benchChainsSpec)) benchChainsUptoCard

/-- THE SECOND FORM's CARD OF 'mahlsticklaw06.BenchDelays'. -/
def benchDelaysUptoCard : Claim7 := { stood := { row := benchDelaysUptoRow, standIns := [], harness := (true, "8771728aba0d1714095fb83e05d29a8b88380942a44dd647203ff7e14084f3ef"), looks := true }, kinds := [], alts := [], laidByText := true, laidKinds := [.data, .data, .data, .data, .pinned], laidTests := true, laidLooks := .later }
def BenchDelaysUptoCardSaid : Prop := Claim7.holds Tryz.pinned (.plain (OpenSpec.upto benchDelaysSpec)) benchDelaysUptoCard

/-- THE SECOND FORM's CARD OF 'mahlsticklaw06.BenchSpared'. -/
def benchSparedUptoCard : Claim7 := { stood := { row := benchSparedUptoRow, standIns := [], harness := (true, "8771728aba0d1714095fb83e05d29a8b88380942a44dd647203ff7e14084f3ef"), looks := true }, kinds := [], alts := [], laidByText := true, laidKinds := [.data, .data, .data, .data, .pinned], laidTests := true, laidLooks := .later }
def BenchSparedUptoCardSaid : Prop := Claim7.holds Tryz.pinned (.plain (OpenSpec.upto benchSparedSpec)) benchSparedUptoCard

/-- THE SECOND FORM's CARD OF 'mahlsticklaw06.BenchBests'. -/
def benchBestsUptoCard : Claim7 := { stood := { row := benchBestsUptoRow, standIns := [], harness := (true, "8771728aba0d1714095fb83e05d29a8b88380942a44dd647203ff7e14084f3ef"), looks := true }, kinds := [], alts := [], laidByText := true, laidKinds := [.data, .data, .data, .data, .pinned], laidTests := true, laidLooks := .later }
def BenchBestsUptoCardSaid : Prop := Claim7.holds Tryz.pinned (.plain (OpenSpec.upto benchBestsSpec)) benchBestsUptoCard

/-- THE SECOND FORM's CARD OF 'mahlsticklaw06.BenchSoonest'. -/
def benchSoonestUptoCard : Claim7 := { stood := { row := benchSoonestUptoRow, standIns := [], harness := (true, "8771728aba0d1714095fb83e05d29a8b88380942a44dd647203ff7e14084f3ef"), looks := true }, kinds := [], alts := [], laidByText := true, laidKinds := [.data, .data, .data, .data, .pinned], laidTests := true, laidLooks := .later }
def BenchSoonestUptoCardSaid : Prop := Claim7.holds Tryz.pinned (.plain (OpenSpec.upto benchSoonestSpec)) benchSoonestUptoCard

/-- THE SECOND FORM's CARD OF 'mahlsticklaw06.BenchWhos'. -/
def benchWhosUptoCard : Claim7 := { stood := { row := benchWhosUptoRow, standIns := [], harness := (true, "8771728aba0d1714095fb83e05d29a8b88380942a44dd647203ff7e14084f3ef"), looks := true }, kinds := [], alts := [], laidByText := true, laidKinds := [.data, .data, .data, .data, .pinned], laidTests := true, laidLooks := .later }
def BenchWhosUptoCardSaid : Prop := Claim7.holds Tryz.pinned (.plain (OpenSpec.upto benchWhosSpec)) benchWhosUptoCard

/-- THE SECOND FORM's CARD OF 'mahlsticklaw06.BenchGiven'. -/
def benchGivenUptoCard : Claim7 := { stood := { row := benchGivenUptoRow, standIns := [], harness := (true, "8771728aba0d1714095fb83e05d29a8b88380942a44dd647203ff7e14084f3ef"), looks := true }, kinds := [], alts := [], laidByText := true, laidKinds := [.data, .data, .data, .data, .pinned], laidTests := true, laidLooks := .later }
def BenchGivenUptoCardSaid : Prop := Claim7.holds Tryz.pinned (.plain (OpenSpec.upto benchGivenSpec)) benchGivenUptoCard

/-- THE SECOND FORM's CARD OF 'mahlsticklaw06.BenchMores'. -/
def benchMoresUptoCard : Claim7 := { stood := { row := benchMoresUptoRow, standIns := [], harness := (true, "8771728aba0d1714095fb83e05d29a8b88380942a44dd647203ff7e14084f3ef"), looks := true }, kinds := [], alts := [], laidByText := true, laidKinds := [.data, .data, .data, .data, .pinned], laidTests := true, laidLooks := .later }
def BenchMoresUptoCardSaid : Prop := Claim7.holds Tryz.pinned (.plain (OpenSpec.upto benchMoresSpec)) benchMoresUptoCard

/-- THE SECOND FORM's CARD OF 'mahlsticklaw06.BenchEnough'. -/
def benchEnoughUptoCard : Claim7 := { stood := { row := benchEnoughUptoRow, standIns := [], harness := (true, "8771728aba0d1714095fb83e05d29a8b88380942a44dd647203ff7e14084f3ef"), looks := true }, kinds := [], alts := [], laidByText := true, laidKinds := [.data, .data, .data, .data, .pinned], laidTests := true, laidLooks := .later }
def BenchEnoughUptoCardSaid : Prop := Claim7.holds Tryz.pinned (.plain (OpenSpec.upto benchEnoughSpec)) benchEnoughUptoCard

/-- THE SECOND FORM's CARD OF 'mahlsticklaw06.BenchMore'. -/
def benchMoreUptoCard : Claim7 := { stood := { row := benchMoreUptoRow, standIns := [], harness := (true, "8771728aba0d1714095fb83e05d29a8b88380942a44dd647203ff7e14084f3ef"), looks := true }, kinds := [], alts := [], laidByText := true, laidKinds := [.data, .data, .data, .data, .pinned], laidTests := true, laidLooks := .later }
def BenchMoreUptoCardSaid : Prop := Claim7.holds Tryz.pinned (.plain (OpenSpec.upto benchMoreSpec)) benchMoreUptoCard

/-- THE SECOND FORM's CARD OF 'mahlsticklaw06.BenchNamed'. -/
def benchNamedUptoCard : Claim7 := { stood := { row := benchNamedUptoRow, standIns := [], harness := (true, "8771728aba0d1714095fb83e05d29a8b88380942a44dd647203ff7e14084f3ef"), looks := true }, kinds := [], alts := [], laidByText := true, laidKinds := [.data, .data, .data, .data, .pinned], laidTests := true, laidLooks := .later }
def BenchNamedUptoCardSaid : Prop := Claim7.holds Tryz.pinned (.plain (OpenSpec.upto benchNamedSpec)) benchNamedUptoCard

/-- THE SECOND FORM's CARD OF 'mahlsticklaw06.BenchEnds'. -/
def benchEndsUptoCard : Claim7 := { stood := { row := benchEndsUptoRow, standIns := [], harness := (true, "8771728aba0d1714095fb83e05d29a8b88380942a44dd647203ff7e14084f3ef"), looks := true }, kinds := [], alts := [], laidByText := true, laidKinds := [.data, .data, .data, .data, .pinned], laidTests := true, laidLooks := .later }
def BenchEndsUptoCardSaid : Prop := Claim7.holds Tryz.pinned (.plain (OpenSpec.upto benchEndsSpec)) benchEndsUptoCard

/-- THE SECOND FORM's CARD OF 'mahlsticklaw06.BenchPrints'. -/
def benchPrintsUptoCard : Claim7 := { stood := { row := benchPrintsUptoRow, standIns := [], harness := (true, "8771728aba0d1714095fb83e05d29a8b88380942a44dd647203ff7e14084f3ef"), looks := true }, kinds := [], alts := [], laidByText := true, laidKinds := [.data, .data, .data, .data, .pinned], laidTests := true, laidLooks := .later }
def BenchPrintsUptoCardSaid : Prop := Claim7.holds Tryz.pinned (.plain (OpenSpec.upto benchPrintsSpec)) benchPrintsUptoCard

/-- THE SECOND FORM's CARD OF 'mahlsticklaw06.BenchReads'. -/
def benchReadsUptoCard : Claim7 := { stood := { row := benchReadsUptoRow, standIns := [], harness := (true, "8771728aba0d1714095fb83e05d29a8b88380942a44dd647203ff7e14084f3ef"), looks := true }, kinds := [], alts := [], laidByText := true, laidKinds := [.data, .data, .data, .data, .pinned], laidTests := true, laidLooks := .later }
def BenchReadsUptoCardSaid : Prop := Claim7.holds Tryz.pinned (.plain (OpenSpec.upto benchReadsSpec)) benchReadsUptoCard

/-- THE SECOND FORM's CARD OF 'mahlsticklaw06.BenchSpoilt'. -/
def benchSpoiltUptoCard : Claim7 := { stood := { row := benchSpoiltUptoRow, standIns := [], harness := (true, "8771728aba0d1714095fb83e05d29a8b88380942a44dd647203ff7e14084f3ef"), looks := true }, kinds := [], alts := [], laidByText := true, laidKinds := [.data, .data, .data, .data, .pinned], laidTests := true, laidLooks := .later }
def BenchSpoiltUptoCardSaid : Prop := Claim7.holds Tryz.pinned (.plain (OpenSpec.upto benchSpoiltSpec)) benchSpoiltUptoCard
end Rows
end Go.Proofs.YtfndfpbdgjoilaaGreatDoor
