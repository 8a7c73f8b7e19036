/-
  DERIVED. GIVEN WITH THE SEED: THE CARDS: each row of YtjidjpcnocddeaaGreatDoorRows.lean that lists a variable, with what it lists TIED to the program's text (the seventh form; the later family's looks); each row that meets fmt, with fmt's text TOLD by the authors' own Lean function (tested against real Go, not proved from fmt's source: count such statements apart). THE CARD IS WHAT COUNTS. Prove the row's statement (the work); the ties are given (YtjidjpcnocddeaaGreatDoorTie.lean); close each card by the builder's one call (the guide's Derived/Test/ToyasCard.lean, 'card_holds'). Laid BY PROGRAM, IN A SANDBOX (cutbox-door.mjs). By AI agents, Wed Nov 11 2026. No macro, syntax, notation, axiom, sorry.
-/
import Derived.Test.YtjidjpcnocddeaaGreatDoorRows
import GoSem.ClaimSeven
namespace Go.Proofs.YtjidjpcnocddeaaGreatDoor
namespace Rows

/-- THE TIED CARD OF 'mahlsticklaw03.CoatHolds'. -/
def coatHoldsCard : Claim7 := { stood := { row := coatHoldsRow, standIns := [], harness := (true, "e18d2fa59430c9db63e27f5ab18d1051f1b0a0240b18512bd17279043dffdeaf"), looks := true }, kinds := [], alts := [], laidByText := true, laidKinds := [.data, .data, .data, .data, .pinned], laidTests := true, laidLooks := .later }
def CoatHoldsCardSaid : Prop := Claim7.holds Tryz.pinned (.plain (OpenSpec.ofChange coatHoldsSpec)) coatHoldsCard

/-- THE TIED CARD OF 'mahlsticklaw03.CoatTrue'. -/
def coatTrueCard : Claim7 := { stood := { row := coatTrueRow, standIns := [], harness := (true, "e18d2fa59430c9db63e27f5ab18d1051f1b0a0240b18512bd17279043dffdeaf"), looks := true }, kinds := [], alts := [], laidByText := true, laidKinds := [.data, .data, .data, .data, .pinned], laidTests := true, laidLooks := .later }
def CoatTrueCardSaid : Prop := Claim7.holds Tryz.pinned (.plain (OpenSpec.ofChange coatTrueSpec)) coatTrueCard

/-- THE TIED CARD OF 'mahlsticklaw03.CoatFails'. -/
def coatFailsCard : Claim7 := { stood := { row := coatFailsRow, standIns := [], harness := (true, "e18d2fa59430c9db63e27f5ab18d1051f1b0a0240b18512bd17279043dffdeaf"), looks := true }, kinds := [], alts := [], laidByText := true, laidKinds := [.data, .data, .data, .data, .pinned], laidTests := true, laidLooks := .later }
def CoatFailsCardSaid : Prop := Claim7.holds Tryz.pinned (.plain (OpenSpec.ofChange coatFailsSpec)) coatFailsCard

/-- THE TIED CARD OF 'mahlsticklaw03.CoatProved'. -/
def coatProvedCard : Claim7 := { stood := { row := coatProvedRow, standIns := [], harness := (true, "e18d2fa59430c9db63e27f5ab18d1051f1b0a0240b18512bd17279043dffdeaf"), looks := true }, kinds := [], alts := [], laidByText := true, laidKinds := [.data, .data, .data, .data, .pinned], laidTests := true, laidLooks := .later }
def CoatProvedCardSaid : Prop := Claim7.holds Tryz.pinned (.plain (OpenSpec.ofChange coatProvedSpec)) coatProvedCard

/-- THE TIED CARD OF 'mahlsticklaw03.CoatFirsts'. -/
def coatFirstsCard : Claim7 := { stood := { row := coatFirstsRow, standIns := [], harness := (true, "e18d2fa59430c9db63e27f5ab18d1051f1b0a0240b18512bd17279043dffdeaf"), looks := true }, kinds := [], alts := [], laidByText := true, laidKinds := [.data, .data, .data, .data, .pinned], laidTests := true, laidLooks := .later }
def CoatFirstsCardSaid : Prop := Claim7.holds Tryz.pinned (.plain (OpenSpec.ofChange coatFirstsSpec)) coatFirstsCard

/-- THE TIED CARD OF 'mahlsticklaw03.CoatRival'. -/
def coatRivalCard : Claim7 := { stood := { row := coatRivalRow, standIns := [], harness := (true, "e18d2fa59430c9db63e27f5ab18d1051f1b0a0240b18512bd17279043dffdeaf"), looks := true }, kinds := [], alts := [], laidByText := true, laidKinds := [.data, .data, .data, .data, .pinned], laidTests := true, laidLooks := .later }
def CoatRivalCardSaid : Prop := Claim7.holds Tryz.pinned (.plain (OpenSpec.ofChange coatRivalSpec)) coatRivalCard

/-- THE TIED CARD OF 'mahlsticklaw03.CoatDays'. -/
def coatDaysCard : Claim7 := { stood := { row := coatDaysRow, standIns := [], harness := (true, "e18d2fa59430c9db63e27f5ab18d1051f1b0a0240b18512bd17279043dffdeaf"), looks := true }, kinds := [], alts := [], laidByText := true, laidKinds := [.data, .data, .data, .data, .pinned], laidTests := true, laidLooks := .later }
def CoatDaysCardSaid : Prop := Claim7.holds Tryz.pinned (.plain (OpenSpec.ofChange coatDaysSpec)) coatDaysCard

/-- THE TIED CARD OF 'mahlsticklaw03.CoatPlaced'. -/
def coatPlacedCard : Claim7 := { stood := { row := coatPlacedRow, standIns := [], harness := (true, "e18d2fa59430c9db63e27f5ab18d1051f1b0a0240b18512bd17279043dffdeaf"), looks := true }, kinds := [], alts := [], laidByText := true, laidKinds := [.data, .data, .data, .data, .pinned], laidTests := true, laidLooks := .later }
def CoatPlacedCardSaid : Prop := Claim7.holds Tryz.pinned (.plain (OpenSpec.ofChange coatPlacedSpec)) coatPlacedCard

/-- THE TIED CARD OF 'mahlsticklaw03.CoatStucks'. -/
def coatStucksCard : Claim7 := { stood := { row := coatStucksRow, standIns := [], harness := (true, "e18d2fa59430c9db63e27f5ab18d1051f1b0a0240b18512bd17279043dffdeaf"), looks := true }, kinds := [], alts := [], laidByText := true, laidKinds := [.data, .data, .data, .data, .pinned], laidTests := true, laidLooks := .later }
def CoatStucksCardSaid : Prop := Claim7.holds Tryz.pinned (.plain (OpenSpec.ofChange coatStucksSpec)) coatStucksCard

/-- THE TIED CARD OF 'mahlsticklaw03.CoatReached'. -/
def coatReachedCard : Claim7 := { stood := { row := coatReachedRow, standIns := [], harness := (true, "e18d2fa59430c9db63e27f5ab18d1051f1b0a0240b18512bd17279043dffdeaf"), looks := true }, kinds := [], alts := [], laidByText := true, laidKinds := [.data, .data, .data, .data, .pinned], laidTests := true, laidLooks := .later }
def CoatReachedCardSaid : Prop := Claim7.holds Tryz.pinned (.plain (OpenSpec.ofChange coatReachedSpec)) coatReachedCard

/-- THE TIED CARD OF 'mahlsticklaw03.CoatSlacks'. -/
def coatSlacksCard : Claim7 := { stood := { row := coatSlacksRow, standIns := [], harness := (true, "e18d2fa59430c9db63e27f5ab18d1051f1b0a0240b18512bd17279043dffdeaf"), looks := true }, kinds := [], alts := [], laidByText := true, laidKinds := [.data, .data, .data, .data, .pinned], laidTests := true, laidLooks := .later }
def CoatSlacksCardSaid : Prop := Claim7.holds Tryz.pinned (.plain (OpenSpec.ofChange coatSlacksSpec)) coatSlacksCard

/-- THE TIED CARD OF 'mahlsticklaw03.CoatWider'. -/
def coatWiderCard : Claim7 := { stood := { row := coatWiderRow, standIns := [], harness := (true, "e18d2fa59430c9db63e27f5ab18d1051f1b0a0240b18512bd17279043dffdeaf"), looks := true }, kinds := [], alts := [], laidByText := true, laidKinds := [.data, .data, .data, .data, .pinned], laidTests := true, laidLooks := .later }
def CoatWiderCardSaid : Prop := Claim7.holds Tryz.pinned (.plain (OpenSpec.ofChange coatWiderSpec)) coatWiderCard

/-- THE TIED CARD OF 'mahlsticklaw03.CoatMends'. -/
def coatMendsCard : Claim7 := { stood := { row := coatMendsRow, standIns := [], harness := (true, "e18d2fa59430c9db63e27f5ab18d1051f1b0a0240b18512bd17279043dffdeaf"), looks := true }, kinds := [], alts := [], laidByText := true, laidKinds := [.data, .data, .data, .data, .pinned], laidTests := true, laidLooks := .later }
def CoatMendsCardSaid : Prop := Claim7.holds Tryz.pinned (.plain (OpenSpec.ofChange coatMendsSpec)) coatMendsCard

/-- THE TIED CARD OF 'mahlsticklaw03.CoatKept'. -/
def coatKeptCard : Claim7 := { stood := { row := coatKeptRow, standIns := [], harness := (true, "e18d2fa59430c9db63e27f5ab18d1051f1b0a0240b18512bd17279043dffdeaf"), looks := true }, kinds := [], alts := [], laidByText := true, laidKinds := [.data, .data, .data, .data, .pinned], laidTests := true, laidLooks := .later }
def CoatKeptCardSaid : Prop := Claim7.holds Tryz.pinned (.plain (OpenSpec.ofChange coatKeptSpec)) coatKeptCard

/-- THE TIED CARD OF 'mahlsticklaw03.CoatMore'. -/
def coatMoreCard : Claim7 := { stood := { row := coatMoreRow, standIns := [], harness := (true, "e18d2fa59430c9db63e27f5ab18d1051f1b0a0240b18512bd17279043dffdeaf"), looks := true }, kinds := [], alts := [], laidByText := true, laidKinds := [.data, .data, .data, .data, .pinned], laidTests := true, laidLooks := .later }
def CoatMoreCardSaid : Prop := Claim7.holds Tryz.pinned (.plain (OpenSpec.ofChange coatMoreSpec)) coatMoreCard

/-- THE TIED CARD OF 'mahlsticklaw03.CoatWords'. -/
def coatWordsCard : Claim7 := { stood := { row := coatWordsRow, standIns := [], harness := (true, "e18d2fa59430c9db63e27f5ab18d1051f1b0a0240b18512bd17279043dffdeaf"), looks := true }, kinds := [], alts := [], laidByText := true, laidKinds := [.data, .data, .data, .data, .pinned], laidTests := true, laidLooks := .later }
def CoatWordsCardSaid : Prop := Claim7.holds Tryz.pinned (.plain (OpenSpec.ofChange coatWordsSpec)) coatWordsCard

/-- THE TIED CARD OF 'mahlsticklaw03.CoatPrints'. -/
def coatPrintsCard : Claim7 := { stood := { row := coatPrintsRow, standIns := [], harness := (true, "e18d2fa59430c9db63e27f5ab18d1051f1b0a0240b18512bd17279043dffdeaf"), looks := true }, kinds := [], alts := [], laidByText := true, laidKinds := [.data, .data, .data, .data, .pinned], laidTests := true, laidLooks := .later }
def CoatPrintsCardSaid : Prop := Claim7.holds Tryz.pinned (.plain (OpenSpec.ofChange coatPrintsSpec)) coatPrintsCard

/-- THE TIED CARD OF 'mahlsticklaw03.CoatReads'. -/
def coatReadsCard : Claim7 := { stood := { row := coatReadsRow, standIns := [], harness := (true, "e18d2fa59430c9db63e27f5ab18d1051f1b0a0240b18512bd17279043dffdeaf"), looks := true }, kinds := [], alts := [], laidByText := true, laidKinds := [.data, .data, .data, .data, .pinned], laidTests := true, laidLooks := .later }
def CoatReadsCardSaid : Prop := Claim7.holds Tryz.pinned (.plain (OpenSpec.ofChange coatReadsSpec)) coatReadsCard

/-- THE TIED CARD OF 'mahlsticklaw03.CoatSpoilt'. -/
def coatSpoiltCard : Claim7 := { stood := { row := coatSpoiltRow, standIns := [], harness := (true, "e18d2fa59430c9db63e27f5ab18d1051f1b0a0240b18512bd17279043dffdeaf"), looks := true }, kinds := [], alts := [], laidByText := true, laidKinds := [.data, .data, .data, .data, .pinned], laidTests := true, laidLooks := .later }
def CoatSpoiltCardSaid : Prop := Claim7.holds Tryz.pinned (.plain (OpenSpec.ofChange coatSpoiltSpec)) coatSpoiltCard

/-- THE SECOND FORM's CARD OF 'mahlsticklaw03.CoatHolds'. -/
def coatHoldsUptoCard : Claim7 := { stood := { row := coatHoldsUptoRow, standIns := [], harness := (true, "e18d2fa59430c9db63e27f5ab18d1051f1b0a0240b18512bd17279043dffdeaf"), looks := true }, kinds := [], alts := [], laidByText := true, laidKinds := [.data, .data, .data, .data, .pinned], laidTests := true, laidLooks := .later }
def CoatHoldsUptoCardSaid : Prop := Claim7.holds Tryz.pinned (.plain (OpenSpec.upto coatHoldsSpec)) coatHoldsUptoCard

/-- THE SECOND FORM's CARD OF 'mahlsticklaw03.CoatTrue'. -/
def coatTrueUptoCard : Claim7 := { stood := { row := coatTrueUptoRow, standIns := [], harness := (true, "e18d2fa59430c9db63e27f5ab18d1051f1b0a0240b18512bd17279043dffdeaf"), looks := true }, kinds := [], alts := [], laidByText := true, laidKinds := [.data, .data, .data, .data, .pinned], laidTests := true, laidLooks := .later }
def CoatTrueUptoCardSaid : Prop := Claim7.holds Tryz.pinned (.plain (OpenSpec.upto coatTrueSpec)) coatTrueUptoCard

/-- THE SECOND FORM's CARD OF 'mahlsticklaw03.CoatFails'. -/
def coatFailsUptoCard : Claim7 := { stood := { row := coatFailsUptoRow, standIns := [], harness := (true, "e18d2fa59430c9db63e27f5ab18d1051f1b0a0240b18512bd17279043dffdeaf"), looks := true }, kinds := [], alts := [], laidByText := true, laidKinds := [.data, .data, .data, .data, .pinned], laidTests := true, laidLooks := .later }
def CoatFailsUptoCardSaid : Prop := Claim7.holds Tryz.pinned (.plain (OpenSpec.upto coatFailsSpec)) coatFailsUptoCard

/-- THE SECOND FORM's CARD OF 'mahlsticklaw03.CoatProved'. -/
def coatProvedUptoCard : Claim7 := { stood := { row := coatProvedUptoRow, standIns := [], harness := (true, "e18d2fa59430c9db63e27f5ab18d1051f1b0a0240b18512bd17279043dffdeaf"), looks := true }, kinds := [], alts := [], laidByText := true, laidKinds := [.data, .data, .data, .data, .pinned], laidTests := true, laidLooks := .later }
def CoatProvedUptoCardSaid : Prop := Claim7.holds Tryz.pinned (.plain (OpenSpec.upto coatProvedSpec)) coatProvedUptoCard

/-- THE SECOND FORM's CARD OF 'mahlsticklaw03.CoatFirsts'. -/
def coatFirstsUptoCard : Claim7 := { stood := { row := coatFirstsUptoRow, standIns := [], harness := (true, "e18d2fa59430c9db63e27f5ab18d1051f1b0a0240b18512bd17279043dffdeaf"), looks := true }, kinds := [], alts := [], laidByText := true, laidKinds := [.data, .data, .data, .data, .pinned], laidTests := true, laidLooks := .later }
def CoatFirstsUptoCardSaid : Prop := Claim7.holds Tryz.pinned (.plain (OpenSpec.upto coatFirstsSpec)) coatFirstsUptoCard

/-- THE SECOND FORM's CARD OF 'mahlsticklaw03.CoatRival'. -/
def coatRivalUptoCard : Claim7 := { stood := { row := coatRivalUptoRow, standIns := [], harness := (true, "e18d2fa59430c9db63e27f5ab18d1051f1b0a0240b18512bd17279043dffdeaf"), looks := true }, kinds := [], alts := [], laidByText := true, laidKinds := [.data, .data, .data, .data, .pinned], laidTests := true, laidLooks := .later }
def CoatRivalUptoCardSaid : Prop := Claim7.holds Tryz.pinned (.plain (OpenSpec.upto coatRivalSpec)) coatRivalUptoCard

/-- THE SECOND FORM's CARD OF 'mahlsticklaw03.CoatDays'. -/
def coatDaysUptoCard : Claim7 := { stood := { row := coatDaysUptoRow, standIns := [], harness := (true, "e18d2fa59430c9db63e27f5ab18d1051f1b0a0240b18512bd17279043dffdeaf"), looks := true }, kinds := [], alts := [], laidByText := true, laidKinds := [.data, .data, .data, .data, .pinned], laidTests := true, laidLooks := .later }
def CoatDaysUptoCardSaid : Prop := Claim7.holds Tryz.pinned (.plain (OpenSpec.upto coatDaysSpec)) coatDaysUptoCard

/-- THE SECOND FORM's CARD OF 'mahlsticklaw03.CoatPlaced'. -/
def coatPlacedUptoCard : Claim7 := { stood := { row := coatPlacedUptoRow, standIns := [], harness := (true, "e18d2fa59430c9db63e27f5ab18d1051f1b0a0240b18512bd17279043dffdeaf"), looks := true }, kinds := [], alts := [], laidByText := true, laidKinds := [.data, .data, .data, .data, .pinned], laidTests := true, laidLooks := .later }
def CoatPlacedUptoCardSaid : Prop := Claim7.holds Tryz.pinned (.plain (OpenSpec.upto coatPlacedSpec)) coatPlacedUptoCard

/-- THE SECOND FORM's CARD OF 'mahlsticklaw03.CoatStucks'. -/
def coatStucksUptoCard : Claim7 := { stood := { row := coatStucksUptoRow, standIns := [], harness := (true, "e18d2fa59430c9db63e27f5ab18d1051f1b0a0240b18512bd17279043dffdeaf"), looks := true }, kinds := [], alts := [], laidByText := true, laidKinds := [.data, .data, .data, .data, .pinned], laidTests := true, laidLooks := .later }
def CoatStucksUptoCardSaid : Prop := Claim7.holds Tryz.pinned (.plain (OpenSpec.upto coatStucksSpec)) coatStucksUptoCard

/-- THE SECOND FORM's CARD OF 'mahlsticklaw03.CoatReached'. -/
def coatReachedUptoCard : Claim7 := { stood := { row := coatReachedUptoRow, standIns := [], harness := (true, "e18d2fa59430c9db63e27f5ab18d1051f1b0a0240b18512bd17279043dffdeaf"), looks := true }, kinds := [], alts := [], laidByText := true, laidKinds := [.data, .data, .data, .data, .pinned], laidTests := true, laidLooks := .later }
def CoatReachedUptoCardSaid : Prop := Claim7.holds Tryz.pinned (.plain (OpenSpec.upto coatReachedSpec)) coatReachedUptoCard

/-- THE SECOND FORM's CARD OF 'mahlsticklaw03.CoatSlacks'. -/
def coatSlacksUptoCard : Claim7 := { stood := { row := coatSlacksUptoRow, standIns := [], harness := (true, "e18d2fa59430c9db63e27f5ab18d1051f1b0a0240b18512bd17279043dffdeaf"), looks := true }, kinds := [], alts := [], laidByText := true, laidKinds := [.data, .data, .data, .data, .pinned], laidTests := true, laidLooks := .later }
def CoatSlacksUptoCardSaid : Prop := Claim7.holds Tryz.pinned (.plain (OpenSpec.upto coatSlacksSpec)) coatSlacksUptoCard

/-- THE SECOND FORM's CARD OF 'mahlsticklaw03.CoatWider'. -/
def coatWiderUptoCard : Claim7 := { stood := { row := coatWiderUptoRow, standIns := [], harness := (true, "e18d2fa59430c9db63e27f5ab18d1051f1b0a0240b18512bd17279043dffdeaf"), looks := true }, kinds := [], alts := [], laidByText := true, laidKinds := [.data, .data, .data, .data, .pinned], laidTests := true, laidLooks := .later }
def CoatWiderUptoCardSaid : Prop := Claim7.holds Tryz.pinned (.plain (OpenSpec.upto coatWiderSpec)) coatWiderUptoCard

/-- THE SECOND FORM's CARD OF 'mahlsticklaw03.CoatMends'. -/
def coatMendsUptoCard : Claim7 := { stood := { row := coatMendsUptoRow, standIns := [], harness := (true, "e18d2fa59430c9db63e27f5ab18d1051f1b0a0240b18512bd17279043dffdeaf"), looks := true }, kinds := [], alts := [], laidByText := true, laidKinds := [.data, .data, .data, .data, .pinned], laidTests := true, laidLooks := .later }
def CoatMendsUptoCardSaid : Prop := Claim7.holds Tryz.pinned (.plain (OpenSpec.upto coatMendsSpec)) coatMendsUptoCard

/-- THE SECOND FORM's CARD OF 'mahlsticklaw03.CoatKept'. -/
def coatKeptUptoCard : Claim7 := { stood := { row := coatKeptUptoRow, standIns := [], harness := (true, "e18d2fa59430c9db63e27f5ab18d1051f1b0a0240b18512bd17279043dffdeaf"), looks := true }, kinds := [], alts := [], laidByText := true, laidKinds := [.data, .data, .data, .data, .pinned], laidTests := true, laidLooks := .later }
def CoatKeptUptoCardSaid : Prop := Claim7.holds Tryz.pinned (.plain (OpenSpec.upto coatKeptSpec)) coatKeptUptoCard

/-- THE SECOND FORM's CARD OF 'mahlsticklaw03.CoatMore'. -/
def coatMoreUptoCard : Claim7 := { stood := { row := coatMoreUptoRow, standIns := [], harness := (true, "e18d2fa59430c9db63e27f5ab18d1051f1b0a0240b18512bd17279043dffdeaf"), looks := true }, kinds := [], alts := [], laidByText := true, laidKinds := [.data, .data, .data, .data, .pinned], laidTests := true, laidLooks := .later }
def CoatMoreUptoCardSaid : Prop := Claim7.holds Tryz.pinned (.plain (OpenSpec.upto coatMoreSpec)) coatMoreUptoCard

/-- THE SECOND FORM's CARD OF 'mahlsticklaw03.CoatWords'. -/
def coatWordsUptoCard : Claim7 := { stood := { row := coatWordsUptoRow, standIns := [], harness := (true, "e18d2fa59430c9db63e27f5ab18d1051f1b0a0240b18512bd17279043dffdeaf"), looks := true }, kinds := [], alts := [], laidByText := true, laidKinds := [.data, .data, .data, .data, .pinned], laidTests := true, laidLooks := .later }
def CoatWordsUptoCardSaid : Prop := Claim7.holds Tryz.pinned (.plain (OpenSpec.upto coatWordsSpec)) coatWordsUptoCard

/-- THE SECOND FORM's CARD OF 'mahlsticklaw03.CoatPrints'. -/
def coatPrintsUptoCard : Claim7 := { stood := { row := coatPrintsUptoRow, standIns := [], harness := (true, "e18d2fa59430c9db63e27f5ab18d1051f1b0a0240b18512bd17279043dffdeaf"), looks := true }, kinds := [], alts := [], laidByText := true, laidKinds := [.data, .data, .data, .data, .pinned], laidTests := true, laidLooks := .later }
def CoatPrintsUptoCardSaid : Prop := Claim7.holds Tryz.pinned (.plain (OpenSpec.upto coatPrintsSpec)) coatPrintsUptoCard

/-- THE SECOND FORM's CARD OF 'mahlsticklaw03.CoatReads'. -/
def coatReadsUptoCard : Claim7 := { stood := { row := coatReadsUptoRow, standIns := [], harness := (true, "e18d2fa59430c9db63e27f5ab18d1051f1b0a0240b18512bd17279043dffdeaf"), looks := true }, kinds := [], alts := [], laidByText := true, laidKinds := [.data, .data, .data, .data, .pinned], laidTests := true, laidLooks := .later }
def CoatReadsUptoCardSaid : Prop := Claim7.holds Tryz.pinned (.plain (OpenSpec.upto coatReadsSpec)) coatReadsUptoCard

/-- THE SECOND FORM's CARD OF 'mahlsticklaw03.CoatSpoilt'. -/
def coatSpoiltUptoCard : Claim7 := { stood := { row := coatSpoiltUptoRow, standIns := [], harness := (true, "e18d2fa59430c9db63e27f5ab18d1051f1b0a0240b18512bd17279043dffdeaf"), looks := true }, kinds := [], alts := [], laidByText := true, laidKinds := [.data, .data, .data, .data, .pinned], laidTests := true, laidLooks := .later }
def CoatSpoiltUptoCardSaid : Prop := Claim7.holds Tryz.pinned (.plain (OpenSpec.upto coatSpoiltSpec)) coatSpoiltUptoCard
end Rows
end Go.Proofs.YtjidjpcnocddeaaGreatDoor
