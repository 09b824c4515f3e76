/-
  DERIVED. GIVEN WITH THE SEED: THE CARDS: each row of YtohlmoppcmjknaaGreatDoorRows.lean that lists a variable, with what it lists TIED to the program's text (the seventh form; the later family's looks); each row that meets fmt, with fmt's text TOLD by the authors' own Lean function (tested against real Go, not proved from fmt's source: count such statements apart). THE CARD IS WHAT COUNTS. Prove the row's statement (the work); the ties are given (YtohlmoppcmjknaaGreatDoorTie.lean); close each card by the builder's one call (the guide's Derived/Test/ToyasCard.lean, 'card_holds'). Laid BY PROGRAM, IN A SANDBOX (cutbox-door.mjs). By AI agents, Wed Nov 11 2026. No macro, syntax, notation, axiom, sorry.
-/
import Derived.Test.YtohlmoppcmjknaaGreatDoorRows
import GoSem.ClaimSeven
namespace Go.Proofs.YtohlmoppcmjknaaGreatDoor
namespace Rows

/-- THE TIED CARD OF 'ephemeristlaw03.ColumnSums'. -/
def columnSumsCard : Claim7 := { stood := { row := columnSumsRow, standIns := [], harness := (true, "7f37d9d6a7fa0705a98fa9ed146456bf698ab46bb3b98b6409a2b630b642219a"), looks := true }, kinds := [], alts := [], laidByText := true, laidKinds := [.data, .data, .data, .data, .pinned], laidTests := true, laidLooks := .later }
def ColumnSumsCardSaid : Prop := Claim7.holds Tryz.pinned (.plain (OpenSpec.ofChange columnSumsSpec)) columnSumsCard

/-- THE TIED CARD OF 'ephemeristlaw03.ColumnWidens'. -/
def columnWidensCard : Claim7 := { stood := { row := columnWidensRow, standIns := [], harness := (true, "7f37d9d6a7fa0705a98fa9ed146456bf698ab46bb3b98b6409a2b630b642219a"), looks := true }, kinds := [], alts := [], laidByText := true, laidKinds := [.data, .data, .data, .data, .pinned], laidTests := true, laidLooks := .later }
def ColumnWidensCardSaid : Prop := Claim7.holds Tryz.pinned (.plain (OpenSpec.ofChange columnWidensSpec)) columnWidensCard

/-- THE TIED CARD OF 'ephemeristlaw03.ColumnSpoilt'. -/
def columnSpoiltCard : Claim7 := { stood := { row := columnSpoiltRow, standIns := [], harness := (true, "7f37d9d6a7fa0705a98fa9ed146456bf698ab46bb3b98b6409a2b630b642219a"), looks := true }, kinds := [], alts := [], laidByText := true, laidKinds := [.data, .data, .data, .data, .pinned], laidTests := true, laidLooks := .later }
def ColumnSpoiltCardSaid : Prop := Claim7.holds Tryz.pinned (.plain (OpenSpec.ofChange columnSpoiltSpec)) columnSpoiltCard

/-- THE TIED CARD OF 'ephemeristlaw03.ColumnRival'. -/
def columnRivalCard : Claim7 := { stood := { row := columnRivalRow, standIns := [], harness := (true, "7f37d9d6a7fa0705a98fa9ed146456bf698ab46bb3b98b6409a2b630b642219a"), looks := true }, kinds := [], alts := [], laidByText := true, laidKinds := [.data, .data, .data, .data, .pinned], laidTests := true, laidLooks := .later }
def ColumnRivalCardSaid : Prop := Claim7.holds Tryz.pinned (.plain (OpenSpec.ofChange columnRivalSpec)) columnRivalCard

/-- THE TIED CARD OF 'ephemeristlaw03.ColumnMade'. -/
def columnMadeCard : Claim7 := { stood := { row := columnMadeRow, standIns := [], harness := (true, "7f37d9d6a7fa0705a98fa9ed146456bf698ab46bb3b98b6409a2b630b642219a"), looks := true }, kinds := [], alts := [], laidByText := true, laidKinds := [.data, .data, .data, .data, .pinned], laidTests := true, laidLooks := .later }
def ColumnMadeCardSaid : Prop := Claim7.holds Tryz.pinned (.plain (OpenSpec.ofChange columnMadeSpec)) columnMadeCard

/-- THE TIED CARD OF 'ephemeristlaw03.ColumnDual'. -/
def columnDualCard : Claim7 := { stood := { row := columnDualRow, standIns := [], harness := (true, "7f37d9d6a7fa0705a98fa9ed146456bf698ab46bb3b98b6409a2b630b642219a"), looks := true }, kinds := [], alts := [], laidByText := true, laidKinds := [.data, .data, .data, .data, .pinned], laidTests := true, laidLooks := .later }
def ColumnDualCardSaid : Prop := Claim7.holds Tryz.pinned (.plain (OpenSpec.ofChange columnDualSpec)) columnDualCard

/-- THE TIED CARD OF 'ephemeristlaw03.ColumnFitting'. -/
def columnFittingCard : Claim7 := { stood := { row := columnFittingRow, standIns := [], harness := (true, "7f37d9d6a7fa0705a98fa9ed146456bf698ab46bb3b98b6409a2b630b642219a"), looks := true }, kinds := [], alts := [], laidByText := true, laidKinds := [.data, .data, .data, .data, .pinned], laidTests := true, laidLooks := .later }
def ColumnFittingCardSaid : Prop := Claim7.holds Tryz.pinned (.plain (OpenSpec.ofChange columnFittingSpec)) columnFittingCard

/-- THE TIED CARD OF 'ephemeristlaw03.ColumnFixed'. -/
def columnFixedCard : Claim7 := { stood := { row := columnFixedRow, standIns := [], harness := (true, "7f37d9d6a7fa0705a98fa9ed146456bf698ab46bb3b98b6409a2b630b642219a"), looks := true }, kinds := [], alts := [], laidByText := true, laidKinds := [.data, .data, .data, .data, .pinned], laidTests := true, laidLooks := .later }
def ColumnFixedCardSaid : Prop := Claim7.holds Tryz.pinned (.plain (OpenSpec.ofChange columnFixedSpec)) columnFixedCard

/-- THE TIED CARD OF 'ephemeristlaw03.ColumnTurned'. -/
def columnTurnedCard : Claim7 := { stood := { row := columnTurnedRow, standIns := [], harness := (true, "7f37d9d6a7fa0705a98fa9ed146456bf698ab46bb3b98b6409a2b630b642219a"), looks := true }, kinds := [], alts := [], laidByText := true, laidKinds := [.data, .data, .data, .data, .pinned], laidTests := true, laidLooks := .later }
def ColumnTurnedCardSaid : Prop := Claim7.holds Tryz.pinned (.plain (OpenSpec.ofChange columnTurnedSpec)) columnTurnedCard

/-- THE TIED CARD OF 'ephemeristlaw03.ColumnMore'. -/
def columnMoreCard : Claim7 := { stood := { row := columnMoreRow, standIns := [], harness := (true, "7f37d9d6a7fa0705a98fa9ed146456bf698ab46bb3b98b6409a2b630b642219a"), looks := true }, kinds := [], alts := [], laidByText := true, laidKinds := [.data, .data, .data, .data, .pinned], laidTests := true, laidLooks := .later }
def ColumnMoreCardSaid : Prop := Claim7.holds Tryz.pinned (.plain (OpenSpec.ofChange columnMoreSpec)) columnMoreCard

/-- THE TIED CARD OF 'ephemeristlaw03.ColumnPrints'. -/
def columnPrintsCard : Claim7 := { stood := { row := columnPrintsRow, standIns := [], harness := (true, "7f37d9d6a7fa0705a98fa9ed146456bf698ab46bb3b98b6409a2b630b642219a"), looks := true }, kinds := [], alts := [], laidByText := true, laidKinds := [.data, .data, .data, .data, .pinned], laidTests := true, laidLooks := .later }
def ColumnPrintsCardSaid : Prop := Claim7.holds Tryz.pinned (.plain (OpenSpec.ofChange columnPrintsSpec)) columnPrintsCard

/-- THE TIED CARD OF 'ephemeristlaw03.ColumnReads'. -/
def columnReadsCard : Claim7 := { stood := { row := columnReadsRow, standIns := [], harness := (true, "7f37d9d6a7fa0705a98fa9ed146456bf698ab46bb3b98b6409a2b630b642219a"), looks := true }, kinds := [], alts := [], laidByText := true, laidKinds := [.data, .data, .data, .data, .pinned], laidTests := true, laidLooks := .later }
def ColumnReadsCardSaid : Prop := Claim7.holds Tryz.pinned (.plain (OpenSpec.ofChange columnReadsSpec)) columnReadsCard

/-- THE SECOND FORM's CARD OF 'ephemeristlaw03.ColumnSums'. -/
def columnSumsUptoCard : Claim7 := { stood := { row := columnSumsUptoRow, standIns := [], harness := (true, "7f37d9d6a7fa0705a98fa9ed146456bf698ab46bb3b98b6409a2b630b642219a"), looks := true }, kinds := [], alts := [], laidByText := true, laidKinds := [.data, .data, .data, .data, .pinned], laidTests := true, laidLooks := .later }
def ColumnSumsUptoCardSaid : Prop := Claim7.holds Tryz.pinned (.plain (OpenSpec.upto columnSumsSpec)) columnSumsUptoCard

/-- THE SECOND FORM's CARD OF 'ephemeristlaw03.ColumnWidens'. -/
def columnWidensUptoCard : Claim7 := { stood := { row := columnWidensUptoRow, standIns := [], harness := (true, "7f37d9d6a7fa0705a98fa9ed146456bf698ab46bb3b98b6409a2b630b642219a"), looks := true }, kinds := [], alts := [], laidByText := true, laidKinds := [.data, .data, .data, .data, .pinned], laidTests := true, laidLooks := .later }
def ColumnWidensUptoCardSaid : Prop := Claim7.holds Tryz.pinned (.plain (OpenSpec.upto columnWidensSpec)) columnWidensUptoCard

/-- THE SECOND FORM's CARD OF 'ephemeristlaw03.ColumnSpoilt'. -/
def columnSpoiltUptoCard : Claim7 := { stood := { row := columnSpoiltUptoRow, standIns := [], harness := (true, "7f37d9d6a7fa0705a98fa9ed146456bf698ab46bb3b98b6409a2b630b642219a"), looks := true }, kinds := [], alts := [], laidByText := true, laidKinds := [.data, .data, .data, .data, .pinned], laidTests := true, laidLooks := .later }
def ColumnSpoiltUptoCardSaid : Prop := Claim7.holds Tryz.pinned (.plain (OpenSpec.upto columnSpoiltSpec)) columnSpoiltUptoCard

/-- THE SECOND FORM's CARD OF 'ephemeristlaw03.ColumnRival'. -/
def columnRivalUptoCard : Claim7 := { stood := { row := columnRivalUptoRow, standIns := [], harness := (true, "7f37d9d6a7fa0705a98fa9ed146456bf698ab46bb3b98b6409a2b630b642219a"), looks := true }, kinds := [], alts := [], laidByText := true, laidKinds := [.data, .data, .data, .data, .pinned], laidTests := true, laidLooks := .later }
def ColumnRivalUptoCardSaid : Prop := Claim7.holds Tryz.pinned (.plain (OpenSpec.upto columnRivalSpec)) columnRivalUptoCard

/-- THE SECOND FORM's CARD OF 'ephemeristlaw03.ColumnMade'. -/
def columnMadeUptoCard : Claim7 := { stood := { row := columnMadeUptoRow, standIns := [], harness := (true, "7f37d9d6a7fa0705a98fa9ed146456bf698ab46bb3b98b6409a2b630b642219a"), looks := true }, kinds := [], alts := [], laidByText := true, laidKinds := [.data, .data, .data, .data, .pinned], laidTests := true, laidLooks := .later }
def ColumnMadeUptoCardSaid : Prop := Claim7.holds Tryz.pinned (.plain (OpenSpec.upto columnMadeSpec)) columnMadeUptoCard

/-- THE SECOND FORM's CARD OF 'ephemeristlaw03.ColumnDual'. -/
def columnDualUptoCard : Claim7 := { stood := { row := columnDualUptoRow, standIns := [], harness := (true, "7f37d9d6a7fa0705a98fa9ed146456bf698ab46bb3b98b6409a2b630b642219a"), looks := true }, kinds := [], alts := [], laidByText := true, laidKinds := [.data, .data, .data, .data, .pinned], laidTests := true, laidLooks := .later }
def ColumnDualUptoCardSaid : Prop := Claim7.holds Tryz.pinned (.plain (OpenSpec.upto columnDualSpec)) columnDualUptoCard

/-- THE SECOND FORM's CARD OF 'ephemeristlaw03.ColumnFitting'. -/
def columnFittingUptoCard : Claim7 := { stood := { row := columnFittingUptoRow, standIns := [], harness := (true, "7f37d9d6a7fa0705a98fa9ed146456bf698ab46bb3b98b6409a2b630b642219a"), looks := true }, kinds := [], alts := [], laidByText := true, laidKinds := [.data, .data, .data, .data, .pinned], laidTests := true, laidLooks := .later }
def ColumnFittingUptoCardSaid : Prop := Claim7.holds Tryz.pinned (.plain (OpenSpec.upto columnFittingSpec)) columnFittingUptoCard

/-- THE SECOND FORM's CARD OF 'ephemeristlaw03.ColumnFixed'. -/
def columnFixedUptoCard : Claim7 := { stood := { row := columnFixedUptoRow, standIns := [], harness := (true, "7f37d9d6a7fa0705a98fa9ed146456bf698ab46bb3b98b6409a2b630b642219a"), looks := true }, kinds := [], alts := [], laidByText := true, laidKinds := [.data, .data, .data, .data, .pinned], laidTests := true, laidLooks := .later }
def ColumnFixedUptoCardSaid : Prop := Claim7.holds Tryz.pinned (.plain (OpenSpec.upto columnFixedSpec)) columnFixedUptoCard

/-- THE SECOND FORM's CARD OF 'ephemeristlaw03.ColumnTurned'. -/
def columnTurnedUptoCard : Claim7 := { stood := { row := columnTurnedUptoRow, standIns := [], harness := (true, "7f37d9d6a7fa0705a98fa9ed146456bf698ab46bb3b98b6409a2b630b642219a"), looks := true }, kinds := [], alts := [], laidByText := true, laidKinds := [.data, .data, .data, .data, .pinned], laidTests := true, laidLooks := .later }
def ColumnTurnedUptoCardSaid : Prop := Claim7.holds Tryz.pinned (.plain (OpenSpec.upto columnTurnedSpec)) columnTurnedUptoCard

/-- THE SECOND FORM's CARD OF 'ephemeristlaw03.ColumnMore'. -/
def columnMoreUptoCard : Claim7 := { stood := { row := columnMoreUptoRow, standIns := [], harness := (true, "7f37d9d6a7fa0705a98fa9ed146456bf698ab46bb3b98b6409a2b630b642219a"), looks := true }, kinds := [], alts := [], laidByText := true, laidKinds := [.data, .data, .data, .data, .pinned], laidTests := true, laidLooks := .later }
def ColumnMoreUptoCardSaid : Prop := Claim7.holds Tryz.pinned (.plain (OpenSpec.upto columnMoreSpec)) columnMoreUptoCard

/-- THE SECOND FORM's CARD OF 'ephemeristlaw03.ColumnPrints'. -/
def columnPrintsUptoCard : Claim7 := { stood := { row := columnPrintsUptoRow, standIns := [], harness := (true, "7f37d9d6a7fa0705a98fa9ed146456bf698ab46bb3b98b6409a2b630b642219a"), looks := true }, kinds := [], alts := [], laidByText := true, laidKinds := [.data, .data, .data, .data, .pinned], laidTests := true, laidLooks := .later }
def ColumnPrintsUptoCardSaid : Prop := Claim7.holds Tryz.pinned (.plain (OpenSpec.upto columnPrintsSpec)) columnPrintsUptoCard

/-- THE SECOND FORM's CARD OF 'ephemeristlaw03.ColumnReads'. -/
def columnReadsUptoCard : Claim7 := { stood := { row := columnReadsUptoRow, standIns := [], harness := (true, "7f37d9d6a7fa0705a98fa9ed146456bf698ab46bb3b98b6409a2b630b642219a"), looks := true }, kinds := [], alts := [], laidByText := true, laidKinds := [.data, .data, .data, .data, .pinned], laidTests := true, laidLooks := .later }
def ColumnReadsUptoCardSaid : Prop := Claim7.holds Tryz.pinned (.plain (OpenSpec.upto columnReadsSpec)) columnReadsUptoCard
end Rows
end Go.Proofs.YtohlmoppcmjknaaGreatDoor
