/-
  DERIVED. GIVEN WITH THE SEED: THE CARDS: each row of YthimnnnfgangbaaDoorRows.lean that lists a variable, with what it lists TIED to the program's text (the seventh form; the later family's looks); each row that meets fmt, with fmt's text TOLD by the authors' own Lean function (tested against real Go, not proved from fmt's source: count such statements apart). THE CARD IS WHAT COUNTS. Prove the row's statement (the work); the ties are given (YthimnnnfgangbaaDoorTie.lean); close each card by the builder's one call (the guide's Derived/Test/ToyasCard.lean, 'card_holds'). Laid BY PROGRAM, IN A SANDBOX (cutbox-door.mjs). By AI agents, Wed Nov 11 2026. No macro, syntax, notation, axiom, sorry.
-/
import Derived.Test.YthimnnnfgangbaaDoorRows
import GoSem.ClaimSeven
namespace Go.Proofs.YthimnnnfgangbaaDoor
namespace Rows

/-- THE TIED CARD OF 'waymarklaw30.QueryLines'. -/
def queryLinesCard : Claim7 := { stood := { row := queryLinesRow, standIns := [], harness := (true, "91080db62470ef81acd40b96a51e488ee7733b73354f3dc990dad67853483bfe"), looks := false }, kinds := [], alts := [], laidByText := true, laidKinds := [.data, .data, .data], laidTests := true, laidLooks := .later }
def QueryLinesCardSaid : Prop := Claim7.holds Tryd.pinned (.plain (OpenSpec.ofChange queryLinesSpec)) queryLinesCard

/-- THE TIED CARD OF 'waymarklaw30.QueryWires'. -/
def queryWiresCard : Claim7 := { stood := { row := queryWiresRow, standIns := [], harness := (true, "91080db62470ef81acd40b96a51e488ee7733b73354f3dc990dad67853483bfe"), looks := false }, kinds := [], alts := [], laidByText := true, laidKinds := [.data, .data, .data], laidTests := true, laidLooks := .later }
def QueryWiresCardSaid : Prop := Claim7.holds Tryd.pinned (.plain (OpenSpec.ofChange queryWiresSpec)) queryWiresCard

/-- THE TIED CARD OF 'waymarklaw30.QueryApart'. -/
def queryApartCard : Claim7 := { stood := { row := queryApartRow, standIns := [], harness := (true, "91080db62470ef81acd40b96a51e488ee7733b73354f3dc990dad67853483bfe"), looks := false }, kinds := [], alts := [], laidByText := true, laidKinds := [.data, .data, .data], laidTests := true, laidLooks := .later }
def QueryApartCardSaid : Prop := Claim7.holds Tryd.pinned (.plain (OpenSpec.ofChange queryApartSpec)) queryApartCard

/-- THE TIED CARD OF 'waymarklaw57.ChronTells'. -/
def chronTellsCard : Claim7 := { stood := { row := chronTellsRow, standIns := [], harness := (true, "91080db62470ef81acd40b96a51e488ee7733b73354f3dc990dad67853483bfe"), looks := false }, kinds := [], alts := [], laidByText := true, laidKinds := [.data, .data, .data], laidTests := true, laidLooks := .later }
def ChronTellsCardSaid : Prop := Claim7.holds Tryd.pinned (.plain (OpenSpec.ofChange chronTellsSpec)) chronTellsCard

/-- THE TIED CARD OF 'waymarklaw57.ChronRooms'. -/
def chronRoomsCard : Claim7 := { stood := { row := chronRoomsRow, standIns := [], harness := (true, "91080db62470ef81acd40b96a51e488ee7733b73354f3dc990dad67853483bfe"), looks := false }, kinds := [], alts := [], laidByText := true, laidKinds := [.data, .data, .data], laidTests := true, laidLooks := .later }
def ChronRoomsCardSaid : Prop := Claim7.holds Tryd.pinned (.plain (OpenSpec.ofChange chronRoomsSpec)) chronRoomsCard

/-- THE TIED CARD OF 'waymarklaw56.StatsCounts'. -/
def statsCountsCard : Claim7 := { stood := { row := statsCountsRow, standIns := [], harness := (true, "91080db62470ef81acd40b96a51e488ee7733b73354f3dc990dad67853483bfe"), looks := false }, kinds := [], alts := [], laidByText := true, laidKinds := [.data, .data, .data], laidTests := true, laidLooks := .later }
def StatsCountsCardSaid : Prop := Claim7.holds Tryd.pinned (.plain (OpenSpec.ofChange statsCountsSpec)) statsCountsCard

/-- THE TIED CARD OF 'waymarklaw56.StatsJoins'. -/
def statsJoinsCard : Claim7 := { stood := { row := statsJoinsRow, standIns := [], harness := (true, "91080db62470ef81acd40b96a51e488ee7733b73354f3dc990dad67853483bfe"), looks := false }, kinds := [], alts := [], laidByText := true, laidKinds := [.data, .data, .data], laidTests := true, laidLooks := .later }
def StatsJoinsCardSaid : Prop := Claim7.holds Tryd.pinned (.plain (OpenSpec.ofChange statsJoinsSpec)) statsJoinsCard

/-- THE SECOND FORM's CARD OF 'waymarklaw30.QueryLines'. -/
def queryLinesUptoCard : Claim7 := { stood := { row := queryLinesUptoRow, standIns := [], harness := (true, "91080db62470ef81acd40b96a51e488ee7733b73354f3dc990dad67853483bfe"), looks := false }, kinds := [], alts := [], laidByText := true, laidKinds := [.data, .data, .data], laidTests := true, laidLooks := .later }
def QueryLinesUptoCardSaid : Prop := Claim7.holds Tryd.pinned (.plain (OpenSpec.upto queryLinesSpec)) queryLinesUptoCard

/-- THE SECOND FORM's CARD OF 'waymarklaw30.QueryWires'. -/
def queryWiresUptoCard : Claim7 := { stood := { row := queryWiresUptoRow, standIns := [], harness := (true, "91080db62470ef81acd40b96a51e488ee7733b73354f3dc990dad67853483bfe"), looks := false }, kinds := [], alts := [], laidByText := true, laidKinds := [.data, .data, .data], laidTests := true, laidLooks := .later }
def QueryWiresUptoCardSaid : Prop := Claim7.holds Tryd.pinned (.plain (OpenSpec.upto queryWiresSpec)) queryWiresUptoCard

/-- THE SECOND FORM's CARD OF 'waymarklaw30.QueryApart'. -/
def queryApartUptoCard : Claim7 := { stood := { row := queryApartUptoRow, standIns := [], harness := (true, "91080db62470ef81acd40b96a51e488ee7733b73354f3dc990dad67853483bfe"), looks := false }, kinds := [], alts := [], laidByText := true, laidKinds := [.data, .data, .data], laidTests := true, laidLooks := .later }
def QueryApartUptoCardSaid : Prop := Claim7.holds Tryd.pinned (.plain (OpenSpec.upto queryApartSpec)) queryApartUptoCard

/-- THE SECOND FORM's CARD OF 'waymarklaw57.ChronTells'. -/
def chronTellsUptoCard : Claim7 := { stood := { row := chronTellsUptoRow, standIns := [], harness := (true, "91080db62470ef81acd40b96a51e488ee7733b73354f3dc990dad67853483bfe"), looks := false }, kinds := [], alts := [], laidByText := true, laidKinds := [.data, .data, .data], laidTests := true, laidLooks := .later }
def ChronTellsUptoCardSaid : Prop := Claim7.holds Tryd.pinned (.plain (OpenSpec.upto chronTellsSpec)) chronTellsUptoCard

/-- THE SECOND FORM's CARD OF 'waymarklaw57.ChronRooms'. -/
def chronRoomsUptoCard : Claim7 := { stood := { row := chronRoomsUptoRow, standIns := [], harness := (true, "91080db62470ef81acd40b96a51e488ee7733b73354f3dc990dad67853483bfe"), looks := false }, kinds := [], alts := [], laidByText := true, laidKinds := [.data, .data, .data], laidTests := true, laidLooks := .later }
def ChronRoomsUptoCardSaid : Prop := Claim7.holds Tryd.pinned (.plain (OpenSpec.upto chronRoomsSpec)) chronRoomsUptoCard

/-- THE SECOND FORM's CARD OF 'waymarklaw56.StatsCounts'. -/
def statsCountsUptoCard : Claim7 := { stood := { row := statsCountsUptoRow, standIns := [], harness := (true, "91080db62470ef81acd40b96a51e488ee7733b73354f3dc990dad67853483bfe"), looks := false }, kinds := [], alts := [], laidByText := true, laidKinds := [.data, .data, .data], laidTests := true, laidLooks := .later }
def StatsCountsUptoCardSaid : Prop := Claim7.holds Tryd.pinned (.plain (OpenSpec.upto statsCountsSpec)) statsCountsUptoCard

/-- THE SECOND FORM's CARD OF 'waymarklaw56.StatsJoins'. -/
def statsJoinsUptoCard : Claim7 := { stood := { row := statsJoinsUptoRow, standIns := [], harness := (true, "91080db62470ef81acd40b96a51e488ee7733b73354f3dc990dad67853483bfe"), looks := false }, kinds := [], alts := [], laidByText := true, laidKinds := [.data, .data, .data], laidTests := true, laidLooks := .later }
def StatsJoinsUptoCardSaid : Prop := Claim7.holds Tryd.pinned (.plain (OpenSpec.upto statsJoinsSpec)) statsJoinsUptoCard
end Rows
end Go.Proofs.YthimnnnfgangbaaDoor
