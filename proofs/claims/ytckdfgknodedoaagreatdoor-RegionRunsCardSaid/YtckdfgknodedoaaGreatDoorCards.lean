/-
  DERIVED. GIVEN WITH THE SEED: THE CARDS: each row of YtckdfgknodedoaaGreatDoorRows.lean that lists a variable, with what it lists TIED to the program's text (the seventh form; the later family's looks); each row that meets fmt, with fmt's text TOLD by the authors' own Lean function (tested against real Go, not proved from fmt's source: count such statements apart). THE CARD IS WHAT COUNTS. Prove the row's statement (the work); the ties are given (YtckdfgknodedoaaGreatDoorTie.lean); close each card by the builder's one call (the guide's Derived/Test/ToyasCard.lean, 'card_holds'). Laid BY PROGRAM, IN A SANDBOX (cutbox-door.mjs). By AI agents, Wed Nov 11 2026. No macro, syntax, notation, axiom, sorry.
-/
import Derived.Test.YtckdfgknodedoaaGreatDoorRows
import GoSem.ClaimSeven
namespace Go.Proofs.YtckdfgknodedoaaGreatDoor
namespace Rows

/-- THE TIED CARD OF 'rilllaw14.RegionRuns'. -/
def regionRunsCard : Claim7 := { stood := { row := regionRunsRow, standIns := [], harness := (true, "04a0b45ac7d0ded7d73077e2f412ec06d537507b127c30afbd5f98efc501a813"), looks := false }, kinds := [], alts := [], laidByText := true, laidKinds := [.data, .data], laidTests := true, laidLooks := .later }
def RegionRunsCardSaid : Prop := Claim7.holds Tryz.pinned (.plain (OpenSpec.ofChange regionRunsSpec)) regionRunsCard

/-- THE TIED CARD OF 'rilllaw14.RegionKnown'. -/
def regionKnownCard : Claim7 := { stood := { row := regionKnownRow, standIns := [], harness := (true, "04a0b45ac7d0ded7d73077e2f412ec06d537507b127c30afbd5f98efc501a813"), looks := false }, kinds := [], alts := [], laidByText := true, laidKinds := [.data, .data], laidTests := true, laidLooks := .later }
def RegionKnownCardSaid : Prop := Claim7.holds Tryz.pinned (.plain (OpenSpec.ofChange regionKnownSpec)) regionKnownCard

/-- THE TIED CARD OF 'rilllaw26.FormatRuns'. -/
def formatRunsCard : Claim7 := { stood := { row := formatRunsRow, standIns := [], harness := (true, "04a0b45ac7d0ded7d73077e2f412ec06d537507b127c30afbd5f98efc501a813"), looks := false }, kinds := [], alts := [], laidByText := true, laidKinds := [.data, .data], laidTests := true, laidLooks := .later }
def FormatRunsCardSaid : Prop := Claim7.holds Tryz.pinned (.plain (OpenSpec.ofChange formatRunsSpec)) formatRunsCard

/-- THE TIED CARD OF 'rilllaw26.FormatKnown'. -/
def formatKnownCard : Claim7 := { stood := { row := formatKnownRow, standIns := [], harness := (true, "04a0b45ac7d0ded7d73077e2f412ec06d537507b127c30afbd5f98efc501a813"), looks := false }, kinds := [], alts := [], laidByText := true, laidKinds := [.data, .data], laidTests := true, laidLooks := .later }
def FormatKnownCardSaid : Prop := Claim7.holds Tryz.pinned (.plain (OpenSpec.ofChange formatKnownSpec)) formatKnownCard

/-- THE SECOND FORM's CARD OF 'rilllaw14.RegionRuns'. -/
def regionRunsUptoCard : Claim7 := { stood := { row := regionRunsUptoRow, standIns := [], harness := (true, "04a0b45ac7d0ded7d73077e2f412ec06d537507b127c30afbd5f98efc501a813"), looks := false }, kinds := [], alts := [], laidByText := true, laidKinds := [.data, .data], laidTests := true, laidLooks := .later }
def RegionRunsUptoCardSaid : Prop := Claim7.holds Tryz.pinned (.plain (OpenSpec.upto regionRunsSpec)) regionRunsUptoCard

/-- THE SECOND FORM's CARD OF 'rilllaw14.RegionKnown'. -/
def regionKnownUptoCard : Claim7 := { stood := { row := regionKnownUptoRow, standIns := [], harness := (true, "04a0b45ac7d0ded7d73077e2f412ec06d537507b127c30afbd5f98efc501a813"), looks := false }, kinds := [], alts := [], laidByText := true, laidKinds := [.data, .data], laidTests := true, laidLooks := .later }
def RegionKnownUptoCardSaid : Prop := Claim7.holds Tryz.pinned (.plain (OpenSpec.upto regionKnownSpec)) regionKnownUptoCard

/-- THE SECOND FORM's CARD OF 'rilllaw26.FormatRuns'. -/
def formatRunsUptoCard : Claim7 := { stood := { row := formatRunsUptoRow, standIns := [], harness := (true, "04a0b45ac7d0ded7d73077e2f412ec06d537507b127c30afbd5f98efc501a813"), looks := false }, kinds := [], alts := [], laidByText := true, laidKinds := [.data, .data], laidTests := true, laidLooks := .later }
def FormatRunsUptoCardSaid : Prop := Claim7.holds Tryz.pinned (.plain (OpenSpec.upto formatRunsSpec)) formatRunsUptoCard

/-- THE SECOND FORM's CARD OF 'rilllaw26.FormatKnown'. -/
def formatKnownUptoCard : Claim7 := { stood := { row := formatKnownUptoRow, standIns := [], harness := (true, "04a0b45ac7d0ded7d73077e2f412ec06d537507b127c30afbd5f98efc501a813"), looks := false }, kinds := [], alts := [], laidByText := true, laidKinds := [.data, .data], laidTests := true, laidLooks := .later }
def FormatKnownUptoCardSaid : Prop := Claim7.holds Tryz.pinned (.plain (OpenSpec.upto formatKnownSpec)) formatKnownUptoCard
end Rows
end Go.Proofs.YtckdfgknodedoaaGreatDoor
