/-
  DERIVED. GIVEN WITH THE SEED: THE CARDS: each row of YtedkffdkhnfoiaaDoorRows.lean that lists a variable, with what it lists TIED to the program's text (the seventh form; the later family's looks); each row that meets fmt, with fmt's text TOLD by the authors' own Lean function (tested against real Go, not proved from fmt's source: count such statements apart). THE CARD IS WHAT COUNTS. Prove the row's statement (the work); the ties are given (YtedkffdkhnfoiaaDoorTie.lean); close each card by the builder's one call (the guide's Derived/Test/ToyasCard.lean, 'card_holds'). Laid BY PROGRAM, IN A SANDBOX (cutbox-door.mjs). By AI agents, Wed Nov 11 2026. No macro, syntax, notation, axiom, sorry.
-/
import Derived.Test.YtedkffdkhnfoiaaDoorRows
import GoSem.ClaimSeven
namespace Go.Proofs.YtedkffdkhnfoiaaDoor
namespace Rows

/-- THE TIED CARD OF 'laws.FnRosters'. -/
def fnRostersCard : Claim7 := { stood := { row := fnRostersRow, standIns := [], harness := (true, "22645ab7138f1e6d1f562fde86cfe3fe0f18838e18467c0c1d7d58d3741923ea"), looks := false }, kinds := [], alts := [], laidByText := true, laidKinds := [.data, .data, .data], laidTests := true, laidLooks := .later }
def FnRostersCardSaid : Prop := Claim7.holds Tryd.pinned (.plain (OpenSpec.ofChange fnRostersSpec)) fnRostersCard

/-- THE TIED CARD OF 'laws.FnExactShiftsText'. -/
def fnExactShiftsTextCard : Claim7 := { stood := { row := fnExactShiftsTextRow, standIns := [], harness := (true, "22645ab7138f1e6d1f562fde86cfe3fe0f18838e18467c0c1d7d58d3741923ea"), looks := false }, kinds := [], alts := [], laidByText := true, laidKinds := [.data, .data, .data], laidTests := true, laidLooks := .later }
def FnExactShiftsTextCardSaid : Prop := Claim7.holds Tryd.pinned (.plain (OpenSpec.ofChange fnExactShiftsTextSpec)) fnExactShiftsTextCard

/-- THE SECOND FORM's CARD OF 'laws.FnRosters'. -/
def fnRostersUptoCard : Claim7 := { stood := { row := fnRostersUptoRow, standIns := [], harness := (true, "22645ab7138f1e6d1f562fde86cfe3fe0f18838e18467c0c1d7d58d3741923ea"), looks := false }, kinds := [], alts := [], laidByText := true, laidKinds := [.data, .data, .data], laidTests := true, laidLooks := .later }
def FnRostersUptoCardSaid : Prop := Claim7.holds Tryd.pinned (.plain (OpenSpec.upto fnRostersSpec)) fnRostersUptoCard

/-- THE SECOND FORM's CARD OF 'laws.FnExactShiftsText'. -/
def fnExactShiftsTextUptoCard : Claim7 := { stood := { row := fnExactShiftsTextUptoRow, standIns := [], harness := (true, "22645ab7138f1e6d1f562fde86cfe3fe0f18838e18467c0c1d7d58d3741923ea"), looks := false }, kinds := [], alts := [], laidByText := true, laidKinds := [.data, .data, .data], laidTests := true, laidLooks := .later }
def FnExactShiftsTextUptoCardSaid : Prop := Claim7.holds Tryd.pinned (.plain (OpenSpec.upto fnExactShiftsTextSpec)) fnExactShiftsTextUptoCard
end Rows
end Go.Proofs.YtedkffdkhnfoiaaDoor
