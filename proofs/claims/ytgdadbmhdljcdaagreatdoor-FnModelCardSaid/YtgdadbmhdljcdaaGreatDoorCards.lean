/-
  DERIVED. GIVEN WITH THE SEED: THE CARDS: each row of YtgdadbmhdljcdaaGreatDoorRows.lean that lists a variable, with what it lists TIED to the program's text (the seventh form; the later family's looks); each row that meets fmt, with fmt's text TOLD by the authors' own Lean function (tested against real Go, not proved from fmt's source: count such statements apart). THE CARD IS WHAT COUNTS. Prove the row's statement (the work); the ties are given (YtgdadbmhdljcdaaGreatDoorTie.lean); close each card by the builder's one call (the guide's Derived/Test/ToyasCard.lean, 'card_holds'). Laid BY PROGRAM, IN A SANDBOX (cutbox-door.mjs). By AI agents, Wed Nov 11 2026. No macro, syntax, notation, axiom, sorry.
-/
import Derived.Test.YtgdadbmhdljcdaaGreatDoorRows
import GoSem.ClaimSeven
namespace Go.Proofs.YtgdadbmhdljcdaaGreatDoor
namespace Rows

/-- THE TIED CARD OF 'laws.FnProfiles'. -/
def fnProfilesCard : Claim7 := { stood := { row := fnProfilesRow, standIns := [], harness := (true, "5f60df191a21fa572af5c32766b6ccc57b2cea556fe83644d68344bb2b6aadcc"), looks := true }, kinds := [], alts := [], laidByText := true, laidKinds := [.data, .data, .data, .data, .sentinel, .sentinel, .pinned], laidTests := true, laidLooks := .later }
def FnProfilesCardSaid : Prop := Claim7.holds Tryz.pinned (.plain (OpenSpec.ofChange fnProfilesSpec)) fnProfilesCard

/-- THE TIED CARD OF 'laws.FnModel'. -/
def fnModelCard : Claim7 := { stood := { row := fnModelRow, standIns := [], harness := (true, "5f60df191a21fa572af5c32766b6ccc57b2cea556fe83644d68344bb2b6aadcc"), looks := true }, kinds := [], alts := [], laidByText := true, laidKinds := [.data, .data, .data, .data, .sentinel, .sentinel, .pinned], laidTests := true, laidLooks := .later }
def FnModelCardSaid : Prop := Claim7.holds Tryz.pinned (.plain (OpenSpec.ofChange fnModelSpec)) fnModelCard

/-- THE TIED CARD OF 'laws.FnCuts'. -/
def fnCutsCard : Claim7 := { stood := { row := fnCutsRow, standIns := [], harness := (true, "5f60df191a21fa572af5c32766b6ccc57b2cea556fe83644d68344bb2b6aadcc"), looks := true }, kinds := [], alts := [], laidByText := true, laidKinds := [.data, .data, .data, .data, .sentinel, .sentinel, .pinned], laidTests := true, laidLooks := .later }
def FnCutsCardSaid : Prop := Claim7.holds Tryz.pinned (.plain (OpenSpec.ofChange fnCutsSpec)) fnCutsCard

/-- THE SECOND FORM's CARD OF 'laws.FnProfiles'. -/
def fnProfilesUptoCard : Claim7 := { stood := { row := fnProfilesUptoRow, standIns := [], harness := (true, "5f60df191a21fa572af5c32766b6ccc57b2cea556fe83644d68344bb2b6aadcc"), looks := true }, kinds := [], alts := [], laidByText := true, laidKinds := [.data, .data, .data, .data, .sentinel, .sentinel, .pinned], laidTests := true, laidLooks := .later }
def FnProfilesUptoCardSaid : Prop := Claim7.holds Tryz.pinned (.plain (OpenSpec.upto fnProfilesSpec)) fnProfilesUptoCard

/-- THE SECOND FORM's CARD OF 'laws.FnModel'. -/
def fnModelUptoCard : Claim7 := { stood := { row := fnModelUptoRow, standIns := [], harness := (true, "5f60df191a21fa572af5c32766b6ccc57b2cea556fe83644d68344bb2b6aadcc"), looks := true }, kinds := [], alts := [], laidByText := true, laidKinds := [.data, .data, .data, .data, .sentinel, .sentinel, .pinned], laidTests := true, laidLooks := .later }
def FnModelUptoCardSaid : Prop := Claim7.holds Tryz.pinned (.plain (OpenSpec.upto fnModelSpec)) fnModelUptoCard

/-- THE SECOND FORM's CARD OF 'laws.FnCuts'. -/
def fnCutsUptoCard : Claim7 := { stood := { row := fnCutsUptoRow, standIns := [], harness := (true, "5f60df191a21fa572af5c32766b6ccc57b2cea556fe83644d68344bb2b6aadcc"), looks := true }, kinds := [], alts := [], laidByText := true, laidKinds := [.data, .data, .data, .data, .sentinel, .sentinel, .pinned], laidTests := true, laidLooks := .later }
def FnCutsUptoCardSaid : Prop := Claim7.holds Tryz.pinned (.plain (OpenSpec.upto fnCutsSpec)) fnCutsUptoCard
end Rows
end Go.Proofs.YtgdadbmhdljcdaaGreatDoor
