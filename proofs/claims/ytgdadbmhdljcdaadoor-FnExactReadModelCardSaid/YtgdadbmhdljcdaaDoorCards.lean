/-
  DERIVED. GIVEN WITH THE SEED: THE CARDS: each row of YtgdadbmhdljcdaaDoorRows.lean that lists a variable, with what it lists TIED to the program's text (the seventh form; the later family's looks); each row that meets fmt, with fmt's text TOLD by the authors' own Lean function (tested against real Go, not proved from fmt's source: count such statements apart). THE CARD IS WHAT COUNTS. Prove the row's statement (the work); the ties are given (YtgdadbmhdljcdaaDoorTie.lean); close each card by the builder's one call (the guide's Derived/Test/ToyasCard.lean, 'card_holds'). Laid BY PROGRAM, IN A SANDBOX (cutbox-door.mjs). By AI agents, Wed Nov 11 2026. No macro, syntax, notation, axiom, sorry.
-/
import Derived.Test.YtgdadbmhdljcdaaDoorRows
import GoSem.ClaimSeven
namespace Go.Proofs.YtgdadbmhdljcdaaDoor
namespace Rows

/-- THE TIED CARD OF 'laws.FnExactReadModel'. -/
def fnExactReadModelCard : Claim7 := { stood := { row := fnExactReadModelRow, standIns := [], harness := (true, "d5189e9fa1ddd2a7faaf8a35996be3b6118b851532171c213547fac380d7b4fe"), looks := true }, kinds := [], alts := [], laidByText := true, laidKinds := [.data, .data, .data, .data, .sentinel, .sentinel, .pinned], laidTests := true, laidLooks := .later }
def FnExactReadModelCardSaid : Prop := Claim7.holds Tryd.pinned (.plain (OpenSpec.ofChange fnExactReadModelSpec)) fnExactReadModelCard

/-- THE TIED CARD OF 'laws.FnExactCutsText'. -/
def fnExactCutsTextCard : Claim7 := { stood := { row := fnExactCutsTextRow, standIns := [], harness := (true, "d5189e9fa1ddd2a7faaf8a35996be3b6118b851532171c213547fac380d7b4fe"), looks := true }, kinds := [], alts := [], laidByText := true, laidKinds := [.data, .data, .data], laidTests := true, laidLooks := .later }
def FnExactCutsTextCardSaid : Prop := Claim7.holds Tryd.pinned (.plain (OpenSpec.ofChange fnExactCutsTextSpec)) fnExactCutsTextCard

/-- THE TIED CARD OF 'laws.FnExactProfileText'. -/
def fnExactProfileTextCard : Claim7 := { stood := { row := fnExactProfileTextRow, standIns := [], harness := (true, "d5189e9fa1ddd2a7faaf8a35996be3b6118b851532171c213547fac380d7b4fe"), looks := true }, kinds := [], alts := [], laidByText := true, laidKinds := [.data, .data, .data], laidTests := true, laidLooks := .later }
def FnExactProfileTextCardSaid : Prop := Claim7.holds Tryd.pinned (.plain (OpenSpec.ofChange fnExactProfileTextSpec)) fnExactProfileTextCard

/-- THE TIED CARD OF 'laws.FnExactGoalText'. -/
def fnExactGoalTextCard : Claim7 := { stood := { row := fnExactGoalTextRow, standIns := [], harness := (true, "d5189e9fa1ddd2a7faaf8a35996be3b6118b851532171c213547fac380d7b4fe"), looks := true }, kinds := [], alts := [], laidByText := true, laidKinds := [.data, .data, .data], laidTests := true, laidLooks := .later }
def FnExactGoalTextCardSaid : Prop := Claim7.holds Tryd.pinned (.plain (OpenSpec.ofChange fnExactGoalTextSpec)) fnExactGoalTextCard

/-- THE TIED CARD OF 'laws.FnExactModelText'. -/
def fnExactModelTextCard : Claim7 := { stood := { row := fnExactModelTextRow, standIns := [], harness := (true, "d5189e9fa1ddd2a7faaf8a35996be3b6118b851532171c213547fac380d7b4fe"), looks := true }, kinds := [], alts := [], laidByText := true, laidKinds := [.data, .data, .data], laidTests := true, laidLooks := .later }
def FnExactModelTextCardSaid : Prop := Claim7.holds Tryd.pinned (.plain (OpenSpec.ofChange fnExactModelTextSpec)) fnExactModelTextCard

/-- THE TIED CARD OF 'laws.FnExactReadCuts'. -/
def fnExactReadCutsCard : Claim7 := { stood := { row := fnExactReadCutsRow, standIns := [], harness := (true, "d5189e9fa1ddd2a7faaf8a35996be3b6118b851532171c213547fac380d7b4fe"), looks := true }, kinds := [], alts := [], laidByText := true, laidKinds := [.data, .data, .data, .data, .sentinel, .sentinel, .pinned], laidTests := true, laidLooks := .later }
def FnExactReadCutsCardSaid : Prop := Claim7.holds Tryd.pinned (.plain (OpenSpec.ofChange fnExactReadCutsSpec)) fnExactReadCutsCard

/-- THE TIED CARD OF 'laws.FnExactReadProfile'. -/
def fnExactReadProfileCard : Claim7 := { stood := { row := fnExactReadProfileRow, standIns := [], harness := (true, "d5189e9fa1ddd2a7faaf8a35996be3b6118b851532171c213547fac380d7b4fe"), looks := true }, kinds := [], alts := [], laidByText := true, laidKinds := [.data, .data, .data, .data, .sentinel, .sentinel, .pinned], laidTests := true, laidLooks := .later }
def FnExactReadProfileCardSaid : Prop := Claim7.holds Tryd.pinned (.plain (OpenSpec.ofChange fnExactReadProfileSpec)) fnExactReadProfileCard

/-- THE SECOND FORM's CARD OF 'laws.FnExactReadModel'. -/
def fnExactReadModelUptoCard : Claim7 := { stood := { row := fnExactReadModelUptoRow, standIns := [], harness := (true, "d5189e9fa1ddd2a7faaf8a35996be3b6118b851532171c213547fac380d7b4fe"), looks := true }, kinds := [], alts := [], laidByText := true, laidKinds := [.data, .data, .data, .data, .sentinel, .sentinel, .pinned], laidTests := true, laidLooks := .later }
def FnExactReadModelUptoCardSaid : Prop := Claim7.holds Tryd.pinned (.plain (OpenSpec.upto fnExactReadModelSpec)) fnExactReadModelUptoCard

/-- THE SECOND FORM's CARD OF 'laws.FnExactCutsText'. -/
def fnExactCutsTextUptoCard : Claim7 := { stood := { row := fnExactCutsTextUptoRow, standIns := [], harness := (true, "d5189e9fa1ddd2a7faaf8a35996be3b6118b851532171c213547fac380d7b4fe"), looks := true }, kinds := [], alts := [], laidByText := true, laidKinds := [.data, .data, .data], laidTests := true, laidLooks := .later }
def FnExactCutsTextUptoCardSaid : Prop := Claim7.holds Tryd.pinned (.plain (OpenSpec.upto fnExactCutsTextSpec)) fnExactCutsTextUptoCard

/-- THE SECOND FORM's CARD OF 'laws.FnExactProfileText'. -/
def fnExactProfileTextUptoCard : Claim7 := { stood := { row := fnExactProfileTextUptoRow, standIns := [], harness := (true, "d5189e9fa1ddd2a7faaf8a35996be3b6118b851532171c213547fac380d7b4fe"), looks := true }, kinds := [], alts := [], laidByText := true, laidKinds := [.data, .data, .data], laidTests := true, laidLooks := .later }
def FnExactProfileTextUptoCardSaid : Prop := Claim7.holds Tryd.pinned (.plain (OpenSpec.upto fnExactProfileTextSpec)) fnExactProfileTextUptoCard

/-- THE SECOND FORM's CARD OF 'laws.FnExactGoalText'. -/
def fnExactGoalTextUptoCard : Claim7 := { stood := { row := fnExactGoalTextUptoRow, standIns := [], harness := (true, "d5189e9fa1ddd2a7faaf8a35996be3b6118b851532171c213547fac380d7b4fe"), looks := true }, kinds := [], alts := [], laidByText := true, laidKinds := [.data, .data, .data], laidTests := true, laidLooks := .later }
def FnExactGoalTextUptoCardSaid : Prop := Claim7.holds Tryd.pinned (.plain (OpenSpec.upto fnExactGoalTextSpec)) fnExactGoalTextUptoCard

/-- THE SECOND FORM's CARD OF 'laws.FnExactModelText'. -/
def fnExactModelTextUptoCard : Claim7 := { stood := { row := fnExactModelTextUptoRow, standIns := [], harness := (true, "d5189e9fa1ddd2a7faaf8a35996be3b6118b851532171c213547fac380d7b4fe"), looks := true }, kinds := [], alts := [], laidByText := true, laidKinds := [.data, .data, .data], laidTests := true, laidLooks := .later }
def FnExactModelTextUptoCardSaid : Prop := Claim7.holds Tryd.pinned (.plain (OpenSpec.upto fnExactModelTextSpec)) fnExactModelTextUptoCard

/-- THE SECOND FORM's CARD OF 'laws.FnExactReadCuts'. -/
def fnExactReadCutsUptoCard : Claim7 := { stood := { row := fnExactReadCutsUptoRow, standIns := [], harness := (true, "d5189e9fa1ddd2a7faaf8a35996be3b6118b851532171c213547fac380d7b4fe"), looks := true }, kinds := [], alts := [], laidByText := true, laidKinds := [.data, .data, .data, .data, .sentinel, .sentinel, .pinned], laidTests := true, laidLooks := .later }
def FnExactReadCutsUptoCardSaid : Prop := Claim7.holds Tryd.pinned (.plain (OpenSpec.upto fnExactReadCutsSpec)) fnExactReadCutsUptoCard

/-- THE SECOND FORM's CARD OF 'laws.FnExactReadProfile'. -/
def fnExactReadProfileUptoCard : Claim7 := { stood := { row := fnExactReadProfileUptoRow, standIns := [], harness := (true, "d5189e9fa1ddd2a7faaf8a35996be3b6118b851532171c213547fac380d7b4fe"), looks := true }, kinds := [], alts := [], laidByText := true, laidKinds := [.data, .data, .data, .data, .sentinel, .sentinel, .pinned], laidTests := true, laidLooks := .later }
def FnExactReadProfileUptoCardSaid : Prop := Claim7.holds Tryd.pinned (.plain (OpenSpec.upto fnExactReadProfileSpec)) fnExactReadProfileUptoCard
end Rows
end Go.Proofs.YtgdadbmhdljcdaaDoor
