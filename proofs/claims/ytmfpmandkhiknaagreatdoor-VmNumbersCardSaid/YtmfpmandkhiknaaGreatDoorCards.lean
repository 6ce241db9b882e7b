/-
  DERIVED. GIVEN WITH THE SEED: THE CARDS: each row of YtmfpmandkhiknaaGreatDoorRows.lean that lists a variable, with what it lists TIED to the program's text (the seventh form; the later family's looks); each row that meets fmt, with fmt's text TOLD by the authors' own Lean function (tested against real Go, not proved from fmt's source: count such statements apart). THE CARD IS WHAT COUNTS. Prove the row's statement (the work); the ties are given (YtmfpmandkhiknaaGreatDoorTie.lean); close each card by the builder's one call (the guide's Derived/Test/ToyasCard.lean, 'card_holds'). Laid BY PROGRAM, IN A SANDBOX (cutbox-door.mjs). By AI agents, Wed Nov 11 2026. No macro, syntax, notation, axiom, sorry.
-/
import Derived.Test.YtmfpmandkhiknaaGreatDoorRows
import GoSem.ClaimSeven
namespace Go.Proofs.YtmfpmandkhiknaaGreatDoor
namespace Rows

/-- THE TIED CARD OF 'oriellaw22.VmFuel'. -/
def vmFuelCard : Claim7 := { stood := { row := vmFuelRow, standIns := [], harness := (true, "70727a3df7cd028c6fa5d94b8663c4bbf7337bd9b428a6f5e314e2615016bcfb"), looks := true }, kinds := [], alts := [], laidByText := true, laidKinds := [.data, .pinned], laidTests := true, laidLooks := .later }
def VmFuelCardSaid : Prop := Claim7.holds Tryz.pinned (.plain (OpenSpec.ofChange vmFuelSpec)) vmFuelCard

/-- THE TIED CARD OF 'oriellaw22.VmNumbers'. -/
def vmNumbersCard : Claim7 := { stood := { row := vmNumbersRow, standIns := [], harness := (true, "70727a3df7cd028c6fa5d94b8663c4bbf7337bd9b428a6f5e314e2615016bcfb"), looks := true }, kinds := [], alts := [], laidByText := true, laidKinds := [.data, .pinned], laidTests := true, laidLooks := .later }
def VmNumbersCardSaid : Prop := Claim7.holds Tryz.pinned (.plain (OpenSpec.ofChange vmNumbersSpec)) vmNumbersCard

/-- THE TIED CARD OF 'oriellaw22.VmStacks'. -/
def vmStacksCard : Claim7 := { stood := { row := vmStacksRow, standIns := [], harness := (true, "70727a3df7cd028c6fa5d94b8663c4bbf7337bd9b428a6f5e314e2615016bcfb"), looks := true }, kinds := [], alts := [], laidByText := true, laidKinds := [.data, .pinned], laidTests := true, laidLooks := .later }
def VmStacksCardSaid : Prop := Claim7.holds Tryz.pinned (.plain (OpenSpec.ofChange vmStacksSpec)) vmStacksCard

/-- THE TIED CARD OF 'oriellaw22.VmLoops'. -/
def vmLoopsCard : Claim7 := { stood := { row := vmLoopsRow, standIns := [], harness := (true, "70727a3df7cd028c6fa5d94b8663c4bbf7337bd9b428a6f5e314e2615016bcfb"), looks := true }, kinds := [], alts := [], laidByText := true, laidKinds := [.data, .pinned], laidTests := true, laidLooks := .later }
def VmLoopsCardSaid : Prop := Claim7.holds Tryz.pinned (.plain (OpenSpec.ofChange vmLoopsSpec)) vmLoopsCard

/-- THE TIED CARD OF 'oriellaw22.VmTexts'. -/
def vmTextsCard : Claim7 := { stood := { row := vmTextsRow, standIns := [], harness := (true, "70727a3df7cd028c6fa5d94b8663c4bbf7337bd9b428a6f5e314e2615016bcfb"), looks := true }, kinds := [], alts := [], laidByText := true, laidKinds := [.data, .pinned], laidTests := true, laidLooks := .later }
def VmTextsCardSaid : Prop := Claim7.holds Tryz.pinned (.plain (OpenSpec.ofChange vmTextsSpec)) vmTextsCard

/-- THE TIED CARD OF 'oriellaw19.ParseRecipes'. -/
def parseRecipesCard : Claim7 := { stood := { row := parseRecipesRow, standIns := [], harness := (true, "70727a3df7cd028c6fa5d94b8663c4bbf7337bd9b428a6f5e314e2615016bcfb"), looks := true }, kinds := [], alts := [], laidByText := true, laidKinds := [.data, .listed, .data, .pinned], laidTests := true, laidLooks := .later }
def ParseRecipesCardSaid : Prop := Claim7.holds Tryz.pinned (.plain (OpenSpec.ofChange parseRecipesSpec)) parseRecipesCard

/-- THE TIED CARD OF 'oriellaw19.ParseLeans'. -/
def parseLeansCard : Claim7 := { stood := { row := parseLeansRow, standIns := [], harness := (true, "70727a3df7cd028c6fa5d94b8663c4bbf7337bd9b428a6f5e314e2615016bcfb"), looks := true }, kinds := [], alts := [], laidByText := true, laidKinds := [.data, .listed, .data, .pinned], laidTests := true, laidLooks := .later }
def ParseLeansCardSaid : Prop := Claim7.holds Tryz.pinned (.plain (OpenSpec.ofChange parseLeansSpec)) parseLeansCard

/-- THE TIED CARD OF 'oriellaw19.ParseNests'. -/
def parseNestsCard : Claim7 := { stood := { row := parseNestsRow, standIns := [], harness := (true, "70727a3df7cd028c6fa5d94b8663c4bbf7337bd9b428a6f5e314e2615016bcfb"), looks := true }, kinds := [], alts := [], laidByText := true, laidKinds := [.data, .listed, .data, .pinned], laidTests := true, laidLooks := .later }
def ParseNestsCardSaid : Prop := Claim7.holds Tryz.pinned (.plain (OpenSpec.ofChange parseNestsSpec)) parseNestsCard

/-- THE SECOND FORM's CARD OF 'oriellaw22.VmFuel'. -/
def vmFuelUptoCard : Claim7 := { stood := { row := vmFuelUptoRow, standIns := [], harness := (true, "70727a3df7cd028c6fa5d94b8663c4bbf7337bd9b428a6f5e314e2615016bcfb"), looks := true }, kinds := [], alts := [], laidByText := true, laidKinds := [.data, .pinned], laidTests := true, laidLooks := .later }
def VmFuelUptoCardSaid : Prop := Claim7.holds Tryz.pinned (.plain (OpenSpec.upto vmFuelSpec)) vmFuelUptoCard

/-- THE SECOND FORM's CARD OF 'oriellaw22.VmNumbers'. -/
def vmNumbersUptoCard : Claim7 := { stood := { row := vmNumbersUptoRow, standIns := [], harness := (true, "70727a3df7cd028c6fa5d94b8663c4bbf7337bd9b428a6f5e314e2615016bcfb"), looks := true }, kinds := [], alts := [], laidByText := true, laidKinds := [.data, .pinned], laidTests := true, laidLooks := .later }
def VmNumbersUptoCardSaid : Prop := Claim7.holds Tryz.pinned (.plain (OpenSpec.upto vmNumbersSpec)) vmNumbersUptoCard

/-- THE SECOND FORM's CARD OF 'oriellaw22.VmStacks'. -/
def vmStacksUptoCard : Claim7 := { stood := { row := vmStacksUptoRow, standIns := [], harness := (true, "70727a3df7cd028c6fa5d94b8663c4bbf7337bd9b428a6f5e314e2615016bcfb"), looks := true }, kinds := [], alts := [], laidByText := true, laidKinds := [.data, .pinned], laidTests := true, laidLooks := .later }
def VmStacksUptoCardSaid : Prop := Claim7.holds Tryz.pinned (.plain (OpenSpec.upto vmStacksSpec)) vmStacksUptoCard

/-- THE SECOND FORM's CARD OF 'oriellaw22.VmLoops'. -/
def vmLoopsUptoCard : Claim7 := { stood := { row := vmLoopsUptoRow, standIns := [], harness := (true, "70727a3df7cd028c6fa5d94b8663c4bbf7337bd9b428a6f5e314e2615016bcfb"), looks := true }, kinds := [], alts := [], laidByText := true, laidKinds := [.data, .pinned], laidTests := true, laidLooks := .later }
def VmLoopsUptoCardSaid : Prop := Claim7.holds Tryz.pinned (.plain (OpenSpec.upto vmLoopsSpec)) vmLoopsUptoCard

/-- THE SECOND FORM's CARD OF 'oriellaw22.VmTexts'. -/
def vmTextsUptoCard : Claim7 := { stood := { row := vmTextsUptoRow, standIns := [], harness := (true, "70727a3df7cd028c6fa5d94b8663c4bbf7337bd9b428a6f5e314e2615016bcfb"), looks := true }, kinds := [], alts := [], laidByText := true, laidKinds := [.data, .pinned], laidTests := true, laidLooks := .later }
def VmTextsUptoCardSaid : Prop := Claim7.holds Tryz.pinned (.plain (OpenSpec.upto vmTextsSpec)) vmTextsUptoCard

/-- THE SECOND FORM's CARD OF 'oriellaw19.ParseRecipes'. -/
def parseRecipesUptoCard : Claim7 := { stood := { row := parseRecipesUptoRow, standIns := [], harness := (true, "70727a3df7cd028c6fa5d94b8663c4bbf7337bd9b428a6f5e314e2615016bcfb"), looks := true }, kinds := [], alts := [], laidByText := true, laidKinds := [.data, .listed, .data, .pinned], laidTests := true, laidLooks := .later }
def ParseRecipesUptoCardSaid : Prop := Claim7.holds Tryz.pinned (.plain (OpenSpec.upto parseRecipesSpec)) parseRecipesUptoCard

/-- THE SECOND FORM's CARD OF 'oriellaw19.ParseLeans'. -/
def parseLeansUptoCard : Claim7 := { stood := { row := parseLeansUptoRow, standIns := [], harness := (true, "70727a3df7cd028c6fa5d94b8663c4bbf7337bd9b428a6f5e314e2615016bcfb"), looks := true }, kinds := [], alts := [], laidByText := true, laidKinds := [.data, .listed, .data, .pinned], laidTests := true, laidLooks := .later }
def ParseLeansUptoCardSaid : Prop := Claim7.holds Tryz.pinned (.plain (OpenSpec.upto parseLeansSpec)) parseLeansUptoCard

/-- THE SECOND FORM's CARD OF 'oriellaw19.ParseNests'. -/
def parseNestsUptoCard : Claim7 := { stood := { row := parseNestsUptoRow, standIns := [], harness := (true, "70727a3df7cd028c6fa5d94b8663c4bbf7337bd9b428a6f5e314e2615016bcfb"), looks := true }, kinds := [], alts := [], laidByText := true, laidKinds := [.data, .listed, .data, .pinned], laidTests := true, laidLooks := .later }
def ParseNestsUptoCardSaid : Prop := Claim7.holds Tryz.pinned (.plain (OpenSpec.upto parseNestsSpec)) parseNestsUptoCard
end Rows
end Go.Proofs.YtmfpmandkhiknaaGreatDoor
