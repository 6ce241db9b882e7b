/-
  DERIVED. GIVEN WITH THE SEED: THE CARDS: each row of YtlfpdahofpacpaaDoorRows.lean that lists a variable, with what it lists TIED to the program's text (the seventh form; the later family's looks); each row that meets fmt, with fmt's text TOLD by the authors' own Lean function (tested against real Go, not proved from fmt's source: count such statements apart). THE CARD IS WHAT COUNTS. Prove the row's statement (the work); the ties are given (YtlfpdahofpacpaaDoorTie.lean); close each card by the builder's one call (the guide's Derived/Test/ToyasCard.lean, 'card_holds'). Laid BY PROGRAM, IN A SANDBOX (cutbox-door.mjs). By AI agents, Wed Nov 11 2026. No macro, syntax, notation, axiom, sorry.
-/
import Derived.Test.YtlfpdahofpacpaaDoorRows
import GoSem.ClaimSeven
namespace Go.Proofs.YtlfpdahofpacpaaDoor
namespace Rows

/-- THE TIED CARD OF 'oriellaw2.FltMods'. -/
def fltModsCard : Claim7 := { stood := { row := fltModsRow, standIns := [], harness := (true, "162607cfbc4e1247a718773fa6ac2580b9bd481126f6250dbfba24b360a89117"), looks := false }, kinds := [], alts := [], laidByText := true, laidKinds := [.data, .pinned], laidTests := true, laidLooks := .later }
def FltModsCardSaid : Prop := Claim7.holds Tryd.pinned (.plain (OpenSpec.ofChange fltModsSpec)) fltModsCard

/-- THE TIED CARD OF 'oriellaw2.FltTexts'. -/
def fltTextsCard : Claim7 := { stood := { row := fltTextsRow, standIns := [], harness := (true, "162607cfbc4e1247a718773fa6ac2580b9bd481126f6250dbfba24b360a89117"), looks := false }, kinds := [], alts := [], laidByText := true, laidKinds := [.data, .pinned], laidTests := true, laidLooks := .later }
def FltTextsCardSaid : Prop := Claim7.holds Tryd.pinned (.plain (OpenSpec.ofChange fltTextsSpec)) fltTextsCard

/-- THE TIED CARD OF 'oriellaw2.FltBack'. -/
def fltBackCard : Claim7 := { stood := { row := fltBackRow, standIns := [], harness := (true, "162607cfbc4e1247a718773fa6ac2580b9bd481126f6250dbfba24b360a89117"), looks := false }, kinds := [], alts := [], laidByText := true, laidKinds := [.data, .pinned], laidTests := true, laidLooks := .later }
def FltBackCardSaid : Prop := Claim7.holds Tryd.pinned (.plain (OpenSpec.ofChange fltBackSpec)) fltBackCard

/-- THE TIED CARD OF 'oriellaw2.FltDecimals'. -/
def fltDecimalsCard : Claim7 := { stood := { row := fltDecimalsRow, standIns := [], harness := (true, "162607cfbc4e1247a718773fa6ac2580b9bd481126f6250dbfba24b360a89117"), looks := false }, kinds := [], alts := [], laidByText := true, laidKinds := [.data, .pinned], laidTests := true, laidLooks := .later }
def FltDecimalsCardSaid : Prop := Claim7.holds Tryd.pinned (.plain (OpenSpec.ofChange fltDecimalsSpec)) fltDecimalsCard

/-- THE TIED CARD OF 'oriellaw2.FltAsks'. -/
def fltAsksCard : Claim7 := { stood := { row := fltAsksRow, standIns := [], harness := (true, "162607cfbc4e1247a718773fa6ac2580b9bd481126f6250dbfba24b360a89117"), looks := false }, kinds := [], alts := [], laidByText := true, laidKinds := [.data, .pinned], laidTests := true, laidLooks := .later }
def FltAsksCardSaid : Prop := Claim7.holds Tryd.pinned (.plain (OpenSpec.ofChange fltAsksSpec)) fltAsksCard

/-- THE TIED CARD OF 'oriellaw2.FltRests'. -/
def fltRestsCard : Claim7 := { stood := { row := fltRestsRow, standIns := [], harness := (true, "162607cfbc4e1247a718773fa6ac2580b9bd481126f6250dbfba24b360a89117"), looks := false }, kinds := [], alts := [], laidByText := true, laidKinds := [.data, .pinned], laidTests := true, laidLooks := .later }
def FltRestsCardSaid : Prop := Claim7.holds Tryd.pinned (.plain (OpenSpec.ofChange fltRestsSpec)) fltRestsCard

/-- THE TIED CARD OF 'oriellaw2.FltSums'. -/
def fltSumsCard : Claim7 := { stood := { row := fltSumsRow, standIns := [], harness := (true, "162607cfbc4e1247a718773fa6ac2580b9bd481126f6250dbfba24b360a89117"), looks := false }, kinds := [], alts := [], laidByText := true, laidKinds := [.data, .pinned], laidTests := true, laidLooks := .later }
def FltSumsCardSaid : Prop := Claim7.holds Tryd.pinned (.plain (OpenSpec.ofChange fltSumsSpec)) fltSumsCard

/-- THE SECOND FORM's CARD OF 'oriellaw2.FltMods'. -/
def fltModsUptoCard : Claim7 := { stood := { row := fltModsUptoRow, standIns := [], harness := (true, "162607cfbc4e1247a718773fa6ac2580b9bd481126f6250dbfba24b360a89117"), looks := false }, kinds := [], alts := [], laidByText := true, laidKinds := [.data, .pinned], laidTests := true, laidLooks := .later }
def FltModsUptoCardSaid : Prop := Claim7.holds Tryd.pinned (.plain (OpenSpec.upto fltModsSpec)) fltModsUptoCard

/-- THE SECOND FORM's CARD OF 'oriellaw2.FltTexts'. -/
def fltTextsUptoCard : Claim7 := { stood := { row := fltTextsUptoRow, standIns := [], harness := (true, "162607cfbc4e1247a718773fa6ac2580b9bd481126f6250dbfba24b360a89117"), looks := false }, kinds := [], alts := [], laidByText := true, laidKinds := [.data, .pinned], laidTests := true, laidLooks := .later }
def FltTextsUptoCardSaid : Prop := Claim7.holds Tryd.pinned (.plain (OpenSpec.upto fltTextsSpec)) fltTextsUptoCard

/-- THE SECOND FORM's CARD OF 'oriellaw2.FltBack'. -/
def fltBackUptoCard : Claim7 := { stood := { row := fltBackUptoRow, standIns := [], harness := (true, "162607cfbc4e1247a718773fa6ac2580b9bd481126f6250dbfba24b360a89117"), looks := false }, kinds := [], alts := [], laidByText := true, laidKinds := [.data, .pinned], laidTests := true, laidLooks := .later }
def FltBackUptoCardSaid : Prop := Claim7.holds Tryd.pinned (.plain (OpenSpec.upto fltBackSpec)) fltBackUptoCard

/-- THE SECOND FORM's CARD OF 'oriellaw2.FltDecimals'. -/
def fltDecimalsUptoCard : Claim7 := { stood := { row := fltDecimalsUptoRow, standIns := [], harness := (true, "162607cfbc4e1247a718773fa6ac2580b9bd481126f6250dbfba24b360a89117"), looks := false }, kinds := [], alts := [], laidByText := true, laidKinds := [.data, .pinned], laidTests := true, laidLooks := .later }
def FltDecimalsUptoCardSaid : Prop := Claim7.holds Tryd.pinned (.plain (OpenSpec.upto fltDecimalsSpec)) fltDecimalsUptoCard

/-- THE SECOND FORM's CARD OF 'oriellaw2.FltAsks'. -/
def fltAsksUptoCard : Claim7 := { stood := { row := fltAsksUptoRow, standIns := [], harness := (true, "162607cfbc4e1247a718773fa6ac2580b9bd481126f6250dbfba24b360a89117"), looks := false }, kinds := [], alts := [], laidByText := true, laidKinds := [.data, .pinned], laidTests := true, laidLooks := .later }
def FltAsksUptoCardSaid : Prop := Claim7.holds Tryd.pinned (.plain (OpenSpec.upto fltAsksSpec)) fltAsksUptoCard

/-- THE SECOND FORM's CARD OF 'oriellaw2.FltRests'. -/
def fltRestsUptoCard : Claim7 := { stood := { row := fltRestsUptoRow, standIns := [], harness := (true, "162607cfbc4e1247a718773fa6ac2580b9bd481126f6250dbfba24b360a89117"), looks := false }, kinds := [], alts := [], laidByText := true, laidKinds := [.data, .pinned], laidTests := true, laidLooks := .later }
def FltRestsUptoCardSaid : Prop := Claim7.holds Tryd.pinned (.plain (OpenSpec.upto fltRestsSpec)) fltRestsUptoCard

/-- THE SECOND FORM's CARD OF 'oriellaw2.FltSums'. -/
def fltSumsUptoCard : Claim7 := { stood := { row := fltSumsUptoRow, standIns := [], harness := (true, "162607cfbc4e1247a718773fa6ac2580b9bd481126f6250dbfba24b360a89117"), looks := false }, kinds := [], alts := [], laidByText := true, laidKinds := [.data, .pinned], laidTests := true, laidLooks := .later }
def FltSumsUptoCardSaid : Prop := Claim7.holds Tryd.pinned (.plain (OpenSpec.upto fltSumsSpec)) fltSumsUptoCard
end Rows
end Go.Proofs.YtlfpdahofpacpaaDoor
