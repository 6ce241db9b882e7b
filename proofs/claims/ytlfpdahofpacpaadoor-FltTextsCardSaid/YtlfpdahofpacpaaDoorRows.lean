/-
  NARROWER THAN 'FOR EVERY INPUT', by the rows' own cells (each row's printed sentence says how): FltMods: laid · FltTexts: laid · FltBack: laid · FltDecimals: laid · FltAsks: laid · FltRests: laid · FltSums: laid.
  DERIVED. THE GIVEN ROWS OF THIS SEAT. 7 by the template 'for every input the law returns true; each argument reads behind the call as it read before'; 0 by the template 'total and deterministic' (their statements: YtlfpdahofpacpaaDoorTotals.lean).
  GIVEN WITH THE SEED: the statements are not yours to turn. If you find one false, say at which input.
  Laid BY PROGRAM, IN A SANDBOX (cutbox-rows.mjs): the forced cells as the released guide's own fill.sh prints them over the translation 359dcdd54b230c09… (all of the seat's roots in one cut). By AI agents, Wed Nov 11 2026. No macro, syntax, notation, axiom, sorry.
-/
import Derived.Test.YtlfpdahofpacpaaDoorChecked
import GoSem.PinnedTables
import GoSem.Claim
import GoSem.ClaimJoined
import GoSem.ClaimMapViews
import Derived.JoinedTies
import Derived.KernelRfl
namespace Go.Proofs.YtlfpdahofpacpaaDoor
/- THE CELL 'sum', in the pinned program and in every row, IS THE sha256 OF THE DUMP (.gsa) THAT YtlfpdahofpacpaaDoorProg.lean LOADS. Nothing in Lean hashes anything: it is a label: what it is worth is what the hold of that sum in a sandbox is worth. -/
noncomputable def Tryd.pinned : Pinned := { name := "ytlfpdahofpacpaadoor", sum := "359dcdd54b230c09701e3c84036578e391f0a726632994fc755d3c31e4f84c29", checked := Tryd.checked }
namespace Rows
def none {H : Type} : Left H := { results := [], args := [] }

/- WHAT THE LISTED PACKAGE-LEVEL VARIABLES READ AS WHEN THE CALL BEGINS. Each datum BY PROGRAM (the guide's laid-datum.mjs) off the statement by which the dump's own 'gosem.cut.vars' lays the variable. In a bare row this is a premise. The card (YtlfpdahofpacpaaDoorCards.lean) ties it to the program's text. -/
def laid_unicode_utf8_acceptRanges {H : Type} : DataW H := .agg [.agg [.lit (.int .u8 128), .lit (.int .u8 191)], .agg [.lit (.int .u8 160), .lit (.int .u8 191)], .agg [.lit (.int .u8 128), .lit (.int .u8 159)], .agg [.lit (.int .u8 144), .lit (.int .u8 191)], .agg [.lit (.int .u8 128), .lit (.int .u8 143)], .agg [.lit (.int .u8 0), .lit (.int .u8 0)], .agg [.lit (.int .u8 0), .lit (.int .u8 0)], .agg [.lit (.int .u8 0), .lit (.int .u8 0)], .agg [.lit (.int .u8 0), .lit (.int .u8 0)], .agg [.lit (.int .u8 0), .lit (.int .u8 0)], .agg [.lit (.int .u8 0), .lit (.int .u8 0)], .agg [.lit (.int .u8 0), .lit (.int .u8 0)], .agg [.lit (.int .u8 0), .lit (.int .u8 0)], .agg [.lit (.int .u8 0), .lit (.int .u8 0)], .agg [.lit (.int .u8 0), .lit (.int .u8 0)], .agg [.lit (.int .u8 0), .lit (.int .u8 0)]]
/-- One of Go's own tables, pinned by name: the form's constant. -/
def laid_unicode_utf8_first : DataW Unit := Go.Pinned.utf8First

/-- 'oriellaw2.FltMods': WHATEVER THE INPUT: true; the input reads as it did. -/
def fltModsSpec : ChangeSpec := { name := "fltMods", fn := fun _ => fun
  | [d1, d2] => { results := [.lit (.bool true)], args := [d1, d2] }
  | _ => none }
def fltModsRow : OpenClaim := { program := "ytlfpdahofpacpaadoor", sum := "359dcdd54b230c09701e3c84036578e391f0a726632994fc755d3c31e4f84c29", func := "oriel/oriellaw2.FltMods", spec := "fltMods", inPlace := ["math.Float64frombits", "math.Float64bits", "internal/bytealg.IndexByteString", "internal/bytealg.IndexString", "math.archTrunc"], recurses := true, named := ["internal/bytealg.MaxLen", "unicode/utf8.first", "unicode/utf8.acceptRanges"], apart := false, laid := [("unicode/utf8.acceptRanges", laid_unicode_utf8_acceptRanges), ("unicode/utf8.first", laid_unicode_utf8_first)] }
def FltModsSaid : Prop := fltModsRow.holds Tryd.pinned (OpenSpec.ofChange fltModsSpec)

/-- ITS FALSE NEIGHBOUR: 'it returns false'. Refute it at one input. -/
def fltModsWrong : ChangeSpec := { name := "fltMods", fn := fun _ => fun
  | [d1, d2] => { results := [.lit (.bool false)], args := [d1, d2] }
  | _ => none }
def FltModsWrongFalsely : Prop := fltModsRow.holds Tryd.pinned (OpenSpec.ofChange fltModsWrong)

/-- 'oriellaw2.FltTexts': WHATEVER THE INPUT: true; the input reads as it did. -/
def fltTextsSpec : ChangeSpec := { name := "fltTexts", fn := fun _ => fun
  | [d1, d2] => { results := [.lit (.bool true)], args := [d1, d2] }
  | _ => none }
def fltTextsRow : OpenClaim := { program := "ytlfpdahofpacpaadoor", sum := "359dcdd54b230c09701e3c84036578e391f0a726632994fc755d3c31e4f84c29", func := "oriel/oriellaw2.FltTexts", spec := "fltTexts", inPlace := ["math.Float64frombits", "internal/bytealg.IndexByteString", "internal/bytealg.IndexString", "math.Float64bits", "math.archTrunc"], recurses := true, named := ["internal/bytealg.MaxLen", "unicode/utf8.first", "unicode/utf8.acceptRanges"], apart := false, laid := [("unicode/utf8.acceptRanges", laid_unicode_utf8_acceptRanges), ("unicode/utf8.first", laid_unicode_utf8_first)] }
def FltTextsSaid : Prop := fltTextsRow.holds Tryd.pinned (OpenSpec.ofChange fltTextsSpec)

/-- ITS FALSE NEIGHBOUR: 'it returns false'. Refute it at one input. -/
def fltTextsWrong : ChangeSpec := { name := "fltTexts", fn := fun _ => fun
  | [d1, d2] => { results := [.lit (.bool false)], args := [d1, d2] }
  | _ => none }
def FltTextsWrongFalsely : Prop := fltTextsRow.holds Tryd.pinned (OpenSpec.ofChange fltTextsWrong)

/-- 'oriellaw2.FltBack': WHATEVER THE INPUT: true; the input reads as it did. -/
def fltBackSpec : ChangeSpec := { name := "fltBack", fn := fun _ => fun
  | [d1, d2] => { results := [.lit (.bool true)], args := [d1, d2] }
  | _ => none }
def fltBackRow : OpenClaim := { program := "ytlfpdahofpacpaadoor", sum := "359dcdd54b230c09701e3c84036578e391f0a726632994fc755d3c31e4f84c29", func := "oriel/oriellaw2.FltBack", spec := "fltBack", inPlace := ["internal/bytealg.IndexByteString", "internal/bytealg.IndexString", "math.Float64frombits", "math.Float64bits", "math.archTrunc"], recurses := true, named := ["internal/bytealg.MaxLen", "unicode/utf8.first", "unicode/utf8.acceptRanges"], apart := false, laid := [("unicode/utf8.acceptRanges", laid_unicode_utf8_acceptRanges), ("unicode/utf8.first", laid_unicode_utf8_first)] }
def FltBackSaid : Prop := fltBackRow.holds Tryd.pinned (OpenSpec.ofChange fltBackSpec)

/-- ITS FALSE NEIGHBOUR: 'it returns false'. Refute it at one input. -/
def fltBackWrong : ChangeSpec := { name := "fltBack", fn := fun _ => fun
  | [d1, d2] => { results := [.lit (.bool false)], args := [d1, d2] }
  | _ => none }
def FltBackWrongFalsely : Prop := fltBackRow.holds Tryd.pinned (OpenSpec.ofChange fltBackWrong)

/-- 'oriellaw2.FltDecimals': WHATEVER THE INPUT: true; the input reads as it did. -/
def fltDecimalsSpec : ChangeSpec := { name := "fltDecimals", fn := fun _ => fun
  | [d1, d2, d3] => { results := [.lit (.bool true)], args := [d1, d2, d3] }
  | _ => none }
def fltDecimalsRow : OpenClaim := { program := "ytlfpdahofpacpaadoor", sum := "359dcdd54b230c09701e3c84036578e391f0a726632994fc755d3c31e4f84c29", func := "oriel/oriellaw2.FltDecimals", spec := "fltDecimals", inPlace := ["internal/bytealg.IndexByteString", "internal/bytealg.IndexString", "math.Float64frombits", "math.Float64bits", "math.archTrunc"], recurses := true, named := ["internal/bytealg.MaxLen", "unicode/utf8.first", "unicode/utf8.acceptRanges"], apart := false, laid := [("unicode/utf8.acceptRanges", laid_unicode_utf8_acceptRanges), ("unicode/utf8.first", laid_unicode_utf8_first)] }
def FltDecimalsSaid : Prop := fltDecimalsRow.holds Tryd.pinned (OpenSpec.ofChange fltDecimalsSpec)

/-- ITS FALSE NEIGHBOUR: 'it returns false'. Refute it at one input. -/
def fltDecimalsWrong : ChangeSpec := { name := "fltDecimals", fn := fun _ => fun
  | [d1, d2, d3] => { results := [.lit (.bool false)], args := [d1, d2, d3] }
  | _ => none }
def FltDecimalsWrongFalsely : Prop := fltDecimalsRow.holds Tryd.pinned (OpenSpec.ofChange fltDecimalsWrong)

/-- 'oriellaw2.FltAsks': WHATEVER THE INPUT: true; the input reads as it did. -/
def fltAsksSpec : ChangeSpec := { name := "fltAsks", fn := fun _ => fun
  | [d1, d2] => { results := [.lit (.bool true)], args := [d1, d2] }
  | _ => none }
def fltAsksRow : OpenClaim := { program := "ytlfpdahofpacpaadoor", sum := "359dcdd54b230c09701e3c84036578e391f0a726632994fc755d3c31e4f84c29", func := "oriel/oriellaw2.FltAsks", spec := "fltAsks", inPlace := ["math.Float64frombits", "math.archTrunc", "math.Float64bits", "internal/bytealg.IndexByteString", "internal/bytealg.IndexString"], recurses := true, named := ["internal/bytealg.MaxLen", "unicode/utf8.first", "unicode/utf8.acceptRanges"], apart := false, laid := [("unicode/utf8.acceptRanges", laid_unicode_utf8_acceptRanges), ("unicode/utf8.first", laid_unicode_utf8_first)] }
def FltAsksSaid : Prop := fltAsksRow.holds Tryd.pinned (OpenSpec.ofChange fltAsksSpec)

/-- ITS FALSE NEIGHBOUR: 'it returns false'. Refute it at one input. -/
def fltAsksWrong : ChangeSpec := { name := "fltAsks", fn := fun _ => fun
  | [d1, d2] => { results := [.lit (.bool false)], args := [d1, d2] }
  | _ => none }
def FltAsksWrongFalsely : Prop := fltAsksRow.holds Tryd.pinned (OpenSpec.ofChange fltAsksWrong)

/-- 'oriellaw2.FltRests': WHATEVER THE INPUT: true; the input reads as it did. -/
def fltRestsSpec : ChangeSpec := { name := "fltRests", fn := fun _ => fun
  | [d1, d2] => { results := [.lit (.bool true)], args := [d1, d2] }
  | _ => none }
def fltRestsRow : OpenClaim := { program := "ytlfpdahofpacpaadoor", sum := "359dcdd54b230c09701e3c84036578e391f0a726632994fc755d3c31e4f84c29", func := "oriel/oriellaw2.FltRests", spec := "fltRests", inPlace := ["internal/bytealg.IndexByteString", "internal/bytealg.IndexString", "math.Float64frombits", "math.Float64bits", "math.archTrunc"], recurses := true, named := ["internal/bytealg.MaxLen", "unicode/utf8.first", "unicode/utf8.acceptRanges"], apart := false, laid := [("unicode/utf8.acceptRanges", laid_unicode_utf8_acceptRanges), ("unicode/utf8.first", laid_unicode_utf8_first)] }
def FltRestsSaid : Prop := fltRestsRow.holds Tryd.pinned (OpenSpec.ofChange fltRestsSpec)

/-- ITS FALSE NEIGHBOUR: 'it returns false'. Refute it at one input. -/
def fltRestsWrong : ChangeSpec := { name := "fltRests", fn := fun _ => fun
  | [d1, d2] => { results := [.lit (.bool false)], args := [d1, d2] }
  | _ => none }
def FltRestsWrongFalsely : Prop := fltRestsRow.holds Tryd.pinned (OpenSpec.ofChange fltRestsWrong)

/-- 'oriellaw2.FltSums': WHATEVER THE INPUT: true; the input reads as it did. -/
def fltSumsSpec : ChangeSpec := { name := "fltSums", fn := fun _ => fun
  | [d1, d2] => { results := [.lit (.bool true)], args := [d1, d2] }
  | _ => none }
def fltSumsRow : OpenClaim := { program := "ytlfpdahofpacpaadoor", sum := "359dcdd54b230c09701e3c84036578e391f0a726632994fc755d3c31e4f84c29", func := "oriel/oriellaw2.FltSums", spec := "fltSums", inPlace := ["math.Float64frombits", "math.Float64bits", "internal/bytealg.IndexByteString", "internal/bytealg.IndexString", "math.archTrunc"], recurses := true, named := ["internal/bytealg.MaxLen", "unicode/utf8.first", "unicode/utf8.acceptRanges"], apart := false, laid := [("unicode/utf8.acceptRanges", laid_unicode_utf8_acceptRanges), ("unicode/utf8.first", laid_unicode_utf8_first)] }
def FltSumsSaid : Prop := fltSumsRow.holds Tryd.pinned (OpenSpec.ofChange fltSumsSpec)

/-- ITS FALSE NEIGHBOUR: 'it returns false'. Refute it at one input. -/
def fltSumsWrong : ChangeSpec := { name := "fltSums", fn := fun _ => fun
  | [d1, d2] => { results := [.lit (.bool false)], args := [d1, d2] }
  | _ => none }
def FltSumsWrongFalsely : Prop := fltSumsRow.holds Tryd.pinned (OpenSpec.ofChange fltSumsWrong)

/- THE SECOND FORM. 'bulk': how many values and letters a reading holds, each counted each time it is reached (what is shared counts as often as it is met; a slice's spare places count too). A statement '..UptoSaid' is the law's where the arguments, and the package variables that the reading takes, are together of bulk at most 1048576: NARROWER than '..Said'. Prove '..Said' where nothing that the law and all that it calls make is longer than what came in: it says more and counts as full. Else prove '..UptoSaid'. A law counts once. -/
mutual
def uptoBulk {H : Type} : DataW H → Nat
  | .lit (.string bytes) => bytes.length + 1
  | .lit _ => 1
  | .nil => 1
  | .ptr d => uptoBulk d + 1
  | .slice elems spare => uptoBulkAll elems + uptoBulkAll spare + 1
  | .agg parts => uptoBulkAll parts + 1
  | .iface _ d => uptoBulk d + 1
  | .map entries => uptoBulkEntries entries + 1
  | .held _ => 1
def uptoBulkAll {H : Type} : List (DataW H) → Nat
  | [] => 0
  | d :: r => uptoBulk d + uptoBulkAll r
def uptoBulkEntries {H : Type} : List (Lit × DataW H) → Nat
  | [] => 0
  | x :: r => uptoBulkEntry x + uptoBulkEntries r
def uptoBulkEntry {H : Type} : Lit × DataW H → Nat
  | (.string bytes, d) => bytes.length + uptoBulk d + 1
  | (_, d) => uptoBulk d + 1
 end
def uptoSmall : (H : Type) → List (DataW H) → Bool := fun _ ds => decide (uptoBulkAll ds ≤ 1048576)
def OpenSpec.upto (s : _root_.Go.ChangeSpec) : _root_.Go.OpenSpec := { _root_.Go.OpenSpec.ofChange s with cond := some uptoSmall }

/-- 'oriellaw2.FltMods', WHERE WHAT IT READS IS OF BULK AT MOST 1048576: true; the input reads as it did. -/
def fltModsUptoRow : OpenClaim := { program := "ytlfpdahofpacpaadoor", sum := "359dcdd54b230c09701e3c84036578e391f0a726632994fc755d3c31e4f84c29", func := "oriel/oriellaw2.FltMods", spec := "fltMods", inPlace := ["math.Float64frombits", "math.Float64bits", "internal/bytealg.IndexByteString", "internal/bytealg.IndexString", "math.archTrunc"], recurses := true, named := ["internal/bytealg.MaxLen", "unicode/utf8.first", "unicode/utf8.acceptRanges"], apart := false, laid := [("unicode/utf8.acceptRanges", laid_unicode_utf8_acceptRanges), ("unicode/utf8.first", laid_unicode_utf8_first)], narrowed := true }
def FltModsUptoSaid : Prop := fltModsUptoRow.holds Tryd.pinned (OpenSpec.upto fltModsSpec)

/-- 'oriellaw2.FltTexts', WHERE WHAT IT READS IS OF BULK AT MOST 1048576: true; the input reads as it did. -/
def fltTextsUptoRow : OpenClaim := { program := "ytlfpdahofpacpaadoor", sum := "359dcdd54b230c09701e3c84036578e391f0a726632994fc755d3c31e4f84c29", func := "oriel/oriellaw2.FltTexts", spec := "fltTexts", inPlace := ["math.Float64frombits", "internal/bytealg.IndexByteString", "internal/bytealg.IndexString", "math.Float64bits", "math.archTrunc"], recurses := true, named := ["internal/bytealg.MaxLen", "unicode/utf8.first", "unicode/utf8.acceptRanges"], apart := false, laid := [("unicode/utf8.acceptRanges", laid_unicode_utf8_acceptRanges), ("unicode/utf8.first", laid_unicode_utf8_first)], narrowed := true }
def FltTextsUptoSaid : Prop := fltTextsUptoRow.holds Tryd.pinned (OpenSpec.upto fltTextsSpec)

/-- 'oriellaw2.FltBack', WHERE WHAT IT READS IS OF BULK AT MOST 1048576: true; the input reads as it did. -/
def fltBackUptoRow : OpenClaim := { program := "ytlfpdahofpacpaadoor", sum := "359dcdd54b230c09701e3c84036578e391f0a726632994fc755d3c31e4f84c29", func := "oriel/oriellaw2.FltBack", spec := "fltBack", inPlace := ["internal/bytealg.IndexByteString", "internal/bytealg.IndexString", "math.Float64frombits", "math.Float64bits", "math.archTrunc"], recurses := true, named := ["internal/bytealg.MaxLen", "unicode/utf8.first", "unicode/utf8.acceptRanges"], apart := false, laid := [("unicode/utf8.acceptRanges", laid_unicode_utf8_acceptRanges), ("unicode/utf8.first", laid_unicode_utf8_first)], narrowed := true }
def FltBackUptoSaid : Prop := fltBackUptoRow.holds Tryd.pinned (OpenSpec.upto fltBackSpec)

/-- 'oriellaw2.FltDecimals', WHERE WHAT IT READS IS OF BULK AT MOST 1048576: true; the input reads as it did. -/
def fltDecimalsUptoRow : OpenClaim := { program := "ytlfpdahofpacpaadoor", sum := "359dcdd54b230c09701e3c84036578e391f0a726632994fc755d3c31e4f84c29", func := "oriel/oriellaw2.FltDecimals", spec := "fltDecimals", inPlace := ["internal/bytealg.IndexByteString", "internal/bytealg.IndexString", "math.Float64frombits", "math.Float64bits", "math.archTrunc"], recurses := true, named := ["internal/bytealg.MaxLen", "unicode/utf8.first", "unicode/utf8.acceptRanges"], apart := false, laid := [("unicode/utf8.acceptRanges", laid_unicode_utf8_acceptRanges), ("unicode/utf8.first", laid_unicode_utf8_first)], narrowed := true }
def FltDecimalsUptoSaid : Prop := fltDecimalsUptoRow.holds Tryd.pinned (OpenSpec.upto fltDecimalsSpec)

/-- 'oriellaw2.FltAsks', WHERE WHAT IT READS IS OF BULK AT MOST 1048576: true; the input reads as it did. -/
def fltAsksUptoRow : OpenClaim := { program := "ytlfpdahofpacpaadoor", sum := "359dcdd54b230c09701e3c84036578e391f0a726632994fc755d3c31e4f84c29", func := "oriel/oriellaw2.FltAsks", spec := "fltAsks", inPlace := ["math.Float64frombits", "math.archTrunc", "math.Float64bits", "internal/bytealg.IndexByteString", "internal/bytealg.IndexString"], recurses := true, named := ["internal/bytealg.MaxLen", "unicode/utf8.first", "unicode/utf8.acceptRanges"], apart := false, laid := [("unicode/utf8.acceptRanges", laid_unicode_utf8_acceptRanges), ("unicode/utf8.first", laid_unicode_utf8_first)], narrowed := true }
def FltAsksUptoSaid : Prop := fltAsksUptoRow.holds Tryd.pinned (OpenSpec.upto fltAsksSpec)

/-- 'oriellaw2.FltRests', WHERE WHAT IT READS IS OF BULK AT MOST 1048576: true; the input reads as it did. -/
def fltRestsUptoRow : OpenClaim := { program := "ytlfpdahofpacpaadoor", sum := "359dcdd54b230c09701e3c84036578e391f0a726632994fc755d3c31e4f84c29", func := "oriel/oriellaw2.FltRests", spec := "fltRests", inPlace := ["internal/bytealg.IndexByteString", "internal/bytealg.IndexString", "math.Float64frombits", "math.Float64bits", "math.archTrunc"], recurses := true, named := ["internal/bytealg.MaxLen", "unicode/utf8.first", "unicode/utf8.acceptRanges"], apart := false, laid := [("unicode/utf8.acceptRanges", laid_unicode_utf8_acceptRanges), ("unicode/utf8.first", laid_unicode_utf8_first)], narrowed := true }
def FltRestsUptoSaid : Prop := fltRestsUptoRow.holds Tryd.pinned (OpenSpec.upto fltRestsSpec)

/-- 'oriellaw2.FltSums', WHERE WHAT IT READS IS OF BULK AT MOST 1048576: true; the input reads as it did. -/
def fltSumsUptoRow : OpenClaim := { program := "ytlfpdahofpacpaadoor", sum := "359dcdd54b230c09701e3c84036578e391f0a726632994fc755d3c31e4f84c29", func := "oriel/oriellaw2.FltSums", spec := "fltSums", inPlace := ["math.Float64frombits", "math.Float64bits", "internal/bytealg.IndexByteString", "internal/bytealg.IndexString", "math.archTrunc"], recurses := true, named := ["internal/bytealg.MaxLen", "unicode/utf8.first", "unicode/utf8.acceptRanges"], apart := false, laid := [("unicode/utf8.acceptRanges", laid_unicode_utf8_acceptRanges), ("unicode/utf8.first", laid_unicode_utf8_first)], narrowed := true }
def FltSumsUptoSaid : Prop := fltSumsUptoRow.holds Tryd.pinned (OpenSpec.upto fltSumsSpec)

end Rows
end Go.Proofs.YtlfpdahofpacpaaDoor
