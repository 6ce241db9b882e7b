/-
  No cell of these rows narrows 'for every input' (looked for: loops, veiled, ifaces, maps, wideKeys, modest, calm, conditions, laid).
  DERIVED. THE GIVEN ROWS OF THIS SEAT. 5 by the template 'for every input the law returns true; each argument reads behind the call as it read before'; 0 by the template 'total and deterministic' (their statements: YtifhnpkapgaboaaTotals.lean).
  GIVEN WITH THE SEED: the statements are not yours to turn. If you find one false, say at which input.
  Laid BY PROGRAM, IN A SANDBOX (cutbox-rows.mjs): the forced cells as the released guide's own fill.sh prints them over the translation c7343457c953d85d… (all of the seat's roots in one cut). By AI agents, Wed Nov 11 2026. No macro, syntax, notation, axiom, sorry.
-/
import Derived.Test.YtifhnpkapgaboaaChecked
import GoSem.Claim
import GoSem.ClaimJoined
import GoSem.ClaimMapViews
import Derived.JoinedTies
import Derived.KernelRfl
namespace Go.Proofs.Ytifhnpkapgaboaa
/- THE CELL 'sum', in the pinned program and in every row, IS THE sha256 OF THE DUMP (.gsa) THAT YtifhnpkapgaboaaProg.lean LOADS. Nothing in Lean hashes anything: it is a label: what it is worth is what the hold of that sum in a sandbox is worth. -/
noncomputable def Try.pinned : Pinned := { name := "ytifhnpkapgaboaa", sum := "c7343457c953d85dd8cd77d38c7eff10f3cba0af963beb4b369239270a658abd", checked := Try.checked }
namespace Rows
def none {H : Type} : Left H := { results := [], args := [] }

/-- 'oriellaw13.ArchiveWrites': WHATEVER THE INPUT: true; the input reads as it did. -/
def archiveWritesSpec : ChangeSpec := { name := "archiveWrites", fn := fun _ => fun
  | [d] => { results := [.lit (.bool true)], args := [d] }
  | _ => none }
def archiveWritesRow : OpenClaim := { program := "ytifhnpkapgaboaa", sum := "c7343457c953d85dd8cd77d38c7eff10f3cba0af963beb4b369239270a658abd", func := "oriel/oriellaw13.ArchiveWrites", spec := "archiveWrites", inPlace := ["internal/bytealg.IndexByteString", "internal/bytealg.IndexString", "internal/abi.NoEscape", "internal/bytealg.MakeNoZero"], unfollowed := true, recurses := true, named := ["internal/bytealg.MaxLen"], apart := false }
def ArchiveWritesSaid : Prop := archiveWritesRow.holds Try.pinned (OpenSpec.ofChange archiveWritesSpec)

/-- ITS FALSE NEIGHBOUR: 'it returns false'. Refute it at one input. -/
def archiveWritesWrong : ChangeSpec := { name := "archiveWrites", fn := fun _ => fun
  | [d] => { results := [.lit (.bool false)], args := [d] }
  | _ => none }
def ArchiveWritesWrongFalsely : Prop := archiveWritesRow.holds Try.pinned (OpenSpec.ofChange archiveWritesWrong)

/-- 'oriellaw13.ArchiveBack': WHATEVER THE INPUT: true; the input reads as it did. -/
def archiveBackSpec : ChangeSpec := { name := "archiveBack", fn := fun _ => fun
  | [d1, d2] => { results := [.lit (.bool true)], args := [d1, d2] }
  | _ => none }
def archiveBackRow : OpenClaim := { program := "ytifhnpkapgaboaa", sum := "c7343457c953d85dd8cd77d38c7eff10f3cba0af963beb4b369239270a658abd", func := "oriel/oriellaw13.ArchiveBack", spec := "archiveBack", inPlace := ["internal/bytealg.IndexByteString", "internal/bytealg.IndexString", "internal/abi.NoEscape", "internal/bytealg.MakeNoZero"], unfollowed := true, recurses := true, named := ["internal/bytealg.MaxLen"], apart := false }
def ArchiveBackSaid : Prop := archiveBackRow.holds Try.pinned (OpenSpec.ofChange archiveBackSpec)

/-- ITS FALSE NEIGHBOUR: 'it returns false'. Refute it at one input. -/
def archiveBackWrong : ChangeSpec := { name := "archiveBack", fn := fun _ => fun
  | [d1, d2] => { results := [.lit (.bool false)], args := [d1, d2] }
  | _ => none }
def ArchiveBackWrongFalsely : Prop := archiveBackRow.holds Try.pinned (OpenSpec.ofChange archiveBackWrong)

/-- 'oriellaw13.ArchiveFaults': WHATEVER THE INPUT: true; the input reads as it did. -/
def archiveFaultsSpec : ChangeSpec := { name := "archiveFaults", fn := fun _ => fun
  | [d1, d2] => { results := [.lit (.bool true)], args := [d1, d2] }
  | _ => none }
def archiveFaultsRow : OpenClaim := { program := "ytifhnpkapgaboaa", sum := "c7343457c953d85dd8cd77d38c7eff10f3cba0af963beb4b369239270a658abd", func := "oriel/oriellaw13.ArchiveFaults", spec := "archiveFaults", inPlace := ["internal/bytealg.IndexByteString", "internal/bytealg.IndexString", "internal/abi.NoEscape", "internal/bytealg.MakeNoZero"], unfollowed := true, recurses := true, named := ["internal/bytealg.MaxLen"], apart := false }
def ArchiveFaultsSaid : Prop := archiveFaultsRow.holds Try.pinned (OpenSpec.ofChange archiveFaultsSpec)

/-- ITS FALSE NEIGHBOUR: 'it returns false'. Refute it at one input. -/
def archiveFaultsWrong : ChangeSpec := { name := "archiveFaults", fn := fun _ => fun
  | [d1, d2] => { results := [.lit (.bool false)], args := [d1, d2] }
  | _ => none }
def ArchiveFaultsWrongFalsely : Prop := archiveFaultsRow.holds Try.pinned (OpenSpec.ofChange archiveFaultsWrong)

/-- 'oriellaw14.DeltaBack': WHATEVER THE INPUT: true; the input reads as it did. -/
def deltaBackSpec : ChangeSpec := { name := "deltaBack", fn := fun _ => fun
  | [d1, d2] => { results := [.lit (.bool true)], args := [d1, d2] }
  | _ => none }
def deltaBackRow : OpenClaim := { program := "ytifhnpkapgaboaa", sum := "c7343457c953d85dd8cd77d38c7eff10f3cba0af963beb4b369239270a658abd", func := "oriel/oriellaw14.DeltaBack", spec := "deltaBack", inPlace := ["internal/bytealg.IndexByteString", "internal/bytealg.IndexString", "internal/abi.NoEscape", "internal/bytealg.MakeNoZero"], unfollowed := true, recurses := true, named := ["internal/bytealg.MaxLen"], apart := false }
def DeltaBackSaid : Prop := deltaBackRow.holds Try.pinned (OpenSpec.ofChange deltaBackSpec)

/-- ITS FALSE NEIGHBOUR: 'it returns false'. Refute it at one input. -/
def deltaBackWrong : ChangeSpec := { name := "deltaBack", fn := fun _ => fun
  | [d1, d2] => { results := [.lit (.bool false)], args := [d1, d2] }
  | _ => none }
def DeltaBackWrongFalsely : Prop := deltaBackRow.holds Try.pinned (OpenSpec.ofChange deltaBackWrong)

/-- 'oriellaw14.DeltaMarks': WHATEVER THE INPUT: true; the input reads as it did. -/
def deltaMarksSpec : ChangeSpec := { name := "deltaMarks", fn := fun _ => fun
  | [d1, d2] => { results := [.lit (.bool true)], args := [d1, d2] }
  | _ => none }
def deltaMarksRow : OpenClaim := { program := "ytifhnpkapgaboaa", sum := "c7343457c953d85dd8cd77d38c7eff10f3cba0af963beb4b369239270a658abd", func := "oriel/oriellaw14.DeltaMarks", spec := "deltaMarks", inPlace := ["internal/bytealg.IndexByteString", "internal/bytealg.IndexString", "internal/abi.NoEscape", "internal/bytealg.MakeNoZero"], unfollowed := true, recurses := true, named := ["internal/bytealg.MaxLen"], apart := false }
def DeltaMarksSaid : Prop := deltaMarksRow.holds Try.pinned (OpenSpec.ofChange deltaMarksSpec)

/-- ITS FALSE NEIGHBOUR: 'it returns false'. Refute it at one input. -/
def deltaMarksWrong : ChangeSpec := { name := "deltaMarks", fn := fun _ => fun
  | [d1, d2] => { results := [.lit (.bool false)], args := [d1, d2] }
  | _ => none }
def DeltaMarksWrongFalsely : Prop := deltaMarksRow.holds Try.pinned (OpenSpec.ofChange deltaMarksWrong)

/- THE SECOND FORM. 'bulk': how many values and letters a reading holds, each counted each time it is reached (what is shared counts as often as it is met; a slice's spare places count too). A statement '..UptoSaid' is the law's where the arguments, and the package variables that the reading takes, are together of bulk at most 1048576: NARROWER than '..Said'. Prove '..Said' where nothing that the law and all that it calls make is longer than what came in: it says more and counts as full. Else prove '..UptoSaid'. A law counts once. -/
mutual
def uptoBulk {H : Type} : DataW H → Nat
  | .lit (.string bytes) => bytes.length + 1
  | .lit _ => 1
  | .nil => 1
  | .ptr d => uptoBulk d + 1
  | .slice elems spare => uptoBulkAll elems + uptoBulkAll spare + 1
  | .agg parts => uptoBulkAll parts + 1
  | .iface _ d => uptoBulk d + 1
  | .map entries => uptoBulkEntries entries + 1
  | .held _ => 1
def uptoBulkAll {H : Type} : List (DataW H) → Nat
  | [] => 0
  | d :: r => uptoBulk d + uptoBulkAll r
def uptoBulkEntries {H : Type} : List (Lit × DataW H) → Nat
  | [] => 0
  | x :: r => uptoBulkEntry x + uptoBulkEntries r
def uptoBulkEntry {H : Type} : Lit × DataW H → Nat
  | (.string bytes, d) => bytes.length + uptoBulk d + 1
  | (_, d) => uptoBulk d + 1
 end
def uptoSmall : (H : Type) → List (DataW H) → Bool := fun _ ds => decide (uptoBulkAll ds ≤ 1048576)
def OpenSpec.upto (s : _root_.Go.ChangeSpec) : _root_.Go.OpenSpec := { _root_.Go.OpenSpec.ofChange s with cond := some uptoSmall }

/-- 'oriellaw13.ArchiveWrites', WHERE WHAT IT READS IS OF BULK AT MOST 1048576: true; the input reads as it did. -/
def archiveWritesUptoRow : OpenClaim := { program := "ytifhnpkapgaboaa", sum := "c7343457c953d85dd8cd77d38c7eff10f3cba0af963beb4b369239270a658abd", func := "oriel/oriellaw13.ArchiveWrites", spec := "archiveWrites", inPlace := ["internal/bytealg.IndexByteString", "internal/bytealg.IndexString", "internal/abi.NoEscape", "internal/bytealg.MakeNoZero"], unfollowed := true, recurses := true, named := ["internal/bytealg.MaxLen"], apart := false, narrowed := true }
def ArchiveWritesUptoSaid : Prop := archiveWritesUptoRow.holds Try.pinned (OpenSpec.upto archiveWritesSpec)

/-- 'oriellaw13.ArchiveBack', WHERE WHAT IT READS IS OF BULK AT MOST 1048576: true; the input reads as it did. -/
def archiveBackUptoRow : OpenClaim := { program := "ytifhnpkapgaboaa", sum := "c7343457c953d85dd8cd77d38c7eff10f3cba0af963beb4b369239270a658abd", func := "oriel/oriellaw13.ArchiveBack", spec := "archiveBack", inPlace := ["internal/bytealg.IndexByteString", "internal/bytealg.IndexString", "internal/abi.NoEscape", "internal/bytealg.MakeNoZero"], unfollowed := true, recurses := true, named := ["internal/bytealg.MaxLen"], apart := false, narrowed := true }
def ArchiveBackUptoSaid : Prop := archiveBackUptoRow.holds Try.pinned (OpenSpec.upto archiveBackSpec)

/-- 'oriellaw13.ArchiveFaults', WHERE WHAT IT READS IS OF BULK AT MOST 1048576: true; the input reads as it did. -/
def archiveFaultsUptoRow : OpenClaim := { program := "ytifhnpkapgaboaa", sum := "c7343457c953d85dd8cd77d38c7eff10f3cba0af963beb4b369239270a658abd", func := "oriel/oriellaw13.ArchiveFaults", spec := "archiveFaults", inPlace := ["internal/bytealg.IndexByteString", "internal/bytealg.IndexString", "internal/abi.NoEscape", "internal/bytealg.MakeNoZero"], unfollowed := true, recurses := true, named := ["internal/bytealg.MaxLen"], apart := false, narrowed := true }
def ArchiveFaultsUptoSaid : Prop := archiveFaultsUptoRow.holds Try.pinned (OpenSpec.upto archiveFaultsSpec)

/-- 'oriellaw14.DeltaBack', WHERE WHAT IT READS IS OF BULK AT MOST 1048576: true; the input reads as it did. -/
def deltaBackUptoRow : OpenClaim := { program := "ytifhnpkapgaboaa", sum := "c7343457c953d85dd8cd77d38c7eff10f3cba0af963beb4b369239270a658abd", func := "oriel/oriellaw14.DeltaBack", spec := "deltaBack", inPlace := ["internal/bytealg.IndexByteString", "internal/bytealg.IndexString", "internal/abi.NoEscape", "internal/bytealg.MakeNoZero"], unfollowed := true, recurses := true, named := ["internal/bytealg.MaxLen"], apart := false, narrowed := true }
def DeltaBackUptoSaid : Prop := deltaBackUptoRow.holds Try.pinned (OpenSpec.upto deltaBackSpec)

/-- 'oriellaw14.DeltaMarks', WHERE WHAT IT READS IS OF BULK AT MOST 1048576: true; the input reads as it did. -/
def deltaMarksUptoRow : OpenClaim := { program := "ytifhnpkapgaboaa", sum := "c7343457c953d85dd8cd77d38c7eff10f3cba0af963beb4b369239270a658abd", func := "oriel/oriellaw14.DeltaMarks", spec := "deltaMarks", inPlace := ["internal/bytealg.IndexByteString", "internal/bytealg.IndexString", "internal/abi.NoEscape", "internal/bytealg.MakeNoZero"], unfollowed := true, recurses := true, named := ["internal/bytealg.MaxLen"], apart := false, narrowed := true }
def DeltaMarksUptoSaid : Prop := deltaMarksUptoRow.holds Try.pinned (OpenSpec.upto deltaMarksSpec)

end Rows
end Go.Proofs.Ytifhnpkapgaboaa
