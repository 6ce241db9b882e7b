/-
  No cell of these rows narrows 'for every input' (looked for: loops, veiled, ifaces, maps, wideKeys, modest, calm, conditions, laid).
  DERIVED. THE GIVEN ROWS OF THIS SEAT. 10 by the template 'for every input the law returns true; each argument reads behind the call as it read before'; 0 by the template 'total and deterministic' (their statements: YtjaljnpgomfmfaaTotals.lean).
  GIVEN WITH THE SEED: the statements are not yours to turn. If you find one false, say at which input.
  Laid BY PROGRAM, IN A SANDBOX (cutbox-rows.mjs): the forced cells as the released guide's own fill.sh prints them over the translation 1ebb268732765364… (all of the seat's roots in one cut). By AI agents, Wed Nov 11 2026. No macro, syntax, notation, axiom, sorry.
-/
import Derived.Test.YtjaljnpgomfmfaaChecked
import GoSem.Claim
import GoSem.ClaimJoined
import GoSem.ClaimMapViews
import Derived.JoinedTies
import Derived.KernelRfl
namespace Go.Proofs.Ytjaljnpgomfmfaa
/- THE CELL 'sum', in the pinned program and in every row, IS THE sha256 OF THE DUMP (.gsa) THAT YtjaljnpgomfmfaaProg.lean LOADS. Nothing in Lean hashes anything: it is a label: what it is worth is what the hold of that sum in a sandbox is worth. -/
noncomputable def Try.pinned : Pinned := { name := "ytjaljnpgomfmfaa", sum := "1ebb268732765364066142ca6c8b0b551b73d7f988d6e6b5ec5bfc5b42193b93", checked := Try.checked }
namespace Rows
def none {H : Type} : Left H := { results := [], args := [] }

/-- 'oriellaw0.OrielNames': WHATEVER THE INPUT: true; the input reads as it did. -/
def orielNamesSpec : ChangeSpec := { name := "orielNames", fn := fun _ => fun
  | [] => { results := [.lit (.bool true)], args := [] }
  | _ => none }
def orielNamesRow : OpenClaim := { program := "ytjaljnpgomfmfaa", sum := "1ebb268732765364066142ca6c8b0b551b73d7f988d6e6b5ec5bfc5b42193b93", func := "oriel/oriellaw0.OrielNames", spec := "orielNames", apart := false }
def OrielNamesSaid : Prop := orielNamesRow.holds Try.pinned (OpenSpec.ofChange orielNamesSpec)

/-- ITS FALSE NEIGHBOUR: 'it returns false'. Refute it at one input. -/
def orielNamesWrong : ChangeSpec := { name := "orielNames", fn := fun _ => fun
  | [] => { results := [.lit (.bool false)], args := [] }
  | _ => none }
def OrielNamesWrongFalsely : Prop := orielNamesRow.holds Try.pinned (OpenSpec.ofChange orielNamesWrong)

/-- 'oriellaw3.DigestTexts': WHATEVER THE INPUT: true; the input reads as it did. -/
def digestTextsSpec : ChangeSpec := { name := "digestTexts", fn := fun _ => fun
  | [d] => { results := [.lit (.bool true)], args := [d] }
  | _ => none }
def digestTextsRow : OpenClaim := { program := "ytjaljnpgomfmfaa", sum := "1ebb268732765364066142ca6c8b0b551b73d7f988d6e6b5ec5bfc5b42193b93", func := "oriel/oriellaw3.DigestTexts", spec := "digestTexts", apart := false }
def DigestTextsSaid : Prop := digestTextsRow.holds Try.pinned (OpenSpec.ofChange digestTextsSpec)

/-- ITS FALSE NEIGHBOUR: 'it returns false'. Refute it at one input. -/
def digestTextsWrong : ChangeSpec := { name := "digestTexts", fn := fun _ => fun
  | [d] => { results := [.lit (.bool false)], args := [d] }
  | _ => none }
def DigestTextsWrongFalsely : Prop := digestTextsRow.holds Try.pinned (OpenSpec.ofChange digestTextsWrong)

/-- 'oriellaw1.NumTexts': WHATEVER THE INPUT: true; the input reads as it did. -/
def numTextsSpec : ChangeSpec := { name := "numTexts", fn := fun _ => fun
  | [d1, d2, d3, d4] => { results := [.lit (.bool true)], args := [d1, d2, d3, d4] }
  | _ => none }
def numTextsRow : OpenClaim := { program := "ytjaljnpgomfmfaa", sum := "1ebb268732765364066142ca6c8b0b551b73d7f988d6e6b5ec5bfc5b42193b93", func := "oriel/oriellaw1.NumTexts", spec := "numTexts", recurses := true, apart := false }
def NumTextsSaid : Prop := numTextsRow.holds Try.pinned (OpenSpec.ofChange numTextsSpec)

/-- ITS FALSE NEIGHBOUR: 'it returns false'. Refute it at one input. -/
def numTextsWrong : ChangeSpec := { name := "numTexts", fn := fun _ => fun
  | [d1, d2, d3, d4] => { results := [.lit (.bool false)], args := [d1, d2, d3, d4] }
  | _ => none }
def NumTextsWrongFalsely : Prop := numTextsRow.holds Try.pinned (OpenSpec.ofChange numTextsWrong)

/-- 'oriellaw1.NumBack': WHATEVER THE INPUT: true; the input reads as it did. -/
def numBackSpec : ChangeSpec := { name := "numBack", fn := fun _ => fun
  | [d] => { results := [.lit (.bool true)], args := [d] }
  | _ => none }
def numBackRow : OpenClaim := { program := "ytjaljnpgomfmfaa", sum := "1ebb268732765364066142ca6c8b0b551b73d7f988d6e6b5ec5bfc5b42193b93", func := "oriel/oriellaw1.NumBack", spec := "numBack", apart := false }
def NumBackSaid : Prop := numBackRow.holds Try.pinned (OpenSpec.ofChange numBackSpec)

/-- ITS FALSE NEIGHBOUR: 'it returns false'. Refute it at one input. -/
def numBackWrong : ChangeSpec := { name := "numBack", fn := fun _ => fun
  | [d] => { results := [.lit (.bool false)], args := [d] }
  | _ => none }
def NumBackWrongFalsely : Prop := numBackRow.holds Try.pinned (OpenSpec.ofChange numBackWrong)

/-- 'oriellaw9.BitsCalls': WHATEVER THE INPUT: true; the input reads as it did. -/
def bitsCallsSpec : ChangeSpec := { name := "bitsCalls", fn := fun _ => fun
  | [d1, d2, d3, d4] => { results := [.lit (.bool true)], args := [d1, d2, d3, d4] }
  | _ => none }
def bitsCallsRow : OpenClaim := { program := "ytjaljnpgomfmfaa", sum := "1ebb268732765364066142ca6c8b0b551b73d7f988d6e6b5ec5bfc5b42193b93", func := "oriel/oriellaw9.BitsCalls", spec := "bitsCalls", apart := false }
def BitsCallsSaid : Prop := bitsCallsRow.holds Try.pinned (OpenSpec.ofChange bitsCallsSpec)

/-- ITS FALSE NEIGHBOUR: 'it returns false'. Refute it at one input. -/
def bitsCallsWrong : ChangeSpec := { name := "bitsCalls", fn := fun _ => fun
  | [d1, d2, d3, d4] => { results := [.lit (.bool false)], args := [d1, d2, d3, d4] }
  | _ => none }
def BitsCallsWrongFalsely : Prop := bitsCallsRow.holds Try.pinned (OpenSpec.ofChange bitsCallsWrong)

/-- 'oriellaw9.BitsRuns': WHATEVER THE INPUT: true; the input reads as it did. -/
def bitsRunsSpec : ChangeSpec := { name := "bitsRuns", fn := fun _ => fun
  | [d1, d2, d3] => { results := [.lit (.bool true)], args := [d1, d2, d3] }
  | _ => none }
def bitsRunsRow : OpenClaim := { program := "ytjaljnpgomfmfaa", sum := "1ebb268732765364066142ca6c8b0b551b73d7f988d6e6b5ec5bfc5b42193b93", func := "oriel/oriellaw9.BitsRuns", spec := "bitsRuns", apart := false }
def BitsRunsSaid : Prop := bitsRunsRow.holds Try.pinned (OpenSpec.ofChange bitsRunsSpec)

/-- ITS FALSE NEIGHBOUR: 'it returns false'. Refute it at one input. -/
def bitsRunsWrong : ChangeSpec := { name := "bitsRuns", fn := fun _ => fun
  | [d1, d2, d3] => { results := [.lit (.bool false)], args := [d1, d2, d3] }
  | _ => none }
def BitsRunsWrongFalsely : Prop := bitsRunsRow.holds Try.pinned (OpenSpec.ofChange bitsRunsWrong)

/-- 'oriellaw6.DiskLasts': WHATEVER THE INPUT: true; the input reads as it did. -/
def diskLastsSpec : ChangeSpec := { name := "diskLasts", fn := fun _ => fun
  | [d1, d2] => { results := [.lit (.bool true)], args := [d1, d2] }
  | _ => none }
def diskLastsRow : OpenClaim := { program := "ytjaljnpgomfmfaa", sum := "1ebb268732765364066142ca6c8b0b551b73d7f988d6e6b5ec5bfc5b42193b93", func := "oriel/oriellaw6.DiskLasts", spec := "diskLasts", apart := false }
def DiskLastsSaid : Prop := diskLastsRow.holds Try.pinned (OpenSpec.ofChange diskLastsSpec)

/-- ITS FALSE NEIGHBOUR: 'it returns false'. Refute it at one input. -/
def diskLastsWrong : ChangeSpec := { name := "diskLasts", fn := fun _ => fun
  | [d1, d2] => { results := [.lit (.bool false)], args := [d1, d2] }
  | _ => none }
def DiskLastsWrongFalsely : Prop := diskLastsRow.holds Try.pinned (OpenSpec.ofChange diskLastsWrong)

/-- 'oriellaw6.DiskSteps': WHATEVER THE INPUT: true; the input reads as it did. -/
def diskStepsSpec : ChangeSpec := { name := "diskSteps", fn := fun _ => fun
  | [d1, d2] => { results := [.lit (.bool true)], args := [d1, d2] }
  | _ => none }
def diskStepsRow : OpenClaim := { program := "ytjaljnpgomfmfaa", sum := "1ebb268732765364066142ca6c8b0b551b73d7f988d6e6b5ec5bfc5b42193b93", func := "oriel/oriellaw6.DiskSteps", spec := "diskSteps", apart := false }
def DiskStepsSaid : Prop := diskStepsRow.holds Try.pinned (OpenSpec.ofChange diskStepsSpec)

/-- ITS FALSE NEIGHBOUR: 'it returns false'. Refute it at one input. -/
def diskStepsWrong : ChangeSpec := { name := "diskSteps", fn := fun _ => fun
  | [d1, d2] => { results := [.lit (.bool false)], args := [d1, d2] }
  | _ => none }
def DiskStepsWrongFalsely : Prop := diskStepsRow.holds Try.pinned (OpenSpec.ofChange diskStepsWrong)

/-- 'oriellaw10.InodeTexts': WHATEVER THE INPUT: true; the input reads as it did. -/
def inodeTextsSpec : ChangeSpec := { name := "inodeTexts", fn := fun _ => fun
  | [d] => { results := [.lit (.bool true)], args := [d] }
  | _ => none }
def inodeTextsRow : OpenClaim := { program := "ytjaljnpgomfmfaa", sum := "1ebb268732765364066142ca6c8b0b551b73d7f988d6e6b5ec5bfc5b42193b93", func := "oriel/oriellaw10.InodeTexts", spec := "inodeTexts", inPlace := ["internal/abi.NoEscape", "internal/bytealg.MakeNoZero"], unfollowed := true, recurses := true, apart := false }
def InodeTextsSaid : Prop := inodeTextsRow.holds Try.pinned (OpenSpec.ofChange inodeTextsSpec)

/-- ITS FALSE NEIGHBOUR: 'it returns false'. Refute it at one input. -/
def inodeTextsWrong : ChangeSpec := { name := "inodeTexts", fn := fun _ => fun
  | [d] => { results := [.lit (.bool false)], args := [d] }
  | _ => none }
def InodeTextsWrongFalsely : Prop := inodeTextsRow.holds Try.pinned (OpenSpec.ofChange inodeTextsWrong)

/-- 'oriellaw10.InodeReads': WHATEVER THE INPUT: true; the input reads as it did. -/
def inodeReadsSpec : ChangeSpec := { name := "inodeReads", fn := fun _ => fun
  | [d] => { results := [.lit (.bool true)], args := [d] }
  | _ => none }
def inodeReadsRow : OpenClaim := { program := "ytjaljnpgomfmfaa", sum := "1ebb268732765364066142ca6c8b0b551b73d7f988d6e6b5ec5bfc5b42193b93", func := "oriel/oriellaw10.InodeReads", spec := "inodeReads", inPlace := ["internal/abi.NoEscape", "internal/bytealg.MakeNoZero"], unfollowed := true, recurses := true, apart := false }
def InodeReadsSaid : Prop := inodeReadsRow.holds Try.pinned (OpenSpec.ofChange inodeReadsSpec)

/-- ITS FALSE NEIGHBOUR: 'it returns false'. Refute it at one input. -/
def inodeReadsWrong : ChangeSpec := { name := "inodeReads", fn := fun _ => fun
  | [d] => { results := [.lit (.bool false)], args := [d] }
  | _ => none }
def InodeReadsWrongFalsely : Prop := inodeReadsRow.holds Try.pinned (OpenSpec.ofChange inodeReadsWrong)

/- THE SECOND FORM. 'bulk': how many values and letters a reading holds, each counted each time it is reached (what is shared counts as often as it is met; a slice's spare places count too). A statement '..UptoSaid' is the law's where the arguments, and the package variables that the reading takes, are together of bulk at most 1048576: NARROWER than '..Said'. Prove '..Said' where nothing that the law and all that it calls make is longer than what came in: it says more and counts as full. Else prove '..UptoSaid'. A law counts once. -/
mutual
def uptoBulk {H : Type} : DataW H → Nat
  | .lit (.string bytes) => bytes.length + 1
  | .lit _ => 1
  | .nil => 1
  | .ptr d => uptoBulk d + 1
  | .slice elems spare => uptoBulkAll elems + uptoBulkAll spare + 1
  | .agg parts => uptoBulkAll parts + 1
  | .iface _ d => uptoBulk d + 1
  | .map entries => uptoBulkEntries entries + 1
  | .held _ => 1
def uptoBulkAll {H : Type} : List (DataW H) → Nat
  | [] => 0
  | d :: r => uptoBulk d + uptoBulkAll r
def uptoBulkEntries {H : Type} : List (Lit × DataW H) → Nat
  | [] => 0
  | x :: r => uptoBulkEntry x + uptoBulkEntries r
def uptoBulkEntry {H : Type} : Lit × DataW H → Nat
  | (.string bytes, d) => bytes.length + uptoBulk d + 1
  | (_, d) => uptoBulk d + 1
 end
def uptoSmall : (H : Type) → List (DataW H) → Bool := fun _ ds => decide (uptoBulkAll ds ≤ 1048576)
def OpenSpec.upto (s : _root_.Go.ChangeSpec) : _root_.Go.OpenSpec := { _root_.Go.OpenSpec.ofChange s with cond := some uptoSmall }

/-- 'oriellaw0.OrielNames', WHERE WHAT IT READS IS OF BULK AT MOST 1048576: true; the input reads as it did. -/
def orielNamesUptoRow : OpenClaim := { program := "ytjaljnpgomfmfaa", sum := "1ebb268732765364066142ca6c8b0b551b73d7f988d6e6b5ec5bfc5b42193b93", func := "oriel/oriellaw0.OrielNames", spec := "orielNames", apart := false, narrowed := true }
def OrielNamesUptoSaid : Prop := orielNamesUptoRow.holds Try.pinned (OpenSpec.upto orielNamesSpec)

/-- 'oriellaw3.DigestTexts', WHERE WHAT IT READS IS OF BULK AT MOST 1048576: true; the input reads as it did. -/
def digestTextsUptoRow : OpenClaim := { program := "ytjaljnpgomfmfaa", sum := "1ebb268732765364066142ca6c8b0b551b73d7f988d6e6b5ec5bfc5b42193b93", func := "oriel/oriellaw3.DigestTexts", spec := "digestTexts", apart := false, narrowed := true }
def DigestTextsUptoSaid : Prop := digestTextsUptoRow.holds Try.pinned (OpenSpec.upto digestTextsSpec)

/-- 'oriellaw1.NumTexts', WHERE WHAT IT READS IS OF BULK AT MOST 1048576: true; the input reads as it did. -/
def numTextsUptoRow : OpenClaim := { program := "ytjaljnpgomfmfaa", sum := "1ebb268732765364066142ca6c8b0b551b73d7f988d6e6b5ec5bfc5b42193b93", func := "oriel/oriellaw1.NumTexts", spec := "numTexts", recurses := true, apart := false, narrowed := true }
def NumTextsUptoSaid : Prop := numTextsUptoRow.holds Try.pinned (OpenSpec.upto numTextsSpec)

/-- 'oriellaw1.NumBack', WHERE WHAT IT READS IS OF BULK AT MOST 1048576: true; the input reads as it did. -/
def numBackUptoRow : OpenClaim := { program := "ytjaljnpgomfmfaa", sum := "1ebb268732765364066142ca6c8b0b551b73d7f988d6e6b5ec5bfc5b42193b93", func := "oriel/oriellaw1.NumBack", spec := "numBack", apart := false, narrowed := true }
def NumBackUptoSaid : Prop := numBackUptoRow.holds Try.pinned (OpenSpec.upto numBackSpec)

/-- 'oriellaw9.BitsCalls', WHERE WHAT IT READS IS OF BULK AT MOST 1048576: true; the input reads as it did. -/
def bitsCallsUptoRow : OpenClaim := { program := "ytjaljnpgomfmfaa", sum := "1ebb268732765364066142ca6c8b0b551b73d7f988d6e6b5ec5bfc5b42193b93", func := "oriel/oriellaw9.BitsCalls", spec := "bitsCalls", apart := false, narrowed := true }
def BitsCallsUptoSaid : Prop := bitsCallsUptoRow.holds Try.pinned (OpenSpec.upto bitsCallsSpec)

/-- 'oriellaw9.BitsRuns', WHERE WHAT IT READS IS OF BULK AT MOST 1048576: true; the input reads as it did. -/
def bitsRunsUptoRow : OpenClaim := { program := "ytjaljnpgomfmfaa", sum := "1ebb268732765364066142ca6c8b0b551b73d7f988d6e6b5ec5bfc5b42193b93", func := "oriel/oriellaw9.BitsRuns", spec := "bitsRuns", apart := false, narrowed := true }
def BitsRunsUptoSaid : Prop := bitsRunsUptoRow.holds Try.pinned (OpenSpec.upto bitsRunsSpec)

/-- 'oriellaw6.DiskLasts', WHERE WHAT IT READS IS OF BULK AT MOST 1048576: true; the input reads as it did. -/
def diskLastsUptoRow : OpenClaim := { program := "ytjaljnpgomfmfaa", sum := "1ebb268732765364066142ca6c8b0b551b73d7f988d6e6b5ec5bfc5b42193b93", func := "oriel/oriellaw6.DiskLasts", spec := "diskLasts", apart := false, narrowed := true }
def DiskLastsUptoSaid : Prop := diskLastsUptoRow.holds Try.pinned (OpenSpec.upto diskLastsSpec)

/-- 'oriellaw6.DiskSteps', WHERE WHAT IT READS IS OF BULK AT MOST 1048576: true; the input reads as it did. -/
def diskStepsUptoRow : OpenClaim := { program := "ytjaljnpgomfmfaa", sum := "1ebb268732765364066142ca6c8b0b551b73d7f988d6e6b5ec5bfc5b42193b93", func := "oriel/oriellaw6.DiskSteps", spec := "diskSteps", apart := false, narrowed := true }
def DiskStepsUptoSaid : Prop := diskStepsUptoRow.holds Try.pinned (OpenSpec.upto diskStepsSpec)

/-- 'oriellaw10.InodeTexts', WHERE WHAT IT READS IS OF BULK AT MOST 1048576: true; the input reads as it did. -/
def inodeTextsUptoRow : OpenClaim := { program := "ytjaljnpgomfmfaa", sum := "1ebb268732765364066142ca6c8b0b551b73d7f988d6e6b5ec5bfc5b42193b93", func := "oriel/oriellaw10.InodeTexts", spec := "inodeTexts", inPlace := ["internal/abi.NoEscape", "internal/bytealg.MakeNoZero"], unfollowed := true, recurses := true, apart := false, narrowed := true }
def InodeTextsUptoSaid : Prop := inodeTextsUptoRow.holds Try.pinned (OpenSpec.upto inodeTextsSpec)

/-- 'oriellaw10.InodeReads', WHERE WHAT IT READS IS OF BULK AT MOST 1048576: true; the input reads as it did. -/
def inodeReadsUptoRow : OpenClaim := { program := "ytjaljnpgomfmfaa", sum := "1ebb268732765364066142ca6c8b0b551b73d7f988d6e6b5ec5bfc5b42193b93", func := "oriel/oriellaw10.InodeReads", spec := "inodeReads", inPlace := ["internal/abi.NoEscape", "internal/bytealg.MakeNoZero"], unfollowed := true, recurses := true, apart := false, narrowed := true }
def InodeReadsUptoSaid : Prop := inodeReadsUptoRow.holds Try.pinned (OpenSpec.upto inodeReadsSpec)

end Rows
end Go.Proofs.Ytjaljnpgomfmfaa
