/-
  No cell of these rows narrows 'for every input' (looked for: loops, veiled, ifaces, maps, wideKeys, modest, calm, conditions, laid).
  DERIVED. THE GIVEN ROWS OF THIS SEAT. 13 by the template 'for every input the law returns true; each argument reads behind the call as it read before'; 0 by the template 'total and deterministic' (their statements: YtlgnidjkilbdfaaTotals.lean).
  GIVEN WITH THE SEED: the statements are not yours to turn. If you find one false, say at which input.
  Laid BY PROGRAM, IN A SANDBOX (cutbox-rows.mjs): the forced cells as the released guide's own fill.sh prints them over the translation 20125ba5a236a19b… (all of the seat's roots in one cut). By AI agents, Wed Nov 11 2026. No macro, syntax, notation, axiom, sorry.
-/
import Derived.Test.YtlgnidjkilbdfaaChecked
import GoSem.Claim
import GoSem.ClaimJoined
import GoSem.ClaimMapViews
import Derived.JoinedTies
import Derived.KernelRfl
namespace Go.Proofs.Ytlgnidjkilbdfaa
/- THE CELL 'sum', in the pinned program and in every row, IS THE sha256 OF THE DUMP (.gsa) THAT YtlgnidjkilbdfaaProg.lean LOADS. Nothing in Lean hashes anything: it is a label: what it is worth is what the hold of that sum in a sandbox is worth. -/
noncomputable def Try.pinned : Pinned := { name := "ytlgnidjkilbdfaa", sum := "20125ba5a236a19bc35131a1703aac0834bcd9f7a117e3322f1d6fda12ea13bb", checked := Try.checked }
namespace Rows
def none {H : Type} : Left H := { results := [], args := [] }

/-- 'slackwaterlaw19.RecordFrom': WHATEVER THE INPUT: true; the input reads as it did. -/
def recordFromSpec : ChangeSpec := { name := "recordFrom", fn := fun _ => fun
  | [d] => { results := [.lit (.bool true)], args := [d] }
  | _ => none }
def recordFromRow : OpenClaim := { program := "ytlgnidjkilbdfaa", sum := "20125ba5a236a19bc35131a1703aac0834bcd9f7a117e3322f1d6fda12ea13bb", func := "slackwater/slackwaterlaw19.RecordFrom", spec := "recordFrom", inPlace := ["math.Float64frombits", "math.Float64bits"], unfollowed := true, recurses := true, apart := false }
def RecordFromSaid : Prop := recordFromRow.holds Try.pinned (OpenSpec.ofChange recordFromSpec)

/-- ITS FALSE NEIGHBOUR: 'it returns false'. Refute it at one input. -/
def recordFromWrong : ChangeSpec := { name := "recordFrom", fn := fun _ => fun
  | [d] => { results := [.lit (.bool false)], args := [d] }
  | _ => none }
def RecordFromWrongFalsely : Prop := recordFromRow.holds Try.pinned (OpenSpec.ofChange recordFromWrong)

/-- 'slackwaterlaw19.RecordOrder': WHATEVER THE INPUT: true; the input reads as it did. -/
def recordOrderSpec : ChangeSpec := { name := "recordOrder", fn := fun _ => fun
  | [d] => { results := [.lit (.bool true)], args := [d] }
  | _ => none }
def recordOrderRow : OpenClaim := { program := "ytlgnidjkilbdfaa", sum := "20125ba5a236a19bc35131a1703aac0834bcd9f7a117e3322f1d6fda12ea13bb", func := "slackwater/slackwaterlaw19.RecordOrder", spec := "recordOrder", inPlace := ["math.Float64frombits", "math.Float64bits"], unfollowed := true, recurses := true, apart := false }
def RecordOrderSaid : Prop := recordOrderRow.holds Try.pinned (OpenSpec.ofChange recordOrderSpec)

/-- ITS FALSE NEIGHBOUR: 'it returns false'. Refute it at one input. -/
def recordOrderWrong : ChangeSpec := { name := "recordOrder", fn := fun _ => fun
  | [d] => { results := [.lit (.bool false)], args := [d] }
  | _ => none }
def RecordOrderWrongFalsely : Prop := recordOrderRow.holds Try.pinned (OpenSpec.ofChange recordOrderWrong)

/-- 'slackwaterlaw19.RecordScript': WHATEVER THE INPUT: true; the input reads as it did. -/
def recordScriptSpec : ChangeSpec := { name := "recordScript", fn := fun _ => fun
  | [d] => { results := [.lit (.bool true)], args := [d] }
  | _ => none }
def recordScriptRow : OpenClaim := { program := "ytlgnidjkilbdfaa", sum := "20125ba5a236a19bc35131a1703aac0834bcd9f7a117e3322f1d6fda12ea13bb", func := "slackwater/slackwaterlaw19.RecordScript", spec := "recordScript", inPlace := ["math.Float64frombits", "math.Float64bits"], unfollowed := true, recurses := true, apart := false }
def RecordScriptSaid : Prop := recordScriptRow.holds Try.pinned (OpenSpec.ofChange recordScriptSpec)

/-- ITS FALSE NEIGHBOUR: 'it returns false'. Refute it at one input. -/
def recordScriptWrong : ChangeSpec := { name := "recordScript", fn := fun _ => fun
  | [d] => { results := [.lit (.bool false)], args := [d] }
  | _ => none }
def RecordScriptWrongFalsely : Prop := recordScriptRow.holds Try.pinned (OpenSpec.ofChange recordScriptWrong)

/-- 'slackwaterlaw19.RecordNone': WHATEVER THE INPUT: true; the input reads as it did. -/
def recordNoneSpec : ChangeSpec := { name := "recordNone", fn := fun _ => fun
  | [d] => { results := [.lit (.bool true)], args := [d] }
  | _ => none }
def recordNoneRow : OpenClaim := { program := "ytlgnidjkilbdfaa", sum := "20125ba5a236a19bc35131a1703aac0834bcd9f7a117e3322f1d6fda12ea13bb", func := "slackwater/slackwaterlaw19.RecordNone", spec := "recordNone", inPlace := ["math.Float64frombits"], unfollowed := true, recurses := true, apart := false }
def RecordNoneSaid : Prop := recordNoneRow.holds Try.pinned (OpenSpec.ofChange recordNoneSpec)

/-- ITS FALSE NEIGHBOUR: 'it returns false'. Refute it at one input. -/
def recordNoneWrong : ChangeSpec := { name := "recordNone", fn := fun _ => fun
  | [d] => { results := [.lit (.bool false)], args := [d] }
  | _ => none }
def RecordNoneWrongFalsely : Prop := recordNoneRow.holds Try.pinned (OpenSpec.ofChange recordNoneWrong)

/-- 'slackwaterlaw19.RecordGaps': WHATEVER THE INPUT: true; the input reads as it did. -/
def recordGapsSpec : ChangeSpec := { name := "recordGaps", fn := fun _ => fun
  | [d1, d2, d3] => { results := [.lit (.bool true)], args := [d1, d2, d3] }
  | _ => none }
def recordGapsRow : OpenClaim := { program := "ytlgnidjkilbdfaa", sum := "20125ba5a236a19bc35131a1703aac0834bcd9f7a117e3322f1d6fda12ea13bb", func := "slackwater/slackwaterlaw19.RecordGaps", spec := "recordGaps", inPlace := ["math.Float64frombits", "math.Float64bits"], unfollowed := true, recurses := true, apart := false }
def RecordGapsSaid : Prop := recordGapsRow.holds Try.pinned (OpenSpec.ofChange recordGapsSpec)

/-- ITS FALSE NEIGHBOUR: 'it returns false'. Refute it at one input. -/
def recordGapsWrong : ChangeSpec := { name := "recordGaps", fn := fun _ => fun
  | [d1, d2, d3] => { results := [.lit (.bool false)], args := [d1, d2, d3] }
  | _ => none }
def RecordGapsWrongFalsely : Prop := recordGapsRow.holds Try.pinned (OpenSpec.ofChange recordGapsWrong)

/-- 'slackwaterlaw19.RecordKnown': WHATEVER THE INPUT: true; the input reads as it did. -/
def recordKnownSpec : ChangeSpec := { name := "recordKnown", fn := fun _ => fun
  | [] => { results := [.lit (.bool true)], args := [] }
  | _ => none }
def recordKnownRow : OpenClaim := { program := "ytlgnidjkilbdfaa", sum := "20125ba5a236a19bc35131a1703aac0834bcd9f7a117e3322f1d6fda12ea13bb", func := "slackwater/slackwaterlaw19.RecordKnown", spec := "recordKnown", inPlace := ["math.Float64frombits"], unfollowed := true, recurses := true, apart := false }
def RecordKnownSaid : Prop := recordKnownRow.holds Try.pinned (OpenSpec.ofChange recordKnownSpec)

/-- ITS FALSE NEIGHBOUR: 'it returns false'. Refute it at one input. -/
def recordKnownWrong : ChangeSpec := { name := "recordKnown", fn := fun _ => fun
  | [] => { results := [.lit (.bool false)], args := [] }
  | _ => none }
def RecordKnownWrongFalsely : Prop := recordKnownRow.holds Try.pinned (OpenSpec.ofChange recordKnownWrong)

/-- 'slackwaterlaw20.CleanBetween': WHATEVER THE INPUT: true; the input reads as it did. -/
def cleanBetweenSpec : ChangeSpec := { name := "cleanBetween", fn := fun _ => fun
  | [d] => { results := [.lit (.bool true)], args := [d] }
  | _ => none }
def cleanBetweenRow : OpenClaim := { program := "ytlgnidjkilbdfaa", sum := "20125ba5a236a19bc35131a1703aac0834bcd9f7a117e3322f1d6fda12ea13bb", func := "slackwater/slackwaterlaw20.CleanBetween", spec := "cleanBetween", inPlace := ["math.Float64bits", "math.Float64frombits"], unfollowed := true, recurses := true, apart := false }
def CleanBetweenSaid : Prop := cleanBetweenRow.holds Try.pinned (OpenSpec.ofChange cleanBetweenSpec)

/-- ITS FALSE NEIGHBOUR: 'it returns false'. Refute it at one input. -/
def cleanBetweenWrong : ChangeSpec := { name := "cleanBetween", fn := fun _ => fun
  | [d] => { results := [.lit (.bool false)], args := [d] }
  | _ => none }
def CleanBetweenWrongFalsely : Prop := cleanBetweenRow.holds Try.pinned (OpenSpec.ofChange cleanBetweenWrong)

/-- 'slackwaterlaw20.CleanFills': WHATEVER THE INPUT: true; the input reads as it did. -/
def cleanFillsSpec : ChangeSpec := { name := "cleanFills", fn := fun _ => fun
  | [d] => { results := [.lit (.bool true)], args := [d] }
  | _ => none }
def cleanFillsRow : OpenClaim := { program := "ytlgnidjkilbdfaa", sum := "20125ba5a236a19bc35131a1703aac0834bcd9f7a117e3322f1d6fda12ea13bb", func := "slackwater/slackwaterlaw20.CleanFills", spec := "cleanFills", inPlace := ["math.Float64bits", "math.Float64frombits"], unfollowed := true, recurses := true, apart := false }
def CleanFillsSaid : Prop := cleanFillsRow.holds Try.pinned (OpenSpec.ofChange cleanFillsSpec)

/-- ITS FALSE NEIGHBOUR: 'it returns false'. Refute it at one input. -/
def cleanFillsWrong : ChangeSpec := { name := "cleanFills", fn := fun _ => fun
  | [d] => { results := [.lit (.bool false)], args := [d] }
  | _ => none }
def CleanFillsWrongFalsely : Prop := cleanFillsRow.holds Try.pinned (OpenSpec.ofChange cleanFillsWrong)

/-- 'slackwaterlaw20.CleanMeans': WHATEVER THE INPUT: true; the input reads as it did. -/
def cleanMeansSpec : ChangeSpec := { name := "cleanMeans", fn := fun _ => fun
  | [d] => { results := [.lit (.bool true)], args := [d] }
  | _ => none }
def cleanMeansRow : OpenClaim := { program := "ytlgnidjkilbdfaa", sum := "20125ba5a236a19bc35131a1703aac0834bcd9f7a117e3322f1d6fda12ea13bb", func := "slackwater/slackwaterlaw20.CleanMeans", spec := "cleanMeans", inPlace := ["math.Float64bits", "math.Float64frombits"], unfollowed := true, recurses := true, apart := false }
def CleanMeansSaid : Prop := cleanMeansRow.holds Try.pinned (OpenSpec.ofChange cleanMeansSpec)

/-- ITS FALSE NEIGHBOUR: 'it returns false'. Refute it at one input. -/
def cleanMeansWrong : ChangeSpec := { name := "cleanMeans", fn := fun _ => fun
  | [d] => { results := [.lit (.bool false)], args := [d] }
  | _ => none }
def CleanMeansWrongFalsely : Prop := cleanMeansRow.holds Try.pinned (OpenSpec.ofChange cleanMeansWrong)

/-- 'slackwaterlaw20.CleanSpikes': WHATEVER THE INPUT: true; the input reads as it did. -/
def cleanSpikesSpec : ChangeSpec := { name := "cleanSpikes", fn := fun _ => fun
  | [d1, d2, d3] => { results := [.lit (.bool true)], args := [d1, d2, d3] }
  | _ => none }
def cleanSpikesRow : OpenClaim := { program := "ytlgnidjkilbdfaa", sum := "20125ba5a236a19bc35131a1703aac0834bcd9f7a117e3322f1d6fda12ea13bb", func := "slackwater/slackwaterlaw20.CleanSpikes", spec := "cleanSpikes", inPlace := ["math.Float64bits", "math.Float64frombits"], unfollowed := true, recurses := true, apart := false }
def CleanSpikesSaid : Prop := cleanSpikesRow.holds Try.pinned (OpenSpec.ofChange cleanSpikesSpec)

/-- ITS FALSE NEIGHBOUR: 'it returns false'. Refute it at one input. -/
def cleanSpikesWrong : ChangeSpec := { name := "cleanSpikes", fn := fun _ => fun
  | [d1, d2, d3] => { results := [.lit (.bool false)], args := [d1, d2, d3] }
  | _ => none }
def CleanSpikesWrongFalsely : Prop := cleanSpikesRow.holds Try.pinned (OpenSpec.ofChange cleanSpikesWrong)

/-- 'slackwaterlaw20.CleanMerge': WHATEVER THE INPUT: true; the input reads as it did. -/
def cleanMergeSpec : ChangeSpec := { name := "cleanMerge", fn := fun _ => fun
  | [d] => { results := [.lit (.bool true)], args := [d] }
  | _ => none }
def cleanMergeRow : OpenClaim := { program := "ytlgnidjkilbdfaa", sum := "20125ba5a236a19bc35131a1703aac0834bcd9f7a117e3322f1d6fda12ea13bb", func := "slackwater/slackwaterlaw20.CleanMerge", spec := "cleanMerge", inPlace := ["math.Float64bits", "math.Float64frombits"], unfollowed := true, recurses := true, apart := false }
def CleanMergeSaid : Prop := cleanMergeRow.holds Try.pinned (OpenSpec.ofChange cleanMergeSpec)

/-- ITS FALSE NEIGHBOUR: 'it returns false'. Refute it at one input. -/
def cleanMergeWrong : ChangeSpec := { name := "cleanMerge", fn := fun _ => fun
  | [d] => { results := [.lit (.bool false)], args := [d] }
  | _ => none }
def CleanMergeWrongFalsely : Prop := cleanMergeRow.holds Try.pinned (OpenSpec.ofChange cleanMergeWrong)

/-- 'slackwaterlaw20.CleanOrder': WHATEVER THE INPUT: true; the input reads as it did. -/
def cleanOrderSpec : ChangeSpec := { name := "cleanOrder", fn := fun _ => fun
  | [d1, d2] => { results := [.lit (.bool true)], args := [d1, d2] }
  | _ => none }
def cleanOrderRow : OpenClaim := { program := "ytlgnidjkilbdfaa", sum := "20125ba5a236a19bc35131a1703aac0834bcd9f7a117e3322f1d6fda12ea13bb", func := "slackwater/slackwaterlaw20.CleanOrder", spec := "cleanOrder", inPlace := ["math.Float64bits", "math.Float64frombits"], unfollowed := true, recurses := true, apart := false }
def CleanOrderSaid : Prop := cleanOrderRow.holds Try.pinned (OpenSpec.ofChange cleanOrderSpec)

/-- ITS FALSE NEIGHBOUR: 'it returns false'. Refute it at one input. -/
def cleanOrderWrong : ChangeSpec := { name := "cleanOrder", fn := fun _ => fun
  | [d1, d2] => { results := [.lit (.bool false)], args := [d1, d2] }
  | _ => none }
def CleanOrderWrongFalsely : Prop := cleanOrderRow.holds Try.pinned (OpenSpec.ofChange cleanOrderWrong)

/-- 'slackwaterlaw20.CleanNames': WHATEVER THE INPUT: true; the input reads as it did. -/
def cleanNamesSpec : ChangeSpec := { name := "cleanNames", fn := fun _ => fun
  | [] => { results := [.lit (.bool true)], args := [] }
  | _ => none }
def cleanNamesRow : OpenClaim := { program := "ytlgnidjkilbdfaa", sum := "20125ba5a236a19bc35131a1703aac0834bcd9f7a117e3322f1d6fda12ea13bb", func := "slackwater/slackwaterlaw20.CleanNames", spec := "cleanNames", inPlace := ["math.Float64frombits", "math.Float64bits"], unfollowed := true, recurses := true, apart := false }
def CleanNamesSaid : Prop := cleanNamesRow.holds Try.pinned (OpenSpec.ofChange cleanNamesSpec)

/-- ITS FALSE NEIGHBOUR: 'it returns false'. Refute it at one input. -/
def cleanNamesWrong : ChangeSpec := { name := "cleanNames", fn := fun _ => fun
  | [] => { results := [.lit (.bool false)], args := [] }
  | _ => none }
def CleanNamesWrongFalsely : Prop := cleanNamesRow.holds Try.pinned (OpenSpec.ofChange cleanNamesWrong)

/- THE SECOND FORM. 'bulk': how many values and letters a reading holds, each counted each time it is reached (what is shared counts as often as it is met; a slice's spare places count too). A statement '..UptoSaid' is the law's where the arguments, and the package variables that the reading takes, are together of bulk at most 1048576: NARROWER than '..Said'. Prove '..Said' where nothing that the law and all that it calls make is longer than what came in: it says more and counts as full. Else prove '..UptoSaid'. A law counts once. -/
mutual
def uptoBulk {H : Type} : DataW H → Nat
  | .lit (.string bytes) => bytes.length + 1
  | .lit _ => 1
  | .nil => 1
  | .ptr d => uptoBulk d + 1
  | .slice elems spare => uptoBulkAll elems + uptoBulkAll spare + 1
  | .agg parts => uptoBulkAll parts + 1
  | .iface _ d => uptoBulk d + 1
  | .map entries => uptoBulkEntries entries + 1
  | .held _ => 1
def uptoBulkAll {H : Type} : List (DataW H) → Nat
  | [] => 0
  | d :: r => uptoBulk d + uptoBulkAll r
def uptoBulkEntries {H : Type} : List (Lit × DataW H) → Nat
  | [] => 0
  | x :: r => uptoBulkEntry x + uptoBulkEntries r
def uptoBulkEntry {H : Type} : Lit × DataW H → Nat
  | (.string bytes, d) => bytes.length + uptoBulk d + 1
  | (_, d) => uptoBulk d + 1
 end
def uptoSmall : (H : Type) → List (DataW H) → Bool := fun _ ds => decide (uptoBulkAll ds ≤ 1048576)
def OpenSpec.upto (s : _root_.Go.ChangeSpec) : _root_.Go.OpenSpec := { _root_.Go.OpenSpec.ofChange s with cond := some uptoSmall }

/-- 'slackwaterlaw19.RecordFrom', WHERE WHAT IT READS IS OF BULK AT MOST 1048576: true; the input reads as it did. -/
def recordFromUptoRow : OpenClaim := { program := "ytlgnidjkilbdfaa", sum := "20125ba5a236a19bc35131a1703aac0834bcd9f7a117e3322f1d6fda12ea13bb", func := "slackwater/slackwaterlaw19.RecordFrom", spec := "recordFrom", inPlace := ["math.Float64frombits", "math.Float64bits"], unfollowed := true, recurses := true, apart := false, narrowed := true }
def RecordFromUptoSaid : Prop := recordFromUptoRow.holds Try.pinned (OpenSpec.upto recordFromSpec)

/-- 'slackwaterlaw19.RecordOrder', WHERE WHAT IT READS IS OF BULK AT MOST 1048576: true; the input reads as it did. -/
def recordOrderUptoRow : OpenClaim := { program := "ytlgnidjkilbdfaa", sum := "20125ba5a236a19bc35131a1703aac0834bcd9f7a117e3322f1d6fda12ea13bb", func := "slackwater/slackwaterlaw19.RecordOrder", spec := "recordOrder", inPlace := ["math.Float64frombits", "math.Float64bits"], unfollowed := true, recurses := true, apart := false, narrowed := true }
def RecordOrderUptoSaid : Prop := recordOrderUptoRow.holds Try.pinned (OpenSpec.upto recordOrderSpec)

/-- 'slackwaterlaw19.RecordScript', WHERE WHAT IT READS IS OF BULK AT MOST 1048576: true; the input reads as it did. -/
def recordScriptUptoRow : OpenClaim := { program := "ytlgnidjkilbdfaa", sum := "20125ba5a236a19bc35131a1703aac0834bcd9f7a117e3322f1d6fda12ea13bb", func := "slackwater/slackwaterlaw19.RecordScript", spec := "recordScript", inPlace := ["math.Float64frombits", "math.Float64bits"], unfollowed := true, recurses := true, apart := false, narrowed := true }
def RecordScriptUptoSaid : Prop := recordScriptUptoRow.holds Try.pinned (OpenSpec.upto recordScriptSpec)

/-- 'slackwaterlaw19.RecordNone', WHERE WHAT IT READS IS OF BULK AT MOST 1048576: true; the input reads as it did. -/
def recordNoneUptoRow : OpenClaim := { program := "ytlgnidjkilbdfaa", sum := "20125ba5a236a19bc35131a1703aac0834bcd9f7a117e3322f1d6fda12ea13bb", func := "slackwater/slackwaterlaw19.RecordNone", spec := "recordNone", inPlace := ["math.Float64frombits"], unfollowed := true, recurses := true, apart := false, narrowed := true }
def RecordNoneUptoSaid : Prop := recordNoneUptoRow.holds Try.pinned (OpenSpec.upto recordNoneSpec)

/-- 'slackwaterlaw19.RecordGaps', WHERE WHAT IT READS IS OF BULK AT MOST 1048576: true; the input reads as it did. -/
def recordGapsUptoRow : OpenClaim := { program := "ytlgnidjkilbdfaa", sum := "20125ba5a236a19bc35131a1703aac0834bcd9f7a117e3322f1d6fda12ea13bb", func := "slackwater/slackwaterlaw19.RecordGaps", spec := "recordGaps", inPlace := ["math.Float64frombits", "math.Float64bits"], unfollowed := true, recurses := true, apart := false, narrowed := true }
def RecordGapsUptoSaid : Prop := recordGapsUptoRow.holds Try.pinned (OpenSpec.upto recordGapsSpec)

/-- 'slackwaterlaw19.RecordKnown', WHERE WHAT IT READS IS OF BULK AT MOST 1048576: true; the input reads as it did. -/
def recordKnownUptoRow : OpenClaim := { program := "ytlgnidjkilbdfaa", sum := "20125ba5a236a19bc35131a1703aac0834bcd9f7a117e3322f1d6fda12ea13bb", func := "slackwater/slackwaterlaw19.RecordKnown", spec := "recordKnown", inPlace := ["math.Float64frombits"], unfollowed := true, recurses := true, apart := false, narrowed := true }
def RecordKnownUptoSaid : Prop := recordKnownUptoRow.holds Try.pinned (OpenSpec.upto recordKnownSpec)

/-- 'slackwaterlaw20.CleanBetween', WHERE WHAT IT READS IS OF BULK AT MOST 1048576: true; the input reads as it did. -/
def cleanBetweenUptoRow : OpenClaim := { program := "ytlgnidjkilbdfaa", sum := "20125ba5a236a19bc35131a1703aac0834bcd9f7a117e3322f1d6fda12ea13bb", func := "slackwater/slackwaterlaw20.CleanBetween", spec := "cleanBetween", inPlace := ["math.Float64bits", "math.Float64frombits"], unfollowed := true, recurses := true, apart := false, narrowed := true }
def CleanBetweenUptoSaid : Prop := cleanBetweenUptoRow.holds Try.pinned (OpenSpec.upto cleanBetweenSpec)

/-- 'slackwaterlaw20.CleanFills', WHERE WHAT IT READS IS OF BULK AT MOST 1048576: true; the input reads as it did. -/
def cleanFillsUptoRow : OpenClaim := { program := "ytlgnidjkilbdfaa", sum := "20125ba5a236a19bc35131a1703aac0834bcd9f7a117e3322f1d6fda12ea13bb", func := "slackwater/slackwaterlaw20.CleanFills", spec := "cleanFills", inPlace := ["math.Float64bits", "math.Float64frombits"], unfollowed := true, recurses := true, apart := false, narrowed := true }
def CleanFillsUptoSaid : Prop := cleanFillsUptoRow.holds Try.pinned (OpenSpec.upto cleanFillsSpec)

/-- 'slackwaterlaw20.CleanMeans', WHERE WHAT IT READS IS OF BULK AT MOST 1048576: true; the input reads as it did. -/
def cleanMeansUptoRow : OpenClaim := { program := "ytlgnidjkilbdfaa", sum := "20125ba5a236a19bc35131a1703aac0834bcd9f7a117e3322f1d6fda12ea13bb", func := "slackwater/slackwaterlaw20.CleanMeans", spec := "cleanMeans", inPlace := ["math.Float64bits", "math.Float64frombits"], unfollowed := true, recurses := true, apart := false, narrowed := true }
def CleanMeansUptoSaid : Prop := cleanMeansUptoRow.holds Try.pinned (OpenSpec.upto cleanMeansSpec)

/-- 'slackwaterlaw20.CleanSpikes', WHERE WHAT IT READS IS OF BULK AT MOST 1048576: true; the input reads as it did. -/
def cleanSpikesUptoRow : OpenClaim := { program := "ytlgnidjkilbdfaa", sum := "20125ba5a236a19bc35131a1703aac0834bcd9f7a117e3322f1d6fda12ea13bb", func := "slackwater/slackwaterlaw20.CleanSpikes", spec := "cleanSpikes", inPlace := ["math.Float64bits", "math.Float64frombits"], unfollowed := true, recurses := true, apart := false, narrowed := true }
def CleanSpikesUptoSaid : Prop := cleanSpikesUptoRow.holds Try.pinned (OpenSpec.upto cleanSpikesSpec)

/-- 'slackwaterlaw20.CleanMerge', WHERE WHAT IT READS IS OF BULK AT MOST 1048576: true; the input reads as it did. -/
def cleanMergeUptoRow : OpenClaim := { program := "ytlgnidjkilbdfaa", sum := "20125ba5a236a19bc35131a1703aac0834bcd9f7a117e3322f1d6fda12ea13bb", func := "slackwater/slackwaterlaw20.CleanMerge", spec := "cleanMerge", inPlace := ["math.Float64bits", "math.Float64frombits"], unfollowed := true, recurses := true, apart := false, narrowed := true }
def CleanMergeUptoSaid : Prop := cleanMergeUptoRow.holds Try.pinned (OpenSpec.upto cleanMergeSpec)

/-- 'slackwaterlaw20.CleanOrder', WHERE WHAT IT READS IS OF BULK AT MOST 1048576: true; the input reads as it did. -/
def cleanOrderUptoRow : OpenClaim := { program := "ytlgnidjkilbdfaa", sum := "20125ba5a236a19bc35131a1703aac0834bcd9f7a117e3322f1d6fda12ea13bb", func := "slackwater/slackwaterlaw20.CleanOrder", spec := "cleanOrder", inPlace := ["math.Float64bits", "math.Float64frombits"], unfollowed := true, recurses := true, apart := false, narrowed := true }
def CleanOrderUptoSaid : Prop := cleanOrderUptoRow.holds Try.pinned (OpenSpec.upto cleanOrderSpec)

/-- 'slackwaterlaw20.CleanNames', WHERE WHAT IT READS IS OF BULK AT MOST 1048576: true; the input reads as it did. -/
def cleanNamesUptoRow : OpenClaim := { program := "ytlgnidjkilbdfaa", sum := "20125ba5a236a19bc35131a1703aac0834bcd9f7a117e3322f1d6fda12ea13bb", func := "slackwater/slackwaterlaw20.CleanNames", spec := "cleanNames", inPlace := ["math.Float64frombits", "math.Float64bits"], unfollowed := true, recurses := true, apart := false, narrowed := true }
def CleanNamesUptoSaid : Prop := cleanNamesUptoRow.holds Try.pinned (OpenSpec.upto cleanNamesSpec)

end Rows
end Go.Proofs.Ytlgnidjkilbdfaa
