/-
  No cell of these rows narrows 'for every input' (looked for: loops, veiled, ifaces, maps, wideKeys, modest, calm, conditions, laid).
  DERIVED. THE GIVEN ROWS OF THIS SEAT. 13 by the template 'for every input the law returns true; each argument reads behind the call as it read before'; 0 by the template 'total and deterministic' (their statements: YtklhdpkofpkmjaaTotals.lean).
  GIVEN WITH THE SEED: the statements are not yours to turn. If you find one false, say at which input.
  Laid BY PROGRAM, IN A SANDBOX (cutbox-rows.mjs): the forced cells as the released guide's own fill.sh prints them over the translation 2c8a75d05880fef5… (all of the seat's roots in one cut). By AI agents, Wed Nov 11 2026. No macro, syntax, notation, axiom, sorry.
-/
import Derived.Test.YtklhdpkofpkmjaaChecked
import GoSem.Claim
import GoSem.ClaimJoined
import GoSem.ClaimMapViews
import Derived.JoinedTies
import Derived.KernelRfl
namespace Go.Proofs.Ytklhdpkofpkmjaa
/- THE CELL 'sum', in the pinned program and in every row, IS THE sha256 OF THE DUMP (.gsa) THAT YtklhdpkofpkmjaaProg.lean LOADS. Nothing in Lean hashes anything: it is a label: what it is worth is what the hold of that sum in a sandbox is worth. -/
noncomputable def Try.pinned : Pinned := { name := "ytklhdpkofpkmjaa", sum := "2c8a75d05880fef54ff83c21010c292bcb374c3c31c35ccffacddbeebeedde66", checked := Try.checked }
namespace Rows
def none {H : Type} : Left H := { results := [], args := [] }

/-- 'slackwaterlaw10.AngleLunar': WHATEVER THE INPUT: true; the input reads as it did. -/
def angleLunarSpec : ChangeSpec := { name := "angleLunar", fn := fun _ => fun
  | [d] => { results := [.lit (.bool true)], args := [d] }
  | _ => none }
def angleLunarRow : OpenClaim := { program := "ytklhdpkofpkmjaa", sum := "2c8a75d05880fef54ff83c21010c292bcb374c3c31c35ccffacddbeebeedde66", func := "slackwater/slackwaterlaw10.AngleLunar", spec := "angleLunar", apart := false }
def AngleLunarSaid : Prop := angleLunarRow.holds Try.pinned (OpenSpec.ofChange angleLunarSpec)

/-- ITS FALSE NEIGHBOUR: 'it returns false'. Refute it at one input. -/
def angleLunarWrong : ChangeSpec := { name := "angleLunar", fn := fun _ => fun
  | [d] => { results := [.lit (.bool false)], args := [d] }
  | _ => none }
def AngleLunarWrongFalsely : Prop := angleLunarRow.holds Try.pinned (OpenSpec.ofChange angleLunarWrong)

/-- 'slackwaterlaw10.AngleKnown': WHATEVER THE INPUT: true; the input reads as it did. -/
def angleKnownSpec : ChangeSpec := { name := "angleKnown", fn := fun _ => fun
  | [] => { results := [.lit (.bool true)], args := [] }
  | _ => none }
def angleKnownRow : OpenClaim := { program := "ytklhdpkofpkmjaa", sum := "2c8a75d05880fef54ff83c21010c292bcb374c3c31c35ccffacddbeebeedde66", func := "slackwater/slackwaterlaw10.AngleKnown", spec := "angleKnown", apart := false }
def AngleKnownSaid : Prop := angleKnownRow.holds Try.pinned (OpenSpec.ofChange angleKnownSpec)

/-- ITS FALSE NEIGHBOUR: 'it returns false'. Refute it at one input. -/
def angleKnownWrong : ChangeSpec := { name := "angleKnown", fn := fun _ => fun
  | [] => { results := [.lit (.bool false)], args := [] }
  | _ => none }
def AngleKnownWrongFalsely : Prop := angleKnownRow.holds Try.pinned (OpenSpec.ofChange angleKnownWrong)

/-- 'slackwaterlaw10.AngleCalls': WHATEVER THE INPUT: true; the input reads as it did. -/
def angleCallsSpec : ChangeSpec := { name := "angleCalls", fn := fun _ => fun
  | [d1, d2, d3] => { results := [.lit (.bool true)], args := [d1, d2, d3] }
  | _ => none }
def angleCallsRow : OpenClaim := { program := "ytklhdpkofpkmjaa", sum := "2c8a75d05880fef54ff83c21010c292bcb374c3c31c35ccffacddbeebeedde66", func := "slackwater/slackwaterlaw10.AngleCalls", spec := "angleCalls", apart := false }
def AngleCallsSaid : Prop := angleCallsRow.holds Try.pinned (OpenSpec.ofChange angleCallsSpec)

/-- ITS FALSE NEIGHBOUR: 'it returns false'. Refute it at one input. -/
def angleCallsWrong : ChangeSpec := { name := "angleCalls", fn := fun _ => fun
  | [d1, d2, d3] => { results := [.lit (.bool false)], args := [d1, d2, d3] }
  | _ => none }
def AngleCallsWrongFalsely : Prop := angleCallsRow.holds Try.pinned (OpenSpec.ofChange angleCallsWrong)

/-- 'slackwaterlaw10.AngleGoes': WHATEVER THE INPUT: true; the input reads as it did. -/
def angleGoesSpec : ChangeSpec := { name := "angleGoes", fn := fun _ => fun
  | [d1, d2, d3] => { results := [.lit (.bool true)], args := [d1, d2, d3] }
  | _ => none }
def angleGoesRow : OpenClaim := { program := "ytklhdpkofpkmjaa", sum := "2c8a75d05880fef54ff83c21010c292bcb374c3c31c35ccffacddbeebeedde66", func := "slackwater/slackwaterlaw10.AngleGoes", spec := "angleGoes", inPlace := ["math/bits.Add64"], named := ["math/bits.divideError", "math/bits.overflowError"], apart := false }
def AngleGoesSaid : Prop := angleGoesRow.holds Try.pinned (OpenSpec.ofChange angleGoesSpec)

/-- ITS FALSE NEIGHBOUR: 'it returns false'. Refute it at one input. -/
def angleGoesWrong : ChangeSpec := { name := "angleGoes", fn := fun _ => fun
  | [d1, d2, d3] => { results := [.lit (.bool false)], args := [d1, d2, d3] }
  | _ => none }
def AngleGoesWrongFalsely : Prop := angleGoesRow.holds Try.pinned (OpenSpec.ofChange angleGoesWrong)

/-- 'slackwaterlaw12.NodalMeans': WHATEVER THE INPUT: true; the input reads as it did. -/
def nodalMeansSpec : ChangeSpec := { name := "nodalMeans", fn := fun _ => fun
  | [d1, d2, d3] => { results := [.lit (.bool true)], args := [d1, d2, d3] }
  | _ => none }
def nodalMeansRow : OpenClaim := { program := "ytklhdpkofpkmjaa", sum := "2c8a75d05880fef54ff83c21010c292bcb374c3c31c35ccffacddbeebeedde66", func := "slackwater/slackwaterlaw12.NodalMeans", spec := "nodalMeans", inPlace := ["math.Float64frombits"], apart := false }
def NodalMeansSaid : Prop := nodalMeansRow.holds Try.pinned (OpenSpec.ofChange nodalMeansSpec)

/-- ITS FALSE NEIGHBOUR: 'it returns false'. Refute it at one input. -/
def nodalMeansWrong : ChangeSpec := { name := "nodalMeans", fn := fun _ => fun
  | [d1, d2, d3] => { results := [.lit (.bool false)], args := [d1, d2, d3] }
  | _ => none }
def NodalMeansWrongFalsely : Prop := nodalMeansRow.holds Try.pinned (OpenSpec.ofChange nodalMeansWrong)

/-- 'slackwaterlaw11.DoodsonGroup': WHATEVER THE INPUT: true; the input reads as it did. -/
def doodsonGroupSpec : ChangeSpec := { name := "doodsonGroup", fn := fun _ => fun
  | [d1, d2, d3] => { results := [.lit (.bool true)], args := [d1, d2, d3] }
  | _ => none }
def doodsonGroupRow : OpenClaim := { program := "ytklhdpkofpkmjaa", sum := "2c8a75d05880fef54ff83c21010c292bcb374c3c31c35ccffacddbeebeedde66", func := "slackwater/slackwaterlaw11.DoodsonGroup", spec := "doodsonGroup", inPlace := ["math/bits.Add64"], unfollowed := true, recurses := true, apart := false }
def DoodsonGroupSaid : Prop := doodsonGroupRow.holds Try.pinned (OpenSpec.ofChange doodsonGroupSpec)

/-- ITS FALSE NEIGHBOUR: 'it returns false'. Refute it at one input. -/
def doodsonGroupWrong : ChangeSpec := { name := "doodsonGroup", fn := fun _ => fun
  | [d1, d2, d3] => { results := [.lit (.bool false)], args := [d1, d2, d3] }
  | _ => none }
def DoodsonGroupWrongFalsely : Prop := doodsonGroupRow.holds Try.pinned (OpenSpec.ofChange doodsonGroupWrong)

/-- 'slackwaterlaw12.NodalBounds': WHATEVER THE INPUT: true; the input reads as it did. -/
def nodalBoundsSpec : ChangeSpec := { name := "nodalBounds", fn := fun _ => fun
  | [d] => { results := [.lit (.bool true)], args := [d] }
  | _ => none }
def nodalBoundsRow : OpenClaim := { program := "ytklhdpkofpkmjaa", sum := "2c8a75d05880fef54ff83c21010c292bcb374c3c31c35ccffacddbeebeedde66", func := "slackwater/slackwaterlaw12.NodalBounds", spec := "nodalBounds", inPlace := ["math.Float64frombits", "math.RoundToEven"], apart := false }
def NodalBoundsSaid : Prop := nodalBoundsRow.holds Try.pinned (OpenSpec.ofChange nodalBoundsSpec)

/-- ITS FALSE NEIGHBOUR: 'it returns false'. Refute it at one input. -/
def nodalBoundsWrong : ChangeSpec := { name := "nodalBounds", fn := fun _ => fun
  | [d] => { results := [.lit (.bool false)], args := [d] }
  | _ => none }
def NodalBoundsWrongFalsely : Prop := nodalBoundsRow.holds Try.pinned (OpenSpec.ofChange nodalBoundsWrong)

/-- 'slackwaterlaw11.DoodsonCalls': WHATEVER THE INPUT: true; the input reads as it did. -/
def doodsonCallsSpec : ChangeSpec := { name := "doodsonCalls", fn := fun _ => fun
  | [d1, d2, d3] => { results := [.lit (.bool true)], args := [d1, d2, d3] }
  | _ => none }
def doodsonCallsRow : OpenClaim := { program := "ytklhdpkofpkmjaa", sum := "2c8a75d05880fef54ff83c21010c292bcb374c3c31c35ccffacddbeebeedde66", func := "slackwater/slackwaterlaw11.DoodsonCalls", spec := "doodsonCalls", inPlace := ["math/bits.Add64"], unfollowed := true, recurses := true, named := ["math/bits.divideError", "math/bits.overflowError"], apart := false }
def DoodsonCallsSaid : Prop := doodsonCallsRow.holds Try.pinned (OpenSpec.ofChange doodsonCallsSpec)

/-- ITS FALSE NEIGHBOUR: 'it returns false'. Refute it at one input. -/
def doodsonCallsWrong : ChangeSpec := { name := "doodsonCalls", fn := fun _ => fun
  | [d1, d2, d3] => { results := [.lit (.bool false)], args := [d1, d2, d3] }
  | _ => none }
def DoodsonCallsWrongFalsely : Prop := doodsonCallsRow.holds Try.pinned (OpenSpec.ofChange doodsonCallsWrong)

/-- 'slackwaterlaw12.NodalTells': WHATEVER THE INPUT: true; the input reads as it did. -/
def nodalTellsSpec : ChangeSpec := { name := "nodalTells", fn := fun _ => fun
  | [d1, d2, d3] => { results := [.lit (.bool true)], args := [d1, d2, d3] }
  | _ => none }
def nodalTellsRow : OpenClaim := { program := "ytklhdpkofpkmjaa", sum := "2c8a75d05880fef54ff83c21010c292bcb374c3c31c35ccffacddbeebeedde66", func := "slackwater/slackwaterlaw12.NodalTells", spec := "nodalTells", inPlace := ["math.Float64frombits", "math.RoundToEven", "math/bits.Add64"], apart := false }
def NodalTellsSaid : Prop := nodalTellsRow.holds Try.pinned (OpenSpec.ofChange nodalTellsSpec)

/-- ITS FALSE NEIGHBOUR: 'it returns false'. Refute it at one input. -/
def nodalTellsWrong : ChangeSpec := { name := "nodalTells", fn := fun _ => fun
  | [d1, d2, d3] => { results := [.lit (.bool false)], args := [d1, d2, d3] }
  | _ => none }
def NodalTellsWrongFalsely : Prop := nodalTellsRow.holds Try.pinned (OpenSpec.ofChange nodalTellsWrong)

/-- 'slackwaterlaw12.NodalParts': WHATEVER THE INPUT: true; the input reads as it did. -/
def nodalPartsSpec : ChangeSpec := { name := "nodalParts", fn := fun _ => fun
  | [d1, d2] => { results := [.lit (.bool true)], args := [d1, d2] }
  | _ => none }
def nodalPartsRow : OpenClaim := { program := "ytklhdpkofpkmjaa", sum := "2c8a75d05880fef54ff83c21010c292bcb374c3c31c35ccffacddbeebeedde66", func := "slackwater/slackwaterlaw12.NodalParts", spec := "nodalParts", inPlace := ["math.Float64frombits", "math.RoundToEven", "math/bits.Add64"], apart := false }
def NodalPartsSaid : Prop := nodalPartsRow.holds Try.pinned (OpenSpec.ofChange nodalPartsSpec)

/-- ITS FALSE NEIGHBOUR: 'it returns false'. Refute it at one input. -/
def nodalPartsWrong : ChangeSpec := { name := "nodalParts", fn := fun _ => fun
  | [d1, d2] => { results := [.lit (.bool false)], args := [d1, d2] }
  | _ => none }
def NodalPartsWrongFalsely : Prop := nodalPartsRow.holds Try.pinned (OpenSpec.ofChange nodalPartsWrong)

/-- 'slackwaterlaw12.NodalNames': WHATEVER THE INPUT: true; the input reads as it did. -/
def nodalNamesSpec : ChangeSpec := { name := "nodalNames", fn := fun _ => fun
  | [] => { results := [.lit (.bool true)], args := [] }
  | _ => none }
def nodalNamesRow : OpenClaim := { program := "ytklhdpkofpkmjaa", sum := "2c8a75d05880fef54ff83c21010c292bcb374c3c31c35ccffacddbeebeedde66", func := "slackwater/slackwaterlaw12.NodalNames", spec := "nodalNames", inPlace := ["math.Float64frombits", "math.RoundToEven", "math/bits.Add64"], apart := false }
def NodalNamesSaid : Prop := nodalNamesRow.holds Try.pinned (OpenSpec.ofChange nodalNamesSpec)

/-- ITS FALSE NEIGHBOUR: 'it returns false'. Refute it at one input. -/
def nodalNamesWrong : ChangeSpec := { name := "nodalNames", fn := fun _ => fun
  | [] => { results := [.lit (.bool false)], args := [] }
  | _ => none }
def NodalNamesWrongFalsely : Prop := nodalNamesRow.holds Try.pinned (OpenSpec.ofChange nodalNamesWrong)

/-- 'slackwaterlaw11.DoodsonTexts': WHATEVER THE INPUT: true; the input reads as it did. -/
def doodsonTextsSpec : ChangeSpec := { name := "doodsonTexts", fn := fun _ => fun
  | [d1, d2, d3] => { results := [.lit (.bool true)], args := [d1, d2, d3] }
  | _ => none }
def doodsonTextsRow : OpenClaim := { program := "ytklhdpkofpkmjaa", sum := "2c8a75d05880fef54ff83c21010c292bcb374c3c31c35ccffacddbeebeedde66", func := "slackwater/slackwaterlaw11.DoodsonTexts", spec := "doodsonTexts", unfollowed := true, recurses := true, apart := false }
def DoodsonTextsSaid : Prop := doodsonTextsRow.holds Try.pinned (OpenSpec.ofChange doodsonTextsSpec)

/-- ITS FALSE NEIGHBOUR: 'it returns false'. Refute it at one input. -/
def doodsonTextsWrong : ChangeSpec := { name := "doodsonTexts", fn := fun _ => fun
  | [d1, d2, d3] => { results := [.lit (.bool false)], args := [d1, d2, d3] }
  | _ => none }
def DoodsonTextsWrongFalsely : Prop := doodsonTextsRow.holds Try.pinned (OpenSpec.ofChange doodsonTextsWrong)

/-- 'slackwaterlaw11.DoodsonNames': WHATEVER THE INPUT: true; the input reads as it did. -/
def doodsonNamesSpec : ChangeSpec := { name := "doodsonNames", fn := fun _ => fun
  | [] => { results := [.lit (.bool true)], args := [] }
  | _ => none }
def doodsonNamesRow : OpenClaim := { program := "ytklhdpkofpkmjaa", sum := "2c8a75d05880fef54ff83c21010c292bcb374c3c31c35ccffacddbeebeedde66", func := "slackwater/slackwaterlaw11.DoodsonNames", spec := "doodsonNames", unfollowed := true, recurses := true, apart := false }
def DoodsonNamesSaid : Prop := doodsonNamesRow.holds Try.pinned (OpenSpec.ofChange doodsonNamesSpec)

/-- ITS FALSE NEIGHBOUR: 'it returns false'. Refute it at one input. -/
def doodsonNamesWrong : ChangeSpec := { name := "doodsonNames", fn := fun _ => fun
  | [] => { results := [.lit (.bool false)], args := [] }
  | _ => none }
def DoodsonNamesWrongFalsely : Prop := doodsonNamesRow.holds Try.pinned (OpenSpec.ofChange doodsonNamesWrong)

/- THE SECOND FORM. 'bulk': how many values and letters a reading holds, each counted each time it is reached (what is shared counts as often as it is met; a slice's spare places count too). A statement '..UptoSaid' is the law's where the arguments, and the package variables that the reading takes, are together of bulk at most 1048576: NARROWER than '..Said'. Prove '..Said' where nothing that the law and all that it calls make is longer than what came in: it says more and counts as full. Else prove '..UptoSaid'. A law counts once. -/
mutual
def uptoBulk {H : Type} : DataW H → Nat
  | .lit (.string bytes) => bytes.length + 1
  | .lit _ => 1
  | .nil => 1
  | .ptr d => uptoBulk d + 1
  | .slice elems spare => uptoBulkAll elems + uptoBulkAll spare + 1
  | .agg parts => uptoBulkAll parts + 1
  | .iface _ d => uptoBulk d + 1
  | .map entries => uptoBulkEntries entries + 1
  | .held _ => 1
def uptoBulkAll {H : Type} : List (DataW H) → Nat
  | [] => 0
  | d :: r => uptoBulk d + uptoBulkAll r
def uptoBulkEntries {H : Type} : List (Lit × DataW H) → Nat
  | [] => 0
  | x :: r => uptoBulkEntry x + uptoBulkEntries r
def uptoBulkEntry {H : Type} : Lit × DataW H → Nat
  | (.string bytes, d) => bytes.length + uptoBulk d + 1
  | (_, d) => uptoBulk d + 1
 end
def uptoSmall : (H : Type) → List (DataW H) → Bool := fun _ ds => decide (uptoBulkAll ds ≤ 1048576)
def OpenSpec.upto (s : _root_.Go.ChangeSpec) : _root_.Go.OpenSpec := { _root_.Go.OpenSpec.ofChange s with cond := some uptoSmall }

/-- 'slackwaterlaw10.AngleLunar', WHERE WHAT IT READS IS OF BULK AT MOST 1048576: true; the input reads as it did. -/
def angleLunarUptoRow : OpenClaim := { program := "ytklhdpkofpkmjaa", sum := "2c8a75d05880fef54ff83c21010c292bcb374c3c31c35ccffacddbeebeedde66", func := "slackwater/slackwaterlaw10.AngleLunar", spec := "angleLunar", apart := false, narrowed := true }
def AngleLunarUptoSaid : Prop := angleLunarUptoRow.holds Try.pinned (OpenSpec.upto angleLunarSpec)

/-- 'slackwaterlaw10.AngleKnown', WHERE WHAT IT READS IS OF BULK AT MOST 1048576: true; the input reads as it did. -/
def angleKnownUptoRow : OpenClaim := { program := "ytklhdpkofpkmjaa", sum := "2c8a75d05880fef54ff83c21010c292bcb374c3c31c35ccffacddbeebeedde66", func := "slackwater/slackwaterlaw10.AngleKnown", spec := "angleKnown", apart := false, narrowed := true }
def AngleKnownUptoSaid : Prop := angleKnownUptoRow.holds Try.pinned (OpenSpec.upto angleKnownSpec)

/-- 'slackwaterlaw10.AngleCalls', WHERE WHAT IT READS IS OF BULK AT MOST 1048576: true; the input reads as it did. -/
def angleCallsUptoRow : OpenClaim := { program := "ytklhdpkofpkmjaa", sum := "2c8a75d05880fef54ff83c21010c292bcb374c3c31c35ccffacddbeebeedde66", func := "slackwater/slackwaterlaw10.AngleCalls", spec := "angleCalls", apart := false, narrowed := true }
def AngleCallsUptoSaid : Prop := angleCallsUptoRow.holds Try.pinned (OpenSpec.upto angleCallsSpec)

/-- 'slackwaterlaw10.AngleGoes', WHERE WHAT IT READS IS OF BULK AT MOST 1048576: true; the input reads as it did. -/
def angleGoesUptoRow : OpenClaim := { program := "ytklhdpkofpkmjaa", sum := "2c8a75d05880fef54ff83c21010c292bcb374c3c31c35ccffacddbeebeedde66", func := "slackwater/slackwaterlaw10.AngleGoes", spec := "angleGoes", inPlace := ["math/bits.Add64"], named := ["math/bits.divideError", "math/bits.overflowError"], apart := false, narrowed := true }
def AngleGoesUptoSaid : Prop := angleGoesUptoRow.holds Try.pinned (OpenSpec.upto angleGoesSpec)

/-- 'slackwaterlaw12.NodalMeans', WHERE WHAT IT READS IS OF BULK AT MOST 1048576: true; the input reads as it did. -/
def nodalMeansUptoRow : OpenClaim := { program := "ytklhdpkofpkmjaa", sum := "2c8a75d05880fef54ff83c21010c292bcb374c3c31c35ccffacddbeebeedde66", func := "slackwater/slackwaterlaw12.NodalMeans", spec := "nodalMeans", inPlace := ["math.Float64frombits"], apart := false, narrowed := true }
def NodalMeansUptoSaid : Prop := nodalMeansUptoRow.holds Try.pinned (OpenSpec.upto nodalMeansSpec)

/-- 'slackwaterlaw11.DoodsonGroup', WHERE WHAT IT READS IS OF BULK AT MOST 1048576: true; the input reads as it did. -/
def doodsonGroupUptoRow : OpenClaim := { program := "ytklhdpkofpkmjaa", sum := "2c8a75d05880fef54ff83c21010c292bcb374c3c31c35ccffacddbeebeedde66", func := "slackwater/slackwaterlaw11.DoodsonGroup", spec := "doodsonGroup", inPlace := ["math/bits.Add64"], unfollowed := true, recurses := true, apart := false, narrowed := true }
def DoodsonGroupUptoSaid : Prop := doodsonGroupUptoRow.holds Try.pinned (OpenSpec.upto doodsonGroupSpec)

/-- 'slackwaterlaw12.NodalBounds', WHERE WHAT IT READS IS OF BULK AT MOST 1048576: true; the input reads as it did. -/
def nodalBoundsUptoRow : OpenClaim := { program := "ytklhdpkofpkmjaa", sum := "2c8a75d05880fef54ff83c21010c292bcb374c3c31c35ccffacddbeebeedde66", func := "slackwater/slackwaterlaw12.NodalBounds", spec := "nodalBounds", inPlace := ["math.Float64frombits", "math.RoundToEven"], apart := false, narrowed := true }
def NodalBoundsUptoSaid : Prop := nodalBoundsUptoRow.holds Try.pinned (OpenSpec.upto nodalBoundsSpec)

/-- 'slackwaterlaw11.DoodsonCalls', WHERE WHAT IT READS IS OF BULK AT MOST 1048576: true; the input reads as it did. -/
def doodsonCallsUptoRow : OpenClaim := { program := "ytklhdpkofpkmjaa", sum := "2c8a75d05880fef54ff83c21010c292bcb374c3c31c35ccffacddbeebeedde66", func := "slackwater/slackwaterlaw11.DoodsonCalls", spec := "doodsonCalls", inPlace := ["math/bits.Add64"], unfollowed := true, recurses := true, named := ["math/bits.divideError", "math/bits.overflowError"], apart := false, narrowed := true }
def DoodsonCallsUptoSaid : Prop := doodsonCallsUptoRow.holds Try.pinned (OpenSpec.upto doodsonCallsSpec)

/-- 'slackwaterlaw12.NodalTells', WHERE WHAT IT READS IS OF BULK AT MOST 1048576: true; the input reads as it did. -/
def nodalTellsUptoRow : OpenClaim := { program := "ytklhdpkofpkmjaa", sum := "2c8a75d05880fef54ff83c21010c292bcb374c3c31c35ccffacddbeebeedde66", func := "slackwater/slackwaterlaw12.NodalTells", spec := "nodalTells", inPlace := ["math.Float64frombits", "math.RoundToEven", "math/bits.Add64"], apart := false, narrowed := true }
def NodalTellsUptoSaid : Prop := nodalTellsUptoRow.holds Try.pinned (OpenSpec.upto nodalTellsSpec)

/-- 'slackwaterlaw12.NodalParts', WHERE WHAT IT READS IS OF BULK AT MOST 1048576: true; the input reads as it did. -/
def nodalPartsUptoRow : OpenClaim := { program := "ytklhdpkofpkmjaa", sum := "2c8a75d05880fef54ff83c21010c292bcb374c3c31c35ccffacddbeebeedde66", func := "slackwater/slackwaterlaw12.NodalParts", spec := "nodalParts", inPlace := ["math.Float64frombits", "math.RoundToEven", "math/bits.Add64"], apart := false, narrowed := true }
def NodalPartsUptoSaid : Prop := nodalPartsUptoRow.holds Try.pinned (OpenSpec.upto nodalPartsSpec)

/-- 'slackwaterlaw12.NodalNames', WHERE WHAT IT READS IS OF BULK AT MOST 1048576: true; the input reads as it did. -/
def nodalNamesUptoRow : OpenClaim := { program := "ytklhdpkofpkmjaa", sum := "2c8a75d05880fef54ff83c21010c292bcb374c3c31c35ccffacddbeebeedde66", func := "slackwater/slackwaterlaw12.NodalNames", spec := "nodalNames", inPlace := ["math.Float64frombits", "math.RoundToEven", "math/bits.Add64"], apart := false, narrowed := true }
def NodalNamesUptoSaid : Prop := nodalNamesUptoRow.holds Try.pinned (OpenSpec.upto nodalNamesSpec)

/-- 'slackwaterlaw11.DoodsonTexts', WHERE WHAT IT READS IS OF BULK AT MOST 1048576: true; the input reads as it did. -/
def doodsonTextsUptoRow : OpenClaim := { program := "ytklhdpkofpkmjaa", sum := "2c8a75d05880fef54ff83c21010c292bcb374c3c31c35ccffacddbeebeedde66", func := "slackwater/slackwaterlaw11.DoodsonTexts", spec := "doodsonTexts", unfollowed := true, recurses := true, apart := false, narrowed := true }
def DoodsonTextsUptoSaid : Prop := doodsonTextsUptoRow.holds Try.pinned (OpenSpec.upto doodsonTextsSpec)

/-- 'slackwaterlaw11.DoodsonNames', WHERE WHAT IT READS IS OF BULK AT MOST 1048576: true; the input reads as it did. -/
def doodsonNamesUptoRow : OpenClaim := { program := "ytklhdpkofpkmjaa", sum := "2c8a75d05880fef54ff83c21010c292bcb374c3c31c35ccffacddbeebeedde66", func := "slackwater/slackwaterlaw11.DoodsonNames", spec := "doodsonNames", unfollowed := true, recurses := true, apart := false, narrowed := true }
def DoodsonNamesUptoSaid : Prop := doodsonNamesUptoRow.holds Try.pinned (OpenSpec.upto doodsonNamesSpec)

end Rows
end Go.Proofs.Ytklhdpkofpkmjaa
