/-
  No cell of these rows narrows 'for every input' (looked for: loops, veiled, ifaces, maps, wideKeys, modest, calm, conditions, laid).
  DERIVED. THE GIVEN ROWS OF THIS SEAT. 8 by the template 'for every input the law returns true; each argument reads behind the call as it read before'; 0 by the template 'total and deterministic' (their statements: YtcibbnphkpaifaaTotals.lean).
  GIVEN WITH THE SEED: the statements are not yours to turn. If you find one false, say at which input.
  Laid BY PROGRAM, IN A SANDBOX (cutbox-rows.mjs): the forced cells as the released guide's own fill.sh prints them over the translation 520012214cb8a8fa… (all of the seat's roots in one cut). By AI agents, Wed Nov 11 2026. No macro, syntax, notation, axiom, sorry.
-/
import Derived.Test.YtcibbnphkpaifaaChecked
import GoSem.Claim
import GoSem.ClaimJoined
import GoSem.ClaimMapViews
import Derived.JoinedTies
import Derived.KernelRfl
namespace Go.Proofs.Ytcibbnphkpaifaa
/- THE CELL 'sum', in the pinned program and in every row, IS THE sha256 OF THE DUMP (.gsa) THAT YtcibbnphkpaifaaProg.lean LOADS. Nothing in Lean hashes anything: it is a label: what it is worth is what the hold of that sum in a sandbox is worth. -/
noncomputable def Try.pinned : Pinned := { name := "ytcibbnphkpaifaa", sum := "520012214cb8a8fa8753a9a1d31b0d88d7e8da6b5c2d610fc8c315efaf6caafe", checked := Try.checked }
namespace Rows
def none {H : Type} : Left H := { results := [], args := [] }

/-- 'slackwaterlaw27.SecondLevel': WHATEVER THE INPUT: true; the input reads as it did. -/
def secondLevelSpec : ChangeSpec := { name := "secondLevel", fn := fun _ => fun
  | [d1, d2, d3] => { results := [.lit (.bool true)], args := [d1, d2, d3] }
  | _ => none }
def secondLevelRow : OpenClaim := { program := "ytcibbnphkpaifaa", sum := "520012214cb8a8fa8753a9a1d31b0d88d7e8da6b5c2d610fc8c315efaf6caafe", func := "slackwater/slackwaterlaw27.SecondLevel", spec := "secondLevel", unfollowed := true, recurses := true, apart := false }
def SecondLevelSaid : Prop := secondLevelRow.holds Try.pinned (OpenSpec.ofChange secondLevelSpec)

/-- ITS FALSE NEIGHBOUR: 'it returns false'. Refute it at one input. -/
def secondLevelWrong : ChangeSpec := { name := "secondLevel", fn := fun _ => fun
  | [d1, d2, d3] => { results := [.lit (.bool false)], args := [d1, d2, d3] }
  | _ => none }
def SecondLevelWrongFalsely : Prop := secondLevelRow.holds Try.pinned (OpenSpec.ofChange secondLevelWrong)

/-- 'slackwaterlaw27.SecondPieces': WHATEVER THE INPUT: true; the input reads as it did. -/
def secondPiecesSpec : ChangeSpec := { name := "secondPieces", fn := fun _ => fun
  | [d1, d2, d3, d4] => { results := [.lit (.bool true)], args := [d1, d2, d3, d4] }
  | _ => none }
def secondPiecesRow : OpenClaim := { program := "ytcibbnphkpaifaa", sum := "520012214cb8a8fa8753a9a1d31b0d88d7e8da6b5c2d610fc8c315efaf6caafe", func := "slackwater/slackwaterlaw27.SecondPieces", spec := "secondPieces", unfollowed := true, recurses := true, apart := false }
def SecondPiecesSaid : Prop := secondPiecesRow.holds Try.pinned (OpenSpec.ofChange secondPiecesSpec)

/-- ITS FALSE NEIGHBOUR: 'it returns false'. Refute it at one input. -/
def secondPiecesWrong : ChangeSpec := { name := "secondPieces", fn := fun _ => fun
  | [d1, d2, d3, d4] => { results := [.lit (.bool false)], args := [d1, d2, d3, d4] }
  | _ => none }
def SecondPiecesWrongFalsely : Prop := secondPiecesRow.holds Try.pinned (OpenSpec.ofChange secondPiecesWrong)

/-- 'slackwaterlaw27.SecondFits': WHATEVER THE INPUT: true; the input reads as it did. -/
def secondFitsSpec : ChangeSpec := { name := "secondFits", fn := fun _ => fun
  | [d1, d2] => { results := [.lit (.bool true)], args := [d1, d2] }
  | _ => none }
def secondFitsRow : OpenClaim := { program := "ytcibbnphkpaifaa", sum := "520012214cb8a8fa8753a9a1d31b0d88d7e8da6b5c2d610fc8c315efaf6caafe", func := "slackwater/slackwaterlaw27.SecondFits", spec := "secondFits", unfollowed := true, recurses := true, apart := false }
def SecondFitsSaid : Prop := secondFitsRow.holds Try.pinned (OpenSpec.ofChange secondFitsSpec)

/-- ITS FALSE NEIGHBOUR: 'it returns false'. Refute it at one input. -/
def secondFitsWrong : ChangeSpec := { name := "secondFits", fn := fun _ => fun
  | [d1, d2] => { results := [.lit (.bool false)], args := [d1, d2] }
  | _ => none }
def SecondFitsWrongFalsely : Prop := secondFitsRow.holds Try.pinned (OpenSpec.ofChange secondFitsWrong)

/-- 'slackwaterlaw27.SecondNames': WHATEVER THE INPUT: true; the input reads as it did. -/
def secondNamesSpec : ChangeSpec := { name := "secondNames", fn := fun _ => fun
  | [] => { results := [.lit (.bool true)], args := [] }
  | _ => none }
def secondNamesRow : OpenClaim := { program := "ytcibbnphkpaifaa", sum := "520012214cb8a8fa8753a9a1d31b0d88d7e8da6b5c2d610fc8c315efaf6caafe", func := "slackwater/slackwaterlaw27.SecondNames", spec := "secondNames", unfollowed := true, recurses := true, apart := false }
def SecondNamesSaid : Prop := secondNamesRow.holds Try.pinned (OpenSpec.ofChange secondNamesSpec)

/-- ITS FALSE NEIGHBOUR: 'it returns false'. Refute it at one input. -/
def secondNamesWrong : ChangeSpec := { name := "secondNames", fn := fun _ => fun
  | [] => { results := [.lit (.bool false)], args := [] }
  | _ => none }
def SecondNamesWrongFalsely : Prop := secondNamesRow.holds Try.pinned (OpenSpec.ofChange secondNamesWrong)

/-- 'slackwaterlaw26.DatumDaily': WHATEVER THE INPUT: true; the input reads as it did. -/
def datumDailySpec : ChangeSpec := { name := "datumDaily", fn := fun _ => fun
  | [d] => { results := [.lit (.bool true)], args := [d] }
  | _ => none }
def datumDailyRow : OpenClaim := { program := "ytcibbnphkpaifaa", sum := "520012214cb8a8fa8753a9a1d31b0d88d7e8da6b5c2d610fc8c315efaf6caafe", func := "slackwater/slackwaterlaw26.DatumDaily", spec := "datumDaily", unfollowed := true, recurses := true, apart := false }
def DatumDailySaid : Prop := datumDailyRow.holds Try.pinned (OpenSpec.ofChange datumDailySpec)

/-- ITS FALSE NEIGHBOUR: 'it returns false'. Refute it at one input. -/
def datumDailyWrong : ChangeSpec := { name := "datumDaily", fn := fun _ => fun
  | [d] => { results := [.lit (.bool false)], args := [d] }
  | _ => none }
def DatumDailyWrongFalsely : Prop := datumDailyRow.holds Try.pinned (OpenSpec.ofChange datumDailyWrong)

/-- 'slackwaterlaw26.DatumMeans': WHATEVER THE INPUT: true; the input reads as it did. -/
def datumMeansSpec : ChangeSpec := { name := "datumMeans", fn := fun _ => fun
  | [d] => { results := [.lit (.bool true)], args := [d] }
  | _ => none }
def datumMeansRow : OpenClaim := { program := "ytcibbnphkpaifaa", sum := "520012214cb8a8fa8753a9a1d31b0d88d7e8da6b5c2d610fc8c315efaf6caafe", func := "slackwater/slackwaterlaw26.DatumMeans", spec := "datumMeans", unfollowed := true, recurses := true, apart := false }
def DatumMeansSaid : Prop := datumMeansRow.holds Try.pinned (OpenSpec.ofChange datumMeansSpec)

/-- ITS FALSE NEIGHBOUR: 'it returns false'. Refute it at one input. -/
def datumMeansWrong : ChangeSpec := { name := "datumMeans", fn := fun _ => fun
  | [d] => { results := [.lit (.bool false)], args := [d] }
  | _ => none }
def DatumMeansWrongFalsely : Prop := datumMeansRow.holds Try.pinned (OpenSpec.ofChange datumMeansWrong)

/-- 'slackwaterlaw26.DatumAgainst': WHATEVER THE INPUT: true; the input reads as it did. -/
def datumAgainstSpec : ChangeSpec := { name := "datumAgainst", fn := fun _ => fun
  | [d1, d2] => { results := [.lit (.bool true)], args := [d1, d2] }
  | _ => none }
def datumAgainstRow : OpenClaim := { program := "ytcibbnphkpaifaa", sum := "520012214cb8a8fa8753a9a1d31b0d88d7e8da6b5c2d610fc8c315efaf6caafe", func := "slackwater/slackwaterlaw26.DatumAgainst", spec := "datumAgainst", unfollowed := true, recurses := true, apart := false }
def DatumAgainstSaid : Prop := datumAgainstRow.holds Try.pinned (OpenSpec.ofChange datumAgainstSpec)

/-- ITS FALSE NEIGHBOUR: 'it returns false'. Refute it at one input. -/
def datumAgainstWrong : ChangeSpec := { name := "datumAgainst", fn := fun _ => fun
  | [d1, d2] => { results := [.lit (.bool false)], args := [d1, d2] }
  | _ => none }
def DatumAgainstWrongFalsely : Prop := datumAgainstRow.holds Try.pinned (OpenSpec.ofChange datumAgainstWrong)

/-- 'slackwaterlaw26.DatumNames': WHATEVER THE INPUT: true; the input reads as it did. -/
def datumNamesSpec : ChangeSpec := { name := "datumNames", fn := fun _ => fun
  | [] => { results := [.lit (.bool true)], args := [] }
  | _ => none }
def datumNamesRow : OpenClaim := { program := "ytcibbnphkpaifaa", sum := "520012214cb8a8fa8753a9a1d31b0d88d7e8da6b5c2d610fc8c315efaf6caafe", func := "slackwater/slackwaterlaw26.DatumNames", spec := "datumNames", unfollowed := true, recurses := true, apart := false }
def DatumNamesSaid : Prop := datumNamesRow.holds Try.pinned (OpenSpec.ofChange datumNamesSpec)

/-- ITS FALSE NEIGHBOUR: 'it returns false'. Refute it at one input. -/
def datumNamesWrong : ChangeSpec := { name := "datumNames", fn := fun _ => fun
  | [] => { results := [.lit (.bool false)], args := [] }
  | _ => none }
def DatumNamesWrongFalsely : Prop := datumNamesRow.holds Try.pinned (OpenSpec.ofChange datumNamesWrong)

/- THE SECOND FORM. 'bulk': how many values and letters a reading holds, each counted each time it is reached (what is shared counts as often as it is met; a slice's spare places count too). A statement '..UptoSaid' is the law's where the arguments, and the package variables that the reading takes, are together of bulk at most 1048576: NARROWER than '..Said'. Prove '..Said' where nothing that the law and all that it calls make is longer than what came in: it says more and counts as full. Else prove '..UptoSaid'. A law counts once. -/
mutual
def uptoBulk {H : Type} : DataW H → Nat
  | .lit (.string bytes) => bytes.length + 1
  | .lit _ => 1
  | .nil => 1
  | .ptr d => uptoBulk d + 1
  | .slice elems spare => uptoBulkAll elems + uptoBulkAll spare + 1
  | .agg parts => uptoBulkAll parts + 1
  | .iface _ d => uptoBulk d + 1
  | .map entries => uptoBulkEntries entries + 1
  | .held _ => 1
def uptoBulkAll {H : Type} : List (DataW H) → Nat
  | [] => 0
  | d :: r => uptoBulk d + uptoBulkAll r
def uptoBulkEntries {H : Type} : List (Lit × DataW H) → Nat
  | [] => 0
  | x :: r => uptoBulkEntry x + uptoBulkEntries r
def uptoBulkEntry {H : Type} : Lit × DataW H → Nat
  | (.string bytes, d) => bytes.length + uptoBulk d + 1
  | (_, d) => uptoBulk d + 1
 end
def uptoSmall : (H : Type) → List (DataW H) → Bool := fun _ ds => decide (uptoBulkAll ds ≤ 1048576)
def OpenSpec.upto (s : _root_.Go.ChangeSpec) : _root_.Go.OpenSpec := { _root_.Go.OpenSpec.ofChange s with cond := some uptoSmall }

/-- 'slackwaterlaw27.SecondLevel', WHERE WHAT IT READS IS OF BULK AT MOST 1048576: true; the input reads as it did. -/
def secondLevelUptoRow : OpenClaim := { program := "ytcibbnphkpaifaa", sum := "520012214cb8a8fa8753a9a1d31b0d88d7e8da6b5c2d610fc8c315efaf6caafe", func := "slackwater/slackwaterlaw27.SecondLevel", spec := "secondLevel", unfollowed := true, recurses := true, apart := false, narrowed := true }
def SecondLevelUptoSaid : Prop := secondLevelUptoRow.holds Try.pinned (OpenSpec.upto secondLevelSpec)

/-- 'slackwaterlaw27.SecondPieces', WHERE WHAT IT READS IS OF BULK AT MOST 1048576: true; the input reads as it did. -/
def secondPiecesUptoRow : OpenClaim := { program := "ytcibbnphkpaifaa", sum := "520012214cb8a8fa8753a9a1d31b0d88d7e8da6b5c2d610fc8c315efaf6caafe", func := "slackwater/slackwaterlaw27.SecondPieces", spec := "secondPieces", unfollowed := true, recurses := true, apart := false, narrowed := true }
def SecondPiecesUptoSaid : Prop := secondPiecesUptoRow.holds Try.pinned (OpenSpec.upto secondPiecesSpec)

/-- 'slackwaterlaw27.SecondFits', WHERE WHAT IT READS IS OF BULK AT MOST 1048576: true; the input reads as it did. -/
def secondFitsUptoRow : OpenClaim := { program := "ytcibbnphkpaifaa", sum := "520012214cb8a8fa8753a9a1d31b0d88d7e8da6b5c2d610fc8c315efaf6caafe", func := "slackwater/slackwaterlaw27.SecondFits", spec := "secondFits", unfollowed := true, recurses := true, apart := false, narrowed := true }
def SecondFitsUptoSaid : Prop := secondFitsUptoRow.holds Try.pinned (OpenSpec.upto secondFitsSpec)

/-- 'slackwaterlaw27.SecondNames', WHERE WHAT IT READS IS OF BULK AT MOST 1048576: true; the input reads as it did. -/
def secondNamesUptoRow : OpenClaim := { program := "ytcibbnphkpaifaa", sum := "520012214cb8a8fa8753a9a1d31b0d88d7e8da6b5c2d610fc8c315efaf6caafe", func := "slackwater/slackwaterlaw27.SecondNames", spec := "secondNames", unfollowed := true, recurses := true, apart := false, narrowed := true }
def SecondNamesUptoSaid : Prop := secondNamesUptoRow.holds Try.pinned (OpenSpec.upto secondNamesSpec)

/-- 'slackwaterlaw26.DatumDaily', WHERE WHAT IT READS IS OF BULK AT MOST 1048576: true; the input reads as it did. -/
def datumDailyUptoRow : OpenClaim := { program := "ytcibbnphkpaifaa", sum := "520012214cb8a8fa8753a9a1d31b0d88d7e8da6b5c2d610fc8c315efaf6caafe", func := "slackwater/slackwaterlaw26.DatumDaily", spec := "datumDaily", unfollowed := true, recurses := true, apart := false, narrowed := true }
def DatumDailyUptoSaid : Prop := datumDailyUptoRow.holds Try.pinned (OpenSpec.upto datumDailySpec)

/-- 'slackwaterlaw26.DatumMeans', WHERE WHAT IT READS IS OF BULK AT MOST 1048576: true; the input reads as it did. -/
def datumMeansUptoRow : OpenClaim := { program := "ytcibbnphkpaifaa", sum := "520012214cb8a8fa8753a9a1d31b0d88d7e8da6b5c2d610fc8c315efaf6caafe", func := "slackwater/slackwaterlaw26.DatumMeans", spec := "datumMeans", unfollowed := true, recurses := true, apart := false, narrowed := true }
def DatumMeansUptoSaid : Prop := datumMeansUptoRow.holds Try.pinned (OpenSpec.upto datumMeansSpec)

/-- 'slackwaterlaw26.DatumAgainst', WHERE WHAT IT READS IS OF BULK AT MOST 1048576: true; the input reads as it did. -/
def datumAgainstUptoRow : OpenClaim := { program := "ytcibbnphkpaifaa", sum := "520012214cb8a8fa8753a9a1d31b0d88d7e8da6b5c2d610fc8c315efaf6caafe", func := "slackwater/slackwaterlaw26.DatumAgainst", spec := "datumAgainst", unfollowed := true, recurses := true, apart := false, narrowed := true }
def DatumAgainstUptoSaid : Prop := datumAgainstUptoRow.holds Try.pinned (OpenSpec.upto datumAgainstSpec)

/-- 'slackwaterlaw26.DatumNames', WHERE WHAT IT READS IS OF BULK AT MOST 1048576: true; the input reads as it did. -/
def datumNamesUptoRow : OpenClaim := { program := "ytcibbnphkpaifaa", sum := "520012214cb8a8fa8753a9a1d31b0d88d7e8da6b5c2d610fc8c315efaf6caafe", func := "slackwater/slackwaterlaw26.DatumNames", spec := "datumNames", unfollowed := true, recurses := true, apart := false, narrowed := true }
def DatumNamesUptoSaid : Prop := datumNamesUptoRow.holds Try.pinned (OpenSpec.upto datumNamesSpec)

end Rows
end Go.Proofs.Ytcibbnphkpaifaa
