/-
  No cell of these rows narrows 'for every input' (looked for: loops, veiled, ifaces, maps, wideKeys, modest, calm, conditions, laid).
  DERIVED. THE GIVEN ROWS OF THIS SEAT. 16 by the template 'for every input the law returns true; each argument reads behind the call as it read before'; 0 by the template 'total and deterministic' (their statements: YtlmiojnkjlnmjaaTotals.lean).
  GIVEN WITH THE SEED: the statements are not yours to turn. If you find one false, say at which input.
  Laid BY PROGRAM, IN A SANDBOX (cutbox-rows.mjs): the forced cells as the released guide's own fill.sh prints them over the translation f58071eb504b094f… (all of the seat's roots in one cut). By AI agents, Wed Nov 11 2026. No macro, syntax, notation, axiom, sorry.
-/
import Derived.Test.YtlmiojnkjlnmjaaChecked
import GoSem.Claim
import GoSem.ClaimJoined
import GoSem.ClaimMapViews
import Derived.JoinedTies
import Derived.KernelRfl
namespace Go.Proofs.Ytlmiojnkjlnmjaa
/- THE CELL 'sum', in the pinned program and in every row, IS THE sha256 OF THE DUMP (.gsa) THAT YtlmiojnkjlnmjaaProg.lean LOADS. Nothing in Lean hashes anything: it is a label: what it is worth is what the hold of that sum in a sandbox is worth. -/
noncomputable def Try.pinned : Pinned := { name := "ytlmiojnkjlnmjaa", sum := "f58071eb504b094f4b0ac7258a94a3aca6e3c9de2f99a0c7e3883bf853ff0d42", checked := Try.checked }
namespace Rows
def none {H : Type} : Left H := { results := [], args := [] }

/-- 'laws.FnExactSavedTime': WHATEVER THE INPUT: true; the input reads as it did. -/
def fnExactSavedTimeSpec : ChangeSpec := { name := "fnExactSavedTime", fn := fun _ => fun
  | [d1, d2] => { results := [.lit (.bool true)], args := [d1, d2] }
  | _ => none }
def fnExactSavedTimeRow : OpenClaim := { program := "ytlmiojnkjlnmjaa", sum := "f58071eb504b094f4b0ac7258a94a3aca6e3c9de2f99a0c7e3883bf853ff0d42", func := "loop.example/g01272/laws.FnExactSavedTime", spec := "fnExactSavedTime", unfollowed := true, recurses := true, apart := false }
def FnExactSavedTimeSaid : Prop := fnExactSavedTimeRow.holds Try.pinned (OpenSpec.ofChange fnExactSavedTimeSpec)

/-- ITS FALSE NEIGHBOUR: 'it returns false'. Refute it at one input. -/
def fnExactSavedTimeWrong : ChangeSpec := { name := "fnExactSavedTime", fn := fun _ => fun
  | [d1, d2] => { results := [.lit (.bool false)], args := [d1, d2] }
  | _ => none }
def FnExactSavedTimeWrongFalsely : Prop := fnExactSavedTimeRow.holds Try.pinned (OpenSpec.ofChange fnExactSavedTimeWrong)

/-- 'laws.FnExactFirstPairList': WHATEVER THE INPUT: true; the input reads as it did. -/
def fnExactFirstPairListSpec : ChangeSpec := { name := "fnExactFirstPairList", fn := fun _ => fun
  | [d1, d2, d3] => { results := [.lit (.bool true)], args := [d1, d2, d3] }
  | _ => none }
def fnExactFirstPairListRow : OpenClaim := { program := "ytlmiojnkjlnmjaa", sum := "f58071eb504b094f4b0ac7258a94a3aca6e3c9de2f99a0c7e3883bf853ff0d42", func := "loop.example/g01272/laws.FnExactFirstPairList", spec := "fnExactFirstPairList", unfollowed := true, recurses := true, apart := false }
def FnExactFirstPairListSaid : Prop := fnExactFirstPairListRow.holds Try.pinned (OpenSpec.ofChange fnExactFirstPairListSpec)

/-- ITS FALSE NEIGHBOUR: 'it returns false'. Refute it at one input. -/
def fnExactFirstPairListWrong : ChangeSpec := { name := "fnExactFirstPairList", fn := fun _ => fun
  | [d1, d2, d3] => { results := [.lit (.bool false)], args := [d1, d2, d3] }
  | _ => none }
def FnExactFirstPairListWrongFalsely : Prop := fnExactFirstPairListRow.holds Try.pinned (OpenSpec.ofChange fnExactFirstPairListWrong)

/-- 'laws.FnPairsChangeOfAll': WHATEVER THE INPUT: true; the input reads as it did. -/
def fnPairsChangeOfAllSpec : ChangeSpec := { name := "fnPairsChangeOfAll", fn := fun _ => fun
  | [d1, d2, d3, d4, d5, d6, d7, d8] => { results := [.lit (.bool true)], args := [d1, d2, d3, d4, d5, d6, d7, d8] }
  | _ => none }
def fnPairsChangeOfAllRow : OpenClaim := { program := "ytlmiojnkjlnmjaa", sum := "f58071eb504b094f4b0ac7258a94a3aca6e3c9de2f99a0c7e3883bf853ff0d42", func := "loop.example/g01272/laws.FnPairsChangeOfAll", spec := "fnPairsChangeOfAll", unfollowed := true, recurses := true, apart := false }
def FnPairsChangeOfAllSaid : Prop := fnPairsChangeOfAllRow.holds Try.pinned (OpenSpec.ofChange fnPairsChangeOfAllSpec)

/-- ITS FALSE NEIGHBOUR: 'it returns false'. Refute it at one input. -/
def fnPairsChangeOfAllWrong : ChangeSpec := { name := "fnPairsChangeOfAll", fn := fun _ => fun
  | [d1, d2, d3, d4, d5, d6, d7, d8] => { results := [.lit (.bool false)], args := [d1, d2, d3, d4, d5, d6, d7, d8] }
  | _ => none }
def FnPairsChangeOfAllWrongFalsely : Prop := fnPairsChangeOfAllRow.holds Try.pinned (OpenSpec.ofChange fnPairsChangeOfAllWrong)

/-- 'laws.FnExactRankOfPace': WHATEVER THE INPUT: true; the input reads as it did. -/
def fnExactRankOfPaceSpec : ChangeSpec := { name := "fnExactRankOfPace", fn := fun _ => fun
  | [d] => { results := [.lit (.bool true)], args := [d] }
  | _ => none }
def fnExactRankOfPaceRow : OpenClaim := { program := "ytlmiojnkjlnmjaa", sum := "f58071eb504b094f4b0ac7258a94a3aca6e3c9de2f99a0c7e3883bf853ff0d42", func := "loop.example/g01272/laws.FnExactRankOfPace", spec := "fnExactRankOfPace", unfollowed := true, recurses := true, apart := false }
def FnExactRankOfPaceSaid : Prop := fnExactRankOfPaceRow.holds Try.pinned (OpenSpec.ofChange fnExactRankOfPaceSpec)

/-- ITS FALSE NEIGHBOUR: 'it returns false'. Refute it at one input. -/
def fnExactRankOfPaceWrong : ChangeSpec := { name := "fnExactRankOfPace", fn := fun _ => fun
  | [d] => { results := [.lit (.bool false)], args := [d] }
  | _ => none }
def FnExactRankOfPaceWrongFalsely : Prop := fnExactRankOfPaceRow.holds Try.pinned (OpenSpec.ofChange fnExactRankOfPaceWrong)

/-- 'laws.FnExactHasEvenRound': WHATEVER THE INPUT: true; the input reads as it did. -/
def fnExactHasEvenRoundSpec : ChangeSpec := { name := "fnExactHasEvenRound", fn := fun _ => fun
  | [d] => { results := [.lit (.bool true)], args := [d] }
  | _ => none }
def fnExactHasEvenRoundRow : OpenClaim := { program := "ytlmiojnkjlnmjaa", sum := "f58071eb504b094f4b0ac7258a94a3aca6e3c9de2f99a0c7e3883bf853ff0d42", func := "loop.example/g01272/laws.FnExactHasEvenRound", spec := "fnExactHasEvenRound", unfollowed := true, recurses := true, apart := false }
def FnExactHasEvenRoundSaid : Prop := fnExactHasEvenRoundRow.holds Try.pinned (OpenSpec.ofChange fnExactHasEvenRoundSpec)

/-- ITS FALSE NEIGHBOUR: 'it returns false'. Refute it at one input. -/
def fnExactHasEvenRoundWrong : ChangeSpec := { name := "fnExactHasEvenRound", fn := fun _ => fun
  | [d] => { results := [.lit (.bool false)], args := [d] }
  | _ => none }
def FnExactHasEvenRoundWrongFalsely : Prop := fnExactHasEvenRoundRow.holds Try.pinned (OpenSpec.ofChange fnExactHasEvenRoundWrong)

/-- 'laws.FnExactPairRounds': WHATEVER THE INPUT: true; the input reads as it did. -/
def fnExactPairRoundsSpec : ChangeSpec := { name := "fnExactPairRounds", fn := fun _ => fun
  | [d] => { results := [.lit (.bool true)], args := [d] }
  | _ => none }
def fnExactPairRoundsRow : OpenClaim := { program := "ytlmiojnkjlnmjaa", sum := "f58071eb504b094f4b0ac7258a94a3aca6e3c9de2f99a0c7e3883bf853ff0d42", func := "loop.example/g01272/laws.FnExactPairRounds", spec := "fnExactPairRounds", unfollowed := true, recurses := true, apart := false }
def FnExactPairRoundsSaid : Prop := fnExactPairRoundsRow.holds Try.pinned (OpenSpec.ofChange fnExactPairRoundsSpec)

/-- ITS FALSE NEIGHBOUR: 'it returns false'. Refute it at one input. -/
def fnExactPairRoundsWrong : ChangeSpec := { name := "fnExactPairRounds", fn := fun _ => fun
  | [d] => { results := [.lit (.bool false)], args := [d] }
  | _ => none }
def FnExactPairRoundsWrongFalsely : Prop := fnExactPairRoundsRow.holds Try.pinned (OpenSpec.ofChange fnExactPairRoundsWrong)

/-- 'laws.FnExactCountFetches': WHATEVER THE INPUT: true; the input reads as it did. -/
def fnExactCountFetchesSpec : ChangeSpec := { name := "fnExactCountFetches", fn := fun _ => fun
  | [d] => { results := [.lit (.bool true)], args := [d] }
  | _ => none }
def fnExactCountFetchesRow : OpenClaim := { program := "ytlmiojnkjlnmjaa", sum := "f58071eb504b094f4b0ac7258a94a3aca6e3c9de2f99a0c7e3883bf853ff0d42", func := "loop.example/g01272/laws.FnExactCountFetches", spec := "fnExactCountFetches", unfollowed := true, recurses := true, apart := false }
def FnExactCountFetchesSaid : Prop := fnExactCountFetchesRow.holds Try.pinned (OpenSpec.ofChange fnExactCountFetchesSpec)

/-- ITS FALSE NEIGHBOUR: 'it returns false'. Refute it at one input. -/
def fnExactCountFetchesWrong : ChangeSpec := { name := "fnExactCountFetches", fn := fun _ => fun
  | [d] => { results := [.lit (.bool false)], args := [d] }
  | _ => none }
def FnExactCountFetchesWrongFalsely : Prop := fnExactCountFetchesRow.holds Try.pinned (OpenSpec.ofChange fnExactCountFetchesWrong)

/-- 'laws.FnExactWhoComesBack': WHATEVER THE INPUT: true; the input reads as it did. -/
def fnExactWhoComesBackSpec : ChangeSpec := { name := "fnExactWhoComesBack", fn := fun _ => fun
  | [d] => { results := [.lit (.bool true)], args := [d] }
  | _ => none }
def fnExactWhoComesBackRow : OpenClaim := { program := "ytlmiojnkjlnmjaa", sum := "f58071eb504b094f4b0ac7258a94a3aca6e3c9de2f99a0c7e3883bf853ff0d42", func := "loop.example/g01272/laws.FnExactWhoComesBack", spec := "fnExactWhoComesBack", unfollowed := true, recurses := true, apart := false }
def FnExactWhoComesBackSaid : Prop := fnExactWhoComesBackRow.holds Try.pinned (OpenSpec.ofChange fnExactWhoComesBackSpec)

/-- ITS FALSE NEIGHBOUR: 'it returns false'. Refute it at one input. -/
def fnExactWhoComesBackWrong : ChangeSpec := { name := "fnExactWhoComesBack", fn := fun _ => fun
  | [d] => { results := [.lit (.bool false)], args := [d] }
  | _ => none }
def FnExactWhoComesBackWrongFalsely : Prop := fnExactWhoComesBackRow.holds Try.pinned (OpenSpec.ofChange fnExactWhoComesBackWrong)

/-- 'laws.FnExactEscortTime': WHATEVER THE INPUT: true; the input reads as it did. -/
def fnExactEscortTimeSpec : ChangeSpec := { name := "fnExactEscortTime", fn := fun _ => fun
  | [d] => { results := [.lit (.bool true)], args := [d] }
  | _ => none }
def fnExactEscortTimeRow : OpenClaim := { program := "ytlmiojnkjlnmjaa", sum := "f58071eb504b094f4b0ac7258a94a3aca6e3c9de2f99a0c7e3883bf853ff0d42", func := "loop.example/g01272/laws.FnExactEscortTime", spec := "fnExactEscortTime", unfollowed := true, recurses := true, apart := false }
def FnExactEscortTimeSaid : Prop := fnExactEscortTimeRow.holds Try.pinned (OpenSpec.ofChange fnExactEscortTimeSpec)

/-- ITS FALSE NEIGHBOUR: 'it returns false'. Refute it at one input. -/
def fnExactEscortTimeWrong : ChangeSpec := { name := "fnExactEscortTime", fn := fun _ => fun
  | [d] => { results := [.lit (.bool false)], args := [d] }
  | _ => none }
def FnExactEscortTimeWrongFalsely : Prop := fnExactEscortTimeRow.holds Try.pinned (OpenSpec.ofChange fnExactEscortTimeWrong)

/-- 'laws.FnExactPairTime': WHATEVER THE INPUT: true; the input reads as it did. -/
def fnExactPairTimeSpec : ChangeSpec := { name := "fnExactPairTime", fn := fun _ => fun
  | [d] => { results := [.lit (.bool true)], args := [d] }
  | _ => none }
def fnExactPairTimeRow : OpenClaim := { program := "ytlmiojnkjlnmjaa", sum := "f58071eb504b094f4b0ac7258a94a3aca6e3c9de2f99a0c7e3883bf853ff0d42", func := "loop.example/g01272/laws.FnExactPairTime", spec := "fnExactPairTime", unfollowed := true, recurses := true, apart := false }
def FnExactPairTimeSaid : Prop := fnExactPairTimeRow.holds Try.pinned (OpenSpec.ofChange fnExactPairTimeSpec)

/-- ITS FALSE NEIGHBOUR: 'it returns false'. Refute it at one input. -/
def fnExactPairTimeWrong : ChangeSpec := { name := "fnExactPairTime", fn := fun _ => fun
  | [d] => { results := [.lit (.bool false)], args := [d] }
  | _ => none }
def FnExactPairTimeWrongFalsely : Prop := fnExactPairTimeRow.holds Try.pinned (OpenSpec.ofChange fnExactPairTimeWrong)

/-- 'laws.FnExactEscortPlan': WHATEVER THE INPUT: true; the input reads as it did. -/
def fnExactEscortPlanSpec : ChangeSpec := { name := "fnExactEscortPlan", fn := fun _ => fun
  | [d] => { results := [.lit (.bool true)], args := [d] }
  | _ => none }
def fnExactEscortPlanRow : OpenClaim := { program := "ytlmiojnkjlnmjaa", sum := "f58071eb504b094f4b0ac7258a94a3aca6e3c9de2f99a0c7e3883bf853ff0d42", func := "loop.example/g01272/laws.FnExactEscortPlan", spec := "fnExactEscortPlan", unfollowed := true, recurses := true, apart := false }
def FnExactEscortPlanSaid : Prop := fnExactEscortPlanRow.holds Try.pinned (OpenSpec.ofChange fnExactEscortPlanSpec)

/-- ITS FALSE NEIGHBOUR: 'it returns false'. Refute it at one input. -/
def fnExactEscortPlanWrong : ChangeSpec := { name := "fnExactEscortPlan", fn := fun _ => fun
  | [d] => { results := [.lit (.bool false)], args := [d] }
  | _ => none }
def FnExactEscortPlanWrongFalsely : Prop := fnExactEscortPlanRow.holds Try.pinned (OpenSpec.ofChange fnExactEscortPlanWrong)

/-- 'laws.FnExactPairPlan': WHATEVER THE INPUT: true; the input reads as it did. -/
def fnExactPairPlanSpec : ChangeSpec := { name := "fnExactPairPlan", fn := fun _ => fun
  | [d] => { results := [.lit (.bool true)], args := [d] }
  | _ => none }
def fnExactPairPlanRow : OpenClaim := { program := "ytlmiojnkjlnmjaa", sum := "f58071eb504b094f4b0ac7258a94a3aca6e3c9de2f99a0c7e3883bf853ff0d42", func := "loop.example/g01272/laws.FnExactPairPlan", spec := "fnExactPairPlan", unfollowed := true, recurses := true, apart := false }
def FnExactPairPlanSaid : Prop := fnExactPairPlanRow.holds Try.pinned (OpenSpec.ofChange fnExactPairPlanSpec)

/-- ITS FALSE NEIGHBOUR: 'it returns false'. Refute it at one input. -/
def fnExactPairPlanWrong : ChangeSpec := { name := "fnExactPairPlan", fn := fun _ => fun
  | [d] => { results := [.lit (.bool false)], args := [d] }
  | _ => none }
def FnExactPairPlanWrongFalsely : Prop := fnExactPairPlanRow.holds Try.pinned (OpenSpec.ofChange fnExactPairPlanWrong)

/-- 'laws.FnExactPairGain': WHATEVER THE INPUT: true; the input reads as it did. -/
def fnExactPairGainSpec : ChangeSpec := { name := "fnExactPairGain", fn := fun _ => fun
  | [d] => { results := [.lit (.bool true)], args := [d] }
  | _ => none }
def fnExactPairGainRow : OpenClaim := { program := "ytlmiojnkjlnmjaa", sum := "f58071eb504b094f4b0ac7258a94a3aca6e3c9de2f99a0c7e3883bf853ff0d42", func := "loop.example/g01272/laws.FnExactPairGain", spec := "fnExactPairGain", unfollowed := true, recurses := true, apart := false }
def FnExactPairGainSaid : Prop := fnExactPairGainRow.holds Try.pinned (OpenSpec.ofChange fnExactPairGainSpec)

/-- ITS FALSE NEIGHBOUR: 'it returns false'. Refute it at one input. -/
def fnExactPairGainWrong : ChangeSpec := { name := "fnExactPairGain", fn := fun _ => fun
  | [d] => { results := [.lit (.bool false)], args := [d] }
  | _ => none }
def FnExactPairGainWrongFalsely : Prop := fnExactPairGainRow.holds Try.pinned (OpenSpec.ofChange fnExactPairGainWrong)

/-- 'laws.FnExactAddedTime': WHATEVER THE INPUT: true; the input reads as it did. -/
def fnExactAddedTimeSpec : ChangeSpec := { name := "fnExactAddedTime", fn := fun _ => fun
  | [d1, d2] => { results := [.lit (.bool true)], args := [d1, d2] }
  | _ => none }
def fnExactAddedTimeRow : OpenClaim := { program := "ytlmiojnkjlnmjaa", sum := "f58071eb504b094f4b0ac7258a94a3aca6e3c9de2f99a0c7e3883bf853ff0d42", func := "loop.example/g01272/laws.FnExactAddedTime", spec := "fnExactAddedTime", unfollowed := true, recurses := true, apart := false }
def FnExactAddedTimeSaid : Prop := fnExactAddedTimeRow.holds Try.pinned (OpenSpec.ofChange fnExactAddedTimeSpec)

/-- ITS FALSE NEIGHBOUR: 'it returns false'. Refute it at one input. -/
def fnExactAddedTimeWrong : ChangeSpec := { name := "fnExactAddedTime", fn := fun _ => fun
  | [d1, d2] => { results := [.lit (.bool false)], args := [d1, d2] }
  | _ => none }
def FnExactAddedTimeWrongFalsely : Prop := fnExactAddedTimeRow.holds Try.pinned (OpenSpec.ofChange fnExactAddedTimeWrong)

/-- 'laws.FnExactCountPairLists': WHATEVER THE INPUT: true; the input reads as it did. -/
def fnExactCountPairListsSpec : ChangeSpec := { name := "fnExactCountPairLists", fn := fun _ => fun
  | [d1, d2, d3] => { results := [.lit (.bool true)], args := [d1, d2, d3] }
  | _ => none }
def fnExactCountPairListsRow : OpenClaim := { program := "ytlmiojnkjlnmjaa", sum := "f58071eb504b094f4b0ac7258a94a3aca6e3c9de2f99a0c7e3883bf853ff0d42", func := "loop.example/g01272/laws.FnExactCountPairLists", spec := "fnExactCountPairLists", unfollowed := true, recurses := true, apart := false }
def FnExactCountPairListsSaid : Prop := fnExactCountPairListsRow.holds Try.pinned (OpenSpec.ofChange fnExactCountPairListsSpec)

/-- ITS FALSE NEIGHBOUR: 'it returns false'. Refute it at one input. -/
def fnExactCountPairListsWrong : ChangeSpec := { name := "fnExactCountPairLists", fn := fun _ => fun
  | [d1, d2, d3] => { results := [.lit (.bool false)], args := [d1, d2, d3] }
  | _ => none }
def FnExactCountPairListsWrongFalsely : Prop := fnExactCountPairListsRow.holds Try.pinned (OpenSpec.ofChange fnExactCountPairListsWrong)

/-- 'laws.FnExactIsTight': WHATEVER THE INPUT: true; the input reads as it did. -/
def fnExactIsTightSpec : ChangeSpec := { name := "fnExactIsTight", fn := fun _ => fun
  | [d1, d2] => { results := [.lit (.bool true)], args := [d1, d2] }
  | _ => none }
def fnExactIsTightRow : OpenClaim := { program := "ytlmiojnkjlnmjaa", sum := "f58071eb504b094f4b0ac7258a94a3aca6e3c9de2f99a0c7e3883bf853ff0d42", func := "loop.example/g01272/laws.FnExactIsTight", spec := "fnExactIsTight", unfollowed := true, recurses := true, apart := false }
def FnExactIsTightSaid : Prop := fnExactIsTightRow.holds Try.pinned (OpenSpec.ofChange fnExactIsTightSpec)

/-- ITS FALSE NEIGHBOUR: 'it returns false'. Refute it at one input. -/
def fnExactIsTightWrong : ChangeSpec := { name := "fnExactIsTight", fn := fun _ => fun
  | [d1, d2] => { results := [.lit (.bool false)], args := [d1, d2] }
  | _ => none }
def FnExactIsTightWrongFalsely : Prop := fnExactIsTightRow.holds Try.pinned (OpenSpec.ofChange fnExactIsTightWrong)

/- THE SECOND FORM. 'bulk': how many values and letters a reading holds, each counted each time it is reached (what is shared counts as often as it is met; a slice's spare places count too). A statement '..UptoSaid' is the law's where the arguments, and the package variables that the reading takes, are together of bulk at most 1048576: NARROWER than '..Said'. Prove '..Said' where nothing that the law and all that it calls make is longer than what came in: it says more and counts as full. Else prove '..UptoSaid'. A law counts once. -/
mutual
def uptoBulk {H : Type} : DataW H → Nat
  | .lit (.string bytes) => bytes.length + 1
  | .lit _ => 1
  | .nil => 1
  | .ptr d => uptoBulk d + 1
  | .slice elems spare => uptoBulkAll elems + uptoBulkAll spare + 1
  | .agg parts => uptoBulkAll parts + 1
  | .iface _ d => uptoBulk d + 1
  | .map entries => uptoBulkEntries entries + 1
  | .held _ => 1
def uptoBulkAll {H : Type} : List (DataW H) → Nat
  | [] => 0
  | d :: r => uptoBulk d + uptoBulkAll r
def uptoBulkEntries {H : Type} : List (Lit × DataW H) → Nat
  | [] => 0
  | x :: r => uptoBulkEntry x + uptoBulkEntries r
def uptoBulkEntry {H : Type} : Lit × DataW H → Nat
  | (.string bytes, d) => bytes.length + uptoBulk d + 1
  | (_, d) => uptoBulk d + 1
 end
def uptoSmall : (H : Type) → List (DataW H) → Bool := fun _ ds => decide (uptoBulkAll ds ≤ 1048576)
def OpenSpec.upto (s : _root_.Go.ChangeSpec) : _root_.Go.OpenSpec := { _root_.Go.OpenSpec.ofChange s with cond := some uptoSmall }

/-- 'laws.FnExactSavedTime', WHERE WHAT IT READS IS OF BULK AT MOST 1048576: true; the input reads as it did. -/
def fnExactSavedTimeUptoRow : OpenClaim := { program := "ytlmiojnkjlnmjaa", sum := "f58071eb504b094f4b0ac7258a94a3aca6e3c9de2f99a0c7e3883bf853ff0d42", func := "loop.example/g01272/laws.FnExactSavedTime", spec := "fnExactSavedTime", unfollowed := true, recurses := true, apart := false, narrowed := true }
def FnExactSavedTimeUptoSaid : Prop := fnExactSavedTimeUptoRow.holds Try.pinned (OpenSpec.upto fnExactSavedTimeSpec)

/-- 'laws.FnExactFirstPairList', WHERE WHAT IT READS IS OF BULK AT MOST 1048576: true; the input reads as it did. -/
def fnExactFirstPairListUptoRow : OpenClaim := { program := "ytlmiojnkjlnmjaa", sum := "f58071eb504b094f4b0ac7258a94a3aca6e3c9de2f99a0c7e3883bf853ff0d42", func := "loop.example/g01272/laws.FnExactFirstPairList", spec := "fnExactFirstPairList", unfollowed := true, recurses := true, apart := false, narrowed := true }
def FnExactFirstPairListUptoSaid : Prop := fnExactFirstPairListUptoRow.holds Try.pinned (OpenSpec.upto fnExactFirstPairListSpec)

/-- 'laws.FnPairsChangeOfAll', WHERE WHAT IT READS IS OF BULK AT MOST 1048576: true; the input reads as it did. -/
def fnPairsChangeOfAllUptoRow : OpenClaim := { program := "ytlmiojnkjlnmjaa", sum := "f58071eb504b094f4b0ac7258a94a3aca6e3c9de2f99a0c7e3883bf853ff0d42", func := "loop.example/g01272/laws.FnPairsChangeOfAll", spec := "fnPairsChangeOfAll", unfollowed := true, recurses := true, apart := false, narrowed := true }
def FnPairsChangeOfAllUptoSaid : Prop := fnPairsChangeOfAllUptoRow.holds Try.pinned (OpenSpec.upto fnPairsChangeOfAllSpec)

/-- 'laws.FnExactRankOfPace', WHERE WHAT IT READS IS OF BULK AT MOST 1048576: true; the input reads as it did. -/
def fnExactRankOfPaceUptoRow : OpenClaim := { program := "ytlmiojnkjlnmjaa", sum := "f58071eb504b094f4b0ac7258a94a3aca6e3c9de2f99a0c7e3883bf853ff0d42", func := "loop.example/g01272/laws.FnExactRankOfPace", spec := "fnExactRankOfPace", unfollowed := true, recurses := true, apart := false, narrowed := true }
def FnExactRankOfPaceUptoSaid : Prop := fnExactRankOfPaceUptoRow.holds Try.pinned (OpenSpec.upto fnExactRankOfPaceSpec)

/-- 'laws.FnExactHasEvenRound', WHERE WHAT IT READS IS OF BULK AT MOST 1048576: true; the input reads as it did. -/
def fnExactHasEvenRoundUptoRow : OpenClaim := { program := "ytlmiojnkjlnmjaa", sum := "f58071eb504b094f4b0ac7258a94a3aca6e3c9de2f99a0c7e3883bf853ff0d42", func := "loop.example/g01272/laws.FnExactHasEvenRound", spec := "fnExactHasEvenRound", unfollowed := true, recurses := true, apart := false, narrowed := true }
def FnExactHasEvenRoundUptoSaid : Prop := fnExactHasEvenRoundUptoRow.holds Try.pinned (OpenSpec.upto fnExactHasEvenRoundSpec)

/-- 'laws.FnExactPairRounds', WHERE WHAT IT READS IS OF BULK AT MOST 1048576: true; the input reads as it did. -/
def fnExactPairRoundsUptoRow : OpenClaim := { program := "ytlmiojnkjlnmjaa", sum := "f58071eb504b094f4b0ac7258a94a3aca6e3c9de2f99a0c7e3883bf853ff0d42", func := "loop.example/g01272/laws.FnExactPairRounds", spec := "fnExactPairRounds", unfollowed := true, recurses := true, apart := false, narrowed := true }
def FnExactPairRoundsUptoSaid : Prop := fnExactPairRoundsUptoRow.holds Try.pinned (OpenSpec.upto fnExactPairRoundsSpec)

/-- 'laws.FnExactCountFetches', WHERE WHAT IT READS IS OF BULK AT MOST 1048576: true; the input reads as it did. -/
def fnExactCountFetchesUptoRow : OpenClaim := { program := "ytlmiojnkjlnmjaa", sum := "f58071eb504b094f4b0ac7258a94a3aca6e3c9de2f99a0c7e3883bf853ff0d42", func := "loop.example/g01272/laws.FnExactCountFetches", spec := "fnExactCountFetches", unfollowed := true, recurses := true, apart := false, narrowed := true }
def FnExactCountFetchesUptoSaid : Prop := fnExactCountFetchesUptoRow.holds Try.pinned (OpenSpec.upto fnExactCountFetchesSpec)

/-- 'laws.FnExactWhoComesBack', WHERE WHAT IT READS IS OF BULK AT MOST 1048576: true; the input reads as it did. -/
def fnExactWhoComesBackUptoRow : OpenClaim := { program := "ytlmiojnkjlnmjaa", sum := "f58071eb504b094f4b0ac7258a94a3aca6e3c9de2f99a0c7e3883bf853ff0d42", func := "loop.example/g01272/laws.FnExactWhoComesBack", spec := "fnExactWhoComesBack", unfollowed := true, recurses := true, apart := false, narrowed := true }
def FnExactWhoComesBackUptoSaid : Prop := fnExactWhoComesBackUptoRow.holds Try.pinned (OpenSpec.upto fnExactWhoComesBackSpec)

/-- 'laws.FnExactEscortTime', WHERE WHAT IT READS IS OF BULK AT MOST 1048576: true; the input reads as it did. -/
def fnExactEscortTimeUptoRow : OpenClaim := { program := "ytlmiojnkjlnmjaa", sum := "f58071eb504b094f4b0ac7258a94a3aca6e3c9de2f99a0c7e3883bf853ff0d42", func := "loop.example/g01272/laws.FnExactEscortTime", spec := "fnExactEscortTime", unfollowed := true, recurses := true, apart := false, narrowed := true }
def FnExactEscortTimeUptoSaid : Prop := fnExactEscortTimeUptoRow.holds Try.pinned (OpenSpec.upto fnExactEscortTimeSpec)

/-- 'laws.FnExactPairTime', WHERE WHAT IT READS IS OF BULK AT MOST 1048576: true; the input reads as it did. -/
def fnExactPairTimeUptoRow : OpenClaim := { program := "ytlmiojnkjlnmjaa", sum := "f58071eb504b094f4b0ac7258a94a3aca6e3c9de2f99a0c7e3883bf853ff0d42", func := "loop.example/g01272/laws.FnExactPairTime", spec := "fnExactPairTime", unfollowed := true, recurses := true, apart := false, narrowed := true }
def FnExactPairTimeUptoSaid : Prop := fnExactPairTimeUptoRow.holds Try.pinned (OpenSpec.upto fnExactPairTimeSpec)

/-- 'laws.FnExactEscortPlan', WHERE WHAT IT READS IS OF BULK AT MOST 1048576: true; the input reads as it did. -/
def fnExactEscortPlanUptoRow : OpenClaim := { program := "ytlmiojnkjlnmjaa", sum := "f58071eb504b094f4b0ac7258a94a3aca6e3c9de2f99a0c7e3883bf853ff0d42", func := "loop.example/g01272/laws.FnExactEscortPlan", spec := "fnExactEscortPlan", unfollowed := true, recurses := true, apart := false, narrowed := true }
def FnExactEscortPlanUptoSaid : Prop := fnExactEscortPlanUptoRow.holds Try.pinned (OpenSpec.upto fnExactEscortPlanSpec)

/-- 'laws.FnExactPairPlan', WHERE WHAT IT READS IS OF BULK AT MOST 1048576: true; the input reads as it did. -/
def fnExactPairPlanUptoRow : OpenClaim := { program := "ytlmiojnkjlnmjaa", sum := "f58071eb504b094f4b0ac7258a94a3aca6e3c9de2f99a0c7e3883bf853ff0d42", func := "loop.example/g01272/laws.FnExactPairPlan", spec := "fnExactPairPlan", unfollowed := true, recurses := true, apart := false, narrowed := true }
def FnExactPairPlanUptoSaid : Prop := fnExactPairPlanUptoRow.holds Try.pinned (OpenSpec.upto fnExactPairPlanSpec)

/-- 'laws.FnExactPairGain', WHERE WHAT IT READS IS OF BULK AT MOST 1048576: true; the input reads as it did. -/
def fnExactPairGainUptoRow : OpenClaim := { program := "ytlmiojnkjlnmjaa", sum := "f58071eb504b094f4b0ac7258a94a3aca6e3c9de2f99a0c7e3883bf853ff0d42", func := "loop.example/g01272/laws.FnExactPairGain", spec := "fnExactPairGain", unfollowed := true, recurses := true, apart := false, narrowed := true }
def FnExactPairGainUptoSaid : Prop := fnExactPairGainUptoRow.holds Try.pinned (OpenSpec.upto fnExactPairGainSpec)

/-- 'laws.FnExactAddedTime', WHERE WHAT IT READS IS OF BULK AT MOST 1048576: true; the input reads as it did. -/
def fnExactAddedTimeUptoRow : OpenClaim := { program := "ytlmiojnkjlnmjaa", sum := "f58071eb504b094f4b0ac7258a94a3aca6e3c9de2f99a0c7e3883bf853ff0d42", func := "loop.example/g01272/laws.FnExactAddedTime", spec := "fnExactAddedTime", unfollowed := true, recurses := true, apart := false, narrowed := true }
def FnExactAddedTimeUptoSaid : Prop := fnExactAddedTimeUptoRow.holds Try.pinned (OpenSpec.upto fnExactAddedTimeSpec)

/-- 'laws.FnExactCountPairLists', WHERE WHAT IT READS IS OF BULK AT MOST 1048576: true; the input reads as it did. -/
def fnExactCountPairListsUptoRow : OpenClaim := { program := "ytlmiojnkjlnmjaa", sum := "f58071eb504b094f4b0ac7258a94a3aca6e3c9de2f99a0c7e3883bf853ff0d42", func := "loop.example/g01272/laws.FnExactCountPairLists", spec := "fnExactCountPairLists", unfollowed := true, recurses := true, apart := false, narrowed := true }
def FnExactCountPairListsUptoSaid : Prop := fnExactCountPairListsUptoRow.holds Try.pinned (OpenSpec.upto fnExactCountPairListsSpec)

/-- 'laws.FnExactIsTight', WHERE WHAT IT READS IS OF BULK AT MOST 1048576: true; the input reads as it did. -/
def fnExactIsTightUptoRow : OpenClaim := { program := "ytlmiojnkjlnmjaa", sum := "f58071eb504b094f4b0ac7258a94a3aca6e3c9de2f99a0c7e3883bf853ff0d42", func := "loop.example/g01272/laws.FnExactIsTight", spec := "fnExactIsTight", unfollowed := true, recurses := true, apart := false, narrowed := true }
def FnExactIsTightUptoSaid : Prop := fnExactIsTightUptoRow.holds Try.pinned (OpenSpec.upto fnExactIsTightSpec)

end Rows
end Go.Proofs.Ytlmiojnkjlnmjaa
