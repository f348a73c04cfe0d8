/-
  No cell of these rows narrows 'for every input' (looked for: loops, veiled, ifaces, maps, wideKeys, modest, calm, conditions, laid).
  DERIVED. THE GIVEN ROWS OF THIS SEAT. 4 by the template 'for every input the law returns true; each argument reads behind the call as it read before'; 0 by the template 'total and deterministic' (their statements: YtokfpjebnkfccaaTotals.lean).
  GIVEN WITH THE SEED: the statements are not yours to turn. If you find one false, say at which input.
  Laid BY PROGRAM, IN A SANDBOX (cutbox-rows.mjs): the forced cells as the released guide's own fill.sh prints them over the translation e86cc4fc47f0b866… (all of the seat's roots in one cut). By AI agents, Wed Nov 11 2026. No macro, syntax, notation, axiom, sorry.
-/
import Derived.Test.YtokfpjebnkfccaaChecked
import GoSem.Claim
import GoSem.ClaimJoined
import GoSem.ClaimMapViews
import Derived.JoinedTies
import Derived.KernelRfl
namespace Go.Proofs.Ytokfpjebnkfccaa
/- THE CELL 'sum', in the pinned program and in every row, IS THE sha256 OF THE DUMP (.gsa) THAT YtokfpjebnkfccaaProg.lean LOADS. Nothing in Lean hashes anything: it is a label: what it is worth is what the hold of that sum in a sandbox is worth. -/
noncomputable def Try.pinned : Pinned := { name := "ytokfpjebnkfccaa", sum := "e86cc4fc47f0b8669683c80755b7d622bf8ca8fca03d23ac60f920e29166c3de", checked := Try.checked }
namespace Rows
def none {H : Type} : Left H := { results := [], args := [] }

/-- 'laws.FnExactIsCalmGroup': WHATEVER THE INPUT: true; the input reads as it did. -/
def fnExactIsCalmGroupSpec : ChangeSpec := { name := "fnExactIsCalmGroup", fn := fun _ => fun
  | [d1, d2] => { results := [.lit (.bool true)], args := [d1, d2] }
  | _ => none }
def fnExactIsCalmGroupRow : OpenClaim := { program := "ytokfpjebnkfccaa", sum := "e86cc4fc47f0b8669683c80755b7d622bf8ca8fca03d23ac60f920e29166c3de", func := "loop.example/g01272/laws.FnExactIsCalmGroup", spec := "fnExactIsCalmGroup", unfollowed := true, recurses := true, apart := false }
def FnExactIsCalmGroupSaid : Prop := fnExactIsCalmGroupRow.holds Try.pinned (OpenSpec.ofChange fnExactIsCalmGroupSpec)

/-- ITS FALSE NEIGHBOUR: 'it returns false'. Refute it at one input. -/
def fnExactIsCalmGroupWrong : ChangeSpec := { name := "fnExactIsCalmGroup", fn := fun _ => fun
  | [d1, d2] => { results := [.lit (.bool false)], args := [d1, d2] }
  | _ => none }
def FnExactIsCalmGroupWrongFalsely : Prop := fnExactIsCalmGroupRow.holds Try.pinned (OpenSpec.ofChange fnExactIsCalmGroupWrong)

/-- 'laws.FnExactCountCalm': WHATEVER THE INPUT: true; the input reads as it did. -/
def fnExactCountCalmSpec : ChangeSpec := { name := "fnExactCountCalm", fn := fun _ => fun
  | [d] => { results := [.lit (.bool true)], args := [d] }
  | _ => none }
def fnExactCountCalmRow : OpenClaim := { program := "ytokfpjebnkfccaa", sum := "e86cc4fc47f0b8669683c80755b7d622bf8ca8fca03d23ac60f920e29166c3de", func := "loop.example/g01272/laws.FnExactCountCalm", spec := "fnExactCountCalm", unfollowed := true, recurses := true, apart := false }
def FnExactCountCalmSaid : Prop := fnExactCountCalmRow.holds Try.pinned (OpenSpec.ofChange fnExactCountCalmSpec)

/-- ITS FALSE NEIGHBOUR: 'it returns false'. Refute it at one input. -/
def fnExactCountCalmWrong : ChangeSpec := { name := "fnExactCountCalm", fn := fun _ => fun
  | [d] => { results := [.lit (.bool false)], args := [d] }
  | _ => none }
def FnExactCountCalmWrongFalsely : Prop := fnExactCountCalmRow.holds Try.pinned (OpenSpec.ofChange fnExactCountCalmWrong)

/-- 'laws.FnExactIsCalm': WHATEVER THE INPUT: true; the input reads as it did. -/
def fnExactIsCalmSpec : ChangeSpec := { name := "fnExactIsCalm", fn := fun _ => fun
  | [d1, d2] => { results := [.lit (.bool true)], args := [d1, d2] }
  | _ => none }
def fnExactIsCalmRow : OpenClaim := { program := "ytokfpjebnkfccaa", sum := "e86cc4fc47f0b8669683c80755b7d622bf8ca8fca03d23ac60f920e29166c3de", func := "loop.example/g01272/laws.FnExactIsCalm", spec := "fnExactIsCalm", unfollowed := true, recurses := true, apart := false }
def FnExactIsCalmSaid : Prop := fnExactIsCalmRow.holds Try.pinned (OpenSpec.ofChange fnExactIsCalmSpec)

/-- ITS FALSE NEIGHBOUR: 'it returns false'. Refute it at one input. -/
def fnExactIsCalmWrong : ChangeSpec := { name := "fnExactIsCalm", fn := fun _ => fun
  | [d1, d2] => { results := [.lit (.bool false)], args := [d1, d2] }
  | _ => none }
def FnExactIsCalmWrongFalsely : Prop := fnExactIsCalmRow.holds Try.pinned (OpenSpec.ofChange fnExactIsCalmWrong)

/-- 'laws.FnExactRowBoat': WHATEVER THE INPUT: true; the input reads as it did. -/
def fnExactRowBoatSpec : ChangeSpec := { name := "fnExactRowBoat", fn := fun _ => fun
  | [d1, d2, d3] => { results := [.lit (.bool true)], args := [d1, d2, d3] }
  | _ => none }
def fnExactRowBoatRow : OpenClaim := { program := "ytokfpjebnkfccaa", sum := "e86cc4fc47f0b8669683c80755b7d622bf8ca8fca03d23ac60f920e29166c3de", func := "loop.example/g01272/laws.FnExactRowBoat", spec := "fnExactRowBoat", unfollowed := true, recurses := true, apart := false }
def FnExactRowBoatSaid : Prop := fnExactRowBoatRow.holds Try.pinned (OpenSpec.ofChange fnExactRowBoatSpec)

/-- ITS FALSE NEIGHBOUR: 'it returns false'. Refute it at one input. -/
def fnExactRowBoatWrong : ChangeSpec := { name := "fnExactRowBoat", fn := fun _ => fun
  | [d1, d2, d3] => { results := [.lit (.bool false)], args := [d1, d2, d3] }
  | _ => none }
def FnExactRowBoatWrongFalsely : Prop := fnExactRowBoatRow.holds Try.pinned (OpenSpec.ofChange fnExactRowBoatWrong)

/- THE SECOND FORM. 'bulk': how many values and letters a reading holds, each counted each time it is reached (what is shared counts as often as it is met; a slice's spare places count too). A statement '..UptoSaid' is the law's where the arguments, and the package variables that the reading takes, are together of bulk at most 1048576: NARROWER than '..Said'. Prove '..Said' where nothing that the law and all that it calls make is longer than what came in: it says more and counts as full. Else prove '..UptoSaid'. A law counts once. -/
mutual
def uptoBulk {H : Type} : DataW H → Nat
  | .lit (.string bytes) => bytes.length + 1
  | .lit _ => 1
  | .nil => 1
  | .ptr d => uptoBulk d + 1
  | .slice elems spare => uptoBulkAll elems + uptoBulkAll spare + 1
  | .agg parts => uptoBulkAll parts + 1
  | .iface _ d => uptoBulk d + 1
  | .map entries => uptoBulkEntries entries + 1
  | .held _ => 1
def uptoBulkAll {H : Type} : List (DataW H) → Nat
  | [] => 0
  | d :: r => uptoBulk d + uptoBulkAll r
def uptoBulkEntries {H : Type} : List (Lit × DataW H) → Nat
  | [] => 0
  | x :: r => uptoBulkEntry x + uptoBulkEntries r
def uptoBulkEntry {H : Type} : Lit × DataW H → Nat
  | (.string bytes, d) => bytes.length + uptoBulk d + 1
  | (_, d) => uptoBulk d + 1
 end
def uptoSmall : (H : Type) → List (DataW H) → Bool := fun _ ds => decide (uptoBulkAll ds ≤ 1048576)
def OpenSpec.upto (s : _root_.Go.ChangeSpec) : _root_.Go.OpenSpec := { _root_.Go.OpenSpec.ofChange s with cond := some uptoSmall }

/-- 'laws.FnExactIsCalmGroup', WHERE WHAT IT READS IS OF BULK AT MOST 1048576: true; the input reads as it did. -/
def fnExactIsCalmGroupUptoRow : OpenClaim := { program := "ytokfpjebnkfccaa", sum := "e86cc4fc47f0b8669683c80755b7d622bf8ca8fca03d23ac60f920e29166c3de", func := "loop.example/g01272/laws.FnExactIsCalmGroup", spec := "fnExactIsCalmGroup", unfollowed := true, recurses := true, apart := false, narrowed := true }
def FnExactIsCalmGroupUptoSaid : Prop := fnExactIsCalmGroupUptoRow.holds Try.pinned (OpenSpec.upto fnExactIsCalmGroupSpec)

/-- 'laws.FnExactCountCalm', WHERE WHAT IT READS IS OF BULK AT MOST 1048576: true; the input reads as it did. -/
def fnExactCountCalmUptoRow : OpenClaim := { program := "ytokfpjebnkfccaa", sum := "e86cc4fc47f0b8669683c80755b7d622bf8ca8fca03d23ac60f920e29166c3de", func := "loop.example/g01272/laws.FnExactCountCalm", spec := "fnExactCountCalm", unfollowed := true, recurses := true, apart := false, narrowed := true }
def FnExactCountCalmUptoSaid : Prop := fnExactCountCalmUptoRow.holds Try.pinned (OpenSpec.upto fnExactCountCalmSpec)

/-- 'laws.FnExactIsCalm', WHERE WHAT IT READS IS OF BULK AT MOST 1048576: true; the input reads as it did. -/
def fnExactIsCalmUptoRow : OpenClaim := { program := "ytokfpjebnkfccaa", sum := "e86cc4fc47f0b8669683c80755b7d622bf8ca8fca03d23ac60f920e29166c3de", func := "loop.example/g01272/laws.FnExactIsCalm", spec := "fnExactIsCalm", unfollowed := true, recurses := true, apart := false, narrowed := true }
def FnExactIsCalmUptoSaid : Prop := fnExactIsCalmUptoRow.holds Try.pinned (OpenSpec.upto fnExactIsCalmSpec)

/-- 'laws.FnExactRowBoat', WHERE WHAT IT READS IS OF BULK AT MOST 1048576: true; the input reads as it did. -/
def fnExactRowBoatUptoRow : OpenClaim := { program := "ytokfpjebnkfccaa", sum := "e86cc4fc47f0b8669683c80755b7d622bf8ca8fca03d23ac60f920e29166c3de", func := "loop.example/g01272/laws.FnExactRowBoat", spec := "fnExactRowBoat", unfollowed := true, recurses := true, apart := false, narrowed := true }
def FnExactRowBoatUptoSaid : Prop := fnExactRowBoatUptoRow.holds Try.pinned (OpenSpec.upto fnExactRowBoatSpec)

end Rows
end Go.Proofs.Ytokfpjebnkfccaa
