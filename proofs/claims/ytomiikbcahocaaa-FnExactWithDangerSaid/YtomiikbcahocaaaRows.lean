/-
  No cell of these rows narrows 'for every input' (looked for: loops, veiled, ifaces, maps, wideKeys, modest, calm, conditions, laid).
  DERIVED. THE GIVEN ROWS OF THIS SEAT. 9 by the template 'for every input the law returns true; each argument reads behind the call as it read before'; 0 by the template 'total and deterministic' (their statements: YtomiikbcahocaaaTotals.lean).
  GIVEN WITH THE SEED: the statements are not yours to turn. If you find one false, say at which input.
  Laid BY PROGRAM, IN A SANDBOX (cutbox-rows.mjs): the forced cells as the released guide's own fill.sh prints them over the translation 48469d58c6c20366… (all of the seat's roots in one cut). By AI agents, Wed Nov 11 2026. No macro, syntax, notation, axiom, sorry.
-/
import Derived.Test.YtomiikbcahocaaaChecked
import GoSem.Claim
import GoSem.ClaimJoined
import GoSem.ClaimMapViews
import Derived.JoinedTies
import Derived.KernelRfl
namespace Go.Proofs.Ytomiikbcahocaaa
/- THE CELL 'sum', in the pinned program and in every row, IS THE sha256 OF THE DUMP (.gsa) THAT YtomiikbcahocaaaProg.lean LOADS. Nothing in Lean hashes anything: it is a label: what it is worth is what the hold of that sum in a sandbox is worth. -/
noncomputable def Try.pinned : Pinned := { name := "ytomiikbcahocaaa", sum := "48469d58c6c20366d67a3f3eb560cc67534ae5201640ba6012e83e3b8961fb4d", checked := Try.checked }
namespace Rows
def none {H : Type} : Left H := { results := [], args := [] }

/-- 'laws.FnExactIsKeep': WHATEVER THE INPUT: true; the input reads as it did. -/
def fnExactIsKeepSpec : ChangeSpec := { name := "fnExactIsKeep", fn := fun _ => fun
  | [d] => { results := [.lit (.bool true)], args := [d] }
  | _ => none }
def fnExactIsKeepRow : OpenClaim := { program := "ytomiikbcahocaaa", sum := "48469d58c6c20366d67a3f3eb560cc67534ae5201640ba6012e83e3b8961fb4d", func := "loop.example/g01272/laws.FnExactIsKeep", spec := "fnExactIsKeep", unfollowed := true, recurses := true, apart := false }
def FnExactIsKeepSaid : Prop := fnExactIsKeepRow.holds Try.pinned (OpenSpec.ofChange fnExactIsKeepSpec)

/-- ITS FALSE NEIGHBOUR: 'it returns false'. Refute it at one input. -/
def fnExactIsKeepWrong : ChangeSpec := { name := "fnExactIsKeep", fn := fun _ => fun
  | [d] => { results := [.lit (.bool false)], args := [d] }
  | _ => none }
def FnExactIsKeepWrongFalsely : Prop := fnExactIsKeepRow.holds Try.pinned (OpenSpec.ofChange fnExactIsKeepWrong)

/-- 'laws.FnExactCountSafe': WHATEVER THE INPUT: true; the input reads as it did. -/
def fnExactCountSafeSpec : ChangeSpec := { name := "fnExactCountSafe", fn := fun _ => fun
  | [d] => { results := [.lit (.bool true)], args := [d] }
  | _ => none }
def fnExactCountSafeRow : OpenClaim := { program := "ytomiikbcahocaaa", sum := "48469d58c6c20366d67a3f3eb560cc67534ae5201640ba6012e83e3b8961fb4d", func := "loop.example/g01272/laws.FnExactCountSafe", spec := "fnExactCountSafe", unfollowed := true, recurses := true, apart := false }
def FnExactCountSafeSaid : Prop := fnExactCountSafeRow.holds Try.pinned (OpenSpec.ofChange fnExactCountSafeSpec)

/-- ITS FALSE NEIGHBOUR: 'it returns false'. Refute it at one input. -/
def fnExactCountSafeWrong : ChangeSpec := { name := "fnExactCountSafe", fn := fun _ => fun
  | [d] => { results := [.lit (.bool false)], args := [d] }
  | _ => none }
def FnExactCountSafeWrongFalsely : Prop := fnExactCountSafeRow.holds Try.pinned (OpenSpec.ofChange fnExactCountSafeWrong)

/-- 'laws.FnExactIsSafe': WHATEVER THE INPUT: true; the input reads as it did. -/
def fnExactIsSafeSpec : ChangeSpec := { name := "fnExactIsSafe", fn := fun _ => fun
  | [d1, d2] => { results := [.lit (.bool true)], args := [d1, d2] }
  | _ => none }
def fnExactIsSafeRow : OpenClaim := { program := "ytomiikbcahocaaa", sum := "48469d58c6c20366d67a3f3eb560cc67534ae5201640ba6012e83e3b8961fb4d", func := "loop.example/g01272/laws.FnExactIsSafe", spec := "fnExactIsSafe", unfollowed := true, recurses := true, apart := false }
def FnExactIsSafeSaid : Prop := fnExactIsSafeRow.holds Try.pinned (OpenSpec.ofChange fnExactIsSafeSpec)

/-- ITS FALSE NEIGHBOUR: 'it returns false'. Refute it at one input. -/
def fnExactIsSafeWrong : ChangeSpec := { name := "fnExactIsSafe", fn := fun _ => fun
  | [d1, d2] => { results := [.lit (.bool false)], args := [d1, d2] }
  | _ => none }
def FnExactIsSafeWrongFalsely : Prop := fnExactIsSafeRow.holds Try.pinned (OpenSpec.ofChange fnExactIsSafeWrong)

/-- 'laws.FnExactStartBank': WHATEVER THE INPUT: true; the input reads as it did. -/
def fnExactStartBankSpec : ChangeSpec := { name := "fnExactStartBank", fn := fun _ => fun
  | [d] => { results := [.lit (.bool true)], args := [d] }
  | _ => none }
def fnExactStartBankRow : OpenClaim := { program := "ytomiikbcahocaaa", sum := "48469d58c6c20366d67a3f3eb560cc67534ae5201640ba6012e83e3b8961fb4d", func := "loop.example/g01272/laws.FnExactStartBank", spec := "fnExactStartBank", unfollowed := true, recurses := true, apart := false }
def FnExactStartBankSaid : Prop := fnExactStartBankRow.holds Try.pinned (OpenSpec.ofChange fnExactStartBankSpec)

/-- ITS FALSE NEIGHBOUR: 'it returns false'. Refute it at one input. -/
def fnExactStartBankWrong : ChangeSpec := { name := "fnExactStartBank", fn := fun _ => fun
  | [d] => { results := [.lit (.bool false)], args := [d] }
  | _ => none }
def FnExactStartBankWrongFalsely : Prop := fnExactStartBankRow.holds Try.pinned (OpenSpec.ofChange fnExactStartBankWrong)

/-- 'laws.FnExactEndBank': WHATEVER THE INPUT: true; the input reads as it did. -/
def fnExactEndBankSpec : ChangeSpec := { name := "fnExactEndBank", fn := fun _ => fun
  | [d] => { results := [.lit (.bool true)], args := [d] }
  | _ => none }
def fnExactEndBankRow : OpenClaim := { program := "ytomiikbcahocaaa", sum := "48469d58c6c20366d67a3f3eb560cc67534ae5201640ba6012e83e3b8961fb4d", func := "loop.example/g01272/laws.FnExactEndBank", spec := "fnExactEndBank", unfollowed := true, recurses := true, apart := false }
def FnExactEndBankSaid : Prop := fnExactEndBankRow.holds Try.pinned (OpenSpec.ofChange fnExactEndBankSpec)

/-- ITS FALSE NEIGHBOUR: 'it returns false'. Refute it at one input. -/
def fnExactEndBankWrong : ChangeSpec := { name := "fnExactEndBank", fn := fun _ => fun
  | [d] => { results := [.lit (.bool false)], args := [d] }
  | _ => none }
def FnExactEndBankWrongFalsely : Prop := fnExactEndBankRow.holds Try.pinned (OpenSpec.ofChange fnExactEndBankWrong)

/-- 'laws.FnExactDangersNow': WHATEVER THE INPUT: true; the input reads as it did. -/
def fnExactDangersNowSpec : ChangeSpec := { name := "fnExactDangersNow", fn := fun _ => fun
  | [d1, d2] => { results := [.lit (.bool true)], args := [d1, d2] }
  | _ => none }
def fnExactDangersNowRow : OpenClaim := { program := "ytomiikbcahocaaa", sum := "48469d58c6c20366d67a3f3eb560cc67534ae5201640ba6012e83e3b8961fb4d", func := "loop.example/g01272/laws.FnExactDangersNow", spec := "fnExactDangersNow", unfollowed := true, recurses := true, apart := false }
def FnExactDangersNowSaid : Prop := fnExactDangersNowRow.holds Try.pinned (OpenSpec.ofChange fnExactDangersNowSpec)

/-- ITS FALSE NEIGHBOUR: 'it returns false'. Refute it at one input. -/
def fnExactDangersNowWrong : ChangeSpec := { name := "fnExactDangersNow", fn := fun _ => fun
  | [d1, d2] => { results := [.lit (.bool false)], args := [d1, d2] }
  | _ => none }
def FnExactDangersNowWrongFalsely : Prop := fnExactDangersNowRow.holds Try.pinned (OpenSpec.ofChange fnExactDangersNowWrong)

/-- 'laws.FnExactRideOver': WHATEVER THE INPUT: true; the input reads as it did. -/
def fnExactRideOverSpec : ChangeSpec := { name := "fnExactRideOver", fn := fun _ => fun
  | [d1, d2, d3] => { results := [.lit (.bool true)], args := [d1, d2, d3] }
  | _ => none }
def fnExactRideOverRow : OpenClaim := { program := "ytomiikbcahocaaa", sum := "48469d58c6c20366d67a3f3eb560cc67534ae5201640ba6012e83e3b8961fb4d", func := "loop.example/g01272/laws.FnExactRideOver", spec := "fnExactRideOver", unfollowed := true, recurses := true, apart := false }
def FnExactRideOverSaid : Prop := fnExactRideOverRow.holds Try.pinned (OpenSpec.ofChange fnExactRideOverSpec)

/-- ITS FALSE NEIGHBOUR: 'it returns false'. Refute it at one input. -/
def fnExactRideOverWrong : ChangeSpec := { name := "fnExactRideOver", fn := fun _ => fun
  | [d1, d2, d3] => { results := [.lit (.bool false)], args := [d1, d2, d3] }
  | _ => none }
def FnExactRideOverWrongFalsely : Prop := fnExactRideOverRow.holds Try.pinned (OpenSpec.ofChange fnExactRideOverWrong)

/-- 'laws.FnExactPlayRides': WHATEVER THE INPUT: true; the input reads as it did. -/
def fnExactPlayRidesSpec : ChangeSpec := { name := "fnExactPlayRides", fn := fun _ => fun
  | [d1, d2] => { results := [.lit (.bool true)], args := [d1, d2] }
  | _ => none }
def fnExactPlayRidesRow : OpenClaim := { program := "ytomiikbcahocaaa", sum := "48469d58c6c20366d67a3f3eb560cc67534ae5201640ba6012e83e3b8961fb4d", func := "loop.example/g01272/laws.FnExactPlayRides", spec := "fnExactPlayRides", unfollowed := true, recurses := true, apart := false }
def FnExactPlayRidesSaid : Prop := fnExactPlayRidesRow.holds Try.pinned (OpenSpec.ofChange fnExactPlayRidesSpec)

/-- ITS FALSE NEIGHBOUR: 'it returns false'. Refute it at one input. -/
def fnExactPlayRidesWrong : ChangeSpec := { name := "fnExactPlayRides", fn := fun _ => fun
  | [d1, d2] => { results := [.lit (.bool false)], args := [d1, d2] }
  | _ => none }
def FnExactPlayRidesWrongFalsely : Prop := fnExactPlayRidesRow.holds Try.pinned (OpenSpec.ofChange fnExactPlayRidesWrong)

/-- 'laws.FnExactWithDanger': WHATEVER THE INPUT: true; the input reads as it did. -/
def fnExactWithDangerSpec : ChangeSpec := { name := "fnExactWithDanger", fn := fun _ => fun
  | [d1, d2, d3] => { results := [.lit (.bool true)], args := [d1, d2, d3] }
  | _ => none }
def fnExactWithDangerRow : OpenClaim := { program := "ytomiikbcahocaaa", sum := "48469d58c6c20366d67a3f3eb560cc67534ae5201640ba6012e83e3b8961fb4d", func := "loop.example/g01272/laws.FnExactWithDanger", spec := "fnExactWithDanger", unfollowed := true, recurses := true, apart := false }
def FnExactWithDangerSaid : Prop := fnExactWithDangerRow.holds Try.pinned (OpenSpec.ofChange fnExactWithDangerSpec)

/-- ITS FALSE NEIGHBOUR: 'it returns false'. Refute it at one input. -/
def fnExactWithDangerWrong : ChangeSpec := { name := "fnExactWithDanger", fn := fun _ => fun
  | [d1, d2, d3] => { results := [.lit (.bool false)], args := [d1, d2, d3] }
  | _ => none }
def FnExactWithDangerWrongFalsely : Prop := fnExactWithDangerRow.holds Try.pinned (OpenSpec.ofChange fnExactWithDangerWrong)

/- THE SECOND FORM. 'bulk': how many values and letters a reading holds, each counted each time it is reached (what is shared counts as often as it is met; a slice's spare places count too). A statement '..UptoSaid' is the law's where the arguments, and the package variables that the reading takes, are together of bulk at most 1048576: NARROWER than '..Said'. Prove '..Said' where nothing that the law and all that it calls make is longer than what came in: it says more and counts as full. Else prove '..UptoSaid'. A law counts once. -/
mutual
def uptoBulk {H : Type} : DataW H → Nat
  | .lit (.string bytes) => bytes.length + 1
  | .lit _ => 1
  | .nil => 1
  | .ptr d => uptoBulk d + 1
  | .slice elems spare => uptoBulkAll elems + uptoBulkAll spare + 1
  | .agg parts => uptoBulkAll parts + 1
  | .iface _ d => uptoBulk d + 1
  | .map entries => uptoBulkEntries entries + 1
  | .held _ => 1
def uptoBulkAll {H : Type} : List (DataW H) → Nat
  | [] => 0
  | d :: r => uptoBulk d + uptoBulkAll r
def uptoBulkEntries {H : Type} : List (Lit × DataW H) → Nat
  | [] => 0
  | x :: r => uptoBulkEntry x + uptoBulkEntries r
def uptoBulkEntry {H : Type} : Lit × DataW H → Nat
  | (.string bytes, d) => bytes.length + uptoBulk d + 1
  | (_, d) => uptoBulk d + 1
 end
def uptoSmall : (H : Type) → List (DataW H) → Bool := fun _ ds => decide (uptoBulkAll ds ≤ 1048576)
def OpenSpec.upto (s : _root_.Go.ChangeSpec) : _root_.Go.OpenSpec := { _root_.Go.OpenSpec.ofChange s with cond := some uptoSmall }

/-- 'laws.FnExactIsKeep', WHERE WHAT IT READS IS OF BULK AT MOST 1048576: true; the input reads as it did. -/
def fnExactIsKeepUptoRow : OpenClaim := { program := "ytomiikbcahocaaa", sum := "48469d58c6c20366d67a3f3eb560cc67534ae5201640ba6012e83e3b8961fb4d", func := "loop.example/g01272/laws.FnExactIsKeep", spec := "fnExactIsKeep", unfollowed := true, recurses := true, apart := false, narrowed := true }
def FnExactIsKeepUptoSaid : Prop := fnExactIsKeepUptoRow.holds Try.pinned (OpenSpec.upto fnExactIsKeepSpec)

/-- 'laws.FnExactCountSafe', WHERE WHAT IT READS IS OF BULK AT MOST 1048576: true; the input reads as it did. -/
def fnExactCountSafeUptoRow : OpenClaim := { program := "ytomiikbcahocaaa", sum := "48469d58c6c20366d67a3f3eb560cc67534ae5201640ba6012e83e3b8961fb4d", func := "loop.example/g01272/laws.FnExactCountSafe", spec := "fnExactCountSafe", unfollowed := true, recurses := true, apart := false, narrowed := true }
def FnExactCountSafeUptoSaid : Prop := fnExactCountSafeUptoRow.holds Try.pinned (OpenSpec.upto fnExactCountSafeSpec)

/-- 'laws.FnExactIsSafe', WHERE WHAT IT READS IS OF BULK AT MOST 1048576: true; the input reads as it did. -/
def fnExactIsSafeUptoRow : OpenClaim := { program := "ytomiikbcahocaaa", sum := "48469d58c6c20366d67a3f3eb560cc67534ae5201640ba6012e83e3b8961fb4d", func := "loop.example/g01272/laws.FnExactIsSafe", spec := "fnExactIsSafe", unfollowed := true, recurses := true, apart := false, narrowed := true }
def FnExactIsSafeUptoSaid : Prop := fnExactIsSafeUptoRow.holds Try.pinned (OpenSpec.upto fnExactIsSafeSpec)

/-- 'laws.FnExactStartBank', WHERE WHAT IT READS IS OF BULK AT MOST 1048576: true; the input reads as it did. -/
def fnExactStartBankUptoRow : OpenClaim := { program := "ytomiikbcahocaaa", sum := "48469d58c6c20366d67a3f3eb560cc67534ae5201640ba6012e83e3b8961fb4d", func := "loop.example/g01272/laws.FnExactStartBank", spec := "fnExactStartBank", unfollowed := true, recurses := true, apart := false, narrowed := true }
def FnExactStartBankUptoSaid : Prop := fnExactStartBankUptoRow.holds Try.pinned (OpenSpec.upto fnExactStartBankSpec)

/-- 'laws.FnExactEndBank', WHERE WHAT IT READS IS OF BULK AT MOST 1048576: true; the input reads as it did. -/
def fnExactEndBankUptoRow : OpenClaim := { program := "ytomiikbcahocaaa", sum := "48469d58c6c20366d67a3f3eb560cc67534ae5201640ba6012e83e3b8961fb4d", func := "loop.example/g01272/laws.FnExactEndBank", spec := "fnExactEndBank", unfollowed := true, recurses := true, apart := false, narrowed := true }
def FnExactEndBankUptoSaid : Prop := fnExactEndBankUptoRow.holds Try.pinned (OpenSpec.upto fnExactEndBankSpec)

/-- 'laws.FnExactDangersNow', WHERE WHAT IT READS IS OF BULK AT MOST 1048576: true; the input reads as it did. -/
def fnExactDangersNowUptoRow : OpenClaim := { program := "ytomiikbcahocaaa", sum := "48469d58c6c20366d67a3f3eb560cc67534ae5201640ba6012e83e3b8961fb4d", func := "loop.example/g01272/laws.FnExactDangersNow", spec := "fnExactDangersNow", unfollowed := true, recurses := true, apart := false, narrowed := true }
def FnExactDangersNowUptoSaid : Prop := fnExactDangersNowUptoRow.holds Try.pinned (OpenSpec.upto fnExactDangersNowSpec)

/-- 'laws.FnExactRideOver', WHERE WHAT IT READS IS OF BULK AT MOST 1048576: true; the input reads as it did. -/
def fnExactRideOverUptoRow : OpenClaim := { program := "ytomiikbcahocaaa", sum := "48469d58c6c20366d67a3f3eb560cc67534ae5201640ba6012e83e3b8961fb4d", func := "loop.example/g01272/laws.FnExactRideOver", spec := "fnExactRideOver", unfollowed := true, recurses := true, apart := false, narrowed := true }
def FnExactRideOverUptoSaid : Prop := fnExactRideOverUptoRow.holds Try.pinned (OpenSpec.upto fnExactRideOverSpec)

/-- 'laws.FnExactPlayRides', WHERE WHAT IT READS IS OF BULK AT MOST 1048576: true; the input reads as it did. -/
def fnExactPlayRidesUptoRow : OpenClaim := { program := "ytomiikbcahocaaa", sum := "48469d58c6c20366d67a3f3eb560cc67534ae5201640ba6012e83e3b8961fb4d", func := "loop.example/g01272/laws.FnExactPlayRides", spec := "fnExactPlayRides", unfollowed := true, recurses := true, apart := false, narrowed := true }
def FnExactPlayRidesUptoSaid : Prop := fnExactPlayRidesUptoRow.holds Try.pinned (OpenSpec.upto fnExactPlayRidesSpec)

/-- 'laws.FnExactWithDanger', WHERE WHAT IT READS IS OF BULK AT MOST 1048576: true; the input reads as it did. -/
def fnExactWithDangerUptoRow : OpenClaim := { program := "ytomiikbcahocaaa", sum := "48469d58c6c20366d67a3f3eb560cc67534ae5201640ba6012e83e3b8961fb4d", func := "loop.example/g01272/laws.FnExactWithDanger", spec := "fnExactWithDanger", unfollowed := true, recurses := true, apart := false, narrowed := true }
def FnExactWithDangerUptoSaid : Prop := fnExactWithDangerUptoRow.holds Try.pinned (OpenSpec.upto fnExactWithDangerSpec)

end Rows
end Go.Proofs.Ytomiikbcahocaaa
