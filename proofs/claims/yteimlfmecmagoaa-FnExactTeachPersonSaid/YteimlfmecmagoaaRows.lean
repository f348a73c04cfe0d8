/-
  No cell of these rows narrows 'for every input' (looked for: loops, veiled, ifaces, maps, wideKeys, modest, calm, conditions, laid).
  DERIVED. THE GIVEN ROWS OF THIS SEAT. 4 by the template 'for every input the law returns true; each argument reads behind the call as it read before'; 0 by the template 'total and deterministic' (their statements: YteimlfmecmagoaaTotals.lean).
  GIVEN WITH THE SEED: the statements are not yours to turn. If you find one false, say at which input.
  Laid BY PROGRAM, IN A SANDBOX (cutbox-rows.mjs): the forced cells as the released guide's own fill.sh prints them over the translation 8ee0dc638904cd38… (all of the seat's roots in one cut). By AI agents, Wed Nov 11 2026. No macro, syntax, notation, axiom, sorry.
-/
import Derived.Test.YteimlfmecmagoaaChecked
import GoSem.Claim
import GoSem.ClaimJoined
import GoSem.ClaimMapViews
import Derived.JoinedTies
import Derived.KernelRfl
namespace Go.Proofs.Yteimlfmecmagoaa
/- THE CELL 'sum', in the pinned program and in every row, IS THE sha256 OF THE DUMP (.gsa) THAT YteimlfmecmagoaaProg.lean LOADS. Nothing in Lean hashes anything: it is a label: what it is worth is what the hold of that sum in a sandbox is worth. -/
noncomputable def Try.pinned : Pinned := { name := "yteimlfmecmagoaa", sum := "8ee0dc638904cd38068e3a65d89c3d981fa7a5e457dfd6a4a766e78d4b491f75", checked := Try.checked }
namespace Rows
def none {H : Type} : Left H := { results := [], args := [] }

/-- 'laws.FnExactIsNight': WHATEVER THE INPUT: true; the input reads as it did. -/
def fnExactIsNightSpec : ChangeSpec := { name := "fnExactIsNight", fn := fun _ => fun
  | [d] => { results := [.lit (.bool true)], args := [d] }
  | _ => none }
def fnExactIsNightRow : OpenClaim := { program := "yteimlfmecmagoaa", sum := "8ee0dc638904cd38068e3a65d89c3d981fa7a5e457dfd6a4a766e78d4b491f75", func := "loop.example/g01272/laws.FnExactIsNight", spec := "fnExactIsNight", unfollowed := true, recurses := true, apart := false }
def FnExactIsNightSaid : Prop := fnExactIsNightRow.holds Try.pinned (OpenSpec.ofChange fnExactIsNightSpec)

/-- ITS FALSE NEIGHBOUR: 'it returns false'. Refute it at one input. -/
def fnExactIsNightWrong : ChangeSpec := { name := "fnExactIsNight", fn := fun _ => fun
  | [d] => { results := [.lit (.bool false)], args := [d] }
  | _ => none }
def FnExactIsNightWrongFalsely : Prop := fnExactIsNightRow.holds Try.pinned (OpenSpec.ofChange fnExactIsNightWrong)

/-- 'laws.FnExactIsCamp': WHATEVER THE INPUT: true; the input reads as it did. -/
def fnExactIsCampSpec : ChangeSpec := { name := "fnExactIsCamp", fn := fun _ => fun
  | [d1, d2] => { results := [.lit (.bool true)], args := [d1, d2] }
  | _ => none }
def fnExactIsCampRow : OpenClaim := { program := "yteimlfmecmagoaa", sum := "8ee0dc638904cd38068e3a65d89c3d981fa7a5e457dfd6a4a766e78d4b491f75", func := "loop.example/g01272/laws.FnExactIsCamp", spec := "fnExactIsCamp", unfollowed := true, recurses := true, apart := false }
def FnExactIsCampSaid : Prop := fnExactIsCampRow.holds Try.pinned (OpenSpec.ofChange fnExactIsCampSpec)

/-- ITS FALSE NEIGHBOUR: 'it returns false'. Refute it at one input. -/
def fnExactIsCampWrong : ChangeSpec := { name := "fnExactIsCamp", fn := fun _ => fun
  | [d1, d2] => { results := [.lit (.bool false)], args := [d1, d2] }
  | _ => none }
def FnExactIsCampWrongFalsely : Prop := fnExactIsCampRow.holds Try.pinned (OpenSpec.ofChange fnExactIsCampWrong)

/-- 'laws.FnExactIsCrew': WHATEVER THE INPUT: true; the input reads as it did. -/
def fnExactIsCrewSpec : ChangeSpec := { name := "fnExactIsCrew", fn := fun _ => fun
  | [d] => { results := [.lit (.bool true)], args := [d] }
  | _ => none }
def fnExactIsCrewRow : OpenClaim := { program := "yteimlfmecmagoaa", sum := "8ee0dc638904cd38068e3a65d89c3d981fa7a5e457dfd6a4a766e78d4b491f75", func := "loop.example/g01272/laws.FnExactIsCrew", spec := "fnExactIsCrew", unfollowed := true, recurses := true, apart := false }
def FnExactIsCrewSaid : Prop := fnExactIsCrewRow.holds Try.pinned (OpenSpec.ofChange fnExactIsCrewSpec)

/-- ITS FALSE NEIGHBOUR: 'it returns false'. Refute it at one input. -/
def fnExactIsCrewWrong : ChangeSpec := { name := "fnExactIsCrew", fn := fun _ => fun
  | [d] => { results := [.lit (.bool false)], args := [d] }
  | _ => none }
def FnExactIsCrewWrongFalsely : Prop := fnExactIsCrewRow.holds Try.pinned (OpenSpec.ofChange fnExactIsCrewWrong)

/-- 'laws.FnExactTeachPerson': WHATEVER THE INPUT: true; the input reads as it did. -/
def fnExactTeachPersonSpec : ChangeSpec := { name := "fnExactTeachPerson", fn := fun _ => fun
  | [d1, d2] => { results := [.lit (.bool true)], args := [d1, d2] }
  | _ => none }
def fnExactTeachPersonRow : OpenClaim := { program := "yteimlfmecmagoaa", sum := "8ee0dc638904cd38068e3a65d89c3d981fa7a5e457dfd6a4a766e78d4b491f75", func := "loop.example/g01272/laws.FnExactTeachPerson", spec := "fnExactTeachPerson", unfollowed := true, recurses := true, apart := false }
def FnExactTeachPersonSaid : Prop := fnExactTeachPersonRow.holds Try.pinned (OpenSpec.ofChange fnExactTeachPersonSpec)

/-- ITS FALSE NEIGHBOUR: 'it returns false'. Refute it at one input. -/
def fnExactTeachPersonWrong : ChangeSpec := { name := "fnExactTeachPerson", fn := fun _ => fun
  | [d1, d2] => { results := [.lit (.bool false)], args := [d1, d2] }
  | _ => none }
def FnExactTeachPersonWrongFalsely : Prop := fnExactTeachPersonRow.holds Try.pinned (OpenSpec.ofChange fnExactTeachPersonWrong)

/- THE SECOND FORM. 'bulk': how many values and letters a reading holds, each counted each time it is reached (what is shared counts as often as it is met; a slice's spare places count too). A statement '..UptoSaid' is the law's where the arguments, and the package variables that the reading takes, are together of bulk at most 1048576: NARROWER than '..Said'. Prove '..Said' where nothing that the law and all that it calls make is longer than what came in: it says more and counts as full. Else prove '..UptoSaid'. A law counts once. -/
mutual
def uptoBulk {H : Type} : DataW H → Nat
  | .lit (.string bytes) => bytes.length + 1
  | .lit _ => 1
  | .nil => 1
  | .ptr d => uptoBulk d + 1
  | .slice elems spare => uptoBulkAll elems + uptoBulkAll spare + 1
  | .agg parts => uptoBulkAll parts + 1
  | .iface _ d => uptoBulk d + 1
  | .map entries => uptoBulkEntries entries + 1
  | .held _ => 1
def uptoBulkAll {H : Type} : List (DataW H) → Nat
  | [] => 0
  | d :: r => uptoBulk d + uptoBulkAll r
def uptoBulkEntries {H : Type} : List (Lit × DataW H) → Nat
  | [] => 0
  | x :: r => uptoBulkEntry x + uptoBulkEntries r
def uptoBulkEntry {H : Type} : Lit × DataW H → Nat
  | (.string bytes, d) => bytes.length + uptoBulk d + 1
  | (_, d) => uptoBulk d + 1
 end
def uptoSmall : (H : Type) → List (DataW H) → Bool := fun _ ds => decide (uptoBulkAll ds ≤ 1048576)
def OpenSpec.upto (s : _root_.Go.ChangeSpec) : _root_.Go.OpenSpec := { _root_.Go.OpenSpec.ofChange s with cond := some uptoSmall }

/-- 'laws.FnExactIsNight', WHERE WHAT IT READS IS OF BULK AT MOST 1048576: true; the input reads as it did. -/
def fnExactIsNightUptoRow : OpenClaim := { program := "yteimlfmecmagoaa", sum := "8ee0dc638904cd38068e3a65d89c3d981fa7a5e457dfd6a4a766e78d4b491f75", func := "loop.example/g01272/laws.FnExactIsNight", spec := "fnExactIsNight", unfollowed := true, recurses := true, apart := false, narrowed := true }
def FnExactIsNightUptoSaid : Prop := fnExactIsNightUptoRow.holds Try.pinned (OpenSpec.upto fnExactIsNightSpec)

/-- 'laws.FnExactIsCamp', WHERE WHAT IT READS IS OF BULK AT MOST 1048576: true; the input reads as it did. -/
def fnExactIsCampUptoRow : OpenClaim := { program := "yteimlfmecmagoaa", sum := "8ee0dc638904cd38068e3a65d89c3d981fa7a5e457dfd6a4a766e78d4b491f75", func := "loop.example/g01272/laws.FnExactIsCamp", spec := "fnExactIsCamp", unfollowed := true, recurses := true, apart := false, narrowed := true }
def FnExactIsCampUptoSaid : Prop := fnExactIsCampUptoRow.holds Try.pinned (OpenSpec.upto fnExactIsCampSpec)

/-- 'laws.FnExactIsCrew', WHERE WHAT IT READS IS OF BULK AT MOST 1048576: true; the input reads as it did. -/
def fnExactIsCrewUptoRow : OpenClaim := { program := "yteimlfmecmagoaa", sum := "8ee0dc638904cd38068e3a65d89c3d981fa7a5e457dfd6a4a766e78d4b491f75", func := "loop.example/g01272/laws.FnExactIsCrew", spec := "fnExactIsCrew", unfollowed := true, recurses := true, apart := false, narrowed := true }
def FnExactIsCrewUptoSaid : Prop := fnExactIsCrewUptoRow.holds Try.pinned (OpenSpec.upto fnExactIsCrewSpec)

/-- 'laws.FnExactTeachPerson', WHERE WHAT IT READS IS OF BULK AT MOST 1048576: true; the input reads as it did. -/
def fnExactTeachPersonUptoRow : OpenClaim := { program := "yteimlfmecmagoaa", sum := "8ee0dc638904cd38068e3a65d89c3d981fa7a5e457dfd6a4a766e78d4b491f75", func := "loop.example/g01272/laws.FnExactTeachPerson", spec := "fnExactTeachPerson", unfollowed := true, recurses := true, apart := false, narrowed := true }
def FnExactTeachPersonUptoSaid : Prop := fnExactTeachPersonUptoRow.holds Try.pinned (OpenSpec.upto fnExactTeachPersonSpec)

end Rows
end Go.Proofs.Yteimlfmecmagoaa
