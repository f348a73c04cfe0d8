/-
  No cell of these rows narrows 'for every input' (looked for: loops, veiled, ifaces, maps, wideKeys, modest, calm, conditions, laid).
  DERIVED. THE GIVEN ROWS OF THIS SEAT. 5 by the template 'for every input the law returns true; each argument reads behind the call as it read before'; 0 by the template 'total and deterministic' (their statements: YtnlblmadaipheaaTotals.lean).
  GIVEN WITH THE SEED: the statements are not yours to turn. If you find one false, say at which input.
  Laid BY PROGRAM, IN A SANDBOX (cutbox-rows.mjs): the forced cells as the released guide's own fill.sh prints them over the translation 43f14b1aa8ec0ff1… (all of the seat's roots in one cut). By AI agents, Wed Nov 11 2026. No macro, syntax, notation, axiom, sorry.
-/
import Derived.Test.YtnlblmadaipheaaChecked
import GoSem.Claim
import GoSem.ClaimJoined
import GoSem.ClaimMapViews
import Derived.JoinedTies
import Derived.KernelRfl
namespace Go.Proofs.Ytnlblmadaipheaa
/- THE CELL 'sum', in the pinned program and in every row, IS THE sha256 OF THE DUMP (.gsa) THAT YtnlblmadaipheaaProg.lean LOADS. Nothing in Lean hashes anything: it is a label: what it is worth is what the hold of that sum in a sandbox is worth. -/
noncomputable def Try.pinned : Pinned := { name := "ytnlblmadaipheaa", sum := "43f14b1aa8ec0ff19e3fe639e0f23711f7ec03603ce31ebee7c9330ea95683d3", checked := Try.checked }
namespace Rows
def none {H : Type} : Left H := { results := [], args := [] }

/-- 'laws.FnExactConstants': WHATEVER THE INPUT: true; the input reads as it did. -/
def fnExactConstantsSpec : ChangeSpec := { name := "fnExactConstants", fn := fun _ => fun
  | [] => { results := [.lit (.bool true)], args := [] }
  | _ => none }
def fnExactConstantsRow : OpenClaim := { program := "ytnlblmadaipheaa", sum := "43f14b1aa8ec0ff19e3fe639e0f23711f7ec03603ce31ebee7c9330ea95683d3", func := "loop.example/g01272/laws.FnExactConstants", spec := "fnExactConstants", apart := false }
def FnExactConstantsSaid : Prop := fnExactConstantsRow.holds Try.pinned (OpenSpec.ofChange fnExactConstantsSpec)

/-- ITS FALSE NEIGHBOUR: 'it returns false'. Refute it at one input. -/
def fnExactConstantsWrong : ChangeSpec := { name := "fnExactConstants", fn := fun _ => fun
  | [] => { results := [.lit (.bool false)], args := [] }
  | _ => none }
def FnExactConstantsWrongFalsely : Prop := fnExactConstantsRow.holds Try.pinned (OpenSpec.ofChange fnExactConstantsWrong)

/-- 'laws.FnExactIsCompany': WHATEVER THE INPUT: true; the input reads as it did. -/
def fnExactIsCompanySpec : ChangeSpec := { name := "fnExactIsCompany", fn := fun _ => fun
  | [d] => { results := [.lit (.bool true)], args := [d] }
  | _ => none }
def fnExactIsCompanyRow : OpenClaim := { program := "ytnlblmadaipheaa", sum := "43f14b1aa8ec0ff19e3fe639e0f23711f7ec03603ce31ebee7c9330ea95683d3", func := "loop.example/g01272/laws.FnExactIsCompany", spec := "fnExactIsCompany", apart := false }
def FnExactIsCompanySaid : Prop := fnExactIsCompanyRow.holds Try.pinned (OpenSpec.ofChange fnExactIsCompanySpec)

/-- ITS FALSE NEIGHBOUR: 'it returns false'. Refute it at one input. -/
def fnExactIsCompanyWrong : ChangeSpec := { name := "fnExactIsCompany", fn := fun _ => fun
  | [d] => { results := [.lit (.bool false)], args := [d] }
  | _ => none }
def FnExactIsCompanyWrongFalsely : Prop := fnExactIsCompanyRow.holds Try.pinned (OpenSpec.ofChange fnExactIsCompanyWrong)

/-- 'laws.FnExactIsIsles': WHATEVER THE INPUT: true; the input reads as it did. -/
def fnExactIsIslesSpec : ChangeSpec := { name := "fnExactIsIsles", fn := fun _ => fun
  | [d] => { results := [.lit (.bool true)], args := [d] }
  | _ => none }
def fnExactIsIslesRow : OpenClaim := { program := "ytnlblmadaipheaa", sum := "43f14b1aa8ec0ff19e3fe639e0f23711f7ec03603ce31ebee7c9330ea95683d3", func := "loop.example/g01272/laws.FnExactIsIsles", spec := "fnExactIsIsles", apart := false }
def FnExactIsIslesSaid : Prop := fnExactIsIslesRow.holds Try.pinned (OpenSpec.ofChange fnExactIsIslesSpec)

/-- ITS FALSE NEIGHBOUR: 'it returns false'. Refute it at one input. -/
def fnExactIsIslesWrong : ChangeSpec := { name := "fnExactIsIsles", fn := fun _ => fun
  | [d] => { results := [.lit (.bool false)], args := [d] }
  | _ => none }
def FnExactIsIslesWrongFalsely : Prop := fnExactIsIslesRow.holds Try.pinned (OpenSpec.ofChange fnExactIsIslesWrong)

/-- 'laws.FnExactPairTrips': WHATEVER THE INPUT: true; the input reads as it did. -/
def fnExactPairTripsSpec : ChangeSpec := { name := "fnExactPairTrips", fn := fun _ => fun
  | [d] => { results := [.lit (.bool true)], args := [d] }
  | _ => none }
def fnExactPairTripsRow : OpenClaim := { program := "ytnlblmadaipheaa", sum := "43f14b1aa8ec0ff19e3fe639e0f23711f7ec03603ce31ebee7c9330ea95683d3", func := "loop.example/g01272/laws.FnExactPairTrips", spec := "fnExactPairTrips", apart := false }
def FnExactPairTripsSaid : Prop := fnExactPairTripsRow.holds Try.pinned (OpenSpec.ofChange fnExactPairTripsSpec)

/-- ITS FALSE NEIGHBOUR: 'it returns false'. Refute it at one input. -/
def fnExactPairTripsWrong : ChangeSpec := { name := "fnExactPairTrips", fn := fun _ => fun
  | [d] => { results := [.lit (.bool false)], args := [d] }
  | _ => none }
def FnExactPairTripsWrongFalsely : Prop := fnExactPairTripsRow.holds Try.pinned (OpenSpec.ofChange fnExactPairTripsWrong)

/-- 'laws.FnExactCountGuarded': WHATEVER THE INPUT: true; the input reads as it did. -/
def fnExactCountGuardedSpec : ChangeSpec := { name := "fnExactCountGuarded", fn := fun _ => fun
  | [d1, d2] => { results := [.lit (.bool true)], args := [d1, d2] }
  | _ => none }
def fnExactCountGuardedRow : OpenClaim := { program := "ytnlblmadaipheaa", sum := "43f14b1aa8ec0ff19e3fe639e0f23711f7ec03603ce31ebee7c9330ea95683d3", func := "loop.example/g01272/laws.FnExactCountGuarded", spec := "fnExactCountGuarded", apart := false }
def FnExactCountGuardedSaid : Prop := fnExactCountGuardedRow.holds Try.pinned (OpenSpec.ofChange fnExactCountGuardedSpec)

/-- ITS FALSE NEIGHBOUR: 'it returns false'. Refute it at one input. -/
def fnExactCountGuardedWrong : ChangeSpec := { name := "fnExactCountGuarded", fn := fun _ => fun
  | [d1, d2] => { results := [.lit (.bool false)], args := [d1, d2] }
  | _ => none }
def FnExactCountGuardedWrongFalsely : Prop := fnExactCountGuardedRow.holds Try.pinned (OpenSpec.ofChange fnExactCountGuardedWrong)

/- THE SECOND FORM. 'bulk': how many values and letters a reading holds, each counted each time it is reached (what is shared counts as often as it is met; a slice's spare places count too). A statement '..UptoSaid' is the law's where the arguments, and the package variables that the reading takes, are together of bulk at most 1048576: NARROWER than '..Said'. Prove '..Said' where nothing that the law and all that it calls make is longer than what came in: it says more and counts as full. Else prove '..UptoSaid'. A law counts once. -/
mutual
def uptoBulk {H : Type} : DataW H → Nat
  | .lit (.string bytes) => bytes.length + 1
  | .lit _ => 1
  | .nil => 1
  | .ptr d => uptoBulk d + 1
  | .slice elems spare => uptoBulkAll elems + uptoBulkAll spare + 1
  | .agg parts => uptoBulkAll parts + 1
  | .iface _ d => uptoBulk d + 1
  | .map entries => uptoBulkEntries entries + 1
  | .held _ => 1
def uptoBulkAll {H : Type} : List (DataW H) → Nat
  | [] => 0
  | d :: r => uptoBulk d + uptoBulkAll r
def uptoBulkEntries {H : Type} : List (Lit × DataW H) → Nat
  | [] => 0
  | x :: r => uptoBulkEntry x + uptoBulkEntries r
def uptoBulkEntry {H : Type} : Lit × DataW H → Nat
  | (.string bytes, d) => bytes.length + uptoBulk d + 1
  | (_, d) => uptoBulk d + 1
 end
def uptoSmall : (H : Type) → List (DataW H) → Bool := fun _ ds => decide (uptoBulkAll ds ≤ 1048576)
def OpenSpec.upto (s : _root_.Go.ChangeSpec) : _root_.Go.OpenSpec := { _root_.Go.OpenSpec.ofChange s with cond := some uptoSmall }

/-- 'laws.FnExactConstants', WHERE WHAT IT READS IS OF BULK AT MOST 1048576: true; the input reads as it did. -/
def fnExactConstantsUptoRow : OpenClaim := { program := "ytnlblmadaipheaa", sum := "43f14b1aa8ec0ff19e3fe639e0f23711f7ec03603ce31ebee7c9330ea95683d3", func := "loop.example/g01272/laws.FnExactConstants", spec := "fnExactConstants", apart := false, narrowed := true }
def FnExactConstantsUptoSaid : Prop := fnExactConstantsUptoRow.holds Try.pinned (OpenSpec.upto fnExactConstantsSpec)

/-- 'laws.FnExactIsCompany', WHERE WHAT IT READS IS OF BULK AT MOST 1048576: true; the input reads as it did. -/
def fnExactIsCompanyUptoRow : OpenClaim := { program := "ytnlblmadaipheaa", sum := "43f14b1aa8ec0ff19e3fe639e0f23711f7ec03603ce31ebee7c9330ea95683d3", func := "loop.example/g01272/laws.FnExactIsCompany", spec := "fnExactIsCompany", apart := false, narrowed := true }
def FnExactIsCompanyUptoSaid : Prop := fnExactIsCompanyUptoRow.holds Try.pinned (OpenSpec.upto fnExactIsCompanySpec)

/-- 'laws.FnExactIsIsles', WHERE WHAT IT READS IS OF BULK AT MOST 1048576: true; the input reads as it did. -/
def fnExactIsIslesUptoRow : OpenClaim := { program := "ytnlblmadaipheaa", sum := "43f14b1aa8ec0ff19e3fe639e0f23711f7ec03603ce31ebee7c9330ea95683d3", func := "loop.example/g01272/laws.FnExactIsIsles", spec := "fnExactIsIsles", apart := false, narrowed := true }
def FnExactIsIslesUptoSaid : Prop := fnExactIsIslesUptoRow.holds Try.pinned (OpenSpec.upto fnExactIsIslesSpec)

/-- 'laws.FnExactPairTrips', WHERE WHAT IT READS IS OF BULK AT MOST 1048576: true; the input reads as it did. -/
def fnExactPairTripsUptoRow : OpenClaim := { program := "ytnlblmadaipheaa", sum := "43f14b1aa8ec0ff19e3fe639e0f23711f7ec03603ce31ebee7c9330ea95683d3", func := "loop.example/g01272/laws.FnExactPairTrips", spec := "fnExactPairTrips", apart := false, narrowed := true }
def FnExactPairTripsUptoSaid : Prop := fnExactPairTripsUptoRow.holds Try.pinned (OpenSpec.upto fnExactPairTripsSpec)

/-- 'laws.FnExactCountGuarded', WHERE WHAT IT READS IS OF BULK AT MOST 1048576: true; the input reads as it did. -/
def fnExactCountGuardedUptoRow : OpenClaim := { program := "ytnlblmadaipheaa", sum := "43f14b1aa8ec0ff19e3fe639e0f23711f7ec03603ce31ebee7c9330ea95683d3", func := "loop.example/g01272/laws.FnExactCountGuarded", spec := "fnExactCountGuarded", apart := false, narrowed := true }
def FnExactCountGuardedUptoSaid : Prop := fnExactCountGuardedUptoRow.holds Try.pinned (OpenSpec.upto fnExactCountGuardedSpec)

end Rows
end Go.Proofs.Ytnlblmadaipheaa
