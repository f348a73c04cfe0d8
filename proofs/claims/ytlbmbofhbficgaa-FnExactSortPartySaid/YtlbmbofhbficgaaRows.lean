/-
  No cell of these rows narrows 'for every input' (looked for: loops, veiled, ifaces, maps, wideKeys, modest, calm, conditions, laid).
  DERIVED. THE GIVEN ROWS OF THIS SEAT. 12 by the template 'for every input the law returns true; each argument reads behind the call as it read before'; 0 by the template 'total and deterministic' (their statements: YtlbmbofhbficgaaTotals.lean).
  GIVEN WITH THE SEED: the statements are not yours to turn. If you find one false, say at which input.
  Laid BY PROGRAM, IN A SANDBOX (cutbox-rows.mjs): the forced cells as the released guide's own fill.sh prints them over the translation d23b0fadc0af3439… (all of the seat's roots in one cut). By AI agents, Wed Nov 11 2026. No macro, syntax, notation, axiom, sorry.
-/
import Derived.Test.YtlbmbofhbficgaaChecked
import GoSem.Claim
import GoSem.ClaimJoined
import GoSem.ClaimMapViews
import Derived.JoinedTies
import Derived.KernelRfl
namespace Go.Proofs.Ytlbmbofhbficgaa
/- THE CELL 'sum', in the pinned program and in every row, IS THE sha256 OF THE DUMP (.gsa) THAT YtlbmbofhbficgaaProg.lean LOADS. Nothing in Lean hashes anything: it is a label: what it is worth is what the hold of that sum in a sandbox is worth. -/
noncomputable def Try.pinned : Pinned := { name := "ytlbmbofhbficgaa", sum := "d23b0fadc0af3439d91628cae54b001beb92d5090fe57cc14069f7e43bec2a34", checked := Try.checked }
namespace Rows
def none {H : Type} : Left H := { results := [], args := [] }

/-- 'laws.FnExactIsParty': WHATEVER THE INPUT: true; the input reads as it did. -/
def fnExactIsPartySpec : ChangeSpec := { name := "fnExactIsParty", fn := fun _ => fun
  | [d] => { results := [.lit (.bool true)], args := [d] }
  | _ => none }
def fnExactIsPartyRow : OpenClaim := { program := "ytlbmbofhbficgaa", sum := "d23b0fadc0af3439d91628cae54b001beb92d5090fe57cc14069f7e43bec2a34", func := "loop.example/g01272/laws.FnExactIsParty", spec := "fnExactIsParty", unfollowed := true, recurses := true, apart := false }
def FnExactIsPartySaid : Prop := fnExactIsPartyRow.holds Try.pinned (OpenSpec.ofChange fnExactIsPartySpec)

/-- ITS FALSE NEIGHBOUR: 'it returns false'. Refute it at one input. -/
def fnExactIsPartyWrong : ChangeSpec := { name := "fnExactIsParty", fn := fun _ => fun
  | [d] => { results := [.lit (.bool false)], args := [d] }
  | _ => none }
def FnExactIsPartyWrongFalsely : Prop := fnExactIsPartyRow.holds Try.pinned (OpenSpec.ofChange fnExactIsPartyWrong)

/-- 'laws.FnExactTripTime': WHATEVER THE INPUT: true; the input reads as it did. -/
def fnExactTripTimeSpec : ChangeSpec := { name := "fnExactTripTime", fn := fun _ => fun
  | [d1, d2] => { results := [.lit (.bool true)], args := [d1, d2] }
  | _ => none }
def fnExactTripTimeRow : OpenClaim := { program := "ytlbmbofhbficgaa", sum := "d23b0fadc0af3439d91628cae54b001beb92d5090fe57cc14069f7e43bec2a34", func := "loop.example/g01272/laws.FnExactTripTime", spec := "fnExactTripTime", unfollowed := true, recurses := true, apart := false }
def FnExactTripTimeSaid : Prop := fnExactTripTimeRow.holds Try.pinned (OpenSpec.ofChange fnExactTripTimeSpec)

/-- ITS FALSE NEIGHBOUR: 'it returns false'. Refute it at one input. -/
def fnExactTripTimeWrong : ChangeSpec := { name := "fnExactTripTime", fn := fun _ => fun
  | [d1, d2] => { results := [.lit (.bool false)], args := [d1, d2] }
  | _ => none }
def FnExactTripTimeWrongFalsely : Prop := fnExactTripTimeRow.holds Try.pinned (OpenSpec.ofChange fnExactTripTimeWrong)

/-- 'laws.FnExactDropPerson': WHATEVER THE INPUT: true; the input reads as it did. -/
def fnExactDropPersonSpec : ChangeSpec := { name := "fnExactDropPerson", fn := fun _ => fun
  | [d1, d2] => { results := [.lit (.bool true)], args := [d1, d2] }
  | _ => none }
def fnExactDropPersonRow : OpenClaim := { program := "ytlbmbofhbficgaa", sum := "d23b0fadc0af3439d91628cae54b001beb92d5090fe57cc14069f7e43bec2a34", func := "loop.example/g01272/laws.FnExactDropPerson", spec := "fnExactDropPerson", unfollowed := true, recurses := true, apart := false }
def FnExactDropPersonSaid : Prop := fnExactDropPersonRow.holds Try.pinned (OpenSpec.ofChange fnExactDropPersonSpec)

/-- ITS FALSE NEIGHBOUR: 'it returns false'. Refute it at one input. -/
def fnExactDropPersonWrong : ChangeSpec := { name := "fnExactDropPerson", fn := fun _ => fun
  | [d1, d2] => { results := [.lit (.bool false)], args := [d1, d2] }
  | _ => none }
def FnExactDropPersonWrongFalsely : Prop := fnExactDropPersonRow.holds Try.pinned (OpenSpec.ofChange fnExactDropPersonWrong)

/-- 'laws.FnExactSlowParty': WHATEVER THE INPUT: true; the input reads as it did. -/
def fnExactSlowPartySpec : ChangeSpec := { name := "fnExactSlowParty", fn := fun _ => fun
  | [d1, d2] => { results := [.lit (.bool true)], args := [d1, d2] }
  | _ => none }
def fnExactSlowPartyRow : OpenClaim := { program := "ytlbmbofhbficgaa", sum := "d23b0fadc0af3439d91628cae54b001beb92d5090fe57cc14069f7e43bec2a34", func := "loop.example/g01272/laws.FnExactSlowParty", spec := "fnExactSlowParty", unfollowed := true, recurses := true, apart := false }
def FnExactSlowPartySaid : Prop := fnExactSlowPartyRow.holds Try.pinned (OpenSpec.ofChange fnExactSlowPartySpec)

/-- ITS FALSE NEIGHBOUR: 'it returns false'. Refute it at one input. -/
def fnExactSlowPartyWrong : ChangeSpec := { name := "fnExactSlowParty", fn := fun _ => fun
  | [d1, d2] => { results := [.lit (.bool false)], args := [d1, d2] }
  | _ => none }
def FnExactSlowPartyWrongFalsely : Prop := fnExactSlowPartyRow.holds Try.pinned (OpenSpec.ofChange fnExactSlowPartyWrong)

/-- 'laws.FnExactIsState': WHATEVER THE INPUT: true; the input reads as it did. -/
def fnExactIsStateSpec : ChangeSpec := { name := "fnExactIsState", fn := fun _ => fun
  | [d1, d2] => { results := [.lit (.bool true)], args := [d1, d2] }
  | _ => none }
def fnExactIsStateRow : OpenClaim := { program := "ytlbmbofhbficgaa", sum := "d23b0fadc0af3439d91628cae54b001beb92d5090fe57cc14069f7e43bec2a34", func := "loop.example/g01272/laws.FnExactIsState", spec := "fnExactIsState", unfollowed := true, recurses := true, apart := false }
def FnExactIsStateSaid : Prop := fnExactIsStateRow.holds Try.pinned (OpenSpec.ofChange fnExactIsStateSpec)

/-- ITS FALSE NEIGHBOUR: 'it returns false'. Refute it at one input. -/
def fnExactIsStateWrong : ChangeSpec := { name := "fnExactIsState", fn := fun _ => fun
  | [d1, d2] => { results := [.lit (.bool false)], args := [d1, d2] }
  | _ => none }
def FnExactIsStateWrongFalsely : Prop := fnExactIsStateRow.holds Try.pinned (OpenSpec.ofChange fnExactIsStateWrong)

/-- 'laws.FnExactFirstState': WHATEVER THE INPUT: true; the input reads as it did. -/
def fnExactFirstStateSpec : ChangeSpec := { name := "fnExactFirstState", fn := fun _ => fun
  | [d] => { results := [.lit (.bool true)], args := [d] }
  | _ => none }
def fnExactFirstStateRow : OpenClaim := { program := "ytlbmbofhbficgaa", sum := "d23b0fadc0af3439d91628cae54b001beb92d5090fe57cc14069f7e43bec2a34", func := "loop.example/g01272/laws.FnExactFirstState", spec := "fnExactFirstState", unfollowed := true, recurses := true, apart := false }
def FnExactFirstStateSaid : Prop := fnExactFirstStateRow.holds Try.pinned (OpenSpec.ofChange fnExactFirstStateSpec)

/-- ITS FALSE NEIGHBOUR: 'it returns false'. Refute it at one input. -/
def fnExactFirstStateWrong : ChangeSpec := { name := "fnExactFirstState", fn := fun _ => fun
  | [d] => { results := [.lit (.bool false)], args := [d] }
  | _ => none }
def FnExactFirstStateWrongFalsely : Prop := fnExactFirstStateRow.holds Try.pinned (OpenSpec.ofChange fnExactFirstStateWrong)

/-- 'laws.FnExactCanCross': WHATEVER THE INPUT: true; the input reads as it did. -/
def fnExactCanCrossSpec : ChangeSpec := { name := "fnExactCanCross", fn := fun _ => fun
  | [d1, d2, d3] => { results := [.lit (.bool true)], args := [d1, d2, d3] }
  | _ => none }
def fnExactCanCrossRow : OpenClaim := { program := "ytlbmbofhbficgaa", sum := "d23b0fadc0af3439d91628cae54b001beb92d5090fe57cc14069f7e43bec2a34", func := "loop.example/g01272/laws.FnExactCanCross", spec := "fnExactCanCross", unfollowed := true, recurses := true, apart := false }
def FnExactCanCrossSaid : Prop := fnExactCanCrossRow.holds Try.pinned (OpenSpec.ofChange fnExactCanCrossSpec)

/-- ITS FALSE NEIGHBOUR: 'it returns false'. Refute it at one input. -/
def fnExactCanCrossWrong : ChangeSpec := { name := "fnExactCanCross", fn := fun _ => fun
  | [d1, d2, d3] => { results := [.lit (.bool false)], args := [d1, d2, d3] }
  | _ => none }
def FnExactCanCrossWrongFalsely : Prop := fnExactCanCrossRow.holds Try.pinned (OpenSpec.ofChange fnExactCanCrossWrong)

/-- 'laws.FnExactLastState': WHATEVER THE INPUT: true; the input reads as it did. -/
def fnExactLastStateSpec : ChangeSpec := { name := "fnExactLastState", fn := fun _ => fun
  | [d] => { results := [.lit (.bool true)], args := [d] }
  | _ => none }
def fnExactLastStateRow : OpenClaim := { program := "ytlbmbofhbficgaa", sum := "d23b0fadc0af3439d91628cae54b001beb92d5090fe57cc14069f7e43bec2a34", func := "loop.example/g01272/laws.FnExactLastState", spec := "fnExactLastState", unfollowed := true, recurses := true, apart := false }
def FnExactLastStateSaid : Prop := fnExactLastStateRow.holds Try.pinned (OpenSpec.ofChange fnExactLastStateSpec)

/-- ITS FALSE NEIGHBOUR: 'it returns false'. Refute it at one input. -/
def fnExactLastStateWrong : ChangeSpec := { name := "fnExactLastState", fn := fun _ => fun
  | [d] => { results := [.lit (.bool false)], args := [d] }
  | _ => none }
def FnExactLastStateWrongFalsely : Prop := fnExactLastStateRow.holds Try.pinned (OpenSpec.ofChange fnExactLastStateWrong)

/-- 'laws.FnExactCrossBridge': WHATEVER THE INPUT: true; the input reads as it did. -/
def fnExactCrossBridgeSpec : ChangeSpec := { name := "fnExactCrossBridge", fn := fun _ => fun
  | [d1, d2, d3] => { results := [.lit (.bool true)], args := [d1, d2, d3] }
  | _ => none }
def fnExactCrossBridgeRow : OpenClaim := { program := "ytlbmbofhbficgaa", sum := "d23b0fadc0af3439d91628cae54b001beb92d5090fe57cc14069f7e43bec2a34", func := "loop.example/g01272/laws.FnExactCrossBridge", spec := "fnExactCrossBridge", unfollowed := true, recurses := true, apart := false }
def FnExactCrossBridgeSaid : Prop := fnExactCrossBridgeRow.holds Try.pinned (OpenSpec.ofChange fnExactCrossBridgeSpec)

/-- ITS FALSE NEIGHBOUR: 'it returns false'. Refute it at one input. -/
def fnExactCrossBridgeWrong : ChangeSpec := { name := "fnExactCrossBridge", fn := fun _ => fun
  | [d1, d2, d3] => { results := [.lit (.bool false)], args := [d1, d2, d3] }
  | _ => none }
def FnExactCrossBridgeWrongFalsely : Prop := fnExactCrossBridgeRow.holds Try.pinned (OpenSpec.ofChange fnExactCrossBridgeWrong)

/-- 'laws.FnExactTripThatFails': WHATEVER THE INPUT: true; the input reads as it did. -/
def fnExactTripThatFailsSpec : ChangeSpec := { name := "fnExactTripThatFails", fn := fun _ => fun
  | [d1, d2, d3] => { results := [.lit (.bool true)], args := [d1, d2, d3] }
  | _ => none }
def fnExactTripThatFailsRow : OpenClaim := { program := "ytlbmbofhbficgaa", sum := "d23b0fadc0af3439d91628cae54b001beb92d5090fe57cc14069f7e43bec2a34", func := "loop.example/g01272/laws.FnExactTripThatFails", spec := "fnExactTripThatFails", unfollowed := true, recurses := true, apart := false }
def FnExactTripThatFailsSaid : Prop := fnExactTripThatFailsRow.holds Try.pinned (OpenSpec.ofChange fnExactTripThatFailsSpec)

/-- ITS FALSE NEIGHBOUR: 'it returns false'. Refute it at one input. -/
def fnExactTripThatFailsWrong : ChangeSpec := { name := "fnExactTripThatFails", fn := fun _ => fun
  | [d1, d2, d3] => { results := [.lit (.bool false)], args := [d1, d2, d3] }
  | _ => none }
def FnExactTripThatFailsWrongFalsely : Prop := fnExactTripThatFailsRow.holds Try.pinned (OpenSpec.ofChange fnExactTripThatFailsWrong)

/-- 'laws.FnExactPlayTrips': WHATEVER THE INPUT: true; the input reads as it did. -/
def fnExactPlayTripsSpec : ChangeSpec := { name := "fnExactPlayTrips", fn := fun _ => fun
  | [d1, d2, d3] => { results := [.lit (.bool true)], args := [d1, d2, d3] }
  | _ => none }
def fnExactPlayTripsRow : OpenClaim := { program := "ytlbmbofhbficgaa", sum := "d23b0fadc0af3439d91628cae54b001beb92d5090fe57cc14069f7e43bec2a34", func := "loop.example/g01272/laws.FnExactPlayTrips", spec := "fnExactPlayTrips", unfollowed := true, recurses := true, apart := false }
def FnExactPlayTripsSaid : Prop := fnExactPlayTripsRow.holds Try.pinned (OpenSpec.ofChange fnExactPlayTripsSpec)

/-- ITS FALSE NEIGHBOUR: 'it returns false'. Refute it at one input. -/
def fnExactPlayTripsWrong : ChangeSpec := { name := "fnExactPlayTrips", fn := fun _ => fun
  | [d1, d2, d3] => { results := [.lit (.bool false)], args := [d1, d2, d3] }
  | _ => none }
def FnExactPlayTripsWrongFalsely : Prop := fnExactPlayTripsRow.holds Try.pinned (OpenSpec.ofChange fnExactPlayTripsWrong)

/-- 'laws.FnExactSortParty': WHATEVER THE INPUT: true; the input reads as it did. -/
def fnExactSortPartySpec : ChangeSpec := { name := "fnExactSortParty", fn := fun _ => fun
  | [d] => { results := [.lit (.bool true)], args := [d] }
  | _ => none }
def fnExactSortPartyRow : OpenClaim := { program := "ytlbmbofhbficgaa", sum := "d23b0fadc0af3439d91628cae54b001beb92d5090fe57cc14069f7e43bec2a34", func := "loop.example/g01272/laws.FnExactSortParty", spec := "fnExactSortParty", unfollowed := true, recurses := true, apart := false }
def FnExactSortPartySaid : Prop := fnExactSortPartyRow.holds Try.pinned (OpenSpec.ofChange fnExactSortPartySpec)

/-- ITS FALSE NEIGHBOUR: 'it returns false'. Refute it at one input. -/
def fnExactSortPartyWrong : ChangeSpec := { name := "fnExactSortParty", fn := fun _ => fun
  | [d] => { results := [.lit (.bool false)], args := [d] }
  | _ => none }
def FnExactSortPartyWrongFalsely : Prop := fnExactSortPartyRow.holds Try.pinned (OpenSpec.ofChange fnExactSortPartyWrong)

/- THE SECOND FORM. 'bulk': how many values and letters a reading holds, each counted each time it is reached (what is shared counts as often as it is met; a slice's spare places count too). A statement '..UptoSaid' is the law's where the arguments, and the package variables that the reading takes, are together of bulk at most 1048576: NARROWER than '..Said'. Prove '..Said' where nothing that the law and all that it calls make is longer than what came in: it says more and counts as full. Else prove '..UptoSaid'. A law counts once. -/
mutual
def uptoBulk {H : Type} : DataW H → Nat
  | .lit (.string bytes) => bytes.length + 1
  | .lit _ => 1
  | .nil => 1
  | .ptr d => uptoBulk d + 1
  | .slice elems spare => uptoBulkAll elems + uptoBulkAll spare + 1
  | .agg parts => uptoBulkAll parts + 1
  | .iface _ d => uptoBulk d + 1
  | .map entries => uptoBulkEntries entries + 1
  | .held _ => 1
def uptoBulkAll {H : Type} : List (DataW H) → Nat
  | [] => 0
  | d :: r => uptoBulk d + uptoBulkAll r
def uptoBulkEntries {H : Type} : List (Lit × DataW H) → Nat
  | [] => 0
  | x :: r => uptoBulkEntry x + uptoBulkEntries r
def uptoBulkEntry {H : Type} : Lit × DataW H → Nat
  | (.string bytes, d) => bytes.length + uptoBulk d + 1
  | (_, d) => uptoBulk d + 1
 end
def uptoSmall : (H : Type) → List (DataW H) → Bool := fun _ ds => decide (uptoBulkAll ds ≤ 1048576)
def OpenSpec.upto (s : _root_.Go.ChangeSpec) : _root_.Go.OpenSpec := { _root_.Go.OpenSpec.ofChange s with cond := some uptoSmall }

/-- 'laws.FnExactIsParty', WHERE WHAT IT READS IS OF BULK AT MOST 1048576: true; the input reads as it did. -/
def fnExactIsPartyUptoRow : OpenClaim := { program := "ytlbmbofhbficgaa", sum := "d23b0fadc0af3439d91628cae54b001beb92d5090fe57cc14069f7e43bec2a34", func := "loop.example/g01272/laws.FnExactIsParty", spec := "fnExactIsParty", unfollowed := true, recurses := true, apart := false, narrowed := true }
def FnExactIsPartyUptoSaid : Prop := fnExactIsPartyUptoRow.holds Try.pinned (OpenSpec.upto fnExactIsPartySpec)

/-- 'laws.FnExactTripTime', WHERE WHAT IT READS IS OF BULK AT MOST 1048576: true; the input reads as it did. -/
def fnExactTripTimeUptoRow : OpenClaim := { program := "ytlbmbofhbficgaa", sum := "d23b0fadc0af3439d91628cae54b001beb92d5090fe57cc14069f7e43bec2a34", func := "loop.example/g01272/laws.FnExactTripTime", spec := "fnExactTripTime", unfollowed := true, recurses := true, apart := false, narrowed := true }
def FnExactTripTimeUptoSaid : Prop := fnExactTripTimeUptoRow.holds Try.pinned (OpenSpec.upto fnExactTripTimeSpec)

/-- 'laws.FnExactDropPerson', WHERE WHAT IT READS IS OF BULK AT MOST 1048576: true; the input reads as it did. -/
def fnExactDropPersonUptoRow : OpenClaim := { program := "ytlbmbofhbficgaa", sum := "d23b0fadc0af3439d91628cae54b001beb92d5090fe57cc14069f7e43bec2a34", func := "loop.example/g01272/laws.FnExactDropPerson", spec := "fnExactDropPerson", unfollowed := true, recurses := true, apart := false, narrowed := true }
def FnExactDropPersonUptoSaid : Prop := fnExactDropPersonUptoRow.holds Try.pinned (OpenSpec.upto fnExactDropPersonSpec)

/-- 'laws.FnExactSlowParty', WHERE WHAT IT READS IS OF BULK AT MOST 1048576: true; the input reads as it did. -/
def fnExactSlowPartyUptoRow : OpenClaim := { program := "ytlbmbofhbficgaa", sum := "d23b0fadc0af3439d91628cae54b001beb92d5090fe57cc14069f7e43bec2a34", func := "loop.example/g01272/laws.FnExactSlowParty", spec := "fnExactSlowParty", unfollowed := true, recurses := true, apart := false, narrowed := true }
def FnExactSlowPartyUptoSaid : Prop := fnExactSlowPartyUptoRow.holds Try.pinned (OpenSpec.upto fnExactSlowPartySpec)

/-- 'laws.FnExactIsState', WHERE WHAT IT READS IS OF BULK AT MOST 1048576: true; the input reads as it did. -/
def fnExactIsStateUptoRow : OpenClaim := { program := "ytlbmbofhbficgaa", sum := "d23b0fadc0af3439d91628cae54b001beb92d5090fe57cc14069f7e43bec2a34", func := "loop.example/g01272/laws.FnExactIsState", spec := "fnExactIsState", unfollowed := true, recurses := true, apart := false, narrowed := true }
def FnExactIsStateUptoSaid : Prop := fnExactIsStateUptoRow.holds Try.pinned (OpenSpec.upto fnExactIsStateSpec)

/-- 'laws.FnExactFirstState', WHERE WHAT IT READS IS OF BULK AT MOST 1048576: true; the input reads as it did. -/
def fnExactFirstStateUptoRow : OpenClaim := { program := "ytlbmbofhbficgaa", sum := "d23b0fadc0af3439d91628cae54b001beb92d5090fe57cc14069f7e43bec2a34", func := "loop.example/g01272/laws.FnExactFirstState", spec := "fnExactFirstState", unfollowed := true, recurses := true, apart := false, narrowed := true }
def FnExactFirstStateUptoSaid : Prop := fnExactFirstStateUptoRow.holds Try.pinned (OpenSpec.upto fnExactFirstStateSpec)

/-- 'laws.FnExactCanCross', WHERE WHAT IT READS IS OF BULK AT MOST 1048576: true; the input reads as it did. -/
def fnExactCanCrossUptoRow : OpenClaim := { program := "ytlbmbofhbficgaa", sum := "d23b0fadc0af3439d91628cae54b001beb92d5090fe57cc14069f7e43bec2a34", func := "loop.example/g01272/laws.FnExactCanCross", spec := "fnExactCanCross", unfollowed := true, recurses := true, apart := false, narrowed := true }
def FnExactCanCrossUptoSaid : Prop := fnExactCanCrossUptoRow.holds Try.pinned (OpenSpec.upto fnExactCanCrossSpec)

/-- 'laws.FnExactLastState', WHERE WHAT IT READS IS OF BULK AT MOST 1048576: true; the input reads as it did. -/
def fnExactLastStateUptoRow : OpenClaim := { program := "ytlbmbofhbficgaa", sum := "d23b0fadc0af3439d91628cae54b001beb92d5090fe57cc14069f7e43bec2a34", func := "loop.example/g01272/laws.FnExactLastState", spec := "fnExactLastState", unfollowed := true, recurses := true, apart := false, narrowed := true }
def FnExactLastStateUptoSaid : Prop := fnExactLastStateUptoRow.holds Try.pinned (OpenSpec.upto fnExactLastStateSpec)

/-- 'laws.FnExactCrossBridge', WHERE WHAT IT READS IS OF BULK AT MOST 1048576: true; the input reads as it did. -/
def fnExactCrossBridgeUptoRow : OpenClaim := { program := "ytlbmbofhbficgaa", sum := "d23b0fadc0af3439d91628cae54b001beb92d5090fe57cc14069f7e43bec2a34", func := "loop.example/g01272/laws.FnExactCrossBridge", spec := "fnExactCrossBridge", unfollowed := true, recurses := true, apart := false, narrowed := true }
def FnExactCrossBridgeUptoSaid : Prop := fnExactCrossBridgeUptoRow.holds Try.pinned (OpenSpec.upto fnExactCrossBridgeSpec)

/-- 'laws.FnExactTripThatFails', WHERE WHAT IT READS IS OF BULK AT MOST 1048576: true; the input reads as it did. -/
def fnExactTripThatFailsUptoRow : OpenClaim := { program := "ytlbmbofhbficgaa", sum := "d23b0fadc0af3439d91628cae54b001beb92d5090fe57cc14069f7e43bec2a34", func := "loop.example/g01272/laws.FnExactTripThatFails", spec := "fnExactTripThatFails", unfollowed := true, recurses := true, apart := false, narrowed := true }
def FnExactTripThatFailsUptoSaid : Prop := fnExactTripThatFailsUptoRow.holds Try.pinned (OpenSpec.upto fnExactTripThatFailsSpec)

/-- 'laws.FnExactPlayTrips', WHERE WHAT IT READS IS OF BULK AT MOST 1048576: true; the input reads as it did. -/
def fnExactPlayTripsUptoRow : OpenClaim := { program := "ytlbmbofhbficgaa", sum := "d23b0fadc0af3439d91628cae54b001beb92d5090fe57cc14069f7e43bec2a34", func := "loop.example/g01272/laws.FnExactPlayTrips", spec := "fnExactPlayTrips", unfollowed := true, recurses := true, apart := false, narrowed := true }
def FnExactPlayTripsUptoSaid : Prop := fnExactPlayTripsUptoRow.holds Try.pinned (OpenSpec.upto fnExactPlayTripsSpec)

/-- 'laws.FnExactSortParty', WHERE WHAT IT READS IS OF BULK AT MOST 1048576: true; the input reads as it did. -/
def fnExactSortPartyUptoRow : OpenClaim := { program := "ytlbmbofhbficgaa", sum := "d23b0fadc0af3439d91628cae54b001beb92d5090fe57cc14069f7e43bec2a34", func := "loop.example/g01272/laws.FnExactSortParty", spec := "fnExactSortParty", unfollowed := true, recurses := true, apart := false, narrowed := true }
def FnExactSortPartyUptoSaid : Prop := fnExactSortPartyUptoRow.holds Try.pinned (OpenSpec.upto fnExactSortPartySpec)

end Rows
end Go.Proofs.Ytlbmbofhbficgaa
