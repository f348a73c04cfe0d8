/- What the printed functions on states come to: sizes, copies, comparisons, and when there is a state of a party.
   Conditions: stated with each. -/
import Derived.Test.YtomiikbcahocaaaPureBoolPy
import Derived.Test.YtomiikbcahocaaaPureBoolInPy
import Derived.Test.YtomiikbcahocaaaPurePartyPy
namespace Go.Proofs.Ytomiikbcahocaaa.Pure
open Go.RowKit Go.Proofs.Ytomiikbcahocaaa.G Go.Proofs.YtomiikbcahocaaaW.PrintWords

def goodState (n : Nat) (l : List Bool) (t : Bool) : Bool := decide (l.length = n) && l.contains t
theorem goodState_len {n : Nat} {l : List Bool} {t : Bool} (h : goodState n l t = true) : l.length = n := by
  unfold goodState at h
  simp only [Bool.and_eq_true, decide_eq_true_eq] at h
  exact h.1

end Go.Proofs.Ytomiikbcahocaaa.Pure
