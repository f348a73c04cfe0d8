/- What the printed functions on states come to: sizes, copies, comparisons, and when there is a state of a party.
   Conditions: stated with each. -/
import Derived.Test.YtlbmbofhbficgaaPureBoolLs
import Derived.Test.YtlbmbofhbficgaaPureBoolInLs
import Derived.Test.YtlbmbofhbficgaaPurePartyLs
import Derived.Test.YtlbmbofhbficgaaGLsx1
namespace Go.Proofs.Ytlbmbofhbficgaa.Pure
open Go.RowKit Go.Proofs.Ytlbmbofhbficgaa.G Go.Proofs.YtlbmbofhbficgaaW.PrintWords

theorem eqState_ev (l m : List Bool) (s t : Bool) (hl : l.length ≤ 1048576) (k : Nat) (hk : l.length < k) : laws_eqState.f k l s m t = some (decide (l = m) && decide (s = t)) := by
  unfold laws_eqState.f
  rw [eqBoolS_ev l m hl k hk, bindsome]
  by_cases h : l = m <;> cases s <;> cases t <;> simp [h]
def goodState (n : Nat) (l : List Bool) (t : Bool) : Bool := decide (l.length = n) && l.contains t
theorem goodState_len {n : Nat} {l : List Bool} {t : Bool} (h : goodState n l t = true) : l.length = n := by
  unfold goodState at h
  simp only [Bool.and_eq_true, decide_eq_true_eq] at h
  exact h.1

end Go.Proofs.Ytlbmbofhbficgaa.Pure
