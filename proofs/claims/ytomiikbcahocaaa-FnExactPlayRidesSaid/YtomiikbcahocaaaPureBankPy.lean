/- What the printed functions on banks come to.
   Conditions: stated with each. -/
import Derived.Test.YtomiikbcahocaaaPureKeepPy
import Derived.Test.YtomiikbcahocaaaPureBoolPy
import Derived.Test.YtomiikbcahocaaaGPyx2
namespace Go.Proofs.Ytomiikbcahocaaa.Pure
open Go.RowKit Go.Proofs.Ytomiikbcahocaaa.G Go.Proofs.YtomiikbcahocaaaW.PrintWords

theorem eqBank_ev (l m : List Bool) (s t : Bool) (hl : l.length ≤ 1048576) (k : Nat) (hk : l.length < k) : laws_eqBank.f k l s m t = some (decide (l = m) && decide (s = t)) := by
  unfold laws_eqBank.f
  rw [eqBoolS_ev l m hl k hk, bindsome]
  by_cases h : l = m <;> cases s <;> cases t <;> simp [h]
def hasBank (n : Int) (l : List (List Int)) (s : Int) (o : List Bool) : Bool := isKeep n l s && ((o.length : Int) == n)
theorem hasBank_out {n : Int} {l : List (List Int)} {s : Int} {o : List Bool} (h : hasBank n l s o = true) : isKeep n l s = true ∧ (o.length : Int) = n := by
  unfold hasBank at h
  rw [Bool.and_eq_true] at h
  exact ⟨h.1, by simpa using h.2⟩

end Go.Proofs.Ytomiikbcahocaaa.Pure
