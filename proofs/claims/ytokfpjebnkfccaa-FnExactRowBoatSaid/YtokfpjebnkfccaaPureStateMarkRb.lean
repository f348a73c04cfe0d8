/- What marking a state and asking for the marks come to.
   Conditions: stated with each. -/
import Derived.Test.YtokfpjebnkfccaaPureStateRb
import Derived.Test.YtokfpjebnkfccaaPureBoolMarkRb
import Derived.Test.YtokfpjebnkfccaaGRbx9
import Derived.Test.YtokfpjebnkfccaaGRbx10
namespace Go.Proofs.Ytokfpjebnkfccaa.Pure
open Go.RowKit Go.Proofs.Ytokfpjebnkfccaa.G Go.Proofs.YtokfpjebnkfccaaW.PrintWords

theorem markState_ev (l : List Bool) (s : Bool) (a : Int) (ha : 0 ≤ a) (hb : a + l.length ≤ 4611686018427387904) (k : Nat) (hk : l.length < k) : laws_markState.f k l s a = some (a + (l.length : Int), seqB a l.length) := by
  unfold laws_markState.f
  rw [markBoolS_ev l a ha hb k hk, bindsome]
theorem heldState_ev (n : Nat) (s : Bool) (a : Int) (ha : 0 ≤ a) (hb : a + n ≤ 4611686018427387904) (k : Nat) (hk : n < k) : laws_heldState.f k (seqB a n) s a = some (a + (n : Int)) := by
  unfold laws_heldState.f
  rw [heldBoolS_ev n a ha hb k hk, bindsome, if_neg (by omega)]

end Go.Proofs.Ytokfpjebnkfccaa.Pure
