/- What marking a bank and asking for the marks come to.
   Conditions: stated with each. -/
import Derived.Test.YtomiikbcahocaaaPureBankPy
import Derived.Test.YtomiikbcahocaaaPureBoolMarkPy
import Derived.Test.YtomiikbcahocaaaGPyx2
namespace Go.Proofs.Ytomiikbcahocaaa.Pure
open Go.RowKit Go.Proofs.Ytomiikbcahocaaa.G Go.Proofs.YtomiikbcahocaaaW.PrintWords

theorem markBank_ev (l : List Bool) (s : Bool) (a : Int) (ha : 0 ≤ a) (hb : a + l.length ≤ 4611686018427387904) (k : Nat) (hk : l.length < k) : laws_markBank.f k l s a = some (a + (l.length : Int), seqB a l.length) := by
  unfold laws_markBank.f
  rw [markBoolS_ev l a ha hb k hk, bindsome]
theorem heldBank_ev (n : Nat) (s : Bool) (a : Int) (ha : 0 ≤ a) (hb : a + n ≤ 4611686018427387904) (k : Nat) (hk : n < k) : laws_heldBank.f k (seqB a n) s a = some (a + (n : Int)) := by
  unfold laws_heldBank.f
  rw [heldBoolS_ev n a ha hb k hk, bindsome, if_neg (by omega)]

end Go.Proofs.Ytomiikbcahocaaa.Pure
