/- What marking a bank and asking for the marks come to.
   Conditions: stated with each. -/
import Derived.Test.YtomiikbcahocaaaPureBankDn
import Derived.Test.YtomiikbcahocaaaPureBoolMarkDn
import Derived.Test.YtomiikbcahocaaaGDnx2
namespace Go.Proofs.Ytomiikbcahocaaa.Pure
open Go.RowKit Go.Proofs.Ytomiikbcahocaaa.G Go.Proofs.YtomiikbcahocaaaW.PrintWords

theorem markBank_ev (l : List Bool) (s : Bool) (a : Int) (ha : 0 ≤ a) (hb : a + l.length ≤ 4611686018427387904) (k : Nat) (hk : l.length < k) : laws_markBank.f k l s a = some (a + (l.length : Int), seqB a l.length) := by
  unfold laws_markBank.f
  rw [markBoolS_ev l a ha hb k hk, bindsome]

end Go.Proofs.Ytomiikbcahocaaa.Pure
