/- What marking a keep comes to.
   Conditions: stated with each. -/
import Derived.Test.YtomiikbcahocaaaPureIntSSMarkWd
import Derived.Test.YtomiikbcahocaaaGWdx2
namespace Go.Proofs.Ytomiikbcahocaaa.Pure
open Go.RowKit Go.Proofs.Ytomiikbcahocaaa.G Go.Proofs.YtomiikbcahocaaaW.PrintWords

theorem markKeep_ev (n : Int) (l : List (List Int)) (s a : Int) (hl : l.length ≤ 1048576) (hb : ∀ x ∈ l, x.length ≤ 1048576) (ha : 0 ≤ a) (ha1 : a ≤ 1000000000) (k : Nat) (hk : l.length + 1048576 < k) : laws_markKeep.f k n l s a = some (a + (sumL l : Int), seqSS a l) := by
  unfold laws_markKeep.f
  exact markIntSS_ev l a hl hb ha (by omega) k hk

end Go.Proofs.Ytomiikbcahocaaa.Pure
