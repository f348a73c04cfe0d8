/- What marking a party and asking for the marks come to.
   Conditions: stated with each. -/
import Derived.Test.YtlbmbofhbficgaaPurePartySo
import Derived.Test.YtlbmbofhbficgaaPureIntMarkSo
import Derived.Test.YtlbmbofhbficgaaGSox1
namespace Go.Proofs.Ytlbmbofhbficgaa.Pure
open Go.RowKit Go.Proofs.Ytlbmbofhbficgaa.G Go.Proofs.YtlbmbofhbficgaaW.PrintWords

theorem markParty_ev (l : List Int) (s a : Int) (ha : 0 ≤ a) (hb : a + l.length ≤ 4611686018427387904) (k : Nat) (hk : l.length < k) : laws_markParty.f k l s a = some (a + (l.length : Int), seqI a l.length) := by
  unfold laws_markParty.f
  rw [markIntS_ev l a ha hb k hk, bindsome]
theorem heldParty_ev (n : Nat) (s a : Int) (ha : 0 ≤ a) (hb : a + n ≤ 4611686018427387904) (k : Nat) (hk : n < k) : laws_heldParty.f k (seqI a n) s a = some (a + (n : Int)) := by
  unfold laws_heldParty.f
  rw [heldIntS_ev n a ha hb k hk, bindsome, if_neg (by omega)]

end Go.Proofs.Ytlbmbofhbficgaa.Pure
