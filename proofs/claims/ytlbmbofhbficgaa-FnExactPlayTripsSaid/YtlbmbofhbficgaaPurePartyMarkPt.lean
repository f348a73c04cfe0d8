/- What marking a party and asking for the marks come to.
   Conditions: stated with each. -/
import Derived.Test.YtlbmbofhbficgaaPurePartyPt
import Derived.Test.YtlbmbofhbficgaaPureIntMarkPt
import Derived.Test.YtlbmbofhbficgaaGPtx1
namespace Go.Proofs.Ytlbmbofhbficgaa.Pure
open Go.RowKit Go.Proofs.Ytlbmbofhbficgaa.G Go.Proofs.YtlbmbofhbficgaaW.PrintWords

theorem markParty_ev (l : List Int) (s a : Int) (ha : 0 ≤ a) (hb : a + l.length ≤ 4611686018427387904) (k : Nat) (hk : l.length < k) : laws_markParty.f k l s a = some (a + (l.length : Int), seqI a l.length) := by
  unfold laws_markParty.f
  rw [markIntS_ev l a ha hb k hk, bindsome]

end Go.Proofs.Ytlbmbofhbficgaa.Pure
