/- The law FnExactIsState returns true for all arguments: both functions say the same of the copies, and the copies stay.
   Conditions: the lists are no longer than any Go slice. -/
import Derived.Test.YtlbmbofhbficgaaPureState
import Derived.Test.YtlbmbofhbficgaaGx4
import Derived.Test.YtlbmbofhbficgaaGx5
namespace Go.Proofs.Ytlbmbofhbficgaa.Pure
open Go.RowKit Go.Proofs.Ytlbmbofhbficgaa.G Go.Proofs.YtlbmbofhbficgaaW.PrintWords

theorem FnExactIsState (p : List Int) (s : Int) (o : List Bool) (t : Bool) (hp : p.length ≤ 9223372036854775807) (ho : o.length ≤ 9223372036854775807) : ∃ k, laws_FnExactIsState.f k p s o t = some true := by
  refine ⟨p.length + o.length + 5, ?_⟩
  generalize hk : p.length + o.length + 5 = k
  unfold laws_FnExactIsState.f spec_IsState.f impl_IsState.f
  rw [szParty_ev p s _ hp (by omega) (by omega), bindsome]
  by_cases c : (1048576 : Int) < p.length
  · rw [if_pos c]; rfl
  · rw [if_neg c, if_neg (by omega), szState_ev o t _ ho (by omega) (by omega), bindsome]
    by_cases c2 : (1048576 : Int) - p.length < o.length
    · rw [if_pos c2]; rfl
    · rw [if_neg c2, if_neg (by omega)]
      have e1 := toParty_ev p s (by omega) k (by omega)
      have e2 := toState_ev o t (by omega) k (by omega)
      have e3 := paGood_ev p s (by omega) k (by omega)
      have e4 := paState_ev p s o t (by omega) k (by omega)
      have e5 := implIsParty_ev p s
      have e6 := isStateOf_ev p.length o t (by omega) k (by omega)
      have e7 := eqParty_ev p p s s (by omega) k (by omega)
      have e8 := eqState_ev o o t t (by omega) k (by omega)
      simp only [e1, e2, e3, e4, e5, e6, e7, e8, bindsome]
      cases goodParty p s <;> simp

end Go.Proofs.Ytlbmbofhbficgaa.Pure
