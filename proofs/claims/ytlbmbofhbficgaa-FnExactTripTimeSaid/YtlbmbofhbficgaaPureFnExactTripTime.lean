/- The law FnExactTripTime returns true for all arguments: both functions tell the slowest of the people of a trip, or nothing.
   Conditions: the lists are no longer than any Go slice. -/
import Derived.Test.YtlbmbofhbficgaaPureTrip
import Derived.Test.YtlbmbofhbficgaaGx2
import Derived.Test.YtlbmbofhbficgaaGx3
namespace Go.Proofs.Ytlbmbofhbficgaa.Pure
open Go.RowKit Go.Proofs.Ytlbmbofhbficgaa.G Go.Proofs.YtlbmbofhbficgaaW.PrintWords

theorem specTripTime_ev (p : List Int) (s : Int) (l : List Int) (hp : p.length ≤ 1048576) (hl : l.length ≤ 1048576) (k : Nat) (hk : p.length < k) (hk2 : l.length < k) :
    spec_TripTime.f k p s l = some (if (goodParty p s && isTrip p.length s l) = true then (slowT p 0 l, true) else (0, false)) := by
  unfold spec_TripTime.f
  rw [paGood_ev p s hp k hk, bindsome, paTrip_ev p s l hp hl k hk2, bindsome]
  cases goodParty p s
  · rfl
  · cases h : isTrip p.length s l
    · rfl
    · rw [paTime_ev p s l hl (isTrip_valid h).2.2 k hk2]
      rfl
theorem implTripTime_ev (p : List Int) (s : Int) (l : List Int) (hp : p.length ≤ 1048576) (hl : l.length ≤ 1048576) (k : Nat) (hk2 : l.length < k) :
    impl_TripTime.f k p s l = some (if (goodParty p s && isTrip p.length s l) = true then (slowT p 0 l, true) else (0, false)) := by
  unfold impl_TripTime.f
  rw [implIsParty_ev, bindsome, isTrip_ev p s l hp hl k hk2, bindsome]
  cases goodParty p s
  · rfl
  · cases h : isTrip p.length s l
    · rfl
    · rw [slowest_ev p l hl (isTrip_valid h).2.2 k hk2]
      rfl
theorem FnExactTripTime (p : List Int) (s : Int) (l : List Int) (hp : p.length ≤ 9223372036854775807) (_hl : l.length ≤ 9223372036854775807) : ∃ k, laws_FnExactTripTime.f k p s l = some true := by
  refine ⟨p.length + l.length + 5, ?_⟩
  generalize hk : p.length + l.length + 5 = k
  unfold laws_FnExactTripTime.f
  by_cases c0 : (l.length : Int) > 1048576
  · rw [if_pos c0]
  · rw [if_neg c0, szParty_ev p s _ hp (by omega) (by omega), bindsome]
    by_cases c : (1048576 : Int) < p.length
    · rw [if_pos c]; rfl
    · rw [if_neg c, if_neg (by omega)]
      have e1 := toParty_ev p s (by omega) k (by omega)
      have e2 := toIntS_ev l (by omega) k (by omega)
      have e3 := specTripTime_ev p s l (by omega) (by omega) k (by omega) (by omega)
      have e4 := implTripTime_ev p s l (by omega) (by omega) k (by omega)
      have e5 := eqParty_ev p p s s (by omega) k (by omega)
      have e6 := eqIntS_ev l l (by omega) k (by omega)
      simp only [e1, e2, e3, e4, e5, e6, bindsome]
      simp

end Go.Proofs.Ytlbmbofhbficgaa.Pure
