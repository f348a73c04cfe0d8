/- The law FnExactCanCross returns true for all arguments: both functions say the same of a list as a trip in a state.
   Conditions: the lists are no longer than any Go slice. -/
import Derived.Test.YtlbmbofhbficgaaPureTrip
import Derived.Test.YtlbmbofhbficgaaGx6
import Derived.Test.YtlbmbofhbficgaaGx7
namespace Go.Proofs.Ytlbmbofhbficgaa.Pure
open Go.RowKit Go.Proofs.Ytlbmbofhbficgaa.G Go.Proofs.YtlbmbofhbficgaaW.PrintWords

def canCross (p : List Int) (s : Int) (o : List Bool) (t : Bool) (l : List Int) : Bool × Bool := if (goodParty p s && goodState p.length o t) = true then (isTrip p.length s l && onSide o t l, true) else (false, false)
theorem specCanCross_ev (p : List Int) (s : Int) (o : List Bool) (t : Bool) (l : List Int) (hp : p.length ≤ 1048576) (ho : o.length ≤ 1048576) (hl : l.length ≤ 1048576) (k : Nat) (hk : p.length < k) (hk1 : o.length < k) (hk2 : l.length < k) :
    spec_CanCross.f k p s o t l = some (canCross p s o t l) := by
  unfold spec_CanCross.f canCross
  rw [paAsked_ev p s o t hp ho k hk hk1, bindsome]
  cases h : (goodParty p s && goodState p.length o t)
  · rfl
  · rw [Bool.and_eq_true] at h
    rw [paCan_ev p s o t l hp hl (goodState_len h.2) k hk2]
    rfl
theorem implCanCross_ev (p : List Int) (s : Int) (o : List Bool) (t : Bool) (l : List Int) (hp : p.length ≤ 1048576) (ho : o.length ≤ 1048576) (hl : l.length ≤ 1048576) (k : Nat) (hk1 : o.length < k) (hk2 : l.length < k) :
    impl_CanCross.f k p s o t l = some (canCross p s o t l) := by
  unfold impl_CanCross.f canCross
  rw [hasState_ev p s o t ho k hk1, bindsome]
  cases h : (goodParty p s && goodState p.length o t)
  · rfl
  · rw [Bool.and_eq_true] at h
    rw [canCross_ev p s o t l hp hl (goodState_len h.2) k hk2]
    rfl
theorem FnExactCanCross (p : List Int) (s : Int) (o : List Bool) (t : Bool) (l : List Int) (hp : p.length ≤ 9223372036854775807) (ho : o.length ≤ 9223372036854775807) (_hl : l.length ≤ 9223372036854775807) : ∃ k, laws_FnExactCanCross.f k p s o t l = some true := by
  refine ⟨p.length + o.length + l.length + 5, ?_⟩
  generalize hk : p.length + o.length + l.length + 5 = k
  unfold laws_FnExactCanCross.f
  by_cases c0 : (l.length : Int) > 1048576
  · rw [if_pos c0]
  · rw [if_neg c0, szParty_ev p s _ hp (by omega) (by omega), bindsome]
    by_cases c : (1048576 : Int) < p.length
    · rw [if_pos c]; rfl
    · rw [if_neg c, if_neg (by omega), szState_ev o t _ ho (by omega) (by omega), bindsome]
      by_cases c2 : (1048576 : Int) - p.length < o.length
      · rw [if_pos c2]; rfl
      · rw [if_neg c2, if_neg (by omega)]
        have e1 := toParty_ev p s (by omega) k (by omega)
        have e2 := toState_ev o t (by omega) k (by omega)
        have e3 := toIntS_ev l (by omega) k (by omega)
        have e4 := specCanCross_ev p s o t l (by omega) (by omega) (by omega) k (by omega) (by omega) (by omega)
        have e5 := implCanCross_ev p s o t l (by omega) (by omega) (by omega) k (by omega) (by omega)
        have e6 := eqParty_ev p p s s (by omega) k (by omega)
        have e7 := eqState_ev o o t t (by omega) k (by omega)
        have e8 := eqIntS_ev l l (by omega) k (by omega)
        simp only [e1, e2, e3, e4, e5, e6, e7, e8, bindsome]
        simp

end Go.Proofs.Ytlbmbofhbficgaa.Pure
