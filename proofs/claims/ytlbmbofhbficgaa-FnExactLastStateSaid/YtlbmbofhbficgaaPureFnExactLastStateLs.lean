/- The law FnExactLastState returns true for all arguments: both functions tell the state in which all are on that side, in memory of its own, or nothing.
   Conditions: the list is no longer than any Go slice. -/
import Derived.Test.YtlbmbofhbficgaaPureAllAtLs
import Derived.Test.YtlbmbofhbficgaaPurePartyMarkLs
import Derived.Test.YtlbmbofhbficgaaPureStateMarkLs
import Derived.Test.YtlbmbofhbficgaaGLsx2
import Derived.Test.YtlbmbofhbficgaaGLsx3
namespace Go.Proofs.Ytlbmbofhbficgaa.Pure
open Go.RowKit Go.Proofs.Ytlbmbofhbficgaa.G Go.Proofs.YtlbmbofhbficgaaW.PrintWords

def allState (p : List Int) (s : Int) : List Bool × Bool × Bool := if goodParty p s = true then (List.replicate p.length true, true, true) else ([], false, false)
theorem specAll_ev (p : List Int) (s : Int) (hp : p.length ≤ 1048576) (k : Nat) (hk : p.length < k) : spec_LastState.f k p s = some (allState p s) := by
  unfold spec_LastState.f allState
  rw [paGood_ev p s hp k hk, bindsome, paLast_ev p s (by omega) k (by omega), bindsome]
  cases goodParty p s <;> rfl
theorem implAll_ev (p : List Int) (s : Int) : impl_LastState.f p s = some (allState p s) := by
  unfold impl_LastState.f allState
  rw [implIsParty_ev, bindsome]
  cases h : goodParty p s
  · rfl
  · have hl := (goodParty_le h).2.1
    rw [if_pos rfl, if_pos rfl, allAt_ev p.length true (by omega), bindsome]
theorem allState_len (p : List Int) (s : Int) : (allState p s).1.length ≤ p.length := by
  unfold allState
  split <;> simp
theorem FnExactLastState (p : List Int) (s : Int) (hp : p.length ≤ 9223372036854775807) : ∃ k, laws_FnExactLastState.f k p s = some true := by
  refine ⟨p.length + 5, ?_⟩
  generalize hk : p.length + 5 = k
  unfold laws_FnExactLastState.f
  rw [szParty_ev p s _ hp (by omega) (by omega), bindsome]
  by_cases c : (1048576 : Int) < p.length
  · rw [if_pos c]; rfl
  · rw [if_neg c, if_neg (by omega)]
    have hr := allState_len p s
    have e1 := toParty_ev p s (by omega) k (by omega)
    have e2 := specAll_ev p s (by omega) k (by omega)
    have e3 := implAll_ev p s
    generalize allState p s = r at hr e2 e3
    obtain ⟨r1, r2, r3⟩ := r
    simp only at hr
    have e4 := eqState_ev r1 r1 r2 r2 (by omega) k (by omega)
    have e5 := eqParty_ev p p s s (by omega) k (by omega)
    have e6 := markParty_ev p s 1 (by omega) (by omega) k (by omega)
    have e7 := markState_ev r1 r2 1 (by omega) (by omega) k (by omega)
    have e8 := heldState_ev r1.length r2 1 (by omega) (by omega) k (by omega)
    have n1 : ¬ (1 + (p.length : Int) < 0) := by omega
    have n2 : ¬ (1 + (r1.length : Int) < 0) := by omega
    simp only [e1, e2, e3, e4, e5, e6, e7, e8, bindsome, n1, n2, if_false]
    simp

end Go.Proofs.Ytlbmbofhbficgaa.Pure
