/- The law FnExactIsNight returns true for all arguments: both functions say the same of the copy of the night, and the copy stays.
   Conditions: the list is no longer than any Go slice. -/
import Derived.Test.YteimlfmecmagoaaPureNight
import Derived.Test.YteimlfmecmagoaaGx4
namespace Go.Proofs.Yteimlfmecmagoaa.Pure
open Go.RowKit Go.Proofs.Yteimlfmecmagoaa.G Go.Proofs.YteimlfmecmagoaaW.PrintWords

theorem FnExactIsNight (l : List Int) (s t : Int) (h : l.length ≤ 9223372036854775807) : ∃ k, laws_FnExactIsNight.f k l s t = some true := by
  refine ⟨l.length + 1, ?_⟩
  generalize hk : l.length + 1 = k
  unfold laws_FnExactIsNight.f spec_IsNight.f
  rw [szNight_ev l s t _ h (by omega) (by omega), bindsome]
  by_cases c : (1048576 : Int) < l.length
  · rw [if_pos c]; rfl
  · rw [if_neg c, if_neg (by omega)]
    have e1 := toNight_ev l s t (by omega) k (by omega)
    have e2 := toGood_ev l s t (by omega) k (by omega)
    have e3 := implIsNight_ev l s t
    have e4 := eqNight_ev l s t (by omega) k (by omega)
    simp only [e1, e2, e3, e4, bindsome]
    simp

end Go.Proofs.Yteimlfmecmagoaa.Pure
