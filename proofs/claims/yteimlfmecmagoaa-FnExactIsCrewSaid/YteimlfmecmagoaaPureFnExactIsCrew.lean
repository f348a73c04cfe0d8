/- The law FnExactIsCrew returns true for all arguments: both functions say the same of the copy of the crew, and the copy stays.
   Conditions: the lists are no longer than any Go slice. -/
import Derived.Test.YteimlfmecmagoaaPureCrew
import Derived.Test.YteimlfmecmagoaaGx3
import Derived.Test.YteimlfmecmagoaaGx4
namespace Go.Proofs.Yteimlfmecmagoaa.Pure
open Go.RowKit Go.Proofs.Yteimlfmecmagoaa.G Go.Proofs.YteimlfmecmagoaaW.PrintWords

theorem FnExactIsCrew (l : List Int) (o : List Bool) (m : Int) (h : l.length ≤ 9223372036854775807) (ho : o.length ≤ 9223372036854775807) : ∃ k, laws_FnExactIsCrew.f k l o m = some true := by
  refine ⟨l.length + o.length + 1, ?_⟩
  generalize hk : l.length + o.length + 1 = k
  unfold laws_FnExactIsCrew.f spec_IsCrew.f
  rw [szCrew_ev l o m _ h ho (by omega) (by omega), bindsome]
  by_cases c : (1048576 : Int) < l.length
  · rw [if_pos c]; rfl
  · rw [if_neg c]
    by_cases c2 : (1048576 : Int) - l.length < o.length
    · rw [if_pos c2]; rfl
    · rw [if_neg c2, if_neg (by omega)]
      have e1 := toCrew_ev l o m (by omega) (by omega) k (by omega) (by omega)
      have e2 := loGood_ev l o m (by omega) k (by omega)
      have e3 := implIsCrew_ev l o m
      have e4 := eqCrew_ev l o m (by omega) (by omega) k (by omega) (by omega)
      simp only [e1, e2, e3, e4, bindsome]
      simp

end Go.Proofs.Yteimlfmecmagoaa.Pure
