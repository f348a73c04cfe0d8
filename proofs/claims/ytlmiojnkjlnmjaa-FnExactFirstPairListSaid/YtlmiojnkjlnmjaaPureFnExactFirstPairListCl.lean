/- The law FnExactFirstPairList returns true for all arguments: both functions go through the same lists and tell the first with the time, in memory of its own, or nothing.
   Conditions: none. -/
import Derived.Test.YtlmiojnkjlnmjaaPureListsCl
import Derived.Test.YtlmiojnkjlnmjaaPureIntMarkCl
import Derived.Test.YtlmiojnkjlnmjaaGClx7
namespace Go.Proofs.Ytlmiojnkjlnmjaa.Pure
open Go.RowKit Go.Proofs.Ytlmiojnkjlnmjaa.G Go.Proofs.YtlmiojnkjlnmjaaW.PrintWords

theorem FnExactFirstPairList (a0 a1 a2 : Int) : ∃ k, laws_FnExactFirstPairList.f k a0 a1 a2 = some true := by
  refine ⟨400, ?_⟩
  generalize hk : 400 = k
  unfold laws_FnExactFirstPairList.f
  have e1 := specFirst_ev a0 a1 a2 k (by omega)
  have e2 := implFirst_ev a0 a1 a2 k (by omega)
  have hb := firstL_len a0 a1 a2
  generalize firstL a0 a1 a2 = r at e1 e2 hb
  obtain ⟨r1, r2⟩ := r
  simp only at hb
  have e3 := eqIntS_ev r1 r1 (by omega) k (by omega)
  have e4 := markIntS_ev r1 1 (by omega) (by omega) k (by omega)
  have e5 := heldIntS_ev r1.length 1 (by omega) (by omega) k (by omega)
  have n1 : ¬ (1 + (r1.length : Int) < 0) := by omega
  simp only [e1, e2, e3, e4, e5, bindsome, n1, if_false]
  simp

end Go.Proofs.Ytlmiojnkjlnmjaa.Pure
