/- The law FnExactCountPairLists returns true for all arguments: both functions go through the same lists and count those with the time.
   Conditions: none. -/
import Derived.Test.YtlmiojnkjlnmjaaPureListsCl
import Derived.Test.YtlmiojnkjlnmjaaGClx6
namespace Go.Proofs.Ytlmiojnkjlnmjaa.Pure
open Go.RowKit Go.Proofs.Ytlmiojnkjlnmjaa.G Go.Proofs.YtlmiojnkjlnmjaaW.PrintWords

theorem FnExactCountPairLists (a0 a1 a2 : Int) : ∃ k, laws_FnExactCountPairLists.f k a0 a1 a2 = some true := by
  refine ⟨301, ?_⟩
  unfold laws_FnExactCountPairLists.f
  rw [specCount_ev a0 a1 a2 301 (by omega), bindsome, implCount_ev a0 a1 a2 301 (by omega), bindsome]
  simp

end Go.Proofs.Ytlmiojnkjlnmjaa.Pure
