/- The law FnExactIsKeep returns true for all arguments: both functions say the same of the copy of the keep, and the copy stays.
   Conditions: the lists are no longer than any Go slice. -/
import Derived.Test.YtomiikbcahocaaaPureKeepIk
import Derived.Test.YtomiikbcahocaaaGIkx2
import Derived.Test.YtomiikbcahocaaaGIkx5
namespace Go.Proofs.Ytomiikbcahocaaa.Pure
open Go.RowKit Go.Proofs.Ytomiikbcahocaaa.G Go.Proofs.YtomiikbcahocaaaW.PrintWords

theorem FnExactIsKeep (n : Int) (l : List (List Int)) (s : Int) (h : l.length ≤ 9223372036854775807 ∧ ∀ x ∈ l, x.length ≤ 9223372036854775807) : ∃ k, laws_FnExactIsKeep.f k n l s = some true := by
  refine ⟨l.length * 2 + 1048576 + 6, ?_⟩
  generalize hk : l.length * 2 + 1048576 + 6 = k
  unfold laws_FnExactIsKeep.f spec_IsKeep.f
  obtain ⟨r, e0, _, hr⟩ := szKeep_ev n l s 1048576 h.1 h.2 (by omega) (by omega) k (by omega)
  rw [e0, bindsome]
  by_cases c : r < 0
  · rw [if_pos c]
  · rw [if_neg c]
    obtain ⟨h1, h2⟩ := hr (by omega)
    have h2' : ∀ x ∈ l, x.length ≤ 1048576 := fun x hx => by have := h2 x hx; omega
    have e1 := toKeep_ev n l s (by omega) h2' k (by omega)
    have e2 := keGood_ev n l s (by omega) k (by omega)
    have e3 := implIsKeep_ev n l s (by omega) k (by omega)
    have e4 := eqKeep_ev n l s (by omega) h2' k (by omega)
    simp only [e1, e2, e3, e4, bindsome]
    simp

end Go.Proofs.Ytomiikbcahocaaa.Pure
