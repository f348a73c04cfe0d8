/- The law FnExactEscortTime returns true for all arguments.
   Conditions: the list is no longer than any Go slice. -/
import Derived.Test.YtlmiojnkjlnmjaaPureTripsTimeZa
import Derived.Test.YtlmiojnkjlnmjaaGZax6
namespace Go.Proofs.Ytlmiojnkjlnmjaa.Pure
open Go.RowKit Go.Proofs.Ytlmiojnkjlnmjaa.G Go.Proofs.YtlmiojnkjlnmjaaW.PrintWords

theorem bothEscortTime (l : List Int) (hl : l.length ≤ 1048576) (k : Nat) (hk : l.length + 400 < k) : ∃ r, spec_EscortTime.f k l = some r ∧ impl_EscortTime.f k l = some r := by
  unfold spec_EscortTime.f impl_EscortTime.f
  rw [prGood_ev l hl k (by omega), bindsome, isTimes_ev, bindsome]
  cases h : isTimes l
  · exact ⟨_, rfl, rfl⟩
  · rw [if_pos rfl, if_pos rfl]
    obtain ⟨r, h1, h2, h3, _, h5, _⟩ := trips l true h
    unfold impl_escortTime.f
    rw [h1 k (by omega), h2 k (by omega), bindsome, bindsome, prSum_ev l r.1 (by omega) h5 k (by omega), crossing_ev l r.1 r.2.1 r.2.2 (by omega) h5 k (by omega)]
    exact ⟨_, rfl, rfl⟩
theorem FnExactEscortTime (l : List Int) (h : l.length ≤ 9223372036854775807) : ∃ k, laws_FnExactEscortTime.f k l = some true := by
  refine ⟨l.length + 500, ?_⟩
  generalize hk : l.length + 500 = k
  unfold laws_FnExactEscortTime.f
  by_cases c : (l.length : Int) > 1048576
  · rw [if_pos c]
  · rw [if_neg c]
    have e1 := toIntS_ev l (by omega) k (by omega)
    obtain ⟨⟨r1, r2⟩, e2, e3⟩ := bothEscortTime l (by omega) k (by omega)
    have e5 := eqIntS_ev l l (by omega) k (by omega)
    simp only [e1, e2, e3, e5, bindsome]
    simp

end Go.Proofs.Ytlmiojnkjlnmjaa.Pure
