/- The law FnExactPairGain returns true for all arguments.
   Conditions: the list is no longer than any Go slice. -/
import Derived.Test.YtlmiojnkjlnmjaaPureTripsTimeZa
import Derived.Test.YtlmiojnkjlnmjaaGZax6
import Derived.Test.YtlmiojnkjlnmjaaGZax7
namespace Go.Proofs.Ytlmiojnkjlnmjaa.Pure
open Go.RowKit Go.Proofs.Ytlmiojnkjlnmjaa.G Go.Proofs.YtlmiojnkjlnmjaaW.PrintWords

theorem bothPairGain (l : List Int) (hl : l.length ≤ 1048576) (k : Nat) (hk : l.length + 400 < k) : ∃ r, spec_PairGain.f k l = some r ∧ impl_PairGain.f k l = some r := by
  unfold spec_PairGain.f impl_PairGain.f
  rw [prGood_ev l hl k (by omega), bindsome, isTimes_ev, bindsome]
  cases h : isTimes l
  · exact ⟨_, rfl, rfl⟩
  · rw [if_pos rfl, if_pos rfl]
    obtain ⟨r, h1, h2, h3, _, h5, _⟩ := trips l true h
    obtain ⟨v, _, hv⟩ := timeBoth l h
    unfold impl_escortTime.f
    rw [h1 k (by omega), h2 k (by omega), bindsome, bindsome, prSum_ev l r.1 (by omega) h5 k (by omega), crossing_ev l r.1 r.2.1 r.2.2 (by omega) h5 k (by omega), (hv k (by omega)).1, (hv k (by omega)).2]
    exact ⟨_, rfl, rfl⟩
theorem FnExactPairGain (l : List Int) (h : l.length ≤ 9223372036854775807) : ∃ k, laws_FnExactPairGain.f k l = some true := by
  refine ⟨l.length + 500, ?_⟩
  generalize hk : l.length + 500 = k
  unfold laws_FnExactPairGain.f
  by_cases c : (l.length : Int) > 1048576
  · rw [if_pos c]
  · rw [if_neg c]
    have e1 := toIntS_ev l (by omega) k (by omega)
    obtain ⟨⟨r1, r2⟩, e2, e3⟩ := bothPairGain l (by omega) k (by omega)
    have e5 := eqIntS_ev l l (by omega) k (by omega)
    simp only [e1, e2, e3, e5, bindsome]
    simp

end Go.Proofs.Ytlmiojnkjlnmjaa.Pure
