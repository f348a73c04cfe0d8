/- The law FnExactEscortPlan returns true for all arguments: both functions tell the trips, in memory of its own, or nothing; the copies stay.
   Conditions: the list is no longer than any Go slice. -/
import Derived.Test.YtlmiojnkjlnmjaaPureTripsZb
import Derived.Test.YtlmiojnkjlnmjaaPureRowsMarkZb
import Derived.Test.YtlmiojnkjlnmjaaGZbx5
import Derived.Test.YtlmiojnkjlnmjaaGZbx6
namespace Go.Proofs.Ytlmiojnkjlnmjaa.Pure
open Go.RowKit Go.Proofs.Ytlmiojnkjlnmjaa.G Go.Proofs.YtlmiojnkjlnmjaaW.PrintWords

theorem bothEscortPlan (l : List Int) (hl : l.length ≤ 1048576) : ∃ r : List (List Int) × Bool, (r.1.length ≤ 24 ∧ ∀ t ∈ r.1, t.length ≤ 2) ∧ ∀ k, l.length + 400 < k → spec_EscortPlan.f k l = some r ∧ impl_EscortPlan.f k l = some r := by
  cases h : isTimes l
  · refine ⟨([], false), ⟨by simp, fun t ht => absurd ht (by simp)⟩, fun k hk => ?_⟩
    unfold spec_EscortPlan.f impl_EscortPlan.f
    rw [prGood_ev l hl k (by omega), bindsome, isTimes_ev, bindsome, h]
    exact ⟨rfl, rfl⟩
  · obtain ⟨r, h1, h2, h3, _, h5, _⟩ := trips l true h
    refine ⟨(r.1, true), ⟨h3, fun t ht => (h5 t ht).2.1⟩, fun k hk => ?_⟩
    unfold spec_EscortPlan.f impl_EscortPlan.f
    rw [prGood_ev l hl k (by omega), bindsome, isTimes_ev, bindsome, h, if_pos rfl, if_pos rfl, h1 k (by omega), h2 k (by omega)]
    exact ⟨rfl, rfl⟩
theorem FnExactEscortPlan (l : List Int) (h : l.length ≤ 9223372036854775807) : ∃ k, laws_FnExactEscortPlan.f k l = some true := by
  refine ⟨l.length + 1049100, ?_⟩
  generalize hk : l.length + 1049100 = k
  unfold laws_FnExactEscortPlan.f
  by_cases c : (l.length : Int) > 1048576
  · rw [if_pos c]
  · rw [if_neg c]
    have e1 := toIntS_ev l (by omega) k (by omega)
    obtain ⟨⟨r1, r2⟩, ⟨hr, hr2⟩, hb⟩ := bothEscortPlan l (by omega)
    obtain ⟨e2, e3⟩ := hb k (by omega)
    simp only at hr hr2
    have hr3 : ∀ x ∈ r1, x.length ≤ 1048576 := fun x hx => by have := hr2 x hx; omega
    have hs := sumL_le r1 hr3
    have e4 := eqIntSS_ev r1 r1 (by omega) hr3 k (by omega)
    have e5 := eqIntS_ev l l (by omega) k (by omega)
    have e6 := markIntS_ev l 1 (by omega) (by omega) k (by omega)
    have e7 := markIntSS_ev r1 1 (by omega) hr3 (by omega) (by omega) k (by omega)
    have e8 := heldIntSS_ev r1 1 (by omega) hr3 (by omega) (by omega) k (by omega)
    have n1 : ¬ (1 + (l.length : Int) < 0) := by omega
    have n2 : ¬ (1 + (sumL r1 : Int) < 0) := by omega
    simp only [e1, e2, e3, e4, e5, e6, e7, e8, bindsome, n1, n2, if_false]
    simp

end Go.Proofs.Ytlmiojnkjlnmjaa.Pure
