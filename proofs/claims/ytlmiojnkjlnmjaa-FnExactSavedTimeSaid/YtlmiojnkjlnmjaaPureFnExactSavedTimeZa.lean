/- The law FnExactSavedTime returns true for all arguments.
   Conditions: the list is no longer than any Go slice. -/
import Derived.Test.YtlmiojnkjlnmjaaPureSoonerZa
import Derived.Test.YtlmiojnkjlnmjaaGZax8
namespace Go.Proofs.Ytlmiojnkjlnmjaa.Pure
open Go.RowKit Go.Proofs.Ytlmiojnkjlnmjaa.G Go.Proofs.YtlmiojnkjlnmjaaW.PrintWords

theorem bothSavedTime (l : List Int) (a : Int) (hl : l.length ≤ 1048576) (k : Nat) (hk : l.length + 400 < k) : ∃ r, spec_SavedTime.f k l a = some r ∧ impl_SavedTime.f k l a = some r := by
  unfold spec_SavedTime.f impl_SavedTime.f
  rw [prPerson_ev l a hl k (by omega), bindsome, isTimes_ev, bindsome, in_ev, bindsome, wadd (by omega) (by omega)]
  cases h : person l a
  · refine ⟨(0, false), rfl, ?_⟩
    unfold person at h
    cases h1 : isTimes l
    · rfl
    · rw [h1, Bool.true_and] at h
      rw [h]
      rfl
  · obtain ⟨h1, h2, h3⟩ := person_out h
    obtain ⟨u, t, hu, ht, hv⟩ := twoTimes l a 1 h ⟨by omega, by omega⟩
    obtain ⟨e1, e2, e3⟩ := hv k (by omega)
    have hd : (decide (0 ≤ a) && decide (a ≤ (l.length : Int) - 1)) = true := by simp; omega
    rw [if_pos rfl, h1, if_pos rfl, hd, if_pos rfl, e1, e2, e3, bindsome, bindsome, bindsome, wadd (by omega) (by omega)]
    exact ⟨_, rfl, rfl⟩
theorem FnExactSavedTime (l : List Int) (a : Int) (h : l.length ≤ 9223372036854775807) : ∃ k, laws_FnExactSavedTime.f k l a = some true := by
  refine ⟨l.length + 500, ?_⟩
  generalize hk : l.length + 500 = k
  unfold laws_FnExactSavedTime.f
  by_cases c : (l.length : Int) > 1048576
  · rw [if_pos c]
  · rw [if_neg c]
    have e1 := toIntS_ev l (by omega) k (by omega)
    obtain ⟨⟨r1, r2⟩, e2, e3⟩ := bothSavedTime l a (by omega) k (by omega)
    have e5 := eqIntS_ev l l (by omega) k (by omega)
    simp only [e1, e2, e3, e5, bindsome]
    simp

end Go.Proofs.Ytlmiojnkjlnmjaa.Pure
