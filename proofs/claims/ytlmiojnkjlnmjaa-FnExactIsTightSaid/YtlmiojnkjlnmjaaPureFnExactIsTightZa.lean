/- The law FnExactIsTight returns true for all arguments.
   Conditions: the list is no longer than any Go slice. -/
import Derived.Test.YtlmiojnkjlnmjaaPureSoonerZa
import Derived.Test.YtlmiojnkjlnmjaaGZax7
namespace Go.Proofs.Ytlmiojnkjlnmjaa.Pure
open Go.RowKit Go.Proofs.Ytlmiojnkjlnmjaa.G Go.Proofs.YtlmiojnkjlnmjaaW.PrintWords

theorem bothIsTight (l : List Int) (a : Int) (hl : l.length ≤ 1048576) (k : Nat) (hk : l.length + 400 < k) : ∃ r, spec_IsTight.f k l a = some r ∧ impl_IsTight.f k l a = some r := by
  obtain ⟨k, rfl⟩ : ∃ q, k = q + 1 := ⟨k - 1, by omega⟩
  unfold spec_IsTight.f impl_IsTight.f
  rw [prPerson_ev l a hl (k + 1) (by omega), bindsome, isTimes_ev, bindsome, in_ev, bindsome, wadd (x := (l.length : Int) - 1) (by omega) (by omega)]
  cases h : person l a
  · refine ⟨(false, false), ?_, ?_⟩
    · rw [if_neg (by decide)]
      simp only [spec_IsTight.j0, if_true]
    · unfold person at h
      cases h1 : isTimes l
      · rfl
      · rw [h1, Bool.true_and] at h
        rw [h]
        rfl
  · obtain ⟨h1, h2, h3⟩ := person_out h
    have hd : (decide (0 ≤ a) && decide (a ≤ (l.length : Int) - 1)) = true := by simp; omega
    have hr := impl_cross.rd_mem (isTimes_out h1).2.2 a h2 h3
    rw [if_pos rfl, if_pos h2, if_pos h3, h1, if_pos rfl, hd, if_pos rfl, if_pos h2, if_pos h3]
    by_cases c : rd l a = 1
    · rw [if_pos c, c]
      refine ⟨_, ?_, rfl⟩
      simp only [spec_IsTight.j0, beq_self_eq_true, if_true]
    · have hb : (rd l a == 1) = false := beq_eq_false_iff_ne.mpr c
      obtain ⟨u, t, hu, ht, hv⟩ := twoTimes l a (rd l a - 1) h ⟨by omega, by omega⟩
      obtain ⟨e1, e2, _⟩ := hv k (by omega)
      obtain ⟨_, _, e3⟩ := hv (k + 1) (by omega)
      rw [if_neg c, hb, wadd (x := rd l a - 1) (by omega) (by omega), e3, bindsome]
      refine ⟨_, ?_, rfl⟩
      simp only [spec_IsTight.j0, Bool.false_eq_true, if_false]
      rw [if_pos h2, if_pos h3, wadd (x := rd l a - 1) (by omega) (by omega), e2, bindsome, e1, bindsome]
      congr 2
      exact decide_eq_decide.2 (by omega)
theorem FnExactIsTight (l : List Int) (a : Int) (h : l.length ≤ 9223372036854775807) : ∃ k, laws_FnExactIsTight.f k l a = some true := by
  refine ⟨l.length + 500, ?_⟩
  generalize hk : l.length + 500 = k
  unfold laws_FnExactIsTight.f
  by_cases c : (l.length : Int) > 1048576
  · rw [if_pos c]
  · rw [if_neg c]
    have e1 := toIntS_ev l (by omega) k (by omega)
    obtain ⟨⟨r1, r2⟩, e2, e3⟩ := bothIsTight l a (by omega) k (by omega)
    have e5 := eqIntS_ev l l (by omega) k (by omega)
    simp only [e1, e2, e3, e5, bindsome]
    simp

end Go.Proofs.Ytlmiojnkjlnmjaa.Pure
