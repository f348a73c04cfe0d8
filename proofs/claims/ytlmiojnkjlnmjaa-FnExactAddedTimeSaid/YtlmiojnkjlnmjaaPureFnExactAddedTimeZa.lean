/- The law FnExactAddedTime returns true for all arguments.
   Conditions: the list is no longer than any Go slice. -/
import Derived.Test.YtlmiojnkjlnmjaaPureTripsTimeZa
import Derived.Test.YtlmiojnkjlnmjaaGZax6
import Derived.Test.YtlmiojnkjlnmjaaGZax4
namespace Go.Proofs.Ytlmiojnkjlnmjaa.Pure
open Go.RowKit Go.Proofs.Ytlmiojnkjlnmjaa.G Go.Proofs.YtlmiojnkjlnmjaaW.PrintWords

theorem isTimes_in {l : List Int} (h1 : 1 ≤ l.length) (h2 : l.length ≤ 12) (h3 : ∀ x ∈ l, 1 ≤ x ∧ x ≤ 1000) : isTimes l = true := by
  unfold isTimes
  rw [Bool.and_eq_true, decide_eq_true_eq, List.all_eq_true]
  exact ⟨⟨h1, h2⟩, fun x hx => by have := h3 x hx; simp; omega⟩
theorem bothAddedTime (l : List Int) (a : Int) (hl : l.length ≤ 1048576) (k : Nat) (hk : l.length + 400 < k) : ∃ r, spec_AddedTime.f k l a = some r ∧ impl_AddedTime.f k l a = some r := by
  obtain ⟨k, rfl⟩ : ∃ q, k = q + 1 := ⟨k - 1, by omega⟩
  have hc : slices_Clone_int_int.f l = some l := by
    unfold slices_Clone_int_int.f
    rw [if_pos (by omega)]
  have ho : spec_l1Own.f l = some l := by
    unfold spec_l1Own.f
    rw [bindsome, if_pos (by simp; omega), List.nil_append]
  have hlt : (l.length < 17592186044416) = True := eq_true (by omega)
  have hi : impl_AddedTime.f (k + 1) l a = (if isTimes l = true then impl_AddedTime.j0 (k + 1) l (l ++ [a]) (!isTimes (l ++ [a])) else impl_AddedTime.j0 (k + 1) l (l ++ [a]) true) := by
    unfold impl_AddedTime.f
    simp only [hc, bindsome, isTimes_ev, hlt, if_true]
  rw [hi]
  unfold spec_AddedTime.f
  rw [prGood_ev l hl (k + 1) (by omega), bindsome]
  cases h : isTimes l
  · rw [if_neg (by decide), if_neg (by decide)]
    simp only [spec_AddedTime.j0, impl_AddedTime.j0, if_true]
    exact ⟨_, rfl, rfl⟩
  · rw [if_pos rfl, if_pos rfl]
    obtain ⟨h1, h2, h3⟩ := isTimes_out h
    by_cases c : l.length = 12
    · have hn : isTimes (l ++ [a]) = false := by
        cases e : isTimes (l ++ [a])
        · rfl
        · have := (isTimes_out e).2.1
          rw [List.length_append, List.length_singleton] at this
          omega
      rw [if_pos (by omega), hn]
      simp only [spec_AddedTime.j0, impl_AddedTime.j0, Bool.not_false, if_true]
      exact ⟨_, rfl, rfl⟩
    · rw [if_neg (by omega), l1In_ev, bindsome]
      by_cases ca : 1 ≤ a ∧ a ≤ 1000
      · have hy : isTimes (l ++ [a]) = true := isTimes_in (by simp) (by simp; omega) (fun x hx => by
          rcases List.mem_append.1 hx with e | e
          · exact h3 x e
          · rw [List.mem_singleton.1 e]; exact ca)
        have hd : (decide (1 ≤ a) && decide (a ≤ 1000)) = true := by simp; omega
        obtain ⟨v, _, hv⟩ := timeBoth l h
        obtain ⟨u, _, hu⟩ := timeBoth (l ++ [a]) hy
        rw [hy]
        simp only [spec_AddedTime.j0, impl_AddedTime.j0, hd, Bool.not_true, Bool.false_eq_true, if_false]
        rw [ho, bindsome, if_pos (by omega), (hu k (by omega)).1, (hu k (by omega)).2, bindsome, bindsome, (hv k (by omega)).1, (hv k (by omega)).2]
        exact ⟨_, rfl, rfl⟩
      · have hn : isTimes (l ++ [a]) = false := by
          cases e : isTimes (l ++ [a])
          · rfl
          · exact absurd ((isTimes_out e).2.2 a (by simp)) ca
        have hd : (decide (1 ≤ a) && decide (a ≤ 1000)) = false := by
          rw [← Bool.not_eq_true]
          simp
          omega
        rw [hn]
        simp only [spec_AddedTime.j0, impl_AddedTime.j0, hd, Bool.not_false, if_true]
        exact ⟨_, rfl, rfl⟩
theorem FnExactAddedTime (l : List Int) (a : Int) (h : l.length ≤ 9223372036854775807) : ∃ k, laws_FnExactAddedTime.f k l a = some true := by
  refine ⟨l.length + 500, ?_⟩
  generalize hk : l.length + 500 = k
  unfold laws_FnExactAddedTime.f
  by_cases c : (l.length : Int) > 1048576
  · rw [if_pos c]
  · rw [if_neg c]
    have e1 := toIntS_ev l (by omega) k (by omega)
    obtain ⟨⟨r1, r2⟩, e2, e3⟩ := bothAddedTime l a (by omega) k (by omega)
    have e5 := eqIntS_ev l l (by omega) k (by omega)
    simp only [e1, e2, e3, e5, bindsome]
    simp

end Go.Proofs.Ytlmiojnkjlnmjaa.Pure
