/- The law FnExactIsCalmGroup returns true for all arguments: both functions accept the same lists, and say the same of them, one by bits, one by the list.
   Conditions: the list is no longer than any Go slice. -/
import Derived.Test.YtokfpjebnkfccaaPureIntCg
import Derived.Test.YtokfpjebnkfccaaPureRiseCg
import Derived.Test.YtokfpjebnkfccaaPureCalmCg
import Derived.Test.YtokfpjebnkfccaaPureCuBitsCg
import Derived.Test.YtokfpjebnkfccaaGCgx1
import Derived.Test.YtokfpjebnkfccaaGCgx2
namespace Go.Proofs.Ytokfpjebnkfccaa.Pure
open Go.RowKit Go.Proofs.Ytokfpjebnkfccaa.G Go.Proofs.YtokfpjebnkfccaaW.PrintWords

theorem FnExactIsCalmGroup (n : Int) (l : List Int) (h : l.length ≤ 9223372036854775807) : ∃ k, laws_FnExactIsCalmGroup.f k n l = some true := by
  refine ⟨l.length + 50, ?_⟩
  generalize hk : l.length + 50 = k
  unfold laws_FnExactIsCalmGroup.f
  by_cases c : (l.length : Int) > 1048576
  · rw [if_pos c]
  · rw [if_neg c]
    have e1 := toIntS_ev l (by omega) k (by omega)
    have e2 := eqIntS_ev l l (by omega) k (by omega)
    simp only [e1, e2, bindsome]
    unfold spec_IsCalmGroup.f impl_IsCalmGroup.f
    simp only [l1In_ev, in_ev, bindsome]
    obtain ⟨k, rfl⟩ : ∃ q, k = q + 1 := ⟨k - 1, by omega⟩
    simp only [spec_IsCalmGroup.j0]
    by_cases hn : 1 ≤ n ∧ n ≤ 4
    · have hn' : (decide (1 ≤ n) && decide (n ≤ 4)) = true := by simp [hn]
      rw [hn', if_pos rfl, if_pos rfl]
      rw [wadd (x := 2 * n) (by omega) (by omega), wadd (x := 2 * n - 1) (by omega) (by omega), rising_ev l _ _ (by omega) _ (by omega), bindsome]
      unfold impl_areIn.f
      rw [bindsome, rises_ev l (by omega) _ (by omega)]
      have hr0 : rf l l.length 0 = rf l (l.length - 1) 1 := by
        by_cases h1 : 1 ≤ l.length
        · exact rf_start l h1
        · rw [show l.length = 0 by omega]; rfl
      rw [hr0]
      cases hA : (l.all fun x => decide (0 ≤ x) && decide (x ≤ 2 * n - 1))
      · simp
      · cases hR : rf l (l.length - 1) 1
        · simp
        · have hlen := rising_len l (2 * n - 1) (by omega) hA hR
          have hin : ∀ x ∈ l, 0 ≤ x ∧ x < 2 * n := fun x hx => by
            have h1 := List.all_eq_true.1 hA x hx
            simp only [Bool.and_eq_true, decide_eq_true_eq] at h1
            omega
          obtain ⟨m, rfl⟩ : ∃ m : Nat, n = (m : Int) := ⟨n.toNat, by omega⟩
          obtain ⟨b, e3, hb, hbit⟩ := cuBits_ev l (by omega) (fun x hx => by have := hin x hx; omega) k (by omega)
          have e4 := cuCalm_ev m b (by omega) hb k (by omega)
          have e5 := calm_bits l m b (by omega) hin hbit
          have hl2 : (decide (0 ≤ (l.length : Int)) && (decide ((l.length : Int) ≤ 2 * (m : Int)) && true)) = true := by simp; omega
          simp only [hl2, e3, e4, e5, bindsome]
          simp
    · have hn' : (decide (1 ≤ n) && decide (n ≤ 4)) = false := by
        by_cases h1 : 1 ≤ n
        · simp [h1]; omega
        · simp [h1]
      rw [hn']
      simp

end Go.Proofs.Ytokfpjebnkfccaa.Pure
