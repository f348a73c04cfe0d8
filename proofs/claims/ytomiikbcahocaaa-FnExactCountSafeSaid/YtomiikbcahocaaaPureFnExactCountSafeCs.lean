/- The law FnExactCountSafe returns true for all arguments: both functions count the banks without dangers, each in its own order.
   Conditions: the lists are no longer than any Go slice. -/
import Derived.Test.YtomiikbcahocaaaPureKeepCs
import Derived.Test.YtomiikbcahocaaaPureDangerCs
import Derived.Test.YtomiikbcahocaaaPureCodeCs
import Derived.Test.YtomiikbcahocaaaGCsx7
namespace Go.Proofs.Ytomiikbcahocaaa.Pure
open Go.RowKit Go.Proofs.Ytomiikbcahocaaa.G Go.Proofs.YtomiikbcahocaaaW.PrintWords

theorem FnExactCountSafe (n : Int) (l : List (List Int)) (s : Int) (h : l.length ≤ 9223372036854775807 ∧ ∀ x ∈ l, x.length ≤ 9223372036854775807) : ∃ k, laws_FnExactCountSafe.f k n l s = some true := by
  refine ⟨l.length * 2 + 1048576 + 1000, ?_⟩
  generalize hk : l.length * 2 + 1048576 + 1000 = k
  unfold laws_FnExactCountSafe.f
  obtain ⟨r, e0, hr1, hr⟩ := szKeep_ev n l s 1048576 h.1 h.2 (by omega) (by omega) k (by omega)
  rw [e0, bindsome]
  by_cases c : r < 0
  · rw [if_pos c]
  · rw [if_neg c]
    obtain ⟨h1, h2⟩ := hr (by omega)
    have h2' : ∀ x ∈ l, x.length ≤ 1048576 := fun x hx => by have := h2 x hx; omega
    have e1 := toKeep_ev n l s (by omega) h2' k (by omega)
    have e2 := keGood_ev n l s (by omega) k (by omega)
    have e3 := implIsKeep_ev n l s (by omega) k (by omega)
    have e4 := eqKeep_ev n l s (by omega) h2' k (by omega)
    unfold spec_CountSafe.f impl_CountSafe.f
    simp only [e1, e2, e3, e4, bindsome]
    cases hK : isKeep n l s
    · simp
    · obtain ⟨⟨n0, n8⟩, _, hg⟩ := isKeep_out hK
      obtain ⟨m, rfl⟩ : ∃ m : Nat, n = (m : Int) := ⟨n.toNat, by omega⟩
      have hp : 2 ^ (m + 1) ≤ 512 := by
        have h : ∀ m, m < 9 → 2 ^ (m + 1) ≤ 512 := by decide +kernel
        exact h m (by omega)
      have e5 := countSpec_l0 m (by omega) l s (by omega) hg (2 ^ (m + 1)) k 0 0 rfl (Nat.zero_le _) (by omega) (Nat.le_refl _)
      have e6 := countImpl_l0 m (by omega) l s (by omega) hg (2 ^ (m + 1)) k 0 0 rfl (Nat.zero_le _) (by omega) (Nat.le_refl _)
      rw [← List.range_eq_range', show ((0 : Nat) : Int) = 0 from rfl] at e5 e6
      rw [count_same m (by omega)] at e5
      rw [shl_n m (by omega)]
      simp only [e5, e6, bindsome, if_true, n0]
      simp

end Go.Proofs.Ytomiikbcahocaaa.Pure
