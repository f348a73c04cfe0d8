/- What the printed functions on lists of ints come to: sizes, copies, comparisons, bounds.
   Conditions: stated with each: lengths, and more rounds than the list is long. -/
import Derived.Test.YtlmiojnkjlnmjaaPureACl
import Derived.Test.YtlmiojnkjlnmjaaGClx6
import Derived.Test.YtlmiojnkjlnmjaaGClx4
import Derived.Test.YtlmiojnkjlnmjaaGClx1
namespace Go.Proofs.Ytlmiojnkjlnmjaa.Pure
open Go.RowKit Go.Proofs.Ytlmiojnkjlnmjaa.G Go.Proofs.YtlmiojnkjlnmjaaW.PrintWords

theorem eqIntS_l0 (l m : List Int) (hl : l.length ≤ 1048576) (hm : m.length = l.length) (d : Nat) : ∀ (k i : Nat), l.length - i = d → i ≤ l.length → d < k → l.take i = m.take i → laws_eqIntS.l0 k l m (i : Int) = some (decide (l = m)) := by
  induction d with
  | zero =>
    intro k i hd hi hk ht
    obtain ⟨k, rfl⟩ : ∃ q, k = q + 1 := ⟨k - 1, by omega⟩
    simp only [laws_eqIntS.l0]
    rw [if_neg (by omega)]
    have e : i = l.length := by omega
    subst e
    rw [List.take_length, ← hm, List.take_length] at ht
    rw [ht]
    simp
  | succ d ih =>
    intro k i hd hi hk ht
    obtain ⟨k, rfl⟩ : ∃ q, k = q + 1 := ⟨k - 1, by omega⟩
    have hlt : i < l.length := by omega
    simp only [laws_eqIntS.l0]
    rw [if_pos (by omega), if_pos (by omega), if_pos (by omega), wnat hlt (by omega), rdn l i hlt, rdn m i (by omega)]
    by_cases e : l[i] = m[i]
    · rw [if_pos e]
      refine ih k (i + 1) (by omega) (by omega) (by omega) ?_
      rw [List.take_succ_eq_append_getElem hlt, List.take_succ_eq_append_getElem (by omega), ht, e]
    · rw [if_neg e]
      have h : l ≠ m := by
        intro h
        subst h
        exact e rfl
      simp [h]
theorem eqIntS_ev (l m : List Int) (hl : l.length ≤ 1048576) (k : Nat) (hk : l.length < k) : laws_eqIntS.f k l m = some (decide (l = m)) := by
  unfold laws_eqIntS.f
  by_cases h : l.length = m.length
  · rw [if_pos (by omega)]
    exact eqIntS_l0 l m hl h.symm l.length k 0 rfl (Nat.zero_le _) hk (by simp)
  · rw [if_neg (by omega)]
    have h2 : l ≠ m := by
      intro h2
      subst h2
      exact h rfl
    simp [h2]
theorem l1In_ev (a b c : Int) : spec_l1In.f a b c = some (decide (b ≤ a) && decide (a ≤ c)) := by
  unfold spec_l1In.f
  by_cases h : b ≤ a <;> simp [h]
theorem in_ev (a b c : Int) : impl_in.f a b c = some (decide (b ≤ a) && decide (a ≤ c)) := by
  unfold impl_in.f
  by_cases h : b ≤ a <;> simp [h]

end Go.Proofs.Ytlmiojnkjlnmjaa.Pure
