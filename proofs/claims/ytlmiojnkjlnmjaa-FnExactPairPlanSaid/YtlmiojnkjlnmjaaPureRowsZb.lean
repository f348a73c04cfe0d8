/- What the printed functions on lists of lists of ints come to: sizes, copies, comparisons.
   Conditions: stated with each. -/
import Derived.Test.YtlmiojnkjlnmjaaPureIntZb
import Derived.Test.YtlmiojnkjlnmjaaGZbx5
namespace Go.Proofs.Ytlmiojnkjlnmjaa.Pure
open Go.RowKit Go.Proofs.Ytlmiojnkjlnmjaa.G Go.Proofs.YtlmiojnkjlnmjaaW.PrintWords

theorem rdll (l : List (List Int)) (i : Nat) (h : i < l.length) : rd_L1 l (i : Int) = l[i] := by
  simp [rd_L1, List.getD_eq_getElem?_getD, h]
theorem eqIntSS_l0 (l m : List (List Int)) (hl : l.length ≤ 1048576) (hb : ∀ x ∈ l, x.length ≤ 1048576) (hm : m.length = l.length) (d : Nat) : ∀ (k i : Nat), l.length - i = d → i ≤ l.length → d + 1048576 < k → l.take i = m.take i → laws_eqIntSS.l0 k l m (i : Int) = some (decide (l = m)) := by
  induction d with
  | zero =>
    intro k i hd hi hk ht
    obtain ⟨k, rfl⟩ : ∃ q, k = q + 1 := ⟨k - 1, by omega⟩
    simp only [laws_eqIntSS.l0]
    rw [if_neg (by omega)]
    have e : i = l.length := by omega
    subst e
    rw [List.take_length, ← hm, List.take_length] at ht
    rw [ht]
    simp
  | succ d ih =>
    intro k i hd hi hk ht
    obtain ⟨k, rfl⟩ : ∃ q, k = q + 1 := ⟨k - 1, by omega⟩
    have hlt : i < l.length := by omega
    have hx := hb _ (List.getElem_mem hlt)
    simp only [laws_eqIntSS.l0]
    rw [if_pos (by omega), if_pos (by omega), if_pos (by omega), wnat hlt (by omega), rdll l i hlt, rdll m i (by omega), eqIntS_ev _ _ hx k (by omega), bindsome]
    by_cases e : l[i] = m[i]
    · rw [if_pos (by simpa using e)]
      refine ih k (i + 1) (by omega) (by omega) (by omega) ?_
      rw [List.take_succ_eq_append_getElem hlt, List.take_succ_eq_append_getElem (by omega), ht, e]
    · rw [if_neg (by simpa using e)]
      have h : l ≠ m := by
        intro h
        subst h
        exact e rfl
      simp [h]
theorem eqIntSS_ev (l m : List (List Int)) (hl : l.length ≤ 1048576) (hb : ∀ x ∈ l, x.length ≤ 1048576) (k : Nat) (hk : l.length + 1048576 < k) : laws_eqIntSS.f k l m = some (decide (l = m)) := by
  unfold laws_eqIntSS.f
  by_cases h : l.length = m.length
  · rw [if_pos (by omega)]
    exact eqIntSS_l0 l m hl hb h.symm l.length k 0 rfl (Nat.zero_le _) hk (by simp)
  · rw [if_neg (by omega)]
    have h2 : l ≠ m := by
      intro h2
      subst h2
      exact h rfl
    simp [h2]

end Go.Proofs.Ytlmiojnkjlnmjaa.Pure
