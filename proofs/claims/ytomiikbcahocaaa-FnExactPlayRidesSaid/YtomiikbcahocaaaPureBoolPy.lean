/- What the printed functions on lists of bools come to: sizes, copies, comparisons, a search.
   Conditions: stated with each. -/
import Derived.Test.YtomiikbcahocaaaPureAPy
import Derived.Test.YtomiikbcahocaaaGPyx1
namespace Go.Proofs.Ytomiikbcahocaaa.Pure
open Go.RowKit Go.Proofs.Ytomiikbcahocaaa.G Go.Proofs.YtomiikbcahocaaaW.PrintWords

theorem eqBoolS_l0 (l m : List Bool) (hl : l.length ≤ 1048576) (hm : m.length = l.length) (d : Nat) : ∀ (k i : Nat), l.length - i = d → i ≤ l.length → d < k → l.take i = m.take i → laws_eqBoolS.l0 k l m (i : Int) = some (decide (l = m)) := by
  induction d with
  | zero =>
    intro k i hd hi hk ht
    obtain ⟨k, rfl⟩ : ∃ q, k = q + 1 := ⟨k - 1, by omega⟩
    simp only [laws_eqBoolS.l0]
    rw [if_neg (by omega)]
    have e : i = l.length := by omega
    subst e
    rw [List.take_length, ← hm, List.take_length] at ht
    rw [ht]
    simp
  | succ d ih =>
    intro k i hd hi hk ht
    obtain ⟨k, rfl⟩ : ∃ q, k = q + 1 := ⟨k - 1, by omega⟩
    have hlt : i < l.length := by omega
    simp only [laws_eqBoolS.l0]
    rw [if_pos (by omega), if_pos (by omega), if_pos (by omega), wnat hlt (by omega), rdb l i hlt, rdb m i (by omega)]
    by_cases e : l[i] = m[i]
    · rw [if_neg (by simp [e])]
      refine ih k (i + 1) (by omega) (by omega) (by omega) ?_
      rw [List.take_succ_eq_append_getElem hlt, List.take_succ_eq_append_getElem (by omega), ht, e]
    · rw [if_pos (by simpa using e)]
      have h : l ≠ m := by
        intro h
        subst h
        exact e rfl
      simp [h]
theorem eqBoolS_ev (l m : List Bool) (hl : l.length ≤ 1048576) (k : Nat) (hk : l.length < k) : laws_eqBoolS.f k l m = some (decide (l = m)) := by
  unfold laws_eqBoolS.f
  by_cases h : l.length = m.length
  · rw [if_pos (by omega)]
    exact eqBoolS_l0 l m hl h.symm l.length k 0 rfl (Nat.zero_le _) hk (by simp)
  · rw [if_neg (by omega)]
    have h2 : l ≠ m := by
      intro h2
      subst h2
      exact h rfl
    simp [h2]

end Go.Proofs.Ytomiikbcahocaaa.Pure
