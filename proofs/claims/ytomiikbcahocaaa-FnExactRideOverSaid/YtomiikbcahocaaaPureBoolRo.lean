/- What the printed functions on lists of bools come to: sizes, copies, comparisons, a search.
   Conditions: stated with each. -/
import Derived.Test.YtomiikbcahocaaaPureARo
import Derived.Test.YtomiikbcahocaaaGRox1
import Derived.Test.YtomiikbcahocaaaGRox2
namespace Go.Proofs.Ytomiikbcahocaaa.Pure
open Go.RowKit Go.Proofs.Ytomiikbcahocaaa.G Go.Proofs.YtomiikbcahocaaaW.PrintWords

theorem szBoolS_ev (l : List Bool) (a : Int) (h : l.length ≤ 9223372036854775807) (h0 : 0 ≤ a) (h1 : a ≤ 1048576) : laws_szBoolS.f l a = some (if a < l.length then -1 else a - l.length) := by
  unfold laws_szBoolS.f
  rw [wadd (x := a - (l.length : Int)) (by omega) (by omega)]
  by_cases c : a < l.length
  · rw [if_pos (by omega), if_pos c]
  · rw [if_neg (by omega), if_neg c]
theorem toBoolS_l0 (l : List Bool) (hl : l.length ≤ 1048576) (d : Nat) : ∀ (k i : Nat) (m : List Bool), l.length - i = d → i ≤ l.length → d < k → m.length = l.length → m.take i = l.take i → laws_toBoolS.l0 k l m (i : Int) = some l := by
  induction d with
  | zero =>
    intro k i m hd hi hk hm ht
    obtain ⟨k, rfl⟩ : ∃ q, k = q + 1 := ⟨k - 1, by omega⟩
    simp only [laws_toBoolS.l0]
    rw [if_neg (by omega)]
    have e : i = l.length := by omega
    subst e
    rw [← hm, List.take_length, hm, List.take_length] at ht
    rw [ht]
  | succ d ih =>
    intro k i m hd hi hk hm ht
    obtain ⟨k, rfl⟩ : ∃ q, k = q + 1 := ⟨k - 1, by omega⟩
    have hlt : i < l.length := by omega
    simp only [laws_toBoolS.l0]
    rw [if_pos (by omega), if_pos (by omega), if_pos (by omega), wnat hlt (by omega), rdb l i hlt, Int.toNat_natCast]
    exact ih k (i + 1) _ (by omega) (by omega) (by omega) (by rw [List.length_set]; exact hm) (take_set l m i hm hlt ht)
theorem toBoolS_ev (l : List Bool) (hl : l.length ≤ 1048576) (k : Nat) (hk : l.length < k) : laws_toBoolS.f k l = some l := by
  unfold laws_toBoolS.f
  rw [if_pos (by omega), if_pos (by omega)]
  exact toBoolS_l0 l hl l.length k 0 _ rfl (Nat.zero_le _) hk (by simp) (by simp)
theorem eqBoolS_l0 (l m : List Bool) (hl : l.length ≤ 1048576) (hm : m.length = l.length) (d : Nat) : ∀ (k i : Nat), l.length - i = d → i ≤ l.length → d < k → l.take i = m.take i → laws_eqBoolS.l0 k l m (i : Int) = some (decide (l = m)) := by
  induction d with
  | zero =>
    intro k i hd hi hk ht
    obtain ⟨k, rfl⟩ : ∃ q, k = q + 1 := ⟨k - 1, by omega⟩
    simp only [laws_eqBoolS.l0]
    rw [if_neg (by omega)]
    have e : i = l.length := by omega
    subst e
    rw [List.take_length, ← hm, List.take_length] at ht
    rw [ht]
    simp
  | succ d ih =>
    intro k i hd hi hk ht
    obtain ⟨k, rfl⟩ : ∃ q, k = q + 1 := ⟨k - 1, by omega⟩
    have hlt : i < l.length := by omega
    simp only [laws_eqBoolS.l0]
    rw [if_pos (by omega), if_pos (by omega), if_pos (by omega), wnat hlt (by omega), rdb l i hlt, rdb m i (by omega)]
    by_cases e : l[i] = m[i]
    · rw [if_neg (by simp [e])]
      refine ih k (i + 1) (by omega) (by omega) (by omega) ?_
      rw [List.take_succ_eq_append_getElem hlt, List.take_succ_eq_append_getElem (by omega), ht, e]
    · rw [if_pos (by simpa using e)]
      have h : l ≠ m := by
        intro h
        subst h
        exact e rfl
      simp [h]
theorem eqBoolS_ev (l m : List Bool) (hl : l.length ≤ 1048576) (k : Nat) (hk : l.length < k) : laws_eqBoolS.f k l m = some (decide (l = m)) := by
  unfold laws_eqBoolS.f
  by_cases h : l.length = m.length
  · rw [if_pos (by omega)]
    exact eqBoolS_l0 l m hl h.symm l.length k 0 rfl (Nat.zero_le _) hk (by simp)
  · rw [if_neg (by omega)]
    have h2 : l ≠ m := by
      intro h2
      subst h2
      exact h rfl
    simp [h2]

end Go.Proofs.Ytomiikbcahocaaa.Pure
