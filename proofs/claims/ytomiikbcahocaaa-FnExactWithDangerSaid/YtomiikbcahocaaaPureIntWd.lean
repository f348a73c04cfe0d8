/- What the printed functions on lists of ints come to: sizes, copies, comparisons, bounds.
   Conditions: stated with each: lengths, and more rounds than the list is long. -/
import Derived.Test.YtomiikbcahocaaaPureAWd
import Derived.Test.YtomiikbcahocaaaGWdx1
import Derived.Test.YtomiikbcahocaaaGWdx2
import Derived.Test.YtomiikbcahocaaaGWdx3
import Derived.Test.YtomiikbcahocaaaGWdx4
namespace Go.Proofs.Ytomiikbcahocaaa.Pure
open Go.RowKit Go.Proofs.Ytomiikbcahocaaa.G Go.Proofs.YtomiikbcahocaaaW.PrintWords

theorem szIntS_ev (l : List Int) (a : Int) (h : l.length ≤ 9223372036854775807) (h0 : 0 ≤ a) (h1 : a ≤ 1048576) : laws_szIntS.f l a = some (if a < l.length then -1 else a - l.length) := by
  unfold laws_szIntS.f
  rw [wadd (x := a - (l.length : Int)) (by omega) (by omega)]
  by_cases c : a < l.length
  · rw [if_pos (by omega), if_pos c]
  · rw [if_neg (by omega), if_neg c]
theorem toIntS_l0 (l : List Int) (hl : l.length ≤ 1048576) (d : Nat) : ∀ (k i : Nat) (m : List Int), l.length - i = d → i ≤ l.length → d < k → m.length = l.length → m.take i = l.take i → laws_toIntS.l0 k l m (i : Int) = some l := by
  induction d with
  | zero =>
    intro k i m hd hi hk hm ht
    obtain ⟨k, rfl⟩ : ∃ q, k = q + 1 := ⟨k - 1, by omega⟩
    simp only [laws_toIntS.l0]
    rw [if_neg (by omega)]
    have e : i = l.length := by omega
    subst e
    rw [← hm, List.take_length, hm, List.take_length] at ht
    rw [ht]
  | succ d ih =>
    intro k i m hd hi hk hm ht
    obtain ⟨k, rfl⟩ : ∃ q, k = q + 1 := ⟨k - 1, by omega⟩
    have hlt : i < l.length := by omega
    simp only [laws_toIntS.l0]
    rw [if_pos (by omega), if_pos (by omega), if_pos (by omega), wnat hlt (by omega), rdn l i hlt, Int.toNat_natCast]
    exact ih k (i + 1) _ (by omega) (by omega) (by omega) (by rw [List.length_set]; exact hm) (take_set l m i hm hlt ht)
theorem toIntS_ev (l : List Int) (hl : l.length ≤ 1048576) (k : Nat) (hk : l.length < k) : laws_toIntS.f k l = some l := by
  unfold laws_toIntS.f
  rw [if_pos (by omega), if_pos (by omega)]
  exact toIntS_l0 l hl l.length k 0 _ rfl (Nat.zero_le _) hk (by simp) (by simp)
theorem eqIntS_l0 (l m : List Int) (hl : l.length ≤ 1048576) (hm : m.length = l.length) (d : Nat) : ∀ (k i : Nat), l.length - i = d → i ≤ l.length → d < k → l.take i = m.take i → laws_eqIntS.l0 k l m (i : Int) = some (decide (l = m)) := by
  induction d with
  | zero =>
    intro k i hd hi hk ht
    obtain ⟨k, rfl⟩ : ∃ q, k = q + 1 := ⟨k - 1, by omega⟩
    simp only [laws_eqIntS.l0]
    rw [if_neg (by omega)]
    have e : i = l.length := by omega
    subst e
    rw [List.take_length, ← hm, List.take_length] at ht
    rw [ht]
    simp
  | succ d ih =>
    intro k i hd hi hk ht
    obtain ⟨k, rfl⟩ : ∃ q, k = q + 1 := ⟨k - 1, by omega⟩
    have hlt : i < l.length := by omega
    simp only [laws_eqIntS.l0]
    rw [if_pos (by omega), if_pos (by omega), if_pos (by omega), wnat hlt (by omega), rdn l i hlt, rdn m i (by omega)]
    by_cases e : l[i] = m[i]
    · rw [if_pos e]
      refine ih k (i + 1) (by omega) (by omega) (by omega) ?_
      rw [List.take_succ_eq_append_getElem hlt, List.take_succ_eq_append_getElem (by omega), ht, e]
    · rw [if_neg e]
      have h : l ≠ m := by
        intro h
        subst h
        exact e rfl
      simp [h]
theorem eqIntS_ev (l m : List Int) (hl : l.length ≤ 1048576) (k : Nat) (hk : l.length < k) : laws_eqIntS.f k l m = some (decide (l = m)) := by
  unfold laws_eqIntS.f
  by_cases h : l.length = m.length
  · rw [if_pos (by omega)]
    exact eqIntS_l0 l m hl h.symm l.length k 0 rfl (Nat.zero_le _) hk (by simp)
  · rw [if_neg (by omega)]
    have h2 : l ≠ m := by
      intro h2
      subst h2
      exact h rfl
    simp [h2]
theorem l1In_ev (a b c : Int) : spec_l1In.f a b c = some (decide (b ≤ a) && decide (a ≤ c)) := by
  unfold spec_l1In.f
  by_cases h : b ≤ a <;> simp [h]
theorem in_ev (a b c : Int) : impl_in.f a b c = some (decide (b ≤ a) && decide (a ≤ c)) := by
  unfold impl_in.f
  by_cases h : b ≤ a <;> simp [h]

end Go.Proofs.Ytomiikbcahocaaa.Pure
