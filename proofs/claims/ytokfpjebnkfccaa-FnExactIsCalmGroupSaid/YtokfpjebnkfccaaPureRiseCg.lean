/- What the printed functions that ask whether a list rises come to.
   Conditions: stated with each. -/
import Derived.Test.YtokfpjebnkfccaaPureIntCg
import Derived.Test.YtokfpjebnkfccaaGCgx1
namespace Go.Proofs.Ytokfpjebnkfccaa.Pure
open Go.RowKit Go.Proofs.Ytokfpjebnkfccaa.G Go.Proofs.YtokfpjebnkfccaaW.PrintWords

/-- From index i on, d more of them: each number is greater than the one before. -/
def rf (l : List Int) : Nat → Nat → Bool
  | 0, _ => true
  | d + 1, i => (decide (i = 0) || decide (rd l ((i : Int) - 1) < rd l (i : Int))) && rf l d (i + 1)
theorem wsub {i : Nat} (h : 0 < i) (h2 : i ≤ 1048576) : wrap64 ((i : Int) - 1) = (i : Int) - 1 := wadd (by omega) (by omega)
theorem rises_l0 (l : List Int) (hl : l.length ≤ 1048576) (d : Nat) : ∀ (k i : Nat), l.length - i = d → 0 < i → d < k → impl_rises.l0 k l (i : Int) = some (rf l d i) := by
  induction d with
  | zero =>
    intro k i hd h0 hk
    obtain ⟨k, rfl⟩ : ∃ q, k = q + 1 := ⟨k - 1, by omega⟩
    simp only [impl_rises.l0]
    rw [if_neg (by omega)]
    rfl
  | succ d ih =>
    intro k i hd h0 hk
    obtain ⟨k, rfl⟩ : ∃ q, k = q + 1 := ⟨k - 1, by omega⟩
    have hlt : i < l.length := by omega
    simp only [impl_rises.l0]
    rw [if_pos (by omega), if_pos (by omega), wsub h0 (by omega), if_pos (by omega), if_pos (by omega), wnat hlt (by omega)]
    unfold rf
    by_cases h : rd l (i : Int) ≤ rd l ((i : Int) - 1)
    · rw [if_pos h, decide_eq_false (by omega), decide_eq_false (by omega)]
      rfl
    · rw [if_neg h, ih k (i + 1) (by omega) (by omega) (by omega), decide_eq_true (show rd l ((i : Int) - 1) < rd l (i : Int) by omega), Bool.or_true, Bool.true_and]
theorem rises_ev (l : List Int) (hl : l.length ≤ 1048576) (k : Nat) (hk : l.length < k) : impl_rises.f k l = some (rf l (l.length - 1) 1) := by
  unfold impl_rises.f
  exact rises_l0 l hl (l.length - 1) k 1 rfl (by omega) (by omega)
theorem rising_l0 (l : List Int) (a b : Int) (hl : l.length ≤ 1048576) (d : Nat) : ∀ (k i : Nat), l.length - i = d → i ≤ l.length → d < k → spec_l1Rising.l0 k l a b l (l.length : Int) (i : Int) = some (((l.drop i).all fun x => decide (a ≤ x) && decide (x ≤ b)) && rf l d i) := by
  induction d with
  | zero =>
    intro k i hd hi hk
    obtain ⟨k, rfl⟩ : ∃ q, k = q + 1 := ⟨k - 1, by omega⟩
    simp only [spec_l1Rising.l0]
    rw [if_neg (by omega), List.drop_eq_nil_of_le (by omega)]
    rfl
  | succ d ih =>
    intro k i hd hi hk
    obtain ⟨k, rfl⟩ : ∃ q, k = q + 1 := ⟨k - 1, by omega⟩
    have hlt : i < l.length := by omega
    have hr := ih k (i + 1) (by omega) (by omega) (by omega)
    simp only [spec_l1Rising.l0]
    rw [if_pos (by omega), if_pos (by omega), if_pos (by omega), wnat hlt (by omega), l1In_ev, bindsome, drop_cons l i hlt, List.all_cons, hr]
    rw [show rf l (d + 1) i = ((decide (i = 0) || decide (rd l ((i : Int) - 1) < rd l (i : Int))) && rf l d (i + 1)) from rfl]
    rw [rdn l i hlt]
    generalize (decide (a ≤ l[i]) && decide (l[i] ≤ b)) = A
    generalize ((l.drop (i + 1)).all fun x => decide (a ≤ x) && decide (x ≤ b)) = B
    generalize rf l d (i + 1) = C
    cases A
    · simp
    · rw [if_pos rfl]
      by_cases h0 : i = 0
      · rw [if_neg (show ¬ (i : Int) > 0 by omega), decide_eq_true h0, Bool.true_or, Bool.true_and, Bool.true_and]
      · rw [if_pos (show (i : Int) > 0 by omega), wsub (i := i) (by omega) (by omega), if_pos (show 0 ≤ (i : Int) - 1 by omega), if_pos (show (i : Int) - 1 < (l.length : Int) by omega), decide_eq_false h0, Bool.false_or]
        by_cases h : rd l ((i : Int) - 1) ≥ l[i]
        · rw [if_pos h, decide_eq_false (show ¬ rd l ((i : Int) - 1) < l[i] by omega)]
          cases B <;> rfl
        · rw [if_neg h, decide_eq_true (show rd l ((i : Int) - 1) < l[i] by omega), Bool.true_and, Bool.true_and]
theorem rising_ev (l : List Int) (a b : Int) (hl : l.length ≤ 1048576) (k : Nat) (hk : l.length < k) : spec_l1Rising.f k l a b = some ((l.all fun x => decide (a ≤ x) && decide (x ≤ b)) && rf l l.length 0) := by
  unfold spec_l1Rising.f
  exact rising_l0 l a b hl l.length k 0 rfl (Nat.zero_le _) hk
theorem rf_start (l : List Int) (h : 1 ≤ l.length) : rf l l.length 0 = rf l (l.length - 1) 1 := by
  obtain ⟨n, hn⟩ : ∃ n, l.length = n + 1 := ⟨l.length - 1, by omega⟩
  rw [hn]
  simp [rf]
theorem rf_far (l : List Int) : ∀ (d i : Nat), rf l d (i + 1) = true → rd l (i : Int) + (d : Int) ≤ rd l ((i + d : Nat) : Int)
  | 0, i, _ => by simp
  | d + 1, i, h => by
    rw [rf, Bool.and_eq_true, Bool.or_eq_true, decide_eq_true_eq, decide_eq_true_eq] at h
    have h2 := rf_far l d (i + 1) h.2
    have h3 : rd l ((i : Int)) < rd l ((i + 1 : Nat) : Int) := by
      rcases h.1 with e | e
      · omega
      · rw [show ((i + 1 : Nat) : Int) - 1 = (i : Int) by omega] at e
        exact e
    rw [show i + (d + 1) = i + 1 + d by omega]
    omega
theorem rising_len (l : List Int) (m : Int) (hm : -1 ≤ m) (h : (l.all fun x => decide (0 ≤ x) && decide (x ≤ m)) = true) (hr : rf l (l.length - 1) 1 = true) : (l.length : Int) ≤ m + 1 := by
  by_cases h0 : l.length = 0
  · omega
  · have h1 := rf_far l (l.length - 1) 0 hr
    rw [List.all_eq_true] at h
    have a0 := h _ (List.getElem_mem (show 0 < l.length by omega))
    have a1 := h _ (List.getElem_mem (show l.length - 1 < l.length by omega))
    rw [← rdn l 0 (by omega)] at a0
    rw [← rdn l (l.length - 1) (by omega)] at a1
    simp only [Bool.and_eq_true, decide_eq_true_eq] at a0 a1
    rw [show 0 + (l.length - 1) = l.length - 1 by omega] at h1
    omega

end Go.Proofs.Ytokfpjebnkfccaa.Pure
