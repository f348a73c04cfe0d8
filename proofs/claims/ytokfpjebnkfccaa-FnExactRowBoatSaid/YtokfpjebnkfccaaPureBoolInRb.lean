/- Whether a bool occurs in a list: what the printed library function comes to.
   Conditions: stated with each. -/
import Derived.Test.YtokfpjebnkfccaaPureARb
import Derived.Test.YtokfpjebnkfccaaGRbx8
namespace Go.Proofs.Ytokfpjebnkfccaa.Pure
open Go.RowKit Go.Proofs.Ytokfpjebnkfccaa.G Go.Proofs.YtokfpjebnkfccaaW.PrintWords

theorem indexB_l0 (l : List Bool) (b : Bool) (hl : l.length ≤ 1048576) (d : Nat) : ∀ (k i : Nat), l.length - i = d → i ≤ l.length → d < k → ∃ r, slices_Index_bool_bool.l0 k l b (l.length : Int) (i : Int) = some r ∧ decide (r ≥ 0) = (l.drop i).contains b := by
  induction d with
  | zero =>
    intro k i hd hi hk
    obtain ⟨k, rfl⟩ : ∃ q, k = q + 1 := ⟨k - 1, by omega⟩
    simp only [slices_Index_bool_bool.l0]
    rw [if_neg (by omega), List.drop_eq_nil_of_le (by omega)]
    exact ⟨_, rfl, by simp⟩
  | succ d ih =>
    intro k i hd hi hk
    obtain ⟨k, rfl⟩ : ∃ q, k = q + 1 := ⟨k - 1, by omega⟩
    have hlt : i < l.length := by omega
    simp only [slices_Index_bool_bool.l0]
    rw [if_pos (by omega), if_pos (by omega), if_pos (by omega), wnat hlt (by omega), rdb l i hlt, drop_cons l i hlt, List.contains_cons]
    cases h : (b == l[i])
    · rw [if_neg (by simp)]
      obtain ⟨r, h1, h2⟩ := ih k (i + 1) (by omega) (by omega) (by omega)
      exact ⟨r, h1, by rw [h2, Bool.false_or]⟩
    · rw [if_pos rfl]
      exact ⟨_, rfl, by simp⟩
theorem containsB_ev (l : List Bool) (b : Bool) (hl : l.length ≤ 1048576) (k : Nat) (hk : l.length < k) : slices_Contains_bool_bool.f k l b = some (l.contains b) := by
  unfold slices_Contains_bool_bool.f slices_Index_bool_bool.f
  obtain ⟨r, h1, h2⟩ := indexB_l0 l b hl l.length k 0 rfl (Nat.zero_le _) hk
  have h1' : slices_Index_bool_bool.l0 k l b (l.length : Int) 0 = some r := h1
  rw [h1', bindsome, h2]
  rfl

end Go.Proofs.Ytokfpjebnkfccaa.Pure
