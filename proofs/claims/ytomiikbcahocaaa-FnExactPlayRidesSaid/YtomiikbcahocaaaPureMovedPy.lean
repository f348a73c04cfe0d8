/- What the printed functions that move people come to: the state behind a trip, behind several.
   Conditions: stated with each. -/
import Derived.Test.YtomiikbcahocaaaPureTripPy
import Derived.Test.YtomiikbcahocaaaGPyx9
namespace Go.Proofs.Ytomiikbcahocaaa.Pure
open Go.RowKit Go.Proofs.Ytomiikbcahocaaa.G Go.Proofs.YtomiikbcahocaaaW.PrintWords

/-- People are set on a side. -/
def setAll (o : List Bool) (b : Bool) (l : List Int) : List Bool := l.foldl (fun o k => o.set k.toNat b) o
theorem setAll_length (b : Bool) (l : List Int) : ∀ o : List Bool, (setAll o b l).length = o.length := by
  induction l with
  | nil => intro o; rfl
  | cons x l ih => intro o; show (setAll (o.set x.toNat b) b l).length = _; rw [ih, List.length_set]
theorem moved_l0 (l : List Int) (b : Bool) (n : Nat) (hl : l.length ≤ 1048576) (hv : ∀ x ∈ l, 0 ≤ x ∧ x < (n : Int)) (d : Nat) : ∀ (k i : Nat) (o : List Bool), o.length = n → l.length - i = d → i ≤ l.length → d < k → impl_State_moved.l0 k l (l.length : Int) (i : Int) o b = some (setAll o b (l.drop i), b) := by
  induction d with
  | zero =>
    intro k i o ho hd hi hk
    obtain ⟨k, rfl⟩ : ∃ q, k = q + 1 := ⟨k - 1, by omega⟩
    simp only [impl_State_moved.l0]
    rw [if_neg (by omega), List.drop_eq_nil_of_le (by omega)]
    rfl
  | succ d ih =>
    intro k i o ho hd hi hk
    obtain ⟨k, rfl⟩ : ∃ q, k = q + 1 := ⟨k - 1, by omega⟩
    have hlt : i < l.length := by omega
    have hx := valid_at hv i hlt
    simp only [impl_State_moved.l0]
    rw [if_pos (by omega), if_pos (by omega), if_pos (by omega), wnat hlt (by omega), rdn l i hlt, if_pos hx.1, if_pos (by omega), ih k (i + 1) _ (by rw [List.length_set]; exact ho) (by omega) (by omega) (by omega), drop_cons l i hlt]
    rfl
theorem moved_ev (o : List Bool) (t : Bool) (l : List Int) (ho : o.length ≤ 1048576) (hl : l.length ≤ 1048576) (hv : ∀ x ∈ l, 0 ≤ x ∧ x < (o.length : Int)) (k : Nat) (hk : l.length < k) : impl_State_moved.f k o t l = some (setAll o (!t) l, !t) := by
  unfold impl_State_moved.f slices_Clone_bool_bool.f
  rw [if_pos (by omega), bindsome]
  exact moved_l0 l (!t) o.length hl hv l.length k 0 o rfl rfl (Nat.zero_le _) hk

end Go.Proofs.Ytomiikbcahocaaa.Pure
