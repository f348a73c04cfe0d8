/- The law FnExactCountCalm returns true for all arguments: for one to four couples both counts are reckoned out; the boat's seats are of no account.
   Conditions: none. -/
import Derived.Test.YtokfpjebnkfccaaPureACc
import Derived.Test.YtokfpjebnkfccaaGCcx3
import Derived.Test.YtokfpjebnkfccaaGCcx5
namespace Go.Proofs.Ytokfpjebnkfccaa.Pure
open Go.RowKit Go.Proofs.Ytokfpjebnkfccaa.G Go.Proofs.YtokfpjebnkfccaaW.PrintWords

set_option maxRecDepth 1000000 in
set_option maxHeartbeats 0 in
theorem countSpec_1 : spec_CountCalm.f 6000 1 1 = some (6, true) := by decide +kernel
set_option maxRecDepth 1000000 in
set_option maxHeartbeats 0 in
theorem countSpec_2 : spec_CountCalm.f 6000 2 1 = some (18, true) := by decide +kernel
set_option maxRecDepth 1000000 in
set_option maxHeartbeats 0 in
theorem countSpec_3 : spec_CountCalm.f 6000 3 1 = some (42, true) := by decide +kernel
set_option maxRecDepth 1000000 in
set_option maxHeartbeats 0 in
theorem countSpec_4 : spec_CountCalm.f 6000 4 1 = some (90, true) := by decide +kernel
set_option maxRecDepth 1000000 in
set_option maxHeartbeats 0 in
theorem countImpl_1 : impl_CountCalm.f 6000 1 1 = some (6, true) := by decide +kernel
set_option maxRecDepth 1000000 in
set_option maxHeartbeats 0 in
theorem countImpl_2 : impl_CountCalm.f 6000 2 1 = some (18, true) := by decide +kernel
set_option maxRecDepth 1000000 in
set_option maxHeartbeats 0 in
theorem countImpl_3 : impl_CountCalm.f 6000 3 1 = some (42, true) := by decide +kernel
set_option maxRecDepth 1000000 in
set_option maxHeartbeats 0 in
theorem countImpl_4 : impl_CountCalm.f 6000 4 1 = some (90, true) := by decide +kernel
theorem good_seats (a b : Int) (hb : 1 ≤ b ∧ b ≤ 4) : spec_cuGood.f a b = spec_cuGood.f a 1 := by
  have h1 : spec_l1In.f b 1 4 = some true := by
    unfold spec_l1In.f
    rw [if_pos hb.1, decide_eq_true hb.2]
  unfold spec_cuGood.f
  rw [h1]
  rfl
theorem state_seats (a b x : Int) : ∀ (k : Nat) (i : Int) (l : List Bool) (t : Bool), spec_cuState.l0 k x i a b l t = spec_cuState.l0 k x i a 1 l t
  | 0, _, _, _ => rfl
  | k + 1, i, l, t => by
    rw [spec_cuState.l0, spec_cuState.l0]
    simp only [state_seats a b x k]
theorem count_seats (a b : Int) (hb : 1 ≤ b ∧ b ≤ 4) : ∀ (k : Nat) (x y : Int), spec_CountCalm.l0 k x y a b = spec_CountCalm.l0 k x y a 1
  | 0, _, _ => rfl
  | k + 1, x, y => by
    have h1 : spec_cuSize.f a b = spec_cuSize.f a 1 := rfl
    have h2 : ∀ z, spec_cuQuiet.f k a b z = spec_cuQuiet.f k a 1 z := fun z => rfl
    have h3 : ∀ z, spec_cuState.f k a b z = spec_cuState.f k a 1 z := fun z => state_seats a b z k _ _ _
    have h4 : ∀ l t, spec_cuIs.f k a b l t = spec_cuIs.f k a 1 l t := fun l t => by unfold spec_cuIs.f; rw [good_seats a b hb]
    rw [spec_CountCalm.l0, spec_CountCalm.l0]
    simp only [h1, h2, h3, h4, count_seats a b hb k]
theorem spec_seats (a b : Int) (hb : 1 ≤ b ∧ b ≤ 4) : spec_CountCalm.f 6000 a b = spec_CountCalm.f 6000 a 1 := by
  unfold spec_CountCalm.f
  rw [good_seats a b hb, count_seats a b hb]
theorem impl_seats (a b : Int) (hb : 1 ≤ b ∧ b ≤ 4) : impl_CountCalm.f 6000 a b = impl_CountCalm.f 6000 a 1 := by
  have h1 : impl_in.f b 1 4 = some true := by
    unfold impl_in.f
    rw [if_pos hb.1, decide_eq_true hb.2]
  have h2 : impl_IsCompany.f a b = impl_IsCompany.f a 1 := by
    unfold impl_IsCompany.f
    rw [h1]
    rfl
  unfold impl_CountCalm.f
  rw [h2]
theorem both (a b n : Int) (t : Bool) (h1 : spec_CountCalm.f 6000 a b = some (n, t)) (h2 : impl_CountCalm.f 6000 a b = some (n, t)) : laws_FnExactCountCalm.f 6000 a b = some true := by
  have h0 : laws_toCompany.f a b = some (a, b) := rfl
  unfold laws_FnExactCountCalm.f
  rw [h0, bindsome, h1, bindsome, bindsome, h2, bindsome, if_pos rfl, if_neg (by cases t <;> simp)]
theorem FnExactCountCalm (a b : Int) : ∃ k, laws_FnExactCountCalm.f k a b = some true := by
  refine ⟨6000, ?_⟩
  by_cases h : (1 ≤ a ∧ a ≤ 4) ∧ (1 ≤ b ∧ b ≤ 4)
  · obtain e | e | e | e : a = 1 ∨ a = 2 ∨ a = 3 ∨ a = 4 := by omega
    · subst e; exact both 1 b _ _ ((spec_seats 1 b h.2).trans countSpec_1) ((impl_seats 1 b h.2).trans countImpl_1)
    · subst e; exact both 2 b _ _ ((spec_seats 2 b h.2).trans countSpec_2) ((impl_seats 2 b h.2).trans countImpl_2)
    · subst e; exact both 3 b _ _ ((spec_seats 3 b h.2).trans countSpec_3) ((impl_seats 3 b h.2).trans countImpl_3)
    · subst e; exact both 4 b _ _ ((spec_seats 4 b h.2).trans countSpec_4) ((impl_seats 4 b h.2).trans countImpl_4)
  · have e1 : ∀ x y z : Int, spec_l1In.f x y z = some (decide (y ≤ x) && decide (x ≤ z)) := fun x y z => by unfold spec_l1In.f; by_cases h : y ≤ x <;> simp [h]
    have e2 : ∀ x y z : Int, impl_in.f x y z = some (decide (y ≤ x) && decide (x ≤ z)) := fun x y z => by unfold impl_in.f; by_cases h : y ≤ x <;> simp [h]
    have e3 : ((decide (1 ≤ a) && decide (a ≤ 4)) && (decide (1 ≤ b) && decide (b ≤ 4))) = false := by
      cases hh : ((decide (1 ≤ a) && decide (a ≤ 4)) && (decide (1 ≤ b) && decide (b ≤ 4)))
      · rfl
      · simp only [Bool.and_eq_true, decide_eq_true_eq] at hh
        exact absurd hh h
    refine both a b 0 false ?_ ?_
    · unfold spec_CountCalm.f spec_cuGood.f
      simp only [e1, bindsome]
      generalize (decide (1 ≤ a) && decide (a ≤ 4)) = A at e3 ⊢
      generalize (decide (1 ≤ b) && decide (b ≤ 4)) = B at e3 ⊢
      cases A <;> cases B <;> first | (cases e3; done) | rfl
    · unfold impl_CountCalm.f impl_IsCompany.f
      simp only [e2, bindsome]
      generalize (decide (1 ≤ a) && decide (a ≤ 4)) = A at e3 ⊢
      generalize (decide (1 ≤ b) && decide (b ≤ 4)) = B at e3 ⊢
      cases A <;> cases B <;> first | (cases e3; done) | rfl

end Go.Proofs.Ytokfpjebnkfccaa.Pure
