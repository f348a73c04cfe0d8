/- When a state is calm: told by its number, and told by its lists: the same.
   Conditions: stated with each. -/
import Derived.Test.YtokfpjebnkfccaaPureCalmRb
import Derived.Test.YtokfpjebnkfccaaPureSideRb
import Derived.Test.YtokfpjebnkfccaaPureCuCodeRb
import Derived.Test.YtokfpjebnkfccaaPureStateRb
import Derived.Test.YtokfpjebnkfccaaGRbx1
import Derived.Test.YtokfpjebnkfccaaGRbx2
import Derived.Test.YtokfpjebnkfccaaGRbx8
import Derived.Test.YtokfpjebnkfccaaGRbx3
namespace Go.Proofs.Ytokfpjebnkfccaa.Pure
open Go.RowKit Go.Proofs.Ytokfpjebnkfccaa.G Go.Proofs.YtokfpjebnkfccaaW.PrintWords

theorem size_n (n : Nat) (hn : n < 5) : shl .i64 1 (2 * (n : Int)) = ((2 ^ (2 * n) : Nat) : Int) := by
  have h : ∀ m : Nat, m < 5 → shl .i64 1 (2 * (m : Int)) = ((2 ^ (2 * m) : Nat) : Int) := by decide +kernel
  exact h n hn
theorem pow_n (n : Nat) (hn : n < 5) : 2 ^ (2 * n) ≤ 256 := by
  have h : ∀ m : Nat, m < 5 → 2 ^ (2 * m) ≤ 256 := by decide +kernel
  exact h n hn
theorem quiet_ev (n b : Nat) (s : Int) (t : Bool) (hn : n < 5) (hb : b < 2 ^ (2 * n)) (k : Nat) (hk : 40 ≤ k) : spec_cuQuiet.f k (n : Int) s ((2 * b + t.toNat : Nat) : Int) = some (calmN n b && calmN n (2 ^ (2 * n) - (b + 1))) := by
  have hp := pow_n n hn
  have ht : t.toNat < 2 := by cases t <;> decide
  have h2 : Int.tdiv ((2 * b + t.toNat : Nat) : Int) 2 = (b : Int) := by
    rw [Int.tdiv_eq_ediv_of_nonneg (by omega)]
    omega
  unfold spec_cuQuiet.f spec_cuSize.f
  rw [h2, wadd (x := (b : Int)) (by omega) (by omega), cuCalm_ev n b hn (by omega) k hk, bindsome]
  cases calmN n b
  · rfl
  · rw [if_pos rfl, wadd (x := 2 * (n : Int)) (by omega) (by omega), if_pos (by omega), bindsome, size_n n hn, wadd (x := ((2 ^ (2 * n) : Nat) : Int) - 1) (by omega) (by omega), wadd (x := ((2 ^ (2 * n) : Nat) : Int) - 1 - (b : Int)) (by omega) (by omega), show ((2 ^ (2 * n) : Nat) : Int) - 1 - (b : Int) = ((2 ^ (2 * n) - (b + 1) : Nat) : Int) by omega, cuCalm_ev n _ hn (by omega) k hk]
    rfl
theorem isCalm_ev (n b : Nat) (l : List Bool) (t : Bool) (hn : n < 5) (hl : l.length = 2 * n) (hb : b < 2 ^ (2 * n)) (hbit : ∀ x : Nat, b.testBit x = (decide (x < l.length) && rdOf false l (x : Int))) (k : Nat) (hk : 40 ≤ k) :
    impl_State_isCalm.f k l t = some (calmN n b && calmN n (2 ^ (2 * n) - (b + 1))) := by
  unfold impl_State_isCalm.f
  have c1 := calm_bits (sideL l true) n b hn (fun x hx => by have := sideL_in l true x hx; omega) (fun x => by rw [hbit, sideL_has]; cases rdOf false l (x : Int) <;> rfl)
  have c2 := calm_bits (sideL l false) n (2 ^ (2 * n) - (b + 1)) hn (fun x hx => by have := sideL_in l false x hx; omega) (fun x => by
    rw [Nat.testBit_two_pow_sub_succ hb, hbit, sideL_has, hl]
    by_cases h : x < 2 * n
    · simp only [h, decide_true, Bool.true_and]
      cases rdOf false l (x : Int) <;> rfl
    · simp [h])
  rw [side_ev l t true (by omega) k (by omega), bindsome, c1, bindsome]
  cases calmN n b
  · rfl
  · rw [if_pos rfl, side_ev l t false (by omega) k (by omega), bindsome, c2, bindsome]
    rfl
/-- When there are a company and a state of it. -/
def goodCS (n s : Int) (l : List Bool) (t : Bool) : Bool := ((decide (1 ≤ n) && decide (n ≤ 4)) && (decide (1 ≤ s) && decide (s ≤ 4))) && goodState (2 * n).toNat l t
theorem good_parts {n s : Int} {l : List Bool} {t : Bool} (h : goodCS n s l t = true) : (1 ≤ n ∧ n ≤ 4) ∧ (1 ≤ s ∧ s ≤ 4) ∧ l.length = (2 * n).toNat := by
  unfold goodCS at h
  rw [Bool.and_eq_true] at h
  have := goodState_len h.2
  simp only [Bool.and_eq_true, decide_eq_true_eq] at h
  exact ⟨h.1.1, h.1.2, this⟩
theorem cuIn_ev (a b c : Int) : spec_l1In.f a b c = some (decide (b ≤ a) && decide (a ≤ c)) := by
  unfold spec_l1In.f
  by_cases h : b ≤ a <;> simp [h]
theorem cuIn2_ev (a b c : Int) : impl_in.f a b c = some (decide (b ≤ a) && decide (a ≤ c)) := by
  unfold impl_in.f
  by_cases h : b ≤ a <;> simp [h]
theorem range14 {n : Int} (h : ¬ (1 ≤ n ∧ n ≤ 4)) : (decide (1 ≤ n) && decide (n ≤ 4)) = false := by
  by_cases h1 : 1 ≤ n
  · simp [h1]; omega
  · simp [h1]
theorem cuIs_ev (n s : Int) (l : List Bool) (t : Bool) (hl : l.length ≤ 1048576) (k : Nat) (hk : l.length < k) : spec_cuIs.f k n s l t = some (goodCS n s l t) := by
  unfold spec_cuIs.f spec_cuGood.f goodCS
  simp only [cuIn_ev, bindsome]
  by_cases hn : 1 ≤ n ∧ n ≤ 4
  · rw [show (decide (1 ≤ n) && decide (n ≤ 4)) = true by simp [hn], if_pos rfl, bindsome, Bool.true_and]
    cases (decide (1 ≤ s) && decide (s ≤ 4))
    · rfl
    · rw [if_pos rfl, Bool.true_and, wadd (x := 2 * n) (by omega) (by omega)]
      by_cases e : (l.length : Int) = 2 * n
      · rw [if_pos e, if_pos (by omega), if_pos (by omega), paState_ev _ _ l t hl k hk, bindsome, List.length_replicate]
      · rw [if_neg e]
        have : ¬ l.length = (2 * n).toNat := by omega
        simp [goodState, this]
  · rw [range14 hn]
    rfl
theorem hasState_ev (n s : Int) (l : List Bool) (t : Bool) (hl : l.length ≤ 1048576) (k : Nat) (hk : l.length < k) : impl_Company_hasState.f k n s l t = some (goodCS n s l t) := by
  unfold impl_Company_hasState.f impl_IsCompany.f goodCS
  simp only [cuIn2_ev, bindsome]
  by_cases hn : 1 ≤ n ∧ n ≤ 4
  · rw [show (decide (1 ≤ n) && decide (n ≤ 4)) = true by simp [hn], if_pos rfl, bindsome, Bool.true_and]
    cases (decide (1 ≤ s) && decide (s ≤ 4))
    · rfl
    · rw [if_pos rfl, Bool.true_and, wadd (x := 2 * n) (by omega) (by omega), show (2 * n : Int) = (((2 * n).toNat : Nat) : Int) by omega, isStateOf_ev _ l t hl k hk, bindsome, Int.toNat_natCast]
  · rw [range14 hn]
    rfl

end Go.Proofs.Ytokfpjebnkfccaa.Pure
