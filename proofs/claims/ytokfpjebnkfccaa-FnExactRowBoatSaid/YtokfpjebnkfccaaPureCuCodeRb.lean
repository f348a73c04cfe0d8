/- What the printed function that numbers a state comes to.
   Conditions: stated with each. -/
import Derived.Test.YtokfpjebnkfccaaPureARb
import Derived.Test.YtokfpjebnkfccaaGRbx4
namespace Go.Proofs.Ytokfpjebnkfccaa.Pure
open Go.RowKit Go.Proofs.Ytokfpjebnkfccaa.G Go.Proofs.YtokfpjebnkfccaaW.PrintWords

theorem or_two : ∀ a : Nat, a < 256 → ∀ x : Nat, x < 8 → Go.bits .or .i64 ((2 * a : Nat) : Int) (shl .i64 2 (x : Int)) = ((2 * (a ||| 2 ^ x) : Nat) : Int) := by decide +kernel
theorem cuCode_l0 (l : List Bool) (t : Bool) (hl : l.length ≤ 8) (d : Nat) : ∀ (k i a : Nat), l.length - i = d → i ≤ l.length → d < k → a < 256 →
    ∃ b : Nat, spec_cuCode.l0 k ((2 * a : Nat) : Int) l (l.length : Int) (i : Int) l t = some ((2 * b + t.toNat : Nat) : Int) ∧ b < 256 ∧ ∀ x : Nat, b.testBit x = (a.testBit x || (decide (i ≤ x ∧ x < l.length) && rdOf false l (x : Int))) := by
  induction d with
  | zero =>
    intro k i a hd hi hk ha
    obtain ⟨k, rfl⟩ : ∃ q, k = q + 1 := ⟨k - 1, by omega⟩
    simp only [spec_cuCode.l0]
    rw [if_neg (by omega)]
    refine ⟨a, ?_, ha, fun x => ?_⟩
    · cases t
      · simp
      · rw [if_pos rfl, wnat (show 2 * a < 1000 by omega) (by omega)]
        rfl
    · rw [decide_eq_false (by omega)]
      simp
  | succ d ih =>
    intro k i a hd hi hk ha
    obtain ⟨k, rfl⟩ : ∃ q, k = q + 1 := ⟨k - 1, by omega⟩
    have hlt : i < l.length := by omega
    simp only [spec_cuCode.l0]
    rw [if_pos (by omega), if_pos (by omega), if_pos (by omega), wnat hlt (by omega)]
    by_cases h : rdOf false l (i : Int) = true
    · rw [if_pos h, or_two a ha i (by omega)]
      obtain ⟨b, h1, h2, h3⟩ := ih k (i + 1) (a ||| 2 ^ i) (by omega) (by omega) (by omega) (Nat.or_lt_two_pow (n := 8) ha (Nat.pow_lt_pow_right (by decide) (by omega)))
      refine ⟨b, h1, h2, fun x => ?_⟩
      rw [h3, Nat.testBit_or, Nat.testBit_two_pow, Bool.or_assoc]
      congr 1
      by_cases e : i = x
      · subst e
        rw [h]
        simp [hlt]
      · have e2 : (i + 1 ≤ x ∧ x < l.length) ↔ (i ≤ x ∧ x < l.length) := by omega
        simp [e, e2]
    · rw [if_neg h]
      obtain ⟨b, h1, h2, h3⟩ := ih k (i + 1) a (by omega) (by omega) (by omega) ha
      refine ⟨b, h1, h2, fun x => ?_⟩
      rw [h3]
      congr 1
      by_cases e : i = x
      · subst e
        rw [Bool.not_eq_true] at h
        rw [h]
        simp
      · have e2 : (i + 1 ≤ x ∧ x < l.length) ↔ (i ≤ x ∧ x < l.length) := by omega
        simp [e2]
theorem cuCode_ev (l : List Bool) (t : Bool) (hl : l.length ≤ 8) (k : Nat) (hk : l.length < k) : ∃ b : Nat, spec_cuCode.f k l t = some ((2 * b + t.toNat : Nat) : Int) ∧ b < 2 ^ l.length ∧ b < 256 ∧ ∀ x : Nat, b.testBit x = (decide (x < l.length) && rdOf false l (x : Int)) := by
  unfold spec_cuCode.f
  obtain ⟨b, h1, h2, h3⟩ := cuCode_l0 l t hl l.length k 0 0 rfl (Nat.zero_le _) hk (by omega)
  have h4 : ∀ x : Nat, b.testBit x = (decide (x < l.length) && rdOf false l (x : Int)) := fun x => by rw [h3]; simp
  refine ⟨b, h1, Nat.lt_pow_two_of_testBit _ fun i hi => ?_, h2, h4⟩
  rw [h4, decide_eq_false (by omega)]
  rfl

end Go.Proofs.Ytokfpjebnkfccaa.Pure
