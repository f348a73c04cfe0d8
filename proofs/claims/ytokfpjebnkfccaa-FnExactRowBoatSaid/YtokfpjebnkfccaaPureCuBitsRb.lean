/- What the printed function that tells a list as bits comes to.
   Conditions: stated with each. -/
import Derived.Test.YtokfpjebnkfccaaPureARb
import Derived.Test.YtokfpjebnkfccaaGRbx1
namespace Go.Proofs.Ytokfpjebnkfccaa.Pure
open Go.RowKit Go.Proofs.Ytokfpjebnkfccaa.G Go.Proofs.YtokfpjebnkfccaaW.PrintWords

theorem or_bit : ∀ a : Nat, a < 256 → ∀ x : Nat, x < 8 → Go.bits .or .i64 (a : Int) (shl .i64 1 (x : Int)) = ((a ||| 2 ^ x : Nat) : Int) := by decide +kernel
theorem or_small {a x : Nat} (ha : a < 256) (hx : x < 8) : a ||| 2 ^ x < 256 := Nat.or_lt_two_pow (n := 8) ha (Nat.pow_lt_pow_right (by decide) hx)
theorem cuBits_l0 (l : List Int) (hl : l.length ≤ 1048576) (hin : ∀ x ∈ l, 0 ≤ x ∧ x < 8) (d : Nat) : ∀ (k i a : Nat), l.length - i = d → i ≤ l.length → d < k → a < 256 →
    ∃ b : Nat, spec_cuBits.l0 k (a : Int) l (l.length : Int) (i : Int) = some (b : Int) ∧ b < 256 ∧ ∀ x : Nat, b.testBit x = (a.testBit x || (l.drop i).contains (x : Int)) := by
  induction d with
  | zero =>
    intro k i a hd hi hk ha
    obtain ⟨k, rfl⟩ : ∃ q, k = q + 1 := ⟨k - 1, by omega⟩
    simp only [spec_cuBits.l0]
    rw [if_neg (by omega), List.drop_eq_nil_of_le (by omega)]
    exact ⟨a, rfl, ha, fun x => by simp⟩
  | succ d ih =>
    intro k i a hd hi hk ha
    obtain ⟨k, rfl⟩ : ∃ q, k = q + 1 := ⟨k - 1, by omega⟩
    have hlt : i < l.length := by omega
    obtain ⟨h0, h8⟩ := hin _ (List.getElem_mem hlt)
    obtain ⟨y, hy⟩ : ∃ y : Nat, l[i] = (y : Int) := ⟨l[i].toNat, by omega⟩
    simp only [spec_cuBits.l0]
    rw [if_pos (by omega), if_pos (by omega), if_pos (by omega), wnat hlt (by omega), rdn l i hlt, if_pos h0, hy, or_bit a ha y (by omega)]
    obtain ⟨b, h1, h2, h3⟩ := ih k (i + 1) (a ||| 2 ^ y) (by omega) (by omega) (by omega) (or_small ha (by omega))
    refine ⟨b, h1, h2, fun x => ?_⟩
    rw [h3, Nat.testBit_or, Nat.testBit_two_pow, drop_cons l i hlt, List.contains_cons, hy, Bool.or_assoc]
    congr 2
    by_cases e : y = x
    · simp [e]
    · have e2 : ¬ (x : Int) = (y : Int) := by omega
      simp [e, e2]
theorem cuBits_ev (l : List Int) (hl : l.length ≤ 1048576) (hin : ∀ x ∈ l, 0 ≤ x ∧ x < 8) (k : Nat) (hk : l.length < k) : ∃ b : Nat, spec_cuBits.f k l = some (b : Int) ∧ b < 256 ∧ ∀ x : Nat, b.testBit x = l.contains (x : Int) := by
  unfold spec_cuBits.f
  obtain ⟨b, h1, h2, h3⟩ := cuBits_l0 l hl hin l.length k 0 0 rfl (Nat.zero_le _) hk (by omega)
  exact ⟨b, h1, h2, fun x => by rw [h3]; simp⟩

end Go.Proofs.Ytokfpjebnkfccaa.Pure
