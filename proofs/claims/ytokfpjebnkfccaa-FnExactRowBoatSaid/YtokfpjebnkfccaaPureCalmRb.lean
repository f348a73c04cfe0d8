/- When a group told by bits is calm, and when a group told as a list is: the same.
   Conditions: stated with each. -/
import Derived.Test.YtokfpjebnkfccaaPureARb
import Derived.Test.YtokfpjebnkfccaaGRbx1
import Derived.Test.YtokfpjebnkfccaaGRbx8
namespace Go.Proofs.Ytokfpjebnkfccaa.Pure
open Go.RowKit Go.Proofs.Ytokfpjebnkfccaa.G Go.Proofs.YtokfpjebnkfccaaW.PrintWords

/-- A group of n couples, told by bits, is calm. -/
def calmN (n b : Nat) : Bool := !((List.range n).any (fun k => !b.testBit (2 * k) && b.testBit (2 * k + 1)) && (List.range n).any (fun j => b.testBit (2 * j)))
theorem cuCalm_more : ∀ k, (∀ a b c r, spec_cuCalm.l0 k a b c = some r → spec_cuCalm.l0 (k + 1) a b c = some r) ∧ (∀ a b c d r, spec_cuCalm.l1 k a b c d = some r → spec_cuCalm.l1 (k + 1) a b c d = some r)
  | 0 => ⟨fun a b c r h => by simp [spec_cuCalm.l0] at h, fun a b c d r h => by simp [spec_cuCalm.l1] at h⟩
  | k + 1 => by
    obtain ⟨i0, i1⟩ := cuCalm_more k
    constructor
    · intro a b c r h
      rw [spec_cuCalm.l0] at h ⊢
      by_cases c1 : c < a
      · rw [if_pos c1] at h ⊢
        by_cases c2 : 0 ≤ wrap64 (2 * c)
        · rw [if_pos c2] at h ⊢
          by_cases c3 : Int.tmod (shr .i64 b (wrap64 (2 * c))) 4 = 2
          · rw [if_pos c3] at h ⊢
            exact i1 _ _ _ _ _ h
          · rw [if_neg c3] at h ⊢
            exact i0 _ _ _ _ h
        · rw [if_neg c2] at h
          cases h
      · rw [if_neg c1] at h ⊢
        exact h
    · intro a b c d r h
      rw [spec_cuCalm.l1] at h ⊢
      by_cases c1 : d < a
      · rw [if_pos c1] at h ⊢
        by_cases c2 : 0 ≤ wrap64 (2 * d)
        · rw [if_pos c2] at h ⊢
          by_cases c3 : Int.tmod (shr .i64 b (wrap64 (2 * d))) 2 = 1
          · rw [if_pos c3] at h ⊢
            exact h
          · rw [if_neg c3] at h ⊢
            exact i1 _ _ _ _ _ h
        · rw [if_neg c2] at h
          cases h
      · rw [if_neg c1] at h ⊢
        exact i0 _ _ _ _ h
theorem cuCalm_le (a b : Int) (r : Bool) (k d : Nat) (h : spec_cuCalm.f k a b = some r) : spec_cuCalm.f (k + d) a b = some r := by
  induction d with
  | zero => exact h
  | succ d ih => exact (cuCalm_more (k + d)).1 _ _ _ _ ih
theorem cuCalm_all : ∀ n : Nat, n < 5 → ∀ b : Nat, b < 256 → spec_cuCalm.f 40 (n : Int) (b : Int) = some (calmN n b) := by decide +kernel
theorem cuCalm_ev (n b : Nat) (hn : n < 5) (hb : b < 256) (k : Nat) (hk : 40 ≤ k) : spec_cuCalm.f k (n : Int) (b : Int) = some (calmN n b) := by
  obtain ⟨d, rfl⟩ : ∃ d, k = 40 + d := ⟨k - 40, by omega⟩
  exact cuCalm_le _ _ _ 40 d (cuCalm_all n hn b hb)
theorem calm_bits (l : List Int) (n b : Nat) (hn : n < 5) (hin : ∀ x ∈ l, 0 ≤ x ∧ x < 2 * (n : Int)) (hb : ∀ x : Nat, b.testBit x = l.contains (x : Int)) : impl_calm.f l = some (calmN n b) := by
  unfold impl_calm.f calmN
  have hmem : ∀ x : Nat, b.testBit x = true ↔ (x : Int) ∈ l := fun x => by rw [hb, List.contains_iff_mem]
  have heven : (l.any fun y => y.tmod 2 == 0) = (List.range n).any (fun j => b.testBit (2 * j)) := by
    rw [Bool.eq_iff_iff, List.any_eq_true, List.any_eq_true]
    constructor
    · rintro ⟨y, hy, h2⟩
      obtain ⟨h0, h1⟩ := hin y hy
      have h3 : y.tmod 2 = 0 := by simpa using h2
      rw [Int.tmod_eq_emod_of_nonneg h0] at h3
      refine ⟨(y / 2).toNat, List.mem_range.2 (by omega), (hmem _).2 ?_⟩
      rw [show ((2 * (y / 2).toNat : Nat) : Int) = y by omega]
      exact hy
    · rintro ⟨j, hj, h2⟩
      refine ⟨_, (hmem _).1 h2, ?_⟩
      rw [Int.tmod_eq_emod_of_nonneg (by omega)]
      simp
  congr 1
  rw [Bool.eq_iff_iff, List.all_eq_true, ← heven]
  unfold impl_calm.ok
  constructor
  · intro h
    cases he : (l.any fun y => y.tmod 2 == 0)
    · simp
    · rw [Bool.and_true, Bool.not_eq_true', List.any_eq_false]
      intro j hj hc
      rw [Bool.and_eq_true, Bool.not_eq_true'] at hc
      have hm := (hmem _).1 hc.2
      have h1 := h _ hm
      rw [he] at h1
      have hj' := List.mem_range.1 hj
      rw [Int.tmod_eq_emod_of_nonneg (by omega), show ((2 * j + 1 : Nat) : Int) % 2 = 1 by omega, show wrap64 (((2 * j + 1 : Nat) : Int) - 1) = ((2 * j : Nat) : Int) by unfold wrap64; omega, ← hb, hc.1] at h1
      simp at h1
  · intro h x hx
    obtain ⟨h0, h1⟩ := hin x hx
    cases he : (l.any fun y => y.tmod 2 == 0)
    · simp
    · rw [he, Bool.and_true, Bool.not_eq_true', List.any_eq_false] at h
      by_cases h2 : x % 2 = 0
      · rw [Int.tmod_eq_emod_of_nonneg h0, h2]
        simp
      · have h3 := h (x / 2).toNat (List.mem_range.2 (by omega))
        rw [(hmem (2 * (x / 2).toNat + 1)).2 (by rw [show ((2 * (x / 2).toNat + 1 : Nat) : Int) = x by omega]; exact hx), Bool.and_true, Bool.not_eq_true', Bool.not_eq_false, hb] at h3
        rw [show wrap64 (x - 1) = ((2 * (x / 2).toNat : Nat) : Int) by unfold wrap64; omega, h3]
        simp

end Go.Proofs.Ytokfpjebnkfccaa.Pure
