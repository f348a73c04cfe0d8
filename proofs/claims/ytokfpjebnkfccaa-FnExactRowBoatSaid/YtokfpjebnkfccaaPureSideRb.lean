/- What the printed function that lists the people on a side comes to.
   Conditions: stated with each. -/
import Derived.Test.YtokfpjebnkfccaaPureARb
import Derived.Test.YtokfpjebnkfccaaGRbx8
namespace Go.Proofs.Ytokfpjebnkfccaa.Pure
open Go.RowKit Go.Proofs.Ytokfpjebnkfccaa.G Go.Proofs.YtokfpjebnkfccaaW.PrintWords

def atSide (l : List Bool) (q : Bool) (j : Nat) : Bool := rdOf false l (j : Int) == q
/-- The people on a side, as a list. -/
def sideL (l : List Bool) (q : Bool) : List Int := ((List.range l.length).filter (atSide l q)).map fun (j : Nat) => (j : Int)
theorem side_l0 (l : List Bool) (q : Bool) (hl : l.length ≤ 1048576) (d : Nat) : ∀ (k i : Nat) (m : List Int), l.length - i = d → i ≤ l.length → d < k → m.length ≤ i →
    impl_State_side.l0 k q m l (l.length : Int) (i : Int) = some (m ++ ((List.range' i d).filter (atSide l q)).map fun (j : Nat) => (j : Int)) := by
  induction d with
  | zero =>
    intro k i m hd hi hk hm
    obtain ⟨k, rfl⟩ : ∃ q, k = q + 1 := ⟨k - 1, by omega⟩
    simp only [impl_State_side.l0]
    rw [if_neg (by omega)]
    simp
  | succ d ih =>
    intro k i m hd hi hk hm
    obtain ⟨k, rfl⟩ : ∃ q, k = q + 1 := ⟨k - 1, by omega⟩
    have hlt : i < l.length := by omega
    simp only [impl_State_side.l0]
    rw [if_pos (by omega), if_pos (by omega), if_pos (by omega), wnat hlt (by omega), List.range'_succ]
    by_cases h : (rdOf false l (i : Int) == q) = true
    · rw [if_pos h, if_pos (by omega), ih k (i + 1) _ (by omega) (by omega) (by omega) (by simp; omega), List.filter_cons_of_pos (p := atSide l q) h, List.map_cons, List.append_assoc]
      rfl
    · rw [if_neg h, ih k (i + 1) _ (by omega) (by omega) (by omega) (by omega), List.filter_cons_of_neg (p := atSide l q) h]
theorem side_ev (l : List Bool) (t q : Bool) (hl : l.length ≤ 1048576) (k : Nat) (hk : l.length < k) : impl_State_side.f k l t q = some (sideL l q) := by
  unfold impl_State_side.f sideL
  have h := side_l0 l q hl l.length k 0 [] rfl (Nat.zero_le _) hk (Nat.le_refl _)
  rw [List.range_eq_range']
  simpa using h
theorem sideL_in (l : List Bool) (q : Bool) (x : Int) (h : x ∈ sideL l q) : 0 ≤ x ∧ x < (l.length : Int) := by
  unfold sideL at h
  rw [List.mem_map] at h
  obtain ⟨j, hj, rfl⟩ := h
  have h2 := List.mem_range.1 (List.mem_filter.1 hj).1
  omega
theorem sideL_has (l : List Bool) (q : Bool) (x : Nat) : (sideL l q).contains (x : Int) = (decide (x < l.length) && (rdOf false l (x : Int) == q)) := by
  rw [Bool.eq_iff_iff, List.contains_iff_mem, Bool.and_eq_true, decide_eq_true_eq]
  unfold sideL
  rw [List.mem_map]
  constructor
  · rintro ⟨j, hj, e⟩
    obtain rfl : j = x := by omega
    exact ⟨List.mem_range.1 (List.mem_filter.1 hj).1, (List.mem_filter.1 hj).2⟩
  · rintro ⟨h1, h2⟩
    exact ⟨x, List.mem_filter.2 ⟨List.mem_range.2 h1, h2⟩, rfl⟩

end Go.Proofs.Ytokfpjebnkfccaa.Pure
