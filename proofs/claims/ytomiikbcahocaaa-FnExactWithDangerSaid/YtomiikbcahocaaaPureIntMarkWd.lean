/- What marking a list of ints and asking for the marks come to.
   Conditions: stated with each. -/
import Derived.Test.YtomiikbcahocaaaPureIntWd
import Derived.Test.YtomiikbcahocaaaGWdx1
import Derived.Test.YtomiikbcahocaaaGWdx8
namespace Go.Proofs.Ytomiikbcahocaaa.Pure
open Go.RowKit Go.Proofs.Ytomiikbcahocaaa.G Go.Proofs.YtomiikbcahocaaaW.PrintWords

/-- a, a + 1, .., n of them. -/
def seqI (a : Int) (n : Nat) : List Int := (List.range n).map fun (i : Nat) => a + (i : Int)
theorem seqI_length (a : Int) (n : Nat) : (seqI a n).length = n := by simp [seqI]
theorem seqI_get (a : Int) (n i : Nat) (h : i < (seqI a n).length) : (seqI a n)[i] = a + (i : Int) := by simp [seqI]
theorem markIntS_l0 (a : Int) (n : Nat) (ha : 0 ≤ a) (hb : a + n ≤ 4611686018427387904) (d : Nat) : ∀ (k i : Nat) (m : List Int), n - i = d → i ≤ n → d < k → m.length = n → m.take i = (seqI a n).take i → laws_markIntS.l0 k m (a + (i : Int)) (i : Int) = some (a + (n : Int), seqI a n) := by
  induction d with
  | zero =>
    intro k i m hd hi hk hm ht
    obtain ⟨k, rfl⟩ : ∃ q, k = q + 1 := ⟨k - 1, by omega⟩
    simp only [laws_markIntS.l0]
    rw [if_neg (by omega)]
    have e : i = n := by omega
    subst e
    have h1 : m.take m.length = (seqI a i).take m.length := by rw [hm]; exact ht
    rw [List.take_length, hm] at h1
    have h2 : (seqI a i).take i = seqI a i := List.take_of_length_le (by rw [seqI_length]; omega)
    rw [h1, h2]
  | succ d ih =>
    intro k i m hd hi hk hm ht
    obtain ⟨k, rfl⟩ : ∃ q, k = q + 1 := ⟨k - 1, by omega⟩
    have hlt : i < n := by omega
    simp only [laws_markIntS.l0]
    rw [if_pos (by omega), if_pos (by omega), wnat hlt (by omega), wadd (x := a + (i : Int) + 1) (by omega) (by omega), Int.toNat_natCast, show a + (i : Int) + 1 = a + ((i + 1 : Nat) : Int) by omega]
    refine ih k (i + 1) _ (by omega) (by omega) (by omega) (by rw [List.length_set]; exact hm) ?_
    have h := take_set (seqI a n) m i (by rw [hm, seqI_length]) (by rw [seqI_length]; omega) ht
    rw [seqI_get] at h
    exact h
theorem markIntS_ev (l : List Int) (a : Int) (ha : 0 ≤ a) (hb : a + l.length ≤ 4611686018427387904) (k : Nat) (hk : l.length < k) : laws_markIntS.f k l a = some (a + (l.length : Int), seqI a l.length) := by
  unfold laws_markIntS.f
  have h := markIntS_l0 a l.length ha hb l.length k 0 l rfl (Nat.zero_le _) hk rfl (by simp)
  simpa using h
theorem heldIntS_l0 (a : Int) (n : Nat) (ha : 0 ≤ a) (hb : a + n ≤ 4611686018427387904) (d : Nat) : ∀ (k i : Nat), n - i = d → i ≤ n → d < k → laws_heldIntS.l0 k (seqI a n) (a + (i : Int)) (i : Int) = some (a + (n : Int)) := by
  induction d with
  | zero =>
    intro k i hd hi hk
    obtain ⟨k, rfl⟩ : ∃ q, k = q + 1 := ⟨k - 1, by omega⟩
    simp only [laws_heldIntS.l0]
    rw [if_neg (by rw [seqI_length]; omega), show i = n by omega]
  | succ d ih =>
    intro k i hd hi hk
    obtain ⟨k, rfl⟩ : ∃ q, k = q + 1 := ⟨k - 1, by omega⟩
    have hlt : i < n := by omega
    simp only [laws_heldIntS.l0]
    rw [if_pos (by rw [seqI_length]; omega), if_pos (by omega), rdn _ i (by rw [seqI_length]; omega), seqI_get, if_pos rfl, wnat hlt (by omega), wadd (x := a + (i : Int) + 1) (by omega) (by omega), show a + (i : Int) + 1 = a + ((i + 1 : Nat) : Int) by omega]
    exact ih k (i + 1) (by omega) (by omega) (by omega)
theorem heldIntS_ev (n : Nat) (a : Int) (ha : 0 ≤ a) (hb : a + n ≤ 4611686018427387904) (k : Nat) (hk : n < k) : laws_heldIntS.f k (seqI a n) a = some (a + (n : Int)) := by
  unfold laws_heldIntS.f
  have h := heldIntS_l0 a n ha hb n k 0 rfl (Nat.zero_le _) hk
  simpa using h

end Go.Proofs.Ytomiikbcahocaaa.Pure
