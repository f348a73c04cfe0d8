/- What marking a list of bools and asking for the marks come to.
   Conditions: stated with each. -/
import Derived.Test.YtomiikbcahocaaaPureBoolPy
import Derived.Test.YtomiikbcahocaaaGPyx2
namespace Go.Proofs.Ytomiikbcahocaaa.Pure
open Go.RowKit Go.Proofs.Ytomiikbcahocaaa.G Go.Proofs.YtomiikbcahocaaaW.PrintWords

def seqB (a : Int) (n : Nat) : List Bool := (List.range n).map fun (i : Nat) => (Int.tmod (a + (i : Int)) 3 == 0)
theorem seqB_length (a : Int) (n : Nat) : (seqB a n).length = n := by simp [seqB]
theorem seqB_get (a : Int) (n i : Nat) (h : i < (seqB a n).length) : (seqB a n)[i] = (Int.tmod (a + (i : Int)) 3 == 0) := by simp [seqB]
theorem markBoolS_l0 (a : Int) (n : Nat) (ha : 0 ≤ a) (hb : a + n ≤ 4611686018427387904) (d : Nat) : ∀ (k i : Nat) (m : List Bool), n - i = d → i ≤ n → d < k → m.length = n → m.take i = (seqB a n).take i → laws_markBoolS.l0 k m (a + (i : Int)) (i : Int) = some (a + (n : Int), seqB a n) := by
  induction d with
  | zero =>
    intro k i m hd hi hk hm ht
    obtain ⟨k, rfl⟩ : ∃ q, k = q + 1 := ⟨k - 1, by omega⟩
    simp only [laws_markBoolS.l0]
    rw [if_neg (by omega)]
    have e : i = n := by omega
    subst e
    have h1 : m.take m.length = (seqB a i).take m.length := by rw [hm]; exact ht
    rw [List.take_length, hm] at h1
    have h2 : (seqB a i).take i = seqB a i := List.take_of_length_le (by rw [seqB_length]; omega)
    rw [h1, h2]
  | succ d ih =>
    intro k i m hd hi hk hm ht
    obtain ⟨k, rfl⟩ : ∃ q, k = q + 1 := ⟨k - 1, by omega⟩
    have hlt : i < n := by omega
    simp only [laws_markBoolS.l0]
    rw [if_pos (by omega), if_pos (by omega), wnat hlt (by omega), wadd (x := a + (i : Int) + 1) (by omega) (by omega), Int.toNat_natCast, show a + (i : Int) + 1 = a + ((i + 1 : Nat) : Int) by omega]
    refine ih k (i + 1) _ (by omega) (by omega) (by omega) (by rw [List.length_set]; exact hm) ?_
    have h := take_set (seqB a n) m i (by rw [hm, seqB_length]) (by rw [seqB_length]; omega) ht
    rw [seqB_get] at h
    exact h
theorem markBoolS_ev (l : List Bool) (a : Int) (ha : 0 ≤ a) (hb : a + l.length ≤ 4611686018427387904) (k : Nat) (hk : l.length < k) : laws_markBoolS.f k l a = some (a + (l.length : Int), seqB a l.length) := by
  unfold laws_markBoolS.f
  have h := markBoolS_l0 a l.length ha hb l.length k 0 l rfl (Nat.zero_le _) hk rfl (by simp)
  simpa using h
theorem heldBoolS_l0 (a : Int) (n : Nat) (ha : 0 ≤ a) (hb : a + n ≤ 4611686018427387904) (d : Nat) : ∀ (k i : Nat), n - i = d → i ≤ n → d < k → laws_heldBoolS.l0 k (seqB a n) (a + (i : Int)) (i : Int) = some (a + (n : Int)) := by
  induction d with
  | zero =>
    intro k i hd hi hk
    obtain ⟨k, rfl⟩ : ∃ q, k = q + 1 := ⟨k - 1, by omega⟩
    simp only [laws_heldBoolS.l0]
    rw [if_neg (by rw [seqB_length]; omega), show i = n by omega]
  | succ d ih =>
    intro k i hd hi hk
    obtain ⟨k, rfl⟩ : ∃ q, k = q + 1 := ⟨k - 1, by omega⟩
    have hlt : i < n := by omega
    simp only [laws_heldBoolS.l0]
    rw [if_pos (by rw [seqB_length]; omega), if_pos (by omega), rdb _ i (by rw [seqB_length]; omega), seqB_get, if_neg (by simp), wnat hlt (by omega), wadd (x := a + (i : Int) + 1) (by omega) (by omega), show a + (i : Int) + 1 = a + ((i + 1 : Nat) : Int) by omega]
    exact ih k (i + 1) (by omega) (by omega) (by omega)
theorem heldBoolS_ev (n : Nat) (a : Int) (ha : 0 ≤ a) (hb : a + n ≤ 4611686018427387904) (k : Nat) (hk : n < k) : laws_heldBoolS.f k (seqB a n) a = some (a + (n : Int)) := by
  unfold laws_heldBoolS.f
  have h := heldBoolS_l0 a n ha hb n k 0 rfl (Nat.zero_le _) hk
  simpa using h

end Go.Proofs.Ytomiikbcahocaaa.Pure
