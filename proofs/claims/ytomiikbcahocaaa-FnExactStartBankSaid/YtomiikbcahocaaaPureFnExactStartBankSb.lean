/- The law FnExactStartBank returns true for all arguments: both functions tell the bank in which all are on the first side, in memory of its own, or nothing; the copies stay.
   Conditions: the lists are no longer than any Go slice. -/
import Derived.Test.YtomiikbcahocaaaPureKeepSb
import Derived.Test.YtomiikbcahocaaaPureKeepMarkSb
import Derived.Test.YtomiikbcahocaaaPureBankMarkSb
import Derived.Test.YtomiikbcahocaaaGSbx2
import Derived.Test.YtomiikbcahocaaaGSbx5
import Derived.Test.YtomiikbcahocaaaGSbx6
namespace Go.Proofs.Ytomiikbcahocaaa.Pure
open Go.RowKit Go.Proofs.Ytomiikbcahocaaa.G Go.Proofs.YtomiikbcahocaaaW.PrintWords

def startBank (n : Int) (l : List (List Int)) (s : Int) : List Bool × Bool × Bool := if isKeep n l s = true then (List.replicate n.toNat false, false, true) else ([], false, false)
theorem specStart_ev (n : Int) (l : List (List Int)) (s : Int) (hl : l.length ≤ 1048576) (k : Nat) (hk : l.length * 2 + 5 < k) : spec_StartBank.f k n l s = some (startBank n l s) := by
  unfold spec_StartBank.f startBank
  rw [keGood_ev n l s hl k hk, bindsome]
  cases h : isKeep n l s
  · rfl
  · obtain ⟨hn, _⟩ := isKeep_out h
    unfold spec_keStart.f
    rw [if_pos rfl, if_pos rfl, if_pos (by omega), if_pos (by omega), bindsome]
theorem implStart_ev (n : Int) (l : List (List Int)) (s : Int) (hl : l.length ≤ 1048576) (k : Nat) (hk : l.length * 2 + 5 < k) : impl_StartBank.f k n l s = some (startBank n l s) := by
  unfold impl_StartBank.f startBank
  rw [implIsKeep_ev n l s hl k hk, bindsome]
  cases h : isKeep n l s
  · rfl
  · obtain ⟨hn, _⟩ := isKeep_out h
    unfold impl_Keep_allOn.f slices_Repeat_bool_bool.f
    simp only
    rw [if_pos trivial, if_pos trivial, if_pos (by omega), bindsome, bindsome]
theorem startBank_len (n : Int) (l : List (List Int)) (s : Int) : (startBank n l s).1.length ≤ 8 := by
  unfold startBank
  split
  · rename_i h
    obtain ⟨hn, _⟩ := isKeep_out h
    simp
    omega
  · simp
theorem FnExactStartBank (n : Int) (l : List (List Int)) (s : Int) (h : l.length ≤ 9223372036854775807 ∧ ∀ x ∈ l, x.length ≤ 9223372036854775807) : ∃ k, laws_FnExactStartBank.f k n l s = some true := by
  refine ⟨l.length * 2 + 1048576 + 20, ?_⟩
  generalize hk : l.length * 2 + 1048576 + 20 = k
  unfold laws_FnExactStartBank.f
  obtain ⟨r, e0, _, hr⟩ := szKeep_ev n l s 1048576 h.1 h.2 (by omega) (by omega) k (by omega)
  rw [e0, bindsome]
  by_cases c : r < 0
  · rw [if_pos c]
  · rw [if_neg c]
    obtain ⟨h1, h2⟩ := hr (by omega)
    have h2' : ∀ x ∈ l, x.length ≤ 1048576 := fun x hx => by have := h2 x hx; omega
    have e1 := toKeep_ev n l s (by omega) h2' k (by omega)
    have e2 := specStart_ev n l s (by omega) k (by omega)
    have e3 := implStart_ev n l s (by omega) k (by omega)
    have e4 := eqKeep_ev n l s (by omega) h2' k (by omega)
    have e5 := markKeep_ev n l s 1 (by omega) h2' (by omega) (by omega) k (by omega)
    have hb := startBank_len n l s
    generalize startBank n l s = b at e2 e3 hb
    obtain ⟨b1, b2, b3⟩ := b
    simp only at hb
    have e6 := eqBank_ev b1 b1 b2 b2 (by omega) k (by omega)
    have e7 := markBank_ev b1 b2 1 (by omega) (by omega) k (by omega)
    have e8 := heldBank_ev b1.length b2 1 (by omega) (by omega) k (by omega)
    have n1 : ¬ (1 + (sumL l : Int) < 0) := by omega
    have n2 : ¬ (1 + (b1.length : Int) < 0) := by omega
    simp only [e1, e2, e3, e4, e5, e6, e7, e8, bindsome, n1, n2, if_false]
    simp

end Go.Proofs.Ytomiikbcahocaaa.Pure
