/- The law FnExactEndBank returns true for all arguments: both functions tell the bank in which all are on the last side, in memory of its own, or nothing; the copies stay.
   Conditions: the lists are no longer than any Go slice. -/
import Derived.Test.YtomiikbcahocaaaPureKeepEb
import Derived.Test.YtomiikbcahocaaaPureKeepMarkEb
import Derived.Test.YtomiikbcahocaaaPureBankMarkEb
import Derived.Test.YtomiikbcahocaaaGEbx3
import Derived.Test.YtomiikbcahocaaaGEbx6
namespace Go.Proofs.Ytomiikbcahocaaa.Pure
open Go.RowKit Go.Proofs.Ytomiikbcahocaaa.G Go.Proofs.YtomiikbcahocaaaW.PrintWords

def endBank (n : Int) (l : List (List Int)) (s : Int) : List Bool × Bool × Bool := if isKeep n l s = true then (List.replicate n.toNat true, true, true) else ([], false, false)
theorem keEnd_l0 (n : Nat) (hn : n ≤ 1048576) (l : List (List Int)) (s : Int) (d : Nat) : ∀ (k i : Nat), n - i = d → i ≤ n → d < k → spec_keEnd.l0 k (i : Int) (n : Int) l s (List.replicate i true) true = some (List.replicate n true, true) := by
  induction d with
  | zero =>
    intro k i hd hi hk
    obtain ⟨k, rfl⟩ : ∃ q, k = q + 1 := ⟨k - 1, by omega⟩
    simp only [spec_keEnd.l0]
    rw [if_neg (by omega), show i = n by omega]
  | succ d ih =>
    intro k i hd hi hk
    obtain ⟨k, rfl⟩ : ∃ q, k = q + 1 := ⟨k - 1, by omega⟩
    simp only [spec_keEnd.l0]
    rw [if_pos (by omega), if_pos (by simp; omega), wnat (show i < n by omega) (by omega), ← List.replicate_succ']
    exact ih k (i + 1) (by omega) (by omega) (by omega)
theorem specEnd_ev (n : Int) (l : List (List Int)) (s : Int) (hl : l.length ≤ 1048576) (k : Nat) (hk : l.length * 2 + 8 < k) : spec_EndBank.f k n l s = some (endBank n l s) := by
  unfold spec_EndBank.f endBank
  rw [keGood_ev n l s hl k (by omega), bindsome]
  cases h : isKeep n l s
  · rfl
  · obtain ⟨hn, _⟩ := isKeep_out h
    obtain ⟨m, rfl⟩ : ∃ m : Nat, n = (m : Int) := ⟨n.toNat, by omega⟩
    have e := keEnd_l0 m (by omega) l s m k 0 rfl (Nat.zero_le _) (by omega)
    unfold spec_keEnd.f
    rw [if_pos rfl, if_pos rfl, show (0 : Int) = ((0 : Nat) : Int) from rfl]
    simp only [List.replicate_zero] at e
    rw [e, bindsome, Int.toNat_natCast]
theorem implEnd_ev (n : Int) (l : List (List Int)) (s : Int) (hl : l.length ≤ 1048576) (k : Nat) (hk : l.length * 2 + 5 < k) : impl_EndBank.f k n l s = some (endBank n l s) := by
  unfold impl_EndBank.f endBank
  rw [implIsKeep_ev n l s hl k hk, bindsome]
  cases h : isKeep n l s
  · rfl
  · obtain ⟨hn, _⟩ := isKeep_out h
    unfold impl_Keep_allOn.f slices_Repeat_bool_bool.f
    simp only
    rw [if_pos trivial, if_pos trivial, if_pos (by omega), bindsome, bindsome]
theorem endBank_len (n : Int) (l : List (List Int)) (s : Int) : (endBank n l s).1.length ≤ 8 := by
  unfold endBank
  split
  · rename_i h
    obtain ⟨hn, _⟩ := isKeep_out h
    simp
    omega
  · simp
theorem FnExactEndBank (n : Int) (l : List (List Int)) (s : Int) (h : l.length ≤ 9223372036854775807 ∧ ∀ x ∈ l, x.length ≤ 9223372036854775807) : ∃ k, laws_FnExactEndBank.f k n l s = some true := by
  refine ⟨l.length * 2 + 1048576 + 20, ?_⟩
  generalize hk : l.length * 2 + 1048576 + 20 = k
  unfold laws_FnExactEndBank.f
  obtain ⟨r, e0, _, hr⟩ := szKeep_ev n l s 1048576 h.1 h.2 (by omega) (by omega) k (by omega)
  rw [e0, bindsome]
  by_cases c : r < 0
  · rw [if_pos c]
  · rw [if_neg c]
    obtain ⟨h1, h2⟩ := hr (by omega)
    have h2' : ∀ x ∈ l, x.length ≤ 1048576 := fun x hx => by have := h2 x hx; omega
    have e1 := toKeep_ev n l s (by omega) h2' k (by omega)
    have e2 := specEnd_ev n l s (by omega) k (by omega)
    have e3 := implEnd_ev n l s (by omega) k (by omega)
    have e4 := eqKeep_ev n l s (by omega) h2' k (by omega)
    have e5 := markKeep_ev n l s 1 (by omega) h2' (by omega) (by omega) k (by omega)
    have hb := endBank_len n l s
    generalize endBank n l s = b at e2 e3 hb
    obtain ⟨b1, b2, b3⟩ := b
    simp only at hb
    have e6 := eqBank_ev b1 b1 b2 b2 (by omega) k (by omega)
    have e7 := markBank_ev b1 b2 1 (by omega) (by omega) k (by omega)
    have e8 := heldBank_ev b1.length b2 1 (by omega) (by omega) k (by omega)
    have n1 : ¬ (1 + (sumL l : Int) < 0) := by omega
    have n2 : ¬ (1 + (b1.length : Int) < 0) := by omega
    simp only [e1, e2, e3, e4, e5, e6, e7, e8, bindsome, n1, n2, if_false]
    simp

end Go.Proofs.Ytomiikbcahocaaa.Pure
