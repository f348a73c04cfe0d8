/- The law FnExactRideOver returns true for all arguments: both functions tell the bank behind a ride, in memory of its own, or nothing; the copies stay.
   Conditions: the lists are no longer than any Go slice. -/
import Derived.Test.YtomiikbcahocaaaPureRideRo
import Derived.Test.YtomiikbcahocaaaPureKeepMarkRo
import Derived.Test.YtomiikbcahocaaaPureBankMarkRo
import Derived.Test.YtomiikbcahocaaaPureIntMarkRo
import Derived.Test.YtomiikbcahocaaaGRox6
import Derived.Test.YtomiikbcahocaaaGRox12
import Derived.Test.YtomiikbcahocaaaGRox13
namespace Go.Proofs.Ytomiikbcahocaaa.Pure
open Go.RowKit Go.Proofs.Ytomiikbcahocaaa.G Go.Proofs.YtomiikbcahocaaaW.PrintWords

def rideOver (n : Int) (L : List (List Int)) (s : Int) (o : List Bool) (q : Bool) (l : List Int) : List Bool × Bool × Bool := if (hasBank n L s o && isRide n L s o q l) = true then (setAll o (!q) l, !q, true) else ([], false, false)
theorem isRide_valid {n : Int} {L : List (List Int)} {s : Int} {o : List Bool} {q : Bool} {l : List Int} (h : isRide n L s o q l = true) (ho : (o.length : Int) = n) : (∀ x ∈ l, 0 ≤ x ∧ x < (o.length : Int)) ∧ onSide o q l = true := by
  unfold isRide at h
  rw [Bool.and_eq_true, Bool.and_eq_true] at h
  exact ⟨by rw [ho]; exact (fitsR_valid h.1).2, h.2.1⟩
theorem specRide_ev (n : Int) (L : List (List Int)) (s : Int) (o : List Bool) (q : Bool) (l : List Int) (hL : L.length ≤ 1048576) (ho : o.length ≤ 1048576) (hl : l.length ≤ 1048576) (k : Nat) (hk : L.length * 2 + l.length * 2 + 10 < k) : spec_RideOver.f k n L s o q l = some (rideOver n L s o q l) := by
  unfold spec_RideOver.f rideOver
  rw [keAsked_ev n L s o q hL k (by omega), bindsome]
  cases h : hasBank n L s o
  · rfl
  · obtain ⟨hK, hO⟩ := hasBank_out h
    obtain ⟨_, _, hg⟩ := isKeep_out hK
    rw [if_pos rfl, keCan_ev n L s o q l hL hg ho hO hl k (by omega), bindsome, Bool.true_and]
    cases h2 : isRide n L s o q l
    · rfl
    · obtain ⟨hv, hs⟩ := isRide_valid h2 hO
      rw [if_pos rfl, if_pos rfl, keRide_ev o q l ho hl hv hs k (by omega), bindsome]
theorem implRide_ev (n : Int) (L : List (List Int)) (s : Int) (o : List Bool) (q : Bool) (l : List Int) (hL : L.length ≤ 1048576) (ho : o.length ≤ 1048576) (hl : l.length ≤ 1048576) (k : Nat) (hk : L.length * 2 + l.length * 2 + 10 < k) : impl_RideOver.f k n L s o q l = some (rideOver n L s o q l) := by
  unfold impl_RideOver.f rideOver
  rw [hasBank_ev n L s o q hL k (by omega), bindsome]
  cases h : hasBank n L s o
  · rfl
  · obtain ⟨hK, hO⟩ := hasBank_out h
    obtain ⟨_, _, hg⟩ := isKeep_out hK
    rw [if_pos rfl, isRide_ev n L s o q l hL hg ho hO hl k (by omega), bindsome, Bool.true_and]
    cases h2 : isRide n L s o q l
    · rfl
    · obtain ⟨hv, hs⟩ := isRide_valid h2 hO
      rw [if_pos rfl, if_pos rfl, ridden_ev o q l ho hl hv k (by omega), bindsome]
theorem rideOver_len (n : Int) (L : List (List Int)) (s : Int) (o : List Bool) (q : Bool) (l : List Int) : (rideOver n L s o q l).1.length ≤ o.length := by
  unfold rideOver
  split
  · simp [setAll_length]
  · simp
theorem FnExactRideOver (n : Int) (L : List (List Int)) (s : Int) (o : List Bool) (q : Bool) (l : List Int) (h : L.length ≤ 9223372036854775807 ∧ ∀ x ∈ L, x.length ≤ 9223372036854775807) (ho : o.length ≤ 9223372036854775807) (_hl : l.length ≤ 9223372036854775807) : ∃ k, laws_FnExactRideOver.f k n L s o q l = some true := by
  refine ⟨L.length * 2 + l.length * 2 + 1048576 + o.length + 20, ?_⟩
  generalize hk : L.length * 2 + l.length * 2 + 1048576 + o.length + 20 = k
  unfold laws_FnExactRideOver.f
  by_cases c0 : (l.length : Int) > 1048576
  · rw [if_pos c0]
  · rw [if_neg c0]
    obtain ⟨r, e0, hr1, hr⟩ := szKeep_ev n L s 1048576 h.1 h.2 (by omega) (by omega) k (by omega)
    rw [e0, bindsome]
    by_cases c : r < 0
    · rw [if_pos c]
    · rw [if_neg c]
      obtain ⟨h1, h2⟩ := hr (by omega)
      have h2' : ∀ x ∈ L, x.length ≤ 1048576 := fun x hx => by have := h2 x hx; omega
      rw [szBank_ev o q r ho (by omega) (by omega), bindsome]
      by_cases c2 : r < (o.length : Int)
      · rw [if_pos c2]; rfl
      · rw [if_neg c2, if_neg (by omega)]
        have hs := sumL_le L h2'
        have e1 := toKeep_ev n L s (by omega) h2' k (by omega)
        have e2 := toBank_ev o q (by omega) k (by omega)
        have e12 := toIntS_ev l (by omega) k (by omega)
        have e3 := specRide_ev n L s o q l (by omega) (by omega) (by omega) k (by omega)
        have e4 := implRide_ev n L s o q l (by omega) (by omega) (by omega) k (by omega)
        have e5 := eqKeep_ev n L s (by omega) h2' k (by omega)
        have e6 := eqBank_ev o o q q (by omega) k (by omega)
        have e13 := eqIntS_ev l l (by omega) k (by omega)
        have e7 := markKeep_ev n L s 1 (by omega) h2' (by omega) (by omega) k (by omega)
        have e8 := markBank_ev o q (1 + (sumL L : Int)) (by omega) (by omega) k (by omega)
        have e14 := markIntS_ev l (1 + (sumL L : Int) + (o.length : Int)) (by omega) (by omega) k (by omega)
        have hb := rideOver_len n L s o q l
        generalize rideOver n L s o q l = b at e3 e4 hb
        obtain ⟨b1, b2, b3⟩ := b
        simp only at hb
        have e9 := eqBank_ev b1 b1 b2 b2 (by omega) k (by omega)
        have e10 := markBank_ev b1 b2 1 (by omega) (by omega) k (by omega)
        have e11 := heldBank_ev b1.length b2 1 (by omega) (by omega) k (by omega)
        have n1 : ¬ (1 + (sumL L : Int) + (o.length : Int) + (l.length : Int) < 0) := by omega
        have n2 : ¬ (1 + (b1.length : Int) < 0) := by omega
        simp only [e1, e2, e3, e4, e5, e6, e7, e8, e9, e10, e11, e12, e13, e14, bindsome, n1, n2, if_false]
        simp

end Go.Proofs.Ytomiikbcahocaaa.Pure
