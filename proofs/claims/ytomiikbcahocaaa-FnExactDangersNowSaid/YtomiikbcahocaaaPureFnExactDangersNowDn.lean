/- The law FnExactDangersNow returns true for all arguments: both functions tell the dangers in the bank, in memory of its own, or nothing; the copies stay.
   Conditions: the lists are no longer than any Go slice. -/
import Derived.Test.YtomiikbcahocaaaPureKeepDn
import Derived.Test.YtomiikbcahocaaaPureKeepMarkDn
import Derived.Test.YtomiikbcahocaaaPureDangerDn
import Derived.Test.YtomiikbcahocaaaPureBankMarkDn
import Derived.Test.YtomiikbcahocaaaGDnx4
import Derived.Test.YtomiikbcahocaaaGDnx7
import Derived.Test.YtomiikbcahocaaaGDnx8
namespace Go.Proofs.Ytomiikbcahocaaa.Pure
open Go.RowKit Go.Proofs.Ytomiikbcahocaaa.G Go.Proofs.YtomiikbcahocaaaW.PrintWords

def dangersNow (n : Int) (l : List (List Int)) (s : Int) (o : List Bool) (q : Bool) : List (List Int) × Bool := if hasBank n l s o = true then (l.filter (dng o q), true) else ([], false)
theorem specNow_ev (n : Int) (l : List (List Int)) (s : Int) (o : List Bool) (q : Bool) (hl : l.length ≤ 1048576) (k : Nat) (hk : l.length * 2 + 5 < k) : spec_DangersNow.f k n l s o q = some (dangersNow n l s o q) := by
  unfold spec_DangersNow.f dangersNow
  rw [keAsked_ev n l s o q hl k hk, bindsome]
  cases h : hasBank n l s o
  · rfl
  · obtain ⟨hK, hO⟩ := hasBank_out h
    obtain ⟨_, _, hg⟩ := isKeep_out hK
    rw [if_pos rfl, if_pos rfl, keNow_ev n l s o q hl hO hg k (by omega), bindsome]
theorem implNow_ev (n : Int) (l : List (List Int)) (s : Int) (o : List Bool) (q : Bool) (hl : l.length ≤ 1048576) (k : Nat) (hk : l.length * 2 + 5 < k) : impl_DangersNow.f k n l s o q = some (dangersNow n l s o q) := by
  unfold impl_DangersNow.f dangersNow
  rw [hasBank_ev n l s o q hl k hk, bindsome]
  cases h : hasBank n l s o
  · rfl
  · obtain ⟨hK, hO⟩ := hasBank_out h
    obtain ⟨_, _, hg⟩ := isKeep_out hK
    rw [if_pos rfl, if_pos rfl, dangers_ev n l s o q hl hO hg k (by omega), bindsome]
theorem dangersNow_len (n : Int) (l : List (List Int)) (s : Int) (o : List Bool) (q : Bool) (hb : ∀ x ∈ l, x.length ≤ 1048576) : (dangersNow n l s o q).1.length ≤ l.length ∧ ∀ x ∈ (dangersNow n l s o q).1, x.length ≤ 1048576 := by
  unfold dangersNow
  split
  · exact ⟨List.length_filter_le _ _, fun x hx => hb x (List.mem_filter.1 hx).1⟩
  · exact ⟨by simp, fun x hx => by simp at hx⟩
theorem FnExactDangersNow (n : Int) (l : List (List Int)) (s : Int) (o : List Bool) (q : Bool) (h : l.length ≤ 9223372036854775807 ∧ ∀ x ∈ l, x.length ≤ 9223372036854775807) (ho : o.length ≤ 9223372036854775807) : ∃ k, laws_FnExactDangersNow.f k n l s o q = some true := by
  refine ⟨l.length * 2 + 1048576 + o.length + 20, ?_⟩
  generalize hk : l.length * 2 + 1048576 + o.length + 20 = k
  unfold laws_FnExactDangersNow.f
  obtain ⟨r, e0, hr1, hr⟩ := szKeep_ev n l s 1048576 h.1 h.2 (by omega) (by omega) k (by omega)
  rw [e0, bindsome]
  by_cases c : r < 0
  · rw [if_pos c]
  · rw [if_neg c]
    obtain ⟨h1, h2⟩ := hr (by omega)
    have h2' : ∀ x ∈ l, x.length ≤ 1048576 := fun x hx => by have := h2 x hx; omega
    rw [szBank_ev o q r ho (by omega) (by omega), bindsome]
    by_cases c2 : r < (o.length : Int)
    · rw [if_pos c2]; rfl
    · rw [if_neg c2, if_neg (by omega)]
      have hs := sumL_le l h2'
      have e1 := toKeep_ev n l s (by omega) h2' k (by omega)
      have e2 := toBank_ev o q (by omega) k (by omega)
      have e3 := specNow_ev n l s o q (by omega) k (by omega)
      have e4 := implNow_ev n l s o q (by omega) k (by omega)
      have e5 := eqKeep_ev n l s (by omega) h2' k (by omega)
      have e6 := eqBank_ev o o q q (by omega) k (by omega)
      have e7 := markKeep_ev n l s 1 (by omega) h2' (by omega) (by omega) k (by omega)
      have e8 := markBank_ev o q (1 + (sumL l : Int)) (by omega) (by omega) k (by omega)
      have hb := dangersNow_len n l s o q h2'
      generalize dangersNow n l s o q = b at e3 e4 hb
      obtain ⟨b1, b2⟩ := b
      simp only at hb
      have e9 := eqIntSS_ev b1 b1 (by omega) hb.2 k (by omega)
      have e10 := markIntSS_ev b1 1 (by omega) hb.2 (by omega) (by omega) k (by omega)
      have e11 := heldIntSS_ev b1 1 (by omega) hb.2 (by omega) (by omega) k (by omega)
      have n1 : ¬ (1 + (sumL l : Int) + (o.length : Int) < 0) := by omega
      have n2 : ¬ (1 + (sumL b1 : Int) < 0) := by omega
      simp only [e1, e2, e3, e4, e5, e6, e7, e8, e9, e10, e11, bindsome, n1, n2, if_false]
      simp

end Go.Proofs.Ytomiikbcahocaaa.Pure
