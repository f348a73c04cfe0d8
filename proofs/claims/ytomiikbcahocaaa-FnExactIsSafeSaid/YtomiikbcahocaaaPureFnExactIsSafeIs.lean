/- The law FnExactIsSafe returns true for all arguments: both functions ask for the dangers in the bank, and the copies stay.
   Conditions: the lists are no longer than any Go slice. -/
import Derived.Test.YtomiikbcahocaaaPureKeepIs
import Derived.Test.YtomiikbcahocaaaPureDangerIs
import Derived.Test.YtomiikbcahocaaaPureBankIs
import Derived.Test.YtomiikbcahocaaaGIsx3
import Derived.Test.YtomiikbcahocaaaGIsx6
import Derived.Test.YtomiikbcahocaaaGIsx7
namespace Go.Proofs.Ytomiikbcahocaaa.Pure
open Go.RowKit Go.Proofs.Ytomiikbcahocaaa.G Go.Proofs.YtomiikbcahocaaaW.PrintWords

theorem FnExactIsSafe (n : Int) (l : List (List Int)) (s : Int) (o : List Bool) (q : Bool) (h : l.length ≤ 9223372036854775807 ∧ ∀ x ∈ l, x.length ≤ 9223372036854775807) (ho : o.length ≤ 9223372036854775807) : ∃ k, laws_FnExactIsSafe.f k n l s o q = some true := by
  refine ⟨l.length * 2 + 1048576 + o.length + 6, ?_⟩
  generalize hk : l.length * 2 + 1048576 + o.length + 6 = k
  unfold laws_FnExactIsSafe.f spec_IsSafe.f impl_IsSafe.f
  obtain ⟨r, e0, hr1, hr⟩ := szKeep_ev n l s 1048576 h.1 h.2 (by omega) (by omega) k (by omega)
  rw [e0, bindsome]
  by_cases c : r < 0
  · rw [if_pos c]
  · rw [if_neg c]
    obtain ⟨h1, h2⟩ := hr (by omega)
    have h2' : ∀ x ∈ l, x.length ≤ 1048576 := fun x hx => by have := h2 x hx; omega
    rw [szBank_ev o q r ho (by omega) (by omega), bindsome]
    by_cases c2 : r < (o.length : Int)
    · rw [if_pos c2]; rfl
    · rw [if_neg c2, if_neg (by omega)]
      have e1 := toKeep_ev n l s (by omega) h2' k (by omega)
      have e2 := toBank_ev o q (by omega) k (by omega)
      have e3 := keAsked_ev n l s o q (by omega) k (by omega)
      have e4 := hasBank_ev n l s o q (by omega) k (by omega)
      have e5 := eqKeep_ev n l s (by omega) h2' k (by omega)
      have e6 := eqBank_ev o o q q (by omega) k (by omega)
      simp only [e1, e2, e3, e4, e5, e6, bindsome]
      cases hb : hasBank n l s o
      · simp
      · obtain ⟨hK, hO⟩ := hasBank_out hb
        obtain ⟨_, _, hg⟩ := isKeep_out hK
        have e7 := keNow_ev n l s o q (by omega) hO hg k (by omega)
        have e8 := dangers_ev n l s o q (by omega) hO hg k (by omega)
        simp only [e7, e8, bindsome]
        simp

end Go.Proofs.Ytomiikbcahocaaa.Pure
