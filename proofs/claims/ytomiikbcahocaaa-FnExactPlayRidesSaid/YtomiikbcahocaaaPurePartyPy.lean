/- What the printed functions on parties come to: sizes, copies, comparisons, and when there is a party.
   Conditions: stated with each. -/
import Derived.Test.YtomiikbcahocaaaPureIntPy
namespace Go.Proofs.Ytomiikbcahocaaa.Pure
open Go.RowKit Go.Proofs.Ytomiikbcahocaaa.G Go.Proofs.YtomiikbcahocaaaW.PrintWords

def goodParty (l : List Int) (s : Int) : Bool := (decide (1 ≤ (l.length : Int)) && decide ((l.length : Int) ≤ 8)) && ((l.all fun x => decide (1 ≤ x) && decide (x ≤ 1000)) && (decide (1 ≤ s) && decide (s ≤ 3)))
theorem goodParty_le {l : List Int} {s : Int} (h : goodParty l s = true) : 1 ≤ l.length ∧ l.length ≤ 8 ∧ (∀ x ∈ l, 1 ≤ x ∧ x ≤ 1000) ∧ 1 ≤ s ∧ s ≤ 3 := by
  unfold goodParty at h
  simp only [Bool.and_eq_true, decide_eq_true_eq, List.all_eq_true] at h
  obtain ⟨⟨h1, h2⟩, h3, h4, h5⟩ := h
  exact ⟨by omega, by omega, h3, h4, h5⟩

end Go.Proofs.Ytomiikbcahocaaa.Pure
