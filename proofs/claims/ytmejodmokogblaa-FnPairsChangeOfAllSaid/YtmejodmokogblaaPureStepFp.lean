/- One step of a chain of calls, told by what the call comes to; and the two ways of a condition.
   Conditions: stated with each. -/
import Derived.Test.YtmejodmokogblaaPureAFp
namespace Go.Proofs.Ytmejodmokogblaa.Pure
open Go.RowKit Go.Proofs.YtmejodmokogblaaW.PrintWords

theorem step_ {α β : Type} {o : Option α} {f : α → Option β} {a : α} {r : Option β} (h : o = some a) (h2 : f a = r) : o.bind f = r := by
  rw [h]
  exact h2
theorem pos_ {α : Type} {c : Prop} [Decidable c] {x y r : α} (h : c) (h2 : x = r) : (if c then x else y) = r := by
  rw [if_pos h]
  exact h2
theorem neg_ {α : Type} {c : Prop} [Decidable c] {x y r : α} (h : ¬ c) (h2 : y = r) : (if c then x else y) = r := by
  rw [if_neg h]
  exact h2
theorem nene {b : Bool} : ¬ ((b != b) = true) := by simp

end Go.Proofs.Ytmejodmokogblaa.Pure
