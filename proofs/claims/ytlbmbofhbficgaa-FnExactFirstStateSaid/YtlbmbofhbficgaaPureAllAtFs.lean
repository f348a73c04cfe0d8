/- A state in which all are on one side: what the printed functions come to.
   Conditions: stated with each. -/
import Derived.Test.YtlbmbofhbficgaaPureStateFs
import Derived.Test.YtlbmbofhbficgaaGFsx2
import Derived.Test.YtlbmbofhbficgaaGFsx1
namespace Go.Proofs.Ytlbmbofhbficgaa.Pure
open Go.RowKit Go.Proofs.Ytlbmbofhbficgaa.G Go.Proofs.YtlbmbofhbficgaaW.PrintWords

theorem allAt_ev (n : Nat) (b : Bool) (hn : n ≤ 16) : impl_allAt.f (n : Int) b = some (List.replicate n b, b) := by
  unfold impl_allAt.f slices_Repeat_bool_bool.f
  simp only
  rw [if_pos (by omega), bindsome, Int.toNat_natCast]
theorem paFirst_ev (p : List Int) (s : Int) (hp : p.length ≤ 1048576) : spec_paFirst.f p s = some (List.replicate p.length false, false) := by
  unfold spec_paFirst.f
  rw [if_pos (by omega), if_pos (by omega), Int.toNat_natCast]

end Go.Proofs.Ytlbmbofhbficgaa.Pure
