/- The law FnExactPairTrips returns true for every number of people: both functions return the greater of 1 and twice the people less 3, or nothing outside of 1..12.
   Conditions: none beside the statement's own. -/
import Derived.Test.YtnlblmadaipheaaPFnExactPairTripsx1
namespace Go.Proofs.Ytnlblmadaipheaa.Pure
open Go.RowKit Go.Proofs.Ytnlblmadaipheaa.PFnExactPairTrips Go.Proofs.YtnlblmadaipheaaW.PrintWords Go.Proofs.YtnlblmadaipheaaW.PrintLast

theorem FnExactPairTrips : laws_FnExactPairTrips.Pure := by
  intro a h
  have e : impl_PairTrips.f a = spec_PairTrips.f a ∧ ∃ r, spec_PairTrips.f a = some r := by
    unfold impl_PairTrips.f spec_PairTrips.f impl_in.f spec_l1In.f spec_l1Most.f
    by_cases h1 : 1 ≤ a
    · by_cases h2 : a ≤ 12
      · simp only [ge_iff_le, h1, Option.bind_some, h2, decide_true, if_true]
        by_cases h3 : (1 : Int) > wrap64 (wrap64 (2 * a) - 3)
        · rw [if_pos h3]
          refine ⟨?_, _, rfl⟩
          show some (mx 1 _, true) = some (1, true)
          unfold mx
          congr 2
          omega
        · rw [if_neg h3]
          refine ⟨?_, _, rfl⟩
          show some (mx 1 _, true) = some (wrap64 (wrap64 (2 * a) - 3), true)
          unfold mx
          congr 2
          omega
      · simp [h1, h2]
    · simp [h1]
  obtain ⟨e1, r, e2⟩ := e
  unfold laws_FnExactPairTrips.f
  rw [e1, e2]
  simp

end Go.Proofs.Ytnlblmadaipheaa.Pure
