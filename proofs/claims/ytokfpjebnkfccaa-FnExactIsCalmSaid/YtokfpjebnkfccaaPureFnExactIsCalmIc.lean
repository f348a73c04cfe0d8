/- The law FnExactIsCalm returns true for all arguments: both functions accept the same states, and say the same of them, one by the state's number, one by its lists.
   Conditions: the list is no longer than any Go slice. -/
import Derived.Test.YtokfpjebnkfccaaPureCalmStateIc
import Derived.Test.YtokfpjebnkfccaaGIcx3
import Derived.Test.YtokfpjebnkfccaaGIcx4
import Derived.Test.YtokfpjebnkfccaaGIcx1
import Derived.Test.YtokfpjebnkfccaaGIcx5
namespace Go.Proofs.Ytokfpjebnkfccaa.Pure
open Go.RowKit Go.Proofs.Ytokfpjebnkfccaa.G Go.Proofs.YtokfpjebnkfccaaW.PrintWords

theorem FnExactIsCalm (n s : Int) (l : List Bool) (t : Bool) (h : l.length ≤ 9223372036854775807) : ∃ k, laws_FnExactIsCalm.f k n s l t = some true := by
  refine ⟨l.length + 50, ?_⟩
  generalize hk : l.length + 50 = k
  unfold laws_FnExactIsCalm.f
  rw [szState_ev l t _ h (by omega) (by omega), bindsome]
  by_cases c : (1048576 : Int) < l.length
  · rw [if_pos c]; rfl
  · rw [if_neg c, if_neg (by omega)]
    have e0 : laws_toCompany.f n s = some (n, s) := rfl
    have e1 := toState_ev l t (by omega) k (by omega)
    have e2 := eqState_ev l l t t (by omega) k (by omega)
    have e3 := cuIs_ev n s l t (by omega) k (by omega)
    have e4 := hasState_ev n s l t (by omega) k (by omega)
    unfold spec_IsCalm.f impl_IsCalm.f
    simp only [e0, e1, e2, e3, e4, bindsome]
    cases hg : goodCS n s l t
    · simp
    · obtain ⟨hn, hs, hlen⟩ := good_parts hg
      obtain ⟨m, rfl⟩ : ∃ m : Nat, n = (m : Int) := ⟨n.toNat, by omega⟩
      obtain ⟨b, e5, hb, hb2, hbit⟩ := cuCode_ev l t (by omega) k (by omega)
      have hl2 : l.length = 2 * m := by omega
      rw [hl2] at hb
      have e6 := quiet_ev m b s t (by omega) hb k (by omega)
      have e7 := isCalm_ev m b l t (by omega) hl2 hb hbit k (by omega)
      simp only [e5, e6, e7, bindsome]
      simp

end Go.Proofs.Ytokfpjebnkfccaa.Pure
