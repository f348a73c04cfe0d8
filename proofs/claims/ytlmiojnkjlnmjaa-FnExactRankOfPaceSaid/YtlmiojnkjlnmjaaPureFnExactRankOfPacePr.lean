/- The law FnExactRankOfPace returns true for all arguments: both functions tell the people in the order of pace, in memory of its own, or nothing; the copies stay.
   Conditions: the list is no longer than any Go slice. -/
import Derived.Test.YtlmiojnkjlnmjaaPureOrderPr
import Derived.Test.YtlmiojnkjlnmjaaPureIntMarkPr
import Derived.Test.YtlmiojnkjlnmjaaGPrx3
import Derived.Test.YtlmiojnkjlnmjaaGPrx2
namespace Go.Proofs.Ytlmiojnkjlnmjaa.Pure
open Go.RowKit Go.Proofs.Ytlmiojnkjlnmjaa.G Go.Proofs.YtlmiojnkjlnmjaaW.PrintWords

def rankOf (l : List Int) : List Int × Bool := if isTimes l = true then (impl_pace.paceL l, true) else ([], false)
theorem specRank_ev (l : List Int) (hl : l.length ≤ 1048576) (k : Nat) (hk : l.length + 200 < k) : spec_RankOfPace.f k l = some (rankOf l) := by
  unfold spec_RankOfPace.f rankOf
  rw [prGood_ev l hl k (by omega), bindsome]
  cases h : isTimes l
  · rfl
  · obtain ⟨h1, h2, _⟩ := isTimes_out h
    rw [if_pos rfl, if_pos rfl, prOrder_ev l h2 k (by omega), bindsome]
theorem implRank_ev (l : List Int) : impl_RankOfPace.f l = some (rankOf l) := by
  unfold impl_RankOfPace.f rankOf
  rw [isTimes_ev, bindsome]
  cases h : isTimes l
  · rfl
  · obtain ⟨h1, h2, _⟩ := isTimes_out h
    unfold impl_pace.f
    rw [if_pos rfl, if_pos rfl, if_pos (by omega), bindsome]
theorem rankOf_len (l : List Int) : (rankOf l).1.length ≤ 12 := by
  unfold rankOf
  split
  · rename_i h
    obtain ⟨h1, h2, _⟩ := isTimes_out h
    simp [impl_pace.paceL]
    omega
  · simp
theorem FnExactRankOfPace (l : List Int) (h : l.length ≤ 9223372036854775807) : ∃ k, laws_FnExactRankOfPace.f k l = some true := by
  refine ⟨l.length + 300, ?_⟩
  generalize hk : l.length + 300 = k
  unfold laws_FnExactRankOfPace.f
  by_cases c : (l.length : Int) > 1048576
  · rw [if_pos c]
  · rw [if_neg c]
    have e1 := toIntS_ev l (by omega) k (by omega)
    have e2 := specRank_ev l (by omega) k (by omega)
    have e3 := implRank_ev l
    have hr := rankOf_len l
    generalize rankOf l = r at e2 e3 hr
    obtain ⟨r1, r2⟩ := r
    simp only at hr
    have e4 := eqIntS_ev r1 r1 (by omega) k (by omega)
    have e5 := eqIntS_ev l l (by omega) k (by omega)
    have e6 := markIntS_ev l 1 (by omega) (by omega) k (by omega)
    have e7 := markIntS_ev r1 1 (by omega) (by omega) k (by omega)
    have e8 := heldIntS_ev r1.length 1 (by omega) (by omega) k (by omega)
    have n1 : ¬ (1 + (l.length : Int) < 0) := by omega
    have n2 : ¬ (1 + (r1.length : Int) < 0) := by omega
    simp only [e1, e2, e3, e4, e5, e6, e7, e8, bindsome, n1, n2, if_false]
    simp

end Go.Proofs.Ytlmiojnkjlnmjaa.Pure
