/- The law FnExactIsCamp returns true for all arguments: both functions say the same of the copies of the night and the camp, and the copies stay.
   Conditions: the lists are no longer than any Go slice. -/
import Derived.Test.YteimlfmecmagoaaPureNight
import Derived.Test.YteimlfmecmagoaaPureBool
import Derived.Test.YteimlfmecmagoaaGx1
import Derived.Test.YteimlfmecmagoaaGx2
import Derived.Test.YteimlfmecmagoaaGx3
namespace Go.Proofs.Yteimlfmecmagoaa.Pure
open Go.RowKit Go.Proofs.Yteimlfmecmagoaa.G Go.Proofs.YteimlfmecmagoaaW.PrintWords

theorem szCamp_ev (l : List Bool) (s a : Int) (h : l.length ≤ 9223372036854775807) (h0 : 0 ≤ a) (h1 : a ≤ 1048576) : laws_szCamp.f l s a = some (if a < l.length then -1 else a - l.length) := by
  unfold laws_szCamp.f
  rw [szBoolS_ev l a h h0 h1, bindsome]
  by_cases c : a < l.length
  · rw [if_pos c]; rfl
  · rw [if_neg c, if_neg (by omega)]
theorem toCamp_ev (l : List Bool) (s : Int) (hl : l.length ≤ 1048576) (k : Nat) (hk : l.length < k) : laws_toCamp.f k l s = some (l, s) := by
  unfold laws_toCamp.f
  rw [toBoolS_ev l hl k hk, bindsome]
theorem eqCamp_ev (l : List Bool) (s : Int) (hl : l.length ≤ 1048576) (k : Nat) (hk : l.length < k) : laws_eqCamp.f k l s l s = some true := by
  unfold laws_eqCamp.f
  rw [eqBoolS_ev l l hl k hk, bindsome]
  simp
def isCamp (l : List Int) (s t : Int) (o : List Bool) (u : Int) : Bool := goodNight l s t && (decide (o.length = l.length) && (decide (0 ≤ u) && decide (u ≤ t)))
theorem specIsCamp_ev (l : List Int) (s t : Int) (o : List Bool) (u : Int) (hl : l.length ≤ 1048576) (k : Nat) (hk : l.length < k) : spec_IsCamp.f k l s t o u = some (isCamp l s t o u) := by
  unfold spec_IsCamp.f spec_toCamp.f isCamp
  simp only [toGood_ev l s t hl k hk, l1In_ev, bindsome]
  cases goodNight l s t
  · rfl
  · by_cases h : o.length = l.length
    · simp [h]
    · rw [if_pos rfl, if_neg (by omega)]; simp [h]
theorem implIsCamp_ev (l : List Int) (s t : Int) (o : List Bool) (u : Int) : impl_IsCamp.f l s t o u = some (isCamp l s t o u) := by
  unfold impl_IsCamp.f impl_Night_hasCamp.f isCamp
  simp only [implIsNight_ev, in_ev, bindsome]
  cases goodNight l s t
  · rfl
  · by_cases h : o.length = l.length
    · simp [h]
    · rw [if_pos rfl, if_neg (by omega)]; simp [h]
theorem FnExactIsCamp (l : List Int) (s t : Int) (o : List Bool) (u : Int) (h : l.length ≤ 9223372036854775807) (ho : o.length ≤ 9223372036854775807) : ∃ k, laws_FnExactIsCamp.f k l s t o u = some true := by
  refine ⟨l.length + o.length + 1, ?_⟩
  generalize hk : l.length + o.length + 1 = k
  unfold laws_FnExactIsCamp.f
  rw [szNight_ev l s t _ h (by omega) (by omega), bindsome]
  by_cases c : (1048576 : Int) < l.length
  · rw [if_pos c]; rfl
  · rw [if_neg c, if_neg (by omega), szCamp_ev o u _ ho (by omega) (by omega), bindsome]
    by_cases c2 : (1048576 : Int) - l.length < o.length
    · rw [if_pos c2]; rfl
    · rw [if_neg c2, if_neg (by omega)]
      have e1 := toNight_ev l s t (by omega) k (by omega)
      have e2 := toCamp_ev o u (by omega) k (by omega)
      have e3 := specIsCamp_ev l s t o u (by omega) k (by omega)
      have e4 := implIsCamp_ev l s t o u
      have e5 := eqNight_ev l s t (by omega) k (by omega)
      have e6 := eqCamp_ev o u (by omega) k (by omega)
      simp only [e1, e2, e3, e4, e5, e6, bindsome]
      simp

end Go.Proofs.Yteimlfmecmagoaa.Pure
