/- What the printed functions on nights and camps come to.
   Conditions: stated with each. -/
import Derived.Test.YteimlfmecmagoaaPureInt
import Derived.Test.YteimlfmecmagoaaGx1
import Derived.Test.YteimlfmecmagoaaGx2
namespace Go.Proofs.Yteimlfmecmagoaa.Pure
open Go.RowKit Go.Proofs.Yteimlfmecmagoaa.G Go.Proofs.YteimlfmecmagoaaW.PrintWords

def goodNight (l : List Int) (s t : Int) : Bool := (decide (1 ≤ (l.length : Int)) && decide ((l.length : Int) ≤ 6)) && ((l.all fun x => decide (1 ≤ x) && decide (x ≤ 1000)) && ((decide (1 ≤ s) && decide (s ≤ 3)) && (decide (1 ≤ t) && decide (t ≤ 2))))
theorem szNight_ev (l : List Int) (s t a : Int) (h : l.length ≤ 9223372036854775807) (h0 : 0 ≤ a) (h1 : a ≤ 1048576) : laws_szNight.f l s t a = some (if a < l.length then -1 else a - l.length) := by
  unfold laws_szNight.f
  rw [szIntS_ev l a h h0 h1, bindsome]
  by_cases c : a < l.length
  · rw [if_pos c]; rfl
  · rw [if_neg c, if_neg (by omega)]
theorem toNight_ev (l : List Int) (s t : Int) (hl : l.length ≤ 1048576) (k : Nat) (hk : l.length < k) : laws_toNight.f k l s t = some (l, s, t) := by
  unfold laws_toNight.f
  rw [toIntS_ev l hl k hk, bindsome]
theorem eqNight_ev (l : List Int) (s t : Int) (hl : l.length ≤ 1048576) (k : Nat) (hk : l.length < k) : laws_eqNight.f k l s t l s t = some true := by
  unfold laws_eqNight.f
  rw [eqIntS_ev l l hl k hk, bindsome]
  simp
theorem toGood_ev (l : List Int) (s t : Int) (hl : l.length ≤ 1048576) (k : Nat) (hk : l.length < k) : spec_toGood.f k l s t = some (goodNight l s t) := by
  unfold spec_toGood.f goodNight
  simp only [l1In_ev, l1All_ev l 1 1000 hl k hk, bindsome]
  cases (decide (1 ≤ (l.length : Int)) && decide ((l.length : Int) ≤ 6)) <;> cases (l.all fun x => decide (1 ≤ x) && decide (x ≤ 1000)) <;> cases (decide (1 ≤ s) && decide (s ≤ 3)) <;> simp
theorem implIsNight_ev (l : List Int) (s t : Int) : impl_IsNight.f l s t = some (goodNight l s t) := by
  unfold impl_IsNight.f impl_areIn.f goodNight
  simp only [in_ev, bindsome]
  cases (decide (1 ≤ (l.length : Int))) <;> cases decide ((l.length : Int) ≤ 6) <;> cases (l.all fun x => decide (1 ≤ x) && decide (x ≤ 1000)) <;> cases (decide (1 ≤ s) && decide (s ≤ 3)) <;> simp

end Go.Proofs.Yteimlfmecmagoaa.Pure
