/- What the printed functions on crews come to.
   Conditions: stated with each. -/
import Derived.Test.YteimlfmecmagoaaPureIntTp
import Derived.Test.YteimlfmecmagoaaPureBoolTp
import Derived.Test.YteimlfmecmagoaaGTpx1
import Derived.Test.YteimlfmecmagoaaGTpx4
namespace Go.Proofs.Yteimlfmecmagoaa.Pure
open Go.RowKit Go.Proofs.Yteimlfmecmagoaa.G Go.Proofs.YteimlfmecmagoaaW.PrintWords

theorem szCrew_ev (l : List Int) (o : List Bool) (m a : Int) (h : l.length ≤ 9223372036854775807) (ho : o.length ≤ 9223372036854775807) (h0 : 0 ≤ a) (h1 : a ≤ 1048576) :
    laws_szCrew.f l o m a = some (if a < l.length then -1 else if a - l.length < o.length then -1 else a - l.length - o.length) := by
  unfold laws_szCrew.f
  rw [szIntS_ev l a h h0 h1, bindsome]
  by_cases c : a < l.length
  · rw [if_pos c, if_pos c]; rfl
  · rw [if_neg c, if_neg c, if_neg (by omega), szBoolS_ev o _ ho (by omega) (by omega), bindsome]
    by_cases c2 : a - l.length < o.length
    · rw [if_pos c2]; rfl
    · rw [if_neg c2, if_neg (by omega)]
theorem toCrew_ev (l : List Int) (o : List Bool) (m : Int) (hl : l.length ≤ 1048576) (ho : o.length ≤ 1048576) (k : Nat) (hk : l.length < k) (hk2 : o.length < k) : laws_toCrew.f k l o m = some (l, o, m) := by
  unfold laws_toCrew.f
  rw [toIntS_ev l hl k hk, bindsome, toBoolS_ev o ho k hk2, bindsome]
theorem eqCrew_ev (l : List Int) (o : List Bool) (m : Int) (hl : l.length ≤ 1048576) (ho : o.length ≤ 1048576) (k : Nat) (hk : l.length < k) (hk2 : o.length < k) : laws_eqCrew.f k l o m l o m = some true := by
  unfold laws_eqCrew.f
  rw [eqIntS_ev l l hl k hk, bindsome, eqBoolS_ev o o ho k hk2, bindsome]
  simp
def goodCrew (l : List Int) (o : List Bool) (m : Int) : Bool := (decide (1 ≤ (l.length : Int)) && decide ((l.length : Int) ≤ 7)) && ((l.all fun x => decide (1 ≤ x) && decide (x ≤ 500)) && (decide (o.length = l.length) && (decide (0 ≤ m) && decide (m ≤ 2000))))
theorem loGood_ev (l : List Int) (o : List Bool) (m : Int) (hl : l.length ≤ 1048576) (k : Nat) (hk : l.length < k) : spec_loGood.f k l o m = some (goodCrew l o m) := by
  unfold spec_loGood.f goodCrew
  simp only [l1In_ev, l1All_ev l 1 500 hl k hk, bindsome]
  by_cases h : o.length = l.length
  · have h' : (o.length : Int) = (l.length : Int) := by omega
    cases (decide (1 ≤ (l.length : Int)) && decide ((l.length : Int) ≤ 7)) <;> cases (l.all fun x => decide (1 ≤ x) && decide (x ≤ 500)) <;> simp [h]
  · have h' : ¬ (o.length : Int) = (l.length : Int) := by omega
    cases (decide (1 ≤ (l.length : Int)) && decide ((l.length : Int) ≤ 7)) <;> cases (l.all fun x => decide (1 ≤ x) && decide (x ≤ 500)) <;> simp [h, h']
theorem implIsCrew_ev (l : List Int) (o : List Bool) (m : Int) : impl_IsCrew.f l o m = some (goodCrew l o m) := by
  unfold impl_IsCrew.f impl_areIn.f goodCrew
  simp only [in_ev, bindsome]
  by_cases h : o.length = l.length
  · cases (decide (1 ≤ (l.length : Int))) <;> cases decide ((l.length : Int) ≤ 7) <;> cases (l.all fun x => decide (1 ≤ x) && decide (x ≤ 500)) <;> simp [h]
  · have h' : ¬ (o.length : Int) = (l.length : Int) := by omega
    cases (decide (1 ≤ (l.length : Int))) <;> cases decide ((l.length : Int) ≤ 7) <;> cases (l.all fun x => decide (1 ≤ x) && decide (x ≤ 500)) <;> simp [h, h']
theorem goodCrew_len {l : List Int} {o : List Bool} {m : Int} (h : goodCrew l o m = true) : 1 ≤ l.length ∧ l.length ≤ 7 ∧ o.length = l.length := by
  unfold goodCrew at h
  simp only [Bool.and_eq_true, decide_eq_true_eq] at h
  omega

end Go.Proofs.Yteimlfmecmagoaa.Pure
