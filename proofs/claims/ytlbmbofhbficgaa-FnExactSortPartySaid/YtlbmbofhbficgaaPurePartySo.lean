/- What the printed functions on parties come to: sizes, copies, comparisons, and when there is a party.
   Conditions: stated with each. -/
import Derived.Test.YtlbmbofhbficgaaPureIntSo
import Derived.Test.YtlbmbofhbficgaaGSox1
import Derived.Test.YtlbmbofhbficgaaGSox2
namespace Go.Proofs.Ytlbmbofhbficgaa.Pure
open Go.RowKit Go.Proofs.Ytlbmbofhbficgaa.G Go.Proofs.YtlbmbofhbficgaaW.PrintWords

def goodParty (l : List Int) (s : Int) : Bool := (decide (1 ≤ (l.length : Int)) && decide ((l.length : Int) ≤ 8)) && ((l.all fun x => decide (1 ≤ x) && decide (x ≤ 1000)) && (decide (1 ≤ s) && decide (s ≤ 3)))
theorem szParty_ev (l : List Int) (s a : Int) (h : l.length ≤ 9223372036854775807) (h0 : 0 ≤ a) (h1 : a ≤ 1048576) : laws_szParty.f l s a = some (if a < l.length then -1 else a - l.length) := by
  unfold laws_szParty.f
  rw [szIntS_ev l a h h0 h1, bindsome]
  by_cases c : a < l.length
  · rw [if_pos c]; rfl
  · rw [if_neg c, if_neg (by omega)]
theorem toParty_ev (l : List Int) (s : Int) (hl : l.length ≤ 1048576) (k : Nat) (hk : l.length < k) : laws_toParty.f k l s = some (l, s) := by
  unfold laws_toParty.f
  rw [toIntS_ev l hl k hk, bindsome]
theorem eqParty_ev (l m : List Int) (s t : Int) (hl : l.length ≤ 1048576) (k : Nat) (hk : l.length < k) : laws_eqParty.f k l s m t = some (decide (l = m) && decide (s = t)) := by
  unfold laws_eqParty.f
  rw [eqIntS_ev l m hl k hk, bindsome]
  by_cases h : l = m <;> by_cases h2 : s = t <;> simp [h, h2]
theorem paGood_ev (l : List Int) (s : Int) (hl : l.length ≤ 1048576) (k : Nat) (hk : l.length < k) : spec_paGood.f k l s = some (goodParty l s) := by
  unfold spec_paGood.f goodParty
  rw [l1In_ev, bindsome, l1All_ev l 1 1000 hl k hk, bindsome, l1In_ev, bindsome]
  cases (decide (1 ≤ (l.length : Int)) && decide ((l.length : Int) ≤ 8)) <;> cases (l.all fun x => decide (1 ≤ x) && decide (x ≤ 1000)) <;> rfl
theorem implIsParty_ev (l : List Int) (s : Int) : impl_IsParty.f l s = some (goodParty l s) := by
  unfold impl_IsParty.f impl_areIn.f goodParty
  rw [bindsome, in_ev, bindsome]
  cases (decide (1 ≤ (l.length : Int))) <;> cases decide ((l.length : Int) ≤ 8) <;> cases (l.all fun x => decide (1 ≤ x) && decide (x ≤ 1000)) <;> rfl
theorem goodParty_le {l : List Int} {s : Int} (h : goodParty l s = true) : 1 ≤ l.length ∧ l.length ≤ 8 ∧ (∀ x ∈ l, 1 ≤ x ∧ x ≤ 1000) ∧ 1 ≤ s ∧ s ≤ 3 := by
  unfold goodParty at h
  simp only [Bool.and_eq_true, decide_eq_true_eq, List.all_eq_true] at h
  obtain ⟨⟨h1, h2⟩, h3, h4, h5⟩ := h
  exact ⟨by omega, by omega, h3, h4, h5⟩

end Go.Proofs.Ytlbmbofhbficgaa.Pure
