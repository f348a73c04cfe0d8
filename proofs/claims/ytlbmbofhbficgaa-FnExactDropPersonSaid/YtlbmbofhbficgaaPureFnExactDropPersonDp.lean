/- The law FnExactDropPerson returns true for all arguments: both functions accept the same arguments and take the same number out of the list.
   Conditions: the list is no longer than any Go slice. -/
import Derived.Test.YtlbmbofhbficgaaPurePartyDp
import Derived.Test.YtlbmbofhbficgaaPurePartyMarkDp
import Derived.Test.YtlbmbofhbficgaaGDpx1
import Derived.Test.YtlbmbofhbficgaaGDpx2
import Derived.Test.YtlbmbofhbficgaaGDpx3
import Derived.Test.YtlbmbofhbficgaaGDpx4
namespace Go.Proofs.Ytlbmbofhbficgaa.Pure
open Go.RowKit Go.Proofs.Ytlbmbofhbficgaa.G Go.Proofs.YtlbmbofhbficgaaW.PrintWords

/-- What both functions return. -/
def dropR (l : List Int) (s a : Int) : List Int × Int × Bool := if (goodParty l s && (decide (0 ≤ a) && decide (a ≤ (l.length : Int) - 1)) && !decide (l.length = 1)) = true then (l.take a.toNat ++ l.drop (a.toNat + 1), s, true) else ([], 0, false)
theorem specDrop_ev (l : List Int) (s a : Int) (hl : l.length ≤ 1048576) (k : Nat) (hk : l.length < k) : spec_DropPerson.f k l s a = some (dropR l s a) := by
  unfold spec_DropPerson.f dropR
  rw [paGood_ev l s hl k hk, bindsome]
  cases hg : goodParty l s
  · simp
  · obtain ⟨h1, h8, _⟩ := goodParty_le hg
    rw [if_pos rfl, wadd (x := (l.length : Int) - 1) (by omega) (by omega), l1In_ev, bindsome, Bool.true_and]
    cases ha : (decide (0 ≤ a) && decide (a ≤ (l.length : Int) - 1))
    · simp
    · simp only [Bool.and_eq_true, decide_eq_true_eq] at ha
      rw [if_pos rfl]
      by_cases h2 : l.length = 1
      · rw [if_pos (by omega)]
        simp [h2]
      · rw [if_neg (by omega), if_pos ha.1, if_pos (by omega), wadd (x := a + 1) (by omega) (by omega)]
        have e : spec_l1Own.f (l.take a.toNat) = some (l.take a.toNat) := by
          unfold spec_l1Own.f
          rw [bindsome]
          simp only [List.length_nil, List.nil_append]
          rw [if_pos (by simp; omega)]
        rw [e, bindsome, if_pos (by omega), if_pos (by omega), if_pos (by simp; omega), show (a + 1).toNat = a.toNat + 1 by omega]
        simp [h2]
theorem implDrop_ev (l : List Int) (s a : Int) (hl : l.length ≤ 1048576) (k : Nat) (hk : 1 < k) : impl_DropPerson.f k l s a = some (dropR l s a) := by
  obtain ⟨k, rfl⟩ : ∃ q, k = q + 1 := ⟨k - 1, by omega⟩
  unfold impl_DropPerson.f dropR
  rw [implIsParty_ev, bindsome]
  simp only [impl_DropPerson.j0]
  cases hg : goodParty l s
  · simp
  · obtain ⟨h1, h8, _⟩ := goodParty_le hg
    rw [if_pos rfl, wadd (x := (l.length : Int) - 1) (by omega) (by omega), in_ev, bindsome, Bool.true_and]
    cases ha : (decide (0 ≤ a) && decide (a ≤ (l.length : Int) - 1))
    · simp
    · simp only [Bool.and_eq_true, decide_eq_true_eq] at ha
      rw [if_pos rfl]
      by_cases h2 : l.length = 1
      · rw [if_pos (by simp [h2])]
        simp [h2]
      · rw [if_neg (by simp; omega)]
        have e : slices_Clone_int_int.f l = some l := by
          unfold slices_Clone_int_int.f
          rw [if_pos (by omega)]
        have e2 : slices_Delete_int_int.f l a (a + 1) = some (l.take a.toNat ++ l.drop (a.toNat + 1)) := by
          unfold slices_Delete_int_int.f
          rw [if_pos (by omega), show (a + 1).toNat = a.toNat + 1 by omega]
        rw [wadd (x := a + 1) (by omega) (by omega), e, bindsome, e2, bindsome]
        simp [h2]
theorem dropR_len (l : List Int) (s a : Int) : (dropR l s a).1.length ≤ l.length := by
  unfold dropR
  split
  · simp; omega
  · simp
theorem FnExactDropPerson (l : List Int) (s a : Int) (h : l.length ≤ 9223372036854775807) : ∃ k, laws_FnExactDropPerson.f k l s a = some true := by
  refine ⟨l.length + 2, ?_⟩
  generalize hk : l.length + 2 = k
  unfold laws_FnExactDropPerson.f
  rw [szParty_ev l s _ h (by omega) (by omega), bindsome]
  by_cases c : (1048576 : Int) < l.length
  · rw [if_pos c]; rfl
  · rw [if_neg c, if_neg (by omega)]
    have hr := dropR_len l s a
    have e1 := toParty_ev l s (by omega) k (by omega)
    have e2 := specDrop_ev l s a (by omega) k (by omega)
    have e3 := implDrop_ev l s a (by omega) k (by omega)
    generalize dropR l s a = r at hr e2 e3
    obtain ⟨r1, r2, r3⟩ := r
    simp only at hr
    have e4 := eqParty_ev r1 r1 r2 r2 (by omega) k (by omega)
    have e5 := eqParty_ev l l s s (by omega) k (by omega)
    have e6 := markParty_ev l s 1 (by omega) (by omega) k (by omega)
    have e7 := markParty_ev r1 r2 1 (by omega) (by omega) k (by omega)
    have e8 := heldParty_ev r1.length r2 1 (by omega) (by omega) k (by omega)
    have n1 : ¬ (1 + (l.length : Int) < 0) := by omega
    have n2 : ¬ (1 + (r1.length : Int) < 0) := by omega
    simp only [e1, e2, e3, e4, e5, e6, e7, e8, bindsome, n1, n2, if_false]
    simp

end Go.Proofs.Ytlbmbofhbficgaa.Pure
