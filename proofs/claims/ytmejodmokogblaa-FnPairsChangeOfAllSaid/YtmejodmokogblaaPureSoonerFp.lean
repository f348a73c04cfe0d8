/- The least time with another time for one person: both functions.
   Conditions: stated with each. -/
import Derived.Test.YtmejodmokogblaaPureTripsTimeFp
import Derived.Test.YtmejodmokogblaaGFpx6
import Derived.Test.YtmejodmokogblaaGFpx1
import Derived.Test.YtmejodmokogblaaGFpx2
import Derived.Test.YtmejodmokogblaaGFpx5
namespace Go.Proofs.Ytmejodmokogblaa.Pure
open Go.RowKit Go.Proofs.Ytmejodmokogblaa.G Go.Proofs.YtmejodmokogblaaW.PrintWords

theorem isTimes_in {l : List Int} (h1 : 1 ≤ l.length) (h2 : l.length ≤ 12) (h3 : ∀ x ∈ l, 1 ≤ x ∧ x ≤ 1000) : isTimes l = true := by
  unfold isTimes
  rw [Bool.and_eq_true, decide_eq_true_eq, List.all_eq_true]
  exact ⟨⟨h1, h2⟩, fun x hx => by have := h3 x hx; simp; omega⟩
theorem isTimes_set {l : List Int} (h : isTimes l = true) (i : Nat) (v : Int) (hv : 1 ≤ v ∧ v ≤ 1000) : isTimes (l.set i v) = true := by
  obtain ⟨h1, h2, h3⟩ := isTimes_out h
  refine isTimes_in (by simp; omega) (by simp; omega) (fun x hx => ?_)
  rcases List.mem_or_eq_of_mem_set hx with e | e
  · exact h3 x e
  · rw [e]; exact hv
/-- Whether there are times and a person. -/
def person (l : List Int) (a : Int) : Bool := isTimes l && (decide (0 ≤ a) && decide (a ≤ (l.length : Int) - 1))
theorem prPerson_ev (l : List Int) (a : Int) (hl : l.length ≤ 1048576) (k : Nat) (hk : l.length < k) : spec_prPerson.f k l a = some (person l a) := by
  unfold spec_prPerson.f person
  rw [prGood_ev l hl k hk, bindsome]
  cases h : isTimes l
  · rfl
  · rw [if_pos rfl, l1In_ev, bindsome, wadd (by omega) (by omega)]
    rfl
theorem person_out {l : List Int} {a : Int} (h : person l a = true) : isTimes l = true ∧ 0 ≤ a ∧ a < (l.length : Int) := by
  unfold person at h
  rw [Bool.and_eq_true, Bool.and_eq_true, decide_eq_true_eq, decide_eq_true_eq] at h
  exact ⟨h.1, h.2.1, by omega⟩
/-- The two least times, with a person's time and with another. -/
theorem twoTimes (l : List Int) (a v : Int) (h : person l a = true) (hv : 1 ≤ v ∧ v ≤ 1000) : ∃ u t : Int, (0 ≤ u ∧ u ≤ 24000) ∧ (0 ≤ t ∧ t ≤ 24000) ∧ ∀ k, 300 < k → spec_prTime.f k l = some u ∧ spec_prWith.f k l a v = some t ∧ impl_sooner.f k l a v = some (u - t) := by
  obtain ⟨h1, h2, h3⟩ := person_out h
  have hb := isTimes_out h1
  obtain ⟨u, hu, eu⟩ := timeBoth l h1
  obtain ⟨t, ht, et⟩ := timeBoth (l.set a.toNat v) (isTimes_set h1 a.toNat v hv)
  have hc : slices_Clone_int_int.f l = some l := by
    unfold slices_Clone_int_int.f
    rw [if_pos (by omega)]
  have ho : spec_l1Own.f l = some l := by
    unfold spec_l1Own.f
    rw [bindsome, if_pos (by simp; omega), List.nil_append]
  refine ⟨u, t, hu, ht, fun k hk => ⟨(eu k hk).1, ?_, ?_⟩⟩
  · unfold spec_prWith.f
    rw [ho, bindsome, if_pos h2, if_pos h3, (et k hk).1, bindsome]
  · unfold impl_sooner.f
    rw [hc, bindsome, if_pos h2, if_pos h3, (eu k hk).2, bindsome, (et k hk).2, bindsome, wadd (by omega) (by omega)]

end Go.Proofs.Ytmejodmokogblaa.Pure
