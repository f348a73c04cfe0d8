/- The law FnExactTripThatFails returns true for all arguments: both functions tell the index of the first list that is no trip, or nothing.
   Conditions: the lists are no longer than any Go slice. -/
import Derived.Test.YtlbmbofhbficgaaPurePlayTf
import Derived.Test.YtlbmbofhbficgaaGTfx4
import Derived.Test.YtlbmbofhbficgaaGTfx5
import Derived.Test.YtlbmbofhbficgaaGTfx6
namespace Go.Proofs.Ytlbmbofhbficgaa.Pure
open Go.RowKit Go.Proofs.Ytlbmbofhbficgaa.G Go.Proofs.YtlbmbofhbficgaaW.PrintWords

def tripThatFails (p : List Int) (s : Int) (o : List Bool) (t : Bool) (ll : List (List Int)) : Int × Bool :=
  if (goodParty p s && goodState p.length o t) = true then (if ll.length ≤ 40 then (match (playR p.length s ll o t 0).2.2 with | none => (0, false) | some i => ((i : Int), true)) else (0, false)) else (0, false)
theorem specTripThatFails_ev (p : List Int) (s : Int) (o : List Bool) (t : Bool) (ll : List (List Int)) (hp : p.length ≤ 1048576) (ho : o.length ≤ 1048576) (hl : ll.length ≤ 1048576) (hb : ∀ x ∈ ll, x.length ≤ 1048576) (k : Nat) (hk : p.length + o.length + ll.length + 1048577 < k) :
    spec_TripThatFails.f k p s o t ll = some (tripThatFails p s o t ll) := by
  unfold spec_TripThatFails.f tripThatFails
  rw [paAsked_ev p s o t hp ho k (by omega) (by omega), bindsome]
  obtain ⟨k, rfl⟩ : ∃ q, k = q + 1 := ⟨k - 1, by omega⟩
  cases h : (goodParty p s && goodState p.length o t)
  · simp [spec_TripThatFails.j0]
  · rw [Bool.and_eq_true] at h
    rw [if_pos rfl, if_pos rfl]
    simp only [spec_TripThatFails.j0]
    by_cases c : ll.length ≤ 40
    · rw [if_pos c, decide_eq_false (show ¬ (ll.length : Int) > 40 by omega), if_neg (by simp)]
      have e := paPlay_ev p s o t ll hp (goodState_len h.2) hl hb k (by omega)
      cases h2 : (playR p.length s ll o t 0).2.2 with
      | none =>
        rw [h2] at e
        rw [show idxOr (ll.length : Int) none = (ll.length : Int) from rfl] at e
        rw [e, bindsome]
        simp
      | some i =>
        have := playR_idx _ _ _ _ _ _ _ h2
        rw [h2] at e
        rw [show idxOr (ll.length : Int) (some i) = (i : Int) from rfl] at e
        rw [e, bindsome]
        simp
        omega
    · rw [if_neg c, decide_eq_true (show (ll.length : Int) > 40 by omega)]
      rfl
theorem implTripThatFails_ev (p : List Int) (s : Int) (o : List Bool) (t : Bool) (ll : List (List Int)) (hp : p.length ≤ 1048576) (ho : o.length ≤ 1048576) (hl : ll.length ≤ 1048576) (hb : ∀ x ∈ ll, x.length ≤ 1048576) (k : Nat) (hk : p.length + o.length + ll.length + 1048577 < k) :
    impl_TripThatFails.f k p s o t ll = some (tripThatFails p s o t ll) := by
  unfold impl_TripThatFails.f tripThatFails
  rw [hasState_ev p s o t ho k (by omega), bindsome]
  cases h : (goodParty p s && goodState p.length o t)
  · rfl
  · rw [Bool.and_eq_true] at h
    rw [if_pos rfl, if_pos rfl]
    by_cases c : ll.length ≤ 40
    · rw [if_pos c, if_neg (show ¬ (ll.length : Int) > 40 by omega), failing_ev p s o t ll hp (goodState_len h.2) hl hb k (by omega), bindsome]
      cases h2 : (playR p.length s ll o t 0).2.2 with
      | none => rfl
      | some i =>
        have hm : mx (i : Int) 0 = (i : Int) := by unfold mx; omega
        simp [idxOr, hm]
    · rw [if_neg c, if_pos (show (ll.length : Int) > 40 by omega)]
theorem FnExactTripThatFails (p : List Int) (s : Int) (o : List Bool) (t : Bool) (ll : List (List Int)) (hp : p.length ≤ 9223372036854775807) (ho : o.length ≤ 9223372036854775807) (hl : ll.length ≤ 9223372036854775807 ∧ ∀ x ∈ ll, x.length ≤ 9223372036854775807) : ∃ k, laws_FnExactTripThatFails.f k p s o t ll = some true := by
  refine ⟨p.length + o.length + ll.length + 1048580, ?_⟩
  generalize hk : p.length + o.length + ll.length + 1048580 = k
  unfold laws_FnExactTripThatFails.f
  rw [szParty_ev p s _ hp (by omega) (by omega), bindsome]
  by_cases c : (1048576 : Int) < p.length
  · rw [if_pos c]; rfl
  · rw [if_neg c, if_neg (by omega), szState_ev o t _ ho (by omega) (by omega), bindsome]
    by_cases c2 : (1048576 : Int) - p.length < o.length
    · rw [if_pos c2]; rfl
    · rw [if_neg c2, if_neg (by omega)]
      obtain ⟨r, h1, h2, h3⟩ := szIntSS_ev ll (1048576 - (p.length : Int) - o.length) hl.1 hl.2 (by omega) (by omega) k (by omega)
      rw [h1, bindsome]
      by_cases c3 : r < 0
      · rw [if_pos c3]
      · rw [if_neg c3]
        obtain ⟨h4, h5⟩ := h3 (by omega)
        have hb : ∀ x ∈ ll, x.length ≤ 1048576 := fun x hx => by have := h5 x hx; omega
        have e1 := toParty_ev p s (by omega) k (by omega)
        have e2 := toState_ev o t (by omega) k (by omega)
        have e3 := toIntSS_ev ll (by omega) hb k (by omega)
        have e4 := specTripThatFails_ev p s o t ll (by omega) (by omega) (by omega) hb k (by omega)
        have e5 := implTripThatFails_ev p s o t ll (by omega) (by omega) (by omega) hb k (by omega)
        have e6 := eqParty_ev p p s s (by omega) k (by omega)
        have e7 := eqState_ev o o t t (by omega) k (by omega)
        have e8 := eqIntSS_ev ll ll (by omega) hb k (by omega)
        simp only [e1, e2, e3, e4, e5, e6, e7, e8, bindsome]
        simp

end Go.Proofs.Ytlbmbofhbficgaa.Pure
