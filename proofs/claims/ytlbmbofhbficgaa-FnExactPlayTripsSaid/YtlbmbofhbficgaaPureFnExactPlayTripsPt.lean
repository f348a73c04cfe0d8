/- The law FnExactPlayTrips returns true for all arguments: both functions tell the state behind the trips, in memory of its own, or nothing; the copies stay.
   Conditions: the lists are no longer than any Go slice. -/
import Derived.Test.YtlbmbofhbficgaaPurePlayPt
import Derived.Test.YtlbmbofhbficgaaPurePartyMarkPt
import Derived.Test.YtlbmbofhbficgaaPureStateMarkPt
import Derived.Test.YtlbmbofhbficgaaPureIntSSMarkPt
import Derived.Test.YtlbmbofhbficgaaGPtx5
import Derived.Test.YtlbmbofhbficgaaGPtx7
import Derived.Test.YtlbmbofhbficgaaGPtx8
namespace Go.Proofs.Ytlbmbofhbficgaa.Pure
open Go.RowKit Go.Proofs.Ytlbmbofhbficgaa.G Go.Proofs.YtlbmbofhbficgaaW.PrintWords

def playTrips (p : List Int) (s : Int) (o : List Bool) (t : Bool) (ll : List (List Int)) : List Bool × Bool × Bool :=
  if (goodParty p s && goodState p.length o t) = true then (if ll.length ≤ 40 then (match (playR p.length s ll o t 0).2.2 with | none => ((playR p.length s ll o t 0).1, (playR p.length s ll o t 0).2.1, true) | some _ => ([], false, false)) else ([], false, false)) else ([], false, false)
theorem specPlayTrips_ev (p : List Int) (s : Int) (o : List Bool) (t : Bool) (ll : List (List Int)) (hp : p.length ≤ 1048576) (ho : o.length ≤ 1048576) (hl : ll.length ≤ 1048576) (hb : ∀ x ∈ ll, x.length ≤ 1048576) (k : Nat) (hk : p.length + o.length + ll.length + 1048577 < k) :
    spec_PlayTrips.f k p s o t ll = some (playTrips p s o t ll) := by
  unfold spec_PlayTrips.f playTrips
  rw [paAsked_ev p s o t hp ho k (by omega) (by omega), bindsome]
  obtain ⟨k, rfl⟩ : ∃ q, k = q + 1 := ⟨k - 1, by omega⟩
  cases h : (goodParty p s && goodState p.length o t)
  · simp [spec_PlayTrips.j0]
  · rw [Bool.and_eq_true] at h
    rw [if_pos rfl, if_pos rfl]
    simp only [spec_PlayTrips.j0]
    have hg := goodState_len h.2
    have hlen := playR_len p.length s ll o t 0
    by_cases c : ll.length ≤ 40
    · rw [if_pos c, decide_eq_false (show ¬ (ll.length : Int) > 40 by omega), if_neg (by simp)]
      have e := paPlay_ev p s o t ll hp hg hl hb k (by omega)
      cases h2 : (playR p.length s ll o t 0).2.2 with
      | none =>
        rw [h2] at e
        rw [show idxOr (ll.length : Int) none = (ll.length : Int) from rfl] at e
        rw [e, bindsome]
        simp only
        rw [if_neg (by omega), bindsome, if_pos (by simp; omega), List.nil_append]
      | some i =>
        have := playR_idx _ _ _ _ _ _ _ h2
        rw [h2] at e
        rw [show idxOr (ll.length : Int) (some i) = (i : Int) from rfl] at e
        rw [e, bindsome]
        simp only
        rw [if_pos (by omega)]
    · rw [if_neg c, decide_eq_true (show (ll.length : Int) > 40 by omega)]
      rfl
theorem implPlayTrips_ev (p : List Int) (s : Int) (o : List Bool) (t : Bool) (ll : List (List Int)) (hp : p.length ≤ 1048576) (ho : o.length ≤ 1048576) (hl : ll.length ≤ 1048576) (hb : ∀ x ∈ ll, x.length ≤ 1048576) (k : Nat) (hk : p.length + o.length + ll.length + 1048577 < k) :
    impl_PlayTrips.f k p s o t ll = some (playTrips p s o t ll) := by
  unfold impl_PlayTrips.f playTrips
  rw [hasState_ev p s o t ho k (by omega), bindsome]
  obtain ⟨k, rfl⟩ : ∃ q, k = q + 1 := ⟨k - 1, by omega⟩
  cases h : (goodParty p s && goodState p.length o t)
  · simp [impl_PlayTrips.j0]
  · rw [Bool.and_eq_true] at h
    rw [if_pos rfl, if_pos rfl]
    simp only [impl_PlayTrips.j0]
    by_cases c : ll.length ≤ 40
    · rw [if_pos c, decide_eq_false (show ¬ (ll.length : Int) > 40 by omega), if_neg (by simp), failing_ev p s o t ll hp (goodState_len h.2) hl hb k (by omega), bindsome]
      cases h2 : (playR p.length s ll o t 0).2.2 with
      | none => rfl
      | some i =>
        exact if_pos (show (i : Int) ≥ 0 by omega)
    · rw [if_neg c, decide_eq_true (show (ll.length : Int) > 40 by omega)]
      rfl
theorem playTrips_len (p : List Int) (s : Int) (o : List Bool) (t : Bool) (ll : List (List Int)) : (playTrips p s o t ll).1.length ≤ o.length := by
  unfold playTrips
  split
  · split
    · split
      · simp [playR_len]
      · simp
    · simp
  · simp
theorem FnExactPlayTrips (p : List Int) (s : Int) (o : List Bool) (t : Bool) (ll : List (List Int)) (hp : p.length ≤ 9223372036854775807) (ho : o.length ≤ 9223372036854775807) (hl : ll.length ≤ 9223372036854775807 ∧ ∀ x ∈ ll, x.length ≤ 9223372036854775807) : ∃ k, laws_FnExactPlayTrips.f k p s o t ll = some true := by
  refine ⟨p.length + o.length + ll.length + 1048580, ?_⟩
  generalize hk : p.length + o.length + ll.length + 1048580 = k
  unfold laws_FnExactPlayTrips.f
  rw [szParty_ev p s _ hp (by omega) (by omega), bindsome]
  by_cases c : (1048576 : Int) < p.length
  · rw [if_pos c]; rfl
  · rw [if_neg c, if_neg (by omega), szState_ev o t _ ho (by omega) (by omega), bindsome]
    by_cases c2 : (1048576 : Int) - p.length < o.length
    · rw [if_pos c2]; rfl
    · rw [if_neg c2, if_neg (by omega)]
      obtain ⟨r, h1, h2, h3⟩ := szIntSS_ev ll (1048576 - (p.length : Int) - o.length) hl.1 hl.2 (by omega) (by omega) k (by omega)
      rw [h1, bindsome]
      by_cases c3 : r < 0
      · rw [if_pos c3]
      · rw [if_neg c3]
        obtain ⟨h4, h5⟩ := h3 (by omega)
        have hb : ∀ x ∈ ll, x.length ≤ 1048576 := fun x hx => by have := h5 x hx; omega
        have hs := sumL_le ll hb
        have e1 := toParty_ev p s (by omega) k (by omega)
        have e2 := toState_ev o t (by omega) k (by omega)
        have e3 := toIntSS_ev ll (by omega) hb k (by omega)
        have e4 := specPlayTrips_ev p s o t ll (by omega) (by omega) (by omega) hb k (by omega)
        have e5 := implPlayTrips_ev p s o t ll (by omega) (by omega) (by omega) hb k (by omega)
        have e6 := eqParty_ev p p s s (by omega) k (by omega)
        have e7 := eqState_ev o o t t (by omega) k (by omega)
        have e8 := eqIntSS_ev ll ll (by omega) hb k (by omega)
        have m1 := markParty_ev p s 1 (by omega) (by omega) k (by omega)
        have m2 := markState_ev o t (1 + (p.length : Int)) (by omega) (by omega) k (by omega)
        have m3 := markIntSS_ev ll (1 + (p.length : Int) + (o.length : Int)) (by omega) hb (by omega) (by omega) k (by omega)
        have hr := playTrips_len p s o t ll
        generalize playTrips p s o t ll = b at e4 e5 hr
        obtain ⟨b1, b2, b3⟩ := b
        simp only at hr
        have e9 := eqState_ev b1 b1 b2 b2 (by omega) k (by omega)
        have m4 := markState_ev b1 b2 1 (by omega) (by omega) k (by omega)
        have e10 := heldState_ev b1.length b2 1 (by omega) (by omega) k (by omega)
        have n1 : ¬ (1 + (p.length : Int) + (o.length : Int) + (sumL ll : Int) < 0) := by omega
        have n2 : ¬ (1 + (b1.length : Int) < 0) := by omega
        simp only [e1, e2, e3, e4, e5, e6, e7, e8, e9, e10, m1, m2, m3, m4, bindsome, n1, n2, if_false]
        simp

end Go.Proofs.Ytlbmbofhbficgaa.Pure
