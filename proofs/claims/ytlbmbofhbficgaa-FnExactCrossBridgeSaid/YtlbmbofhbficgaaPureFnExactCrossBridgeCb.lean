/- The law FnExactCrossBridge returns true for all arguments: both functions tell the state behind a trip, in memory of its own, or nothing; the copies stay.
   Conditions: the lists are no longer than any Go slice. -/
import Derived.Test.YtlbmbofhbficgaaPureMovedCb
import Derived.Test.YtlbmbofhbficgaaPurePartyMarkCb
import Derived.Test.YtlbmbofhbficgaaPureStateMarkCb
import Derived.Test.YtlbmbofhbficgaaGCbx4
import Derived.Test.YtlbmbofhbficgaaGCbx5
import Derived.Test.YtlbmbofhbficgaaGCbx6
namespace Go.Proofs.Ytlbmbofhbficgaa.Pure
open Go.RowKit Go.Proofs.Ytlbmbofhbficgaa.G Go.Proofs.YtlbmbofhbficgaaW.PrintWords

def crossed (p : List Int) (s : Int) (o : List Bool) (t : Bool) (l : List Int) : List Bool × Bool × Bool := if ((goodParty p s && goodState p.length o t) && (isTrip p.length s l && onSide o t l)) = true then (setAll o (!t) l, !t, true) else ([], false, false)
theorem specCross_ev (p : List Int) (s : Int) (o : List Bool) (t : Bool) (l : List Int) (hp : p.length ≤ 1048576) (ho : o.length ≤ 1048576) (hl : l.length ≤ 1048576) (k : Nat) (hk : p.length < k) (hk1 : o.length < k) (hk2 : l.length < k) :
    spec_CrossBridge.f k p s o t l = some (crossed p s o t l) := by
  unfold spec_CrossBridge.f crossed
  rw [paAsked_ev p s o t hp ho k hk hk1, bindsome]
  cases h : (goodParty p s && goodState p.length o t)
  · rfl
  · rw [Bool.and_eq_true] at h
    have hg := goodState_len h.2
    rw [if_pos rfl, paCan_ev p s o t l hp hl hg k hk2, bindsome, Bool.true_and]
    cases h2 : (isTrip p.length s l && onSide o t l)
    · rfl
    · rw [Bool.and_eq_true] at h2
      rw [if_pos rfl, if_pos rfl, paCross_ev o t l ho hl (by rw [hg]; exact (isTrip_valid h2.1).2.2) h2.2 k hk2, bindsome]
theorem implCross_ev (p : List Int) (s : Int) (o : List Bool) (t : Bool) (l : List Int) (hp : p.length ≤ 1048576) (ho : o.length ≤ 1048576) (hl : l.length ≤ 1048576) (k : Nat) (hk1 : o.length < k) (hk2 : l.length < k) :
    impl_CrossBridge.f k p s o t l = some (crossed p s o t l) := by
  unfold impl_CrossBridge.f crossed
  rw [hasState_ev p s o t ho k hk1, bindsome]
  cases h : (goodParty p s && goodState p.length o t)
  · rfl
  · rw [Bool.and_eq_true] at h
    have hg := goodState_len h.2
    rw [if_pos rfl, canCross_ev p s o t l hp hl hg k hk2, bindsome, Bool.true_and]
    cases h2 : (isTrip p.length s l && onSide o t l)
    · rfl
    · rw [Bool.and_eq_true] at h2
      rw [if_pos rfl, if_pos rfl, moved_ev o t l ho hl (by rw [hg]; exact (isTrip_valid h2.1).2.2) k hk2, bindsome]
theorem crossed_len (p : List Int) (s : Int) (o : List Bool) (t : Bool) (l : List Int) : (crossed p s o t l).1.length ≤ o.length := by
  unfold crossed
  split
  · simp [setAll_length]
  · simp
theorem FnExactCrossBridge (p : List Int) (s : Int) (o : List Bool) (t : Bool) (l : List Int) (hp : p.length ≤ 9223372036854775807) (ho : o.length ≤ 9223372036854775807) (_hl : l.length ≤ 9223372036854775807) : ∃ k, laws_FnExactCrossBridge.f k p s o t l = some true := by
  refine ⟨p.length + o.length + l.length + 5, ?_⟩
  generalize hk : p.length + o.length + l.length + 5 = k
  unfold laws_FnExactCrossBridge.f
  by_cases c0 : (l.length : Int) > 1048576
  · rw [if_pos c0]
  · rw [if_neg c0, szParty_ev p s _ hp (by omega) (by omega), bindsome]
    by_cases c : (1048576 : Int) < p.length
    · rw [if_pos c]; rfl
    · rw [if_neg c, if_neg (by omega), szState_ev o t _ ho (by omega) (by omega), bindsome]
      by_cases c2 : (1048576 : Int) - p.length < o.length
      · rw [if_pos c2]; rfl
      · rw [if_neg c2, if_neg (by omega)]
        have e1 := toParty_ev p s (by omega) k (by omega)
        have e2 := toState_ev o t (by omega) k (by omega)
        have e3 := toIntS_ev l (by omega) k (by omega)
        have e4 := specCross_ev p s o t l (by omega) (by omega) (by omega) k (by omega) (by omega) (by omega)
        have e5 := implCross_ev p s o t l (by omega) (by omega) (by omega) k (by omega) (by omega)
        have e6 := eqParty_ev p p s s (by omega) k (by omega)
        have e7 := eqState_ev o o t t (by omega) k (by omega)
        have e8 := eqIntS_ev l l (by omega) k (by omega)
        have m1 := markParty_ev p s 1 (by omega) (by omega) k (by omega)
        have m2 := markState_ev o t (1 + (p.length : Int)) (by omega) (by omega) k (by omega)
        have m3 := markIntS_ev l (1 + (p.length : Int) + (o.length : Int)) (by omega) (by omega) k (by omega)
        have hb := crossed_len p s o t l
        generalize crossed p s o t l = b at e4 e5 hb
        obtain ⟨b1, b2, b3⟩ := b
        simp only at hb
        have e9 := eqState_ev b1 b1 b2 b2 (by omega) k (by omega)
        have m4 := markState_ev b1 b2 1 (by omega) (by omega) k (by omega)
        have e10 := heldState_ev b1.length b2 1 (by omega) (by omega) k (by omega)
        have n1 : ¬ (1 + (p.length : Int) + (o.length : Int) + (l.length : Int) < 0) := by omega
        have n2 : ¬ (1 + (b1.length : Int) < 0) := by omega
        simp only [e1, e2, e3, e4, e5, e6, e7, e8, e9, e10, m1, m2, m3, m4, bindsome, n1, n2, if_false]
        simp

end Go.Proofs.Ytlbmbofhbficgaa.Pure
