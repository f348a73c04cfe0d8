/- The law FnExactTeachPerson returns true for all arguments: both functions tell the crew in which the person rows, in memory of its own, or nothing.
   Conditions: the lists are no longer than any Go slice. -/
import Derived.Test.YteimlfmecmagoaaPureCrewTp
import Derived.Test.YteimlfmecmagoaaPureIntMarkTp
import Derived.Test.YteimlfmecmagoaaPureBoolMarkTp
import Derived.Test.YteimlfmecmagoaaGTpx5
import Derived.Test.YteimlfmecmagoaaGTpx3
import Derived.Test.YteimlfmecmagoaaGTpx6
namespace Go.Proofs.Yteimlfmecmagoaa.Pure
open Go.RowKit Go.Proofs.Yteimlfmecmagoaa.G Go.Proofs.YteimlfmecmagoaaW.PrintWords

theorem markCrew_ev (l : List Int) (o : List Bool) (m : Int) (hl : l.length ≤ 1048576) (ho : o.length ≤ 1048576) (k : Nat) (hk : l.length < k) (hk2 : o.length < k) : laws_markCrew.f k l o m 1 = some (1 + (l.length : Int) + (o.length : Int), seqI 1 l.length, seqB (1 + (l.length : Int)) o.length) := by
  unfold laws_markCrew.f
  rw [markIntS_ev l 1 (by omega) (by omega) k hk, bindsome]
  simp only
  rw [markBoolS_ev o _ (by omega) (by omega) k hk2, bindsome]
theorem heldCrew_ev (n q : Nat) (m : Int) (hn : n ≤ 1048576) (hq : q ≤ 1048576) (k : Nat) (hk : n < k) (hk2 : q < k) : laws_heldCrew.f k (seqI 1 n) (seqB (1 + (n : Int)) q) m 1 = some (1 + (n : Int) + (q : Int)) := by
  unfold laws_heldCrew.f
  rw [heldIntS_ev n 1 (by omega) (by omega) k hk, bindsome, if_neg (by omega), heldBoolS_ev q _ (by omega) (by omega) k hk2, bindsome, if_neg (by omega)]
def teach (l : List Int) (o : List Bool) (m p : Int) : List Int × List Bool × Int × Bool := if (goodCrew l o m && (decide (0 ≤ p) && decide (p ≤ (l.length : Int) - 1))) = true then (l, o.set p.toNat true, m, true) else ([], [], 0, false)
theorem specTeach_ev (l : List Int) (o : List Bool) (m p : Int) (hl : l.length ≤ 1048576) (k : Nat) (hk : l.length < k) : spec_TeachPerson.f k l o m p = some (teach l o m p) := by
  unfold spec_TeachPerson.f spec_l1Own.f teach
  simp only [loGood_ev l o m hl k hk, l1In_ev, bindsome, wadd (x := (l.length : Int) - 1) (by omega) (by omega)]
  cases h : goodCrew l o m
  · rfl
  · obtain ⟨h1, h2, h3⟩ := goodCrew_len h
    cases hp : (decide (0 ≤ p) && decide (p ≤ (l.length : Int) - 1))
    · rfl
    · simp only [Bool.and_eq_true, decide_eq_true_eq] at hp
      rw [if_pos rfl, if_pos rfl, if_pos (by simp; omega), bindsome, if_pos (by simp; omega), if_pos hp.1, if_pos (by simp; omega)]
      rfl
theorem implTeach_ev (l : List Int) (o : List Bool) (m p : Int) (hl : l.length ≤ 1048576) : impl_TeachPerson.f l o m p = some (teach l o m p) := by
  unfold impl_TeachPerson.f impl_Crew_rowing.f slices_Clone_int_int.f slices_Clone_bool_bool.f teach
  simp only [implIsCrew_ev, in_ev, bindsome]
  cases h : goodCrew l o m
  · rfl
  · obtain ⟨h1, h2, h3⟩ := goodCrew_len h
    rw [wadd (x := (o.length : Int) - 1) (by omega) (by omega), h3]
    cases hp : (decide (0 ≤ p) && decide (p ≤ (l.length : Int) - 1))
    · rfl
    · simp only [Bool.and_eq_true, decide_eq_true_eq] at hp
      rw [if_pos rfl, if_pos rfl, if_pos (by omega), bindsome, if_pos (by omega), bindsome, if_pos hp.1, if_pos (by omega)]
      rfl
theorem teach_len (l : List Int) (o : List Bool) (m p : Int) : (teach l o m p).1.length ≤ l.length ∧ (teach l o m p).2.1.length ≤ o.length := by
  unfold teach
  split
  · simp
  · simp
theorem FnExactTeachPerson (l : List Int) (o : List Bool) (m p : Int) (h : l.length ≤ 9223372036854775807) (ho : o.length ≤ 9223372036854775807) : ∃ k, laws_FnExactTeachPerson.f k l o m p = some true := by
  refine ⟨l.length + o.length + 1, ?_⟩
  generalize hk : l.length + o.length + 1 = k
  unfold laws_FnExactTeachPerson.f
  rw [szCrew_ev l o m _ h ho (by omega) (by omega), bindsome]
  by_cases c : (1048576 : Int) < l.length
  · rw [if_pos c]; rfl
  · rw [if_neg c]
    by_cases c2 : (1048576 : Int) - l.length < o.length
    · rw [if_pos c2]; rfl
    · rw [if_neg c2, if_neg (by omega)]
      have hr := teach_len l o m p
      have e1 := toCrew_ev l o m (by omega) (by omega) k (by omega) (by omega)
      have e2 := specTeach_ev l o m p (by omega) k (by omega)
      have e3 := implTeach_ev l o m p (by omega)
      generalize teach l o m p = r at hr e2 e3
      obtain ⟨r1, r2, r3, r4⟩ := r
      simp only at hr
      have e4 := eqCrew_ev l o m (by omega) (by omega) k (by omega) (by omega)
      have e5 := eqCrew_ev r1 r2 r3 (by omega) (by omega) k (by omega) (by omega)
      have e6 := markCrew_ev l o m (by omega) (by omega) k (by omega) (by omega)
      have e7 := markCrew_ev r1 r2 r3 (by omega) (by omega) k (by omega) (by omega)
      have e8 := heldCrew_ev r1.length r2.length r3 (by omega) (by omega) k (by omega) (by omega)
      have n1 : ¬ (1 + (l.length : Int) + (o.length : Int) < 0) := by omega
      have n2 : ¬ (1 + (r1.length : Int) + (r2.length : Int) < 0) := by omega
      simp only [e1, e2, e3, e4, e5, e6, e7, e8, bindsome, n1, n2, if_false]
      simp

end Go.Proofs.Yteimlfmecmagoaa.Pure
