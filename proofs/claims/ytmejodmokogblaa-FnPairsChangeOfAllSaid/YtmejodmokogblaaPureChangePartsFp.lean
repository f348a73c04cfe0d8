/- What the functions on added, saved and spare time tell, in the closed form of the least time.
   Conditions: the list is no longer than 1048576. -/
import Derived.Test.YtmejodmokogblaaPureValueFp
import Derived.Test.YtmejodmokogblaaPureSoonerFp
import Derived.Test.YtmejodmokogblaaGFpx6
import Derived.Test.YtmejodmokogblaaGFpx5
import Derived.Test.YtmejodmokogblaaGFpx2
namespace Go.Proofs.Ytmejodmokogblaa.Pure
open Go.RowKit Go.Proofs.Ytmejodmokogblaa.G Go.Proofs.YtmejodmokogblaaW.PrintWords

/-- The least time of times. -/
def leastT (l : List Int) : Int := TT (srtV l) l.length
theorem leastT_in {l : List Int} (h : isTimes l = true) : 0 ≤ leastT l ∧ leastT l ≤ 24000 := (value l h).1
theorem prTime_ev {l : List Int} (h : isTimes l = true) (k : Nat) (hk : 300 < k) : spec_prTime.f k l = some (leastT l) := ((value l h).2 k hk).1
theorem pairTime_ev {l : List Int} (h : isTimes l = true) (k : Nat) (hk : 300 < k) : impl_pairTime.f k l = some (leastT l) := ((value l h).2 k hk).2.1
def pairR (l : List Int) : Int × Bool := if isTimes l = true then (leastT l, true) else (0, false)
theorem implPair_ev (l : List Int) (k : Nat) (hk : 300 < k) : impl_PairTime.f k l = some (pairR l) := by
  unfold impl_PairTime.f pairR
  rw [isTimes_ev, bindsome]
  cases h : isTimes l
  · rfl
  · rw [if_pos rfl, if_pos rfl, pairTime_ev h k hk, bindsome]
def addR (l : List Int) (a : Int) : Int × Bool := if isTimes l = true ∧ isTimes (l ++ [a]) = true then (leastT (l ++ [a]) - leastT l, true) else (0, false)
theorem added_ev (l : List Int) (a : Int) (hl : l.length ≤ 1048576) (k : Nat) (hk : l.length + 400 < k) : spec_AddedTime.f k l a = some (addR l a) ∧ impl_AddedTime.f k l a = some (addR l a) := by
  obtain ⟨k, rfl⟩ : ∃ q, k = q + 1 := ⟨k - 1, by omega⟩
  have hc : slices_Clone_int_int.f l = some l := by
    unfold slices_Clone_int_int.f
    rw [if_pos (by omega)]
  have ho : spec_l1Own.f l = some l := by
    unfold spec_l1Own.f
    rw [bindsome, if_pos (by simp; omega), List.nil_append]
  have hlt : (l.length < 17592186044416) = True := eq_true (by omega)
  have hi : impl_AddedTime.f (k + 1) l a = (if isTimes l = true then impl_AddedTime.j0 (k + 1) l (l ++ [a]) (!isTimes (l ++ [a])) else impl_AddedTime.j0 (k + 1) l (l ++ [a]) true) := by
    unfold impl_AddedTime.f
    simp only [hc, bindsome, isTimes_ev, hlt, if_true]
  rw [hi]
  unfold spec_AddedTime.f
  rw [prGood_ev l hl (k + 1) (by omega), bindsome]
  cases h : isTimes l
  · have hA : addR l a = (0, false) := if_neg (fun e => by rw [h] at e; exact absurd e.1 (by decide))
    rw [if_neg (by decide), if_neg (by decide), hA]
    simp only [spec_AddedTime.j0, impl_AddedTime.j0, if_true]
    constructor <;> first | rfl | trivial
  · rw [if_pos rfl, if_pos rfl]
    obtain ⟨h1, h2, h3⟩ := isTimes_out h
    by_cases c : l.length = 12
    · have hn : isTimes (l ++ [a]) = false := by
        cases e : isTimes (l ++ [a])
        · rfl
        · have := (isTimes_out e).2.1
          rw [List.length_append, List.length_singleton] at this
          omega
      have hA : addR l a = (0, false) := if_neg (fun e => by rw [hn] at e; exact absurd e.2 (by decide))
      rw [if_pos (by omega), hn, hA]
      simp only [spec_AddedTime.j0, impl_AddedTime.j0, Bool.not_false, if_true]
      constructor <;> first | rfl | trivial
    · rw [if_neg (by omega), l1In_ev, bindsome]
      by_cases ca : 1 ≤ a ∧ a ≤ 1000
      · have hy : isTimes (l ++ [a]) = true := isTimes_in (by simp) (by simp; omega) (fun x hx => by
          rcases List.mem_append.1 hx with e | e
          · exact h3 x e
          · rw [List.mem_singleton.1 e]; exact ca)
        have hd : (decide (1 ≤ a) && decide (a ≤ 1000)) = true := by simp; omega
        have b1 := leastT_in h
        have b2 := leastT_in hy
        have hA : addR l a = (leastT (l ++ [a]) - leastT l, true) := if_pos ⟨h, hy⟩
        rw [hy, hA]
        simp only [spec_AddedTime.j0, impl_AddedTime.j0, hd, Bool.not_true, Bool.false_eq_true, if_false]
        rw [ho, bindsome, if_pos (by omega), prTime_ev hy k (by omega), pairTime_ev hy k (by omega), bindsome, bindsome, prTime_ev h k (by omega), pairTime_ev h k (by omega)]
        simp only [bindsome]
        rw [wadd (by omega) (by omega)]
        constructor <;> first | rfl | trivial
      · have hn : isTimes (l ++ [a]) = false := by
          cases e : isTimes (l ++ [a])
          · rfl
          · exact absurd ((isTimes_out e).2.2 a (by simp)) ca
        have hd : (decide (1 ≤ a) && decide (a ≤ 1000)) = false := by
          rw [← Bool.not_eq_true]
          simpa using fun h9 => by omega
        have hA : addR l a = (0, false) := if_neg (fun e => by rw [hn] at e; exact absurd e.2 (by decide))
        rw [hn, hd, hA]
        simp only [spec_AddedTime.j0, impl_AddedTime.j0, Bool.not_false, if_true]
        constructor <;> first | rfl | trivial
theorem sooner_ev (l : List Int) (a v : Int) (h : person l a = true) (hv : 1 ≤ v ∧ v ≤ 1000) (k : Nat) (hk : 300 < k) : spec_prWith.f k l a v = some (leastT (l.set a.toNat v)) ∧ impl_sooner.f k l a v = some (leastT l - leastT (l.set a.toNat v)) := by
  obtain ⟨h1, h2, h3⟩ := person_out h
  have hb := isTimes_out h1
  have hs := isTimes_set h1 a.toNat v hv
  obtain ⟨u, t, _, _, hut⟩ := twoTimes l a v h hv
  obtain ⟨e1, e2, e3⟩ := hut k hk
  have eu := Option.some.inj ((prTime_ev h1 k hk).symm.trans e1)
  have hp : spec_prWith.f k l a v = some (leastT (l.set a.toNat v)) := by
    have ho : spec_l1Own.f l = some l := by
      unfold spec_l1Own.f
      rw [bindsome, if_pos (by simp; omega), List.nil_append]
    unfold spec_prWith.f
    rw [ho, bindsome, if_pos h2, if_pos h3, prTime_ev hs k hk, bindsome]
  have et := Option.some.inj (hp.symm.trans e2)
  refine ⟨hp, ?_⟩
  rw [e3, eu, et]
def savR (l : List Int) (a : Int) : Int × Bool := if person l a = true then (leastT l - leastT (l.set a.toNat 1), true) else (0, false)
theorem saved_ev (l : List Int) (a : Int) (hl : l.length ≤ 1048576) (k : Nat) (hk : l.length + 400 < k) : spec_SavedTime.f k l a = some (savR l a) ∧ impl_SavedTime.f k l a = some (savR l a) := by
  unfold spec_SavedTime.f impl_SavedTime.f
  rw [prPerson_ev l a hl k (by omega), bindsome, isTimes_ev, bindsome, in_ev, bindsome, wadd (by omega) (by omega)]
  cases h : person l a
  · rw [show savR l a = (0, false) from if_neg (by rw [h]; decide)]
    refine ⟨rfl, ?_⟩
    unfold person at h
    cases h1 : isTimes l
    · rfl
    · rw [h1, Bool.true_and] at h
      rw [h]
      rfl
  · obtain ⟨h1, h2, h3⟩ := person_out h
    obtain ⟨e2, e3⟩ := sooner_ev l a 1 h ⟨by omega, by omega⟩ k (by omega)
    have b1 := leastT_in h1
    have b2 := leastT_in (isTimes_set h1 a.toNat 1 ⟨by omega, by omega⟩)
    have hd : (decide (0 ≤ a) && decide (a ≤ (l.length : Int) - 1)) = true := by simp; omega
    rw [show savR l a = (leastT l - leastT (l.set a.toNat 1), true) from if_pos h, if_pos rfl, h1, if_pos rfl, hd, if_pos rfl, prTime_ev h1 k (by omega), e2, e3]
    simp only [bindsome]
    rw [wadd (by omega) (by omega)]
    constructor <;> first | rfl | trivial
def tightR (l : List Int) (a : Int) : Bool × Bool := if person l a = true ∧ rd l a ≠ 1 then (decide (leastT (l.set a.toNat (rd l a - 1)) < leastT l), true) else (false, false)
theorem tight_ev (l : List Int) (a : Int) (hl : l.length ≤ 1048576) (k : Nat) (hk : l.length + 400 < k) : spec_IsTight.f k l a = some (tightR l a) ∧ impl_IsTight.f k l a = some (tightR l a) := by
  obtain ⟨k, rfl⟩ : ∃ q, k = q + 1 := ⟨k - 1, by omega⟩
  unfold spec_IsTight.f impl_IsTight.f
  rw [prPerson_ev l a hl (k + 1) (by omega), bindsome, isTimes_ev, bindsome, in_ev, bindsome, wadd (x := (l.length : Int) - 1) (by omega) (by omega)]
  cases h : person l a
  · rw [show tightR l a = (false, false) from if_neg (fun e => by rw [h] at e; exact absurd e.1 (by decide))]
    refine ⟨?_, ?_⟩
    · rw [if_neg (by decide)]
      simp only [spec_IsTight.j0, if_true]
    · unfold person at h
      cases h1 : isTimes l
      · rfl
      · rw [h1, Bool.true_and] at h
        rw [h]
        rfl
  · obtain ⟨h1, h2, h3⟩ := person_out h
    have hd : (decide (0 ≤ a) && decide (a ≤ (l.length : Int) - 1)) = true := by simp; omega
    have hr := impl_cross.rd_mem (isTimes_out h1).2.2 a h2 h3
    rw [if_pos rfl, if_pos h2, if_pos h3, h1, if_pos rfl, hd, if_pos rfl, if_pos h2, if_pos h3]
    by_cases c : rd l a = 1
    · rw [show tightR l a = (false, false) from if_neg (fun e => e.2 c), if_pos c, c]
      refine ⟨?_, rfl⟩
      simp only [spec_IsTight.j0, beq_self_eq_true, if_true]
    · have hb : (rd l a == 1) = false := beq_eq_false_iff_ne.mpr c
      obtain ⟨e2, _⟩ := sooner_ev l a (rd l a - 1) h ⟨by omega, by omega⟩ k (by omega)
      obtain ⟨_, e3⟩ := sooner_ev l a (rd l a - 1) h ⟨by omega, by omega⟩ (k + 1) (by omega)
      rw [if_neg c, hb, wadd (x := rd l a - 1) (by omega) (by omega), e3, bindsome, show tightR l a = (decide (leastT (l.set a.toNat (rd l a - 1)) < leastT l), true) from if_pos ⟨h, c⟩]
      refine ⟨?_, ?_⟩
      · simp only [spec_IsTight.j0, Bool.false_eq_true, if_false]
        rw [if_pos h2, if_pos h3, wadd (x := rd l a - 1) (by omega) (by omega), e2, bindsome, prTime_ev h1 k (by omega), bindsome]
      · congr 2
        exact decide_eq_decide.2 (by omega)
/-- A time made less doesn't cost more. -/
theorem set_mono {l : List Int} (i : Nat) (v w : Int) (hv : v ≤ w) : leastT (l.set i v) ≤ leastT (l.set i w) := by
  unfold leastT
  refine value_mono (l.set i w) (l.set i v) (by simp) (fun j h1 h2 => ?_)
  rw [List.getElem_set, List.getElem_set]
  split
  · exact hv
  · exact Int.le_refl _

end Go.Proofs.Ytmejodmokogblaa.Pure
