/- The law FnExactRowBoat returns true for all arguments: both functions accept the same lists, one by bits, one by lists, and hand back the same state, in memory of its own; the copies stay.
   Conditions: the lists are no longer than any Go slice. -/
import Derived.Test.YtokfpjebnkfccaaPureCuTripRb
import Derived.Test.YtokfpjebnkfccaaPureIntMarkRb
import Derived.Test.YtokfpjebnkfccaaPureStateMarkRb
import Derived.Test.YtokfpjebnkfccaaGRbx7
import Derived.Test.YtokfpjebnkfccaaGRbx9
import Derived.Test.YtokfpjebnkfccaaGRbx1
import Derived.Test.YtokfpjebnkfccaaGRbx11
namespace Go.Proofs.Ytokfpjebnkfccaa.Pure
open Go.RowKit Go.Proofs.Ytokfpjebnkfccaa.G Go.Proofs.YtokfpjebnkfccaaW.PrintWords

theorem bothRow (n s : Int) (o : List Bool) (t : Bool) (l : List Int) (ho : o.length ≤ 1048576) (hl : l.length ≤ 1048576) (k : Nat) (hk : o.length + l.length + 60 < k) :
    ∃ r : List Bool × Bool × Bool, spec_RowBoat.f k n s o t l = some r ∧ impl_RowBoat.f k n s o t l = some r ∧ r.1.length ≤ o.length := by
  have e3 := cuIs_ev n s o t ho k (by omega)
  have e4 := hasState_ev n s o t ho k (by omega)
  unfold spec_RowBoat.f impl_RowBoat.f
  rw [e3, e4, bindsome, bindsome]
  have hbad : ∀ k : Nat, 0 < k → ∀ n s : Int, spec_RowBoat.j0 k l true n s o t = some ([], false, false) := by
    intro k hk n s
    obtain ⟨k, rfl⟩ : ∃ q, k = q + 1 := ⟨k - 1, by omega⟩
    rw [spec_RowBoat.j0, if_pos rfl]
  cases hg : goodCS n s o t
  · exact ⟨([], false, false), by simp only [Bool.false_eq_true, ↓reduceIte]; exact hbad k (by omega) _ _, by simp only [Bool.false_eq_true, ↓reduceIte], by simp⟩
  · obtain ⟨hn, hs, hlen⟩ := good_parts hg
    obtain ⟨m, rfl⟩ : ∃ m : Nat, n = (m : Int) := ⟨n.toNat, by omega⟩
    obtain ⟨b, e5, hb, hb2, hbit⟩ := cuCode_ev o t (by omega) k (by omega)
    have hl2 : o.length = 2 * m := by omega
    rw [hl2] at hb
    have hp := pow_n m (by omega)
    have e6 := quiet_ev m b s t (by omega) hb k (by omega)
    have e7 := isCalm_ev m b o t (by omega) hl2 hb hbit k (by omega)
    simp only [e5, e6, e7, bindsome, ↓reduceIte]
    cases hq : (calmN m b && calmN m (2 ^ (2 * m) - (b + 1)))
    · exact ⟨([], false, false), by simp only [Bool.false_eq_true, ↓reduceIte]; exact hbad k (by omega) _ _, by simp only [Bool.false_eq_true, ↓reduceIte], by simp⟩
    · simp only [↓reduceIte]
      unfold spec_cuTrip.f impl_Company_isRow.f impl_areIn.f
      simp only [wadd (x := 2 * (m : Int)) (by omega) (by omega), wadd (x := 2 * (m : Int) - 1) (by omega) (by omega), l1In_ev, bindsome, rising_ev l 0 (2 * (m : Int) - 1) hl k (by omega), rises_ev l hl k (by omega)]
      by_cases c1 : 1 ≤ (l.length : Int) ∧ (l.length : Int) ≤ s
      · rw [decide_eq_true c1.1, decide_eq_true c1.2, Bool.true_and, Bool.true_and, Bool.true_and, rf_start l (by omega)]
        cases c2 : (l.all fun x => decide (0 ≤ x) && decide (x ≤ 2 * (m : Int) - 1))
        · exact ⟨([], false, false), by simp only [Bool.false_and, Bool.false_eq_true, ↓reduceIte, bindsome, Bool.not_false]; exact hbad k (by omega) _ _, by simp only [Bool.false_eq_true, ↓reduceIte, bindsome], by simp⟩
        · cases c3 : rf l (l.length - 1) 1
          · exact ⟨([], false, false), by simp only [Bool.and_false, Bool.false_eq_true, ↓reduceIte, bindsome, Bool.not_false]; exact hbad k (by omega) _ _, by simp only [Bool.false_eq_true, ↓reduceIte, bindsome], by simp⟩
          · have hin := range_of m l c2
            obtain ⟨g, e8, hg2, hgb⟩ := cuBits_ev l hl (fun x hx => by have := hin x hx; omega) k (by omega)
            have hgl : g < 2 ^ (2 * m) := Nat.lt_pow_two_of_testBit _ fun i hi => by
              rw [hgb, Bool.eq_false_iff, Ne, List.contains_iff_mem]
              intro hc
              have := hin _ hc
              omega
            have hx : b ^^^ g < 2 ^ (2 * m) := Nat.xor_lt_two_pow hb hgl
            have e9 := cuCan_ev m s b t g (by omega) hb hgl k (by omega)
            have hlo : (listOf g).length = l.length := listOf_length g l (rf_nodup l c3) (fun x hx => by have := hin x hx; omega) hgb
            have hg0 : g ≠ 0 := by
              intro h0
              obtain ⟨x, hx1⟩ : ∃ x, x ∈ l := ⟨_, List.getElem_mem (show 0 < l.length by omega)⟩
              have h1 := hgb x.toNat
              have h2 := hin x hx1
              rw [h0, show ((x.toNat : Nat) : Int) = x by omega, Nat.zero_testBit, List.contains_iff_mem.2 hx1] at h1
              cases h1
            rw [and_here m b g o t l hl2 hb hbit hin hgb, hlo, decide_eq_true c1.2, decide_eq_true hg0, Bool.true_and, Bool.true_and] at e9
            have e10 := are_ev o t l t (fun x hx => by have := hin x hx; omega)
            have e11 := calm_bits l m g (by omega) hin hgb
            have e12 := moved_ev o t l ho hl (fun x hx => by have := hin x hx; omega) k (by omega)
            simp only [Bool.and_self, ↓reduceIte, e8, e9, e10, e11, e12, bindsome]
            cases c4 : onSide o t l
            · exact ⟨([], false, false), by simp only [Bool.false_and, Bool.not_false]; exact hbad k (by omega) _ _, by simp only [Bool.false_eq_true, ↓reduceIte, bindsome], by simp⟩
            · have hbit2 := moved_bit m b g o t l hl2 hbit hin hgb c4
              have e13 := isCalm_ev m (b ^^^ g) (setAll o (!t) l) (!t) (by omega) (by rw [setAll_length]; exact hl2) hx hbit2 k (by omega)
              cases c5 : calmN m g
              · exact ⟨([], false, false), by simp only [Bool.false_and, Bool.and_false, Bool.not_false]; exact hbad k (by omega) _ _, by simp only [Bool.false_eq_true, ↓reduceIte, bindsome], by simp⟩
              · simp only [↓reduceIte, e13, bindsome, Bool.true_and]
                cases c6 : (calmN m (b ^^^ g) && calmN m (2 ^ (2 * m) - ((b ^^^ g) + 1)))
                · exact ⟨([], false, false), by simp only [Bool.not_false]; exact hbad k (by omega) _ _, by simp only [Bool.false_eq_true, ↓reduceIte], by simp⟩
                · refine ⟨(setAll o (!t) l, !t, true), ?_, by simp only [↓reduceIte], by rw [setAll_length]; exact Nat.le_refl _⟩
                  obtain ⟨k, rfl⟩ : ∃ q, k = q + 1 := ⟨k - 1, by omega⟩
                  obtain ⟨b', e5', hb', _, hbit'⟩ := cuCode_ev o t (by omega) k (by omega)
                  have hbb : b' = b := Nat.eq_of_testBit_eq fun i => by rw [hbit', hbit]
                  obtain ⟨g', e8', _, hgb'⟩ := cuBits_ev l hl (fun x hx => by have := hin x hx; omega) k (by omega)
                  have hgg : g' = g := Nat.eq_of_testBit_eq fun i => by rw [hgb', hgb]
                  rw [hbb] at e5'
                  rw [hgg] at e8'
                  have ht : t.toNat < 2 := by cases t <;> decide
                  have ht2 : (!t).toNat < 2 := by cases t <;> decide
                  have e14 := cuState_ev m s (2 * (b ^^^ g) + (!t).toNat) (by omega) (by omega) k (by omega)
                  rw [spec_RowBoat.j0, if_neg (by simp), e5', bindsome, e8', bindsome, wadd (x := 2 * (g : Int)) (by omega) (by omega), wadd (x := 2 * (g : Int) + 1) (by omega) (by omega), show 2 * (g : Int) + 1 = ((2 * g + 1 : Nat) : Int) by omega, xor_nat _ _ (by omega) (by omega), two_xor, e14, bindsome]
                  have hb0 : (2 * (b ^^^ g) + (!t).toNat).testBit 0 = (!t) := by
                    rw [Nat.testBit_zero]
                    cases t
                    · show decide ((2 * (b ^^^ g) + 1) % 2 = 1) = true
                      rw [decide_eq_true_eq]; omega
                    · show decide ((2 * (b ^^^ g) + 0) % 2 = 1) = false
                      rw [decide_eq_false_iff_not]; omega
                  have hb1 : (List.range (2 * m)).map (fun j => (2 * (b ^^^ g) + (!t).toNat).testBit (j + 1)) = setAll o (!t) l := by
                    apply List.ext_getElem
                    · rw [List.length_map, List.length_range, setAll_length, hl2]
                    · intro j h1 h2
                      rw [List.getElem_map, List.getElem_range, Nat.testBit_succ, show (2 * (b ^^^ g) + (!t).toNat) / 2 = b ^^^ g by omega, hbit2, decide_eq_true h2, Bool.true_and, rdb _ j h2]
                  rw [hb0, hb1]
      · have d1 : (decide (1 ≤ (l.length : Int)) && decide ((l.length : Int) ≤ s)) = false := by
          rw [Bool.eq_false_iff, Ne, Bool.and_eq_true, decide_eq_true_eq, decide_eq_true_eq]
          exact c1
        refine ⟨([], false, false), ?_, ?_, by simp⟩
        · simp only [d1, Bool.false_eq_true, ↓reduceIte, bindsome, Bool.not_false]
          exact hbad k (by omega) _ _
        · simp only [← Bool.and_assoc, d1, Bool.false_and, Bool.false_eq_true, ↓reduceIte, bindsome]
theorem FnExactRowBoat (n s : Int) (o : List Bool) (t : Bool) (l : List Int) (ho : o.length ≤ 9223372036854775807) (_hl : l.length ≤ 9223372036854775807) : ∃ k, laws_FnExactRowBoat.f k n s o t l = some true := by
  refine ⟨o.length + l.length + 70, ?_⟩
  generalize hk : o.length + l.length + 70 = k
  unfold laws_FnExactRowBoat.f
  by_cases c0 : (l.length : Int) > 1048576
  · rw [if_pos c0]
  · rw [if_neg c0, szState_ev o t _ ho (by omega) (by omega), bindsome]
    by_cases c : (1048576 : Int) < o.length
    · rw [if_pos c]; rfl
    · rw [if_neg c, if_neg (by omega)]
      have e0 : laws_toCompany.f n s = some (n, s) := rfl
      have e2 := toState_ev o t (by omega) k (by omega)
      have e3 := toIntS_ev l (by omega) k (by omega)
      obtain ⟨b, e4, e5, hb⟩ := bothRow n s o t l (by omega) (by omega) k (by omega)
      have e7 := eqState_ev o o t t (by omega) k (by omega)
      have e8 := eqIntS_ev l l (by omega) k (by omega)
      have m2 := markState_ev o t 1 (by omega) (by omega) k (by omega)
      have m3 := markIntS_ev l (1 + (o.length : Int)) (by omega) (by omega) k (by omega)
      obtain ⟨b1, b2, b3⟩ := b
      simp only at hb
      have e9 := eqState_ev b1 b1 b2 b2 (by omega) k (by omega)
      have m4 := markState_ev b1 b2 1 (by omega) (by omega) k (by omega)
      have e10 := heldState_ev b1.length b2 1 (by omega) (by omega) k (by omega)
      have n1 : ¬ (1 + (o.length : Int) + (l.length : Int) < 0) := by omega
      have n2 : ¬ (1 + (b1.length : Int) < 0) := by omega
      simp only [e0, e2, e3, e4, e5, e7, e8, e9, e10, m2, m3, m4, bindsome, n1, n2, if_false]
      simp

end Go.Proofs.Ytokfpjebnkfccaa.Pure
