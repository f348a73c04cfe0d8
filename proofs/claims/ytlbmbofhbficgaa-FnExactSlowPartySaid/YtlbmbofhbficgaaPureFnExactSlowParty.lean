/- The law FnExactSlowParty returns true for all arguments: both functions tell the party with all times so many times as great, in memory of its own, or nothing.
   Conditions: the list is no longer than any Go slice. -/
import Derived.Test.YtlbmbofhbficgaaPureParty
import Derived.Test.YtlbmbofhbficgaaPureIntMark
import Derived.Test.YtlbmbofhbficgaaGx13
import Derived.Test.YtlbmbofhbficgaaGx14
import Derived.Test.YtlbmbofhbficgaaGx15
namespace Go.Proofs.Ytlbmbofhbficgaa.Pure
open Go.RowKit Go.Proofs.Ytlbmbofhbficgaa.G Go.Proofs.YtlbmbofhbficgaaW.PrintWords

def slower (p : List Int) (m : Int) : List Int := p.map fun x => wrap64 (x * m)
def slowParty (p : List Int) (s m : Int) : List Int × Int × Bool :=
  if (goodParty p s && (decide (1 ≤ m) && decide (m ≤ 1000)) && goodParty (slower p m) s) = true then (slower p m, s, true) else ([], 0, false)
theorem specSlow_l0 (p : List Int) (s m : Int) (hp : p.length ≤ 8) (d : Nat) : ∀ (k i : Nat), p.length - i = d → i ≤ p.length → d + 9 < k →
    spec_SlowParty.l0 k m p (p.length : Int) (i : Int) ((slower p m).take i) s = some (if goodParty (slower p m) s = true then (slower p m, s, true) else ([], 0, false)) := by
  have hlen : (slower p m).length = p.length := by simp [slower]
  induction d with
  | zero =>
    intro k i hd hi hk
    obtain ⟨k, rfl⟩ : ∃ q, k = q + 1 := ⟨k - 1, by omega⟩
    simp only [spec_SlowParty.l0]
    rw [if_neg (by omega), List.take_of_length_le (by omega), paGood_ev _ s (by omega) k (by omega), bindsome]
    cases goodParty (slower p m) s <;> rfl
  | succ d ih =>
    intro k i hd hi hk
    obtain ⟨k, rfl⟩ : ∃ q, k = q + 1 := ⟨k - 1, by omega⟩
    have hlt : i < p.length := by omega
    simp only [spec_SlowParty.l0]
    rw [if_pos (by omega), if_pos (by omega), if_pos (by omega), if_pos (by rw [List.length_take]; omega), wnat hlt (by omega), rdn p i hlt]
    have h := ih k (i + 1) (by omega) (by omega) (by omega)
    rw [List.take_succ_eq_append_getElem (by omega)] at h
    have e : (slower p m)[i]'(by omega) = wrap64 (p[i] * m) := by simp [slower]
    rw [e] at h
    exact h
theorem specSlow_ev (p : List Int) (s m : Int) (hp : p.length ≤ 1048576) (k : Nat) (hk : p.length + 30 < k) : spec_SlowParty.f k p s m = some (slowParty p s m) := by
  unfold spec_SlowParty.f slowParty
  rw [paGood_ev p s hp k (by omega), bindsome, l1In_ev, bindsome]
  obtain ⟨k, rfl⟩ : ∃ q, k = q + 1 := ⟨k - 1, by omega⟩
  cases h : goodParty p s
  · simp [spec_SlowParty.j0]
  · rw [if_pos rfl]
    simp only [spec_SlowParty.j0]
    cases h2 : (decide (1 ≤ m) && decide (m ≤ 1000))
    · simp
    · rw [if_neg (by simp)]
      have h3 := specSlow_l0 p s m (goodParty_le h).2.1 p.length k 0 rfl (Nat.zero_le _) (by omega)
      rw [List.take_zero] at h3
      have h4 : spec_SlowParty.l0 k m p (p.length : Int) 0 [] s = _ := h3
      rw [h4]
      simp
theorem implSlow_l0 (p : List Int) (s m : Int) (hp : p.length ≤ 8) (d : Nat) : ∀ (k i : Nat) (q : List Int), p.length - i = d → i ≤ p.length → d < k → q.length = p.length → q.take i = (slower p m).take i → q.drop i = p.drop i →
    impl_SlowParty.l0 k m (p.length : Int) (i : Int) q s = some (if goodParty (slower p m) s = true then (slower p m, s, true) else ([], 0, false)) := by
  have hlen : (slower p m).length = p.length := by simp [slower]
  induction d with
  | zero =>
    intro k i q hd hi hk hq ht hdr
    obtain ⟨k, rfl⟩ : ∃ q, k = q + 1 := ⟨k - 1, by omega⟩
    simp only [impl_SlowParty.l0]
    rw [if_neg (by omega)]
    rw [List.take_of_length_le (by omega), List.take_of_length_le (by omega)] at ht
    rw [ht, implIsParty_ev, bindsome]
    cases goodParty (slower p m) s <;> rfl
  | succ d ih =>
    intro k i q hd hi hk hq ht hdr
    obtain ⟨k, rfl⟩ : ∃ q, k = q + 1 := ⟨k - 1, by omega⟩
    have hlt : i < p.length := by omega
    have e0 : q[i]'(by omega) = p[i] := by
      have h1 := drop_cons q i (by omega)
      rw [hdr, drop_cons p i hlt] at h1
      exact (List.cons.inj h1).1.symm
    simp only [impl_SlowParty.l0]
    rw [if_pos (by omega), if_pos (by omega), if_pos (by omega), wnat hlt (by omega), rdn q i (by omega), e0, Int.toNat_natCast]
    have e : (slower p m)[i]'(by omega) = wrap64 (p[i] * m) := by simp [slower]
    refine ih k (i + 1) _ (by omega) (by omega) (by omega) (by rw [List.length_set]; exact hq) ?_ ?_
    · have h := take_set (slower p m) q i (by omega) (by omega) ht
      rw [e] at h
      exact h
    · rw [List.drop_set_of_lt (by omega)]
      have h1 := drop_cons q i (by omega)
      rw [hdr, drop_cons p i hlt] at h1
      exact (List.cons.inj h1).2.symm
theorem implSlow_ev (p : List Int) (s m : Int) (k : Nat) (hk : p.length + 30 < k) : impl_SlowParty.f k p s m = some (slowParty p s m) := by
  unfold impl_SlowParty.f slowParty
  rw [implIsParty_ev, bindsome, in_ev, bindsome]
  obtain ⟨k, rfl⟩ : ∃ q, k = q + 1 := ⟨k - 1, by omega⟩
  cases h : goodParty p s
  · simp [impl_SlowParty.j0]
  · rw [if_pos rfl]
    simp only [impl_SlowParty.j0]
    cases h2 : (decide (1 ≤ m) && decide (m ≤ 1000))
    · simp
    · have hl := (goodParty_le h).2.1
      rw [if_neg (by simp)]
      unfold slices_Clone_int_int.f
      rw [if_pos (by omega), bindsome]
      have h3 := implSlow_l0 p s m hl p.length k 0 p rfl (Nat.zero_le _) (by omega) rfl (by simp) rfl
      have h4 : impl_SlowParty.l0 k m (p.length : Int) 0 p s = _ := h3
      rw [h4]
      simp
theorem slowParty_len (p : List Int) (s m : Int) : (slowParty p s m).1.length ≤ p.length := by
  unfold slowParty
  split
  · simp [slower]
  · simp
theorem markParty_ev (l : List Int) (s a : Int) (ha : 0 ≤ a) (hb : a + l.length ≤ 100000000) (k : Nat) (hk : l.length < k) : laws_markParty.f k l s a = some (a + (l.length : Int), seqI a l.length) := by
  unfold laws_markParty.f
  rw [markIntS_ev l a ha hb k hk, bindsome]
theorem heldParty_ev (n : Nat) (s a : Int) (ha : 0 ≤ a) (hb : a + n ≤ 100000000) (k : Nat) (hk : n < k) : laws_heldParty.f k (seqI a n) s a = some (a + (n : Int)) := by
  unfold laws_heldParty.f
  rw [heldIntS_ev n a ha hb k hk, bindsome, if_neg (by omega)]
theorem FnExactSlowParty (p : List Int) (s m : Int) (hp : p.length ≤ 9223372036854775807) : ∃ k, laws_FnExactSlowParty.f k p s m = some true := by
  refine ⟨p.length + 40, ?_⟩
  generalize hk : p.length + 40 = k
  unfold laws_FnExactSlowParty.f
  rw [szParty_ev p s _ hp (by omega) (by omega), bindsome]
  by_cases c : (1048576 : Int) < p.length
  · rw [if_pos c]; rfl
  · rw [if_neg c, if_neg (by omega)]
    have hr := slowParty_len p s m
    have e1 := toParty_ev p s (by omega) k (by omega)
    have e2 := specSlow_ev p s m (by omega) k (by omega)
    have e3 := implSlow_ev p s m k (by omega)
    generalize slowParty p s m = r at hr e2 e3
    obtain ⟨r1, r2, r3⟩ := r
    simp only at hr
    have e4 := eqParty_ev r1 r1 r2 r2 (by omega) k (by omega)
    have e5 := eqParty_ev p p s s (by omega) k (by omega)
    have e6 := markParty_ev p s 1 (by omega) (by omega) k (by omega)
    have e7 := markParty_ev r1 r2 1 (by omega) (by omega) k (by omega)
    have e8 := heldParty_ev r1.length r2 1 (by omega) (by omega) k (by omega)
    have n1 : ¬ (1 + (p.length : Int) < 0) := by omega
    have n2 : ¬ (1 + (r1.length : Int) < 0) := by omega
    simp only [e1, e2, e3, e4, e5, e6, e7, e8, bindsome, n1, n2, if_false]
    simp

end Go.Proofs.Ytlbmbofhbficgaa.Pure
