/- What the printed functions on rides come to: when a list is a ride in a bank, and the bank behind it.
   Conditions: stated with each. -/
import Derived.Test.YtomiikbcahocaaaPureDangerPy
import Derived.Test.YtomiikbcahocaaaPureBankPy
import Derived.Test.YtomiikbcahocaaaPureMovedPy
import Derived.Test.YtomiikbcahocaaaGPyx4
import Derived.Test.YtomiikbcahocaaaGPyx5
import Derived.Test.YtomiikbcahocaaaGPyx8
import Derived.Test.YtomiikbcahocaaaGPyx9
import Derived.Test.YtomiikbcahocaaaGPyx10
namespace Go.Proofs.Ytomiikbcahocaaa.Pure
open Go.RowKit Go.Proofs.Ytomiikbcahocaaa.G Go.Proofs.YtomiikbcahocaaaW.PrintWords

theorem rf_start0 (l : List Int) : rf l l.length 0 = rf l (l.length - 1) 1 := by
  by_cases h : 1 ≤ l.length
  · exact rf_start l h
  · have h0 : l.length = 0 := by omega
    rw [h0]
    rfl
theorem keRide_l0 (l : List Int) (o0 : List Bool) (t : Bool) (hl : l.length ≤ 1048576) (hv : ∀ x ∈ l, 0 ≤ x ∧ x < (o0.length : Int)) (hs : onSide o0 t l = true) (d : Nat) : ∀ (k i : Nat) (o : List Bool), o.length = o0.length → l.length - i = d → i ≤ l.length → d < k → spec_keRide.l0 k l (l.length : Int) (i : Int) o0 t o (!t) = some (setAll o (!t) (l.drop i), !t) := by
  induction d with
  | zero =>
    intro k i o ho hd hi hk
    obtain ⟨k, rfl⟩ : ∃ q, k = q + 1 := ⟨k - 1, by omega⟩
    simp only [spec_keRide.l0]
    rw [if_neg (by omega), List.drop_eq_nil_of_le (by omega)]
    rfl
  | succ d ih =>
    intro k i o ho hd hi hk
    obtain ⟨k, rfl⟩ : ∃ q, k = q + 1 := ⟨k - 1, by omega⟩
    have hlt : i < l.length := by omega
    have hx := valid_at hv i hlt
    have ht : rdOf false o0 l[i] = t := by
      have := List.all_eq_true.1 hs l[i] (List.getElem_mem hlt)
      simpa using this
    simp only [spec_keRide.l0]
    rw [if_pos (by omega), if_pos (by omega), if_pos (by omega), wnat hlt (by omega), rdn l i hlt, if_pos hx.1, if_pos hx.2, if_pos (by omega), ht, ih k (i + 1) _ (by rw [List.length_set]; exact ho) (by omega) (by omega) (by omega), drop_cons l i hlt]
    rfl
theorem keRide_ev (o : List Bool) (t : Bool) (l : List Int) (ho : o.length ≤ 1048576) (hl : l.length ≤ 1048576) (hv : ∀ x ∈ l, 0 ≤ x ∧ x < (o.length : Int)) (hs : onSide o t l = true) (k : Nat) (hk : l.length < k) : spec_keRide.f k o t l = some (setAll o (!t) l, !t) := by
  unfold spec_keRide.f
  rw [bindsome, if_pos (by simp; omega), List.nil_append]
  exact keRide_l0 l o t hl hv hs l.length k 0 o rfl rfl (Nat.zero_le _) hk
theorem ridden_ev (o : List Bool) (t : Bool) (l : List Int) (ho : o.length ≤ 1048576) (hl : l.length ≤ 1048576) (hv : ∀ x ∈ l, 0 ≤ x ∧ x < (o.length : Int)) (k : Nat) (hk : l.length < k) : impl_Bank_ridden.f k o t l = some (setAll o (!t) l, !t) := by
  unfold impl_Bank_ridden.f impl_Bank_state.f
  rw [bindsome, moved_ev o t l ho hl hv k hk, bindsome]
/-- Behind a ride nothing is in danger. -/
def rideCalm (L : List (List Int)) (o : List Bool) (q : Bool) (l : List Int) : Bool := ((L.filter (dng (setAll o (!q) l) (!q))).length : Int) == 0
/-- A list may be a ride: so many, rising, of the things. -/
def fitsR (n s : Int) (l : List Int) : Bool := decide ((l.length : Int) ≤ s) && ((l.all fun x => decide (0 ≤ x) && decide (x ≤ n - 1)) && rf l (l.length - 1) 1)
/-- A list is a ride in a bank. -/
def isRide (n : Int) (L : List (List Int)) (s : Int) (o : List Bool) (q : Bool) (l : List Int) : Bool := fitsR n s l && (onSide o q l && rideCalm L o q l)
theorem fitsR_valid {n s : Int} {l : List Int} (h : fitsR n s l = true) : (l.length : Int) ≤ s ∧ ∀ x ∈ l, 0 ≤ x ∧ x < n := by
  unfold fitsR at h
  simp only [Bool.and_eq_true, decide_eq_true_eq, List.all_eq_true] at h
  exact ⟨h.1, fun x hx => by have := h.2.1 x hx; omega⟩
theorem keCan_l0 (n : Int) (L : List (List Int)) (s : Int) (o : List Bool) (q : Bool) (l : List Int) (hL : L.length ≤ 1048576) (hg : ∀ d ∈ L, goodD n d = true) (ho : o.length ≤ 1048576) (ho2 : (o.length : Int) = n) (hl : l.length ≤ 1048576) (hv : ∀ x ∈ l, 0 ≤ x ∧ x < (o.length : Int)) (d : Nat) :
    ∀ (k i : Nat), l.length - i = d → i ≤ l.length → d + L.length + l.length + 5 < k → onSide o q (l.take i) = true → spec_keCan.l0 k l l (l.length : Int) (i : Int) n L s o q = some (onSide o q l && rideCalm L o q l) := by
  induction d with
  | zero =>
    intro k i hd hi hk hs
    obtain ⟨k, rfl⟩ : ∃ q, k = q + 1 := ⟨k - 1, by omega⟩
    rw [List.take_of_length_le (by omega)] at hs
    simp only [spec_keCan.l0]
    rw [if_neg (by omega), keRide_ev o q l ho hl hv hs k (by omega), bindsome]
    simp only
    rw [keNow_ev n L s (setAll o (!q) l) (!q) hL (by rw [setAll_length]; exact ho2) hg k (by omega), bindsome, hs]
    rfl
  | succ d ih =>
    intro k i hd hi hk hs
    obtain ⟨k, rfl⟩ : ∃ q, k = q + 1 := ⟨k - 1, by omega⟩
    have hlt : i < l.length := by omega
    have hx := valid_at hv i hlt
    simp only [spec_keCan.l0]
    rw [if_pos (by omega), if_pos (by omega), if_pos (by omega), wnat hlt (by omega), rdn l i hlt, if_pos hx.1, if_pos hx.2]
    by_cases c : (rdOf false o l[i] != q) = true
    · rw [if_pos c]
      have h2 : onSide o q l = false := by
        rw [Bool.eq_false_iff]
        intro h
        have h3 := List.all_eq_true.1 h l[i] (List.getElem_mem hlt)
        simp only [bne, h3, Bool.not_true] at c
        cases c
      rw [h2, Bool.false_and]
    · rw [if_neg c]
      refine ih k (i + 1) (by omega) (by omega) (by omega) ?_
      rw [List.take_succ_eq_append_getElem hlt]
      unfold onSide at hs ⊢
      rw [List.all_append, hs, Bool.true_and, List.all_cons, List.all_nil, Bool.and_true]
      simpa [bne] using c
theorem keCan_ev (n : Int) (L : List (List Int)) (s : Int) (o : List Bool) (q : Bool) (l : List Int) (hL : L.length ≤ 1048576) (hg : ∀ d ∈ L, goodD n d = true) (ho : o.length ≤ 1048576) (ho2 : (o.length : Int) = n) (hl : l.length ≤ 1048576) (k : Nat) (hk : L.length + l.length * 2 + 10 < k) :
    spec_keCan.f k n L s o q l = some (isRide n L s o q l) := by
  have hj : ∀ k, 0 < k → spec_keCan.j0 k l true n L s o q = some false := by
    intro k hk
    obtain ⟨k, rfl⟩ : ∃ q, k = q + 1 := ⟨k - 1, by omega⟩
    rw [spec_keCan.j0, if_pos rfl]
  unfold spec_keCan.f isRide
  by_cases c : (l.length : Int) > s
  · rw [if_pos c, hj k (by omega)]
    unfold fitsR
    rw [decide_eq_false (by omega)]
    rfl
  · rw [if_neg c, wadd (x := n - 1) (by omega) (by omega), rising_ev l _ _ hl k (by omega), bindsome, rf_start0]
    cases h : fitsR n s l
    · have h2 : ((l.all fun x => decide (0 ≤ x) && decide (x ≤ n - 1)) && rf l (l.length - 1) 1) = false := by
        unfold fitsR at h
        rw [decide_eq_true (show (l.length : Int) ≤ s by omega), Bool.true_and] at h
        exact h
      rw [h2]
      exact hj k (by omega)
    · have h2 : ((l.all fun x => decide (0 ≤ x) && decide (x ≤ n - 1)) && rf l (l.length - 1) 1) = true := by
        unfold fitsR at h
        rw [Bool.and_eq_true] at h
        exact h.2
      obtain ⟨k, rfl⟩ : ∃ q, k = q + 1 := ⟨k - 1, by omega⟩
      rw [h2, spec_keCan.j0, if_neg (by simp), Bool.true_and]
      exact keCan_l0 n L s o q l hL hg ho ho2 hl (by rw [ho2]; exact (fitsR_valid h).2) l.length k 0 rfl (Nat.zero_le _) (by omega) rfl
theorem isRide_ev (n : Int) (L : List (List Int)) (s : Int) (o : List Bool) (q : Bool) (l : List Int) (hL : L.length ≤ 1048576) (hg : ∀ d ∈ L, goodD n d = true) (ho : o.length ≤ 1048576) (ho2 : (o.length : Int) = n) (hl : l.length ≤ 1048576) (k : Nat) (hk : L.length + l.length * 2 + 10 < k) :
    impl_Keep_isRide.f k n L s o q l = some (isRide n L s o q l) := by
  unfold impl_Keep_isRide.f impl_areIn.f isRide
  rw [wadd (x := n - 1) (by omega) (by omega), bindsome, decide_eq_true (show (0 : Int) ≤ (l.length : Int) by omega), Bool.true_and, rises_ev l hl k (by omega), bindsome]
  cases h : fitsR n s l
  · rw [Bool.false_and]
    unfold fitsR at h
    rw [← Bool.and_assoc] at h
    cases h1 : (decide ((l.length : Int) ≤ s) && l.all fun x => decide (0 ≤ x) && decide (x ≤ n - 1))
    · rw [if_neg (by simp)]
    · rw [h1, Bool.true_and] at h
      rw [if_pos rfl, h, if_neg (by simp)]
  · have hv := (fitsR_valid h).2
    unfold fitsR at h
    rw [← Bool.and_assoc, Bool.and_eq_true] at h
    rw [h.1, h.2, if_pos rfl, if_pos rfl, Bool.true_and]
    unfold impl_Bank_state.f
    rw [bindsome]
    simp only
    rw [are_ev o q l q (by rw [ho2]; exact hv), bindsome]
    cases h3 : onSide o q l
    · rw [if_neg (by simp), Bool.false_and]
    · rw [if_pos rfl, ridden_ev o q l ho hl (by rw [ho2]; exact hv) k (by omega), bindsome]
      simp only
      rw [dangers_ev n L s (setAll o (!q) l) (!q) hL (by rw [setAll_length]; exact ho2) hg k (by omega), bindsome, Bool.true_and]
      rfl

end Go.Proofs.Ytomiikbcahocaaa.Pure
