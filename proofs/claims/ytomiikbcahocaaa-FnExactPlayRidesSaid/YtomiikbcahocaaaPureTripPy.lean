/- What the printed functions on trips come to: when a list is a trip of a party, whether its people are on a side, how long it takes.
   Conditions: stated with each. -/
import Derived.Test.YtomiikbcahocaaaPureStatePy
import Derived.Test.YtomiikbcahocaaaGPyx2
import Derived.Test.YtomiikbcahocaaaGPyx9
import Derived.Test.YtomiikbcahocaaaGPyx6
namespace Go.Proofs.Ytomiikbcahocaaa.Pure
open Go.RowKit Go.Proofs.Ytomiikbcahocaaa.G Go.Proofs.YtomiikbcahocaaaW.PrintWords

/-- From index i on, d more of them: each number is greater than the one before. -/
def rf (l : List Int) : Nat → Nat → Bool
  | 0, _ => true
  | d + 1, i => (decide (i = 0) || decide (rd l ((i : Int) - 1) < rd l (i : Int))) && rf l d (i + 1)
theorem wsub {i : Nat} (h : 0 < i) (h2 : i ≤ 1048576) : wrap64 ((i : Int) - 1) = (i : Int) - 1 := wadd (by omega) (by omega)
theorem rises_l0 (l : List Int) (hl : l.length ≤ 1048576) (d : Nat) : ∀ (k i : Nat), l.length - i = d → 0 < i → d < k → impl_rises.l0 k l (i : Int) = some (rf l d i) := by
  induction d with
  | zero =>
    intro k i hd h0 hk
    obtain ⟨k, rfl⟩ : ∃ q, k = q + 1 := ⟨k - 1, by omega⟩
    simp only [impl_rises.l0]
    rw [if_neg (by omega)]
    rfl
  | succ d ih =>
    intro k i hd h0 hk
    obtain ⟨k, rfl⟩ : ∃ q, k = q + 1 := ⟨k - 1, by omega⟩
    have hlt : i < l.length := by omega
    simp only [impl_rises.l0]
    rw [if_pos (by omega), if_pos (by omega), wsub h0 (by omega), if_pos (by omega), if_pos (by omega), wnat hlt (by omega)]
    unfold rf
    by_cases h : rd l (i : Int) ≤ rd l ((i : Int) - 1)
    · rw [if_pos h, decide_eq_false (by omega), decide_eq_false (by omega)]
      rfl
    · rw [if_neg h, ih k (i + 1) (by omega) (by omega) (by omega), decide_eq_true (show rd l ((i : Int) - 1) < rd l (i : Int) by omega), Bool.or_true, Bool.true_and]
theorem rises_ev (l : List Int) (hl : l.length ≤ 1048576) (k : Nat) (hk : l.length < k) : impl_rises.f k l = some (rf l (l.length - 1) 1) := by
  unfold impl_rises.f
  exact rises_l0 l hl (l.length - 1) k 1 rfl (by omega) (by omega)
theorem rising_l0 (l : List Int) (a b : Int) (hl : l.length ≤ 1048576) (d : Nat) : ∀ (k i : Nat), l.length - i = d → i ≤ l.length → d < k → spec_l1Rising.l0 k l a b l (l.length : Int) (i : Int) = some (((l.drop i).all fun x => decide (a ≤ x) && decide (x ≤ b)) && rf l d i) := by
  induction d with
  | zero =>
    intro k i hd hi hk
    obtain ⟨k, rfl⟩ : ∃ q, k = q + 1 := ⟨k - 1, by omega⟩
    simp only [spec_l1Rising.l0]
    rw [if_neg (by omega), List.drop_eq_nil_of_le (by omega)]
    rfl
  | succ d ih =>
    intro k i hd hi hk
    obtain ⟨k, rfl⟩ : ∃ q, k = q + 1 := ⟨k - 1, by omega⟩
    have hlt : i < l.length := by omega
    have hr := ih k (i + 1) (by omega) (by omega) (by omega)
    simp only [spec_l1Rising.l0]
    rw [if_pos (by omega), if_pos (by omega), if_pos (by omega), wnat hlt (by omega), l1In_ev, bindsome, drop_cons l i hlt, List.all_cons, hr]
    rw [show rf l (d + 1) i = ((decide (i = 0) || decide (rd l ((i : Int) - 1) < rd l (i : Int))) && rf l d (i + 1)) from rfl]
    rw [rdn l i hlt]
    generalize (decide (a ≤ l[i]) && decide (l[i] ≤ b)) = A
    generalize ((l.drop (i + 1)).all fun x => decide (a ≤ x) && decide (x ≤ b)) = B
    generalize rf l d (i + 1) = C
    cases A
    · simp
    · rw [if_pos rfl]
      by_cases h0 : i = 0
      · rw [if_neg (show ¬ (i : Int) > 0 by omega), decide_eq_true h0, Bool.true_or, Bool.true_and, Bool.true_and]
      · rw [if_pos (show (i : Int) > 0 by omega), wsub (i := i) (by omega) (by omega), if_pos (show 0 ≤ (i : Int) - 1 by omega), if_pos (show (i : Int) - 1 < (l.length : Int) by omega), decide_eq_false h0, Bool.false_or]
        by_cases h : rd l ((i : Int) - 1) ≥ l[i]
        · rw [if_pos h, decide_eq_false (show ¬ rd l ((i : Int) - 1) < l[i] by omega)]
          cases B <;> rfl
        · rw [if_neg h, decide_eq_true (show rd l ((i : Int) - 1) < l[i] by omega), Bool.true_and, Bool.true_and]
theorem rising_ev (l : List Int) (a b : Int) (hl : l.length ≤ 1048576) (k : Nat) (hk : l.length < k) : spec_l1Rising.f k l a b = some ((l.all fun x => decide (a ≤ x) && decide (x ≤ b)) && rf l l.length 0) := by
  unfold spec_l1Rising.f
  exact rising_l0 l a b hl l.length k 0 rfl (Nat.zero_le _) hk
theorem rf_start (l : List Int) (h : 1 ≤ l.length) : rf l l.length 0 = rf l (l.length - 1) 1 := by
  obtain ⟨n, hn⟩ : ∃ n, l.length = n + 1 := ⟨l.length - 1, by omega⟩
  rw [hn]
  simp [rf]
/-- A list is a trip of a party of n people with s seats. -/
def isTrip (n : Nat) (s : Int) (l : List Int) : Bool := (decide (1 ≤ (l.length : Int)) && decide ((l.length : Int) ≤ s)) && ((l.all fun x => decide (0 ≤ x) && decide (x ≤ (n : Int) - 1)) && rf l (l.length - 1) 1)
theorem isTrip_valid {n : Nat} {s : Int} {l : List Int} (h : isTrip n s l = true) : 1 ≤ l.length ∧ (l.length : Int) ≤ s ∧ ∀ x ∈ l, 0 ≤ x ∧ x < (n : Int) := by
  unfold isTrip at h
  simp only [Bool.and_eq_true, decide_eq_true_eq, List.all_eq_true] at h
  obtain ⟨⟨h1, h2⟩, h3, _⟩ := h
  exact ⟨by omega, h2, fun x hx => ⟨(h3 x hx).1, by have := (h3 x hx).2; omega⟩⟩
theorem valid_at {n : Nat} {l : List Int} (hv : ∀ x ∈ l, 0 ≤ x ∧ x < (n : Int)) (i : Nat) (h : i < l.length) : 0 ≤ l[i] ∧ l[i] < (n : Int) := hv _ (List.getElem_mem h)
/-- All people of a list are on a side. -/
def onSide (o : List Bool) (b : Bool) (l : List Int) : Bool := l.all fun x => rdOf false o x == b
theorem are_ev (o : List Bool) (t : Bool) (l : List Int) (b : Bool) (hv : ∀ x ∈ l, 0 ≤ x ∧ x < (o.length : Int)) : impl_State_are.f o t l b = some (onSide o b l) := by
  unfold impl_State_are.f
  rw [if_pos]
  · rfl
  · rw [List.all_eq_true]
    intro x hx
    have := hv x hx
    simp [this.1, this.2]

end Go.Proofs.Ytomiikbcahocaaa.Pure
