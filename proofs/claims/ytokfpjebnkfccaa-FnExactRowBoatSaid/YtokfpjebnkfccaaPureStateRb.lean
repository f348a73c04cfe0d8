/- What the printed functions on states come to: sizes, copies, comparisons, and when there is a state of a party.
   Conditions: stated with each. -/
import Derived.Test.YtokfpjebnkfccaaPureBoolRb
import Derived.Test.YtokfpjebnkfccaaPureBoolInRb
import Derived.Test.YtokfpjebnkfccaaPurePartyRb
import Derived.Test.YtokfpjebnkfccaaGRbx1
import Derived.Test.YtokfpjebnkfccaaGRbx2
import Derived.Test.YtokfpjebnkfccaaGRbx8
namespace Go.Proofs.Ytokfpjebnkfccaa.Pure
open Go.RowKit Go.Proofs.Ytokfpjebnkfccaa.G Go.Proofs.YtokfpjebnkfccaaW.PrintWords

theorem szState_ev (l : List Bool) (s : Bool) (a : Int) (h : l.length ≤ 9223372036854775807) (h0 : 0 ≤ a) (h1 : a ≤ 1048576) : laws_szState.f l s a = some (if a < l.length then -1 else a - l.length) := by
  unfold laws_szState.f
  rw [szBoolS_ev l a h h0 h1, bindsome]
  by_cases c : a < l.length
  · rw [if_pos c]; rfl
  · rw [if_neg c, if_neg (by omega)]
theorem toState_ev (l : List Bool) (s : Bool) (hl : l.length ≤ 1048576) (k : Nat) (hk : l.length < k) : laws_toState.f k l s = some (l, s) := by
  unfold laws_toState.f
  rw [toBoolS_ev l hl k hk, bindsome]
theorem eqState_ev (l m : List Bool) (s t : Bool) (hl : l.length ≤ 1048576) (k : Nat) (hk : l.length < k) : laws_eqState.f k l s m t = some (decide (l = m) && decide (s = t)) := by
  unfold laws_eqState.f
  rw [eqBoolS_ev l m hl k hk, bindsome]
  by_cases h : l = m <;> cases s <;> cases t <;> simp [h]
def goodState (n : Nat) (l : List Bool) (t : Bool) : Bool := decide (l.length = n) && l.contains t
theorem isStateOf_ev (n : Nat) (l : List Bool) (t : Bool) (hl : l.length ≤ 1048576) (k : Nat) (hk : l.length < k) : impl_isStateOf.f k (n : Int) l t = some (goodState n l t) := by
  unfold impl_isStateOf.f goodState
  rw [containsB_ev l t hl k hk, bindsome]
  by_cases h : l.length = n
  · rw [if_pos (by omega)]; simp [h]
  · rw [if_neg (by omega)]; simp [h]
theorem paState_l0 (l : List Bool) (t : Bool) (hl : l.length ≤ 1048576) (d : Nat) : ∀ (k i : Nat), l.length - i = d → i ≤ l.length → d < k → spec_paState.l0 k l (l.length : Int) (i : Int) l t = some ((l.drop i).contains t) := by
  induction d with
  | zero =>
    intro k i hd hi hk
    obtain ⟨k, rfl⟩ : ∃ q, k = q + 1 := ⟨k - 1, by omega⟩
    simp only [spec_paState.l0]
    rw [if_neg (by omega), List.drop_eq_nil_of_le (by omega)]
    rfl
  | succ d ih =>
    intro k i hd hi hk
    obtain ⟨k, rfl⟩ : ∃ q, k = q + 1 := ⟨k - 1, by omega⟩
    have hlt : i < l.length := by omega
    simp only [spec_paState.l0]
    rw [if_pos (by omega), if_pos (by omega), if_pos (by omega), wnat hlt (by omega), rdb l i hlt, drop_cons l i hlt, List.contains_cons]
    have hc : (l[i] == t) = (t == l[i]) := by cases l[i] <;> cases t <;> rfl
    rw [hc]
    cases h : (t == l[i])
    · rw [if_neg (by simp), ih k (i + 1) (by omega) (by omega) (by omega), Bool.false_or]
    · rw [if_pos rfl, Bool.true_or]
theorem paState_ev (p : List Int) (s : Int) (l : List Bool) (t : Bool) (hl : l.length ≤ 1048576) (k : Nat) (hk : l.length < k) : spec_paState.f k p s l t = some (goodState p.length l t) := by
  unfold spec_paState.f goodState
  by_cases h : l.length = p.length
  · rw [if_pos (by omega)]
    have h0 := paState_l0 l t hl l.length k 0 rfl (Nat.zero_le _) hk
    rw [List.drop_zero] at h0
    have h1 : spec_paState.l0 k l (l.length : Int) 0 l t = some (l.contains t) := h0
    rw [h1]
    simp [h]
  · rw [if_neg (by omega)]; simp [h]
theorem goodState_len {n : Nat} {l : List Bool} {t : Bool} (h : goodState n l t = true) : l.length = n := by
  unfold goodState at h
  simp only [Bool.and_eq_true, decide_eq_true_eq] at h
  exact h.1

end Go.Proofs.Ytokfpjebnkfccaa.Pure
