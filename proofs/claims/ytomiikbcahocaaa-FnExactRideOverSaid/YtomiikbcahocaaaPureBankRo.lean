/- What the printed functions on banks come to.
   Conditions: stated with each. -/
import Derived.Test.YtomiikbcahocaaaPureKeepRo
import Derived.Test.YtomiikbcahocaaaPureBoolRo
import Derived.Test.YtomiikbcahocaaaGRox1
import Derived.Test.YtomiikbcahocaaaGRox2
import Derived.Test.YtomiikbcahocaaaGRox3
import Derived.Test.YtomiikbcahocaaaGRox9
namespace Go.Proofs.Ytomiikbcahocaaa.Pure
open Go.RowKit Go.Proofs.Ytomiikbcahocaaa.G Go.Proofs.YtomiikbcahocaaaW.PrintWords

theorem szBank_ev (l : List Bool) (s : Bool) (a : Int) (h : l.length ≤ 9223372036854775807) (h0 : 0 ≤ a) (h1 : a ≤ 1048576) : laws_szBank.f l s a = some (if a < l.length then -1 else a - l.length) := by
  unfold laws_szBank.f
  rw [szBoolS_ev l a h h0 h1, bindsome]
  by_cases c : a < l.length
  · rw [if_pos c]; rfl
  · rw [if_neg c, if_neg (by omega)]
theorem toBank_ev (l : List Bool) (s : Bool) (hl : l.length ≤ 1048576) (k : Nat) (hk : l.length < k) : laws_toBank.f k l s = some (l, s) := by
  unfold laws_toBank.f
  rw [toBoolS_ev l hl k hk, bindsome]
theorem eqBank_ev (l m : List Bool) (s t : Bool) (hl : l.length ≤ 1048576) (k : Nat) (hk : l.length < k) : laws_eqBank.f k l s m t = some (decide (l = m) && decide (s = t)) := by
  unfold laws_eqBank.f
  rw [eqBoolS_ev l m hl k hk, bindsome]
  by_cases h : l = m <;> cases s <;> cases t <;> simp [h]
def hasBank (n : Int) (l : List (List Int)) (s : Int) (o : List Bool) : Bool := isKeep n l s && ((o.length : Int) == n)
theorem keAsked_ev (n : Int) (l : List (List Int)) (s : Int) (o : List Bool) (q : Bool) (hl : l.length ≤ 1048576) (k : Nat) (hk : l.length * 2 + 5 < k) : spec_keAsked.f k n l s o q = some (hasBank n l s o) := by
  unfold spec_keAsked.f hasBank
  rw [keGood_ev n l s hl k hk, bindsome]
  cases isKeep n l s <;> rfl
theorem hasBank_ev (n : Int) (l : List (List Int)) (s : Int) (o : List Bool) (q : Bool) (hl : l.length ≤ 1048576) (k : Nat) (hk : l.length * 2 + 5 < k) : impl_Keep_hasBank.f k n l s o q = some (hasBank n l s o) := by
  unfold impl_Keep_hasBank.f hasBank
  rw [implIsKeep_ev n l s hl k hk, bindsome]
  cases isKeep n l s <;> rfl
theorem hasBank_out {n : Int} {l : List (List Int)} {s : Int} {o : List Bool} (h : hasBank n l s o = true) : isKeep n l s = true ∧ (o.length : Int) = n := by
  unfold hasBank at h
  rw [Bool.and_eq_true] at h
  exact ⟨h.1, by simpa using h.2⟩

end Go.Proofs.Ytomiikbcahocaaa.Pure
