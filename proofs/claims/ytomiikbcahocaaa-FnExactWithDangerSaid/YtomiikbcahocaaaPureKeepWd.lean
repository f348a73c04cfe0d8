/- What the printed functions on keeps come to.
   Conditions: stated with each. -/
import Derived.Test.YtomiikbcahocaaaPureIntWd
import Derived.Test.YtomiikbcahocaaaPureIntSSWd
import Derived.Test.YtomiikbcahocaaaGWdx1
import Derived.Test.YtomiikbcahocaaaGWdx2
import Derived.Test.YtomiikbcahocaaaGWdx4
import Derived.Test.YtomiikbcahocaaaGWdx5
namespace Go.Proofs.Ytomiikbcahocaaa.Pure
open Go.RowKit Go.Proofs.Ytomiikbcahocaaa.G Go.Proofs.YtomiikbcahocaaaW.PrintWords

theorem szKeep_ev (n : Int) (l : List (List Int)) (s a : Int) (h : l.length ≤ 9223372036854775807) (hb : ∀ x ∈ l, x.length ≤ 9223372036854775807) (h0 : 0 ≤ a) (h1 : a ≤ 1048576) (k : Nat) (hk : l.length < k) :
    ∃ r, laws_szKeep.f k n l s a = some r ∧ r ≤ a ∧ (0 ≤ r → (l.length : Int) ≤ a ∧ ∀ x ∈ l, (x.length : Int) ≤ a) := by
  unfold laws_szKeep.f
  obtain ⟨r, h2, h3, h4⟩ := szIntSS_ev l a h hb h0 h1 k hk
  rw [h2, bindsome]
  by_cases c : r < 0
  · rw [if_pos c]
    exact ⟨-1, rfl, by omega, fun h => absurd h (by omega)⟩
  · rw [if_neg c]
    exact ⟨r, rfl, h3, h4⟩
theorem toKeep_ev (n : Int) (l : List (List Int)) (s : Int) (hl : l.length ≤ 1048576) (hb : ∀ x ∈ l, x.length ≤ 1048576) (k : Nat) (hk : l.length + 1048576 < k) : laws_toKeep.f k n l s = some (n, l, s) := by
  unfold laws_toKeep.f
  rw [toIntSS_ev l hl hb k hk, bindsome]
theorem eqKeep_ev (n : Int) (l : List (List Int)) (s : Int) (hl : l.length ≤ 1048576) (hb : ∀ x ∈ l, x.length ≤ 1048576) (k : Nat) (hk : l.length + 1048576 < k) : laws_eqKeep.f k n l s n l s = some true := by
  unfold laws_eqKeep.f
  rw [if_pos rfl, eqIntSS_ev l l hl hb k hk, bindsome]
  simp
/-- A danger between two of n things. -/
def goodD (n : Int) : List Int → Bool
  | [a, b] => decide (0 ≤ a) && (decide (a < b) && decide (b ≤ n - 1))
  | _ => false
def lessD : List Int → List Int → Bool
  | [a, b], [c, d] => decide (a < c) || (decide (a = c) && decide (b < d))
  | _, _ => false
def afterD : Option (List Int) → List Int → Bool
  | none, _ => true
  | some q, d => lessD q d
def okD (n : Int) : Option (List Int) → List (List Int) → Bool
  | _, [] => true
  | p, d :: t => goodD n d && (afterD p d && okD n (some d) t)
theorem goodD_form {n : Int} {d : List Int} (h : goodD n d = true) : ∃ a b, d = [a, b] ∧ 0 ≤ a ∧ a < b ∧ b ≤ n - 1 := by
  unfold goodD at h
  split at h
  · rename_i a b
    simp only [Bool.and_eq_true, decide_eq_true_eq] at h
    exact ⟨a, b, rfl, h.1, h.2.1, h.2.2⟩
  · exact absurd h (by simp)
theorem goodD_len {n : Int} {d : List Int} (h : ¬ (d.length : Int) = 2) : goodD n d = false := by
  unfold goodD
  split
  · simp at h
  · rfl
theorem len2 {d : List Int} (h : (d.length : Int) = 2) : ∃ a b, d = [a, b] := by
  match d, h with
  | [a, b], _ => exact ⟨a, b, rfl⟩
  | [], h => simp at h
  | [_], h => simp at h
  | _ :: _ :: _ :: _, h => simp only [List.length_cons] at h; omega
theorem rd0 (a : Int) (t : List Int) : rd (a :: t) 0 = a := rfl
theorem rd1 (a b : Int) (t : List Int) : rd (a :: b :: t) 1 = b := rfl
theorem keBefore_ev (a b c d : Int) : spec_keBefore.f [a, b] [c, d] = some (lessD [a, b] [c, d]) := by
  unfold spec_keBefore.f
  rw [rd0, rd0, rd1, rd1]
  simp only [List.length_cons, List.length_nil]
  rw [if_pos (by omega), if_pos (by omega)]
  show _ = some (decide (a < c) || (decide (a = c) && decide (b < d)))
  by_cases h1 : a < c
  · rw [if_pos h1, decide_eq_true h1, Bool.true_or]
  · rw [if_neg h1, decide_eq_false h1, Bool.false_or]
    by_cases h2 : a = c
    · rw [if_pos h2, decide_eq_true h2, Bool.true_and, if_pos (by omega), if_pos (by omega)]
    · rw [if_neg h2, decide_eq_false h2, Bool.false_and]
theorem rising2_ev (a b n : Int) (k : Nat) (hk : 3 ≤ k) : spec_l1Rising.f k [a, b] 0 (n - 1) = some (goodD n [a, b]) := by
  obtain ⟨k, rfl⟩ : ∃ q, k = q + 3 := ⟨k - 3, by omega⟩
  unfold spec_l1Rising.f
  simp only [spec_l1Rising.l0, l1In_ev, bindsome, List.length_cons, List.length_nil]
  rw [show wrap64 (0 + 1) = 1 by unfold wrap64; omega, show wrap64 (1 + 1) = 2 by unfold wrap64; omega, show wrap64 (1 - 1) = 0 by unfold wrap64; omega]
  simp only [rd0, rd1]
  unfold goodD
  by_cases h1 : 0 ≤ a <;> by_cases h2 : a ≤ n - 1 <;> by_cases h3 : 0 ≤ b <;> by_cases h4 : b ≤ n - 1 <;> by_cases h5 : a < b <;> first | omega | (simp [h1, h2, h3, h4, h5]; try omega)
theorem compare_ev (a b : Int) : cmp_Compare_int.f a b = some (if a < b then -1 else if a > b then 1 else 0) := by
  unfold cmp_Compare_int.f cmp_isNaN_int.f
  simp only [bindsome, bne_self_eq_false]
  by_cases h : a < b
  · simp [h]
  · by_cases h2 : b < a <;> simp [h, h2]
theorem compare2_ev (a b c d : Int) (k : Nat) (hk : 3 ≤ k) : slices_Compare_int_int.f k [a, b] [c, d] = some (if a < c then -1 else if a > c then 1 else if b < d then -1 else if b > d then 1 else 0) := by
  obtain ⟨k, rfl⟩ : ∃ q, k = q + 3 := ⟨k - 3, by omega⟩
  unfold slices_Compare_int_int.f
  simp only [slices_Compare_int_int.l0, compare_ev, bindsome, List.length_cons, List.length_nil]
  rw [show wrap64 (0 + 1) = 1 by unfold wrap64; omega, show wrap64 (1 + 1) = 2 by unfold wrap64; omega]
  simp only [rd0, rd1]
  by_cases h1 : a < c
  · simp [h1]
  · by_cases h2 : a > c
    · simp [h1, h2]
    · by_cases h3 : b < d
      · simp [h1, h2, h3]
      · by_cases h4 : b > d <;> simp [h1, h2, h3, h4]
theorem compare2_less (a b c d : Int) (k : Nat) (hk : 3 ≤ k) : ∃ r, slices_Compare_int_int.f k [a, b] [c, d] = some r ∧ lessD [a, b] [c, d] = !decide (r ≥ 0) := by
  refine ⟨_, compare2_ev a b c d k hk, ?_⟩
  unfold lessD
  by_cases h1 : a < c
  · simp [h1]
  · by_cases h2 : a = c
    · subst h2
      by_cases h3 : b < d
      · simp [h3]
      · by_cases h4 : b > d <;> simp [h3, h4]
    · have h5 : a > c := by omega
      simp [h1, h2, h5]
theorem okD_false {n : Int} {p : Option (List Int)} {d : List Int} {t : List (List Int)} (h : goodD n d = false) : okD n p (d :: t) = false := by
  unfold okD
  rw [h, Bool.false_and]
theorem okD_true {n : Int} {p : Option (List Int)} {d : List Int} {t : List (List Int)} (h : goodD n d = true) : okD n p (d :: t) = (afterD p d && okD n (some d) t) := by
  rw [okD, h, Bool.true_and]
/-- The element before index i. -/
def prevD (l : List (List Int)) (i : Nat) : Option (List Int) := if i = 0 then none else l[i - 1]?
theorem prevD_succ (l : List (List Int)) (i : Nat) (h : i < l.length) : prevD l (i + 1) = some l[i] := by
  unfold prevD
  rw [if_neg (by omega)]
  simp [h]
theorem keGood_l0 (n : Int) (l : List (List Int)) (s : Int) (hl : l.length ≤ 1048576) (h0 : 0 ≤ n) (h8 : n ≤ 8) (d : Nat) : ∀ (k i : Nat), l.length - i = d → i ≤ l.length → d * 2 + 4 < k → (∀ q, prevD l i = some q → goodD n q = true) →
    spec_keGood.l0 k l (l.length : Int) (i : Int) n l s = some (okD n (prevD l i) (l.drop i)) := by
  induction d with
  | zero =>
    intro k i hd hi hk hq
    obtain ⟨k, rfl⟩ : ∃ q, k = q + 1 := ⟨k - 1, by omega⟩
    simp only [spec_keGood.l0]
    rw [if_neg (by omega), List.drop_eq_nil_of_le (by omega)]
    simp [okD]
  | succ d ih =>
    intro k i hd hi hk hq
    obtain ⟨k, rfl⟩ : ∃ q, k = q + 2 := ⟨k - 2, by omega⟩
    have hlt : i < l.length := by omega
    simp only [spec_keGood.l0]
    rw [if_pos (by omega), if_pos (by omega), if_pos (by omega), rdll l i hlt, drop_cons l i hlt, wadd (x := n - 1) (by omega) (by omega)]
    by_cases h2 : (l[i].length : Int) = 2
    · rw [if_pos h2]
      obtain ⟨a, b, hab⟩ := len2 h2
      rw [hab, rising2_ev a b n _ (by omega), bindsome, ← hab]
      simp only [spec_keGood.j2]
      cases hg : goodD n l[i]
      · rw [if_pos (by rfl), okD_false hg]
      · rw [if_neg (by simp), okD_true hg]
        by_cases hi0 : i = 0
        · have hp : prevD l i = none := by unfold prevD; rw [if_pos hi0]
          rw [if_neg (by omega), wnat hlt (by omega), ih k (i + 1) (by omega) (by omega) (by omega) (fun q e => by rw [prevD_succ l i hlt] at e; obtain rfl := Option.some.inj e; exact hg), hp, prevD_succ l i hlt]
          rfl
        · have hp : prevD l i = some l[i - 1] := by unfold prevD; rw [if_neg hi0]; simp
          rw [if_pos (by omega), wadd (x := (i : Int) - 1) (by omega) (by omega), if_pos (by omega), if_pos (by omega), show (i : Int) - 1 = ((i - 1 : Nat) : Int) by omega, rdll l (i - 1) (by omega), hp]
          obtain ⟨c, e, hce, _⟩ := goodD_form (hq _ hp)
          rw [hce, hab, keBefore_ev, bindsome, ← hab, ← hce]
          show _ = some (lessD l[i - 1] l[i] && _)
          cases hL : lessD l[i - 1] l[i]
          · rw [if_neg (by simp), Bool.false_and]
          · rw [if_pos rfl, Bool.true_and, wnat hlt (by omega), ih k (i + 1) (by omega) (by omega) (by omega) (fun q e => by rw [prevD_succ l i hlt] at e; obtain rfl := Option.some.inj e; exact hg), prevD_succ l i hlt]
    · rw [if_neg h2, okD_false (goodD_len h2)]
      simp only [spec_keGood.j2]
      rw [if_pos trivial]
theorem areIn2_ev (a b n : Int) : impl_areIn.f [a, b] 0 (n - 1) 2 2 = some (decide (0 ≤ a) && decide (a ≤ n - 1) && (decide (0 ≤ b) && decide (b ≤ n - 1))) := by
  unfold impl_areIn.f
  simp
theorem implIsKeep_l0 (n : Int) (l : List (List Int)) (s : Int) (hl : l.length ≤ 1048576) (h0 : 0 ≤ n) (h8 : n ≤ 8) (d : Nat) : ∀ (k i : Nat), l.length - i = d → i ≤ l.length → d * 2 + 4 < k → (∀ q, prevD l i = some q → goodD n q = true) →
    impl_IsKeep.l0 k l (l.length : Int) (i : Int) n l s = some (okD n (prevD l i) (l.drop i)) := by
  induction d with
  | zero =>
    intro k i hd hi hk hq
    obtain ⟨k, rfl⟩ : ∃ q, k = q + 1 := ⟨k - 1, by omega⟩
    simp only [impl_IsKeep.l0]
    rw [if_neg (by omega), List.drop_eq_nil_of_le (by omega)]
    simp [okD]
  | succ d ih =>
    intro k i hd hi hk hq
    obtain ⟨k, rfl⟩ : ∃ q, k = q + 1 := ⟨k - 1, by omega⟩
    have hlt : i < l.length := by omega
    simp only [impl_IsKeep.l0]
    rw [if_pos (by omega), if_pos (by omega), if_pos (by omega), rdll l i hlt, drop_cons l i hlt, wadd (x := n - 1) (by omega) (by omega)]
    by_cases h2 : (l[i].length : Int) = 2
    · obtain ⟨a, b, hab⟩ := len2 h2
      rw [hab, areIn2_ev, bindsome, rd0, rd1, ← hab, if_pos (by omega : (0 : Int) < (l[i].length : Int)), if_pos (by omega : (1 : Int) < (l[i].length : Int))]
      have hgd : goodD n l[i] = (decide (0 ≤ a) && (decide (a < b) && decide (b ≤ n - 1))) := by rw [hab]; rfl
      by_cases hA : 0 ≤ a ∧ a < b ∧ b ≤ n - 1
      · have hg : goodD n l[i] = true := by rw [hgd]; simp [hA]
        have hA' : (decide (0 ≤ a) && decide (a ≤ n - 1) && (decide (0 ≤ b) && decide (b ≤ n - 1))) = true := by simp; omega
        rw [if_pos hA', if_neg (by omega), okD_true hg]
        by_cases hi0 : i = 0
        · have hp : prevD l i = none := by unfold prevD; rw [if_pos hi0]
          rw [if_neg (by omega), wnat hlt (by omega), ih k (i + 1) (by omega) (by omega) (by omega) (fun q e => by rw [prevD_succ l i hlt] at e; obtain rfl := Option.some.inj e; exact hg), hp, prevD_succ l i hlt]
          rfl
        · have hp : prevD l i = some l[i - 1] := by unfold prevD; rw [if_neg hi0]; simp
          rw [if_pos (by omega), wadd (x := (i : Int) - 1) (by omega) (by omega), if_pos (by omega), if_pos (by omega), show (i : Int) - 1 = ((i - 1 : Nat) : Int) by omega, rdll l (i - 1) (by omega), hp]
          obtain ⟨c, e, hce, _⟩ := goodD_form (hq _ hp)
          obtain ⟨r, hr, hL⟩ := compare2_less c e a b k (by omega)
          rw [← hce, ← hab] at hL hr
          rw [hr, bindsome]
          show _ = some (lessD l[i - 1] l[i] && _)
          rw [hL]
          by_cases hr0 : r ≥ 0
          · rw [if_pos hr0, decide_eq_true hr0]; rfl
          · rw [if_neg hr0, decide_eq_false hr0, wnat hlt (by omega), ih k (i + 1) (by omega) (by omega) (by omega) (fun q e => by rw [prevD_succ l i hlt] at e; obtain rfl := Option.some.inj e; exact hg), prevD_succ l i hlt]
            rfl
      · have hg : goodD n l[i] = false := by
          rw [hgd]
          cases hh : (decide (0 ≤ a) && (decide (a < b) && decide (b ≤ n - 1)))
          · rfl
          · simp only [Bool.and_eq_true, decide_eq_true_eq] at hh
            exact absurd hh hA
        rw [okD_false hg]
        by_cases hB : (decide (0 ≤ a) && decide (a ≤ n - 1) && (decide (0 ≤ b) && decide (b ≤ n - 1))) = true
        · rw [if_pos hB, if_pos (by simp at hB; omega)]
        · rw [if_neg hB]
    · rw [okD_false (goodD_len h2)]
      have : impl_areIn.f l[i] 0 (n - 1) 2 2 = some false := by
        unfold impl_areIn.f
        by_cases h3 : 2 ≤ (l[i].length : Int)
        · rw [decide_eq_false (show ¬ (l[i].length : Int) ≤ 2 by omega), Bool.false_and, Bool.and_false]
        · rw [decide_eq_false h3, Bool.false_and]
      rw [this, bindsome, if_neg (by simp)]
/-- When three values are a keep. -/
def isKeep (n : Int) (l : List (List Int)) (s : Int) : Bool := (decide (0 ≤ n) && decide (n ≤ 8)) && ((decide (0 ≤ s) && decide (s ≤ 8)) && okD n none l)
theorem keGood_ev (n : Int) (l : List (List Int)) (s : Int) (hl : l.length ≤ 1048576) (k : Nat) (hk : l.length * 2 + 5 < k) : spec_keGood.f k n l s = some (isKeep n l s) := by
  obtain ⟨k, rfl⟩ : ∃ q, k = q + 1 := ⟨k - 1, by omega⟩
  unfold spec_keGood.f isKeep
  simp only [l1In_ev, bindsome]
  by_cases h : 0 ≤ n ∧ n ≤ 8
  · have e := keGood_l0 n l s hl h.1 h.2 l.length k 0 rfl (Nat.zero_le _) (by omega) (fun q e => by simp [prevD] at e)
    have e' : spec_keGood.l0 k l (l.length : Int) 0 n l s = some (okD n none l) := by simpa [prevD] using e
    rw [if_pos (by simp [h]), decide_eq_true h.1, decide_eq_true h.2, Bool.true_and, Bool.true_and]
    simp only [spec_keGood.j0, e']
    cases (decide (0 ≤ s) && decide (s ≤ 8)) <;> rfl
  · have hh : (decide (0 ≤ n) && decide (n ≤ 8)) = false := by
      by_cases h1 : 0 ≤ n
      · simp [h1]; omega
      · simp [h1]
    rw [hh, if_neg (by simp), Bool.false_and]
    simp only [spec_keGood.j0]
    rw [if_pos trivial]
theorem implIsKeep_ev (n : Int) (l : List (List Int)) (s : Int) (hl : l.length ≤ 1048576) (k : Nat) (hk : l.length * 2 + 5 < k) : impl_IsKeep.f k n l s = some (isKeep n l s) := by
  obtain ⟨k, rfl⟩ : ∃ q, k = q + 1 := ⟨k - 1, by omega⟩
  unfold impl_IsKeep.f isKeep
  simp only [in_ev, bindsome]
  by_cases h : 0 ≤ n ∧ n ≤ 8
  · have e := implIsKeep_l0 n l s hl h.1 h.2 l.length k 0 rfl (Nat.zero_le _) (by omega) (fun q e => by simp [prevD] at e)
    have e' : impl_IsKeep.l0 k l (l.length : Int) 0 n l s = some (okD n none l) := by simpa [prevD] using e
    rw [if_pos (by simp [h]), decide_eq_true h.1, decide_eq_true h.2, Bool.true_and, Bool.true_and]
    simp only [impl_IsKeep.j0, e']
    cases (decide (0 ≤ s) && decide (s ≤ 8)) <;> rfl
  · have hh : (decide (0 ≤ n) && decide (n ≤ 8)) = false := by
      by_cases h1 : 0 ≤ n
      · simp [h1]; omega
      · simp [h1]
    rw [hh, if_neg (by simp), Bool.false_and]
    simp only [impl_IsKeep.j0]
    rw [if_pos trivial]
theorem okD_all {n : Int} : ∀ {l : List (List Int)} {p : Option (List Int)}, okD n p l = true → ∀ d ∈ l, goodD n d = true
  | [], _, _, d, hd => by simp at hd
  | x :: t, p, h, d, hd => by
    rw [okD, Bool.and_eq_true, Bool.and_eq_true] at h
    rcases List.mem_cons.1 hd with e | e
    · rw [e]; exact h.1
    · exact okD_all h.2.2 d e
theorem isKeep_out {n : Int} {l : List (List Int)} {s : Int} (h : isKeep n l s = true) : (0 ≤ n ∧ n ≤ 8) ∧ (0 ≤ s ∧ s ≤ 8) ∧ ∀ d ∈ l, goodD n d = true := by
  unfold isKeep at h
  simp only [Bool.and_eq_true, decide_eq_true_eq] at h
  exact ⟨h.1, h.2.1, okD_all h.2.2⟩

end Go.Proofs.Ytomiikbcahocaaa.Pure
