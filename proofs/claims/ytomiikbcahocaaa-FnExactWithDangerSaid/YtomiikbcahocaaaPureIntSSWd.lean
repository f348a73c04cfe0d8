/- What the printed functions on lists of lists of ints come to: sizes, copies, comparisons.
   Conditions: stated with each. -/
import Derived.Test.YtomiikbcahocaaaPureIntWd
import Derived.Test.YtomiikbcahocaaaGWdx1
namespace Go.Proofs.Ytomiikbcahocaaa.Pure
open Go.RowKit Go.Proofs.Ytomiikbcahocaaa.G Go.Proofs.YtomiikbcahocaaaW.PrintWords

theorem rdll (l : List (List Int)) (i : Nat) (h : i < l.length) : rd_L1 l (i : Int) = l[i] := by
  simp [rd_L1, List.getD_eq_getElem?_getD, h]
theorem szIntSS_l0 (l : List (List Int)) (hl : l.length ≤ 1048576) (hb : ∀ x ∈ l, x.length ≤ 9223372036854775807) (d : Nat) : ∀ (k i : Nat) (a : Int), l.length - i = d → i ≤ l.length → d < k → 0 ≤ a → a ≤ 1048576 →
    ∃ r, laws_szIntSS.l0 k l a (i : Int) = some r ∧ r ≤ a ∧ (0 ≤ r → ∀ x ∈ l.drop i, (x.length : Int) ≤ a) := by
  induction d with
  | zero =>
    intro k i a hd hi hk h0 h1
    obtain ⟨k, rfl⟩ : ∃ q, k = q + 1 := ⟨k - 1, by omega⟩
    simp only [laws_szIntSS.l0]
    rw [if_neg (by omega), List.drop_eq_nil_of_le (by omega)]
    exact ⟨a, rfl, Int.le_refl _, fun _ x hx => by simp at hx⟩
  | succ d ih =>
    intro k i a hd hi hk h0 h1
    obtain ⟨k, rfl⟩ : ∃ q, k = q + 1 := ⟨k - 1, by omega⟩
    have hlt : i < l.length := by omega
    simp only [laws_szIntSS.l0]
    rw [if_pos (by omega), if_pos (by omega), wnat hlt (by omega), rdll l i hlt, szIntS_ev _ a (hb _ (List.getElem_mem hlt)) h0 h1, bindsome]
    by_cases c : a < (l[i].length : Int)
    · rw [if_pos c, if_pos (by omega)]
      exact ⟨-1, rfl, by omega, fun h => absurd h (by omega)⟩
    · rw [if_neg c, if_neg (by omega)]
      obtain ⟨r, h2, h3, h4⟩ := ih k (i + 1) (a - l[i].length) (by omega) (by omega) (by omega) (by omega) (by omega)
      refine ⟨r, h2, by omega, fun h x hx => ?_⟩
      rw [drop_cons l i hlt] at hx
      rcases List.mem_cons.1 hx with e | e
      · rw [e]; omega
      · have := h4 h x e; omega
theorem szIntSS_ev (l : List (List Int)) (a : Int) (h : l.length ≤ 9223372036854775807) (hb : ∀ x ∈ l, x.length ≤ 9223372036854775807) (h0 : 0 ≤ a) (h1 : a ≤ 1048576) (k : Nat) (hk : l.length < k) :
    ∃ r, laws_szIntSS.f k l a = some r ∧ r ≤ a ∧ (0 ≤ r → (l.length : Int) ≤ a ∧ ∀ x ∈ l, (x.length : Int) ≤ a) := by
  unfold laws_szIntSS.f
  rw [wadd (x := a - (l.length : Int)) (by omega) (by omega)]
  by_cases c : a - (l.length : Int) < 0
  · rw [if_pos c]
    exact ⟨-1, rfl, by omega, fun h => absurd h (by omega)⟩
  · rw [if_neg c]
    obtain ⟨r, h2, h3, h4⟩ := szIntSS_l0 l (by omega) hb l.length k 0 (a - l.length) rfl (Nat.zero_le _) hk (by omega) (by omega)
    refine ⟨r, h2, by omega, fun h => ⟨by omega, fun x hx => ?_⟩⟩
    have := h4 h x (by rw [List.drop_zero]; exact hx)
    omega
theorem toIntSS_l0 (l : List (List Int)) (hl : l.length ≤ 1048576) (hb : ∀ x ∈ l, x.length ≤ 1048576) (d : Nat) : ∀ (k i : Nat) (m : List (List Int)), l.length - i = d → i ≤ l.length → d + 1048576 < k → m.length = l.length → m.take i = l.take i → laws_toIntSS.l0 k l m (i : Int) = some l := by
  induction d with
  | zero =>
    intro k i m hd hi hk hm ht
    obtain ⟨k, rfl⟩ : ∃ q, k = q + 1 := ⟨k - 1, by omega⟩
    simp only [laws_toIntSS.l0]
    rw [if_neg (by omega)]
    have e : i = l.length := by omega
    subst e
    rw [← hm, List.take_length, hm, List.take_length] at ht
    rw [ht]
  | succ d ih =>
    intro k i m hd hi hk hm ht
    obtain ⟨k, rfl⟩ : ∃ q, k = q + 1 := ⟨k - 1, by omega⟩
    have hlt : i < l.length := by omega
    have hx := hb _ (List.getElem_mem hlt)
    simp only [laws_toIntSS.l0]
    rw [if_pos (by omega), if_pos (by omega), rdll l i hlt, toIntS_ev _ hx k (by omega), bindsome, if_pos (by omega), wnat hlt (by omega), Int.toNat_natCast]
    exact ih k (i + 1) _ (by omega) (by omega) (by omega) (by rw [List.length_set]; exact hm) (take_set l m i hm hlt ht)
theorem toIntSS_ev (l : List (List Int)) (hl : l.length ≤ 1048576) (hb : ∀ x ∈ l, x.length ≤ 1048576) (k : Nat) (hk : l.length + 1048576 < k) : laws_toIntSS.f k l = some l := by
  unfold laws_toIntSS.f
  rw [if_pos (by omega), if_pos (by omega)]
  exact toIntSS_l0 l hl hb l.length k 0 _ rfl (Nat.zero_le _) hk (by simp) (by simp)
theorem eqIntSS_l0 (l m : List (List Int)) (hl : l.length ≤ 1048576) (hb : ∀ x ∈ l, x.length ≤ 1048576) (hm : m.length = l.length) (d : Nat) : ∀ (k i : Nat), l.length - i = d → i ≤ l.length → d + 1048576 < k → l.take i = m.take i → laws_eqIntSS.l0 k l m (i : Int) = some (decide (l = m)) := by
  induction d with
  | zero =>
    intro k i hd hi hk ht
    obtain ⟨k, rfl⟩ : ∃ q, k = q + 1 := ⟨k - 1, by omega⟩
    simp only [laws_eqIntSS.l0]
    rw [if_neg (by omega)]
    have e : i = l.length := by omega
    subst e
    rw [List.take_length, ← hm, List.take_length] at ht
    rw [ht]
    simp
  | succ d ih =>
    intro k i hd hi hk ht
    obtain ⟨k, rfl⟩ : ∃ q, k = q + 1 := ⟨k - 1, by omega⟩
    have hlt : i < l.length := by omega
    have hx := hb _ (List.getElem_mem hlt)
    simp only [laws_eqIntSS.l0]
    rw [if_pos (by omega), if_pos (by omega), if_pos (by omega), wnat hlt (by omega), rdll l i hlt, rdll m i (by omega), eqIntS_ev _ _ hx k (by omega), bindsome]
    by_cases e : l[i] = m[i]
    · rw [if_pos (by simpa using e)]
      refine ih k (i + 1) (by omega) (by omega) (by omega) ?_
      rw [List.take_succ_eq_append_getElem hlt, List.take_succ_eq_append_getElem (by omega), ht, e]
    · rw [if_neg (by simpa using e)]
      have h : l ≠ m := by
        intro h
        subst h
        exact e rfl
      simp [h]
theorem eqIntSS_ev (l m : List (List Int)) (hl : l.length ≤ 1048576) (hb : ∀ x ∈ l, x.length ≤ 1048576) (k : Nat) (hk : l.length + 1048576 < k) : laws_eqIntSS.f k l m = some (decide (l = m)) := by
  unfold laws_eqIntSS.f
  by_cases h : l.length = m.length
  · rw [if_pos (by omega)]
    exact eqIntSS_l0 l m hl hb h.symm l.length k 0 rfl (Nat.zero_le _) hk (by simp)
  · rw [if_neg (by omega)]
    have h2 : l ≠ m := by
      intro h2
      subst h2
      exact h rfl
    simp [h2]

end Go.Proofs.Ytomiikbcahocaaa.Pure
