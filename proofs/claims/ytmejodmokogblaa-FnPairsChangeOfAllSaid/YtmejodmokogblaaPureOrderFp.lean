/- The order of pace: the insertion of one function and the sorting of the other come to one list.
   Conditions: stated with each. -/
import Derived.Test.YtmejodmokogblaaPureIntFp
import Derived.Test.YtmejodmokogblaaGFpx1
import Derived.Test.YtmejodmokogblaaGFpx2
namespace Go.Proofs.Ytmejodmokogblaa.Pure
open Go.RowKit Go.Proofs.Ytmejodmokogblaa.G Go.Proofs.YtmejodmokogblaaW.PrintWords

def leP (l : List Int) (a b : Int) : Prop := rd l a < rd l b ∨ (rd l a = rd l b ∧ a ≤ b)
theorem idx_succ (n : Nat) : impl_pace.idx (n + 1) = impl_pace.idx n ++ [(n : Int)] := by simp [impl_pace.idx, List.range_succ]
theorem idx_mem {n : Nat} {x : Int} (h : x ∈ impl_pace.idx n) : 0 ≤ x ∧ x < n := by
  simp only [impl_pace.idx, List.mem_map, List.mem_range] at h
  obtain ⟨a, h1, rfl⟩ := h
  omega
theorem pace_perm (l : List Int) : (impl_pace.paceL l).Perm (impl_pace.idx l.length) := by
  unfold impl_pace.paceL
  have h : (List.finRange l.length).map (fun x => (x.val : Int)) = impl_pace.idx l.length := by
    apply List.ext_getElem
    · simp [impl_pace.idx]
    · intro i h1 h2
      simp [impl_pace.idx]
  rw [← h]
  exact (List.mergeSort_perm _ _).map _
theorem before_le {l : List Int} {x y : Int} : impl_pace.before l x y = true ↔ leP l x y := by
  unfold impl_pace.before leP
  rw [Bool.not_eq_true', decide_eq_false_iff_not, impl_pace.cf_neg]
  omega
theorem pace_sorted (l : List Int) : (impl_pace.paceL l).Pairwise (leP l) := by
  unfold impl_pace.paceL
  rw [List.pairwise_map]
  have h := List.pairwise_mergeSort (le := fun x y : Fin l.length => impl_pace.before l (x.val : Int) (y.val : Int)) (fun a b c h1 h2 => by
    rw [before_le] at *
    unfold leP at *
    omega) (fun a b => by
    rw [Bool.or_eq_true, before_le, before_le]
    unfold leP
    omega) (List.finRange l.length)
  exact h.imp (fun {a b} hab => before_le.1 hab)
theorem pace_unique (l out : List Int) (h1 : out.Pairwise (leP l)) (h2 : out.Perm (impl_pace.idx l.length)) : out = impl_pace.paceL l :=
  List.Perm.eq_of_pairwise (le := leP l) (fun a b _ _ h3 h4 => by unfold leP at *; omega) h1 (pace_sorted l) (h2.trans (pace_perm l).symm)
theorem place_perm (out : List Int) (x : Int) (j : Nat) : ((out.take j ++ [x]) ++ out.drop j).Perm (out ++ [x]) := by
  rw [List.append_assoc]
  refine (List.Perm.append_left _ List.perm_append_comm).trans ?_
  rw [← List.append_assoc, List.take_append_drop]
theorem place_sorted {l out : List Int} {i : Nat} {j : Nat} (h1 : out.Pairwise (leP l)) (hi : ∀ q ∈ out, q < (i : Int)) (hj : j ≤ out.length) (hd : ∀ q ∈ out.drop j, rd l q > rd l i) (ht : ∀ h : 0 < j ∧ j ≤ out.length, rd l (out[j - 1]'(by omega)) ≤ rd l i) :
    ((out.take j ++ [(i : Int)]) ++ out.drop j).Pairwise (leP l) := by
  have h2 : (out.take j ++ out.drop j).Pairwise (leP l) := by rw [List.take_append_drop]; exact h1
  obtain ⟨h3, h4, h5⟩ := List.pairwise_append.1 h2
  have hle : ∀ q ∈ out.take j, leP l q i := by
    intro q hq
    obtain ⟨m, hm, e⟩ := List.mem_take_iff_getElem.1 hq
    have hm' : m < j := by omega
    have hqi := hi q (List.mem_of_mem_take hq)
    have h6 : leP l q (out[j - 1]'(by omega)) := by
      by_cases e1 : m = j - 1
      · have : q = out[j - 1]'(by omega) := by rw [← e]; simp only [e1]
        rw [← this]
        exact .inr ⟨rfl, Int.le_refl _⟩
      · rw [← e]
        exact List.pairwise_iff_getElem.1 h1 m (j - 1) (by omega) (by omega) (by omega)
    have h7 := ht ⟨by omega, hj⟩
    unfold leP at *
    omega
  refine List.pairwise_append.2 ⟨List.pairwise_append.2 ⟨h3, List.pairwise_singleton _ _, fun a ha b hb => ?_⟩, h4, fun a ha b hb => ?_⟩
  · rw [List.mem_singleton.1 hb]
    exact hle a ha
  · rcases List.mem_append.1 ha with ha | ha
    · exact h5 a ha b hb
    · rw [List.mem_singleton.1 ha]
      have := hd b hb
      exact .inl this
theorem order_l1 (l out : List Int) (i : Nat) (hl : l.length ≤ 12) (hil : i < l.length) (ho : out.length = i) (hin : ∀ q ∈ out, 0 ≤ q ∧ q < (i : Int)) : ∀ (j k : Nat), j ≤ out.length → j < k → (∀ q ∈ out.drop j, rd l q > rd l i) →
    ∃ j' k2, j' ≤ j ∧ k ≤ k2 + j + 1 ∧ (∀ q ∈ out.drop j', rd l q > rd l i) ∧ (∀ h : 0 < j' ∧ j' ≤ out.length, rd l (out[j' - 1]'(by omega)) ≤ rd l i) ∧
      spec_prOrder.l1 k l out (i : Int) (rd l (i : Int)) (j : Int) l (l.length : Int) (i : Int) = spec_prOrder.l0 k2 l ((out.take j' ++ [(i : Int)]) ++ out.drop j') l (l.length : Int) ((i + 1 : Nat) : Int) := by
  intro j
  induction j with
  | zero =>
    intro k hj hk hd
    obtain ⟨k, rfl⟩ : ∃ q, k = q + 1 := ⟨k - 1, by omega⟩
    refine ⟨0, k, Nat.le_refl _, by omega, hd, fun h => absurd h.1 (by omega), ?_⟩
    simp only [spec_prOrder.l1]
    rw [if_neg (by omega), if_pos (by omega), if_pos (by omega)]
    unfold spec_l1Own.f
    simp only [bindsome, List.nil_append]
    rw [if_pos (by simp), bindsome, if_pos (by simp), if_pos (by simp; omega), wnat hil (by omega)]
    simp
  | succ j ih =>
    intro k hj hk hd
    obtain ⟨k, rfl⟩ : ∃ q, k = q + 1 := ⟨k - 1, by omega⟩
    have hjl : j < out.length := by omega
    have hq := hin out[j] (List.getElem_mem hjl)
    simp only [spec_prOrder.l1]
    rw [if_pos (by omega), wadd (x := ((j + 1 : Nat) : Int) - 1) (by omega) (by omega), show ((j + 1 : Nat) : Int) - 1 = (j : Int) by omega, if_pos (by omega), if_pos (by omega), rdn out j hjl, if_pos hq.1, if_pos (by omega)]
    by_cases c : rd l out[j] > rd l (i : Int)
    · rw [if_pos c]
      obtain ⟨j', k2, h1, h2, h3, h4, h5⟩ := ih k (by omega) (by omega) (fun q hq => by
        rw [drop_cons out j hjl] at hq
        rcases List.mem_cons.1 hq with e | e
        · rw [e]; exact c
        · exact hd q e)
      exact ⟨j', k2, by omega, by omega, h3, h4, h5⟩
    · rw [if_neg c, if_pos (by omega), if_pos (by omega), Int.toNat_natCast]
      refine ⟨j + 1, k, Nat.le_refl _, by omega, hd, fun _ => by simpa using Int.not_lt.1 c, ?_⟩
      unfold spec_l1Own.f
      simp only [bindsome, List.nil_append]
      rw [if_pos (by simp; omega), bindsome, if_pos (by simp; omega), if_pos (by simp; omega), wnat hil (by omega)]
theorem order_l0 (l : List Int) (hl : l.length ≤ 12) (d : Nat) : ∀ (k i : Nat) (out : List Int), l.length - i = d → i ≤ l.length → d * 15 < k → out.Pairwise (leP l) → out.Perm (impl_pace.idx i) → spec_prOrder.l0 k l out l (l.length : Int) (i : Int) = some (impl_pace.paceL l) := by
  induction d with
  | zero =>
    intro k i out hd hi hk h1 h2
    obtain ⟨k, rfl⟩ : ∃ q, k = q + 1 := ⟨k - 1, by omega⟩
    have e : i = l.length := by omega
    subst e
    simp only [spec_prOrder.l0]
    rw [if_neg (by omega), pace_unique l out h1 h2]
  | succ d ih =>
    intro k i out hd hi hk h1 h2
    obtain ⟨k, rfl⟩ : ∃ q, k = q + 1 := ⟨k - 1, by omega⟩
    have hlt : i < l.length := by omega
    have ho : out.length = i := by rw [h2.length_eq]; simp [impl_pace.idx]
    have hin : ∀ q ∈ out, 0 ≤ q ∧ q < (i : Int) := fun q hq => idx_mem (h2.mem_iff.1 hq)
    simp only [spec_prOrder.l0]
    rw [if_pos (by omega), if_pos (by omega), if_pos (by omega), ho]
    obtain ⟨j, k2, a1, a2, a3, a4, a5⟩ := order_l1 l out i hl hlt ho hin i k (by omega) (by omega) (by rw [← ho, List.drop_length]; intro q hq; simp at hq)
    rw [a5]
    refine ih k2 (i + 1) _ (by omega) (by omega) (by omega) (place_sorted h1 (fun q hq => (hin q hq).2) (by omega) a3 a4) ?_
    rw [idx_succ]
    exact (place_perm out i j).trans (h2.append_right _)
theorem prOrder_ev (l : List Int) (hl : l.length ≤ 12) (k : Nat) (hk : l.length * 15 < k) : spec_prOrder.f k l = some (impl_pace.paceL l) := by
  unfold spec_prOrder.f
  exact order_l0 l hl l.length k 0 [] rfl (Nat.zero_le _) hk List.Pairwise.nil (by simp [impl_pace.idx])
/-- When a list is one of times. -/
def isTimes (l : List Int) : Bool := decide (1 ≤ l.length ∧ l.length ≤ 12) && l.all fun x => decide (1 ≤ x) && decide (x ≤ 1000)
theorem isTimes_ev (l : List Int) : impl_isTimes.f l = some (isTimes l) := by
  unfold impl_isTimes.f impl_areIn.f isTimes
  rw [bindsome]
  by_cases h1 : 1 ≤ l.length
  · by_cases h2 : l.length ≤ 12
    · have h3 : (1 : Int) ≤ (l.length : Int) := by omega
      have h4 : (l.length : Int) ≤ 12 := by omega
      simp [h1, h2, h3, h4]
    · have h3 : ¬ ((l.length : Int) ≤ 12) := by omega
      simp [h1, h2, h3]
  · have h3 : ¬ (1 ≤ (l.length : Int)) := by omega
    simp [h1, h3]
theorem prGood_ev (l : List Int) (hl : l.length ≤ 1048576) (k : Nat) (hk : l.length < k) : spec_prGood.f k l = some (isTimes l) := by
  unfold spec_prGood.f isTimes
  rw [l1In_ev, bindsome, l1All_ev l 1 1000 hl k hk, bindsome]
  by_cases h1 : 1 ≤ l.length
  · by_cases h2 : l.length ≤ 12
    · have h3 : (1 : Int) ≤ (l.length : Int) := by omega
      have h4 : (l.length : Int) ≤ 12 := by omega
      simp [h1, h2, h3, h4]
    · have h3 : ¬ ((l.length : Int) ≤ 12) := by omega
      simp [h1, h2, h3]
  · have h3 : ¬ (1 ≤ (l.length : Int)) := by omega
    simp [h1, h3]
theorem isTimes_out {l : List Int} (h : isTimes l = true) : 1 ≤ l.length ∧ l.length ≤ 12 ∧ ∀ x ∈ l, 1 ≤ x ∧ x ≤ 1000 := by
  unfold isTimes at h
  rw [Bool.and_eq_true, decide_eq_true_eq, List.all_eq_true] at h
  exact ⟨h.1.1, h.1.2, fun x hx => by have := h.2 x hx; simpa using this⟩

end Go.Proofs.Ytmejodmokogblaa.Pure
