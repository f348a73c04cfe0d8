/- The law FnExactSortParty returns true for all arguments: the insertion of one function and the sorting of the other come to one list, in memory of its own; the copies stay.
   Conditions: the list is no longer than any Go slice. -/
import Derived.Test.YtlbmbofhbficgaaPureStepSo
import Derived.Test.YtlbmbofhbficgaaPurePartySo
import Derived.Test.YtlbmbofhbficgaaPurePartyMarkSo
import Derived.Test.YtlbmbofhbficgaaGSox1
import Derived.Test.YtlbmbofhbficgaaGSox2
import Derived.Test.YtlbmbofhbficgaaGSox3
namespace Go.Proofs.Ytlbmbofhbficgaa.Pure
open Go.RowKit Go.Proofs.Ytlbmbofhbficgaa.G Go.Proofs.YtlbmbofhbficgaaW.PrintWords

theorem srt_sorted (l : List Int) : (impl_SortParty.srt l).Pairwise (· ≤ ·) := by
  unfold impl_SortParty.srt
  have h := List.pairwise_mergeSort (le := fun x y : Int => decide (x ≤ y)) (fun a b c h1 h2 => by
    rw [decide_eq_true_eq] at *
    omega) (fun a b => by
    rw [Bool.or_eq_true, decide_eq_true_eq, decide_eq_true_eq]
    omega) l
  exact h.imp (fun hab => of_decide_eq_true hab)
theorem srt_unique (l out : List Int) (h1 : out.Pairwise (· ≤ ·)) (h2 : out.Perm l) : out = impl_SortParty.srt l :=
  List.Perm.eq_of_pairwise (le := (· ≤ ·)) (fun _ _ _ _ h3 h4 => Int.le_antisymm h3 h4) h1 (srt_sorted l) (h2.trans (List.mergeSort_perm l _).symm)
theorem place_perm (out : List Int) (x : Int) (j : Nat) : ((out.take j ++ [x]) ++ out.drop j).Perm (out ++ [x]) := by
  rw [List.append_assoc]
  refine (List.Perm.append_left _ List.perm_append_comm).trans ?_
  rw [← List.append_assoc, List.take_append_drop]
theorem place_sorted {out : List Int} {x : Int} {j : Nat} (h1 : out.Pairwise (· ≤ ·)) (hj : j ≤ out.length) (hd : ∀ q ∈ out.drop j, x ≤ q) (ht : ∀ h : 0 < j ∧ j ≤ out.length, out[j - 1]'(by omega) ≤ x) :
    ((out.take j ++ [x]) ++ out.drop j).Pairwise (· ≤ ·) := by
  have h2 : (out.take j ++ out.drop j).Pairwise (· ≤ ·) := by rw [List.take_append_drop]; exact h1
  obtain ⟨h3, h4, h5⟩ := List.pairwise_append.1 h2
  have hle : ∀ q ∈ out.take j, q ≤ x := by
    intro q hq
    obtain ⟨m, hm, e⟩ := List.mem_take_iff_getElem.1 hq
    have hm' : m < j := by omega
    have h6 : q ≤ out[j - 1]'(by omega) := by
      by_cases e1 : m = j - 1
      · have : q = out[j - 1]'(by omega) := by rw [← e]; simp only [e1]
        rw [← this]
        exact Int.le_refl _
      · rw [← e]
        exact List.pairwise_iff_getElem.1 h1 m (j - 1) (by omega) (by omega) (by omega)
    exact Int.le_trans h6 (ht ⟨by omega, hj⟩)
  refine List.pairwise_append.2 ⟨List.pairwise_append.2 ⟨h3, List.pairwise_singleton _ _, fun a ha b hb => ?_⟩, h4, fun a ha b hb => ?_⟩
  · rw [List.mem_singleton.1 hb]
    exact hle a ha
  · rcases List.mem_append.1 ha with ha | ha
    · exact h5 a ha b hb
    · rw [List.mem_singleton.1 ha]
      exact hd b hb
theorem sorted_l1 (l out : List Int) (i : Nat) (x : Int) (hl : l.length ≤ 12) (hil : i < l.length) (ho : out.length = i) : ∀ (j k : Nat), j ≤ out.length → j < k → (∀ q ∈ out.drop j, x ≤ q) →
    ∃ j' k2, j' ≤ j ∧ k ≤ k2 + j + 1 ∧ (∀ q ∈ out.drop j', x ≤ q) ∧ (∀ h : 0 < j' ∧ j' ≤ out.length, out[j' - 1]'(by omega) ≤ x) ∧
      spec_paSorted.l1 k out x (j : Int) l (l.length : Int) (i : Int) = spec_paSorted.l0 k2 ((out.take j' ++ [x]) ++ out.drop j') l (l.length : Int) ((i + 1 : Nat) : Int) := by
  intro j
  induction j with
  | zero =>
    intro k hj hk hd
    obtain ⟨k, rfl⟩ : ∃ q, k = q + 1 := ⟨k - 1, by omega⟩
    refine ⟨0, k, Nat.le_refl _, by omega, hd, fun h => absurd h.1 (by omega), ?_⟩
    simp only [spec_paSorted.l1]
    rw [if_neg (by omega), if_pos (by omega), if_pos (by omega)]
    unfold spec_l1Own.f
    simp only [bindsome, List.nil_append]
    rw [if_pos (by simp), bindsome, if_pos (by simp), if_pos (by simp; omega), wnat hil (by omega)]
    simp
  | succ j ih =>
    intro k hj hk hd
    obtain ⟨k, rfl⟩ : ∃ q, k = q + 1 := ⟨k - 1, by omega⟩
    have hjl : j < out.length := by omega
    simp only [spec_paSorted.l1]
    rw [if_pos (by omega), wadd (x := ((j + 1 : Nat) : Int) - 1) (by omega) (by omega), show ((j + 1 : Nat) : Int) - 1 = (j : Int) by omega, if_pos (by omega), if_pos (by omega), rdn out j hjl]
    by_cases c : x < out[j]
    · rw [if_pos c]
      obtain ⟨j', k2, h1, h2, h3, h4, h5⟩ := ih k (by omega) (by omega) (fun q hq => by
        rw [drop_cons out j hjl] at hq
        rcases List.mem_cons.1 hq with e | e
        · rw [e]; omega
        · exact hd q e)
      exact ⟨j', k2, by omega, by omega, h3, h4, h5⟩
    · rw [if_neg c, if_pos (by omega), if_pos (by omega), Int.toNat_natCast]
      refine ⟨j + 1, k, Nat.le_refl _, by omega, hd, fun _ => by simpa using Int.not_lt.1 c, ?_⟩
      unfold spec_l1Own.f
      simp only [bindsome, List.nil_append]
      rw [if_pos (by simp; omega), bindsome, if_pos (by simp; omega), if_pos (by simp; omega), wnat hil (by omega)]
theorem sorted_l0 (l : List Int) (hl : l.length ≤ 12) (d : Nat) : ∀ (k i : Nat) (out : List Int), l.length - i = d → i ≤ l.length → d * 15 < k → out.Pairwise (· ≤ ·) → out.Perm (l.take i) → spec_paSorted.l0 k out l (l.length : Int) (i : Int) = some (impl_SortParty.srt l) := by
  induction d with
  | zero =>
    intro k i out hd hi hk h1 h2
    obtain ⟨k, rfl⟩ : ∃ q, k = q + 1 := ⟨k - 1, by omega⟩
    have e : i = l.length := by omega
    subst e
    rw [List.take_length] at h2
    simp only [spec_paSorted.l0]
    rw [if_neg (by omega), srt_unique l out h1 h2]
  | succ d ih =>
    intro k i out hd hi hk h1 h2
    obtain ⟨k, rfl⟩ : ∃ q, k = q + 1 := ⟨k - 1, by omega⟩
    have hlt : i < l.length := by omega
    have ho : out.length = i := by rw [h2.length_eq, List.length_take]; omega
    simp only [spec_paSorted.l0]
    rw [if_pos (by omega), if_pos (by omega), if_pos (by omega), rdn l i hlt]
    obtain ⟨j', k2, h3, h4, h5, h6, h7⟩ := sorted_l1 l out i l[i] hl hlt ho out.length k (Nat.le_refl _) (by omega) (by simp)
    rw [h7]
    refine ih k2 (i + 1) _ (by omega) (by omega) (by omega) (place_sorted h1 h3 h5 h6) ?_
    rw [List.take_succ_eq_append_getElem hlt]
    exact (place_perm out l[i] j').trans (h2.append_right _)
theorem paSorted_ev (l : List Int) (hl : l.length ≤ 12) (k : Nat) (hk : 180 < k) : spec_paSorted.f k l = some (impl_SortParty.srt l) := by
  unfold spec_paSorted.f
  exact sorted_l0 l hl l.length k 0 [] rfl (Nat.zero_le _) (by omega) List.Pairwise.nil (by simp)
def sortR (l : List Int) (s : Int) : List Int × Int × Bool := if goodParty l s = true then (impl_SortParty.srt l, s, true) else ([], 0, false)
theorem specSort_ev (l : List Int) (s : Int) (hl : l.length ≤ 1048576) (k : Nat) (hk : l.length + 200 < k) : spec_SortParty.f k l s = some (sortR l s) := by
  unfold spec_SortParty.f sortR
  rw [paGood_ev l s hl k (by omega), bindsome]
  cases hg : goodParty l s
  · rfl
  · obtain ⟨h1, h8, _⟩ := goodParty_le hg
    rw [if_pos rfl, if_pos rfl, paSorted_ev l (by omega) k (by omega), bindsome]
theorem implSort_ev (l : List Int) (s : Int) : impl_SortParty.f l s = some (sortR l s) := by
  unfold impl_SortParty.f sortR
  rw [implIsParty_ev, bindsome]
  cases hg : goodParty l s
  · rfl
  · obtain ⟨h1, h8, _⟩ := goodParty_le hg
    rw [if_pos rfl, if_pos rfl, if_pos (by omega)]
theorem sortR_len (l : List Int) (s : Int) : (sortR l s).1.length ≤ l.length := by
  unfold sortR
  split
  · simp [impl_SortParty.srt_length]
  · simp
theorem FnExactSortParty (l : List Int) (s : Int) (h : l.length ≤ 9223372036854775807) : ∃ k, laws_FnExactSortParty.f k l s = some true := by
  refine ⟨l.length + 300, ?_⟩
  generalize hk : l.length + 300 = k
  unfold laws_FnExactSortParty.f
  rw [szParty_ev l s _ h (by omega) (by omega), bindsome]
  by_cases c : (1048576 : Int) < l.length
  · rw [if_pos c]; rfl
  · rw [if_neg c, if_neg (by omega)]
    have hr := sortR_len l s
    have e1 := toParty_ev l s (by omega) k (by omega)
    have e2 := specSort_ev l s (by omega) k (by omega)
    have e3 := implSort_ev l s
    generalize sortR l s = r at hr e2 e3
    obtain ⟨r1, r2, r3⟩ := r
    simp only at hr
    have e4 := eqParty_ev r1 r1 r2 r2 (by omega) k (by omega)
    have e5 := eqParty_ev l l s s (by omega) k (by omega)
    have e6 := markParty_ev l s 1 (by omega) (by omega) k (by omega)
    have e7 := markParty_ev r1 r2 1 (by omega) (by omega) k (by omega)
    have e8 := heldParty_ev r1.length r2 1 (by omega) (by omega) k (by omega)
    have n1 : ¬ (1 + (l.length : Int) < 0) := by omega
    have n2 : ¬ (1 + (r1.length : Int) < 0) := by omega
    simp only [e1, e2, e3, e4, e5, e6, e7, e8, bindsome, n1, n2, if_false]
    simp

end Go.Proofs.Ytlbmbofhbficgaa.Pure
