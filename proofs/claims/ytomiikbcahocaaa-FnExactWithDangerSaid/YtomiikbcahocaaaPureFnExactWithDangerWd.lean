/- The law FnExactWithDanger returns true for all arguments: the insertion of one function and the sorting of the other come to one keep, in memory of its own, or to nothing; the copies stay.
   Conditions: the lists are no longer than any Go slice. -/
import Derived.Test.YtomiikbcahocaaaPureStepWd
import Derived.Test.YtomiikbcahocaaaPureWithDangerWd
import Derived.Test.YtomiikbcahocaaaPureKeepMarkWd
import Derived.Test.YtomiikbcahocaaaGWdx3
import Derived.Test.YtomiikbcahocaaaGWdx7
import Derived.Test.YtomiikbcahocaaaGWdx8
namespace Go.Proofs.Ytomiikbcahocaaa.Pure
open Go.RowKit Go.Proofs.Ytomiikbcahocaaa.G Go.Proofs.YtomiikbcahocaaaW.PrintWords

theorem cloneLists_l0 (l : List (List Int)) (hl : l.length ≤ 1048576) (hb : ∀ x ∈ l, x.length ≤ 1048576) (d : Nat) : ∀ (k i : Nat), l.length - i = d → i ≤ l.length → d < k → impl_cloneLists.l0 k (l.take i) l (l.length : Int) (i : Int) = some l := by
  induction d with
  | zero =>
    intro k i hd hi hk
    obtain ⟨k, rfl⟩ : ∃ q, k = q + 1 := ⟨k - 1, by omega⟩
    simp only [impl_cloneLists.l0]
    rw [if_neg (by omega), List.take_of_length_le (by omega)]
  | succ d ih =>
    intro k i hd hi hk
    obtain ⟨k, rfl⟩ : ∃ q, k = q + 1 := ⟨k - 1, by omega⟩
    have hlt : i < l.length := by omega
    have hx := hb l[i] (List.getElem_mem hlt)
    simp only [impl_cloneLists.l0]
    rw [if_pos (by omega), if_pos (by omega), if_pos (by omega), rdll l i hlt]
    unfold slices_Clone_int_int.f
    rw [if_pos (by omega), bindsome, if_pos (by rw [List.length_take]; omega), wnat hlt (by omega), ← List.take_succ_eq_append_getElem hlt]
    exact ih k (i + 1) (by omega) (by omega) (by omega)
theorem cloneLists_ev (l : List (List Int)) (hl : l.length ≤ 1048576) (hb : ∀ x ∈ l, x.length ≤ 1048576) (k : Nat) (hk : l.length < k) : impl_cloneLists.f k l = some l := by
  unfold impl_cloneLists.f
  exact cloneLists_l0 l hl hb l.length k 0 rfl (Nat.zero_le _) hk
/-- What both functions come to. -/
def withR (n : Int) (l : List (List Int)) (s i j : Int) : Int × List (List Int) × Int × Bool :=
  if isKeep n l s = true ∧ (0 ≤ i ∧ i ≤ n - 1) ∧ (0 ≤ j ∧ j ≤ n - 1) ∧ i ≠ j ∧ [mn i j, mx i j] ∉ l then (n, insD [mn i j, mx i j] l, s, true) else (0, [], 0, false)
theorem dd_good {n i j : Int} (hi : 0 ≤ i ∧ i ≤ n - 1) (hj : 0 ≤ j ∧ j ≤ n - 1) (h : i ≠ j) : goodD n [mn i j, mx i j] = true := by
  unfold goodD mn mx
  simp only [Bool.and_eq_true, decide_eq_true_eq]
  split <;> split <;> omega
theorem least_ev (i j : Int) : spec_l1Least.f i j = some (mn i j) := by
  unfold spec_l1Least.f mn
  by_cases h : i < j
  · rw [if_pos h, if_neg (by omega)]
  · by_cases h2 : j < i
    · rw [if_neg h, if_pos h2]
    · rw [if_neg h, if_neg h2]
      congr 1
      omega
theorem most_ev (i j : Int) : spec_l1Most.f i j = some (mx i j) := by
  unfold spec_l1Most.f mx
  by_cases h : i > j
  · rw [if_pos h, if_neg (by omega)]
  · by_cases h2 : i < j
    · rw [if_neg h, if_pos h2]
    · rw [if_neg h, if_neg h2]
      congr 1
      omega
theorem isKeep_order {n : Int} {l : List (List Int)} {s : Int} (h : isKeep n l s = true) : l.length ≤ 64 ∧ l.Pairwise (fun a b => key a < key b) := by
  have h8 := (isKeep_out h).1.2
  unfold isKeep at h
  simp only [Bool.and_eq_true, decide_eq_true_eq] at h
  have h1 := okD_count h8 l none h.2.2 (fun q e => by cases e)
  simp only [low] at h1
  exact ⟨by omega, h1.2.1⟩
theorem withSpec_ev (n : Int) (l : List (List Int)) (s i j : Int) (hl : l.length ≤ 1048576) (k : Nat) (hk : l.length * 2 + 10 < k) : spec_WithDanger.f k n l s i j = some (withR n l s i j) := by
  unfold spec_WithDanger.f withR
  rw [keGood_ev n l s hl k (by omega), bindsome]
  by_cases hK : isKeep n l s = true
  · obtain ⟨⟨h0, h8⟩, _, hg⟩ := isKeep_out hK
    obtain ⟨h64, hp⟩ := isKeep_order hK
    rw [if_pos hK, wadd (x := n - 1) (by omega) (by omega), l1In_ev, bindsome]
    by_cases hi : 0 ≤ i ∧ i ≤ n - 1
    · rw [if_pos (by simpa using hi), l1In_ev, bindsome]
      by_cases hj : 0 ≤ j ∧ j ≤ n - 1
      · rw [if_pos (by simpa using hj)]
        by_cases he : i = j
        · rw [if_pos he, if_neg (fun h => h.2.2.2.1 he)]
        · have hd := dd_good hi hj he
          rw [if_neg he, least_ev, bindsome, most_ev, bindsome]
          obtain ⟨o, h1, h2⟩ := go_ev n s (mn i j) (mx i j) h8 hd k (by omega) l [] false hg (by simp; omega)
          rw [h1, bindsome, h2]
          by_cases hm : [mn i j, mx i j] ∈ l
          · rw [if_pos hm, if_neg (fun h => h.2.2.2.2 hm)]
          · rw [if_neg hm, if_neg (by simp : ¬ (false = true)), if_pos ⟨hK, hi, hj, he, hm⟩]
            rfl
      · rw [if_neg (by simpa using hj), if_neg (fun h => hj h.2.2.1)]
    · rw [if_neg (by simpa using hi), if_neg (fun h => hi h.2.1)]
  · rw [if_neg hK, if_neg (fun h => hK h.1)]
theorem withImpl_ev (n : Int) (l : List (List Int)) (s i j : Int) (hl : l.length ≤ 1048576) (hb : ∀ x ∈ l, x.length ≤ 1048576) (k : Nat) (hk : l.length * 2 + 10 < k) : impl_WithDanger.f k n l s i j = some (withR n l s i j) := by
  unfold impl_WithDanger.f withR
  rw [implIsKeep_ev n l s hl k (by omega), bindsome]
  by_cases hK : isKeep n l s = true
  · obtain ⟨⟨h0, h8⟩, _, hg⟩ := isKeep_out hK
    obtain ⟨h64, hp⟩ := isKeep_order hK
    rw [if_pos hK]
    by_cases he : i = j
    · rw [if_pos he, if_neg (fun h => h.2.2.2.1 he)]
    · rw [if_neg he, wadd (x := n - 1) (by omega) (by omega)]
      unfold impl_WithDanger.dd
      rw [areIn2_ev, bindsome]
      have hin : (decide (0 ≤ mn i j) && decide (mn i j ≤ n - 1) && (decide (0 ≤ mx i j) && decide (mx i j ≤ n - 1))) = true ↔ (0 ≤ i ∧ i ≤ n - 1) ∧ (0 ≤ j ∧ j ≤ n - 1) := by
        simp only [Bool.and_eq_true, decide_eq_true_eq]
        unfold mn mx
        split <;> split <;> omega
      by_cases hij : (0 ≤ i ∧ i ≤ n - 1) ∧ (0 ≤ j ∧ j ≤ n - 1)
      · have hd := dd_good hij.1 hij.2 he
        rw [if_pos (hin.2 hij)]
        have hany : (l.any fun e => decide ([mn i j, mx i j] = e)) = decide ([mn i j, mx i j] ∈ l) := by
          rw [Bool.eq_iff_iff, List.any_eq_true, decide_eq_true_eq]
          exact ⟨fun ⟨x, h1, h2⟩ => by rw [of_decide_eq_true h2]; exact h1, fun h => ⟨_, h, decide_eq_true rfl⟩⟩
        rw [hany]
        by_cases hm : [mn i j, mx i j] ∈ l
        · rw [if_pos (decide_eq_true hm), if_neg (fun h => h.2.2.2.2 hm)]
        · have hlen : ∀ x ∈ l ++ [[mn i j, mx i j]], x.length = 2 := fun x hx => by
            rcases List.mem_append.1 hx with h | h
            · exact (key_in h8 (hg x h)).2.2.2.2
            · rw [List.mem_singleton.1 h]
              rfl
          rw [if_neg (by simpa using hm), cloneLists_ev l hl hb k (by omega), bindsome, if_pos ⟨hlen, ins_nodup h8 l hd hg hm hp, by omega⟩, sortL_ins h8 l hd hg hm hp, if_pos ⟨hK, hij.1, hij.2, he, hm⟩]
      · rw [if_neg (fun h => hij (hin.1 h)), if_neg (fun h => hij ⟨h.2.1, h.2.2.1⟩)]
  · rw [if_neg hK, if_neg (fun h => hK h.1)]
theorem withR_len (n : Int) (l : List (List Int)) (s i j : Int) (hb : ∀ x ∈ l, x.length ≤ 1048576) (hl : l.length ≤ 1048576) : (withR n l s i j).2.1.length ≤ 1048576 ∧ ∀ x ∈ (withR n l s i j).2.1, x.length ≤ 1048576 := by
  unfold withR
  split
  · rename_i h
    have h64 := (isKeep_order h.1).1
    refine ⟨?_, fun x hx => ?_⟩
    · show (insD _ l).length ≤ _
      rw [(insD_perm _ l).length_eq, List.length_append, List.length_singleton]
      omega
    · rcases List.mem_append.1 ((insD_perm _ l).mem_iff.1 hx) with h1 | h1
      · exact hb x h1
      · rw [List.mem_singleton.1 h1]
        simp
  · exact ⟨by simp, fun x hx => by simp at hx⟩
theorem heldKeep_ev (n : Int) (l : List (List Int)) (s : Int) (hl : l.length ≤ 1048576) (hb : ∀ x ∈ l, x.length ≤ 1048576) (k : Nat) (hk : l.length + 1048576 < k) : laws_heldKeep.f k n (seqSS 1 l) s 1 = some (1 + (sumL l : Int)) := by
  unfold laws_heldKeep.f
  rw [heldIntSS_ev l 1 hl hb (by omega) (by omega) k hk, bindsome, if_neg (by omega)]
theorem FnExactWithDanger (n : Int) (l : List (List Int)) (s i j : Int) (h : l.length ≤ 9223372036854775807 ∧ ∀ x ∈ l, x.length ≤ 9223372036854775807) : ∃ k, laws_FnExactWithDanger.f k n l s i j = some true := by
  refine ⟨l.length * 2 + 3000000, ?_⟩
  generalize hk : l.length * 2 + 3000000 = k
  unfold laws_FnExactWithDanger.f
  obtain ⟨r, e0, hr1, hr⟩ := szKeep_ev n l s 1048576 h.1 h.2 (by omega) (by omega) k (by omega)
  rw [e0, bindsome]
  by_cases c : r < 0
  · rw [if_pos c]
  · rw [if_neg c]
    obtain ⟨h1, h2⟩ := hr (by omega)
    have h2' : ∀ x ∈ l, x.length ≤ 1048576 := fun x hx => by have := h2 x hx; omega
    have e1 := toKeep_ev n l s (by omega) h2' k (by omega)
    have e2 := withSpec_ev n l s i j (by omega) k (by omega)
    have e3 := withImpl_ev n l s i j (by omega) h2' k (by omega)
    have hb := withR_len n l s i j h2' (by omega)
    generalize withR n l s i j = b at e2 e3 hb
    obtain ⟨b1, b2, b3, b4⟩ := b
    simp only at hb
    have e4 := eqKeep_ev n l s (by omega) h2' k (by omega)
    have e5 := eqKeep_ev b1 b2 b3 hb.1 hb.2 k (by omega)
    have e6 := markKeep_ev n l s 1 (by omega) h2' (by omega) (by omega) k (by omega)
    have e7 := markKeep_ev b1 b2 b3 1 hb.1 hb.2 (by omega) (by omega) k (by omega)
    have e8 := heldKeep_ev b1 b2 b3 hb.1 hb.2 k (by omega)
    have n1 : ¬ (1 + (sumL l : Int) < 0) := by omega
    have n2 : ¬ (1 + (sumL b2 : Int) < 0) := by omega
    refine step_ e1 ?_
    refine step_ e2 ?_
    refine step_ e1 ?_
    refine step_ e3 ?_
    refine step_ e5 ?_
    refine pos_ rfl (neg_ nene ?_)
    refine step_ e1 ?_
    refine step_ e4 ?_
    refine pos_ rfl ?_
    refine step_ e6 ?_
    refine step_ e5 ?_
    refine neg_ n1 (pos_ rfl (neg_ nene ?_))
    refine step_ e7 ?_
    refine step_ e8 ?_
    refine neg_ n2 (pos_ rfl ?_)
    refine step_ e1 ?_
    refine step_ e3 ?_
    refine step_ e5 ?_
    refine pos_ rfl (neg_ nene ?_)
    refine step_ e8 ?_
    exact neg_ n2 (pos_ rfl rfl)

end Go.Proofs.Ytomiikbcahocaaa.Pure
