/- What the printed functions that number the banks come to, and that both numberings meet the same banks.
   Conditions: stated with each. -/
import Derived.Test.YtomiikbcahocaaaPureDangerCs
import Derived.Test.YtomiikbcahocaaaGCsx3
import Derived.Test.YtomiikbcahocaaaGCsx6
import Derived.Test.YtomiikbcahocaaaGCsx4
import Derived.Test.YtomiikbcahocaaaGCsx7
namespace Go.Proofs.Ytomiikbcahocaaa.Pure
open Go.RowKit Go.Proofs.Ytomiikbcahocaaa.G Go.Proofs.YtomiikbcahocaaaW.PrintWords

def bitAt (c j : Int) : Bool := Go.bits .and .i64 (shr .i64 c j) 1 == 1
def specBank (n : Nat) (c : Int) : List Bool × Bool := ((List.range n).map fun (j : Nat) => bitAt c ((n : Int) - 1 - (j : Int)), shr .i64 c n == 1)
def implBank (n : Nat) (c : Int) : List Bool × Bool := ((List.range n).map fun (j : Nat) => bitAt c (j : Int), bitAt c n)
theorem seState_l0 (n : Nat) (hn : n ≤ 8) (c : Int) (t : Bool) (d : Nat) : ∀ (k i : Nat) (m : List Bool), n - i = d → i ≤ n → d < k → m.length = n → m.take i = (specBank n c).1.take i → spec_seState.l0 k c (n : Int) (n : Int) (i : Int) m t = some ((specBank n c).1, t) := by
  have hs : (specBank n c).1.length = n := by simp [specBank]
  induction d with
  | zero =>
    intro k i m hd hi hk hm ht
    obtain ⟨k, rfl⟩ : ∃ q, k = q + 1 := ⟨k - 1, by omega⟩
    simp only [spec_seState.l0]
    rw [if_neg (by omega)]
    have e : i = n := by omega
    subst e
    have h1 : m.take m.length = (specBank i c).1.take (specBank i c).1.length := by rw [hm, hs]; exact ht
    rw [List.take_length, List.take_length] at h1
    rw [h1]
  | succ d ih =>
    intro k i m hd hi hk hm ht
    obtain ⟨k, rfl⟩ : ∃ q, k = q + 1 := ⟨k - 1, by omega⟩
    have hlt : i < n := by omega
    simp only [spec_seState.l0]
    rw [wadd (x := (n : Int) - 1) (by omega) (by omega), wadd (x := (n : Int) - 1 - (i : Int)) (by omega) (by omega), if_pos (by omega), if_pos (by omega), if_pos (by omega), if_pos (by omega), wnat hlt (by omega), Int.toNat_natCast]
    refine ih k (i + 1) _ (by omega) (by omega) (by omega) (by rw [List.length_set]; exact hm) ?_
    have h := take_set (specBank n c).1 m i (by rw [hm, hs]) (by rw [hs]; omega) ht
    simpa [specBank, bitAt] using h
theorem keBank_ev (n : Nat) (hn : n ≤ 8) (c : Int) (k : Nat) (hk : n < k) : spec_keBank.f k c (n : Int) = some (specBank n c) := by
  unfold spec_keBank.f spec_seState.f
  rw [if_pos (by omega), if_pos (by omega), bindsome, Int.toNat_natCast]
  have h := seState_l0 n hn c (shr .i64 c n == 1) n k 0 (List.replicate n false) rfl (Nat.zero_le _) hk (by simp) (by simp)
  rw [List.length_replicate]
  rw [show ((0 : Nat) : Int) = 0 from rfl] at h
  rw [h]
  rfl
theorem stateOf_l0 (n : Nat) (hn : n ≤ 8) (c : Int) (t : Bool) (d : Nat) : ∀ (k i : Nat) (m : List Bool), n - i = d → i ≤ n → d < k → m.length = n → m.take i = (implBank n c).1.take i → impl_stateOf.l0 k c (n : Int) (i : Int) m t = some ((implBank n c).1, t) := by
  have hs : (implBank n c).1.length = n := by simp [implBank]
  induction d with
  | zero =>
    intro k i m hd hi hk hm ht
    obtain ⟨k, rfl⟩ : ∃ q, k = q + 1 := ⟨k - 1, by omega⟩
    simp only [impl_stateOf.l0]
    rw [if_neg (by omega)]
    have e : i = n := by omega
    subst e
    have h1 : m.take m.length = (implBank i c).1.take (implBank i c).1.length := by rw [hm, hs]; exact ht
    rw [List.take_length, List.take_length] at h1
    rw [h1]
  | succ d ih =>
    intro k i m hd hi hk hm ht
    obtain ⟨k, rfl⟩ : ∃ q, k = q + 1 := ⟨k - 1, by omega⟩
    have hlt : i < n := by omega
    simp only [impl_stateOf.l0]
    rw [if_pos (by omega), if_pos (by omega), if_pos (by omega), wnat hlt (by omega), Int.toNat_natCast]
    refine ih k (i + 1) _ (by omega) (by omega) (by omega) (by rw [List.length_set]; exact hm) ?_
    have h := take_set (implBank n c).1 m i (by rw [hm, hs]) (by rw [hs]; omega) ht
    simpa [implBank, bitAt] using h
theorem stateOf_ev (n : Nat) (hn : n ≤ 8) (c : Int) (k : Nat) (hk : n < k) : impl_stateOf.f k (n : Int) c = some (implBank n c) := by
  unfold impl_stateOf.f
  rw [if_pos (by omega), if_pos (by omega), bindsome, Int.toNat_natCast]
  have h := stateOf_l0 n hn c (bitAt c n) n k 0 (List.replicate n false) rfl (Nat.zero_le _) hk (by simp) (by simp)
  rw [List.length_replicate]
  rw [show ((0 : Nat) : Int) = 0 from rfl] at h
  exact h
theorem shl_n (n : Nat) (hn : n ≤ 8) : shl .i64 2 (n : Int) = ((2 ^ (n + 1) : Nat) : Int) := by
  have h : ∀ m, m < 9 → shl .i64 2 ((m : Nat) : Int) = ((2 ^ (m + 1) : Nat) : Int) := by decide +kernel
  exact h n (by omega)
/-- There are no dangers in a bank. -/
def isCalmBank (l : List (List Int)) (b : List Bool × Bool) : Bool := decide ((l.filter (dng b.1 b.2)).length = 0)
theorem countSpec_l0 (n : Nat) (hn : n ≤ 8) (l : List (List Int)) (s : Int) (hl : l.length ≤ 1048576) (hg : ∀ d ∈ l, goodD n d = true) (d : Nat) : ∀ (k i a : Nat), 2 ^ (n + 1) - i = d → i ≤ 2 ^ (n + 1) → d + l.length + 20 < k → a ≤ i →
    spec_CountSafe.l0 k (a : Int) (i : Int) (n : Int) l s = some (((a + ((List.range' i d).countP fun (c : Nat) => isCalmBank l (specBank n (c : Int))) : Nat) : Int), true) := by
  have hp : 2 ^ (n + 1) ≤ 512 := by
    have h : ∀ m, m < 9 → 2 ^ (m + 1) ≤ 512 := by decide +kernel
    exact h n (by omega)
  induction d with
  | zero =>
    intro k i a hd hi hk ha
    obtain ⟨k, rfl⟩ : ∃ q, k = q + 1 := ⟨k - 1, by omega⟩
    simp only [spec_CountSafe.l0]
    rw [if_pos (by omega), shl_n n hn, if_neg (by omega)]
    simp
  | succ d ih =>
    intro k i a hd hi hk ha
    obtain ⟨k, rfl⟩ : ∃ q, k = q + 1 := ⟨k - 1, by omega⟩
    simp only [spec_CountSafe.l0]
    rw [if_pos (by omega), shl_n n hn, if_pos (by omega), keBank_ev n hn _ k (by omega), bindsome, keNow_ev n l s _ _ hl (by simp [specBank]) hg k (by omega), bindsome, wnat (show i < 1000 by omega) (by omega), List.range'_succ, List.countP_cons]
    by_cases h : (((l.filter (dng (specBank n i).1 (specBank n i).2)).length : Nat) : Int) = 0
    · rw [if_pos h, wnat (show a < 1000 by omega) (by omega), ih k (i + 1) (a + 1) (by omega) (by omega) (by omega) (by omega)]
      have hc : isCalmBank l (specBank n (i : Int)) = true := by unfold isCalmBank; exact decide_eq_true (by omega)
      rw [hc, if_pos rfl]
      congr 2
      omega
    · rw [if_neg h, ih k (i + 1) a (by omega) (by omega) (by omega) (by omega)]
      have hc : isCalmBank l (specBank n (i : Int)) = false := by unfold isCalmBank; exact decide_eq_false (by omega)
      rw [hc, if_neg (by simp)]
      rfl
theorem bit_ev (b : Bool) : impl_bit.f b = some (if b = true then 1 else 0) := by
  unfold impl_bit.f
  cases b <;> rfl
theorem countImpl_l0 (n : Nat) (hn : n ≤ 8) (l : List (List Int)) (s : Int) (hl : l.length ≤ 1048576) (hg : ∀ d ∈ l, goodD n d = true) (d : Nat) : ∀ (k i a : Nat), 2 ^ (n + 1) - i = d → i ≤ 2 ^ (n + 1) → d + l.length + 20 < k → a ≤ i →
    impl_CountSafe.l0 k (a : Int) ((2 ^ (n + 1) : Nat) : Int) (i : Int) (n : Int) l s = some (((a + ((List.range' i d).countP fun (c : Nat) => isCalmBank l (implBank n (c : Int))) : Nat) : Int), true) := by
  have hp : 2 ^ (n + 1) ≤ 512 := by
    have h : ∀ m, m < 9 → 2 ^ (m + 1) ≤ 512 := by decide +kernel
    exact h n (by omega)
  induction d with
  | zero =>
    intro k i a hd hi hk ha
    obtain ⟨k, rfl⟩ : ∃ q, k = q + 1 := ⟨k - 1, by omega⟩
    simp only [impl_CountSafe.l0]
    rw [if_neg (by omega)]
    simp
  | succ d ih =>
    intro k i a hd hi hk ha
    obtain ⟨k, rfl⟩ : ∃ q, k = q + 1 := ⟨k - 1, by omega⟩
    simp only [impl_CountSafe.l0]
    rw [if_pos (by omega), stateOf_ev n hn _ k (by omega), bindsome, dangers_ev n l s _ _ hl (by simp [implBank]) hg k (by omega), bindsome, bit_ev, bindsome, wnat (show i < 1000 by omega) (by omega), List.range'_succ, List.countP_cons]
    by_cases h : (((l.filter (dng (implBank n i).1 (implBank n i).2)).length : Nat) : Int) = 0
    · rw [if_pos (by rw [h]; rfl), wnat (show a < 1000 by omega) (by omega), ih k (i + 1) (a + 1) (by omega) (by omega) (by omega) (by omega)]
      have hc : isCalmBank l (implBank n (i : Int)) = true := by unfold isCalmBank; exact decide_eq_true (by omega)
      rw [hc, if_pos rfl]
      congr 2
      omega
    · rw [if_neg (by simpa using h), wadd (x := (a : Int) + 0) (by omega) (by omega), show (a : Int) + 0 = (a : Int) by omega, ih k (i + 1) a (by omega) (by omega) (by omega) (by omega)]
      have hc : isCalmBank l (implBank n (i : Int)) = false := by unfold isCalmBank; exact decide_eq_false (by omega)
      rw [hc, if_neg (by simp)]
      rfl
/-- The other numbering's number of a bank. -/
def turned (n c : Nat) : Nat := (List.range n).foldl (fun a j => 2 * a + c / 2 ^ j % 2) (c / 2 ^ n)
theorem turned_turned : ∀ n, n < 9 → ∀ c, c < 2 ^ (n + 1) → turned n c < 2 ^ (n + 1) ∧ turned n (turned n c) = c := by decide +kernel
theorem turned_bank : ∀ n, n < 9 → ∀ c, c < 2 ^ (n + 1) → specBank n ((turned n c : Nat) : Int) = implBank n ((c : Nat) : Int) := by decide +kernel
theorem turned_perm (n : Nat) (hn : n < 9) : ((List.range (2 ^ (n + 1))).map (turned n)).Perm (List.range (2 ^ (n + 1))) := by
  refine (List.perm_ext_iff_of_nodup ?_ List.nodup_range).2 fun a => ?_
  · refine List.pairwise_map.2 (List.Pairwise.imp_of_mem ?_ List.nodup_range)
    intro x y hx hy hne e
    exact hne (by rw [← (turned_turned n hn x (List.mem_range.1 hx)).2, e, (turned_turned n hn y (List.mem_range.1 hy)).2])
  · rw [List.mem_map]
    constructor
    · rintro ⟨c, hc, rfl⟩
      exact List.mem_range.2 (turned_turned n hn c (List.mem_range.1 hc)).1
    · intro ha
      exact ⟨turned n a, List.mem_range.2 (turned_turned n hn a (List.mem_range.1 ha)).1, (turned_turned n hn a (List.mem_range.1 ha)).2⟩
theorem count_same (n : Nat) (hn : n < 9) (p : List Bool × Bool → Bool) : (List.range (2 ^ (n + 1))).countP (fun (c : Nat) => p (specBank n (c : Int))) = (List.range (2 ^ (n + 1))).countP (fun (c : Nat) => p (implBank n (c : Int))) := by
  rw [← (turned_perm n hn).countP_eq, List.countP_map]
  refine List.countP_congr fun c hc => ?_
  simp only [Function.comp_apply]
  rw [turned_bank n hn c (List.mem_range.1 hc)]

end Go.Proofs.Ytomiikbcahocaaa.Pure
