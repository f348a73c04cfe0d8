/- When a list is a row in a calm state, told by bits and told by lists: the same; and the state behind it.
   Conditions: stated with each. -/
import Derived.Test.YtokfpjebnkfccaaPureCalmStateRb
import Derived.Test.YtokfpjebnkfccaaPureCuBitsRb
import Derived.Test.YtokfpjebnkfccaaPureMovedRb
import Derived.Test.YtokfpjebnkfccaaGRbx4
import Derived.Test.YtokfpjebnkfccaaGRbx5
import Derived.Test.YtokfpjebnkfccaaGRbx6
import Derived.Test.YtokfpjebnkfccaaGRbx9
import Derived.Laws.BitsLemmas
namespace Go.Proofs.Ytokfpjebnkfccaa.Pure
open Go.RowKit Go.Proofs.Ytokfpjebnkfccaa.G Go.Proofs.YtokfpjebnkfccaaW.PrintWords

theorem two_xor (b g : Nat) (t : Bool) : (2 * b + t.toNat) ^^^ (2 * g + 1) = 2 * (b ^^^ g) + (!t).toNat := by
  have h1 : ((2 * b + t.toNat) ^^^ (2 * g + 1)) / 2 = b ^^^ g := by
    rw [Nat.xor_div_two]
    congr 1
    · cases t <;> simp <;> omega
    · omega
  have h2 : ((2 * b + t.toNat) ^^^ (2 * g + 1)) % 2 = (!t).toNat := by
    have h3 := Nat.xor_mod_two_pow (a := 2 * b + t.toNat) (b := 2 * g + 1) (n := 1)
    rw [Nat.pow_one] at h3
    rw [h3, show (2 * g + 1) % 2 = 1 by omega]
    cases t <;> simp
  omega
theorem setAll_rd (b : Bool) (j : Nat) : ∀ (l : List Int) (o : List Bool), (∀ x ∈ l, 0 ≤ x) → j < o.length → rdOf false (setAll o b l) (j : Int) = if l.contains (j : Int) = true then b else rdOf false o (j : Int)
  | [], o, _, _ => rfl
  | x :: l, o, hv, hj => by
    show rdOf false (setAll (o.set x.toNat b) b l) (j : Int) = _
    rw [setAll_rd b j l _ (fun y hy => hv y (List.mem_cons_of_mem _ hy)) (by rw [List.length_set]; exact hj), List.contains_cons]
    have hx := hv x List.mem_cons_self
    by_cases e : l.contains (j : Int) = true
    · rw [if_pos e, e, Bool.or_true, if_pos rfl]
    · rw [Bool.not_eq_true] at e
      rw [e, if_neg (by simp), Bool.or_false]
      by_cases h : x = (j : Int)
      · subst h
        rw [if_pos (by simp)]
        simp [rdOf, List.getD_eq_getElem?_getD, hj]
      · rw [if_neg (by simpa using fun q => h q.symm)]
        simp [rdOf, List.getD_eq_getElem?_getD, show ¬ x.toNat = j by omega]
def listOf (g : Nat) : List Int := ((List.range 8).filter g.testBit).map fun (j : Nat) => (j : Int)
theorem listOf_nodup (g : Nat) : (listOf g).Nodup := by
  unfold listOf
  refine List.pairwise_map.2 (List.Pairwise.imp ?_ (List.Pairwise.filter _ List.nodup_range))
  intro a b h e
  exact h (by omega)
theorem listOf_mem (g : Nat) (x : Int) (h0 : 0 ≤ x) (h8 : x < 8) : x ∈ listOf g ↔ g.testBit x.toNat = true := by
  unfold listOf
  rw [List.mem_map]
  constructor
  · rintro ⟨j, hj, rfl⟩
    exact (List.mem_filter.1 hj).2
  · intro h
    exact ⟨x.toNat, List.mem_filter.2 ⟨List.mem_range.2 (by omega), h⟩, by omega⟩
theorem listOf_in (g : Nat) (x : Int) (h : x ∈ listOf g) : 0 ≤ x ∧ x < 8 := by
  unfold listOf at h
  rw [List.mem_map] at h
  obtain ⟨j, hj, rfl⟩ := h
  have := List.mem_range.1 (List.mem_filter.1 hj).1
  omega
theorem listOf_length (g : Nat) (l : List Int) (hn : l.Nodup) (hin : ∀ x ∈ l, 0 ≤ x ∧ x < 8) (hb : ∀ x : Nat, g.testBit x = l.contains (x : Int)) : (listOf g).length = l.length := by
  refine List.Perm.length_eq ((List.perm_ext_iff_of_nodup (listOf_nodup g) hn).2 fun x => ?_)
  constructor
  · intro h
    obtain ⟨h0, h8⟩ := listOf_in g x h
    rw [listOf_mem g x h0 h8, hb, List.contains_iff_mem, show ((x.toNat : Nat) : Int) = x by omega] at h
    exact h
  · intro h
    obtain ⟨h0, h8⟩ := hin x h
    rw [listOf_mem g x h0 h8, hb, List.contains_iff_mem, show ((x.toNat : Nat) : Int) = x by omega]
    exact h
theorem rf_far (l : List Int) : ∀ (d i : Nat), rf l d (i + 1) = true → rd l (i : Int) + (d : Int) ≤ rd l ((i + d : Nat) : Int)
  | 0, i, _ => by simp
  | d + 1, i, h => by
    rw [rf, Bool.and_eq_true, Bool.or_eq_true, decide_eq_true_eq, decide_eq_true_eq] at h
    have h2 := rf_far l d (i + 1) h.2
    have h3 : rd l ((i : Int)) < rd l ((i + 1 : Nat) : Int) := by
      rcases h.1 with e | e
      · omega
      · rw [show ((i + 1 : Nat) : Int) - 1 = (i : Int) by omega] at e
        exact e
    rw [show i + (d + 1) = i + 1 + d by omega]
    omega
theorem rf_suffix (l : List Int) (e : Nat) : ∀ (d i : Nat), rf l (d + e) i = true → rf l e (i + d) = true
  | 0, i, h => by simpa using h
  | d + 1, i, h => by
    rw [show d + 1 + e = (d + e) + 1 by omega, rf, Bool.and_eq_true] at h
    rw [show i + (d + 1) = i + 1 + d by omega]
    exact rf_suffix l e d (i + 1) h.2
theorem rf_prefix (l : List Int) (e : Nat) : ∀ (d i : Nat), rf l (d + e) i = true → rf l d i = true
  | 0, i, h => rfl
  | d + 1, i, h => by
    rw [show d + 1 + e = (d + e) + 1 by omega, rf, Bool.and_eq_true] at h
    rw [rf, Bool.and_eq_true]
    exact ⟨h.1, rf_prefix l e d (i + 1) h.2⟩
theorem rf_lt (l : List Int) (h : rf l (l.length - 1) 1 = true) (i j : Nat) (hij : i < j) (hj : j < l.length) : l[i] < l[j] := by
  have h1 := rf_suffix l (l.length - 1 - i) i 1 (by rw [show i + (l.length - 1 - i) = l.length - 1 by omega]; exact h)
  have h2 := rf_prefix l (l.length - 1 - j) (j - i) (1 + i) (by rw [show j - i + (l.length - 1 - j) = l.length - 1 - i by omega]; exact h1)
  rw [show 1 + i = i + 1 by omega] at h2
  have h3 := rf_far l (j - i) i h2
  rw [show i + (j - i) = j by omega, rdn l i (by omega), rdn l j hj] at h3
  omega
theorem rf_nodup (l : List Int) (h : rf l (l.length - 1) 1 = true) : l.Nodup :=
  List.pairwise_iff_getElem.2 fun i j _ hj hij e => by
    have := rf_lt l h i j hij hj
    omega
theorem and_nat (a b : Nat) (ha : a < 256) (hb : b < 256) : Go.bits .and .i64 (a : Int) (b : Int) = ((a &&& b : Nat) : Int) :=
  (bits_nat .i64 62 (by decide) (fun n h0 h1 => by rw [IntKind.wrap_i64]; omega) a b (by omega) (by omega)).1
theorem xor_nat (a b : Nat) (ha : a < 512) (hb : b < 512) : Go.bits .xor .i64 (a : Int) (b : Int) = ((a ^^^ b : Nat) : Int) := by
  have hx : a ^^^ b < 512 := Nat.xor_lt_two_pow (n := 9) ha hb
  have ha' : a % 2 ^ 64 = a := Nat.mod_eq_of_lt (by omega)
  have hb' : b % 2 ^ 64 = b := Nat.mod_eq_of_lt (by omega)
  simp only [bits, BitVec.ofInt_natCast, BitVec.toNat_xor, BitVec.toNat_ofNat]
  show IntKind.i64.wrap (((a % 2 ^ 64) ^^^ (b % 2 ^ 64) : Nat) : Int) = _
  rw [ha', hb', IntKind.wrap_i64]
  generalize a ^^^ b = c at hx ⊢
  omega
theorem cuList_more : ∀ k a l i r, spec_cuList.l0 k a l i = some r → spec_cuList.l0 (k + 1) a l i = some r
  | 0, a, l, i, r, h => by simp [spec_cuList.l0] at h
  | k + 1, a, l, i, r, h => by
    rw [spec_cuList.l0] at h ⊢
    by_cases c1 : 0 ≤ i
    · rw [if_pos c1] at h ⊢
      by_cases c2 : shr .i64 a i > 0
      · rw [if_pos c2] at h ⊢
        by_cases c3 : Int.tmod (shr .i64 a i) 2 = 1
        · rw [if_pos c3] at h ⊢
          by_cases c4 : l.length < 17592186044416
          · rw [if_pos c4] at h ⊢
            exact cuList_more k _ _ _ _ h
          · rw [if_neg c4] at h
            cases h
        · rw [if_neg c3] at h ⊢
          exact cuList_more k _ _ _ _ h
      · rw [if_neg c2] at h ⊢
        exact h
    · rw [if_neg c1] at h
      cases h
theorem cuList_all : ∀ g : Nat, g < 256 → spec_cuList.f 20 (g : Int) = some (listOf g) := by decide +kernel
theorem cuList_ev (g : Nat) (hg : g < 256) (k : Nat) (hk : 20 ≤ k) : spec_cuList.f k (g : Int) = some (listOf g) := by
  obtain ⟨d, rfl⟩ : ∃ d, k = 20 + d := ⟨k - 20, by omega⟩
  induction d with
  | zero => exact cuList_all g hg
  | succ d ih => exact cuList_more _ _ _ _ _ (ih (by omega))
theorem cuCan_j0 (n : Nat) (s : Int) (b : Nat) (t : Bool) (g h : Nat) (hn : n < 5) (hb : b < 2 ^ (2 * n)) (hg : g < 2 ^ (2 * n)) (hh : h < 2 ^ (2 * n)) (k : Nat) (hk : 42 ≤ k) :
    spec_cuCan.j0 k ((2 * b + t.toNat : Nat) : Int) (g : Int) (h : Int) (n : Int) s = some ((decide (g ≠ 0) && decide (g &&& h = g)) && (decide (((listOf g).length : Int) ≤ s) && (calmN n g && (calmN n (b ^^^ g) && calmN n (2 ^ (2 * n) - ((b ^^^ g) + 1)))))) := by
  obtain ⟨k, rfl⟩ : ∃ q, k = q + 1 := ⟨k - 1, by omega⟩
  have hp := pow_n n hn
  have hx : b ^^^ g < 2 ^ (2 * n) := Nat.xor_lt_two_pow hb hg
  have ht : t.toNat < 2 := by cases t <;> decide
  rw [spec_cuCan.j0]
  by_cases h0 : g = 0
  · rw [if_pos (by omega)]; simp [h0]
  · rw [if_neg (by omega), and_nat g h (by omega) (by omega)]
    by_cases h1 : g &&& h = g
    · rw [if_pos (by rw [h1]), cuList_ev g (by omega) k (by omega), bindsome]
      by_cases h2 : ((listOf g).length : Int) ≤ s
      · rw [if_neg (by omega), cuCalm_ev n g hn (by omega) k (by omega), bindsome]
        cases h3 : calmN n g
        · simp
        · rw [if_pos rfl, wadd (x := 2 * (g : Int)) (by omega) (by omega), wadd (x := 2 * (g : Int) + 1) (by omega) (by omega), show 2 * (g : Int) + 1 = ((2 * g + 1 : Nat) : Int) by omega, xor_nat _ _ (by omega) (by omega), two_xor, quiet_ev n (b ^^^ g) s (!t) hn hx k (by omega), bindsome]
          simp [h0, h1, h2]
      · rw [if_pos (by omega)]; simp [h2]
    · rw [if_neg (fun e => h1 (by exact_mod_cast e))]; simp [h1]
/-- Who is where the boat is, as bits. -/
def hereN (n b : Nat) (t : Bool) : Nat := if t = true then b else 2 ^ (2 * n) - (b + 1)
theorem hereN_lt (n b : Nat) (t : Bool) (hb : b < 2 ^ (2 * n)) : hereN n b t < 2 ^ (2 * n) := by
  unfold hereN
  cases t
  · rw [if_neg (by simp)]; omega
  · rw [if_pos rfl]; exact hb
theorem cuCan_ev (n : Nat) (s : Int) (b : Nat) (t : Bool) (g : Nat) (hn : n < 5) (hb : b < 2 ^ (2 * n)) (hg : g < 2 ^ (2 * n)) (k : Nat) (hk : 42 ≤ k) :
    spec_cuCan.f k (n : Int) s ((2 * b + t.toNat : Nat) : Int) (g : Int) = some ((decide (g ≠ 0) && decide (g &&& hereN n b t = g)) && (decide (((listOf g).length : Int) ≤ s) && (calmN n g && (calmN n (b ^^^ g) && calmN n (2 ^ (2 * n) - ((b ^^^ g) + 1)))))) := by
  have hp := pow_n n hn
  have ht : t.toNat < 2 := by cases t <;> decide
  have h2 : Int.tdiv ((2 * b + t.toNat : Nat) : Int) 2 = (b : Int) := by
    rw [Int.tdiv_eq_ediv_of_nonneg (by omega)]
    omega
  have h3 : Int.tmod ((2 * b + t.toNat : Nat) : Int) 2 = (t.toNat : Int) := by
    rw [Int.tmod_eq_emod_of_nonneg (by omega)]
    omega
  have h4 := cuCan_j0 n s b t g (hereN n b t) hn hb hg (hereN_lt n b t hb) k hk
  unfold spec_cuCan.f
  rw [h2, h3, wadd (x := (b : Int)) (by omega) (by omega)]
  cases t
  · rw [if_pos (show ((false.toNat : Nat) : Int) = 0 from rfl)]
    unfold spec_cuSize.f
    rw [wadd (x := 2 * (n : Int)) (by omega) (by omega), if_pos (by omega), bindsome, size_n n hn, wadd (x := ((2 ^ (2 * n) : Nat) : Int) - 1) (by omega) (by omega), wadd (x := ((2 ^ (2 * n) : Nat) : Int) - 1 - (b : Int)) (by omega) (by omega), show ((2 ^ (2 * n) : Nat) : Int) - 1 - (b : Int) = ((hereN n b false : Nat) : Int) by (unfold hereN; rw [if_neg (by simp)]; omega)]
    exact h4
  · rw [if_neg (show ¬ ((true.toNat : Nat) : Int) = 0 by decide)]
    exact h4
theorem shr_bit : ∀ c : Nat, c < 512 → ∀ x : Nat, x < 9 → (Int.tmod (shr .i64 (c : Int) (x : Int)) 2 == 1) = c.testBit x := by decide +kernel
theorem cuState_l0 (n : Nat) (s : Int) (c : Nat) (q : Bool) (hn : n < 5) (hc : c < 512) (d : Nat) : ∀ (k i : Nat) (m : List Bool), 2 * n - i = d → i ≤ 2 * n → d < k → m.length ≤ i →
    spec_cuState.l0 k (c : Int) (i : Int) (n : Int) s m q = some (m ++ (List.range' i d).map (fun j => c.testBit (j + 1)), q) := by
  induction d with
  | zero =>
    intro k i m hd hi hk hm
    obtain ⟨k, rfl⟩ : ∃ q, k = q + 1 := ⟨k - 1, by omega⟩
    rw [spec_cuState.l0, wadd (x := 2 * (n : Int)) (by omega) (by omega), if_neg (by omega)]
    simp
  | succ d ih =>
    intro k i m hd hi hk hm
    obtain ⟨k, rfl⟩ : ∃ q, k = q + 1 := ⟨k - 1, by omega⟩
    rw [spec_cuState.l0, wadd (x := 2 * (n : Int)) (by omega) (by omega), if_pos (by omega), wnat (show i < 10 by omega) (by omega), if_pos (by omega), if_pos (by omega), shr_bit c hc (i + 1) (by omega), ih k (i + 1) _ (by omega) (by omega) (by omega) (by simp; omega), List.range'_succ, List.map_cons, List.append_assoc]
    rfl
theorem cuState_ev (n : Nat) (s : Int) (c : Nat) (hn : n < 5) (hc : c < 512) (k : Nat) (hk : 2 * n < k) : spec_cuState.f k (n : Int) s (c : Int) = some ((List.range (2 * n)).map (fun j => c.testBit (j + 1)), c.testBit 0) := by
  unfold spec_cuState.f
  have h := cuState_l0 n s c (Int.tmod (c : Int) 2 == 1) hn hc (2 * n) k 0 [] rfl (Nat.zero_le _) hk (Nat.le_refl _)
  have h2 := shr_bit c hc 0 (by omega)
  have h3 : shr .i64 (c : Int) ((0 : Nat) : Int) = (c : Int) := by unfold shr; simp
  rw [h3] at h2
  rw [List.range_eq_range', ← h2]
  simpa using h
theorem range_of (n : Nat) (l : List Int) (h : (l.all fun x => decide (0 ≤ x) && decide (x ≤ 2 * (n : Int) - 1)) = true) : ∀ x ∈ l, 0 ≤ x ∧ x < 2 * (n : Int) := by
  intro x hx
  have := List.all_eq_true.1 h x hx
  simp only [Bool.and_eq_true, decide_eq_true_eq] at this
  omega
theorem here_bit (n b : Nat) (o : List Bool) (t : Bool) (ho : o.length = 2 * n) (hb : b < 2 ^ (2 * n)) (hbit : ∀ x : Nat, b.testBit x = (decide (x < o.length) && rdOf false o (x : Int))) (x : Nat) : (hereN n b t).testBit x = (decide (x < 2 * n) && (rdOf false o (x : Int) == t)) := by
  unfold hereN
  cases t
  · rw [if_neg (by simp), Nat.testBit_two_pow_sub_succ hb, hbit, ho]
    by_cases h : x < 2 * n
    · simp [h]
    · simp [h]
  · rw [if_pos rfl, hbit, ho]
    cases rdOf false o (x : Int) <;> rfl
theorem and_here (n b g : Nat) (o : List Bool) (t : Bool) (l : List Int) (ho : o.length = 2 * n) (hb : b < 2 ^ (2 * n)) (hbit : ∀ x : Nat, b.testBit x = (decide (x < o.length) && rdOf false o (x : Int))) (hin : ∀ x ∈ l, 0 ≤ x ∧ x < 2 * (n : Int)) (hg : ∀ x : Nat, g.testBit x = l.contains (x : Int)) :
    decide (g &&& hereN n b t = g) = onSide o t l := by
  rw [Bool.eq_iff_iff, decide_eq_true_eq]
  unfold onSide
  rw [List.all_eq_true]
  constructor
  · intro h x hx
    obtain ⟨h0, h1⟩ := hin x hx
    have h2 : g.testBit x.toNat = true := by
      rw [hg, List.contains_iff_mem, show ((x.toNat : Nat) : Int) = x by omega]
      exact hx
    have h3 := h2
    rw [← h, Nat.testBit_and, Bool.and_eq_true, here_bit n b o t ho hb hbit, Bool.and_eq_true, show ((x.toNat : Nat) : Int) = x by omega] at h3
    exact h3.2.2
  · intro h
    apply Nat.eq_of_testBit_eq
    intro x
    rw [Nat.testBit_and, here_bit n b o t ho hb hbit]
    cases h2 : g.testBit x
    · rfl
    · rw [hg, List.contains_iff_mem] at h2
      rw [h _ h2]
      have := hin _ h2
      simp
      omega
theorem moved_bit (n b g : Nat) (o : List Bool) (t : Bool) (l : List Int) (ho : o.length = 2 * n) (hbit : ∀ x : Nat, b.testBit x = (decide (x < o.length) && rdOf false o (x : Int))) (hin : ∀ x ∈ l, 0 ≤ x ∧ x < 2 * (n : Int)) (hg : ∀ x : Nat, g.testBit x = l.contains (x : Int)) (hs : onSide o t l = true) (x : Nat) :
    (b ^^^ g).testBit x = (decide (x < (setAll o (!t) l).length) && rdOf false (setAll o (!t) l) (x : Int)) := by
  rw [Nat.testBit_xor, hbit, hg, setAll_length]
  by_cases h : x < o.length
  · rw [setAll_rd (!t) x l o (fun y hy => (hin y hy).1) h]
    cases hc : l.contains (x : Int)
    · simp
    · rw [List.contains_iff_mem] at hc
      have h1 := List.all_eq_true.1 hs _ hc
      have h2 : rdOf false o (x : Int) = t := by simpa using h1
      rw [h2, if_pos rfl]
      simp [h]
  · have hc : l.contains (x : Int) = false := by
      rw [Bool.eq_false_iff, Ne, List.contains_iff_mem]
      intro hc
      have := hin _ hc
      omega
    rw [hc]
    simp [h]

end Go.Proofs.Ytokfpjebnkfccaa.Pure
