/- The least time of two at once as a number of the sorted times alone: it does not fall where no time falls.
   Conditions: stated with each. -/
import Derived.Test.YtmejodmokogblaaPureTripsTimeFp
import Derived.Test.YtmejodmokogblaaPureOrderFp
import Derived.Test.YtmejodmokogblaaGFpx3
import Derived.Test.YtmejodmokogblaaGFpx1
import Derived.Test.YtmejodmokogblaaGFpx5
namespace Go.Proofs.Ytmejodmokogblaa.Pure
open Go.RowKit Go.Proofs.Ytmejodmokogblaa.G Go.Proofs.YtmejodmokogblaaW.PrintWords

/-- The times in order. -/
def srtV (l : List Int) : List Int := (impl_pace.paceL l).map fun x => rd l x
/-- What a round of the first n costs behind who takes them, and what all cost. -/
def TT (V : List Int) : Nat → Int
  | 0 => 0
  | 1 => rd V 0
  | 2 => rd V 1
  | 3 => rd V 0 + rd V 1 + rd V 2
  | n + 4 => TT V (n + 2) + (rd V 0 + rd V ((n : Int) + 3) + (if 2 * rd V 1 < rd V 0 + rd V ((n : Int) + 2) then 2 * rd V 1 else rd V 0 + rd V ((n : Int) + 2)))
def SS (V : List Int) : Nat → ByteArray → ByteArray
  | n + 4, s => SS V (n + 2) (s ++ (⟨#[if 2 * rd V 1 < rd V 0 + rd V ((n : Int) + 2) then 102 else 101]⟩ : ByteArray))
  | _, s => s
def sumP (l : List Int) (ls : List (List Int)) : Int := (ls.map (slowT l 0)).sum
theorem sumP_append (l : List Int) (as2 bs : List (List Int)) : sumP l (as2 ++ bs) = sumP l as2 + sumP l bs := by
  unfold sumP
  rw [List.map_append, List.sum_append]
theorem slow_one {l : List Int} {x : Int} (h : 0 ≤ rd l x) : slowT l 0 (impl_cross.srt [x]) = rd l x := by
  rw [srt_one]
  show mx 0 (rd l x) = rd l x
  unfold mx
  split <;> omega
theorem slow_two {l : List Int} {x y : Int} (h : 0 ≤ rd l x) (h2 : rd l x ≤ rd l y) : slowT l 0 (impl_cross.srt [x, y]) = rd l y := by
  rw [srt_two]
  split
  · show mx (mx 0 (rd l y)) (rd l x) = rd l y
    unfold mx
    split <;> split <;> omega
  · show mx (mx 0 (rd l x)) (rd l y) = rd l y
    unfold mx
    split <;> split <;> omega
theorem rd_map (l o : List Int) (i : Nat) (h : i < o.length) : rd (o.map fun x => rd l x) (i : Int) = rd l (rd o (i : Int)) := by
  rw [rdn _ i (by rw [List.length_map]; exact h), rdn o i h, List.getElem_map]
theorem cross_value (l o : List Int) (hl : l.length ≤ 12) (ho : o.length = l.length) (hv : ∀ i : Nat, i < o.length → 1 ≤ rd l (rd o (i : Int)) ∧ rd l (rd o (i : Int)) ≤ 1000) (hs : ∀ i j : Nat, i ≤ j → j < o.length → rd l (rd o (i : Int)) ≤ rd l (rd o (j : Int))) (d : Nat) :
    ∀ (n k : Nat) (ls : List (List Int)) (s : ByteArray) (ev : Bool), n ≤ d → 1 ≤ n → n ≤ o.length → d < k → ∃ ls' ev', impl_cross.l0 l o false k (n : Int) ls s ev = some (ls', SS (o.map fun x => rd l x) n s, ev') ∧ sumP l ls' = sumP l ls + TT (o.map fun x => rd l x) n := by
  induction d with
  | zero => intro n k ls s ev h1 h2; omega
  | succ d ih =>
    intro n k ls s ev h1 h2 h3 hk
    obtain ⟨k, rfl⟩ : ∃ q, k = q + 1 := ⟨k - 1, by omega⟩
    have v0 := hv 0 (by omega)
    have r0 := rd_map l o 0 (by omega)
    simp only [Int.ofNat_zero] at v0 r0
    match n, h1, h2, h3 with
    | 1, _, _, _ =>
      refine ⟨ls ++ [impl_cross.srt [rd o 0]], ev, ?_, ?_⟩
      · simp [impl_cross.l0, SS]
      · rw [sumP_append]
        simp [sumP, slow_one (show 0 ≤ rd l (rd o 0) by omega), TT, r0]
    | 2, _, _, h3 =>
      have v1 := hv 1 (by omega)
      have r1 := rd_map l o 1 (by omega)
      have s1 := hs 0 1 (by omega) (by omega)
      simp only [Int.natCast_zero, Int.natCast_one] at v1 r1 s1
      refine ⟨ls ++ [impl_cross.srt [rd o 0, rd o 1]], ev, ?_, ?_⟩
      · simp [impl_cross.l0, SS]
      · rw [sumP_append]
        simp [sumP, slow_two (show 0 ≤ rd l (rd o 0) by omega) s1, TT, r1]
    | 3, _, _, h3 =>
      have v1 := hv 1 (by omega)
      have r1 := rd_map l o 1 (by omega)
      have s1 := hs 0 1 (by omega) (by omega)
      have r2 := rd_map l o 2 (by omega)
      have s2 := hs 0 2 (by omega) (by omega)
      simp only [Int.natCast_zero, Int.natCast_one] at v1 r1 s1
      simp only [Int.natCast_zero] at s2
      rw [show ((2 : Nat) : Int) = 2 from rfl] at r2 s2
      refine ⟨ls ++ [impl_cross.srt [rd o 0, rd o 1], impl_cross.srt [rd o 0], impl_cross.srt [rd o 0, rd o 2]], ev, ?_, ?_⟩
      · simp [impl_cross.l0, SS]
      · rw [sumP_append]
        simp only [sumP, List.map_cons, List.map_nil, List.sum_cons, List.sum_nil, slow_two (show 0 ≤ rd l (rd o 0) by omega) s1, slow_two (show 0 ≤ rd l (rd o 0) by omega) s2, slow_one (show 0 ≤ rd l (rd o 0) by omega), TT, r0, r1, r2]
        omega
    | m + 4, h1, _, h3 =>
      have v1 := hv 1 (by omega)
      have r1 := rd_map l o 1 (by omega)
      have s1 := hs 0 1 (by omega) (by omega)
      have vy := hv (m + 2) (by omega)
      have ry := rd_map l o (m + 2) (by omega)
      have vz := hv (m + 3) (by omega)
      have rz := rd_map l o (m + 3) (by omega)
      have sy := hs 0 (m + 2) (by omega) (by omega)
      have sz := hs 0 (m + 3) (by omega) (by omega)
      have syz := hs (m + 2) (m + 3) (by omega) (by omega)
      have cy : ((m + 4 : Nat) : Int) - 2 = ((m + 2 : Nat) : Int) := by omega
      have cz : ((m + 4 : Nat) : Int) - 1 = ((m + 3 : Nat) : Int) := by omega
      have cy2 : (m : Int) + 2 = ((m + 2 : Nat) : Int) := by omega
      have cz2 : (m : Int) + 3 = ((m + 3 : Nat) : Int) := by omega
      simp only [Int.natCast_zero, Int.natCast_one] at v1 r1 s1 sy sz
      have w1 : wrap64 (2 * rd l (rd o 1)) = 2 * rd l (rd o 1) := wadd (by omega) (by omega)
      have w2 : wrap64 (rd l (rd o 0) + rd l (rd o ((m + 2 : Nat) : Int))) = rd l (rd o 0) + rd l (rd o ((m + 2 : Nat) : Int)) := wadd (by omega) (by omega)
      rw [impl_cross.l0, if_pos (by omega), cy, cz, w1, w2]
      simp only [TT, SS, cy2, cz2, r0, r1, ry, rz]
      by_cases c : 2 * rd l (rd o 1) < rd l (rd o 0) + rd l (rd o ((m + 2 : Nat) : Int))
      · rw [if_pos ⟨c, by simp⟩, if_pos c, if_pos c]
        obtain ⟨ls', ev', e1, e2⟩ := ih (m + 2) k (ls ++ [impl_cross.srt [rd o 0, rd o 1], impl_cross.srt [rd o 0], impl_cross.srt [rd o ((m + 2 : Nat) : Int), rd o ((m + 3 : Nat) : Int)], impl_cross.srt [rd o 1]]) (s ++ (⟨#[102]⟩ : ByteArray)) (ev || decide (2 * rd l (rd o 1) = rd l (rd o 0) + rd l (rd o ((m + 2 : Nat) : Int)))) (by omega) (by omega) (by omega) (by omega)
        refine ⟨ls', ev', e1, e2.trans ?_⟩
        rw [sumP_append]
        simp only [sumP, List.map_cons, List.map_nil, List.sum_cons, List.sum_nil, slow_two (show 0 ≤ rd l (rd o 0) by omega) s1, slow_two (show 0 ≤ rd l (rd o ((m + 2 : Nat) : Int)) by omega) syz, slow_one (show 0 ≤ rd l (rd o 0) by omega), slow_one (show 0 ≤ rd l (rd o 1) by omega)]
        omega
      · rw [if_neg (fun h => c h.1), if_neg c, if_neg c]
        obtain ⟨ls', ev', e1, e2⟩ := ih (m + 2) k (ls ++ [impl_cross.srt [rd o 0, rd o ((m + 3 : Nat) : Int)], impl_cross.srt [rd o 0], impl_cross.srt [rd o 0, rd o ((m + 2 : Nat) : Int)], impl_cross.srt [rd o 0]]) (s ++ (⟨#[101]⟩ : ByteArray)) (ev || decide (2 * rd l (rd o 1) = rd l (rd o 0) + rd l (rd o ((m + 2 : Nat) : Int)))) (by omega) (by omega) (by omega) (by omega)
        refine ⟨ls', ev', e1, e2.trans ?_⟩
        rw [sumP_append]
        simp only [sumP, List.map_cons, List.map_nil, List.sum_cons, List.sum_nil, slow_two (show 0 ≤ rd l (rd o 0) by omega) sz, slow_two (show 0 ≤ rd l (rd o 0) by omega) sy, slow_one (show 0 ≤ rd l (rd o 0) by omega)]
        omega
theorem sumT_plain {t : List Int} (ht : ∀ x ∈ t, 1 ≤ x ∧ x ≤ 1000) : ∀ (ls : List (List Int)) (m : Int) (n : Nat), 0 ≤ m ∧ m ≤ 1000 * (n : Int) → n + ls.length ≤ 1000 → (∀ x ∈ ls, tripOk t.length x) → sumT t m ls = m + sumP t ls := by
  intro ls
  induction ls with
  | nil => intro m n _ _ _; simp [sumT, sumP]
  | cons a ls ih =>
    intro m n hm hn hv
    have ha := slowT_in ht a 0 ⟨by omega, by omega⟩ (hv a (List.mem_cons_self ..)).2.2
    rw [List.length_cons] at hn
    have hw : wrap64 (m + slowT t 0 a) = m + slowT t 0 a := wadd (by omega) (by omega)
    have h := ih (m + slowT t 0 a) (n + 1) ⟨by omega, by omega⟩ (by omega) (fun x hx => hv x (List.mem_cons_of_mem _ hx))
    show sumT t (wrap64 (m + slowT t 0 a)) ls = _
    rw [hw, h]
    simp only [sumP, List.map_cons, List.sum_cons]
    omega
theorem pace_len (l : List Int) : (impl_pace.paceL l).length = l.length := by simp [impl_pace.paceL]
theorem srtV_len (l : List Int) : (srtV l).length = l.length := by rw [srtV, List.length_map, pace_len]
theorem idx_map (l : List Int) : (impl_pace.idx l.length).map (fun x => rd l x) = l := by
  apply List.ext_getElem
  · simp [impl_pace.idx]
  · intro i h1 h2
    simp only [impl_pace.idx, List.getElem_map, List.getElem_range]
    exact rdn l i h2
theorem srtV_perm (l : List Int) : (srtV l).Perm l := by
  have h := (pace_perm l).map (fun x => rd l x)
  rw [idx_map] at h
  exact h
theorem srtV_sorted (l : List Int) : (srtV l).Pairwise (· ≤ ·) := by
  rw [srtV, List.pairwise_map]
  exact (pace_sorted l).imp (fun {a b} h => by
    rcases h with h | h <;> omega)
theorem srtV_unique (l s : List Int) (h1 : s.Pairwise (· ≤ ·)) (h2 : s.Perm l) : s = srtV l :=
  List.Perm.eq_of_pairwise (le := (· ≤ ·)) (fun _ _ _ _ h3 h4 => Int.le_antisymm h3 h4) h1 (srtV_sorted l) (h2.trans (srtV_perm l).symm)
theorem srtV_twice (l : List Int) : srtV (srtV l) = srtV l := (srtV_unique (srtV l) (srtV l) (srtV_sorted l) (List.Perm.refl _)).symm
/-- What both functions tell of a list of times. -/
theorem value (l : List Int) (h : isTimes l = true) : (0 ≤ TT (srtV l) l.length ∧ TT (srtV l) l.length ≤ 24000) ∧ ∀ k, 300 < k → spec_prTime.f k l = some (TT (srtV l) l.length) ∧ impl_pairTime.f k l = some (TT (srtV l) l.length) ∧ ∃ ls ev, impl_cross.f k l false = some (ls, SS (srtV l) l.length ⟨#[]⟩, ev) := by
  obtain ⟨h1, h2, h3⟩ := isTimes_out h
  have ho := pace_len l
  have hv : ∀ i : Nat, i < (impl_pace.paceL l).length → 1 ≤ rd l (rd (impl_pace.paceL l) (i : Int)) ∧ rd l (rd (impl_pace.paceL l) (i : Int)) ≤ 1000 := fun i hi => by
    have hm := impl_cross.pace_mem (l := l) (List.getElem_mem hi)
    rw [rdn _ i hi]
    exact impl_cross.rd_mem h3 _ hm.1 hm.2
  have hs : ∀ i j : Nat, i ≤ j → j < (impl_pace.paceL l).length → rd l (rd (impl_pace.paceL l) (i : Int)) ≤ rd l (rd (impl_pace.paceL l) (j : Int)) := fun i j hij hj => by
    rw [rdn _ i (by omega), rdn _ j hj]
    by_cases e : i = j
    · subst e
      exact Int.le_refl _
    · have := List.pairwise_iff_getElem.1 (pace_sorted l) i j (by omega) hj (by omega)
      rcases this with h | h <;> omega
  obtain ⟨r, t1, t2, t3, _, t5, _⟩ := trips l false h
  obtain ⟨v, hv0, hv1⟩ := timeBoth l h
  have hc : ∀ k, 300 < k → ∃ ls ev, impl_cross.f k l false = some (ls, SS (srtV l) l.length ⟨#[]⟩, ev) ∧ sumP l ls = TT (srtV l) l.length := fun k hk => by
    obtain ⟨ls, ev, e1, e2⟩ := cross_value l (impl_pace.paceL l) h2 ho hv hs l.length l.length k [] ⟨#[]⟩ false (Nat.le_refl _) h1 (by omega) (by omega)
    refine ⟨ls, ev, ?_, ?_⟩
    · unfold impl_cross.f
      rw [if_pos ⟨by omega, by omega⟩]
      exact e1
    · rw [e2]
      simp [sumP, srtV]
  have hval : v = TT (srtV l) l.length := by
    obtain ⟨ls, ev, e1, e2⟩ := hc 301 (by omega)
    have e3 := (hv1 301 (by omega)).2
    have e4 := t2 301 (by omega)
    rw [e1] at e4
    have e5 := Option.some.inj e4
    unfold impl_pairTime.f at e3
    rw [e1, bindsome, crossing_ev l ls _ _ (by rw [show ls = r.1 from by rw [← e5]]; omega) (by rw [show ls = r.1 from by rw [← e5]]; exact t5) 301 (by rw [show ls = r.1 from by rw [← e5]]; omega), bindsome] at e3
    have e6 := Option.some.inj e3
    rw [sumT_plain h3 ls 0 0 ⟨by omega, by omega⟩ (by rw [show ls = r.1 from by rw [← e5]]; omega) (by rw [show ls = r.1 from by rw [← e5]]; exact t5), e2] at e6
    omega
  subst hval
  refine ⟨hv0, fun k hk => ⟨(hv1 k hk).1, (hv1 k hk).2, ?_⟩⟩
  obtain ⟨ls, ev, e1, _⟩ := hc k hk
  exact ⟨ls, ev, e1⟩
/-- The least time does not fall where no time falls. -/
theorem TT_mono (V W : List Int) : ∀ n : Nat, (∀ i : Nat, i < n → rd V (i : Int) ≤ rd W (i : Int)) → TT V n ≤ TT W n
  | 0, _ => Int.le_refl _
  | 1, h => h 0 (by omega)
  | 2, h => h 1 (by omega)
  | 3, h => by
    have h0 := h 0 (by omega)
    have h1 := h 1 (by omega)
    have h2 := h 2 (by omega)
    simp only [Int.natCast_zero, Int.natCast_one] at h0 h1
    rw [show ((2 : Nat) : Int) = 2 from rfl] at h2
    simp only [TT]
    omega
  | n + 4, h => by
    have h0 := h 0 (by omega)
    have h1 := h 1 (by omega)
    have h2 := h (n + 2) (by omega)
    have h3 := h (n + 3) (by omega)
    have ih := TT_mono V W (n + 2) (fun i hi => h i (by omega))
    have c2 : ((n + 2 : Nat) : Int) = (n : Int) + 2 := by omega
    have c3 : ((n + 3 : Nat) : Int) = (n : Int) + 3 := by omega
    rw [c2] at h2
    rw [c3] at h3
    simp only [Int.natCast_zero, Int.natCast_one] at h0 h1
    simp only [TT]
    split <;> split <;> omega
theorem count_mono (c : Int) : ∀ (l m : List Int), l.length = m.length → (∀ i : Nat, (h : i < l.length) → (h2 : i < m.length) → m[i] ≤ l[i]) → l.countP (fun x => decide (x ≤ c)) ≤ m.countP (fun x => decide (x ≤ c))
  | [], [], _, _ => Nat.le_refl _
  | x :: l, y :: m, hl, h => by
    have h0 : y ≤ x := h 0 (by simp) (by simp)
    have ih := count_mono c l m (by simpa using hl) (fun i h1 h2 => h (i + 1) (by simpa using h1) (by simpa using h2))
    rw [List.countP_cons, List.countP_cons]
    by_cases c1 : x ≤ c
    · rw [if_pos (decide_eq_true c1), if_pos (decide_eq_true (show y ≤ c by omega))]
      omega
    · rw [if_neg (by simpa using c1)]
      omega
theorem count_low {s : List Int} (hs : s.Pairwise (· ≤ ·)) (i : Nat) (hi : i < s.length) : i + 1 ≤ s.countP (fun x => decide (x ≤ s[i])) := by
  have h1 : (s.take (i + 1)).countP (fun x => decide (x ≤ s[i])) = (s.take (i + 1)).length := List.countP_eq_length.2 (fun x hx => by
    obtain ⟨j, hj, e⟩ := List.mem_take_iff_getElem.1 hx
    rw [decide_eq_true_eq, ← e]
    by_cases ej : j = i
    · subst ej
      exact Int.le_refl _
    · exact List.pairwise_iff_getElem.1 hs j i (by omega) hi (by omega))
  have h2 : s.countP (fun x => decide (x ≤ s[i])) = (s.take (i + 1)).countP (fun x => decide (x ≤ s[i])) + (s.drop (i + 1)).countP (fun x => decide (x ≤ s[i])) := by rw [← List.countP_append, List.take_append_drop]
  rw [h2, h1, List.length_take]
  omega
theorem count_high {s : List Int} (hs : s.Pairwise (· ≤ ·)) (i : Nat) (hi : i < s.length) (c : Int) (hc : c < s[i]) : s.countP (fun x => decide (x ≤ c)) ≤ i := by
  have h1 : (s.drop i).countP (fun x => decide (x ≤ c)) = 0 := List.countP_eq_zero.2 (fun x hx => by
    obtain ⟨j, hj, e⟩ := List.mem_drop_iff_getElem.1 hx
    rw [decide_eq_true_eq, ← e]
    by_cases ej : j = 0
    · subst ej
      simp only [Nat.add_zero]
      omega
    · have := List.pairwise_iff_getElem.1 hs i (i + j) hi (by omega) (by omega)
      omega)
  have h2 : s.countP (fun x => decide (x ≤ c)) = (s.take i).countP (fun x => decide (x ≤ c)) + (s.drop i).countP (fun x => decide (x ≤ c)) := by rw [← List.countP_append, List.take_append_drop]
  have h3 := List.countP_le_length (p := fun x => decide (x ≤ c)) (l := s.take i)
  rw [List.length_take] at h3
  omega
/-- Where no time is greater, no place of the order is. -/
theorem srtV_mono (l m : List Int) (hl : l.length = m.length) (h : ∀ i : Nat, (h : i < l.length) → (h2 : i < m.length) → m[i] ≤ l[i]) (i : Nat) (hi : i < l.length) : rd (srtV m) (i : Int) ≤ rd (srtV l) (i : Int) := by
  have h1 : i < (srtV l).length := by rw [srtV_len]; exact hi
  have h2 : i < (srtV m).length := by rw [srtV_len]; omega
  rw [rdn _ i h1, rdn _ i h2]
  by_cases c : (srtV m)[i] ≤ (srtV l)[i]
  · exact c
  · exfalso
    have k1 := count_low (srtV_sorted l) i h1
    have k2 := count_high (srtV_sorted m) i h2 ((srtV l)[i]) (by omega)
    have k3 := count_mono ((srtV l)[i]) l m hl h
    rw [← (srtV_perm l).countP_eq, ← (srtV_perm m).countP_eq] at k3
    omega
theorem value_mono (l m : List Int) (hl : l.length = m.length) (h : ∀ i : Nat, (h : i < l.length) → (h2 : i < m.length) → m[i] ≤ l[i]) : TT (srtV m) m.length ≤ TT (srtV l) l.length := by
  rw [← hl]
  exact TT_mono _ _ _ (fun i hi => srtV_mono l m hl h i hi)

end Go.Proofs.Ytmejodmokogblaa.Pure
