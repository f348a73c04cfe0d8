/- The law FnPairsChangeOfAll returns true for all arguments.
   Conditions: the lists are no longer than any Go slice. -/
import Derived.Test.YtmejodmokogblaaPureStepFp
import Derived.Test.YtmejodmokogblaaPureChangePartsFp
import Derived.Test.YtmejodmokogblaaPureListsFp
import Derived.Test.YtmejodmokogblaaGFpx2
import Derived.Test.YtmejodmokogblaaGFpx1
import Derived.Test.YtmejodmokogblaaGFpx4
import Derived.Test.YtmejodmokogblaaGFpx5
import Derived.Test.YtmejodmokogblaaGFpx6
import Derived.Test.YtmejodmokogblaaGFpx9
namespace Go.Proofs.Ytmejodmokogblaa.Pure
open Go.RowKit Go.Proofs.Ytmejodmokogblaa.G Go.Proofs.YtmejodmokogblaaW.PrintWords

def rankOf (l : List Int) : List Int × Bool := if isTimes l = true then (impl_pace.paceL l, true) else ([], false)
theorem specRank_ev (l : List Int) (hl : l.length ≤ 1048576) (k : Nat) (hk : l.length + 200 < k) : spec_RankOfPace.f k l = some (rankOf l) := by
  unfold spec_RankOfPace.f rankOf
  rw [prGood_ev l hl k (by omega), bindsome]
  cases h : isTimes l
  · rfl
  · obtain ⟨h1, h2, _⟩ := isTimes_out h
    rw [if_pos rfl, if_pos rfl, prOrder_ev l h2 k (by omega), bindsome]
theorem implRank_ev (l : List Int) : impl_RankOfPace.f l = some (rankOf l) := by
  unfold impl_RankOfPace.f rankOf
  rw [isTimes_ev, bindsome]
  cases h : isTimes l
  · rfl
  · obtain ⟨h1, h2, _⟩ := isTimes_out h
    unfold impl_pace.f
    rw [if_pos rfl, if_pos rfl, if_pos (by omega), bindsome]
theorem even_ev (l : List Int) (hl : l.length ≤ 1048576) (k : Nat) (hk : l.length + 400 < k) : ∃ b, spec_HasEvenRound.f k l = some (b, isTimes l) ∧ impl_HasEvenRound.f k l = some (b, isTimes l) := by
  unfold spec_HasEvenRound.f impl_HasEvenRound.f
  rw [prGood_ev l hl k (by omega), bindsome, isTimes_ev, bindsome]
  cases h : isTimes l
  · exact ⟨_, rfl, rfl⟩
  · obtain ⟨r, h1, h2, _⟩ := trips l false h
    rw [if_pos rfl, if_pos rfl, h1 k (by omega), h2 k (by omega)]
    exact ⟨_, rfl, rfl⟩
theorem rounds_ev (l : List Int) (h : isTimes l = true) (k : Nat) (hk : 300 < k) : impl_PairRounds.f k l = some (SS (srtV l) l.length ⟨#[]⟩, true) := by
  unfold impl_PairRounds.f
  obtain ⟨ls, ev, e⟩ := ((value l h).2 k hk).2.2
  rw [isTimes_ev, bindsome, if_pos h, e, bindsome]
theorem hSame_l0 (l : List Int) (hl : l.length ≤ 1048576) (d : Nat) : ∀ (k i : Nat), l.length - i = d → i ≤ l.length → d < k → laws_hSame.l0 k l l (l.length : Int) (i : Int) = some true := by
  induction d with
  | zero =>
    intro k i hd hi hk
    obtain ⟨k, rfl⟩ : ∃ q, k = q + 1 := ⟨k - 1, by omega⟩
    simp only [laws_hSame.l0]
    rw [if_neg (by omega)]
  | succ d ih =>
    intro k i hd hi hk
    obtain ⟨k, rfl⟩ : ∃ q, k = q + 1 := ⟨k - 1, by omega⟩
    simp only [laws_hSame.l0]
    simp only [show ((i : Int) < (l.length : Int)) = True from eq_true (by omega), show (0 ≤ (i : Int)) = True from eq_true (by omega), if_true]
    rw [wnat (show i < l.length by omega) (by omega)]
    exact ih k (i + 1) (by omega) (by omega) (by omega)
theorem hSame_ev (l : List Int) (hl : l.length ≤ 1048576) (k : Nat) (hk : l.length < k) : laws_hSame.f k l l = some true := by
  unfold laws_hSame.f
  rw [if_pos rfl]
  exact hSame_l0 l hl l.length k 0 rfl (Nat.zero_le _) hk
theorem hHas_l0 (l : List Int) (x : Int) (hl : l.length ≤ 1048576) (d : Nat) : ∀ (k i : Nat), l.length - i = d → i ≤ l.length → d < k → x ∈ l.drop i → laws_hHas.l0 k x l (l.length : Int) (i : Int) = some true := by
  induction d with
  | zero =>
    intro k i hd hi hk hx
    rw [List.drop_eq_nil_of_le (by omega)] at hx
    simp at hx
  | succ d ih =>
    intro k i hd hi hk hx
    obtain ⟨k, rfl⟩ : ∃ q, k = q + 1 := ⟨k - 1, by omega⟩
    have hlt : i < l.length := by omega
    simp only [laws_hHas.l0]
    rw [if_pos (by omega), if_pos (by omega), if_pos (by omega), wnat hlt (by omega), rdn l i hlt]
    by_cases c : l[i] = x
    · rw [if_pos c]
    · rw [if_neg c]
      refine ih k (i + 1) (by omega) (by omega) (by omega) ?_
      rw [drop_cons l i hlt] at hx
      exact (List.mem_cons.1 hx).resolve_left (fun e => c e.symm)
theorem hHas_ev (l : List Int) (x : Int) (hl : l.length ≤ 1048576) (hx : x ∈ l) (k : Nat) (hk : l.length < k) : laws_hHas.f k l x = some true := by
  unfold laws_hHas.f
  exact hHas_l0 l x hl l.length k 0 rfl (Nat.zero_le _) hk (by simpa using hx)
/-- Lists that go on from one that does not fall don't fall. -/
theorem allL_rise {m : Nat} (hm : 1 ≤ m) : ∀ (d : Nat) (l : List Int), OkL m l → l.Pairwise (· ≤ ·) → (∀ x ∈ l, x ≤ ((low l : Nat) : Int)) → ∀ y ∈ allL m d l, y.Pairwise (· ≤ ·)
  | 0, l, _, hp, _, y, hy => by
    rw [allL, List.mem_singleton] at hy
    rw [hy]
    exact hp
  | d + 1, l, h, hp, hlow, y, hy => by
    rw [allL, List.mem_flatten] at hy
    obtain ⟨ls, h1, h2⟩ := hy
    obtain ⟨x, hx, rfl⟩ := List.mem_map.1 h1
    have hx2 := List.mem_range'_1.1 hx
    have hlo := low_in h hm
    have hlast : low (l ++ [(x : Int)]) = x := by
      unfold low
      have e : (l ++ [(x : Int)]).length = l.length + 1 := by simp
      rw [if_neg (by omega), e, show ((l.length + 1 : Nat) : Int) - 1 = ((l.length : Nat) : Int) by omega, rdn _ l.length (by omega)]
      simp
    refine allL_rise hm d (l ++ [(x : Int)]) (okL_snoc h (by omega) (by omega)) (List.pairwise_append.2 ⟨hp, List.pairwise_singleton _ _, fun a ha b hb => ?_⟩) (fun a ha => ?_) y h2
    · rw [List.mem_singleton.1 hb]
      have := hlow a ha
      omega
    · rw [hlast]
      rcases List.mem_append.1 ha with h3 | h3
      · have := hlow a h3
        omega
      · rw [List.mem_singleton.1 h3]
        exact Int.le_refl _
theorem found_rise (people m : Nat) (total : Int) (hm : 1 ≤ m) (l : List Int) (h : l ∈ found people m total) : l.Pairwise (· ≤ ·) := by
  unfold found at h
  exact allL_rise hm people [] (fun x hx => by simp at hx) List.Pairwise.nil (fun x hx => by simp at hx) l (List.mem_filter.1 h).1
/-- The last loop: the first list's times lie in their bounds and don't fall. -/
theorem last_l3 (m : Nat) (f : List Int) (hl : f.length ≤ 1048576) (hok : OkL m f) (hp : f.Pairwise (· ≤ ·)) (d : Nat) : ∀ (k i : Nat), f.length - i = d → i ≤ f.length → d < k → laws_FnPairsChangeOfAll.l3 k (m : Int) f f (f.length : Int) (i : Int) = some true := by
  induction d with
  | zero =>
    intro k i hd hi hk
    obtain ⟨k, rfl⟩ : ∃ q, k = q + 1 := ⟨k - 1, by omega⟩
    simp only [laws_FnPairsChangeOfAll.l3]
    rw [if_neg (by omega)]
  | succ d ih =>
    intro k i hd hi hk
    obtain ⟨k, rfl⟩ : ∃ q, k = q + 1 := ⟨k - 1, by omega⟩
    have hlt : i < f.length := by omega
    have hx := hok _ (List.getElem_mem hlt)
    have hn := ih k (i + 1) (by omega) (by omega) (by omega)
    simp only [laws_FnPairsChangeOfAll.l3]
    rw [rdn f i hlt, wnat hlt (by omega)]
    simp only [show ((i : Int) < (f.length : Int)) = True from eq_true (by omega), show (0 ≤ (i : Int)) = True from eq_true (by omega), if_true]
    rw [if_neg (by omega), if_neg (by omega)]
    by_cases h0 : i = 0
    · rw [if_neg (by omega)]
      exact hn
    · rw [if_pos (by omega), wadd (x := (i : Int) - 1) (by omega) (by omega), if_pos (by omega), if_pos (by omega), show (i : Int) - 1 = ((i - 1 : Nat) : Int) by omega, rdn f (i - 1) (by omega)]
      have := List.pairwise_iff_getElem.1 hp (i - 1) i (by omega) hlt (by omega)
      rw [if_neg (by omega)]
      exact hn
/-- The first loop: the order rises. -/
theorem first_l0 (l y1 : List Int) (y2 : Int) (y3 : List Int) (y4 y5 y6 y7 : Int) (hl : l.length ≤ 12) (d : Nat) : ∀ (q i : Nat), l.length - i = d → 1 ≤ i → i ≤ l.length →
    laws_FnPairsChangeOfAll.l0 (q + d + 1) l y1 y2 y3 y4 y5 y6 y7 (impl_pace.paceL l) (i : Int) = laws_FnPairsChangeOfAll.l1 q l y1 y2 y3 y4 y5 y6 y7 (impl_pace.paceL l) (l.length : Int) 0 := by
  have ho := pace_len l
  have hM : ∀ j : Nat, (h : j < (impl_pace.paceL l).length) → 0 ≤ (impl_pace.paceL l)[j] ∧ (impl_pace.paceL l)[j] < (l.length : Int) := fun j h => impl_cross.pace_mem (List.getElem_mem h)
  have hS := pace_sorted l
  have hN : (impl_pace.paceL l).Nodup := (pace_perm l).nodup_iff.2 (by
    unfold impl_pace.idx
    rw [List.Nodup, List.pairwise_map]
    exact List.nodup_range.imp (fun h e => h (by omega)))
  generalize impl_pace.paceL l = o at ho hM hS hN
  induction d with
  | zero =>
    intro q i hd h1 hi
    simp only [laws_FnPairsChangeOfAll.l0]
    rw [if_neg (by omega)]
  | succ d ih =>
    intro q i hd h1 hi
    have hlt : i < o.length := by omega
    have ha := hM (i - 1) (by omega)
    have hb := hM i hlt
    have hle := List.pairwise_iff_getElem.1 hS (i - 1) i (by omega) hlt (by omega)
    have hne : o[i - 1] ≠ o[i] := fun e => by
      have := (List.getElem_inj hN).1 e
      omega
    have hn := ih q (i + 1) (by omega) (by omega) (by omega)
    rw [show q + (d + 1) + 1 = (q + d + 1) + 1 by omega]
    simp only [laws_FnPairsChangeOfAll.l0]
    rw [wadd (x := (i : Int) - 1) (by omega) (by omega), show (i : Int) - 1 = ((i - 1 : Nat) : Int) by omega, rdn o (i - 1) (by omega), rdn o i hlt, wnat (show i < o.length from hlt) (by omega)]
    simp only [show ((i : Int) < (o.length : Int)) = True from eq_true (by omega), show (0 ≤ (i : Int)) = True from eq_true (by omega), show (0 ≤ ((i - 1 : Nat) : Int)) = True from eq_true (by omega), show (((i - 1 : Nat) : Int) < (o.length : Int)) = True from eq_true (by omega), eq_true ha.1, eq_true ha.2, eq_true hb.1, eq_true hb.2, if_true]
    unfold leP at hle
    rw [if_neg (by omega)]
    by_cases c : rd l o[i - 1] = rd l o[i]
    · rw [if_pos c, if_neg (by omega)]
      exact hn
    · rw [if_neg c]
      exact hn
/-- The second loop: everybody stands in the order. -/
theorem second_l1 (l y1 : List Int) (y2 : Int) (y3 : List Int) (y4 y5 y6 y7 : Int) (hl : l.length ≤ 12) (d : Nat) : ∀ (q i : Nat), l.length - i = d → i ≤ l.length → 20 < q →
    laws_FnPairsChangeOfAll.l1 (q + d + 1) l y1 y2 y3 y4 y5 y6 y7 (impl_pace.paceL l) (l.length : Int) (i : Int) = laws_FnPairsChangeOfAll.l2 q l y1 y2 y3 y4 y5 y6 y7 (List.replicate l.length 0) (impl_pace.paceL l) (l.length : Int) 0 := by
  have ho := pace_len l
  have hP := pace_perm l
  generalize impl_pace.paceL l = o at ho hP
  induction d with
  | zero =>
    intro q i hd hi hq
    simp only [laws_FnPairsChangeOfAll.l1]
    rw [if_neg (by omega), if_pos (by omega), ho, Int.toNat_natCast, if_pos (by omega)]
  | succ d ih =>
    intro q i hd hi hq
    have hlt : i < l.length := by omega
    have hx : (i : Int) ∈ o := hP.mem_iff.2 (by
      unfold impl_pace.idx
      exact List.mem_map.2 ⟨i, List.mem_range.2 hlt, rfl⟩)
    rw [show q + (d + 1) + 1 = (q + d + 1) + 1 by omega]
    simp only [laws_FnPairsChangeOfAll.l1]
    rw [if_pos (by omega), hHas_ev o (i : Int) (by omega) hx _ (by omega), bindsome, if_pos rfl, wnat hlt (by omega)]
    exact ih q (i + 1) (by omega) (by omega) hq
/-- The third loop: the times in order. -/
theorem third_l2 (l y1 : List Int) (y2 : Int) (y3 : List Int) (y4 y5 y6 y7 : Int) (hl : l.length ≤ 12) (d : Nat) : ∀ (q i : Nat) (m : List Int), l.length - i = d → i ≤ l.length → m.length = l.length → m.take i = (srtV l).take i →
    laws_FnPairsChangeOfAll.l2 (q + d + 1) l y1 y2 y3 y4 y5 y6 y7 m (impl_pace.paceL l) (l.length : Int) (i : Int) = laws_FnPairsChangeOfAll.l2 (q + 1) l y1 y2 y3 y4 y5 y6 y7 (srtV l) (impl_pace.paceL l) (l.length : Int) (l.length : Int) := by
  have ho := pace_len l
  have hv := srtV_len l
  have hM : ∀ j : Nat, (h : j < (impl_pace.paceL l).length) → 0 ≤ (impl_pace.paceL l)[j] ∧ (impl_pace.paceL l)[j] < (l.length : Int) := fun j h => impl_cross.pace_mem (List.getElem_mem h)
  have hV : ∀ j : Nat, (h : j < (impl_pace.paceL l).length) → (srtV l)[j]'(by omega) = rd l (impl_pace.paceL l)[j] := fun j h => by simp [srtV]
  induction d with
  | zero =>
    intro q i m hd hi hm ht
    have e : i = l.length := by omega
    subst e
    rw [List.take_of_length_le (by omega), List.take_of_length_le (by omega)] at ht
    rw [ht]
  | succ d ih =>
    intro q i m hd hi hm ht
    have hlt : i < (impl_pace.paceL l).length := by omega
    have hb := hM i hlt
    have hn := ih q (i + 1) (m.set i (rd l (impl_pace.paceL l)[i])) (by omega) (by omega) (by simp; omega) (by
      rw [List.take_succ_eq_append_getElem (by simp; omega), List.take_succ_eq_append_getElem (by omega), hV i hlt, List.getElem_set_self, List.take_set, List.set_eq_of_length_le (by rw [List.length_take]; omega), ht])
    rw [show q + (d + 1) + 1 = (q + d + 1) + 1 by omega]
    rw [laws_FnPairsChangeOfAll.l2]
    rw [rdn _ i hlt, wnat (show i < (impl_pace.paceL l).length from hlt) (by omega), Int.toNat_natCast]
    rw [if_pos (by omega), if_pos (by omega), if_pos (by omega), if_pos hb.1, if_pos hb.2, if_pos (by omega)]
    exact hn
theorem srtV_times {l : List Int} (h : isTimes l = true) : isTimes (srtV l) = true := by
  obtain ⟨h1, h2, h3⟩ := isTimes_out h
  exact isTimes_in (by rw [srtV_len]; exact h1) (by rw [srtV_len]; exact h2) (fun x hx => h3 x ((srtV_perm l).mem_iff.1 hx))
theorem third_end (l y1 : List Int) (y2 : Int) (y3 : List Int) (y4 y5 y6 y7 : Int) (h : isTimes l = true) (q : Nat) (hq : 300 < q) :
    laws_FnPairsChangeOfAll.l2 (q + 1) l y1 y2 y3 y4 y5 y6 y7 (srtV l) (impl_pace.paceL l) (l.length : Int) (l.length : Int) = laws_FnPairsChangeOfAll.j4 q y1 y2 y3 y4 y5 y6 y7 := by
  have hs := srtV_times h
  have e1 := implPair_ev l q hq
  have e2 := implPair_ev (srtV l) q hq
  have e3 := rounds_ev l h q hq
  have e4 := rounds_ev (srtV l) hs q hq
  have e5 : leastT (srtV l) = leastT l := by
    unfold leastT
    rw [srtV_twice, srtV_len]
  rw [srtV_twice, srtV_len] at e4
  rw [pairR, if_pos h] at e1
  rw [pairR, if_pos hs, e5] at e2
  rw [laws_FnPairsChangeOfAll.l2, if_neg (by omega), e1, bindsome, e2, bindsome, e3, bindsome, e4, bindsome]
  simp
theorem pt_least {l : List Int} (h : isTimes l = true) : pt l = leastT l := Option.some.inj ((pt_ev l h 301 (by omega)).2.symm.trans (pairTime_ev h 301 (by omega)))
/-- The last part: the first list has the time that was asked for. -/
theorem part_j8 (a5 a6 a7 : Int) (k : Nat) (hk : 400 < k) : laws_FnPairsChangeOfAll.j8 k a5 a6 a7 (firstL a5 a6 a7).1 (firstL a5 a6 a7).2 = some true := by
  obtain ⟨k, rfl⟩ : ∃ q, k = q + 1 := ⟨k - 1, by omega⟩
  rw [laws_FnPairsChangeOfAll.j8]
  unfold firstL
  cases h : asked a5 a6 a7
  · rfl
  · obtain ⟨people, m, rfl, rfl, h1, h2, h3, h4, h5, h6⟩ := asked_out h
    rw [if_pos rfl, Int.toNat_natCast, Int.toNat_natCast]
    cases hf : (found people m a7) with
    | nil => rfl
    | cons x t =>
      have hx : x ∈ found people m a7 := by rw [hf]; exact List.mem_cons_self
      obtain ⟨k1, k2, k3⟩ := found_mem people m a7 h3 x hx
      have k4 := found_rise people m a7 h3 x hx
      have ht := isTimes_ok k1 h4 (by omega) (by omega)
      rw [pt_least ht] at k3
      have e := implPair_ev x k (by omega)
      rw [pairR, if_pos ht] at e
      have e3 := last_l3 m x (by omega) k1 k4 x.length k 0 rfl (Nat.zero_le _) (by omega)
      simp only [List.head?_cons, Option.isSome_some, Option.getD_some, if_true, e, bindsome, k3, k2]
      rw [k2] at e3
      exact e3
theorem part_j7 (l : List Int) (a4 a5 a6 a7 : Int) (h : person l a4 = true) (k : Nat) (hk : 500 < k) : laws_FnPairsChangeOfAll.j7 k l a4 a5 a6 a7 (leastT l - leastT (l.set a4.toNat 1)) (firstL a5 a6 a7).1 (firstL a5 a6 a7).2 false = some true := by
  obtain ⟨k, rfl⟩ : ∃ q, k = q + 1 := ⟨k - 1, by omega⟩
  obtain ⟨h1, h2, h3⟩ := person_out h
  have hb := isTimes_out h1
  have hs := isTimes_set h1 a4.toNat 1 ⟨by omega, by omega⟩
  have e1 := implPair_ev l k (by omega)
  have e2 := implPair_ev (l.set a4.toNat 1) k (by omega)
  rw [pairR, if_pos h1] at e1
  rw [pairR, if_pos hs] at e2
  have b1 := leastT_in h1
  have b2 := leastT_in hs
  rw [laws_FnPairsChangeOfAll.j7, if_neg (by decide), bindsome, if_pos (by simp; omega), bindsome, List.nil_append, if_pos h2, if_pos h3, e1, bindsome, e2, bindsome, if_pos rfl, if_pos rfl, if_pos (wadd (by omega) (by omega))]
  exact part_j8 a5 a6 a7 k (by omega)
theorem part_j6 (l : List Int) (a4 a5 a6 a7 : Int) (k : Nat) (hk : 600 < k) : laws_FnPairsChangeOfAll.j6 k l a4 a5 a6 a7 (savR l a4).1 (savR l a4).2 (tightR l a4).1 (tightR l a4).2 (firstL a5 a6 a7).1 (firstL a5 a6 a7).2 = some true := by
  obtain ⟨k, rfl⟩ : ∃ q, k = q + 1 := ⟨k - 1, by omega⟩
  rw [laws_FnPairsChangeOfAll.j6]
  have e8 := part_j8 a5 a6 a7 k (by omega)
  by_cases h : person l a4 = true
  · have e7 := part_j7 l a4 a5 a6 a7 h k (by omega)
    obtain ⟨h1, h2, h3⟩ := person_out h
    have hlt : a4.toNat < l.length := by omega
    have hrd : rd l a4 = l[a4.toNat] := by
      have := rdn l a4.toNat hlt
      rwa [Int.toNat_of_nonneg h2] at this
    have hx := (isTimes_out h1).2.2 _ (List.getElem_mem hlt)
    have hself : l.set a4.toNat (rd l a4) = l := by rw [hrd]; exact List.set_getElem_self hlt
    have hm := set_mono (l := l) a4.toNat 1 (rd l a4) (by omega)
    rw [hself] at hm
    have hs : savR l a4 = (leastT l - leastT (l.set a4.toNat 1), true) := if_pos h
    rw [hs]
    simp only [if_true]
    rw [if_neg (by omega), if_pos h2, if_pos h3]
    by_cases c : rd l a4 = 1
    · have ht : tightR l a4 = (false, false) := if_neg (fun e => e.2 c)
      rw [c] at hself
      rw [if_pos c, ht, if_pos (by rw [hself]; omega), if_neg (by decide)]
      exact e7
    · have ht : tightR l a4 = (decide (leastT (l.set a4.toNat (rd l a4 - 1)) < leastT l), true) := if_pos ⟨h, c⟩
      rw [if_neg c, ht]
      simp only [if_true]
      by_cases d : leastT (l.set a4.toNat (rd l a4 - 1)) < leastT l
      · have hm2 := set_mono (l := l) a4.toNat 1 (rd l a4 - 1) (by omega)
        rw [if_pos (decide_eq_true d), decide_eq_false (by omega)]
        exact e7
      · rw [if_neg (by simpa using d)]
        exact e7
  · have hs : savR l a4 = (0, false) := if_neg h
    rw [hs, if_neg (by decide)]
    exact e8
theorem part_j5 (l1 : List Int) (a2 : Int) (l : List Int) (a4 a5 a6 a7 : Int) (k : Nat) (hk : 700 < k) : laws_FnPairsChangeOfAll.j5 k l1 a2 l a4 a5 a6 a7 (addR l1 a2).1 (addR l1 a2).2 (savR l a4).1 (savR l a4).2 (tightR l a4).1 (tightR l a4).2 (firstL a5 a6 a7).1 (firstL a5 a6 a7).2 false = some true := by
  obtain ⟨k, rfl⟩ : ∃ q, k = q + 1 := ⟨k - 1, by omega⟩
  have e6 := part_j6 l a4 a5 a6 a7 k (by omega)
  rw [laws_FnPairsChangeOfAll.j5, if_neg (by decide)]
  by_cases h : isTimes l1 = true ∧ isTimes (l1 ++ [a2]) = true
  · have hA : addR l1 a2 = (leastT (l1 ++ [a2]) - leastT l1, true) := if_pos h
    have hb := isTimes_out h.1
    have e1 := implPair_ev l1 k (by omega)
    have e2 := implPair_ev (l1 ++ [a2]) k (by omega)
    rw [pairR, if_pos h.1] at e1
    rw [pairR, if_pos h.2] at e2
    have b1 := leastT_in h.1
    have b2 := leastT_in h.2
    rw [hA, if_pos rfl, e1, bindsome, bindsome, if_pos (by simp; omega), bindsome, List.nil_append, if_pos (by omega), e2, bindsome, if_pos rfl, if_pos rfl, if_pos (wadd (by omega) (by omega))]
    exact e6
  · have hA : addR l1 a2 = (0, false) := if_neg h
    rw [hA, if_neg (by decide)]
    exact e6
theorem part_j4 (l1 : List Int) (a2 : Int) (l : List Int) (a4 a5 a6 a7 : Int) (h1 : l1.length ≤ 10000) (h3 : l.length ≤ 10000) (k : Nat) (hk : 20000 < k) : laws_FnPairsChangeOfAll.j4 k l1 a2 l a4 a5 a6 a7 = some true := by
  obtain ⟨k, rfl⟩ : ∃ q, k = q + 1 := ⟨k - 1, by omega⟩
  have e5 := part_j5 l1 a2 l a4 a5 a6 a7 k (by omega)
  have ea := added_ev l1 a2 (by omega) k (by omega)
  have es := saved_ev l a4 (by omega) k (by omega)
  have et := tight_ev l a4 (by omega) k (by omega)
  have hl := firstL_len a5 a6 a7
  have eh := hSame_ev (firstL a5 a6 a7).1 (by omega) k (by omega)
  have hts : (tightR l a4).2 = true → (!(savR l a4).2) = false := fun e => by
    unfold tightR at e
    unfold savR
    split at e
    · rename_i c
      rw [if_pos c.1]
      rfl
    · cases e
  have hcf : (countL a5 a6 a7).2 = true → (firstL a5 a6 a7).2 = decide ((countL a5 a6 a7).1 > 0) := fun e => by
    unfold countL at e ⊢
    unfold firstL
    split at e
    · rename_i c
      rw [if_pos c, if_pos c]
      cases found a5.toNat a6.toNat a7 with
      | nil => rfl
      | cons x t =>
        simp
    · cases e
  have hcg : (countL a5 a6 a7).2 = false → (firstL a5 a6 a7).2 = false := fun e => by
    unfold countL at e
    unfold firstL
    split at e
    · cases e
    · rename_i c
      rw [if_neg c]
  rw [laws_FnPairsChangeOfAll.j4]
  refine step_ ea.2 (step_ ea.1 (step_ es.2 (step_ es.1 (step_ et.2 (step_ et.1 (step_ (implCount_ev a5 a6 a7 k (by omega)) (step_ (specCount_ev a5 a6 a7 k (by omega)) (step_ (implFirst_ev a5 a6 a7 k (by omega)) (step_ (specFirst_ev a5 a6 a7 k (by omega)) ?_)))))))))
  refine neg_ nene (pos_ rfl (neg_ nene (pos_ rfl (neg_ nene (neg_ nene (neg_ nene (pos_ rfl (neg_ nene (step_ eh (pos_ rfl ?_))))))))))
  have hfin : (if (tightR l a4).2 = true then laws_FnPairsChangeOfAll.j5 k l1 a2 l a4 a5 a6 a7 (addR l1 a2).1 (addR l1 a2).2 (savR l a4).1 (savR l a4).2 (tightR l a4).1 (tightR l a4).2 (firstL a5 a6 a7).1 (firstL a5 a6 a7).2 (!(savR l a4).2) else laws_FnPairsChangeOfAll.j5 k l1 a2 l a4 a5 a6 a7 (addR l1 a2).1 (addR l1 a2).2 (savR l a4).1 (savR l a4).2 (tightR l a4).1 (tightR l a4).2 (firstL a5 a6 a7).1 (firstL a5 a6 a7).2 false) = some true := by
    split
    · rename_i c
      rw [hts c]
      exact e5
    · exact e5
  cases hc : (countL a5 a6 a7).2 with
  | true => exact pos_ rfl (neg_ (by rw [hcf hc]; simp) hfin)
  | false => exact neg_ (by decide) (neg_ (by rw [hcg hc]; decide) hfin)
theorem part_j0 (l l1 : List Int) (a2 : Int) (l3 : List Int) (a4 a5 a6 a7 : Int) (h0 : l.length ≤ 10000) (h1 : l1.length ≤ 10000) (h3 : l3.length ≤ 10000) : laws_FnPairsChangeOfAll.j0 30001 l l1 a2 l3 a4 a5 a6 a7 false = some true := by
  rw [laws_FnPairsChangeOfAll.j0, if_neg (by decide)]
  obtain ⟨b, eb1, eb2⟩ := even_ev l (by omega) 30000 (by omega)
  have er := specRank_ev l (by omega) 30000 (by omega)
  have hl : (rankOf l).1.length ≤ 12 := by
    unfold rankOf
    split
    · rename_i h
      have := (isTimes_out h).2.1
      rw [pace_len]
      exact this
    · simp
  have hr2 : (rankOf l).2 = isTimes l := by
    unfold rankOf
    cases isTimes l <;> rfl
  refine step_ (implRank_ev l) (step_ er (step_ eb2 (step_ eb1 (neg_ nene (step_ (hSame_ev _ (by omega) 30000 (by omega)) (pos_ rfl (neg_ nene (neg_ nene (neg_ (by rw [hr2]; simp) ?_)))))))))
  cases h : isTimes l with
  | false =>
    refine neg_ (by rw [hr2, h]; decide) ?_
    exact part_j4 l1 a2 l3 a4 a5 a6 a7 h1 h3 30000 (by omega)
  | true =>
    refine pos_ (by rw [hr2, h]) ?_
    obtain ⟨k1, k2, k3⟩ := isTimes_out h
    have hp : (rankOf l).1 = impl_pace.paceL l := by
      unfold rankOf
      rw [if_pos h]
    rw [hp]
    have e1 := first_l0 l l1 a2 l3 a4 a5 a6 a7 k2 (l.length - 1) (30000 - l.length) 1 rfl (by omega) k1
    rw [show 30000 - l.length + (l.length - 1) + 1 = 30000 by omega] at e1
    refine e1.trans ?_
    have e2 := second_l1 l l1 a2 l3 a4 a5 a6 a7 k2 l.length (30000 - l.length - l.length - 1) 0 rfl (Nat.zero_le _) (by omega)
    rw [show 30000 - l.length - l.length - 1 + l.length + 1 = 30000 - l.length by omega] at e2
    refine e2.trans ?_
    have e3 := third_l2 l l1 a2 l3 a4 a5 a6 a7 k2 l.length (30000 - l.length - l.length - 1 - l.length - 1) 0 (List.replicate l.length 0) rfl (Nat.zero_le _) (by simp) (by simp)
    rw [show 30000 - l.length - l.length - 1 - l.length - 1 + l.length + 1 = 30000 - l.length - l.length - 1 by omega] at e3
    refine e3.trans ?_
    rw [third_end l l1 a2 l3 a4 a5 a6 a7 h _ (by omega)]
    exact part_j4 l1 a2 l3 a4 a5 a6 a7 h1 h3 _ (by omega)
theorem FnPairsChangeOfAll (l l1 : List Int) (a2 : Int) (l3 : List Int) (a4 a5 a6 a7 : Int) (_h0 : l.length ≤ 9223372036854775807) (_h1 : l1.length ≤ 9223372036854775807) (_h3 : l3.length ≤ 9223372036854775807) : ∃ k, laws_FnPairsChangeOfAll.f k l l1 a2 l3 a4 a5 a6 a7 = some true := by
  refine ⟨30001, ?_⟩
  unfold laws_FnPairsChangeOfAll.f
  have ht : laws_FnPairsChangeOfAll.j0 30001 l l1 a2 l3 a4 a5 a6 a7 true = some true := by
    rw [laws_FnPairsChangeOfAll.j0, if_pos rfl]
  by_cases c0 : (l.length : Int) > 10000
  · rw [if_pos c0]; exact ht
  · rw [if_neg c0]
    by_cases c1 : (l1.length : Int) > 10000
    · rw [if_pos c1]; exact ht
    · rw [if_neg c1]
      by_cases c3 : (l3.length : Int) > 10000
      · rw [decide_eq_true c3]; exact ht
      · rw [decide_eq_false c3]
        exact part_j0 l l1 a2 l3 a4 a5 a6 a7 (by omega) (by omega) (by omega)

end Go.Proofs.Ytmejodmokogblaa.Pure
