/- The lists that do not fall, in their order: what the printed functions that go on from one to the next come to.
   Conditions: stated with each. -/
import Derived.Test.YtmejodmokogblaaPureTripsTimeFp
import Derived.Test.YtmejodmokogblaaGFpx7
import Derived.Test.YtmejodmokogblaaGFpx8
import Derived.Test.YtmejodmokogblaaGFpx6
import Derived.Test.YtmejodmokogblaaGFpx1
namespace Go.Proofs.Ytmejodmokogblaa.Pure
open Go.RowKit Go.Proofs.Ytmejodmokogblaa.G Go.Proofs.YtmejodmokogblaaW.PrintWords

/-- The least number that may come next. -/
def low (l : List Int) : Nat := if l.length = 0 then 1 else (rd l ((l.length : Int) - 1)).toNat
/-- All lists that go on from one by d numbers, in order. -/
def allL (m : Nat) : Nat → List Int → List (List Int)
  | 0, l => [l]
  | d + 1, l => ((List.range' (low l) (m + 1 - low l)).map fun (x : Nat) => allL m d (l ++ [(x : Int)])).flatten
def OkL (m : Nat) (l : List Int) : Prop := ∀ x ∈ l, 1 ≤ x ∧ x ≤ (m : Int)
theorem okL_snoc {m x : Nat} {l : List Int} (h : OkL m l) (h1 : 1 ≤ x) (h2 : x ≤ m) : OkL m (l ++ [(x : Int)]) := fun y hy => by
  rcases List.mem_append.1 hy with hy | hy
  · exact h y hy
  · rw [List.mem_singleton.1 hy]
    omega
theorem low_in {m : Nat} {l : List Int} (h : OkL m l) (hm : 1 ≤ m) : 1 ≤ low l ∧ low l ≤ m := by
  unfold low
  by_cases h0 : l.length = 0
  · rw [if_pos h0]
    omega
  · rw [if_neg h0, show (l.length : Int) - 1 = ((l.length - 1 : Nat) : Int) by omega, rdn l (l.length - 1) (by omega)]
    have := h _ (List.getElem_mem (show l.length - 1 < l.length by omega))
    omega
theorem low_go {m : Nat} {l : List Int} (h : OkL m l) (hl : l.length < 1048576) : (if l.length = 0 then (1 : Int) else rd l (wrap64 ((l.length : Int) - 1))) = ((low l : Nat) : Int) := by
  unfold low
  by_cases h0 : l.length = 0
  · rw [if_pos h0, if_pos h0]
    rfl
  · rw [if_neg h0, if_neg h0, wadd (x := (l.length : Int) - 1) (by omega) (by omega), show (l.length : Int) - 1 = ((l.length - 1 : Nat) : Int) by omega, rdn l (l.length - 1) (by omega)]
    have := h _ (List.getElem_mem (show l.length - 1 < l.length by omega))
    omega
theorem allL_mem {m : Nat} (hm : 1 ≤ m) : ∀ (d : Nat) (l : List Int), OkL m l → ∀ y ∈ allL m d l, OkL m y ∧ y.length = l.length + d
  | 0, l, h, y, hy => by
    rw [allL, List.mem_singleton] at hy
    subst hy
    exact ⟨h, rfl⟩
  | d + 1, l, h, y, hy => by
    rw [allL, List.mem_flatten] at hy
    obtain ⟨ls, h1, h2⟩ := hy
    obtain ⟨x, hx, rfl⟩ := List.mem_map.1 h1
    have hx2 := List.mem_range'_1.1 hx
    have hlo := low_in h hm
    have h3 := allL_mem hm d (l ++ [(x : Int)]) (okL_snoc h (by omega) (by omega)) y h2
    refine ⟨h3.1, ?_⟩
    rw [h3.2, List.length_append]
    simp
    omega
theorem flat_le (n : Nat) : ∀ ls : List (List (List Int)), (∀ x ∈ ls, x.length ≤ n) → ls.flatten.length ≤ ls.length * n
  | [], _ => by simp
  | x :: ls, h => by
    have h1 := flat_le n ls (fun y hy => h y (List.mem_cons_of_mem _ hy))
    have h2 := h x List.mem_cons_self
    rw [List.flatten_cons, List.length_append, List.length_cons, Nat.succ_mul]
    omega
theorem allL_le {m : Nat} (hm : 1 ≤ m) : ∀ (d : Nat) (l : List Int), OkL m l → (allL m d l).length ≤ m ^ d
  | 0, l, _ => by simp [allL]
  | d + 1, l, h => by
    have hlo := low_in h hm
    rw [allL]
    refine Nat.le_trans (flat_le (m ^ d) _ fun x hx => ?_) ?_
    · obtain ⟨y, hy, rfl⟩ := List.mem_map.1 hx
      have hy2 := List.mem_range'_1.1 hy
      exact allL_le hm d _ (okL_snoc h (by omega) (by omega))
    · rw [List.length_map, List.length_range', Nat.pow_succ, Nat.mul_comm]
      exact Nat.mul_le_mul_left _ (by omega)
/-- Lists handed on with a state, as long as it is said to go on. -/
def run {σ : Type} (F : σ → List Int → Bool × σ) : List (List Int) → σ → Bool × σ
  | [], st => (true, st)
  | l :: ls, st => if (F st l).1 = true then run F ls (F st l).2 else (false, (F st l).2)
theorem run_append {σ : Type} (F : σ → List Int → Bool × σ) : ∀ (xs bs : List (List Int)) (st : σ), run F (xs ++ bs) st = if (run F xs st).1 = true then run F bs (run F xs st).2 else (false, (run F xs st).2)
  | [], bs, st => by simp [run]
  | a :: xs, bs, st => by
    rw [List.cons_append, run, run]
    by_cases h : (F st a).1 = true
    · rw [if_pos h, if_pos h]
      exact run_append F xs bs _
    · rw [if_neg h, if_neg h]
      simp
theorem run_one {σ : Type} (F : σ → List Int → Bool × σ) (l : List Int) (st : σ) : run F [l] st = F st l := by
  rw [run, run]
  obtain ⟨b, s⟩ := F st l
  cases b <;> rfl
theorem go_all {σ : Type} (E : σ → List Int → Option (Bool × σ)) (F : σ → List Int → Bool × σ) (people m : Nat) (hm : 1 ≤ m) (hm12 : m ≤ 12) (hp : people ≤ 4) (hE : ∀ st l, OkL m l → l.length = people → E st l = some (F st l)) :
    ∀ (d k : Nat) (st : σ) (l : List Int), OkL m l → l.length + d = people → 16 * d + 1 ≤ k → impl_notFalling.go E (people : Int) (m : Int) k none st l = some (run F (allL m d l) st)
  | 0, k, st, l, h, hl, hk => by
    obtain ⟨k, rfl⟩ : ∃ q, k = q + 1 := ⟨k - 1, by omega⟩
    rw [impl_notFalling.go, if_pos (by omega), hE st l h (by omega), allL, run_one]
  | d + 1, k, st, l, h, hl, hk => by
    obtain ⟨k, rfl⟩ : ∃ q, k = q + 1 := ⟨k - 1, by omega⟩
    have hlo := low_in h hm
    have loop : ∀ (c x k : Nat) (st : σ), x + c = m + 1 → 1 ≤ x → 16 * d + 1 + c + 1 ≤ k → impl_notFalling.go E (people : Int) (m : Int) k (some (x : Int)) st l = some (run F (((List.range' x c).map fun (x : Nat) => allL m d (l ++ [(x : Int)])).flatten) st) := by
      intro c
      induction c with
      | zero =>
        intro x k st hx h1 hk
        obtain ⟨k, rfl⟩ : ∃ q, k = q + 1 := ⟨k - 1, by omega⟩
        rw [impl_notFalling.go, if_neg (by omega)]
        rfl
      | succ c ih =>
        intro x k st hx h1 hk
        obtain ⟨k, rfl⟩ : ∃ q, k = q + 1 := ⟨k - 1, by omega⟩
        rw [impl_notFalling.go, if_pos (by omega), go_all E F people m hm hm12 hp hE d k st (l ++ [(x : Int)]) (okL_snoc h h1 (by omega)) (by simp; omega) (by omega), bindsome, List.range'_succ, List.map_cons, List.flatten_cons, run_append, wnat (show x < 100 by omega) (by omega)]
        by_cases hb : (run F (allL m d (l ++ [(x : Int)])) st).1 = true
        · rw [if_pos hb, if_pos hb]
          exact ih (x + 1) k _ (by omega) (by omega) (by omega)
        · rw [if_neg hb, if_neg hb]
    rw [impl_notFalling.go, if_neg (by omega), if_pos (by omega), low_go h (by omega), allL]
    exact loop (m + 1 - low l) (low l) k st (by omega) hlo.1 (by omega)
theorem isTimes_ok {m : Nat} {l : List Int} (h : OkL m l) (h12 : m ≤ 12) (h1 : 1 ≤ l.length) (h2 : l.length ≤ 12) : isTimes l = true := by
  unfold isTimes
  rw [Bool.and_eq_true, decide_eq_true_eq, List.all_eq_true]
  refine ⟨⟨h1, h2⟩, fun x hx => ?_⟩
  have := h x hx
  rw [Bool.and_eq_true, decide_eq_true_eq, decide_eq_true_eq]
  omega
open Classical in
/-- The least time of a list of times. -/
noncomputable def pt (l : List Int) : Int := if h : isTimes l = true then (timeBoth l h).choose else 0
theorem pt_ev (l : List Int) (h : isTimes l = true) (k : Nat) (hk : 300 < k) : spec_prTime.f k l = some (pt l) ∧ impl_pairTime.f k l = some (pt l) := by
  unfold pt
  rw [dif_pos h]
  exact (timeBoth l h).choose_spec.2 k hk
/-- A list has a time. -/
noncomputable def hits (total : Int) (l : List Int) : Bool := pt l == total
theorem prGo (k0 people m : Nat) (total : Int) (hm : 1 ≤ m) (hm12 : m ≤ 12) (hp1 : 1 ≤ people) (hp : people ≤ 4) (hk0 : 300 < k0) :
    ∀ (d k : Nat) (st : List (List Int)) (l : List Int), OkL m l → l.length + d = people → 16 * d + 1 ≤ k → st.length + m ^ d ≤ 1048576 → spec_prLists.go k0 (people : Int) (m : Int) total k none st l = some (st ++ (allL m d l).filter (hits total))
  | 0, k, st, l, h, hl, hk, hs => by
    obtain ⟨k, rfl⟩ : ∃ q, k = q + 1 := ⟨k - 1, by omega⟩
    rw [spec_prLists.go, if_pos (by omega), if_pos (by omega), (pt_ev l (isTimes_ok h hm12 (by omega) (by omega)) k0 hk0).1, bindsome, allL]
    rw [Nat.pow_zero] at hs
    by_cases ht : pt l = total
    · rw [if_pos ht, if_pos (by omega), List.filter_cons_of_pos (by unfold hits; simpa using ht)]
      rfl
    · rw [if_neg ht, List.filter_cons_of_neg (by unfold hits; simpa using ht)]
      simp
  | d + 1, k, st, l, h, hl, hk, hs => by
    obtain ⟨k, rfl⟩ : ∃ q, k = q + 1 := ⟨k - 1, by omega⟩
    have hlo := low_in h hm
    have loop : ∀ (c x k : Nat) (st : List (List Int)), x + c = m + 1 → 1 ≤ x → 16 * d + 1 + c + 1 ≤ k → st.length + c * m ^ d ≤ 1048576 → spec_prLists.go k0 (people : Int) (m : Int) total k (some (x : Int)) st l = some (st ++ (((List.range' x c).map fun (x : Nat) => allL m d (l ++ [(x : Int)])).flatten).filter (hits total)) := by
      intro c
      induction c with
      | zero =>
        intro x k st hx h1 hk hs
        obtain ⟨k, rfl⟩ : ∃ q, k = q + 1 := ⟨k - 1, by omega⟩
        rw [spec_prLists.go, if_neg (by omega)]
        simp
      | succ c ih =>
        intro x k st hx h1 hk hs
        obtain ⟨k, rfl⟩ : ∃ q, k = q + 1 := ⟨k - 1, by omega⟩
        rw [Nat.succ_mul] at hs
        have hle := allL_le hm d (l ++ [(x : Int)]) (okL_snoc h h1 (by omega))
        have hfl := List.length_filter_le (hits total) (allL m d (l ++ [(x : Int)]))
        rw [spec_prLists.go, if_pos (by omega), prGo k0 people m total hm hm12 hp1 hp hk0 d k st (l ++ [(x : Int)]) (okL_snoc h h1 (by omega)) (by simp; omega) (by omega) (by omega), bindsome, List.range'_succ, List.map_cons, List.flatten_cons, List.filter_append, wnat (show x < 100 by omega) (by omega), ← List.append_assoc]
        exact ih (x + 1) k _ (by omega) (by omega) (by omega) (by rw [List.length_append]; omega)
    rw [spec_prLists.go, if_pos (by omega), if_neg (by omega), low_go h (by omega), allL]
    refine loop (m + 1 - low l) (low l) k st (by omega) hlo.1 (by omega) ?_
    rw [Nat.pow_succ, Nat.mul_comm] at hs
    have := Nat.mul_le_mul_right (m ^ d) (show m + 1 - low l ≤ m by omega)
    omega
theorem pow_le (m : Nat) (hm : m ≤ 12) (d : Nat) (hd : d ≤ 4) : m ^ d ≤ 20736 :=
  Nat.le_trans (Nat.pow_le_pow_left hm d) (Nat.le_trans (Nat.pow_le_pow_right (by omega) hd) (by decide))
/-- The lists with a time. -/
noncomputable def found (people m : Nat) (total : Int) : List (List Int) := (allL m people []).filter (hits total)
theorem found_le (people m : Nat) (total : Int) (hm : 1 ≤ m) (hm12 : m ≤ 12) (hp : people ≤ 4) : (found people m total).length ≤ 20736 := by
  unfold found
  exact Nat.le_trans (List.length_filter_le _ _) (Nat.le_trans (allL_le hm people [] (fun x hx => by simp at hx)) (pow_le m hm12 people hp))
theorem found_mem (people m : Nat) (total : Int) (hm : 1 ≤ m) (l : List Int) (h : l ∈ found people m total) : OkL m l ∧ l.length = people ∧ pt l = total := by
  unfold found at h
  obtain ⟨h1, h2⟩ := List.mem_filter.1 h
  have h3 := allL_mem hm people [] (fun x hx => by simp at hx) l h1
  exact ⟨h3.1, by simpa using h3.2, by unfold hits at h2; simpa using h2⟩
theorem run_count (k : Nat) (total : Int) : ∀ (ls : List (List Int)) (n : Nat), n + ls.length ≤ 1048576 → run (fun (st : Int) l => (true, wrap64 (st + (if hits total l = true then 1 else 0)))) ls (n : Int) = (true, ((n + (ls.filter (hits total)).length : Nat) : Int))
  | [], n, _ => rfl
  | l :: ls, n, h => by
    rw [List.length_cons] at h
    rw [run, if_pos rfl]
    by_cases c : hits total l = true
    · rw [List.filter_cons_of_pos c, if_pos c, wnat (show n < 2000000 by omega) (by omega), run_count k total ls (n + 1) (by omega), List.length_cons]
      congr 2
      omega
    · rw [List.filter_cons_of_neg c, if_neg c, wadd (x := (n : Int) + 0) (by omega) (by omega), show (n : Int) + 0 = (n : Int) by omega, run_count k total ls n (by omega)]
theorem run_first (total : Int) : ∀ (ls : List (List Int)), run (fun (st : Option (List Int)) l => if hits total l = true then (false, some l) else (decide (st = none), st)) ls none = (((ls.filter (hits total)).head?).isNone, (ls.filter (hits total)).head?)
  | [] => rfl
  | l :: ls => by
    rw [run]
    by_cases c : hits total l = true
    · rw [List.filter_cons_of_pos c, if_pos c]
      rfl
    · rw [List.filter_cons_of_neg c, if_neg c, if_pos (by simp)]
      exact run_first total ls
/-- Numbers that ask for lists may be. -/
def asked (a0 a1 a2 : Int) : Bool := (decide (1 ≤ a0) && decide (a0 ≤ 4)) && ((decide (1 ≤ a1) && decide (a1 ≤ 12)) && (decide (0 ≤ a2) && decide (a2 ≤ 1000)))
theorem isAsked_ev (a0 a1 a2 : Int) : impl_isAsked.f a0 a1 a2 = some (asked a0 a1 a2) := by
  unfold impl_isAsked.f asked
  rw [in_ev, bindsome, in_ev, bindsome, in_ev, bindsome]
  cases (decide (1 ≤ a0) && decide (a0 ≤ 4)) <;> cases (decide (1 ≤ a1) && decide (a1 ≤ 12)) <;> rfl
theorem prAsked_ev (a0 a1 a2 : Int) : spec_prAsked.f a0 a1 a2 = some (asked a0 a1 a2) := by
  unfold spec_prAsked.f asked
  rw [l1In_ev, bindsome, l1In_ev, bindsome, l1In_ev, bindsome]
  cases (decide (1 ≤ a0) && decide (a0 ≤ 4)) <;> cases (decide (1 ≤ a1) && decide (a1 ≤ 12)) <;> rfl
theorem asked_out {a0 a1 a2 : Int} (h : asked a0 a1 a2 = true) : ∃ people m : Nat, a0 = (people : Int) ∧ a1 = (m : Int) ∧ 1 ≤ people ∧ people ≤ 4 ∧ 1 ≤ m ∧ m ≤ 12 ∧ 0 ≤ a2 ∧ a2 ≤ 1000 := by
  unfold asked at h
  simp only [Bool.and_eq_true, decide_eq_true_eq] at h
  exact ⟨a0.toNat, a1.toNat, by omega, by omega, by omega, by omega, by omega, by omega, by omega, by omega⟩
noncomputable def countL (a0 a1 a2 : Int) : Int × Bool := if asked a0 a1 a2 = true then (((found a0.toNat a1.toNat a2).length : Int), true) else (0, false)
noncomputable def firstL (a0 a1 a2 : Int) : List Int × Bool := if asked a0 a1 a2 = true then (((found a0.toNat a1.toNat a2).head?).getD [], ((found a0.toNat a1.toNat a2).head?).isSome) else ([], false)
theorem specCount_ev (a0 a1 a2 : Int) (k : Nat) (hk : 300 < k) : spec_CountPairLists.f k a0 a1 a2 = some (countL a0 a1 a2) := by
  unfold spec_CountPairLists.f countL
  rw [prAsked_ev, bindsome]
  cases h : asked a0 a1 a2
  · rfl
  · obtain ⟨people, m, rfl, rfl, h1, h2, h3, h4, h5, h6⟩ := asked_out h
    rw [if_pos rfl, if_pos rfl, prGo k people m a2 h3 h4 h1 h2 hk people k [] [] (fun x hx => by simp at hx) (by simp) (by omega) (by have := pow_le m h4 people h2; simp; omega), bindsome, List.nil_append, Int.toNat_natCast, Int.toNat_natCast]
    rfl
theorem specFirst_ev (a0 a1 a2 : Int) (k : Nat) (hk : 300 < k) : spec_FirstPairList.f k a0 a1 a2 = some (firstL a0 a1 a2) := by
  unfold spec_FirstPairList.f firstL
  rw [prAsked_ev, bindsome]
  cases h : asked a0 a1 a2
  · rfl
  · obtain ⟨people, m, rfl, rfl, h1, h2, h3, h4, h5, h6⟩ := asked_out h
    rw [if_pos rfl, if_pos rfl, prGo k people m a2 h3 h4 h1 h2 hk people k [] [] (fun x hx => by simp at hx) (by simp) (by omega) (by have := pow_le m h4 people h2; simp; omega), bindsome, List.nil_append, Int.toNat_natCast, Int.toNat_natCast]
    show (if (found people m a2).length = 0 then _ else some ((found people m a2).getD 0 [], true)) = _
    cases (found people m a2) with
    | nil => rfl
    | cons x t => rfl
theorem implCount_ev (a0 a1 a2 : Int) (k : Nat) (hk : 300 < k) : impl_CountPairLists.f k a0 a1 a2 = some (countL a0 a1 a2) := by
  unfold impl_CountPairLists.f countL
  rw [isAsked_ev, bindsome]
  cases h : asked a0 a1 a2
  · rfl
  · obtain ⟨people, m, rfl, rfl, h1, h2, h3, h4, h5, h6⟩ := asked_out h
    have hle := allL_le h3 people [] (fun x hx => by simp at hx)
    have hpw := pow_le m h4 people h2
    have hr := run_count k a2 (allL m people []) 0 (by omega)
    rw [if_pos rfl, if_pos rfl, go_all (impl_CountPairLists.E k a2) (fun (st : Int) l => (true, wrap64 (st + (if hits a2 l = true then 1 else 0)))) people m h3 h4 h2 (fun st l hl hp => by
      unfold impl_CountPairLists.E
      rw [(pt_ev l (isTimes_ok hl h4 (by omega) (by omega)) k hk).2, bindsome]
      rfl) people k 0 [] (fun x hx => by simp at hx) (by simp) (by omega), bindsome, Int.toNat_natCast, Int.toNat_natCast]
    rw [show ((0 : Nat) : Int) = 0 from rfl, Nat.zero_add] at hr
    rw [hr]
    rfl
theorem implFirst_ev (a0 a1 a2 : Int) (k : Nat) (hk : 300 < k) : impl_FirstPairList.f k a0 a1 a2 = some (firstL a0 a1 a2) := by
  unfold impl_FirstPairList.f firstL
  rw [isAsked_ev, bindsome]
  cases h : asked a0 a1 a2
  · rfl
  · obtain ⟨people, m, rfl, rfl, h1, h2, h3, h4, h5, h6⟩ := asked_out h
    have hr := run_first a2 (allL m people [])
    rw [if_pos rfl, if_pos rfl, go_all (impl_FirstPairList.E k a2) (fun (st : Option (List Int)) l => if hits a2 l = true then (false, some l) else (decide (st = none), st)) people m h3 h4 h2 (fun st l hl hp => by
      unfold impl_FirstPairList.E
      rw [if_pos (by omega), (pt_ev l (isTimes_ok hl h4 (by omega) (by omega)) k hk).2, bindsome]
      unfold hits
      by_cases ht : pt l = a2
      · rw [if_pos ht, if_pos (by simpa using ht)]
      · rw [if_neg ht, if_neg (by simpa using ht)]) people k none [] (fun x hx => by simp at hx) (by simp) (by omega), bindsome, Int.toNat_natCast, Int.toNat_natCast, hr]
    rfl
theorem firstL_len (a0 a1 a2 : Int) : (firstL a0 a1 a2).1.length ≤ 4 := by
  unfold firstL
  cases h : asked a0 a1 a2
  · simp
  · obtain ⟨people, m, rfl, rfl, h1, h2, h3, h4, h5, h6⟩ := asked_out h
    rw [if_pos rfl, Int.toNat_natCast, Int.toNat_natCast]
    cases hf : (found people m a2) with
    | nil => simp
    | cons x t =>
      have := found_mem people m a2 h3 x (by rw [hf]; exact List.mem_cons_self)
      simp
      omega

end Go.Proofs.Ytmejodmokogblaa.Pure
