/- The time of the trips of two at once: what both functions tell.
   Conditions: stated with each. -/
import Derived.Test.YtmejodmokogblaaPureTripsFp
import Derived.Test.YtmejodmokogblaaPureIntFp
import Derived.Test.YtmejodmokogblaaGFpx5
namespace Go.Proofs.Ytmejodmokogblaa.Pure
open Go.RowKit Go.Proofs.Ytmejodmokogblaa.G Go.Proofs.YtmejodmokogblaaW.PrintWords

/-- The slowest of the people of a list. -/
def slowT (t : List Int) (m : Int) (l : List Int) : Int := l.foldl (fun m k => mx m (rd t k)) m
theorem l1Most_ev (a b : Int) : spec_l1Most.f a b = some (mx a b) := by
  unfold spec_l1Most.f mx
  by_cases h : a > b
  · rw [if_pos h]; congr 1; omega
  · rw [if_neg h]; congr 1; omega
theorem valid_at {l : List Int} {n : Nat} (h : ∀ x ∈ l, 0 ≤ x ∧ x < (n : Int)) (i : Nat) (hi : i < l.length) : 0 ≤ l[i] ∧ l[i] < (n : Int) := h _ (List.getElem_mem hi)
theorem paTime_l0 (t : List Int) (s : Int) (l : List Int) (hl : l.length ≤ 1048576) (hv : ∀ x ∈ l, 0 ≤ x ∧ x < (t.length : Int)) (d : Nat) : ∀ (k i : Nat) (m : Int), l.length - i = d → i ≤ l.length → d < k → spec_paTime.l0 k m l (l.length : Int) (i : Int) t s = some (slowT t m (l.drop i)) := by
  induction d with
  | zero =>
    intro k i m hd hi hk
    obtain ⟨k, rfl⟩ : ∃ q, k = q + 1 := ⟨k - 1, by omega⟩
    simp only [spec_paTime.l0]
    rw [if_neg (by omega), List.drop_eq_nil_of_le (by omega)]
    rfl
  | succ d ih =>
    intro k i m hd hi hk
    obtain ⟨k, rfl⟩ : ∃ q, k = q + 1 := ⟨k - 1, by omega⟩
    have hlt : i < l.length := by omega
    have hx := valid_at hv i hlt
    simp only [spec_paTime.l0]
    rw [if_pos (by omega), if_pos (by omega), if_pos (by omega), wnat hlt (by omega), rdn l i hlt, if_pos hx.1, if_pos hx.2, l1Most_ev, bindsome, ih k (i + 1) _ (by omega) (by omega) (by omega), drop_cons l i hlt]
    rfl
theorem paTime_ev (t : List Int) (s : Int) (l : List Int) (hl : l.length ≤ 1048576) (hv : ∀ x ∈ l, 0 ≤ x ∧ x < (t.length : Int)) (k : Nat) (hk : l.length < k) : spec_paTime.f k t s l = some (slowT t 0 l) := by
  unfold spec_paTime.f
  exact paTime_l0 t s l hl hv l.length k 0 0 rfl (Nat.zero_le _) hk
theorem slowest_l0 (t l : List Int) (hl : l.length ≤ 1048576) (hv : ∀ x ∈ l, 0 ≤ x ∧ x < (t.length : Int)) (d : Nat) : ∀ (k i : Nat) (m : Int), l.length - i = d → i ≤ l.length → d < k → impl_slowest.l0 k t m l (l.length : Int) (i : Int) = some (slowT t m (l.drop i)) := by
  induction d with
  | zero =>
    intro k i m hd hi hk
    obtain ⟨k, rfl⟩ : ∃ q, k = q + 1 := ⟨k - 1, by omega⟩
    simp only [impl_slowest.l0]
    rw [if_neg (by omega), List.drop_eq_nil_of_le (by omega)]
    rfl
  | succ d ih =>
    intro k i m hd hi hk
    obtain ⟨k, rfl⟩ : ∃ q, k = q + 1 := ⟨k - 1, by omega⟩
    have hlt : i < l.length := by omega
    have hx := valid_at hv i hlt
    simp only [impl_slowest.l0]
    rw [if_pos (by omega), if_pos (by omega), if_pos (by omega), wnat hlt (by omega), rdn l i hlt, if_pos hx.1, if_pos hx.2, ih k (i + 1) _ (by omega) (by omega) (by omega), drop_cons l i hlt]
    rfl
theorem slowest_ev (t l : List Int) (hl : l.length ≤ 1048576) (hv : ∀ x ∈ l, 0 ≤ x ∧ x < (t.length : Int)) (k : Nat) (hk : l.length < k) : impl_slowest.f k t l = some (slowT t 0 l) := by
  unfold impl_slowest.f
  exact slowest_l0 t l hl hv l.length k 0 0 rfl (Nat.zero_le _) hk
/-- The time of trips. -/
def sumT (t : List Int) (m : Int) (ls : List (List Int)) : Int := ls.foldl (fun m tr => wrap64 (m + slowT t 0 tr)) m
theorem rdL (ls : List (List Int)) (i : Nat) (h : i < ls.length) : rd_L1 ls (i : Int) = ls[i] := by
  unfold rd_L1
  simp [h]
theorem paSum_l0 (t : List Int) (s : Int) (ls : List (List Int)) (hl : ls.length ≤ 1048576) (hv : ∀ x ∈ ls, tripOk t.length x) (d : Nat) : ∀ (k i : Nat) (m : Int), ls.length - i = d → i ≤ ls.length → d + 10 < k → spec_paSum.l0 k m ls (ls.length : Int) (i : Int) t s = some (sumT t m (ls.drop i)) := by
  induction d with
  | zero =>
    intro k i m hd hi hk
    obtain ⟨k, rfl⟩ : ∃ q, k = q + 1 := ⟨k - 1, by omega⟩
    simp only [spec_paSum.l0]
    rw [if_neg (by omega), List.drop_eq_nil_of_le (by omega)]
    rfl
  | succ d ih =>
    intro k i m hd hi hk
    obtain ⟨k, rfl⟩ : ∃ q, k = q + 1 := ⟨k - 1, by omega⟩
    have hlt : i < ls.length := by omega
    obtain ⟨h1, h2, h3⟩ := hv _ (List.getElem_mem hlt)
    simp only [spec_paSum.l0]
    rw [if_pos (by omega), if_pos (by omega), if_pos (by omega), wnat hlt (by omega), rdL ls i hlt, paTime_ev t s _ (by omega) h3 k (by omega), bindsome, ih k (i + 1) _ (by omega) (by omega) (by omega), drop_cons ls i hlt]
    rfl
theorem prSum_ev (t : List Int) (ls : List (List Int)) (hl : ls.length ≤ 1048576) (hv : ∀ x ∈ ls, tripOk t.length x) (k : Nat) (hk : ls.length + 10 < k) : spec_prSum.f k t ls = some (sumT t 0 ls) := by
  unfold spec_prSum.f spec_paSum.f
  have h := paSum_l0 t 0 ls hl hv ls.length k 0 0 rfl (Nat.zero_le _) hk
  rw [show ((0 : Nat) : Int) = 0 from rfl] at h
  rw [h]
  rfl
theorem crossing_l0 (t : List Int) (ls : List (List Int)) (hl : ls.length ≤ 1048576) (hv : ∀ x ∈ ls, tripOk t.length x) (d : Nat) : ∀ (k i : Nat) (m : Int), ls.length - i = d → i ≤ ls.length → d + 10 < k → impl_crossing_time.l0 k t m ls (ls.length : Int) (i : Int) = some (sumT t m (ls.drop i)) := by
  induction d with
  | zero =>
    intro k i m hd hi hk
    obtain ⟨k, rfl⟩ : ∃ q, k = q + 1 := ⟨k - 1, by omega⟩
    simp only [impl_crossing_time.l0]
    rw [if_neg (by omega), List.drop_eq_nil_of_le (by omega)]
    rfl
  | succ d ih =>
    intro k i m hd hi hk
    obtain ⟨k, rfl⟩ : ∃ q, k = q + 1 := ⟨k - 1, by omega⟩
    have hlt : i < ls.length := by omega
    obtain ⟨h1, h2, h3⟩ := hv _ (List.getElem_mem hlt)
    simp only [impl_crossing_time.l0]
    rw [if_pos (by omega), if_pos (by omega), if_pos (by omega), wnat hlt (by omega), rdL ls i hlt, slowest_ev t _ (by omega) h3 k (by omega), bindsome, ih k (i + 1) _ (by omega) (by omega) (by omega), drop_cons ls i hlt]
    rfl
theorem crossing_ev (t : List Int) (ls : List (List Int)) (s : ByteArray) (b : Bool) (hl : ls.length ≤ 1048576) (hv : ∀ x ∈ ls, tripOk t.length x) (k : Nat) (hk : ls.length + 10 < k) : impl_crossing_time.f k ls s b t = some (sumT t 0 ls) := by
  unfold impl_crossing_time.f
  exact crossing_l0 t ls hl hv ls.length k 0 0 rfl (Nat.zero_le _) hk
theorem slowT_in {t : List Int} (ht : ∀ x ∈ t, 1 ≤ x ∧ x ≤ 1000) : ∀ (l : List Int) (m : Int), 0 ≤ m ∧ m ≤ 1000 → (∀ x ∈ l, 0 ≤ x ∧ x < (t.length : Int)) → 0 ≤ slowT t m l ∧ slowT t m l ≤ 1000 := by
  intro l
  induction l with
  | nil => intro m hm _; exact hm
  | cons a l ih =>
    intro m hm hv
    have ha := hv a (List.mem_cons_self ..)
    have hr := impl_cross.rd_mem ht a ha.1 ha.2
    refine ih (mx m (rd t a)) ?_ (fun x hx => hv x (List.mem_cons_of_mem _ hx))
    unfold mx
    split <;> omega
theorem sumT_in {t : List Int} (ht : ∀ x ∈ t, 1 ≤ x ∧ x ≤ 1000) : ∀ (ls : List (List Int)) (m : Int) (n : Nat), 0 ≤ m ∧ m ≤ 1000 * (n : Int) → n + ls.length ≤ 1000 → (∀ x ∈ ls, tripOk t.length x) → 0 ≤ sumT t m ls ∧ sumT t m ls ≤ 1000 * ((n + ls.length : Nat) : Int) := by
  intro ls
  induction ls with
  | nil => intro m n hm _ _; exact hm
  | cons a ls ih =>
    intro m n hm hn hv
    have ha := slowT_in ht a 0 ⟨by omega, by omega⟩ (hv a (List.mem_cons_self ..)).2.2
    rw [List.length_cons] at hn
    have hw : wrap64 (m + slowT t 0 a) = m + slowT t 0 a := wadd (by omega) (by omega)
    have h := ih (m + slowT t 0 a) (n + 1) ⟨by omega, by omega⟩ (by omega) (fun x hx => hv x (List.mem_cons_of_mem _ hx))
    show 0 ≤ sumT t (wrap64 (m + slowT t 0 a)) ls ∧ sumT t (wrap64 (m + slowT t 0 a)) ls ≤ _
    rw [hw, List.length_cons]
    refine ⟨h.1, ?_⟩
    have := h.2
    omega
/-- The least time, as both functions tell it. -/
theorem timeBoth (l : List Int) (h : isTimes l = true) : ∃ v : Int, (0 ≤ v ∧ v ≤ 24000) ∧ ∀ k, 300 < k → spec_prTime.f k l = some v ∧ impl_pairTime.f k l = some v := by
  obtain ⟨r, h1, h2, h3, _, h5, _⟩ := trips l false h
  have hb := sumT_in (isTimes_out h).2.2 r.1 0 0 ⟨by omega, by omega⟩ (by omega) h5
  refine ⟨sumT l 0 r.1, ⟨hb.1, by omega⟩, fun k hk => ⟨?_, ?_⟩⟩
  · unfold spec_prTime.f
    rw [h1 k hk, bindsome, prSum_ev l r.1 (by omega) h5 k (by omega), bindsome]
  · unfold impl_pairTime.f
    rw [h2 k hk, bindsome, crossing_ev l r.1 r.2.1 r.2.2 (by omega) h5 k (by omega), bindsome]

end Go.Proofs.Ytmejodmokogblaa.Pure
