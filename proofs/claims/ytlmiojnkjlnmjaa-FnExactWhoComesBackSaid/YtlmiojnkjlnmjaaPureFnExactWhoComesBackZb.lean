/- The law FnExactWhoComesBack returns true for all arguments: both functions tell who comes back, in memory of its own, or nothing; the copies stay.
   Conditions: the list is no longer than any Go slice. -/
import Derived.Test.YtlmiojnkjlnmjaaPureTripsZb
import Derived.Test.YtlmiojnkjlnmjaaPureIntMarkZb
import Derived.Test.YtlmiojnkjlnmjaaGZbx2
import Derived.Test.YtlmiojnkjlnmjaaGZbx5
namespace Go.Proofs.Ytlmiojnkjlnmjaa.Pure
open Go.RowKit Go.Proofs.Ytlmiojnkjlnmjaa.G Go.Proofs.YtlmiojnkjlnmjaaW.PrintWords

theorem rdL (ls : List (List Int)) (i : Nat) (h : i < ls.length) : rd_L1 ls (i : Int) = ls[i] := by
  unfold rd_L1
  simp [h]
/-- From index i on, d trips: the people of every second one. -/
def backs (ls : List (List Int)) : Nat → Nat → List Int
  | 0, _ => []
  | d + 1, i => (if i % 2 = 1 then rd_L1 ls (i : Int) else []) ++ backs ls d (i + 1)
theorem backs_odd {ls : List (List Int)} {d i : Nat} (h : i % 2 = 1) : backs ls (d + 1) i = rd_L1 ls (i : Int) ++ backs ls d (i + 1) := by
  show (if i % 2 = 1 then rd_L1 ls (i : Int) else []) ++ backs ls d (i + 1) = _
  rw [if_pos h]
theorem backs_even {ls : List (List Int)} {d i : Nat} (h : ¬ i % 2 = 1) : backs ls (d + 1) i = backs ls d (i + 1) := by
  show (if i % 2 = 1 then rd_L1 ls (i : Int) else []) ++ backs ls d (i + 1) = _
  rw [if_neg h]
  rfl
theorem one_rd {t : List Int} (h : t.length = 1) : t = [rd t 0] := by
  match t, h with
  | [a], _ => rfl
theorem specBacks (ls : List (List Int)) (ha : Alt ls) (hl : ls.length ≤ 24) (d : Nat) : ∀ (k i : Nat) (out : List Int), ls.length - i = d → i % 2 = 1 → i ≤ 30 → out.length ≤ i → d < k → spec_WhoComesBack.l0 k ls out (i : Int) = some (out ++ backs ls d i, true) := by
  induction d using Nat.strongRecOn with
  | ind d ih =>
    intro k i out hd hi hi2 ho hk
    obtain ⟨k, rfl⟩ : ∃ q, k = q + 1 := ⟨k - 1, by omega⟩
    simp only [spec_WhoComesBack.l0]
    by_cases c : i < ls.length
    · have h1 : (rd_L1 ls (i : Int)).length = 1 := by rw [rdL ls i c]; exact ha i c hi
      rw [if_pos (by omega), if_pos (by omega), if_pos (by omega), if_pos (by omega), wadd (x := (i : Int) + 2) (by omega) (by omega), show (i : Int) + 2 = ((i + 2 : Nat) : Int) by omega]
      rw [ih (d - 2) (by omega) k (i + 2) _ (by omega) (by omega) (by omega) (by simp; omega) (by omega), ← one_rd h1, List.append_assoc]
      obtain ⟨d, rfl⟩ : ∃ q, d = q + 1 := ⟨d - 1, by omega⟩
      rw [backs_odd hi]
      cases d with
      | zero => rfl
      | succ d => rw [backs_even (by omega)]; rfl
    · have e : d = 0 := by omega
      subst e
      rw [if_neg (by omega)]
      simp [backs]
theorem implBacks (ls : List (List Int)) (ha : Alt ls) (hl : ls.length ≤ 24) (d : Nat) : ∀ (k i : Nat) (out : List Int), ls.length - i = d → i ≤ ls.length → out.length ≤ i → d < k → impl_WhoComesBack.l0 k out ls (ls.length : Int) (i : Int) = some (out ++ backs ls d i, true) := by
  induction d with
  | zero =>
    intro k i out hd hi ho hk
    obtain ⟨k, rfl⟩ : ∃ q, k = q + 1 := ⟨k - 1, by omega⟩
    simp only [impl_WhoComesBack.l0]
    rw [if_neg (by omega)]
    simp [backs]
  | succ d ih =>
    intro k i out hd hi ho hk
    obtain ⟨k, rfl⟩ : ∃ q, k = q + 1 := ⟨k - 1, by omega⟩
    have c : i < ls.length := by omega
    simp only [impl_WhoComesBack.l0]
    rw [if_pos (by omega), if_pos (by omega), if_pos (by omega), wnat c (by omega)]
    have ht : Int.tmod (i : Int) 2 = ((i % 2 : Nat) : Int) := by
      rw [Int.tmod_eq_emod_of_nonneg (by omega)]
      omega
    rw [ht]
    by_cases c2 : i % 2 = 1
    · have h1 : (rd_L1 ls (i : Int)).length = 1 := by rw [rdL ls i c]; exact ha i c c2
      rw [if_pos (by omega), if_pos (by omega), ih k (i + 1) _ (by omega) (by omega) (by simp; omega) (by omega), backs_odd c2, List.append_assoc]
    · rw [if_neg (by omega), ih k (i + 1) _ (by omega) (by omega) (by omega) (by omega), backs_even c2]
theorem backs_len (ls : List (List Int)) (ha : Alt ls) (d : Nat) : ∀ (i : Nat), ls.length - i = d → i ≤ ls.length → (backs ls d i).length ≤ d := by
  induction d with
  | zero => intro i _ _; simp [backs]
  | succ d ih =>
    intro i hd hi
    have h := ih (i + 1) (by omega) (by omega)
    by_cases c2 : i % 2 = 1
    · have h1 : (rd_L1 ls (i : Int)).length = 1 := by rw [rdL ls i (by omega)]; exact ha i (by omega) c2
      rw [backs_odd c2, List.length_append]
      omega
    · rw [backs_even c2]
      omega
theorem whoBoth (l : List Int) (hl : l.length ≤ 1048576) : ∃ r : List Int × Bool, r.1.length ≤ 24 ∧ ∀ k, l.length + 400 < k → spec_WhoComesBack.f k l = some r ∧ impl_WhoComesBack.f k l = some r := by
  cases h : isTimes l
  · refine ⟨([], false), by simp, fun k hk => ?_⟩
    unfold spec_WhoComesBack.f impl_WhoComesBack.f
    rw [prGood_ev l hl k (by omega), bindsome, isTimes_ev, bindsome, h]
    exact ⟨rfl, rfl⟩
  · obtain ⟨r, h1, h2, h3, _, _, h6, _⟩ := trips l false h
    have hs : ∀ k, 400 < k → spec_WhoComesBack.l0 k r.1 [] 1 = some (backs r.1 (r.1.length - 1) 1, true) := fun k hk => by
      have := specBacks r.1 h6 h3 (r.1.length - 1) k 1 [] rfl rfl (by omega) (by simp) (by omega)
      simpa using this
    have hi : ∀ k, 400 < k → impl_WhoComesBack.l0 k [] r.1 (r.1.length : Int) 0 = some (backs r.1 r.1.length 0, true) := fun k hk => by
      have := implBacks r.1 h6 h3 r.1.length k 0 [] rfl (by omega) (by simp) (by omega)
      simpa using this
    have he : backs r.1 r.1.length 0 = backs r.1 (r.1.length - 1) 1 := by
      cases hn : r.1.length with
      | zero => rfl
      | succ n => rw [backs_even (by decide)]; rfl
    refine ⟨(backs r.1 r.1.length 0, true), ?_, fun k hk => ?_⟩
    · have := backs_len r.1 h6 r.1.length 0 (by omega) (by omega)
      show (backs r.1 r.1.length 0).length ≤ 24
      omega
    · unfold spec_WhoComesBack.f impl_WhoComesBack.f
      rw [prGood_ev l hl k (by omega), bindsome, isTimes_ev, bindsome, h, if_pos rfl, if_pos rfl, h1 k (by omega), h2 k (by omega), bindsome, bindsome, hs k (by omega), hi k (by omega), he]
      exact ⟨rfl, rfl⟩
theorem FnExactWhoComesBack (l : List Int) (h : l.length ≤ 9223372036854775807) : ∃ k, laws_FnExactWhoComesBack.f k l = some true := by
  refine ⟨l.length + 500, ?_⟩
  generalize hk : l.length + 500 = k
  unfold laws_FnExactWhoComesBack.f
  by_cases c : (l.length : Int) > 1048576
  · rw [if_pos c]
  · rw [if_neg c]
    have e1 := toIntS_ev l (by omega) k (by omega)
    obtain ⟨⟨r1, r2⟩, hr, hb⟩ := whoBoth l (by omega)
    obtain ⟨e2, e3⟩ := hb k (by omega)
    simp only at hr
    have e4 := eqIntS_ev r1 r1 (by omega) k (by omega)
    have e5 := eqIntS_ev l l (by omega) k (by omega)
    have e6 := markIntS_ev l 1 (by omega) (by omega) k (by omega)
    have e7 := markIntS_ev r1 1 (by omega) (by omega) k (by omega)
    have e8 := heldIntS_ev r1.length 1 (by omega) (by omega) k (by omega)
    have n1 : ¬ (1 + (l.length : Int) < 0) := by omega
    have n2 : ¬ (1 + (r1.length : Int) < 0) := by omega
    simp only [e1, e2, e3, e4, e5, e6, e7, e8, bindsome, n1, n2, if_false]
    simp

end Go.Proofs.Ytlmiojnkjlnmjaa.Pure
