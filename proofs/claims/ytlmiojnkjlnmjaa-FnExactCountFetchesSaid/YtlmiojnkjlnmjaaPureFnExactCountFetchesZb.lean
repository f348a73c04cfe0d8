/- The law FnExactCountFetches returns true for all arguments: the signs are ASCII, so the runes are the bytes.
   Conditions: the list is no longer than any Go slice. -/
import Derived.Test.YtlmiojnkjlnmjaaPureTripsZb
import Derived.Test.YtlmiojnkjlnmjaaPureIntZb
import Derived.Test.YtlmiojnkjlnmjaaGZbx6
namespace Go.Proofs.Ytlmiojnkjlnmjaa.Pure
open Go.RowKit Go.Proofs.Ytlmiojnkjlnmjaa.G Go.Proofs.YtlmiojnkjlnmjaaW.PrintWords

theorem sig_at {s : ByteArray} (h : Sig s) (i : Nat) (hi : i < s.size) : (s[i]'hi).toNat = 101 ∨ (s[i]'hi).toNat = 102 := by
  have hm : (s[i]'hi) ∈ s.data.toList := by
    have : (s[i]'hi) = s.data[i]'hi := rfl
    rw [this]
    exact Array.mem_toList_iff.2 (Array.getElem_mem _)
  rcases h _ hm with e | e <;> rw [e]
  · exact .inl rfl
  · exact .inr rfl
theorem countBoth (s : ByteArray) (h : Sig s) (d : Nat) : ∀ (k pos : Nat) (n : Int), s.size - pos = d → pos ≤ s.size → d < k → 0 ≤ n → n ≤ 1000000 - d → ∃ m, spec_CountFetches.l0 s k pos n = some m ∧ impl_CountFetches.l0 s k pos n = some m := by
  induction d with
  | zero =>
    intro k pos n hd hp hk _ _
    obtain ⟨k, rfl⟩ : ∃ q, k = q + 1 := ⟨k - 1, by omega⟩
    simp only [spec_CountFetches.l0, impl_CountFetches.l0]
    rw [dif_neg (by omega), if_neg (by omega)]
    exact ⟨_, rfl, rfl⟩
  | succ d ih =>
    intro k pos n hd hp hk h0 h1
    obtain ⟨k, rfl⟩ : ∃ q, k = q + 1 := ⟨k - 1, by omega⟩
    have hlt : pos < s.size := by omega
    have hs := sig_at h pos hlt
    simp only [spec_CountFetches.l0, impl_CountFetches.l0]
    rw [dif_pos hlt, if_pos hlt, decode_ascii s pos hlt (by omega)]
    by_cases c : (s[pos]'hlt).toNat = 102
    · simp only [c, if_true]
      rw [wadd (by omega) (by omega)]
      exact ih k (pos + 1) (n + 1) (by omega) (by omega) (by omega) (by omega) (by omega)
    · simp only [c, if_false, Int.add_zero]
      rw [wadd (by omega) (by omega)]
      exact ih k (pos + 1) n (by omega) (by omega) (by omega) (by omega) (by omega)
theorem bothCountFetches (l : List Int) (hl : l.length ≤ 1048576) (k : Nat) (hk : l.length + 400 < k) : ∃ r, spec_CountFetches.f k l = some r ∧ impl_CountFetches.f k l = some r := by
  unfold spec_CountFetches.f impl_CountFetches.f
  rw [prGood_ev l hl k (by omega), bindsome, isTimes_ev, bindsome]
  cases h : isTimes l
  · exact ⟨_, rfl, rfl⟩
  · obtain ⟨r, h1, h2, _, h4, _, _, h7⟩ := trips l false h
    obtain ⟨m, m1, m2⟩ := countBoth r.2.1 h7 r.2.1.size k 0 0 rfl (by omega) (by omega) (by omega) (by omega)
    rw [if_pos rfl, if_pos rfl, h1 k (by omega), h2 k (by omega), bindsome, bindsome, m1, m2]
    exact ⟨_, rfl, rfl⟩
theorem FnExactCountFetches (l : List Int) (h : l.length ≤ 9223372036854775807) : ∃ k, laws_FnExactCountFetches.f k l = some true := by
  refine ⟨l.length + 500, ?_⟩
  generalize hk : l.length + 500 = k
  unfold laws_FnExactCountFetches.f
  by_cases c : (l.length : Int) > 1048576
  · rw [if_pos c]
  · rw [if_neg c]
    have e1 := toIntS_ev l (by omega) k (by omega)
    obtain ⟨⟨r1, r2⟩, e2, e3⟩ := bothCountFetches l (by omega) k (by omega)
    have e5 := eqIntS_ev l l (by omega) k (by omega)
    simp only [e1, e2, e3, e5, bindsome]
    simp

end Go.Proofs.Ytlmiojnkjlnmjaa.Pure
