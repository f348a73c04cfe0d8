/- The law FnExactPlayRides returns true for all arguments: both functions tell the bank behind all rides, in memory of its own, or nothing; the copies stay.
   Conditions: the lists are no longer than any Go slice. -/
import Derived.Test.YtomiikbcahocaaaPureStepPy
import Derived.Test.YtomiikbcahocaaaPureRidePy
import Derived.Test.YtomiikbcahocaaaPureKeepMarkPy
import Derived.Test.YtomiikbcahocaaaPureBankMarkPy
import Derived.Test.YtomiikbcahocaaaGPyx3
import Derived.Test.YtomiikbcahocaaaGPyx8
import Derived.Test.YtomiikbcahocaaaGPyx5
import Derived.Test.YtomiikbcahocaaaGPyx11
namespace Go.Proofs.Ytomiikbcahocaaa.Pure
open Go.RowKit Go.Proofs.Ytomiikbcahocaaa.G Go.Proofs.YtomiikbcahocaaaW.PrintWords

/-- The bank behind rides, or nothing. -/
def playR (n : Int) (L : List (List Int)) (s : Int) : List Bool → Bool → List (List Int) → List Bool × Bool × Bool
  | o, q, [] => (o, q, true)
  | o, q, r :: rs => if isRide n L s o q r = true then playR n L s (setAll o (!q) r) (!q) rs else ([], false, false)
theorem playR_len (n : Int) (L : List (List Int)) (s : Int) : ∀ (rs : List (List Int)) (o : List Bool) (q : Bool), (playR n L s o q rs).1.length ≤ o.length
  | [], o, q => Nat.le_refl _
  | r :: rs, o, q => by
    rw [playR]
    split
    · have := playR_len n L s rs (setAll o (!q) r) (!q)
      rw [setAll_length] at this
      exact this
    · simp
theorem isRide_valid {n : Int} {L : List (List Int)} {s : Int} {o : List Bool} {q : Bool} {l : List Int} (h : isRide n L s o q l = true) (ho : (o.length : Int) = n) : (∀ x ∈ l, 0 ≤ x ∧ x < (o.length : Int)) ∧ onSide o q l = true := by
  unfold isRide at h
  rw [Bool.and_eq_true, Bool.and_eq_true] at h
  exact ⟨by rw [ho]; exact (fitsR_valid h.1).2, h.2.1⟩
theorem specPlay_l0 (n : Int) (L : List (List Int)) (s : Int) (rs : List (List Int)) (hL : L.length ≤ 1048576) (hg : ∀ d ∈ L, goodD n d = true) (hrs : rs.length ≤ 1048576) (hb : ∀ x ∈ rs, x.length ≤ 1048576) (hn : n ≤ 8) (d : Nat) :
    ∀ (k i : Nat) (o : List Bool) (q : Bool), rs.length - i = d → i ≤ rs.length → (o.length : Int) = n → d + L.length * 2 + 2097152 + 20 < k → spec_PlayRides.l0 k rs (rs.length : Int) (i : Int) n L s o q = some (playR n L s o q (rs.drop i)) := by
  induction d with
  | zero =>
    intro k i o q hd hi ho hk
    obtain ⟨k, rfl⟩ : ∃ q, k = q + 1 := ⟨k - 1, by omega⟩
    simp only [spec_PlayRides.l0]
    rw [if_neg (by omega), List.drop_eq_nil_of_le (by omega)]
    rfl
  | succ d ih =>
    intro k i o q hd hi ho hk
    obtain ⟨k, rfl⟩ : ∃ q, k = q + 1 := ⟨k - 1, by omega⟩
    have hlt : i < rs.length := by omega
    have hlr := hb _ (List.getElem_mem hlt)
    simp only [spec_PlayRides.l0]
    rw [if_pos (by omega), if_pos (by omega), if_pos (by omega), wnat hlt (by omega), rdll rs i hlt, keCan_ev n L s o q _ hL hg (by omega) ho hlr k (by omega), bindsome, drop_cons rs i hlt, playR]
    cases h : isRide n L s o q rs[i]
    · rfl
    · obtain ⟨hv, hs⟩ := isRide_valid h ho
      rw [if_pos rfl, if_pos rfl, keRide_ev o q _ (by omega) hlr hv hs k (by omega), bindsome]
      exact ih k (i + 1) _ _ (by omega) (by omega) (by rw [setAll_length]; exact ho) (by omega)
theorem implPlay_l0 (n : Int) (L : List (List Int)) (s : Int) (rs : List (List Int)) (hL : L.length ≤ 1048576) (hg : ∀ d ∈ L, goodD n d = true) (hrs : rs.length ≤ 1048576) (hb : ∀ x ∈ rs, x.length ≤ 1048576) (hn : n ≤ 8) (d : Nat) :
    ∀ (k i : Nat) (o : List Bool) (q : Bool), rs.length - i = d → i ≤ rs.length → (o.length : Int) = n → d + L.length * 2 + 2097152 + 20 < k → impl_PlayRides.l0 k rs (rs.length : Int) (i : Int) n L s o q = some (playR n L s o q (rs.drop i)) := by
  induction d with
  | zero =>
    intro k i o q hd hi ho hk
    obtain ⟨k, rfl⟩ : ∃ q, k = q + 1 := ⟨k - 1, by omega⟩
    simp only [impl_PlayRides.l0]
    rw [if_neg (by omega), List.drop_eq_nil_of_le (by omega)]
    rfl
  | succ d ih =>
    intro k i o q hd hi ho hk
    obtain ⟨k, rfl⟩ : ∃ q, k = q + 1 := ⟨k - 1, by omega⟩
    have hlt : i < rs.length := by omega
    have hlr := hb _ (List.getElem_mem hlt)
    simp only [impl_PlayRides.l0]
    rw [if_pos (by omega), if_pos (by omega), if_pos (by omega), wnat hlt (by omega), rdll rs i hlt, isRide_ev n L s o q _ hL hg (by omega) ho hlr k (by omega), bindsome, drop_cons rs i hlt, playR]
    cases h : isRide n L s o q rs[i]
    · rfl
    · obtain ⟨hv, hs⟩ := isRide_valid h ho
      rw [if_pos rfl, if_pos rfl, ridden_ev o q _ (by omega) hlr hv k (by omega), bindsome]
      exact ih k (i + 1) _ _ (by omega) (by omega) (by rw [setAll_length]; exact ho) (by omega)
def playRides (n : Int) (L : List (List Int)) (s : Int) (rs : List (List Int)) : List Bool × Bool × Bool := if isKeep n L s = true then (if (rs.length : Int) > 40 then ([], false, false) else playR n L s (List.replicate n.toNat false) false rs) else ([], false, false)
theorem specPlay_ev (n : Int) (L : List (List Int)) (s : Int) (rs : List (List Int)) (hL : L.length ≤ 1048576) (hrs : rs.length ≤ 1048576) (hb : ∀ x ∈ rs, x.length ≤ 1048576) (k : Nat) (hk : rs.length + L.length * 2 + 2097152 + 25 < k) : spec_PlayRides.f k n L s rs = some (playRides n L s rs) := by
  have hj : ∀ k, 0 < k → spec_PlayRides.j0 k rs true n L s = some ([], false, false) := by
    intro k hk
    obtain ⟨k, rfl⟩ : ∃ q, k = q + 1 := ⟨k - 1, by omega⟩
    rw [spec_PlayRides.j0, if_pos rfl]
  unfold spec_PlayRides.f playRides
  rw [keGood_ev n L s hL k (by omega), bindsome]
  cases h : isKeep n L s
  · exact hj k (by omega)
  · obtain ⟨hn, _, hg⟩ := isKeep_out h
    rw [if_pos rfl, if_pos rfl]
    by_cases c : (rs.length : Int) > 40
    · rw [if_pos c, decide_eq_true c]
      exact hj k (by omega)
    · rw [if_neg c, decide_eq_false c]
      obtain ⟨k, rfl⟩ : ∃ q, k = q + 1 := ⟨k - 1, by omega⟩
      unfold spec_keStart.f at *
      rw [spec_PlayRides.j0, if_neg (by simp)]
      unfold spec_keStart.f
      rw [if_pos (by omega), if_pos (by omega), bindsome]
      exact specPlay_l0 n L s rs hL hg hrs hb hn.2 rs.length k 0 _ _ rfl (Nat.zero_le _) (by rw [List.length_replicate]; omega) (by omega)
theorem implPlay_ev (n : Int) (L : List (List Int)) (s : Int) (rs : List (List Int)) (hL : L.length ≤ 1048576) (hrs : rs.length ≤ 1048576) (hb : ∀ x ∈ rs, x.length ≤ 1048576) (k : Nat) (hk : rs.length + L.length * 2 + 2097152 + 25 < k) : impl_PlayRides.f k n L s rs = some (playRides n L s rs) := by
  have hj : ∀ k, 0 < k → impl_PlayRides.j0 k rs true n L s = some ([], false, false) := by
    intro k hk
    obtain ⟨k, rfl⟩ : ∃ q, k = q + 1 := ⟨k - 1, by omega⟩
    rw [impl_PlayRides.j0, if_pos rfl]
  unfold impl_PlayRides.f playRides
  rw [implIsKeep_ev n L s hL k (by omega), bindsome]
  cases h : isKeep n L s
  · exact hj k (by omega)
  · obtain ⟨hn, _, hg⟩ := isKeep_out h
    rw [if_pos rfl, if_pos rfl]
    by_cases c : (rs.length : Int) > 40
    · rw [if_pos c, decide_eq_true c]
      exact hj k (by omega)
    · rw [if_neg c, decide_eq_false c]
      obtain ⟨k, rfl⟩ : ∃ q, k = q + 1 := ⟨k - 1, by omega⟩
      have ha : impl_Keep_allOn.f n L s false = some (List.replicate n.toNat false, false) := by
        unfold impl_Keep_allOn.f slices_Repeat_bool_bool.f
        simp only
        rw [if_pos (by omega), bindsome]
      rw [impl_PlayRides.j0, if_neg (by simp), ha, bindsome]
      exact implPlay_l0 n L s rs hL hg hrs hb hn.2 rs.length k 0 _ _ rfl (Nat.zero_le _) (by rw [List.length_replicate]; omega) (by omega)
theorem playRides_len (n : Int) (L : List (List Int)) (s : Int) (rs : List (List Int)) : (playRides n L s rs).1.length ≤ 8 := by
  unfold playRides
  split
  · rename_i h
    obtain ⟨hn, _⟩ := isKeep_out h
    split
    · simp
    · have := playR_len n L s rs (List.replicate n.toNat false) false
      rw [List.length_replicate] at this
      omega
  · simp
theorem FnExactPlayRides (n : Int) (L : List (List Int)) (s : Int) (rs : List (List Int)) (h : L.length ≤ 9223372036854775807 ∧ ∀ x ∈ L, x.length ≤ 9223372036854775807) (hr0 : rs.length ≤ 9223372036854775807 ∧ ∀ x ∈ rs, x.length ≤ 9223372036854775807) : ∃ k, laws_FnExactPlayRides.f k n L s rs = some true := by
  refine ⟨L.length * 2 + rs.length + 2097152 + 100, ?_⟩
  generalize hk : L.length * 2 + rs.length + 2097152 + 100 = k
  unfold laws_FnExactPlayRides.f
  obtain ⟨r, e0, hr1, hr⟩ := szKeep_ev n L s 1048576 h.1 h.2 (by omega) (by omega) k (by omega)
  rw [e0, bindsome]
  by_cases c : r < 0
  · rw [if_pos c]
  · rw [if_neg c]
    obtain ⟨h1, h2⟩ := hr (by omega)
    have h2' : ∀ x ∈ L, x.length ≤ 1048576 := fun x hx => by have := h2 x hx; omega
    obtain ⟨r2, e02, hr12, hr2⟩ := szIntSS_ev rs r hr0.1 hr0.2 (by omega) (by omega) k (by omega)
    rw [e02, bindsome]
    by_cases c2 : r2 < 0
    · rw [if_pos c2]
    · rw [if_neg c2]
      obtain ⟨h3, h4⟩ := hr2 (by omega)
      have h4' : ∀ x ∈ rs, x.length ≤ 1048576 := fun x hx => by have := h4 x hx; omega
      have hs := sumL_le L h2'
      have e1 := toKeep_ev n L s (by omega) h2' k (by omega)
      have e2 := toIntSS_ev rs (by omega) h4' k (by omega)
      have e3 := specPlay_ev n L s rs (by omega) (by omega) h4' k (by omega)
      have e4 := implPlay_ev n L s rs (by omega) (by omega) h4' k (by omega)
      have e5 := eqKeep_ev n L s (by omega) h2' k (by omega)
      have e6 := eqIntSS_ev rs rs (by omega) h4' k (by omega)
      have e7 := markKeep_ev n L s 1 (by omega) h2' (by omega) (by omega) k (by omega)
      have hs2 : (sumL L : Int) ≤ 1099511627776 := by omega
      have e8 := markIntSS_ev rs (1 + (sumL L : Int)) (by omega) h4' (by omega) (by omega) k (by omega)
      have hb := playRides_len n L s rs
      generalize playRides n L s rs = b at e3 e4 hb
      obtain ⟨b1, b2, b3⟩ := b
      simp only at hb
      have e9 := eqBank_ev b1 b1 b2 b2 (by omega) k (by omega)
      have e10 := markBank_ev b1 b2 1 (by omega) (by omega) k (by omega)
      have e11 := heldBank_ev b1.length b2 1 (by omega) (by omega) k (by omega)
      have n1 : ¬ (1 + (sumL L : Int) + (sumL rs : Int) < 0) := by omega
      have n2 : ¬ (1 + (b1.length : Int) < 0) := by omega
      have e9 : laws_eqBank.f k b1 b2 b1 b2 = some true := by rw [e9]; simp
      have e6 : laws_eqIntSS.f k rs rs = some true := by rw [e6]; simp
      refine step_ e1 ?_; (try dsimp only)
      refine step_ e2 ?_; (try dsimp only)
      refine step_ e3 ?_; (try dsimp only)
      refine step_ e1 ?_; (try dsimp only)
      refine step_ e2 ?_; (try dsimp only)
      refine step_ e4 ?_; (try dsimp only)
      refine step_ e9 ?_; (try dsimp only)
      refine pos_ rfl ?_
      refine neg_ nene ?_
      refine step_ e1 ?_; (try dsimp only)
      refine step_ e5 ?_; (try dsimp only)
      refine pos_ rfl ?_
      refine step_ e2 ?_; (try dsimp only)
      refine step_ e6 ?_; (try dsimp only)
      refine pos_ rfl ?_
      refine step_ e7 ?_; (try dsimp only)
      refine step_ e8 ?_; (try dsimp only)
      refine step_ e9 ?_; (try dsimp only)
      refine neg_ n1 ?_
      refine pos_ rfl ?_
      refine neg_ nene ?_
      refine step_ e10 ?_; (try dsimp only)
      refine step_ e11 ?_; (try dsimp only)
      refine neg_ n2 ?_
      refine pos_ rfl ?_
      refine step_ e1 ?_; (try dsimp only)
      refine step_ e2 ?_; (try dsimp only)
      refine step_ e4 ?_; (try dsimp only)
      refine step_ e9 ?_; (try dsimp only)
      refine pos_ rfl ?_
      refine neg_ nene ?_
      refine step_ e11 ?_; (try dsimp only)
      refine neg_ n2 ?_
      refine pos_ rfl ?_
      rfl

end Go.Proofs.Ytomiikbcahocaaa.Pure
