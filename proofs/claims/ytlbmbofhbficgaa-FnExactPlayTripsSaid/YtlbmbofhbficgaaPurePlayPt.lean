/- What playing several trips comes to: the state behind them, or the index of the first that is none.
   Conditions: stated with each. -/
import Derived.Test.YtlbmbofhbficgaaPureMovedPt
import Derived.Test.YtlbmbofhbficgaaPureIntSSPt
import Derived.Test.YtlbmbofhbficgaaGPtx6
import Derived.Test.YtlbmbofhbficgaaGPtx4
namespace Go.Proofs.Ytlbmbofhbficgaa.Pure
open Go.RowKit Go.Proofs.Ytlbmbofhbficgaa.G Go.Proofs.YtlbmbofhbficgaaW.PrintWords

/-- The state behind trips, up to the first that is none, and that one's index. -/
def playR (n : Nat) (s : Int) : List (List Int) → List Bool → Bool → Nat → List Bool × Bool × Option Nat
  | [], o, t, _ => (o, t, none)
  | l :: r, o, t, i => if (isTrip n s l && onSide o t l) = true then playR n s r (setAll o (!t) l) (!t) (i + 1) else (o, t, some i)
theorem playR_idx (n : Nat) (s : Int) : ∀ (r : List (List Int)) (o : List Bool) (t : Bool) (i j : Nat), (playR n s r o t i).2.2 = some j → i ≤ j ∧ j < i + r.length := by
  intro r
  induction r with
  | nil => intro o t i j h; simp [playR] at h
  | cons l r ih =>
    intro o t i j h
    unfold playR at h
    split at h
    · have := ih _ _ _ _ h
      simp only [List.length_cons]
      omega
    · simp only [Option.some.injEq] at h
      simp only [List.length_cons]
      omega
theorem playR_len (n : Nat) (s : Int) : ∀ (r : List (List Int)) (o : List Bool) (t : Bool) (i : Nat), (playR n s r o t i).1.length = o.length := by
  intro r
  induction r with
  | nil => intro o t i; rfl
  | cons l r ih =>
    intro o t i
    unfold playR
    split
    · rw [ih, setAll_length]
    · rfl
def idxOr (d : Int) : Option Nat → Int
  | none => d
  | some i => (i : Int)
theorem paPlay_l0 (p : List Int) (s : Int) (ll : List (List Int)) (hp : p.length ≤ 1048576) (hl : ll.length ≤ 1048576) (hb : ∀ x ∈ ll, x.length ≤ 1048576) (d : Nat) : ∀ (k i : Nat) (o : List Bool) (t : Bool), o.length = p.length → ll.length - i = d → i ≤ ll.length → d + 1048576 < k →
    spec_paPlay.l0 k ll ll (ll.length : Int) (i : Int) p s o t = some ((playR p.length s (ll.drop i) o t i).1, (playR p.length s (ll.drop i) o t i).2.1, idxOr ll.length (playR p.length s (ll.drop i) o t i).2.2) := by
  induction d with
  | zero =>
    intro k i o t ho hd hi hk
    obtain ⟨k, rfl⟩ : ∃ q, k = q + 1 := ⟨k - 1, by omega⟩
    simp only [spec_paPlay.l0]
    rw [if_neg (by omega), List.drop_eq_nil_of_le (by omega)]
    rfl
  | succ d ih =>
    intro k i o t ho hd hi hk
    obtain ⟨k, rfl⟩ : ∃ q, k = q + 1 := ⟨k - 1, by omega⟩
    have hlt : i < ll.length := by omega
    have hx := hb _ (List.getElem_mem hlt)
    simp only [spec_paPlay.l0]
    rw [if_pos (by omega), if_pos (by omega), if_pos (by omega), wnat hlt (by omega), rdll ll i hlt, drop_cons ll i hlt, paCan_ev p s o t _ hp hx ho k (by omega), bindsome]
    unfold playR
    cases h : (isTrip p.length s ll[i] && onSide o t ll[i])
    · rfl
    · rw [Bool.and_eq_true] at h
      rw [if_pos rfl, if_pos rfl, paCross_ev o t _ (by omega) hx (by rw [ho]; exact (isTrip_valid h.1).2.2) h.2 k (by omega), bindsome]
      exact ih k (i + 1) _ _ (by rw [setAll_length]; exact ho) (by omega) (by omega) (by omega)
theorem paPlay_ev (p : List Int) (s : Int) (o : List Bool) (t : Bool) (ll : List (List Int)) (hp : p.length ≤ 1048576) (ho : o.length = p.length) (hl : ll.length ≤ 1048576) (hb : ∀ x ∈ ll, x.length ≤ 1048576) (k : Nat) (hk : ll.length + 1048576 < k) :
    spec_paPlay.f k p s o t ll = some ((playR p.length s ll o t 0).1, (playR p.length s ll o t 0).2.1, idxOr ll.length (playR p.length s ll o t 0).2.2) := by
  unfold spec_paPlay.f
  exact paPlay_l0 p s ll hp hl hb ll.length k 0 o t ho rfl (Nat.zero_le _) hk
theorem failing_l0 (p : List Int) (s : Int) (ll : List (List Int)) (hp : p.length ≤ 1048576) (hl : ll.length ≤ 1048576) (hb : ∀ x ∈ ll, x.length ≤ 1048576) (d : Nat) : ∀ (k i : Nat) (o : List Bool) (t : Bool), o.length = p.length → ll.length - i = d → i ≤ ll.length → d + 1048576 < k →
    impl_Party_failing.l0 k ll (ll.length : Int) (i : Int) p s o t = some ((playR p.length s (ll.drop i) o t i).1, (playR p.length s (ll.drop i) o t i).2.1, idxOr (-1) (playR p.length s (ll.drop i) o t i).2.2) := by
  induction d with
  | zero =>
    intro k i o t ho hd hi hk
    obtain ⟨k, rfl⟩ : ∃ q, k = q + 1 := ⟨k - 1, by omega⟩
    simp only [impl_Party_failing.l0]
    rw [if_neg (by omega), List.drop_eq_nil_of_le (by omega), moved_ev o t [] (by omega) (by simp) (by simp) k (by simp; omega), bindsome]
    simp only
    rw [moved_ev _ _ [] (by rw [setAll_length]; omega) (by simp) (by simp) k (by simp; omega), bindsome]
    simp [setAll, playR, idxOr]
  | succ d ih =>
    intro k i o t ho hd hi hk
    obtain ⟨k, rfl⟩ : ∃ q, k = q + 1 := ⟨k - 1, by omega⟩
    have hlt : i < ll.length := by omega
    have hx := hb _ (List.getElem_mem hlt)
    simp only [impl_Party_failing.l0]
    rw [if_pos (by omega), if_pos (by omega), if_pos (by omega), wnat hlt (by omega), rdll ll i hlt, drop_cons ll i hlt, canCross_ev p s o t _ hp hx ho k (by omega), bindsome]
    unfold playR
    cases h : (isTrip p.length s ll[i] && onSide o t ll[i])
    · rfl
    · rw [Bool.and_eq_true] at h
      rw [if_pos rfl, if_pos rfl, moved_ev o t _ (by omega) hx (by rw [ho]; exact (isTrip_valid h.1).2.2) k (by omega), bindsome]
      exact ih k (i + 1) _ _ (by rw [setAll_length]; exact ho) (by omega) (by omega) (by omega)
theorem failing_ev (p : List Int) (s : Int) (o : List Bool) (t : Bool) (ll : List (List Int)) (hp : p.length ≤ 1048576) (ho : o.length = p.length) (hl : ll.length ≤ 1048576) (hb : ∀ x ∈ ll, x.length ≤ 1048576) (k : Nat) (hk : ll.length + 1048576 < k) :
    impl_Party_failing.f k p s o t ll = some ((playR p.length s ll o t 0).1, (playR p.length s ll o t 0).2.1, idxOr (-1) (playR p.length s ll o t 0).2.2) := by
  unfold impl_Party_failing.f
  exact failing_l0 p s ll hp hl hb ll.length k 0 o t ho rfl (Nat.zero_le _) hk

end Go.Proofs.Ytlbmbofhbficgaa.Pure
