/- A state in which all are on one side: what the printed functions come to.
   Conditions: stated with each. -/
import Derived.Test.YtlbmbofhbficgaaPureStateLs
import Derived.Test.YtlbmbofhbficgaaGLsx2
namespace Go.Proofs.Ytlbmbofhbficgaa.Pure
open Go.RowKit Go.Proofs.Ytlbmbofhbficgaa.G Go.Proofs.YtlbmbofhbficgaaW.PrintWords

theorem allAt_ev (n : Nat) (b : Bool) (hn : n ≤ 16) : impl_allAt.f (n : Int) b = some (List.replicate n b, b) := by
  unfold impl_allAt.f slices_Repeat_bool_bool.f
  simp only
  rw [if_pos (by omega), bindsome, Int.toNat_natCast]
theorem paLast_l0 (n : Nat) (hn : n ≤ 1048576) (d : Nat) : ∀ (k i : Nat), n - i = d → i ≤ n → d < k → spec_paLast.l0 k (n : Int) (i : Int) (List.replicate i true) true = some (List.replicate n true, true) := by
  induction d with
  | zero =>
    intro k i hd hi hk
    obtain ⟨k, rfl⟩ : ∃ q, k = q + 1 := ⟨k - 1, by omega⟩
    simp only [spec_paLast.l0]
    rw [if_neg (by omega), show i = n by omega]
  | succ d ih =>
    intro k i hd hi hk
    obtain ⟨k, rfl⟩ : ∃ q, k = q + 1 := ⟨k - 1, by omega⟩
    simp only [spec_paLast.l0]
    rw [if_pos (by omega), if_pos (by simp; omega), wnat (show i < n by omega) (by omega), ← List.replicate_succ']
    exact ih k (i + 1) (by omega) (by omega) (by omega)
theorem paLast_ev (p : List Int) (s : Int) (hp : p.length ≤ 1048576) (k : Nat) (hk : p.length < k) : spec_paLast.f k p s = some (List.replicate p.length true, true) := by
  unfold spec_paLast.f
  exact paLast_l0 p.length hp p.length k 0 rfl (Nat.zero_le _) hk

end Go.Proofs.Ytlbmbofhbficgaa.Pure
