/- What the printed functions on the dangers in a bank come to.
   Conditions: stated with each. -/
import Derived.Test.YtomiikbcahocaaaPureKeepPy
import Derived.Test.YtomiikbcahocaaaGPyx3
import Derived.Test.YtomiikbcahocaaaGPyx8
namespace Go.Proofs.Ytomiikbcahocaaa.Pure
open Go.RowKit Go.Proofs.Ytomiikbcahocaaa.G Go.Proofs.YtomiikbcahocaaaW.PrintWords

theorem own_ev (l : List Int) (hl : l.length ≤ 1048576) : spec_l1Own.f l = some l := by
  unfold spec_l1Own.f
  rw [bindsome]
  simp only [List.length_nil, List.nil_append]
  rw [if_pos (by omega)]
theorem clone_ev (l : List Int) (hl : l.length ≤ 1048576) : slices_Clone_int_int.f l = some l := by
  unfold slices_Clone_int_int.f
  rw [if_pos (by omega)]
/-- A danger is there in a bank. -/
def dng (o : List Bool) (q : Bool) (d : List Int) : Bool := (rdOf false o (rd d 0) != q) && (rdOf false o (rd d 1) != q)
theorem keNow_l0 (n : Int) (o : List Bool) (q : Bool) (l : List (List Int)) (hl : l.length ≤ 1048576) (ho : (o.length : Int) = n) (hg : ∀ d ∈ l, goodD n d = true) (d : Nat) : ∀ (k i : Nat) (m : List (List Int)), l.length - i = d → i ≤ l.length → d < k → m.length ≤ i →
    spec_keNow.l0 k m l (l.length : Int) (i : Int) o q = some (m ++ (l.drop i).filter (dng o q)) := by
  induction d with
  | zero =>
    intro k i m hd hi hk hm
    obtain ⟨k, rfl⟩ : ∃ q, k = q + 1 := ⟨k - 1, by omega⟩
    simp only [spec_keNow.l0]
    rw [if_neg (by omega), List.drop_eq_nil_of_le (by omega)]
    simp
  | succ d ih =>
    intro k i m hd hi hk hm
    obtain ⟨k, rfl⟩ : ∃ q, k = q + 1 := ⟨k - 1, by omega⟩
    have hlt : i < l.length := by omega
    simp only [spec_keNow.l0]
    rw [if_pos (by omega), if_pos (by omega), if_pos (by omega), rdll l i hlt, drop_cons l i hlt, wnat hlt (by omega)]
    have hgi := hg _ (List.getElem_mem hlt)
    obtain ⟨a, b, hab, h0, h1, h2⟩ := goodD_form hgi
    have hD : dng o q l[i] = ((rdOf false o a != q) && (rdOf false o b != q)) := by rw [hab]; rfl
    have hL : l[i].length = 2 := by rw [hab]; rfl
    have hr0 : rd l[i] 0 = a := by rw [hab]; rfl
    have hr1 : rd l[i] 1 = b := by rw [hab]; rfl
    rw [hr0, hr1, if_pos (by omega), if_pos (by omega), if_pos (by omega)]
    by_cases c1 : (rdOf false o a != q) = true
    · rw [if_pos c1, if_pos (by omega), if_pos (by omega), if_pos (by omega)]
      by_cases c2 : (rdOf false o b != q) = true
      · rw [if_pos c2, own_ev _ (by omega), bindsome, if_pos (by omega), ih k (i + 1) _ (by omega) (by omega) (by omega) (by simp; omega), List.filter_cons_of_pos (by rw [hD, c1, c2]; rfl), List.append_assoc]
        rfl
      · rw [if_neg c2, ih k (i + 1) _ (by omega) (by omega) (by omega) (by omega), List.filter_cons_of_neg (by rw [hD]; simp only [Bool.and_eq_true]; exact fun h => c2 h.2)]
    · rw [if_neg c1, ih k (i + 1) _ (by omega) (by omega) (by omega) (by omega), List.filter_cons_of_neg (by rw [hD]; simp only [Bool.and_eq_true]; exact fun h => c1 h.1)]
theorem keNow_ev (n : Int) (l : List (List Int)) (s : Int) (o : List Bool) (q : Bool) (hl : l.length ≤ 1048576) (ho : (o.length : Int) = n) (hg : ∀ d ∈ l, goodD n d = true) (k : Nat) (hk : l.length < k) : spec_keNow.f k n l s o q = some (l.filter (dng o q)) := by
  unfold spec_keNow.f
  have h := keNow_l0 n o q l hl ho hg l.length k 0 [] rfl (Nat.zero_le _) hk (Nat.le_refl _)
  simpa using h
theorem dangers_l0 (n : Int) (o : List Bool) (q : Bool) (l : List (List Int)) (hl : l.length ≤ 1048576) (ho : (o.length : Int) = n) (hg : ∀ d ∈ l, goodD n d = true) (d : Nat) : ∀ (k i : Nat) (m : List (List Int)), l.length - i = d → i ≤ l.length → d < k → m.length ≤ i →
    impl_Keep_dangers.l0 k m l (l.length : Int) (i : Int) o q = some (m ++ (l.drop i).filter (dng o q)) := by
  induction d with
  | zero =>
    intro k i m hd hi hk hm
    obtain ⟨k, rfl⟩ : ∃ q, k = q + 1 := ⟨k - 1, by omega⟩
    simp only [impl_Keep_dangers.l0]
    rw [if_neg (by omega), List.drop_eq_nil_of_le (by omega)]
    simp
  | succ d ih =>
    intro k i m hd hi hk hm
    obtain ⟨k, rfl⟩ : ∃ q, k = q + 1 := ⟨k - 1, by omega⟩
    have hlt : i < l.length := by omega
    simp only [impl_Keep_dangers.l0]
    rw [if_pos (by omega), if_pos (by omega), if_pos (by omega), rdll l i hlt, drop_cons l i hlt, wnat hlt (by omega)]
    have hgi := hg _ (List.getElem_mem hlt)
    obtain ⟨a, b, hab, h0, h1, h2⟩ := goodD_form hgi
    have hD : dng o q l[i] = ((rdOf false o a != q) && (rdOf false o b != q)) := by rw [hab]; rfl
    have hL : l[i].length = 2 := by rw [hab]; rfl
    have hr0 : rd l[i] 0 = a := by rw [hab]; rfl
    have hr1 : rd l[i] 1 = b := by rw [hab]; rfl
    rw [hr0, hr1, if_pos (by omega), if_pos (by omega), if_pos (by omega)]
    by_cases c1 : (rdOf false o a != q) = true
    · rw [if_pos c1, if_pos (by omega), if_pos (by omega), if_pos (by omega)]
      by_cases c2 : (rdOf false o b != q) = true
      · rw [if_pos c2, clone_ev _ (by omega), bindsome, if_pos (by omega), ih k (i + 1) _ (by omega) (by omega) (by omega) (by simp; omega), List.filter_cons_of_pos (by rw [hD, c1, c2]; rfl), List.append_assoc]
        rfl
      · rw [if_neg c2, ih k (i + 1) _ (by omega) (by omega) (by omega) (by omega), List.filter_cons_of_neg (by rw [hD]; simp only [Bool.and_eq_true]; exact fun h => c2 h.2)]
    · rw [if_neg c1, ih k (i + 1) _ (by omega) (by omega) (by omega) (by omega), List.filter_cons_of_neg (by rw [hD]; simp only [Bool.and_eq_true]; exact fun h => c1 h.1)]
theorem dangers_ev (n : Int) (l : List (List Int)) (s : Int) (o : List Bool) (q : Bool) (hl : l.length ≤ 1048576) (ho : (o.length : Int) = n) (hg : ∀ d ∈ l, goodD n d = true) (k : Nat) (hk : l.length < k) : impl_Keep_dangers.f k n l s o q = some (l.filter (dng o q)) := by
  unfold impl_Keep_dangers.f
  have h := dangers_l0 n o q l hl ho hg l.length k 0 [] rfl (Nat.zero_le _) hk (Nat.le_refl _)
  simpa using h

end Go.Proofs.Ytomiikbcahocaaa.Pure
