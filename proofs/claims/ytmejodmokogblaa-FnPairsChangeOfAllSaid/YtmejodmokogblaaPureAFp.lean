/- Plain lemmas on lists and numbers that the proofs of this seat's laws share. No program is in sight.
   Conditions: stated with each. -/
import Derived.Test.YtmejodmokogblaaGFpx0
namespace Go.Proofs.Ytmejodmokogblaa.Pure
open Go.RowKit Go.Proofs.YtmejodmokogblaaW.PrintWords

theorem wnat {i n : Nat} (h : i < n) (hn : n ≤ 9223372036854775807) : wrap64 ((i : Int) + 1) = ((i + 1 : Nat) : Int) := by
  unfold wrap64
  omega
theorem wadd {x : Int} (h : -9223372036854775808 ≤ x) (h1 : x ≤ 9223372036854775807) : wrap64 x = x := by
  unfold wrap64
  omega
theorem bindsome {α β : Type} (a : α) (f : α → Option β) : (some a).bind f = f a := rfl
theorem rdn (l : List Int) (i : Nat) (h : i < l.length) : rd l (i : Int) = l[i] := by
  simp [rd, List.getD_eq_getElem?_getD, h]
theorem rdb (l : List Bool) (i : Nat) (h : i < l.length) : rdOf false l (i : Int) = l[i] := by
  simp [rdOf, List.getD_eq_getElem?_getD, h]
theorem drop_cons {α : Type} (l : List α) (i : Nat) (h : i < l.length) : l.drop i = l[i] :: l.drop (i + 1) := List.drop_eq_getElem_cons h
theorem take_set {α : Type} (l m : List α) (i : Nat) (hl : m.length = l.length) (h : i < l.length) (ht : m.take i = l.take i) : (m.set i l[i]).take (i + 1) = l.take (i + 1) := by
  apply List.ext_getElem
  · simp [hl]
  · intro j h1 h2
    have hj : j < i + 1 := by simp at h2; omega
    rw [List.getElem_take, List.getElem_take, List.getElem_set]
    split
    · rename_i e; subst e; rfl
    · rename_i e
      have hji : j < i := by omega
      have h3 : (m.take i)[j]'(by simp; omega) = (l.take i)[j]'(by simp; omega) := by simp only [ht]
      simpa using h3
theorem wf64 {x : Int} (h : (Lit.int .i64 x).wf = true) : -9223372036854775808 ≤ x ∧ x ≤ 9223372036854775807 := by
  have h2 : (decide (IntKind.min .i64 ≤ x) && decide (x ≤ IntKind.max .i64)) = true := h
  rw [Bool.and_eq_true] at h2
  exact ⟨of_decide_eq_true h2.1, of_decide_eq_true h2.2⟩

end Go.Proofs.Ytmejodmokogblaa.Pure
