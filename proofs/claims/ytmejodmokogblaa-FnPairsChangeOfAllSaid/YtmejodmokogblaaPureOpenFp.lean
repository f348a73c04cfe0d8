/- An argument that can be read as data is read as a list (of ints, of bools, of lists) by the printed contracts' words.
   Conditions: the element's type is an int of 64 bits, a bool, or a slice of such. -/
import Derived.Test.YtmejodmokogblaaGFpx0
import Derived.ProofKit
import Derived.Lib.SmallJoins
import Derived.Deep.Slices
namespace Go.Proofs.Ytmejodmokogblaa.Open
open Go.RowKit Go.Proofs.YtmejodmokogblaaW.PrintWords Go.Deep

section
variable {H : Type} {enc : TypeId × Value → H} {P : Program} {w : World} {base : Nat} {spare : Nat → Bool} {held : Bool}
/-- A cell that reads at type e reads as a value of the kind d of which Q holds. -/
def Opens {α : Type} (enc : TypeId × Value → H) (P : Program) (w : World) (base : Nat) (spare : Nat → Bool) (held : Bool) (d : Kd α) (Q : α → Prop) (e : TypeId) : Prop :=
  ∀ (n : Nat) (v : Value) (y : DataW H × List MemPlace), DataW.trod enc P w base spare held n e [v] = some y → ∃ x, d.K w x [v] ∧ Q x
theorem opens_int {e : TypeId} (he : P.underlying e = some (.int .i64)) : Opens enc P w base spare held (Kd.int .i64) (fun x => (Lit.int .i64 x).wf = true) e := by
  intro n v y h
  obtain ⟨m, hv, _, hw⟩ := DataW.trod_int he h
  exact ⟨m, hv, hw⟩
theorem opens_bool {e : TypeId} (he : P.underlying e = some .bool) : Opens enc P w base spare held Kd.bool (fun _ => True) e := by
  intro n v y h
  obtain ⟨b, hv, _⟩ := DataW.trod_bool he h
  exact ⟨b, hv, trivial⟩
theorem opens_list {α : Type} (p : Nat → α → Prop) : ∀ (m : Nat), (∀ i, i < m → ∃ x, p i x) → ∃ l : List α, l.length = m ∧ ∀ i x, l[i]? = some x → p i x
  | 0, _ => ⟨[], rfl, fun i x h => by simp at h⟩
  | m + 1, h => by
    obtain ⟨l, hl, hp⟩ := opens_list p m (fun i hi => h i (by omega))
    obtain ⟨x, hx⟩ := h m (by omega)
    refine ⟨l ++ [x], by simp [hl], fun i z hz => ?_⟩
    by_cases hi : i < l.length
    · rw [List.getElem?_append_left hi] at hz
      exact hp i z hz
    · rw [List.getElem?_append_right (by omega)] at hz
      have h0 : i - l.length = 0 := by
        have := (List.getElem?_eq_some_iff.1 hz).1
        simp at this
        omega
      rw [h0] at hz
      obtain rfl : x = z := by simpa using hz
      obtain rfl : i = m := by omega
      exact hx
theorem opens_slice {α : Type} {d : Kd α} {Q : α → Prop} {t e : TypeId} (ht : P.underlying t = some (.slice e)) (hc : P.cellsOf e = 1) (hsz : d.sz = 1) (h : Opens enc P w base spare held d Q e) :
    Opens enc P w base spare held (Kd.slice e d) (fun l => l.length ≤ 9223372036854775807 ∧ ∀ x ∈ l, Q x) t := by
  intro n v y hv
  rcases open_slice1 ht hc hv with ⟨h0, _⟩ | ⟨a, len, cap, m, n', V, D, Pl, h0, hb, hl, hm, hmm, rfl, hx⟩
  · exact ⟨[], ⟨none, 0, h0, Nat.le_refl _, rfl, by simp, fun hp => absurd hp (by simp)⟩, by simp, by simp⟩
  · have hlm : len ≤ m := by rw [hmm]; split <;> omega
    obtain ⟨l, hll, hp⟩ := opens_list (fun i x => w.cell? (a.add i) = some (V i) ∧ d.K w x [V i] ∧ Q x) len (fun i hi => by
      obtain ⟨h1, h2⟩ := hx i (by omega)
      obtain ⟨x, hk, hq⟩ := h _ _ _ h2
      exact ⟨x, h1, hk, hq⟩)
    have hbig : len ≤ 9223372036854775807 := by simp only [maxLen] at hm; omega
    refine ⟨l, ⟨some a, cap, by rw [hll]; exact h0, by omega, rfl, by omega, fun _ => ⟨a, rfl, fun j p hj => ?_⟩⟩, by omega, fun x hx' => ?_⟩
    · obtain ⟨h1, h2, _⟩ := hp j p hj
      refine ⟨[V j], by rw [hsz]; rfl, h2, fun i u hu => ?_⟩
      have hi : i = 0 := by
        have := (List.getElem?_eq_some_iff.1 hu).1
        simp at this
        omega
      subst hi
      obtain rfl : V j = u := by simpa using hu
      rw [hsz, Nat.mul_one]
      exact h1
    · obtain ⟨i, hi⟩ := List.getElem?_of_mem hx'
      exact (hp i x hi).2.2
end

end Go.Proofs.Ytmejodmokogblaa.Open
