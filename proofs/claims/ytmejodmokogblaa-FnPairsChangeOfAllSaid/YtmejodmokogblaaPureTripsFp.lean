/- The trips of two at once: both functions make the same trips, signs and even round.
   Conditions: stated with each. -/
import Derived.Test.YtmejodmokogblaaPureOrderFp
import Derived.Test.YtmejodmokogblaaGFpx3
import Derived.Test.YtmejodmokogblaaGFpx4
namespace Go.Proofs.Ytmejodmokogblaa.Pure
open Go.RowKit Go.Proofs.Ytmejodmokogblaa.G Go.Proofs.YtmejodmokogblaaW.PrintWords

theorem beqd (x y : Int) : (x == y) = decide (x = y) := rfl
theorem srt_one (a : Int) : impl_cross.srt [a] = [a] := by unfold impl_cross.srt; exact List.mergeSort_singleton a
theorem srt_two (a b : Int) : impl_cross.srt [a, b] = if a > b then [b, a] else [a, b] := by
  have h1 : (impl_cross.srt [a, b]).Perm [a, b] := List.mergeSort_perm _ _
  have h2 : (impl_cross.srt [a, b]).Pairwise (fun x y : Int => x ≤ y) := by
    have h := List.pairwise_mergeSort (le := fun x y : Int => decide (x ≤ y)) (fun a b c h1 h2 => by simp only [decide_eq_true_eq] at *; omega) (fun a b => by simp only [Bool.or_eq_true, decide_eq_true_eq]; omega) [a, b]
    exact h.imp (fun {a b} hab => of_decide_eq_true hab)
  refine List.Perm.eq_of_pairwise (le := fun x y : Int => x ≤ y) (fun x y _ _ h3 h4 => by omega) h2 ?_ (h1.trans ?_)
  · split
    · exact List.pairwise_cons.2 ⟨fun x hx => by rw [List.mem_singleton.1 hx]; omega, List.pairwise_singleton _ _⟩
    · exact List.pairwise_cons.2 ⟨fun x hx => by rw [List.mem_singleton.1 hx]; omega, List.pairwise_singleton _ _⟩
  · split
    · exact List.Perm.swap _ _ _
    · exact List.Perm.refl _
theorem prPair_ev (a b : Int) : spec_prPair.f a b = some (impl_cross.srt [a, b]) := by
  unfold spec_prPair.f
  rw [srt_two]
  split <;> rfl
/-- What a trip of the plan is: one or two people that there are. -/
def tripOk (n : Nat) (t : List Int) : Prop := 1 ≤ t.length ∧ t.length ≤ 2 ∧ ∀ x ∈ t, 0 ≤ x ∧ x < (n : Int)
theorem ok_srt {n : Nat} {t : List Int} (h : tripOk n t) : tripOk n (impl_cross.srt t) := by
  refine ⟨by rw [impl_cross.srt_length]; exact h.1, by rw [impl_cross.srt_length]; exact h.2.1, fun x hx => h.2.2 x ?_⟩
  exact (List.mergeSort_perm _ _).mem_iff.1 hx
theorem ok_one {n : Nat} {a : Int} (h : 0 ≤ a ∧ a < (n : Int)) : tripOk n [a] := ⟨by simp, by simp, fun x hx => by rw [List.mem_singleton.1 hx]; exact h⟩
theorem ok_two {n : Nat} {a b : Int} (h : 0 ≤ a ∧ a < (n : Int)) (h' : 0 ≤ b ∧ b < (n : Int)) : tripOk n [a, b] := ⟨by simp, by simp, fun x hx => by
  simp only [List.mem_cons, List.not_mem_nil, or_false] at hx
  rcases hx with e | e <;> rw [e]
  · exact h
  · exact h'⟩
theorem ok_append {n : Nat} {ls ms : List (List Int)} (h : ∀ t ∈ ls, tripOk n t) (h' : ∀ t ∈ ms, tripOk n t) : ∀ t ∈ ls ++ ms, tripOk n t := fun t ht => by
  rcases List.mem_append.1 ht with e | e
  · exact h t e
  · exact h' t e
/-- Every second trip is one person's. -/
def Alt (ls : List (List Int)) : Prop := ∀ (i : Nat) (h : i < ls.length), i % 2 = 1 → (ls[i]).length = 1
theorem alt_append {ls ms : List (List Int)} (he : ls.length % 2 = 0) (h : Alt ls) (h' : Alt ms) : Alt (ls ++ ms) := fun i hi ho => by
  rw [List.getElem_append]
  split
  · exact h _ _ ho
  · exact h' _ _ (by omega)
theorem alt_one (a : List Int) : Alt [a] := fun i hi ho => by simp at hi; omega
theorem alt_three (a b c : List Int) (hb : b.length = 1) : Alt [a, b, c] := fun i hi ho => by
  have e : i = 1 := by simp at hi; omega
  subst e
  exact hb
theorem alt_four (a b c d : List Int) (hb : b.length = 1) (hd : d.length = 1) : Alt [a, b, c, d] := fun i hi ho => by
  have e : i = 1 ∨ i = 3 := by simp at hi; omega
  rcases e with e | e <;> subst e
  · exact hb
  · exact hd
/-- Signs: each byte is 101 or 102. -/
def Sig (s : ByteArray) : Prop := ∀ b ∈ s.data.toList, b = 101 ∨ b = 102
theorem sig_push {s : ByteArray} {c : UInt8} (h : Sig s) (hc : c = 101 ∨ c = 102) : Sig (s ++ (⟨#[c]⟩ : ByteArray)) := fun b hb => by
  rw [ByteArray.data_append, Array.toList_append] at hb
  rcases List.mem_append.1 hb with e | e
  · exact h b e
  · rw [show b = c by simpa using e]; exact hc
theorem sig_nil : Sig (⟨#[]⟩ : ByteArray) := fun b hb => by simp at hb
theorem size_push (s : ByteArray) (c : UInt8) : (s ++ (⟨#[c]⟩ : ByteArray)).size = s.size + 1 := by rw [ByteArray.size_append]; rfl
/-- What both functions tell of the rest of the trips. -/
def Rest (l o : List Int) (esc : Bool) (d n : Nat) (ls : List (List Int)) (s : ByteArray) (ev : Bool) (r : List (List Int) × ByteArray × Bool) : Prop :=
  (∀ k, 3 * d < k → spec_prTrips.l0 k l esc o (n : Int) (rd o 0) (rd o 1) ls s ev = some r) ∧ (∀ k, d < k → impl_cross.l0 l o esc k (n : Int) ls s ev = some r) ∧ r.1.length ≤ 24 ∧ r.2.1.size ≤ 12 ∧ (∀ t ∈ r.1, tripOk l.length t) ∧ Alt r.1 ∧ Sig r.2.1
theorem rest (l o : List Int) (esc : Bool) (hl : l.length ≤ 12) (ho : o.length = l.length) (hom : ∀ x ∈ o, 0 ≤ x ∧ x < (l.length : Int)) (hb : ∀ x ∈ l, 1 ≤ x ∧ x ≤ 1000) (d : Nat) : ∀ (n : Nat) (ls : List (List Int)) (s : ByteArray) (ev : Bool), n ≤ d → 2 ≤ n → n ≤ o.length → ls.length + 2 * n ≤ 24 → s.size + n ≤ 12 → (∀ t ∈ ls, tripOk l.length t) → ls.length % 2 = 0 → Alt ls → Sig s → ∃ r, Rest l o esc d n ls s ev r := by
  have M : ∀ i : Int, 0 ≤ i → i < (o.length : Int) → 0 ≤ rd o i ∧ rd o i < (l.length : Int) := fun i h0 h1 => impl_cross.rd_mem hom i h0 h1
  have T : ∀ i : Int, 0 ≤ i → i < (l.length : Int) → 1 ≤ rd l i ∧ rd l i ≤ 1000 := fun i h0 h1 => impl_cross.rd_mem hb i h0 h1
  induction d with
  | zero => intro n ls s ev h1 h2; omega
  | succ d ih =>
    intro n ls s ev h1 h2 h3 h4 h5 h6 h7 h8 h9
    have ma := M 0 (by omega) (by omega)
    have mb := M 1 (by omega) (by omega)
    generalize ea : rd o 0 = a at ma ih
    generalize eb : rd o 1 = b at mb ih
    unfold Rest
    rw [ea, eb]
    by_cases c : n > 3
    · have c' : ((n : Int) > 3) = True := eq_true (by omega)
      have my := M ((n : Int) - 2) (by omega) (by omega)
      have mz := M ((n : Int) - 1) (by omega) (by omega)
      have w2 : wrap64 ((n : Int) - 2) = (n : Int) - 2 := wadd (by omega) (by omega)
      have w1 : wrap64 ((n : Int) - 1) = (n : Int) - 1 := wadd (by omega) (by omega)
      generalize ey : rd o ((n : Int) - 2) = y at my
      generalize ez : rd o ((n : Int) - 1) = z at mz
      have a0 := T a ma.1 ma.2
      have b0 := T b mb.1 mb.2
      have y0 := T y my.1 my.2
      have i1 : (0 ≤ (n : Int) - 2) = True := eq_true (by omega)
      have i2 : ((n : Int) - 2 < (o.length : Int)) = True := eq_true (by omega)
      have i3 : (0 ≤ (n : Int) - 1) = True := eq_true (by omega)
      have i4 : ((n : Int) - 1 < (o.length : Int)) = True := eq_true (by omega)
      have i5 : (0 ≤ b) = True := eq_true mb.1
      have i6 : (b < (l.length : Int)) = True := eq_true mb.2
      have i7 : (0 ≤ a) = True := eq_true ma.1
      have i8 : (a < (l.length : Int)) = True := eq_true ma.2
      have i9 : (0 ≤ y) = True := eq_true my.1
      have i10 : (y < (l.length : Int)) = True := eq_true my.2
      have l4 : ∀ p q r t : List Int, (ls.length + [p, q, r, t].length < 5864062014805) = True := fun p q r t => eq_true (by simp; omega)
      have l5 : (s.size + 1 ≤ 9223372036854775807) = True := eq_true (by omega)
      have wt : wrap64 (2 * rd l b) = 2 * rd l b := wadd (by omega) (by omega)
      have wo : wrap64 (rd l a + rd l y) = rd l a + rd l y := wadd (by omega) (by omega)
      by_cases cc : 2 * rd l b < rd l a + rd l y ∧ esc = false
      · obtain ⟨r, g1, g2, g3⟩ := ih (n - 2) (ls ++ [impl_cross.srt [a, b], impl_cross.srt [a], impl_cross.srt [y, z], impl_cross.srt [b]]) (s ++ (⟨#[102]⟩ : ByteArray)) (ev || decide (2 * rd l b = rd l a + rd l y)) (by omega) (by omega) (by omega) (by simp; omega) (by rw [size_push]; omega) (ok_append h6 (by
          intro t ht
          simp only [List.mem_cons, List.not_mem_nil, or_false] at ht
          rcases ht with e | e | e | e <;> rw [e] <;> apply ok_srt
          · exact ok_two ma mb
          · exact ok_one ma
          · exact ok_two my mz
          · exact ok_one mb)) (by simp; omega) (alt_append h7 h8 (alt_four _ _ _ _ (by rw [impl_cross.srt_length]; rfl) (by rw [impl_cross.srt_length]; rfl))) (sig_push h9 (.inr rfl))
        have en : (((n - 2 : Nat) : Int)) = (n : Int) - 2 := by omega
        refine ⟨r, fun k hk => ?_, fun k hk => ?_, g3⟩
        · obtain ⟨k, rfl⟩ : ∃ q, k = q + 3 := ⟨k - 3, by omega⟩
          have g := g1 k (by omega)
          rw [en, ea, eb] at g
          obtain ⟨cc1, cc2⟩ := cc
          subst cc2
          simp only [srt_one] at g
          cases ev with
          | true =>
            simp only [Bool.true_or] at g
            simp only [spec_prTrips.l0, spec_prTrips.j1, spec_prTrips.j2, c', w1, w2, ey, ez, i1, i2, i3, i4, i5, i6, i7, i8, i9, i10, wt, wo, if_true, cc1, Bool.not_false, prPair_ev, bindsome, l4, l5]
            exact g
          | false =>
            simp only [Bool.false_or] at g
            simp only [spec_prTrips.l0, spec_prTrips.j1, spec_prTrips.j2, c', w1, w2, ey, ez, i1, i2, i3, i4, i5, i6, i7, i8, i9, i10, wt, wo, if_true, cc1, Bool.not_false, prPair_ev, bindsome, l4, l5, Bool.false_eq_true, if_false, beqd]
            exact g
        · obtain ⟨k, rfl⟩ : ∃ q, k = q + 1 := ⟨k - 1, by omega⟩
          have g := g2 k (by omega)
          rw [en] at g
          have cc' : (2 * rd l b < rd l a + rd l y ∧ esc = false) = True := eq_true cc
          simp only [impl_cross.l0, c', ea, eb, ey, ez, wt, wo, cc', if_true]
          exact g
      · obtain ⟨r, g1, g2, g3⟩ := ih (n - 2) (ls ++ [impl_cross.srt [a, z], impl_cross.srt [a], impl_cross.srt [a, y], impl_cross.srt [a]]) (s ++ (⟨#[101]⟩ : ByteArray)) (ev || decide (2 * rd l b = rd l a + rd l y)) (by omega) (by omega) (by omega) (by simp; omega) (by rw [size_push]; omega) (ok_append h6 (by
          intro t ht
          simp only [List.mem_cons, List.not_mem_nil, or_false] at ht
          rcases ht with e | e | e | e <;> rw [e] <;> apply ok_srt
          · exact ok_two ma mz
          · exact ok_one ma
          · exact ok_two ma my
          · exact ok_one ma)) (by simp; omega) (alt_append h7 h8 (alt_four _ _ _ _ (by rw [impl_cross.srt_length]; rfl) (by rw [impl_cross.srt_length]; rfl))) (sig_push h9 (.inl rfl))
        have en : (((n - 2 : Nat) : Int)) = (n : Int) - 2 := by omega
        refine ⟨r, fun k hk => ?_, fun k hk => ?_, g3⟩
        · obtain ⟨k, rfl⟩ : ∃ q, k = q + 3 := ⟨k - 3, by omega⟩
          have g := g1 k (by omega)
          rw [en, ea, eb] at g
          simp only [srt_one] at g
          have hj : ∀ e2 : Bool, spec_prTrips.j1 (k + 2) l esc o (n : Int) a b ls s e2 y z (2 * rd l b) (rd l a + rd l y) = spec_prTrips.l0 k l esc o ((n : Int) - 2) a b (ls ++ [impl_cross.srt [a, z], [a], impl_cross.srt [a, y], [a]]) (s ++ (⟨#[101]⟩ : ByteArray)) e2 := by
            intro e2
            by_cases c1 : 2 * rd l b < rd l a + rd l y
            · have c2 : esc = true := by
                cases esc
                · exact absurd ⟨c1, rfl⟩ cc
                · rfl
              subst c2
              simp only [spec_prTrips.j1, spec_prTrips.j2, c1, if_true, Bool.not_true, Bool.false_eq_true, if_false, prPair_ev, bindsome, l4, l5, w2]
            · simp only [spec_prTrips.j1, spec_prTrips.j2, c1, if_true, Bool.false_eq_true, if_false, prPair_ev, bindsome, l4, l5, w2]
          cases ev with
          | true =>
            simp only [Bool.true_or] at g
            simp only [spec_prTrips.l0, c', w1, w2, ey, ez, i1, i2, i3, i4, i5, i6, i7, i8, i9, i10, wt, wo, if_true, hj]
            exact g
          | false =>
            simp only [Bool.false_or] at g
            simp only [spec_prTrips.l0, c', w1, w2, ey, ez, i1, i2, i3, i4, i5, i6, i7, i8, i9, i10, wt, wo, if_true, hj, Bool.false_eq_true, if_false, beqd]
            exact g
        · obtain ⟨k, rfl⟩ : ∃ q, k = q + 1 := ⟨k - 1, by omega⟩
          have g := g2 k (by omega)
          rw [en] at g
          have cc' : (2 * rd l b < rd l a + rd l y ∧ esc = false) = False := eq_false cc
          simp only [impl_cross.l0, c', ea, eb, ey, ez, wt, wo, cc', if_true, if_false]
          exact g
    · have c' : ((n : Int) > 3) = False := eq_false (by omega)
      have l1 : (ls.length < 5864062014805) = True := eq_true (by omega)
      by_cases c3 : n = 3
      · subst c3
        have m2 := M 2 (by omega) (by omega)
        have i1 : (2 < (o.length : Int)) = True := eq_true (by omega)
        have l2 : ∀ p q t : List Int, ((ls ++ [p]).length + [q, t].length < 5864062014805) = True := fun p q t => eq_true (by simp; omega)
        refine ⟨(ls ++ [impl_cross.srt [a, b], impl_cross.srt [a], impl_cross.srt [a, rd o 2]], s, ev), fun k hk => ?_, fun k hk => ?_, ?_, ?_, ?_, ?_, h9⟩
        · obtain ⟨k, rfl⟩ : ∃ q, k = q + 1 := ⟨k - 1, by omega⟩
          simp only [spec_prTrips.l0, c', if_false, prPair_ev, bindsome, l1, i1, if_true, l2, srt_one]
          simp
        · obtain ⟨k, rfl⟩ : ∃ q, k = q + 1 := ⟨k - 1, by omega⟩
          simp only [impl_cross.l0, c', if_false, ea, eb]
          simp
        · simp; omega
        · simp; omega
        · refine ok_append h6 (fun t ht => ?_)
          simp only [List.mem_cons, List.not_mem_nil, or_false] at ht
          rcases ht with e | e | e <;> rw [e] <;> apply ok_srt
          · exact ok_two ma mb
          · exact ok_one ma
          · exact ok_two ma m2
        · exact alt_append h7 h8 (alt_three _ _ _ (by rw [impl_cross.srt_length]; rfl))
      · have e2 : n = 2 := by omega
        subst e2
        refine ⟨(ls ++ [impl_cross.srt [a, b]], s, ev), fun k hk => ?_, fun k hk => ?_, ?_, ?_, ?_, ?_, h9⟩
        · obtain ⟨k, rfl⟩ : ∃ q, k = q + 1 := ⟨k - 1, by omega⟩
          simp only [spec_prTrips.l0, c', if_false, prPair_ev, bindsome, l1, if_true]
          simp
        · obtain ⟨k, rfl⟩ : ∃ q, k = q + 1 := ⟨k - 1, by omega⟩
          simp only [impl_cross.l0, c', if_false, ea, eb]
          simp
        · simp; omega
        · simp; omega
        · refine ok_append h6 (fun t ht => ?_)
          simp only [List.mem_cons, List.not_mem_nil, or_false] at ht
          rw [ht]
          exact ok_srt (ok_two ma mb)
        · exact alt_append h7 h8 (alt_one _)
/-- What both functions tell. -/
def TripsAre (l : List Int) (esc : Bool) (r : List (List Int) × ByteArray × Bool) : Prop :=
  (∀ k, 300 < k → spec_prTrips.f k l esc = some r) ∧ (∀ k, 300 < k → impl_cross.f k l esc = some r) ∧ r.1.length ≤ 24 ∧ r.2.1.size ≤ 12 ∧ (∀ t ∈ r.1, tripOk l.length t) ∧ Alt r.1 ∧ Sig r.2.1
theorem trips (l : List Int) (esc : Bool) (h : isTimes l = true) : ∃ r, TripsAre l esc r := by
  obtain ⟨h1, h2, h3⟩ := isTimes_out h
  have ho : (impl_pace.paceL l).length = l.length := by simp [impl_pace.paceL]
  have hom : ∀ x ∈ impl_pace.paceL l, 0 ≤ x ∧ x < (l.length : Int) := fun x hx => impl_cross.pace_mem hx
  have hp : ∀ k, 300 < k → spec_prOrder.f k l = some (impl_pace.paceL l) := fun k hk => prOrder_ev l h2 k (by omega)
  have hc : (0 < l.length ∧ l.length ≤ 1048576) = True := eq_true ⟨by omega, by omega⟩
  generalize eo : impl_pace.paceL l = o at ho hom hp
  by_cases c : l.length = 1
  · have r0 : rd o 0 = 0 := by
      have := impl_cross.rd_mem hom 0 (by omega) (by omega)
      rw [c] at this
      omega
    refine ⟨([[0]], ⟨#[]⟩, false), fun k hk => ?_, fun k hk => ?_, by simp, by show 0 ≤ 12; omega, fun t ht => ?_, alt_one _, sig_nil⟩
    · unfold spec_prTrips.f
      rw [hp k hk, bindsome, ho, c]
      rfl
    · obtain ⟨k, rfl⟩ : ∃ q, k = q + 1 := ⟨k - 1, by omega⟩
      unfold impl_cross.f
      simp only [eo, impl_cross.l0, c, r0, srt_one]
      simp
    · rw [List.mem_singleton.1 ht]
      exact ok_one ⟨by omega, by omega⟩
  · obtain ⟨r, g1, g2, g3⟩ := rest l o esc h2 ho hom h3 l.length l.length [] ⟨#[]⟩ false (by omega) (by omega) (by omega) (by simp; omega) (by show 0 + l.length ≤ 12; omega) (fun t ht => absurd ht (by simp)) rfl (fun i hi => absurd hi (by simp)) sig_nil
    refine ⟨r, fun k hk => ?_, fun k hk => ?_, g3⟩
    · unfold spec_prTrips.f
      rw [hp k hk, bindsome, ho, if_neg (by omega), if_pos (by omega), if_pos (by omega)]
      exact g1 k (by omega)
    · unfold impl_cross.f
      simp only [hc, if_true, eo]
      exact g2 k (by omega)

end Go.Proofs.Ytmejodmokogblaa.Pure
