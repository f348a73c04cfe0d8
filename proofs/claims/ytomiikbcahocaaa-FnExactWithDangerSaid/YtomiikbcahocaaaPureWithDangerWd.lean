/- A danger more in a keep: the insertion of one function and the sorting of the other.
   Conditions: stated with each. -/
import Derived.Test.YtomiikbcahocaaaPureKeepWd
import Derived.Test.YtomiikbcahocaaaGWdx3
import Derived.Test.YtomiikbcahocaaaGWdx2
import Derived.Test.YtomiikbcahocaaaGWdx6
import Derived.Test.YtomiikbcahocaaaGWdx4
import Derived.Test.YtomiikbcahocaaaGWdx7
namespace Go.Proofs.Ytomiikbcahocaaa.Pure
open Go.RowKit Go.Proofs.Ytomiikbcahocaaa.G Go.Proofs.YtomiikbcahocaaaW.PrintWords

/-- A danger as one number (both things are below 8). -/
def key (d : List Int) : Int := 8 * rd d 0 + rd d 1
theorem key_in {n : Int} {d : List Int} (h8 : n ≤ 8) (h : goodD n d = true) : 0 ≤ key d ∧ key d ≤ 63 ∧ 0 ≤ rd d 1 ∧ rd d 1 ≤ 7 ∧ d.length = 2 := by
  obtain ⟨a, b, rfl, h1, h2, h3⟩ := goodD_form h
  unfold key
  rw [rd0, rd1]
  refine ⟨by omega, by omega, by omega, by omega, rfl⟩
theorem key_eq {n : Int} {d e : List Int} (h8 : n ≤ 8) (hd : goodD n d = true) (he : goodD n e = true) (h : key d = key e) : d = e := by
  have k1 := key_in h8 hd
  have k2 := key_in h8 he
  unfold key at *
  exact impl_WithDanger.eq2 k1.2.2.2.2 k2.2.2.2.2 (by omega) (by omega)
theorem key_less {n : Int} {d e : List Int} (h8 : n ≤ 8) (hd : goodD n d = true) (he : goodD n e = true) : lessD d e = decide (key d < key e) := by
  obtain ⟨a, b, rfl, h1, h2, h3⟩ := goodD_form hd
  obtain ⟨a2, b2, rfl, h4, h5, h6⟩ := goodD_form he
  unfold lessD key
  rw [rd0, rd1, rd0, rd1]
  by_cases c : a < a2
  · simp [c]; omega
  · by_cases c2 : a = a2
    · subst c2
      by_cases c3 : b < b2
      · simp [c3]
      · simp [c3]
    · simp [c, c2]; omega
theorem key_cmp {n : Int} {d e : List Int} (h8 : n ≤ 8) (hd : goodD n d = true) (he : goodD n e = true) : impl_WithDanger.cmp2 d e < 0 ↔ key d < key e := by
  have k1 := key_in h8 hd
  have k2 := key_in h8 he
  rw [impl_WithDanger.cmp2_neg]
  unfold key at *
  omega
def low : Option (List Int) → Int
  | none => 0
  | some q => key q + 1
theorem okD_count {n : Int} (h8 : n ≤ 8) : ∀ (l : List (List Int)) (p : Option (List Int)), okD n p l = true → (∀ q, p = some q → goodD n q = true) → low p + (l.length : Int) ≤ 64 ∧ l.Pairwise (fun a b => key a < key b) ∧ ∀ d ∈ l, low p ≤ key d
  | [], p, _, hp => by
    refine ⟨?_, List.Pairwise.nil, fun d hd => by simp at hd⟩
    cases p with
    | none => simp [low]
    | some q =>
      have := key_in h8 (hp q rfl)
      simp only [low, List.length_nil]
      omega
  | d :: t, p, h, hp => by
    rw [okD, Bool.and_eq_true, Bool.and_eq_true] at h
    obtain ⟨h1, h2, h3⟩ := okD_count h8 t (some d) h.2.2 (fun q e => by obtain rfl := Option.some.inj e; exact h.1)
    have hk := key_in h8 h.1
    have hlow : low p ≤ key d := by
      cases p with
      | none => exact hk.1
      | some q =>
        have h5 : lessD q d = true := h.2.1
        rw [key_less h8 (hp q rfl) h.1, decide_eq_true_eq] at h5
        simp only [low]
        omega
    simp only [low] at h1 h3
    refine ⟨by rw [List.length_cons]; omega, List.pairwise_cons.2 ⟨fun e he => by have := h3 e he; omega, h2⟩, fun e he => ?_⟩
    rcases List.mem_cons.1 he with e1 | e1
    · rw [e1]; exact hlow
    · have := h3 e e1
      omega
/-- A danger set in ahead of the first that is greater. -/
def insD (d : List Int) : List (List Int) → List (List Int)
  | [] => [d]
  | x :: xs => if lessD d x = true then d :: x :: xs else x :: insD d xs
theorem insD_perm (d : List Int) : ∀ l : List (List Int), (insD d l).Perm (l ++ [d])
  | [] => List.Perm.refl _
  | x :: xs => by
    rw [insD]
    split
    · exact (List.perm_append_comm (l₁ := [d]) (l₂ := x :: xs))
    · exact (insD_perm d xs).cons x
theorem insD_sorted {n : Int} {d : List Int} (h8 : n ≤ 8) (hd : goodD n d = true) : ∀ l : List (List Int), (∀ x ∈ l, goodD n x = true) → d ∉ l → l.Pairwise (fun a b => key a < key b) → (insD d l).Pairwise (fun a b => key a < key b)
  | [], _, _, _ => List.pairwise_singleton _ _
  | x :: xs, hg, hn, hp => by
    obtain ⟨h1, h2⟩ := List.pairwise_cons.1 hp
    have hx := hg x List.mem_cons_self
    rw [insD, key_less h8 hd hx]
    by_cases c : key d < key x
    · rw [if_pos (decide_eq_true c)]
      refine List.pairwise_cons.2 ⟨fun e he => ?_, hp⟩
      rcases List.mem_cons.1 he with e1 | e1
      · rw [e1]; exact c
      · have := h1 e e1
        omega
    · rw [if_neg (by simpa using c)]
      have hne : key d ≠ key x := fun e => hn (by rw [key_eq h8 hd hx e]; exact List.mem_cons_self)
      refine List.pairwise_cons.2 ⟨fun e he => ?_, insD_sorted h8 hd xs (fun y hy => hg y (List.mem_cons_of_mem _ hy)) (fun h => hn (List.mem_cons_of_mem _ h)) h2⟩
      rcases List.mem_append.1 ((insD_perm d xs).mem_iff.1 he) with e1 | e1
      · exact h1 e e1
      · rw [List.mem_singleton.1 e1]
        omega
theorem finmap (L : List (List Int)) : (List.finRange L.length).map (fun x => L[x.val]) = L := by
  apply List.ext_getElem
  · simp
  · intro i h1 h2
    simp
theorem sortL_perm (L : List (List Int)) : (impl_WithDanger.sortL L).Perm L := by
  unfold impl_WithDanger.sortL impl_WithDanger.order
  have h := (List.mergeSort_perm (List.finRange L.length) (fun x y => !decide (impl_WithDanger.cmp2 L[y.val] L[x.val] < 0))).map (fun x => L[x.val])
  rw [finmap] at h
  exact h
theorem sortL_sorted {n : Int} (h8 : n ≤ 8) (L : List (List Int)) (hg : ∀ x ∈ L, goodD n x = true) : (impl_WithDanger.sortL L).Pairwise (fun a b => key a ≤ key b) := by
  unfold impl_WithDanger.sortL impl_WithDanger.order
  rw [List.pairwise_map]
  have hk : ∀ x y : Fin L.length, (!decide (impl_WithDanger.cmp2 L[y.val] L[x.val] < 0)) = decide (key L[x.val] ≤ key L[y.val]) := by
    intro x y
    have h := key_cmp h8 (hg _ (List.getElem_mem y.isLt)) (hg _ (List.getElem_mem x.isLt))
    by_cases c : key L[y.val] < key L[x.val]
    · rw [decide_eq_true (h.2 c), decide_eq_false (by omega)]
      rfl
    · rw [decide_eq_false (fun e => c (h.1 e)), decide_eq_true (by omega)]
      rfl
  have h := List.pairwise_mergeSort (le := fun x y : Fin L.length => !decide (impl_WithDanger.cmp2 L[y.val] L[x.val] < 0)) (fun a b c h1 h2 => by
    rw [hk, decide_eq_true_eq] at *
    omega) (fun a b => by
    rw [hk, hk, Bool.or_eq_true, decide_eq_true_eq, decide_eq_true_eq]
    omega) (List.finRange L.length)
  exact h.imp (fun {a b} hab => by
    rw [hk] at hab
    exact of_decide_eq_true hab)
theorem sortL_ins {n : Int} {d : List Int} (h8 : n ≤ 8) (l : List (List Int)) (hd : goodD n d = true) (hg : ∀ x ∈ l, goodD n x = true) (hn : d ∉ l) (hp : l.Pairwise (fun a b => key a < key b)) : impl_WithDanger.sortL (l ++ [d]) = insD d l := by
  have hall : ∀ x ∈ l ++ [d], goodD n x = true := fun x hx => by
    rcases List.mem_append.1 hx with h | h
    · exact hg x h
    · rw [List.mem_singleton.1 h]; exact hd
  refine List.Perm.eq_of_pairwise (le := fun a b => key a ≤ key b) (fun a b ha hb h3 h4 => key_eq h8 (hall a ((sortL_perm _).mem_iff.1 ha)) (hall b ((insD_perm d l).mem_iff.1 hb)) (by omega)) (sortL_sorted h8 _ hall) ((insD_sorted h8 hd l hg hn hp).imp (fun h => by omega)) ((sortL_perm _).trans (insD_perm d l).symm)
theorem ins_nodup {n : Int} {d : List Int} (h8 : n ≤ 8) (l : List (List Int)) (hd : goodD n d = true) (hg : ∀ x ∈ l, goodD n x = true) (hn : d ∉ l) (hp : l.Pairwise (fun a b => key a < key b)) : (l ++ [d]).Nodup :=
  (insD_perm d l).nodup_iff.1 ((insD_sorted h8 hd l hg hn hp).imp (fun {a b} h e => by rw [e] at h; omega))
theorem same2_ev (c e a b : Int) (k : Nat) (hk : 3 ≤ k) : spec_l1Same.f k [c, e] [a, b] = some (decide (([c, e] : List Int) = [a, b])) := by
  obtain ⟨k, rfl⟩ : ∃ q, k = q + 3 := ⟨k - 3, by omega⟩
  unfold spec_l1Same.f
  simp only [spec_l1Same.l0, List.length_cons, List.length_nil]
  rw [show wrap64 (0 + 1) = 1 by unfold wrap64; omega, show wrap64 (1 + 1) = 2 by unfold wrap64; omega]
  simp only [rd0, rd1]
  by_cases h1 : c = a <;> by_cases h2 : e = b <;> simp [h1, h2]
theorem go_ev (n s a b : Int) (h8 : n ≤ 8) (hd : goodD n [a, b] = true) (k : Nat) (hk : 3 ≤ k) : ∀ (xs out : List (List Int)) (put : Bool), (∀ x ∈ xs, goodD n x = true) → out.length + xs.length + (if put = true then 0 else 1) < 1000000 →
    ∃ o, spec_WithDanger.go k [a, b] xs put out = some o ∧ spec_WithDanger.fin n s [a, b] o = some (if [a, b] ∈ xs then (0, [], 0, false) else (n, out ++ (if put = true then xs else insD [a, b] xs), s, true))
  | [], out, put, _, hl => by
    refine ⟨_, rfl, ?_⟩
    rw [List.length_nil] at hl
    cases put with
    | true => simp [spec_WithDanger.fin]
    | false =>
      simp only [spec_WithDanger.fin]
      rw [if_pos (by omega)]
      simp [insD]
  | x :: xs, out, put, hg, hl => by
    have hx := hg x List.mem_cons_self
    have hx2 := key_in h8 hx
    obtain ⟨c, e, rfl, _⟩ := goodD_form hx
    rw [List.length_cons] at hl
    have hl2 : ([c, e] : List Int).length < 1048576 := by simp
    have hgs : ∀ x ∈ xs, goodD n x = true := fun y hy => hg y (List.mem_cons_of_mem _ hy)
    rw [spec_WithDanger.go, same2_ev c e a b k hk, bindsome]
    by_cases hs : ([c, e] : List Int) = [a, b]
    · rw [if_pos (decide_eq_true hs)]
      refine ⟨_, rfl, ?_⟩
      rw [if_pos (by rw [hs]; exact List.mem_cons_self)]
      rfl
    · rw [if_neg (by simpa using hs), if_pos ⟨by omega, hl2⟩]
      have hmem : ([a, b] ∈ [c, e] :: xs) ↔ ([a, b] ∈ xs) := by
        rw [List.mem_cons]
        exact ⟨fun h => h.resolve_left (fun h => hs h.symm), .inr⟩
      simp only [hmem]
      cases put with
      | true =>
        rw [if_pos rfl]
        obtain ⟨o, h1, h2⟩ := go_ev n s a b h8 hd k hk xs (out ++ [[c, e]]) true hgs (by rw [if_pos rfl] at hl; rw [if_pos rfl, List.length_append, List.length_singleton]; omega)
        refine ⟨o, h1, h2.trans ?_⟩
        simp
      | false =>
        rw [if_neg (by simp), keBefore_ev, bindsome]
        simp only [insD]
        by_cases hb : lessD [a, b] [c, e] = true
        · rw [if_pos hb]
          obtain ⟨o, h1, h2⟩ := go_ev n s a b h8 hd k hk xs (out ++ [[a, b]] ++ [[c, e]]) true hgs (by rw [if_neg (by simp)] at hl; rw [if_pos rfl, List.length_append, List.length_append, List.length_singleton, List.length_singleton]; omega)
          refine ⟨o, h1, h2.trans ?_⟩
          simp [hb]
        · rw [if_neg hb]
          obtain ⟨o, h1, h2⟩ := go_ev n s a b h8 hd k hk xs (out ++ [[c, e]]) false hgs (by rw [if_neg (by simp)] at hl; rw [if_neg (by simp), List.length_append, List.length_singleton]; omega)
          refine ⟨o, h1, h2.trans ?_⟩
          simp [hb]

end Go.Proofs.Ytomiikbcahocaaa.Pure
