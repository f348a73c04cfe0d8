/- What marking a list of lists of ints comes to.
   Conditions: stated with each. -/
import Derived.Test.YtomiikbcahocaaaPureIntSSWd
import Derived.Test.YtomiikbcahocaaaPureIntMarkWd
import Derived.Test.YtomiikbcahocaaaGWdx1
import Derived.Test.YtomiikbcahocaaaGWdx8
namespace Go.Proofs.Ytomiikbcahocaaa.Pure
open Go.RowKit Go.Proofs.Ytomiikbcahocaaa.G Go.Proofs.YtomiikbcahocaaaW.PrintWords

/-- All lengths together. -/
def sumL : List (List Int) → Nat
  | [] => 0
  | x :: t => x.length + sumL t
/-- The lists, marked one behind the other. -/
def seqSS (a : Int) : List (List Int) → List (List Int)
  | [] => []
  | x :: t => seqI a x.length :: seqSS (a + x.length) t
theorem sumL_le : ∀ (l : List (List Int)), (∀ x ∈ l, x.length ≤ 1048576) → sumL l ≤ l.length * 1048576
  | [], _ => by simp [sumL]
  | x :: t, h => by
    have h1 := sumL_le t (fun y hy => h y (List.mem_cons_of_mem _ hy))
    have h2 := h x List.mem_cons_self
    simp only [sumL, List.length_cons]
    omega
theorem markIntSS_l0 (k2 : Nat) : ∀ (q p : List (List Int)) (a : Int) (k : Nat), q.length < k → (∀ x ∈ q, x.length < k2) → 0 ≤ a → a + sumL q ≤ 4611686018427387904 → p.length + q.length ≤ 1048576 →
    laws_markIntSS.l0 k2 k (p ++ q) a (p.length : Int) = some (a + (sumL q : Int), p ++ seqSS a q) := by
  intro q
  induction q with
  | nil =>
    intro p a k hk hb ha hs hp
    obtain ⟨k, rfl⟩ : ∃ z, k = z + 1 := ⟨k - 1, by omega⟩
    simp only [laws_markIntSS.l0, List.append_nil]
    rw [if_neg (by omega)]
    simp [sumL, seqSS]
  | cons x t ih =>
    intro p a k hk hb ha hs hp
    obtain ⟨k, rfl⟩ : ∃ z, k = z + 1 := ⟨k - 1, by omega⟩
    simp only [List.length_cons] at hk hp
    simp only [sumL] at hs
    have hx := hb x List.mem_cons_self
    have hg : (p ++ x :: t).getD p.length [] = x := by simp
    have hset : ∀ y : List Int, (p ++ x :: t).set p.length y = (p ++ [y]) ++ t := by intro y; simp
    simp only [laws_markIntSS.l0]
    rw [if_pos (by simp; omega), if_pos (by omega), Int.toNat_natCast, hg, markIntS_ev x a ha (by omega) k2 hx, bindsome]
    dsimp only
    rw [hset, show wrap64 ((p.length : Int) + 1) = ((p ++ [seqI a x.length]).length : Int) by unfold wrap64; simp; omega]
    rw [ih (p ++ [seqI a x.length]) (a + x.length) k (by omega) (fun y hy => hb y (List.mem_cons_of_mem _ hy)) (by omega) (by omega) (by simp; omega)]
    simp only [sumL, seqSS, List.append_assoc, List.cons_append, List.nil_append]
    rw [show a + (x.length : Int) + (sumL t : Int) = a + ((x.length + sumL t : Nat) : Int) by omega]
theorem markIntSS_ev (l : List (List Int)) (a : Int) (hl : l.length ≤ 1048576) (hb : ∀ x ∈ l, x.length ≤ 1048576) (ha : 0 ≤ a) (ha1 : a ≤ 4398046511104) (k : Nat) (hk : l.length + 1048576 < k) : laws_markIntSS.f k l a = some (a + (sumL l : Int), seqSS a l) := by
  unfold laws_markIntSS.f
  have h1 := sumL_le l hb
  have h := markIntSS_l0 k l [] a k (by omega) (fun x hx => by have := hb x hx; omega) ha (by omega) (by simp; omega)
  simpa using h
theorem seqSS_length (a : Int) : ∀ (l : List (List Int)), (seqSS a l).length = l.length := by
  intro l
  induction l generalizing a with
  | nil => rfl
  | cons x t ih => simp [seqSS, ih]
theorem heldIntSS_l0 : ∀ (q p : List (List Int)) (a : Int) (k : Nat), q.length + 1048576 < k → (∀ x ∈ q, x.length ≤ 1048576) → 0 ≤ a → a + sumL q ≤ 4611686018427387904 → p.length + q.length ≤ 1048576 →
    laws_heldIntSS.l0 k (p ++ seqSS a q) a (p.length : Int) = some (a + (sumL q : Int)) := by
  intro q
  induction q with
  | nil =>
    intro p a k hk hb ha hs hp
    obtain ⟨k, rfl⟩ : ∃ z, k = z + 1 := ⟨k - 1, by omega⟩
    simp only [laws_heldIntSS.l0, seqSS, List.append_nil]
    rw [if_neg (by omega)]
    simp [sumL]
  | cons x t ih =>
    intro p a k hk hb ha hs hp
    obtain ⟨k, rfl⟩ : ∃ z, k = z + 1 := ⟨k - 1, by omega⟩
    simp only [List.length_cons] at hk hp
    simp only [sumL] at hs
    have hx := hb x List.mem_cons_self
    have hlt : p.length < (p ++ seqSS a (x :: t)).length := by simp [seqSS]
    have hg : (p ++ seqSS a (x :: t))[p.length] = seqI a x.length := by simp [seqSS]
    have happ : p ++ seqSS a (x :: t) = (p ++ [seqI a x.length]) ++ seqSS (a + x.length) t := by simp [seqSS]
    simp only [laws_heldIntSS.l0]
    rw [if_pos (by omega), if_pos (by omega), rdll _ p.length hlt, hg, heldIntS_ev x.length a ha (by omega) k (by omega), bindsome, if_neg (by omega)]
    rw [happ, show wrap64 ((p.length : Int) + 1) = ((p ++ [seqI a x.length]).length : Int) by unfold wrap64; simp; omega]
    rw [ih (p ++ [seqI a x.length]) (a + x.length) k (by omega) (fun y hy => hb y (List.mem_cons_of_mem _ hy)) (by omega) (by omega) (by simp; omega)]
    simp only [sumL]
    rw [show a + (x.length : Int) + (sumL t : Int) = a + ((x.length + sumL t : Nat) : Int) by omega]
theorem heldIntSS_ev (l : List (List Int)) (a : Int) (hl : l.length ≤ 1048576) (hb : ∀ x ∈ l, x.length ≤ 1048576) (ha : 0 ≤ a) (ha1 : a ≤ 1000000000) (k : Nat) (hk : l.length + 1048576 < k) : laws_heldIntSS.f k (seqSS a l) a = some (a + (sumL l : Int)) := by
  unfold laws_heldIntSS.f
  have h1 := sumL_le l hb
  have h := heldIntSS_l0 l [] a k hk hb ha (by omega) (by simp; omega)
  simpa using h

end Go.Proofs.Ytomiikbcahocaaa.Pure
