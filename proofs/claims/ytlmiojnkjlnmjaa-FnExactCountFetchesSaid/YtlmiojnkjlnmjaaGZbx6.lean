-- Laid by wip/gprint.py (the session's own program, round the kit's printer) for this claim.
import Derived.Test.YtlmiojnkjlnmjaaGZbx0
import Derived.Test.YtlmiojnkjlnmjaaGZbx1
import Derived.Test.YtlmiojnkjlnmjaaGZbx2
import Derived.Test.YtlmiojnkjlnmjaaGZbx3
import Derived.Test.YtlmiojnkjlnmjaaGZbx4
import Derived.Test.YtlmiojnkjlnmjaaGZbx5
namespace Go.Proofs.Ytlmiojnkjlnmjaa.G
open Go.RowKit Go.Proofs.YtlmiojnkjlnmjaaW.PrintWords Go.Proofs.YtlmiojnkjlnmjaaW.PrintLast Go.Proofs.YtlmiojnkjlnmjaaW.PrintMore
attribute [local go_sem] max2_int min2_int max_two min_two max_three min_three max_four min_four   -- for this text's walks alone
set_option linter.unusedVariables false
set_option linter.unusedSimpArgs false

/-! ### laws_FnExactEscortPlan: function 13 -/
theorem laws_FnExactEscortPlan.newR {α : Type} {d : Kd α} {e T : Nat} {w W W' : World} {v : Value} {xs : List α} (h : d.R e W' W.heap.size (fun _ => True) v xs) (ht : T ≤ W.heap.size) (hw : w.heap.size ≤ W.heap.size) (hs : W.heap.size ≤ W'.heap.size) : ∃ lo hi : Nat, (T ≤ lo ∧ lo ≤ hi) ∧ hi ≤ W'.heap.size ∧ d.R e W' w.heap.size (fun k_ => lo ≤ k_ ∧ k_ < hi) v xs :=
  ⟨W.heap.size, W'.heap.size, ⟨ht, hs⟩, Nat.le_refl _, Kd.R_lower (Kd.R_mono (Kd.R_bound h) (fun _ hk => ⟨hk.2.1, hk.2.2.1⟩)) hw⟩
theorem laws_FnExactEscortPlan.newS {α : Type} {d : Kd α} {e T : Nat} {w W W' : World} {v : Value} {xs : List α} (h : Kd.S d e W' W.heap.size (fun _ => True) v xs) (ht : T ≤ W.heap.size) (hw : w.heap.size ≤ W.heap.size) (hs : W.heap.size ≤ W'.heap.size) : ∃ lo hi : Nat, (T ≤ lo ∧ lo ≤ hi) ∧ hi ≤ W'.heap.size ∧ Kd.S d e W' w.heap.size (fun k_ => lo ≤ k_ ∧ k_ < hi) v xs :=
  ⟨W.heap.size, W'.heap.size, ⟨ht, hs⟩, Nat.le_refl _, Kd.S_lower (Kd.S_mono (Kd.S_bound h) (fun _ hk => ⟨hk.2.1, hk.2.2.1⟩)) hw⟩
theorem laws_FnExactEscortPlan.newN {α : Type} {d : Kd α} {e T : Nat} {w W W' : World} {v : Value} {xs : List α} (h : Kd.N d e W' W.heap.size (fun k_ => W.heap.size ≤ k_) v xs) (ht : T ≤ W.heap.size) (hw : w.heap.size ≤ W.heap.size) (hs : W.heap.size ≤ W'.heap.size) : ∃ lo hi : Nat, (T ≤ lo ∧ lo ≤ hi) ∧ hi ≤ W'.heap.size ∧ Kd.N d e W' w.heap.size (fun k_ => lo ≤ k_ ∧ k_ < hi) v xs :=
  ⟨W.heap.size, W'.heap.size, ⟨ht, hs⟩, Nat.le_refl _, Kd.N_lower (Kd.N_mono (Kd.N_bound h) (fun _ hk => hk)) hw⟩
theorem laws_FnExactEscortPlan.grownN {α : Type} {d : Kd α} {e b lo hi g : Nat} {W W' : World} {v : Value} {xs : List α} (h : Kd.N d e W b (fun k_ => lo ≤ k_ ∧ k_ < hi) v xs) (hg : W.grownBy W' (some g)) (hne : g < lo ∨ hi ≤ g) : Kd.N d e W' b (fun k_ => lo ≤ k_ ∧ k_ < hi) v xs :=
  Kd.N_grown h hg (fun k hk he => by injection he with he; have h1 := hk.1; have h2 := hk.2; omega)
theorem laws_FnExactEscortPlan.keptN {α : Type} {d : Kd α} {e b lo hi lo' hi' : Nat} {W W' : World} {v : Value} {xs : List α} (h : Kd.N d e W b (fun k_ => lo ≤ k_ ∧ k_ < hi) v xs) (hk : Kept W W' (fun k_ => lo' ≤ k_ ∧ k_ < hi')) (hne : hi ≤ lo' ∨ hi' ≤ lo) : Kd.N d e W' b (fun k_ => lo ≤ k_ ∧ k_ < hi) v xs :=
  Kd.N_kept h hk (fun k h1 h2 => by have h3 := h1.1; have h4 := h1.2; have h5 := h2.1; have h6 := h2.2; omega)
theorem laws_FnExactEscortPlan.grownR {α : Type} {d : Kd α} {e b lo hi g : Nat} {W W' : World} {v : Value} {xs : List α} (h : d.R e W b (fun k_ => lo ≤ k_ ∧ k_ < hi) v xs) (hg : W.grownBy W' (some g)) (hne : g < lo ∨ hi ≤ g) : d.R e W' b (fun k_ => lo ≤ k_ ∧ k_ < hi) v xs :=
  Kd.R_grown h hg (fun k hk he => by injection he with he; have h1 := hk.1; have h2 := hk.2; omega)
theorem laws_FnExactEscortPlan.grownS {α : Type} {d : Kd α} {e b lo hi g : Nat} {W W' : World} {v : Value} {xs : List α} (h : Kd.S d e W b (fun k_ => lo ≤ k_ ∧ k_ < hi) v xs) (hg : W.grownBy W' (some g)) (hne : g < lo ∨ hi ≤ g) : Kd.S d e W' b (fun k_ => lo ≤ k_ ∧ k_ < hi) v xs :=
  Kd.S_grown h hg (fun k hk he => by injection he with he; have h1 := hk.1; have h2 := hk.2; omega)
theorem laws_FnExactEscortPlan.keptR {α : Type} {d : Kd α} {e b lo hi lo' hi' : Nat} {W W' : World} {v : Value} {xs : List α} (h : d.R e W b (fun k_ => lo ≤ k_ ∧ k_ < hi) v xs) (hk : Kept W W' (fun k_ => lo' ≤ k_ ∧ k_ < hi')) (hne : hi ≤ lo' ∨ hi' ≤ lo) : d.R e W' b (fun k_ => lo ≤ k_ ∧ k_ < hi) v xs :=
  Kd.R_kept h hk (fun k h1 h2 => by have h3 := h1.1; have h4 := h1.2; have h5 := h2.1; have h6 := h2.2; omega)
theorem laws_FnExactEscortPlan.keptS {α : Type} {d : Kd α} {e b lo hi lo' hi' : Nat} {W W' : World} {v : Value} {xs : List α} (h : Kd.S d e W b (fun k_ => lo ≤ k_ ∧ k_ < hi) v xs) (hk : Kept W W' (fun k_ => lo' ≤ k_ ∧ k_ < hi')) (hne : hi ≤ lo' ∨ hi' ≤ lo) : Kd.S d e W' b (fun k_ => lo ≤ k_ ∧ k_ < hi) v xs :=
  Kd.S_kept h hk (fun k h1 h2 => by have h3 := h1.1; have h4 := h1.2; have h5 := h2.1; have h6 := h2.2; omega)
theorem laws_FnExactEscortPlan.keptB {lo hi g : Nat} {o : Obj} {W W' : World} (h : W.heap[g]? = some o) (hk : Kept W W' (fun k_ => lo ≤ k_ ∧ k_ < hi)) (hne : g < lo ∨ hi ≤ g) : W'.heap[g]? = some o :=
  blk_kept h hk (fun h2 => by have h5 := h2.1; have h6 := h2.2; omega)
theorem laws_FnExactEscortPlan.grownB {g g' : Nat} {o : Obj} {W W' : World} (h : W.heap[g]? = some o) (hg : W.grownBy W' (some g')) (hne : g ≠ g') : W'.heap[g]? = some o :=
  (hg.block g (blk_lt h) (fun he => hne (by injection he))).trans h
theorem laws_FnExactEscortPlan.runs {P : Program} {W : World} {g T : Nat} {cur : Array Value} (t : TypeId) (u : Value) (new : List Value) (hb : W.heap[g]? = some (.cells cur T (0, 0))) (hu : u.cells.toList = new) (ht : (P.info? t).map (·.size) = some new.length) (hsz : new.length = cur.size) (h1 : ∀ q ∈ new, q.oneCell' = true) :
    ∃ w1, (Instr.storeAt t (.pointer (some ⟨g, 0, none⟩)) u).run P W = .ok () w1 ∧ w1.heap[g]? = some (.cells new.toArray T (0, 0)) ∧ W.grownBy w1 (some g) := by
  refine ⟨W.setCells g 0 new, run_store_run t u new hb hu ht (by omega) h1, ?_, ?_⟩
  · obtain ⟨cur', c1, c2, c3⟩ := setCells_row new 0 W cur hb (by omega)
    rw [c1]
    rw [List.take_zero, List.nil_append, Nat.zero_add, hsz, List.drop_eq_nil_of_le (by rw [Array.length_toList]; omega), List.append_nil] at c3
    rw [← c3]
  · obtain ⟨s1, s2, s3, s4⟩ := setCells_same g new 0 W
    exact ⟨s1, s2, s3, by rw [s4]; exact Nat.le_refl _, fun k _ hk => setCells_far _ _ k (fun he => hk (by rw [he]))⟩
theorem laws_FnExactEscortPlan.store {P : Program} {ops : Array Oper} {rest : List Oper} {o : Oper} {a : Act} {Q : Exit → Act → World → Prop} {W : World} (hgd : o.guard = none) (hN : o.dst = none) {t : TypeId} {p : Tmp} {x : Operand} (ho : o.op = .store t (.tmp p) x) (g T : Nat) (cur : Array Value) (u : Value) (new : List Value) (haddr : a.eval (.tmp p) = .pointer (some ⟨g, 0, none⟩)) (hx : a.eval x = u) (hb : W.heap[g]? = some (.cells cur T (0, 0))) (hu : u.cells.toList = new) (ht : (P.info? t).map (·.size) = some new.length) (hsz : new.length = cur.size) (h1 : ∀ q ∈ new, q.oneCell' = true)
    (h : ∀ w1, w1.heap[g]? = some (.cells new.toArray T (0, 0)) → W.grownBy w1 (some g) → wpList P ops Q rest a w1) : wpList P ops Q (o :: rest) a W := by
  obtain ⟨w1, hrun, h2, h3⟩ := laws_FnExactEscortPlan.runs (P := P) t u new hb hu ht hsz h1
  refine wpList_plain hgd fun K hK => ?_
  unfold Oper.wp execOp
  simp only [ho, haddr, hx, Sem.run_bind, Sem.run_pure, Result.andThen_ok, hrun]
  show K (a.put o.dst undef) _
  rw [hN]
  exact hK _ _ (h w1 h2 h3)
theorem laws_FnExactEscortPlan.storeK {P : Program} {ops : Array Oper} {o : Oper} {a : Act} {Q : Exit → Act → World → Prop} {Kc : Act → World → Prop} {W : World} (hw : Region.wanted o (yielded ops a.tmps) = true) (hN : o.dst = none) {t : TypeId} {p : Tmp} {x : Operand} (ho : o.op = .store t (.tmp p) x) (g T : Nat) (cur : Array Value) (u : Value) (new : List Value) (haddr : a.eval (.tmp p) = .pointer (some ⟨g, 0, none⟩)) (hx : a.eval x = u) (hb : W.heap[g]? = some (.cells cur T (0, 0))) (hu : u.cells.toList = new) (ht : (P.info? t).map (·.size) = some new.length) (hsz : new.length = cur.size) (h1 : ∀ q ∈ new, q.oneCell' = true)
    (h : ∀ w1, w1.heap[g]? = some (.cells new.toArray T (0, 0)) → W.grownBy w1 (some g) → Kc a w1) : if Region.wanted o (yielded ops a.tmps) = true then Oper.wp P o a W Kc Q else Kc (a.put none undef) W := by
  obtain ⟨w1, hrun, h2, h3⟩ := laws_FnExactEscortPlan.runs (P := P) t u new hb hu ht hsz h1
  rw [if_pos hw]
  unfold Oper.wp execOp
  simp only [ho, haddr, hx, Sem.run_bind, Sem.run_pure, Result.andThen_ok, hrun]
  show Kc (a.put o.dst undef) _
  rw [hN]
  exact h w1 h2 h3
def laws_FnExactEscortPlan.f (k : Nat) (l0 : List Int) : Option Bool := if (l0.length : Int) > 1048576 then some true else ((laws_toIntS.f k l0).bind fun b1 => ((spec_EscortPlan.f k b1).bind fun b4 => ((laws_toIntS.f k l0).bind fun b8 => ((impl_EscortPlan.f k b8).bind fun b11 => ((laws_eqIntSS.f k b11.1 b4.1).bind fun b15 => (if b15 = true then (if (b11.2 != b4.2) = true then none else ((laws_toIntS.f k l0).bind fun b17 => ((laws_eqIntS.f k b8 b17).bind fun b20 => (if b20 = true then ((laws_markIntS.f k b8 1).bind fun b22 => ((laws_eqIntSS.f k b11.1 b4.1).bind fun b25 => (if b22.1 < 0 then none else (if b25 = true then (if (b11.2 != b4.2) = true then none else ((laws_markIntSS.f k b11.1 1).bind fun b27 => ((laws_heldIntSS.f k b27.2 1).bind fun b30 => (if b30 < 0 then none else (if b30 = b27.1 then ((laws_toIntS.f k l0).bind fun b32 => ((impl_EscortPlan.f k b32).bind fun b35 => ((laws_eqIntSS.f k b35.1 b4.1).bind fun b39 => (if b39 = true then (if (b35.2 != b4.2) = true then none else ((laws_heldIntSS.f k b27.2 1).bind fun b41 => (if b41 < 0 then none else (if b41 = b27.1 then (some true) else none)))) else none)))) else none))))) else none)))) else none)))) else none))))))
set_option maxHeartbeats 16000000 in
set_option maxRecDepth 100000 in
theorem laws_FnExactEscortPlan.calls (k : Nat) (A0 : Option Addr) (c0 : Nat) (l0 : List Int) (r : Bool) (w : World) (hr0 : Kd.C (Kd.int .i64) w A0 l0.length l0) (hc0 : l0.length ≤ c0) (h : laws_FnExactEscortPlan.f k l0 = some r) :
    Calls Try.prog 13 #[.slice A0 l0.length c0] w fun e w' => e = .returned (.bool r) ∧ Below w.heap.size w w' := by
  have HR0 := Aside0.mk hr0
  have HC0 := Aside0.mk hc0
  clear hr0 hc0
  have HB := Aside0.mk (Below.refl w.heap.size w)
  have HT := Aside0.mk (Nat.le_refl w.heap.size)
  have HN := Aside0.mk trivial
  have H := h
  unfold laws_FnExactEscortPlan.f at H
  clear h
  by_cases c43 : (l0.length : Int) > 1048576
  · rw [if_pos c43] at H
    have c43b0 : decide (1048576 < (l0.length : Int)) = true := decide_eq_true c43
    have c43b1 : decide (1048576 < l0.length) = true := decide_eq_true (by omega)
    clear c43
    obtain rfl := Option.some.inj H
    go_enter Try.func13, Try.ntmps13
    try go_wp2
    go_ret
    exact ⟨by first | rfl | (simp; done) | (simp [*]; done), HB.out⟩
  rw [if_neg c43] at H
  have c43b0 : decide (1048576 < (l0.length : Int)) = false := decide_eq_false c43
  have c43b1 : decide (1048576 < l0.length) = false := decide_eq_false (by omega)
  clear c43
  obtain ⟨t2, AQ1_, H⟩ := Option.bind_eq_some_iff.mp H
  have AQ1 := Aside0.mk AQ1_
  clear AQ1_
  (try dsimp only at AQ1 H)
  obtain ⟨⟨t5, t6⟩, AQ4_, H⟩ := Option.bind_eq_some_iff.mp H
  have AQ4 := Aside0.mk AQ4_
  clear AQ4_
  (try dsimp only at AQ4 H)
  obtain ⟨t9, AQ8_, H⟩ := Option.bind_eq_some_iff.mp H
  have AQ8 := Aside0.mk AQ8_
  clear AQ8_
  (try dsimp only at AQ8 H)
  obtain ⟨⟨t12, t13⟩, AQ11_, H⟩ := Option.bind_eq_some_iff.mp H
  have AQ11 := Aside0.mk AQ11_
  clear AQ11_
  (try dsimp only at AQ11 H)
  obtain ⟨t16, AQ15_, H⟩ := Option.bind_eq_some_iff.mp H
  have AQ15 := Aside0.mk AQ15_
  clear AQ15_
  (try dsimp only at AQ15 H)
  rcases t16 with _ | _
  · rw [if_neg (by decide)] at H; cases H
  rw [if_pos rfl] at H
  by_cases c44 : (t13 != t6) = true
  · rw [if_pos c44] at H; cases H
  rw [if_neg c44] at H
  have c44b0 : (t13 != t6) = false := by simpa using c44
  have c44b1 : decide (t13 = t6) = true := by simpa using c44
  have c44b2 : (t13 == t6) = true := by simpa using c44
  clear c44
  obtain ⟨t18, AQ17_, H⟩ := Option.bind_eq_some_iff.mp H
  have AQ17 := Aside0.mk AQ17_
  clear AQ17_
  (try dsimp only at AQ17 H)
  obtain ⟨t21, AQ20_, H⟩ := Option.bind_eq_some_iff.mp H
  have AQ20 := Aside0.mk AQ20_
  clear AQ20_
  (try dsimp only at AQ20 H)
  rcases t21 with _ | _
  · rw [if_neg (by decide)] at H; cases H
  rw [if_pos rfl] at H
  obtain ⟨⟨t23, t24⟩, AQ22_, H⟩ := Option.bind_eq_some_iff.mp H
  have AQ22 := Aside0.mk AQ22_
  clear AQ22_
  (try dsimp only at AQ22 H)
  obtain ⟨t26, AQ25_, H⟩ := Option.bind_eq_some_iff.mp H
  have AQ25 := Aside0.mk AQ25_
  clear AQ25_
  (try dsimp only at AQ25 H)
  by_cases c45 : t23 < 0
  · rw [if_pos c45] at H; cases H
  rw [if_neg c45] at H
  have c45b0 : decide (t23 < 0) = false := decide_eq_false c45
  clear c45
  rcases t26 with _ | _
  · rw [if_neg (by decide)] at H; cases H
  rw [if_pos rfl] at H
  by_cases c46 : (t13 != t6) = true
  · rw [if_pos c46] at H; cases H
  rw [if_neg c46] at H
  have c46b0 : (t13 != t6) = false := by simpa using c46
  have c46b1 : decide (t13 = t6) = true := by simpa using c46
  have c46b2 : (t13 == t6) = true := by simpa using c46
  clear c46
  obtain ⟨⟨t28, t29⟩, AQ27_, H⟩ := Option.bind_eq_some_iff.mp H
  have AQ27 := Aside0.mk AQ27_
  clear AQ27_
  (try dsimp only at AQ27 H)
  obtain ⟨t31, AQ30_, H⟩ := Option.bind_eq_some_iff.mp H
  have AQ30 := Aside0.mk AQ30_
  clear AQ30_
  (try dsimp only at AQ30 H)
  by_cases c47 : t31 < 0
  · rw [if_pos c47] at H; cases H
  rw [if_neg c47] at H
  have c47b0 : decide (t31 < 0) = false := decide_eq_false c47
  clear c47
  by_cases c48 : t31 = t28
  rotate_left
  · rw [if_neg c48] at H; cases H
  rw [if_pos c48] at H
  have c48b0 : (t31 == t28) = true := beq_iff_eq.mpr c48
  have c48b1 : (t31 != t28) = false := bne_eq_false_iff_eq.mpr c48
  clear c48
  obtain ⟨t33, AQ32_, H⟩ := Option.bind_eq_some_iff.mp H
  have AQ32 := Aside0.mk AQ32_
  clear AQ32_
  (try dsimp only at AQ32 H)
  obtain ⟨⟨t36, t37⟩, AQ35_, H⟩ := Option.bind_eq_some_iff.mp H
  have AQ35 := Aside0.mk AQ35_
  clear AQ35_
  (try dsimp only at AQ35 H)
  obtain ⟨t40, AQ39_, H⟩ := Option.bind_eq_some_iff.mp H
  have AQ39 := Aside0.mk AQ39_
  clear AQ39_
  (try dsimp only at AQ39 H)
  rcases t40 with _ | _
  · rw [if_neg (by decide)] at H; cases H
  rw [if_pos rfl] at H
  by_cases c49 : (t37 != t6) = true
  · rw [if_pos c49] at H; cases H
  rw [if_neg c49] at H
  have c49b0 : (t37 != t6) = false := by simpa using c49
  have c49b1 : decide (t37 = t6) = true := by simpa using c49
  have c49b2 : (t37 == t6) = true := by simpa using c49
  clear c49
  obtain ⟨t42, AQ41_, H⟩ := Option.bind_eq_some_iff.mp H
  have AQ41 := Aside0.mk AQ41_
  clear AQ41_
  (try dsimp only at AQ41 H)
  by_cases c50 : t42 < 0
  · rw [if_pos c50] at H; cases H
  rw [if_neg c50] at H
  have c50b0 : decide (t42 < 0) = false := decide_eq_false c50
  clear c50
  by_cases c51 : t42 = t28
  rotate_left
  · rw [if_neg c51] at H; cases H
  rw [if_pos c51] at H
  have c51b0 : (t42 == t28) = true := beq_iff_eq.mpr c51
  have c51b1 : (t42 != t28) = false := bne_eq_false_iff_eq.mpr c51
  clear c51
  obtain rfl := Option.some.inj H
  clear H
  go_enter Try.func13, Try.ntmps13
  try go_wp2_with (first | ((with_reducible refine gate_dst (N := 18) rfl ?_); refine goesL_ (some 18) rfl rfl Try.func20 (by kernel_rfl) rfl #[.slice A0 l0.length c0] rfl (by (try simp only [List.map_toArray, List.map_cons, List.map_nil]); first | done | rfl) ?_; (with_reducible refine (laws_toIntS.calls k _ _ l0 t2 _ (Kd.C_below HR0.out HB.out) HC0.out AQ1.out).mono ?_); rintro e W1 ⟨v3, rfl, ho3, hb⟩; refine ⟨_, rfl, ?_⟩; obtain ⟨B3, d3, e_⟩ := Kd.R_slice ho3; subst e_; obtain ⟨lo3, hi3, nn, ht_, hO3⟩ := laws_FnExactEscortPlan.newR ho3 HT.out (below_size HB.out) hb.size; replace HB := Aside0.mk (below_step HB.out hb); replace HT := Aside0.mk (Nat.le_trans HT.out hb.size); have HO3 := Aside0.mk hO3; replace HT := Aside0.mk ht_; replace HN := Aside0.mk (And.intro nn HN.out); clear ho3 hO3 nn ht_; clear hb) | ((with_reducible refine gate_dst (N := 19) rfl ?_); refine goesL_ (some 19) rfl rfl Try.func49 (by kernel_rfl) rfl #[.slice B3 t2.length d3] rfl (by (try simp only [List.map_toArray, List.map_cons, List.map_nil]); first | done | rfl) ?_; (with_reducible refine (spec_EscortPlan.calls k _ _ t2 t5 t6 _ (Kd.R_reads' HO3.out).2.2 (Kd.R_reads' HO3.out).2.1 AQ4.out).mono ?_); rintro e W2 ⟨v7, rfl, ho7, hb⟩; refine ⟨_, rfl, ?_⟩; obtain ⟨B7, d7, e_⟩ := Kd.N_slice ho7; subst e_; obtain ⟨lo7, hi7, nn, ht_, hO7⟩ := laws_FnExactEscortPlan.newN ho7 HT.out (below_size HB.out) hb.size; replace HO3 := Aside0.mk (Kd.R_below HO3.out hb); replace HB := Aside0.mk (below_step HB.out hb); replace HT := Aside0.mk (Nat.le_trans HT.out hb.size); have HO7 := Aside0.mk hO7; replace HT := Aside0.mk ht_; replace HN := Aside0.mk (And.intro nn HN.out); clear ho7 hO7 nn ht_; clear hb; clear HO3) | ((with_reducible refine gate_dst (N := 23) rfl ?_); refine goesL_ (some 23) rfl rfl Try.func20 (by kernel_rfl) rfl #[.slice A0 l0.length c0] rfl (by (try simp only [List.map_toArray, List.map_cons, List.map_nil]); first | done | rfl) ?_; (with_reducible refine (laws_toIntS.calls k _ _ l0 t9 _ (Kd.C_below HR0.out HB.out) HC0.out AQ8.out).mono ?_); rintro e W3 ⟨v10, rfl, ho10, hb⟩; refine ⟨_, rfl, ?_⟩; obtain ⟨B10, d10, e_⟩ := Kd.R_slice ho10; subst e_; obtain ⟨lo10, hi10, nn, ht_, hO10⟩ := laws_FnExactEscortPlan.newR ho10 HT.out (below_size HB.out) hb.size; replace HO7 := Aside0.mk (Kd.N_below HO7.out hb); replace HB := Aside0.mk (below_step HB.out hb); replace HT := Aside0.mk (Nat.le_trans HT.out hb.size); have HO10 := Aside0.mk hO10; replace HT := Aside0.mk ht_; replace HN := Aside0.mk (And.intro nn HN.out); clear ho10 hO10 nn ht_; clear hb) | ((with_reducible refine gate_dst (N := 26) rfl ?_); refine goesL_ (some 26) rfl rfl Try.func50 (by kernel_rfl) rfl #[.slice B10 t9.length d10] rfl (by (try simp only [List.map_toArray, List.map_cons, List.map_nil]); first | done | rfl) ?_; (with_reducible refine (impl_EscortPlan.calls k _ _ t9 t12 t13 _ (Kd.R_reads' HO10.out).2.2 (Kd.R_reads' HO10.out).2.1 AQ11.out).mono ?_); rintro e W4 ⟨v14, rfl, ho14, hb⟩; refine ⟨_, rfl, ?_⟩; obtain ⟨B14, d14, e_⟩ := Kd.S_slice ho14; subst e_; obtain ⟨lo14, hi14, nn, ht_, hO14⟩ := laws_FnExactEscortPlan.newS ho14 HT.out (below_size HB.out) hb.size; replace HO7 := Aside0.mk (Kd.N_below HO7.out hb); replace HO10 := Aside0.mk (Kd.R_below HO10.out hb); replace HB := Aside0.mk (below_step HB.out hb); replace HT := Aside0.mk (Nat.le_trans HT.out hb.size); have HO14 := Aside0.mk hO14; replace HT := Aside0.mk ht_; replace HN := Aside0.mk (And.intro nn HN.out); clear ho14 hO14 nn ht_; clear hb) | ((with_reducible refine gate_dst (N := 31) rfl ?_); refine goesL_ (some 31) rfl rfl Try.func51 (by kernel_rfl) rfl #[.slice B14 t12.length d14, .slice B7 t5.length d7] rfl (by (try simp only [List.map_toArray, List.map_cons, List.map_nil]); first | done | rfl) ?_; (with_reducible refine (laws_eqIntSS.calls k _ _ t12 _ _ t5 true _ (Kd.R_reads' (Kd.S_R HO14.out)).2.2 (Kd.R_reads' (Kd.S_R HO14.out)).2.1 (Kd.N_reads' HO7.out).2.2 (Kd.N_reads' HO7.out).2.1 AQ15.out).mono ?_); rintro e W5 ⟨rfl, hd⟩; have hb := hd.below; clear hd; refine ⟨_, rfl, ?_⟩; replace HO7 := Aside0.mk (Kd.N_below HO7.out hb); replace HO10 := Aside0.mk (Kd.R_below HO10.out hb); replace HO14 := Aside0.mk (Kd.S_below HO14.out hb); replace HB := Aside0.mk (below_step HB.out hb); replace HT := Aside0.mk (Nat.le_trans HT.out hb.size); clear hb) | ((with_reducible refine gate_dst (N := 40) rfl ?_); refine goesL_ (some 40) rfl rfl Try.func20 (by kernel_rfl) rfl #[.slice A0 l0.length c0] rfl (by (try simp only [List.map_toArray, List.map_cons, List.map_nil]); first | done | rfl) ?_; (with_reducible refine (laws_toIntS.calls k _ _ l0 t18 _ (Kd.C_below HR0.out HB.out) HC0.out AQ17.out).mono ?_); rintro e W6 ⟨v19, rfl, ho19, hb⟩; refine ⟨_, rfl, ?_⟩; obtain ⟨B19, d19, e_⟩ := Kd.R_slice ho19; subst e_; obtain ⟨lo19, hi19, nn, ht_, hO19⟩ := laws_FnExactEscortPlan.newR ho19 HT.out (below_size HB.out) hb.size; replace HO7 := Aside0.mk (Kd.N_below HO7.out hb); replace HO10 := Aside0.mk (Kd.R_below HO10.out hb); replace HO14 := Aside0.mk (Kd.S_below HO14.out hb); replace HB := Aside0.mk (below_step HB.out hb); replace HT := Aside0.mk (Nat.le_trans HT.out hb.size); have HO19 := Aside0.mk hO19; replace HT := Aside0.mk ht_; replace HN := Aside0.mk (And.intro nn HN.out); clear ho19 hO19 nn ht_; clear hb) | ((with_reducible refine gate_dst (N := 41) rfl ?_); refine goesL_ (some 41) rfl rfl Try.func22 (by kernel_rfl) rfl #[.slice B10 t9.length d10, .slice B19 t18.length d19] rfl (by (try simp only [List.map_toArray, List.map_cons, List.map_nil]); first | done | rfl) ?_; (with_reducible refine (laws_eqIntS.calls k _ _ t9 _ _ t18 true _ (Kd.R_reads' HO10.out).2.2 (Kd.R_reads' HO10.out).2.1 (Kd.R_reads' HO19.out).2.2 (Kd.R_reads' HO19.out).2.1 AQ20.out).mono ?_); rintro e W7 ⟨rfl, hd⟩; have hb := hd.below; clear hd; refine ⟨_, rfl, ?_⟩; replace HO7 := Aside0.mk (Kd.N_below HO7.out hb); replace HO10 := Aside0.mk (Kd.R_below HO10.out hb); replace HO14 := Aside0.mk (Kd.S_below HO14.out hb); replace HO19 := Aside0.mk (Kd.R_below HO19.out hb); replace HB := Aside0.mk (below_step HB.out hb); replace HT := Aside0.mk (Nat.le_trans HT.out hb.size); clear hb; clear HO19) | ((with_reducible refine gate_dst (N := 45) rfl ?_); refine goesL_ (some 45) rfl rfl Try.func25 (by kernel_rfl) rfl #[.slice B10 t9.length d10, .int .i64 1] rfl (by (try simp only [List.map_toArray, List.map_cons, List.map_nil]); first | done | rfl) ?_; (with_reducible refine (laws_markIntS.calls k (fun k_ => lo10 ≤ k_ ∧ k_ < hi10) (.slice B10 t9.length d10) t9 1 t23 t24 w _ HB.out HO10.out AQ22.out).mono ?_); rintro e W8 ⟨rfl, hy0, hb, hkp⟩; refine ⟨_, rfl, ?_⟩; replace HO7 := Aside0.mk (laws_FnExactEscortPlan.keptN HO7.out hkp (by have hn_ := HN.out; omega)); replace HO14 := Aside0.mk (laws_FnExactEscortPlan.keptS HO14.out hkp (by have hn_ := HN.out; omega)); replace HO10 := Aside0.mk (Kd.R_reok rfl hy0 (fun k_ e_ => HO10.out.1 k_ e_)); replace HB := Aside0.mk hb; replace HT := Aside0.mk (Nat.le_trans HT.out hkp.1); clear hy0 hb hkp; have hl_ := (Kd.R_reads' HO10.out).1; rw [hl_] at HO10; (try simp only [hl_]); clear hl_; clear HO10) | ((with_reducible refine gate_dst (N := 51) rfl ?_); (refine gate_guard (by rfl) ?_; dsimp only); refine goesL_ (some 51) rfl rfl Try.func51 (by kernel_rfl) rfl #[.slice B14 t12.length d14, .slice B7 t5.length d7] rfl (by (try simp only [List.map_toArray, List.map_cons, List.map_nil]); first | done | rfl) ?_; (with_reducible refine (laws_eqIntSS.calls k _ _ t12 _ _ t5 true _ (Kd.R_reads' (Kd.S_R HO14.out)).2.2 (Kd.R_reads' (Kd.S_R HO14.out)).2.1 (Kd.N_reads' HO7.out).2.2 (Kd.N_reads' HO7.out).2.1 AQ25.out).mono ?_); rintro e W9 ⟨rfl, hd⟩; have hb := hd.below; clear hd; refine ⟨_, rfl, ?_⟩; replace HO7 := Aside0.mk (Kd.N_below HO7.out hb); replace HO14 := Aside0.mk (Kd.S_below HO14.out hb); replace HB := Aside0.mk (below_step HB.out hb); replace HT := Aside0.mk (Nat.le_trans HT.out hb.size); clear hb) | ((with_reducible refine gate_dst (N := 61) rfl ?_); refine goesL_ (some 61) rfl rfl Try.func52 (by kernel_rfl) rfl #[.slice B14 t12.length d14, .int .i64 1] rfl (by (try simp only [List.map_toArray, List.map_cons, List.map_nil]); first | done | rfl) ?_; (with_reducible refine (laws_markIntSS.calls k (fun k_ => lo14 ≤ k_ ∧ k_ < hi14) (.slice B14 t12.length d14) t12 1 t28 t29 w _ HB.out HO14.out AQ27.out).mono ?_); rintro e W10 ⟨rfl, hy0, hb, hkp⟩; refine ⟨_, rfl, ?_⟩; replace HO7 := Aside0.mk (laws_FnExactEscortPlan.keptN HO7.out hkp (by have hn_ := HN.out; omega)); replace HO14 := Aside0.mk (hy0); replace HB := Aside0.mk hb; replace HT := Aside0.mk (Nat.le_trans HT.out hkp.1); clear hy0 hb hkp; have hl_ := (Kd.R_reads' (Kd.S_R HO14.out)).1; rw [hl_] at HO14; (try simp only [hl_]); clear hl_) | ((with_reducible refine gate_dst (N := 64) rfl ?_); refine goesL_ (some 64) rfl rfl Try.func53 (by kernel_rfl) rfl #[.slice B14 t29.length d14, .int .i64 1] rfl (by (try simp only [List.map_toArray, List.map_cons, List.map_nil]); first | done | rfl) ?_; (with_reducible refine (laws_heldIntSS.calls k _ _ t29 1 t31 _ (Kd.R_reads' (Kd.S_R HO14.out)).2.2 (Kd.R_reads' (Kd.S_R HO14.out)).2.1 AQ30.out).mono ?_); rintro e W11 ⟨rfl, hd⟩; have hb := hd.below; clear hd; refine ⟨_, rfl, ?_⟩; replace HO7 := Aside0.mk (Kd.N_below HO7.out hb); replace HO14 := Aside0.mk (Kd.S_below HO14.out hb); replace HB := Aside0.mk (below_step HB.out hb); replace HT := Aside0.mk (Nat.le_trans HT.out hb.size); clear hb) | ((with_reducible refine gate_dst (N := 72) rfl ?_); refine goesL_ (some 72) rfl rfl Try.func20 (by kernel_rfl) rfl #[.slice A0 l0.length c0] rfl (by (try simp only [List.map_toArray, List.map_cons, List.map_nil]); first | done | rfl) ?_; (with_reducible refine (laws_toIntS.calls k _ _ l0 t33 _ (Kd.C_below HR0.out HB.out) HC0.out AQ32.out).mono ?_); rintro e W12 ⟨v34, rfl, ho34, hb⟩; refine ⟨_, rfl, ?_⟩; obtain ⟨B34, d34, e_⟩ := Kd.R_slice ho34; subst e_; obtain ⟨lo34, hi34, nn, ht_, hO34⟩ := laws_FnExactEscortPlan.newR ho34 HT.out (below_size HB.out) hb.size; replace HO7 := Aside0.mk (Kd.N_below HO7.out hb); replace HO14 := Aside0.mk (Kd.S_below HO14.out hb); replace HB := Aside0.mk (below_step HB.out hb); replace HT := Aside0.mk (Nat.le_trans HT.out hb.size); have HO34 := Aside0.mk hO34; replace HT := Aside0.mk ht_; replace HN := Aside0.mk (And.intro nn HN.out); clear ho34 hO34 nn ht_; clear hb) | ((with_reducible refine gate_dst (N := 73) rfl ?_); refine goesL_ (some 73) rfl rfl Try.func50 (by kernel_rfl) rfl #[.slice B34 t33.length d34] rfl (by (try simp only [List.map_toArray, List.map_cons, List.map_nil]); first | done | rfl) ?_; (with_reducible refine (impl_EscortPlan.calls k _ _ t33 t36 t37 _ (Kd.R_reads' HO34.out).2.2 (Kd.R_reads' HO34.out).2.1 AQ35.out).mono ?_); rintro e W13 ⟨v38, rfl, ho38, hb⟩; refine ⟨_, rfl, ?_⟩; obtain ⟨B38, d38, e_⟩ := Kd.S_slice ho38; subst e_; obtain ⟨lo38, hi38, nn, ht_, hO38⟩ := laws_FnExactEscortPlan.newS ho38 HT.out (below_size HB.out) hb.size; replace HO7 := Aside0.mk (Kd.N_below HO7.out hb); replace HO14 := Aside0.mk (Kd.S_below HO14.out hb); replace HO34 := Aside0.mk (Kd.R_below HO34.out hb); replace HB := Aside0.mk (below_step HB.out hb); replace HT := Aside0.mk (Nat.le_trans HT.out hb.size); have HO38 := Aside0.mk hO38; replace HT := Aside0.mk ht_; replace HN := Aside0.mk (And.intro nn HN.out); clear ho38 hO38 nn ht_; clear hb; clear HO34) | ((with_reducible refine gate_dst (N := 78) rfl ?_); refine goesL_ (some 78) rfl rfl Try.func51 (by kernel_rfl) rfl #[.slice B38 t36.length d38, .slice B7 t5.length d7] rfl (by (try simp only [List.map_toArray, List.map_cons, List.map_nil]); first | done | rfl) ?_; (with_reducible refine (laws_eqIntSS.calls k _ _ t36 _ _ t5 true _ (Kd.R_reads' (Kd.S_R HO38.out)).2.2 (Kd.R_reads' (Kd.S_R HO38.out)).2.1 (Kd.N_reads' HO7.out).2.2 (Kd.N_reads' HO7.out).2.1 AQ39.out).mono ?_); rintro e W14 ⟨rfl, hd⟩; have hb := hd.below; clear hd; refine ⟨_, rfl, ?_⟩; replace HO7 := Aside0.mk (Kd.N_below HO7.out hb); replace HO14 := Aside0.mk (Kd.S_below HO14.out hb); replace HO38 := Aside0.mk (Kd.S_below HO38.out hb); replace HB := Aside0.mk (below_step HB.out hb); replace HT := Aside0.mk (Nat.le_trans HT.out hb.size); clear hb; clear HO7 HO38) | ((with_reducible refine gate_dst (N := 87) rfl ?_); refine goesL_ (some 87) rfl rfl Try.func53 (by kernel_rfl) rfl #[.slice B14 t29.length d14, .int .i64 1] rfl (by (try simp only [List.map_toArray, List.map_cons, List.map_nil]); first | done | rfl) ?_; (with_reducible refine (laws_heldIntSS.calls k _ _ t29 1 t42 _ (Kd.R_reads' (Kd.S_R HO14.out)).2.2 (Kd.R_reads' (Kd.S_R HO14.out)).2.1 AQ41.out).mono ?_); rintro e W15 ⟨rfl, hd⟩; have hb := hd.below; clear hd; refine ⟨_, rfl, ?_⟩; replace HO14 := Aside0.mk (Kd.S_below HO14.out hb); replace HB := Aside0.mk (below_step HB.out hb); replace HT := Aside0.mk (Nat.le_trans HT.out hb.size); clear hb; clear HO14))
  go_ret
  exact ⟨by first | rfl | (simp; done) | (simp [*]; done), HB.out⟩

/-! ### spec_PairPlan: function 54 -/
def spec_PairPlan.f (k : Nat) (l0 : List Int) : Option ((List (List Int)) × Bool) := (spec_prGood.f k l0).bind fun t313 => (if t313 = true then ((spec_prTrips.f k l0 false).bind fun bt314 => (some (bt314.1, true))) else (some (([] : List (List Int)), false)))
set_option maxHeartbeats 8000000 in
set_option maxRecDepth 100000 in
theorem spec_PairPlan.calls (k : Nat) (A0 : Option Addr) (c0 : Nat) (l0 : List Int) (r1 : List (List Int)) (r2 : Bool) (w : World) (hr0 : Kd.C (Kd.int .i64) w A0 l0.length l0) (hc0 : l0.length ≤ c0) (h : spec_PairPlan.f k l0 = some (r1, r2)) :
    Calls Try.prog 54 #[.slice A0 l0.length c0] w fun e w' => ∃ v0_ : Value, e = .returned (.tuple #[v0_, .bool r2]) ∧ Kd.N (Kd.slice 3 (Kd.int .i64)) 22 w' w.heap.size (fun k_ => (w.heap.size ≤ k_)) v0_ r1 ∧ Below w.heap.size w w' := by
  have HR0 := Aside0.mk hr0
  have HC0 := Aside0.mk hc0
  clear hr0 hc0
  have HB := Aside0.mk (Below.refl w.heap.size w)
  have H : ((spec_prGood.f k l0).bind fun t313 => (if t313 = true then ((spec_prTrips.f k l0 false).bind fun bt314 => (some (bt314.1, true))) else (some (([] : List (List Int)), false)))) = some (r1, r2) := h
  clear h
  replace H := Option.bind_eq_some_iff.mp H
  obtain ⟨t313, A20, H⟩ := H
  replace H : (if t313 = true then ((spec_prTrips.f k l0 false).bind fun bt314 => (some (bt314.1, true))) else (some (([] : List (List Int)), false))) = some (r1, r2) := H
  have A2 := Aside0.mk A20
  clear A20
  by_cases c3 : t313 = true
  · subst c3
    have H1 : ((spec_prTrips.f k l0 false).bind fun bt314 => (some (bt314.1, true))) = some (r1, r2) := by rw [if_pos rfl] at H; exact H
    clear H
    have H := H1
    clear H1
    replace H := Option.bind_eq_some_iff.mp H
    obtain ⟨⟨t314, t317, t318⟩, A40, H⟩ := H
    replace H : (some (t314, true)) = some (r1, r2) := H
    have A4 := Aside0.mk A40
    clear A40
    simp only [Option.some.injEq, Prod.mk.injEq] at H
    obtain ⟨rfl, rfl⟩ := H
    go_enter Try.func54, Try.ntmps54
    go_wp2_with (first | ((with_reducible refine gate_callee (f := 71) rfl ?_); refine goesL_ (some 8) rfl rfl Try.func71 (by kernel_rfl) rfl #[.slice A0 l0.length c0] rfl (by (try simp only [List.map_toArray, List.map_cons, List.map_nil]); first | done | rfl | (simp only [List.length_drop, List.length_take]; rfl)) ?_; (with_reducible refine (spec_prGood.calls k _ _ l0 true _ ?side1 ?side2 A2.out).mono ?_); (case side1 => repeat (first | exact HR0.out | (with_reducible refine Kd.C_alloc ?_ _) | (with_reducible refine Kd.C_drewN ?_ _) | (with_reducible refine Kd.C_drew ?_))); (case side2 => exact HC0.out); rintro e w' ⟨rfl, ⟨nd, rfl⟩⟩; refine ⟨_, rfl, ?_⟩) | ((with_reducible refine gate_callee (f := 74) rfl ?_); refine goesL_ (some 12) rfl rfl Try.func74 (by kernel_rfl) rfl #[.slice A0 l0.length c0, .bool false] rfl (by (try simp only [List.map_toArray, List.map_cons, List.map_nil]); first | done | rfl | (simp only [List.length_drop, List.length_take]; rfl)) ?_; (with_reducible refine (spec_prTrips.calls k _ _ l0 false t314 t317 t318 _ ?side1 ?side2 A4.out).mono ?_); (case side1 => repeat (first | exact HR0.out | (with_reducible refine Kd.C_alloc ?_ _) | (with_reducible refine Kd.C_drewN ?_ _) | (with_reducible refine Kd.C_drew ?_))); (case side2 => exact HC0.out); rintro e w5 ⟨v315, rfl, ho0, hb⟩; refine ⟨_, rfl, ?_⟩; have n0_ := Aside0.mk (Kd.N_lower (Kd.N_mono (ok' := fun k_ => (w.heap.size ≤ k_)) ho0 (fun k_ hk_ => (Nat.le_trans (below_size (by repeat (first | (with_reducible first | exact HB.out | apply below_alloc | apply pw_below_drewN | apply below_drew1) | exact HB.out))) hk_))) (below_size (by repeat (first | (with_reducible first | exact HB.out | apply below_alloc | apply pw_below_drewN | apply below_drew1) | exact HB.out)))); have n1_ := Aside0.mk (below_step (by repeat (first | (with_reducible first | exact HB.out | apply below_alloc | apply pw_below_drewN | apply below_drew1) | exact HB.out)) hb); clear HB; have HO316 := n0_; have HB := n1_; clear n0_ n1_; (try clear hb); (try clear hb2); (try clear hk); (try clear hi); (try clear ho0)))
    go_ret2
    exact ⟨_, by first | rfl | (simp [errW_none, errW_some] <;> rfl) | (simp [*, errW_none, errW_some] <;> rfl), by (with_reducible repeat (first | apply Kd.N_alloc | apply Kd.N_drewN | apply Kd.N_drew)); exact HO316.out, by repeat (first | (with_reducible first | exact HB.out | apply below_alloc | apply pw_below_drewN | apply below_drew1) | exact HB.out)⟩
  · replace c3 := Bool.eq_false_iff.mpr c3
    subst c3
    have H1 : (some (([] : List (List Int)), false)) = some (r1, r2) := by rw [if_neg (show ¬ (false = true) by decide)] at H; exact H
    clear H
    have H := H1
    clear H1
    simp only [Option.some.injEq, Prod.mk.injEq] at H
    obtain ⟨rfl, rfl⟩ := H
    go_enter Try.func54, Try.ntmps54
    go_wp2_with (first | ((with_reducible refine gate_callee (f := 71) rfl ?_); refine goesL_ (some 8) rfl rfl Try.func71 (by kernel_rfl) rfl #[.slice A0 l0.length c0] rfl (by (try simp only [List.map_toArray, List.map_cons, List.map_nil]); first | done | rfl | (simp only [List.length_drop, List.length_take]; rfl)) ?_; (with_reducible refine (spec_prGood.calls k _ _ l0 false _ ?side1 ?side2 A2.out).mono ?_); (case side1 => repeat (first | exact HR0.out | (with_reducible refine Kd.C_alloc ?_ _) | (with_reducible refine Kd.C_drewN ?_ _) | (with_reducible refine Kd.C_drew ?_))); (case side2 => exact HC0.out); rintro e w' ⟨rfl, ⟨nd, rfl⟩⟩; refine ⟨_, rfl, ?_⟩))
    go_ret2
    exact ⟨_, by first | rfl | (simp [errW_none, errW_some] <;> rfl) | (simp [*, errW_none, errW_some] <;> rfl), by first | exact Kd.S_nil _ _ _ _ _ | exact Kd.N_nil _ _ _ _ _ | exact Kd.V_nil _ _ _ _ _ | exact Kd.Q_nil _ _ _ _ _ | exact Kd.R_nil _ _ _ _ _, by repeat (first | (with_reducible first | exact HB.out | apply below_alloc | apply pw_below_drewN | apply below_drew1) | exact HB.out)⟩

/-! ### impl_PairPlan: function 55 -/
attribute [local go_sem] impl_cross.field0 impl_cross.field1 impl_cross.field2
def impl_PairPlan.f (k : Nat) (l0 : List Int) : Option ((List (List Int)) × Bool) := (impl_isTimes.f l0).bind fun t319 => (if t319 = true then ((impl_cross.f k l0 false).bind fun bt320 => (some (bt320.1, true))) else (some (([] : List (List Int)), false)))
set_option maxHeartbeats 8000000 in
set_option maxRecDepth 100000 in
theorem impl_PairPlan.calls (k : Nat) (A0 : Option Addr) (c0 : Nat) (l0 : List Int) (r1 : List (List Int)) (r2 : Bool) (w : World) (hr0 : Kd.C (Kd.int .i64) w A0 l0.length l0) (hc0 : l0.length ≤ c0) (h : impl_PairPlan.f k l0 = some (r1, r2)) :
    Calls Try.prog 55 #[.slice A0 l0.length c0] w fun e w' => ∃ v0_ : Value, e = .returned (.tuple #[v0_, .bool r2]) ∧ Kd.S (Kd.slice 3 (Kd.int .i64)) 22 w' w.heap.size (fun _ => True) v0_ r1 ∧ Below w.heap.size w w' := by
  have HR0 := Aside0.mk hr0
  have HC0 := Aside0.mk hc0
  clear hr0 hc0
  have HB := Aside0.mk (Below.refl w.heap.size w)
  have H : ((impl_isTimes.f l0).bind fun t319 => (if t319 = true then ((impl_cross.f k l0 false).bind fun bt320 => (some (bt320.1, true))) else (some (([] : List (List Int)), false)))) = some (r1, r2) := h
  clear h
  replace H := Option.bind_eq_some_iff.mp H
  obtain ⟨t319, A20, H⟩ := H
  replace H : (if t319 = true then ((impl_cross.f k l0 false).bind fun bt320 => (some (bt320.1, true))) else (some (([] : List (List Int)), false))) = some (r1, r2) := H
  have A2 := Aside0.mk A20
  clear A20
  by_cases c3 : t319 = true
  · subst c3
    have H1 : ((impl_cross.f k l0 false).bind fun bt320 => (some (bt320.1, true))) = some (r1, r2) := by rw [if_pos rfl] at H; exact H
    clear H
    have H := H1
    clear H1
    replace H := Option.bind_eq_some_iff.mp H
    obtain ⟨⟨t320, t323, t324⟩, A40, H⟩ := H
    replace H : (some (t320, true)) = some (r1, r2) := H
    have A4 := Aside0.mk A40
    clear A40
    simp only [Option.some.injEq, Prod.mk.injEq] at H
    obtain ⟨rfl, rfl⟩ := H
    go_enter Try.func55, Try.ntmps55
    go_wp2_with (first | ((with_reducible refine gate_callee (f := 61) rfl ?_); refine goesL_ (some 5) rfl rfl Try.func61 (by kernel_rfl) rfl #[.slice A0 l0.length c0] rfl (by (try simp only [List.map_toArray, List.map_cons, List.map_nil]); first | done | rfl | (simp only [List.length_drop, List.length_take]; rfl)) ?_; (with_reducible refine (impl_isTimes.calls _ _ l0 true _ ?side1 ?side2 A2.out).mono ?_); (case side1 => repeat (first | exact HR0.out | (with_reducible refine Kd.C_alloc ?_ _) | (with_reducible refine Kd.C_drewN ?_ _) | (with_reducible refine Kd.C_drew ?_))); (case side2 => exact HC0.out); rintro e w5 ⟨rfl, hb⟩; refine ⟨_, rfl, ?_⟩; have n0_ := Aside0.mk (below_step (by repeat (first | (with_reducible first | exact HB.out | apply below_alloc | apply pw_below_drewN | apply below_drew1) | exact HB.out)) hb); clear HB; have HB := n0_; clear n0_; (try clear hb); (try clear hb2); (try clear hk); (try clear hi)) | ((with_reducible refine gate_callee (f := 73) rfl ?_); refine goesL_ (some 8) rfl rfl Try.func73 (by kernel_rfl) rfl #[.slice A0 l0.length c0, .bool false] rfl (by (try simp only [List.map_toArray, List.map_cons, List.map_nil]); first | done | rfl | (simp only [List.length_drop, List.length_take]; rfl)) ?_; (with_reducible refine (impl_cross.calls k _ _ l0 false t320 t323 t324 _ ?side1 ?side2 A4.out).mono ?_); (case side1 => repeat (first | exact (Kd.C_below HR0.out HB.out) | (with_reducible refine Kd.C_alloc ?_ _) | (with_reducible refine Kd.C_drewN ?_ _) | (with_reducible refine Kd.C_drew ?_))); (case side2 => exact HC0.out); rintro e w6 ⟨v321, rfl, ho0, hb⟩; refine ⟨_, rfl, ?_⟩; have n0_ := Aside0.mk (Kd.S_lower ho0 (below_size (by repeat (first | (with_reducible first | exact HB.out | apply below_alloc | apply pw_below_drewN | apply below_drew1) | exact HB.out)))); have n1_ := Aside0.mk (below_step (by repeat (first | (with_reducible first | exact HB.out | apply below_alloc | apply pw_below_drewN | apply below_drew1) | exact HB.out)) hb); clear HB; have HO322 := n0_; have HB := n1_; clear n0_ n1_; (try clear hb); (try clear hb2); (try clear hk); (try clear hi); (try clear ho0)))
    go_ret2
    exact ⟨_, by first | rfl | (simp [errW_none, errW_some] <;> rfl) | (simp [*, errW_none, errW_some] <;> rfl), by (with_reducible repeat (first | apply Kd.S_alloc | apply Kd.S_drewN | apply Kd.S_drew)); exact HO322.out, by repeat (first | (with_reducible first | exact HB.out | apply below_alloc | apply pw_below_drewN | apply below_drew1) | exact HB.out)⟩
  · replace c3 := Bool.eq_false_iff.mpr c3
    subst c3
    have H1 : (some (([] : List (List Int)), false)) = some (r1, r2) := by rw [if_neg (show ¬ (false = true) by decide)] at H; exact H
    clear H
    have H := H1
    clear H1
    simp only [Option.some.injEq, Prod.mk.injEq] at H
    obtain ⟨rfl, rfl⟩ := H
    go_enter Try.func55, Try.ntmps55
    go_wp2_with (first | ((with_reducible refine gate_callee (f := 61) rfl ?_); refine goesL_ (some 5) rfl rfl Try.func61 (by kernel_rfl) rfl #[.slice A0 l0.length c0] rfl (by (try simp only [List.map_toArray, List.map_cons, List.map_nil]); first | done | rfl | (simp only [List.length_drop, List.length_take]; rfl)) ?_; (with_reducible refine (impl_isTimes.calls _ _ l0 false _ ?side1 ?side2 A2.out).mono ?_); (case side1 => repeat (first | exact HR0.out | (with_reducible refine Kd.C_alloc ?_ _) | (with_reducible refine Kd.C_drewN ?_ _) | (with_reducible refine Kd.C_drew ?_))); (case side2 => exact HC0.out); rintro e w7 ⟨rfl, hb⟩; refine ⟨_, rfl, ?_⟩; have n0_ := Aside0.mk (below_step (by repeat (first | (with_reducible first | exact HB.out | apply below_alloc | apply pw_below_drewN | apply below_drew1) | exact HB.out)) hb); clear HB; have HB := n0_; clear n0_; (try clear hb); (try clear hb2); (try clear hk); (try clear hi)))
    go_ret2
    exact ⟨_, by first | rfl | (simp [errW_none, errW_some] <;> rfl) | (simp [*, errW_none, errW_some] <;> rfl), by first | exact Kd.S_nil _ _ _ _ _ | exact Kd.N_nil _ _ _ _ _ | exact Kd.V_nil _ _ _ _ _ | exact Kd.Q_nil _ _ _ _ _ | exact Kd.R_nil _ _ _ _ _, by repeat (first | (with_reducible first | exact HB.out | apply below_alloc | apply pw_below_drewN | apply below_drew1) | exact HB.out)⟩

/-! ### laws_FnExactPairPlan: function 14 -/
theorem laws_FnExactPairPlan.newR {α : Type} {d : Kd α} {e T : Nat} {w W W' : World} {v : Value} {xs : List α} (h : d.R e W' W.heap.size (fun _ => True) v xs) (ht : T ≤ W.heap.size) (hw : w.heap.size ≤ W.heap.size) (hs : W.heap.size ≤ W'.heap.size) : ∃ lo hi : Nat, (T ≤ lo ∧ lo ≤ hi) ∧ hi ≤ W'.heap.size ∧ d.R e W' w.heap.size (fun k_ => lo ≤ k_ ∧ k_ < hi) v xs :=
  ⟨W.heap.size, W'.heap.size, ⟨ht, hs⟩, Nat.le_refl _, Kd.R_lower (Kd.R_mono (Kd.R_bound h) (fun _ hk => ⟨hk.2.1, hk.2.2.1⟩)) hw⟩
theorem laws_FnExactPairPlan.newS {α : Type} {d : Kd α} {e T : Nat} {w W W' : World} {v : Value} {xs : List α} (h : Kd.S d e W' W.heap.size (fun _ => True) v xs) (ht : T ≤ W.heap.size) (hw : w.heap.size ≤ W.heap.size) (hs : W.heap.size ≤ W'.heap.size) : ∃ lo hi : Nat, (T ≤ lo ∧ lo ≤ hi) ∧ hi ≤ W'.heap.size ∧ Kd.S d e W' w.heap.size (fun k_ => lo ≤ k_ ∧ k_ < hi) v xs :=
  ⟨W.heap.size, W'.heap.size, ⟨ht, hs⟩, Nat.le_refl _, Kd.S_lower (Kd.S_mono (Kd.S_bound h) (fun _ hk => ⟨hk.2.1, hk.2.2.1⟩)) hw⟩
theorem laws_FnExactPairPlan.newN {α : Type} {d : Kd α} {e T : Nat} {w W W' : World} {v : Value} {xs : List α} (h : Kd.N d e W' W.heap.size (fun k_ => W.heap.size ≤ k_) v xs) (ht : T ≤ W.heap.size) (hw : w.heap.size ≤ W.heap.size) (hs : W.heap.size ≤ W'.heap.size) : ∃ lo hi : Nat, (T ≤ lo ∧ lo ≤ hi) ∧ hi ≤ W'.heap.size ∧ Kd.N d e W' w.heap.size (fun k_ => lo ≤ k_ ∧ k_ < hi) v xs :=
  ⟨W.heap.size, W'.heap.size, ⟨ht, hs⟩, Nat.le_refl _, Kd.N_lower (Kd.N_mono (Kd.N_bound h) (fun _ hk => hk)) hw⟩
theorem laws_FnExactPairPlan.grownN {α : Type} {d : Kd α} {e b lo hi g : Nat} {W W' : World} {v : Value} {xs : List α} (h : Kd.N d e W b (fun k_ => lo ≤ k_ ∧ k_ < hi) v xs) (hg : W.grownBy W' (some g)) (hne : g < lo ∨ hi ≤ g) : Kd.N d e W' b (fun k_ => lo ≤ k_ ∧ k_ < hi) v xs :=
  Kd.N_grown h hg (fun k hk he => by injection he with he; have h1 := hk.1; have h2 := hk.2; omega)
theorem laws_FnExactPairPlan.keptN {α : Type} {d : Kd α} {e b lo hi lo' hi' : Nat} {W W' : World} {v : Value} {xs : List α} (h : Kd.N d e W b (fun k_ => lo ≤ k_ ∧ k_ < hi) v xs) (hk : Kept W W' (fun k_ => lo' ≤ k_ ∧ k_ < hi')) (hne : hi ≤ lo' ∨ hi' ≤ lo) : Kd.N d e W' b (fun k_ => lo ≤ k_ ∧ k_ < hi) v xs :=
  Kd.N_kept h hk (fun k h1 h2 => by have h3 := h1.1; have h4 := h1.2; have h5 := h2.1; have h6 := h2.2; omega)
theorem laws_FnExactPairPlan.grownR {α : Type} {d : Kd α} {e b lo hi g : Nat} {W W' : World} {v : Value} {xs : List α} (h : d.R e W b (fun k_ => lo ≤ k_ ∧ k_ < hi) v xs) (hg : W.grownBy W' (some g)) (hne : g < lo ∨ hi ≤ g) : d.R e W' b (fun k_ => lo ≤ k_ ∧ k_ < hi) v xs :=
  Kd.R_grown h hg (fun k hk he => by injection he with he; have h1 := hk.1; have h2 := hk.2; omega)
theorem laws_FnExactPairPlan.grownS {α : Type} {d : Kd α} {e b lo hi g : Nat} {W W' : World} {v : Value} {xs : List α} (h : Kd.S d e W b (fun k_ => lo ≤ k_ ∧ k_ < hi) v xs) (hg : W.grownBy W' (some g)) (hne : g < lo ∨ hi ≤ g) : Kd.S d e W' b (fun k_ => lo ≤ k_ ∧ k_ < hi) v xs :=
  Kd.S_grown h hg (fun k hk he => by injection he with he; have h1 := hk.1; have h2 := hk.2; omega)
theorem laws_FnExactPairPlan.keptR {α : Type} {d : Kd α} {e b lo hi lo' hi' : Nat} {W W' : World} {v : Value} {xs : List α} (h : d.R e W b (fun k_ => lo ≤ k_ ∧ k_ < hi) v xs) (hk : Kept W W' (fun k_ => lo' ≤ k_ ∧ k_ < hi')) (hne : hi ≤ lo' ∨ hi' ≤ lo) : d.R e W' b (fun k_ => lo ≤ k_ ∧ k_ < hi) v xs :=
  Kd.R_kept h hk (fun k h1 h2 => by have h3 := h1.1; have h4 := h1.2; have h5 := h2.1; have h6 := h2.2; omega)
theorem laws_FnExactPairPlan.keptS {α : Type} {d : Kd α} {e b lo hi lo' hi' : Nat} {W W' : World} {v : Value} {xs : List α} (h : Kd.S d e W b (fun k_ => lo ≤ k_ ∧ k_ < hi) v xs) (hk : Kept W W' (fun k_ => lo' ≤ k_ ∧ k_ < hi')) (hne : hi ≤ lo' ∨ hi' ≤ lo) : Kd.S d e W' b (fun k_ => lo ≤ k_ ∧ k_ < hi) v xs :=
  Kd.S_kept h hk (fun k h1 h2 => by have h3 := h1.1; have h4 := h1.2; have h5 := h2.1; have h6 := h2.2; omega)
theorem laws_FnExactPairPlan.keptB {lo hi g : Nat} {o : Obj} {W W' : World} (h : W.heap[g]? = some o) (hk : Kept W W' (fun k_ => lo ≤ k_ ∧ k_ < hi)) (hne : g < lo ∨ hi ≤ g) : W'.heap[g]? = some o :=
  blk_kept h hk (fun h2 => by have h5 := h2.1; have h6 := h2.2; omega)
theorem laws_FnExactPairPlan.grownB {g g' : Nat} {o : Obj} {W W' : World} (h : W.heap[g]? = some o) (hg : W.grownBy W' (some g')) (hne : g ≠ g') : W'.heap[g]? = some o :=
  (hg.block g (blk_lt h) (fun he => hne (by injection he))).trans h
theorem laws_FnExactPairPlan.runs {P : Program} {W : World} {g T : Nat} {cur : Array Value} (t : TypeId) (u : Value) (new : List Value) (hb : W.heap[g]? = some (.cells cur T (0, 0))) (hu : u.cells.toList = new) (ht : (P.info? t).map (·.size) = some new.length) (hsz : new.length = cur.size) (h1 : ∀ q ∈ new, q.oneCell' = true) :
    ∃ w1, (Instr.storeAt t (.pointer (some ⟨g, 0, none⟩)) u).run P W = .ok () w1 ∧ w1.heap[g]? = some (.cells new.toArray T (0, 0)) ∧ W.grownBy w1 (some g) := by
  refine ⟨W.setCells g 0 new, run_store_run t u new hb hu ht (by omega) h1, ?_, ?_⟩
  · obtain ⟨cur', c1, c2, c3⟩ := setCells_row new 0 W cur hb (by omega)
    rw [c1]
    rw [List.take_zero, List.nil_append, Nat.zero_add, hsz, List.drop_eq_nil_of_le (by rw [Array.length_toList]; omega), List.append_nil] at c3
    rw [← c3]
  · obtain ⟨s1, s2, s3, s4⟩ := setCells_same g new 0 W
    exact ⟨s1, s2, s3, by rw [s4]; exact Nat.le_refl _, fun k _ hk => setCells_far _ _ k (fun he => hk (by rw [he]))⟩
theorem laws_FnExactPairPlan.store {P : Program} {ops : Array Oper} {rest : List Oper} {o : Oper} {a : Act} {Q : Exit → Act → World → Prop} {W : World} (hgd : o.guard = none) (hN : o.dst = none) {t : TypeId} {p : Tmp} {x : Operand} (ho : o.op = .store t (.tmp p) x) (g T : Nat) (cur : Array Value) (u : Value) (new : List Value) (haddr : a.eval (.tmp p) = .pointer (some ⟨g, 0, none⟩)) (hx : a.eval x = u) (hb : W.heap[g]? = some (.cells cur T (0, 0))) (hu : u.cells.toList = new) (ht : (P.info? t).map (·.size) = some new.length) (hsz : new.length = cur.size) (h1 : ∀ q ∈ new, q.oneCell' = true)
    (h : ∀ w1, w1.heap[g]? = some (.cells new.toArray T (0, 0)) → W.grownBy w1 (some g) → wpList P ops Q rest a w1) : wpList P ops Q (o :: rest) a W := by
  obtain ⟨w1, hrun, h2, h3⟩ := laws_FnExactPairPlan.runs (P := P) t u new hb hu ht hsz h1
  refine wpList_plain hgd fun K hK => ?_
  unfold Oper.wp execOp
  simp only [ho, haddr, hx, Sem.run_bind, Sem.run_pure, Result.andThen_ok, hrun]
  show K (a.put o.dst undef) _
  rw [hN]
  exact hK _ _ (h w1 h2 h3)
theorem laws_FnExactPairPlan.storeK {P : Program} {ops : Array Oper} {o : Oper} {a : Act} {Q : Exit → Act → World → Prop} {Kc : Act → World → Prop} {W : World} (hw : Region.wanted o (yielded ops a.tmps) = true) (hN : o.dst = none) {t : TypeId} {p : Tmp} {x : Operand} (ho : o.op = .store t (.tmp p) x) (g T : Nat) (cur : Array Value) (u : Value) (new : List Value) (haddr : a.eval (.tmp p) = .pointer (some ⟨g, 0, none⟩)) (hx : a.eval x = u) (hb : W.heap[g]? = some (.cells cur T (0, 0))) (hu : u.cells.toList = new) (ht : (P.info? t).map (·.size) = some new.length) (hsz : new.length = cur.size) (h1 : ∀ q ∈ new, q.oneCell' = true)
    (h : ∀ w1, w1.heap[g]? = some (.cells new.toArray T (0, 0)) → W.grownBy w1 (some g) → Kc a w1) : if Region.wanted o (yielded ops a.tmps) = true then Oper.wp P o a W Kc Q else Kc (a.put none undef) W := by
  obtain ⟨w1, hrun, h2, h3⟩ := laws_FnExactPairPlan.runs (P := P) t u new hb hu ht hsz h1
  rw [if_pos hw]
  unfold Oper.wp execOp
  simp only [ho, haddr, hx, Sem.run_bind, Sem.run_pure, Result.andThen_ok, hrun]
  show Kc (a.put o.dst undef) _
  rw [hN]
  exact h w1 h2 h3
def laws_FnExactPairPlan.f (k : Nat) (l0 : List Int) : Option Bool := if (l0.length : Int) > 1048576 then some true else ((laws_toIntS.f k l0).bind fun b1 => ((spec_PairPlan.f k b1).bind fun b4 => ((laws_toIntS.f k l0).bind fun b8 => ((impl_PairPlan.f k b8).bind fun b11 => ((laws_eqIntSS.f k b11.1 b4.1).bind fun b15 => (if b15 = true then (if (b11.2 != b4.2) = true then none else ((laws_toIntS.f k l0).bind fun b17 => ((laws_eqIntS.f k b8 b17).bind fun b20 => (if b20 = true then ((laws_markIntS.f k b8 1).bind fun b22 => ((laws_eqIntSS.f k b11.1 b4.1).bind fun b25 => (if b22.1 < 0 then none else (if b25 = true then (if (b11.2 != b4.2) = true then none else ((laws_markIntSS.f k b11.1 1).bind fun b27 => ((laws_heldIntSS.f k b27.2 1).bind fun b30 => (if b30 < 0 then none else (if b30 = b27.1 then ((laws_toIntS.f k l0).bind fun b32 => ((impl_PairPlan.f k b32).bind fun b35 => ((laws_eqIntSS.f k b35.1 b4.1).bind fun b39 => (if b39 = true then (if (b35.2 != b4.2) = true then none else ((laws_heldIntSS.f k b27.2 1).bind fun b41 => (if b41 < 0 then none else (if b41 = b27.1 then (some true) else none)))) else none)))) else none))))) else none)))) else none)))) else none))))))
set_option maxHeartbeats 16000000 in
set_option maxRecDepth 100000 in
theorem laws_FnExactPairPlan.calls (k : Nat) (A0 : Option Addr) (c0 : Nat) (l0 : List Int) (r : Bool) (w : World) (hr0 : Kd.C (Kd.int .i64) w A0 l0.length l0) (hc0 : l0.length ≤ c0) (h : laws_FnExactPairPlan.f k l0 = some r) :
    Calls Try.prog 14 #[.slice A0 l0.length c0] w fun e w' => e = .returned (.bool r) ∧ Below w.heap.size w w' := by
  have HR0 := Aside0.mk hr0
  have HC0 := Aside0.mk hc0
  clear hr0 hc0
  have HB := Aside0.mk (Below.refl w.heap.size w)
  have HT := Aside0.mk (Nat.le_refl w.heap.size)
  have HN := Aside0.mk trivial
  have H := h
  unfold laws_FnExactPairPlan.f at H
  clear h
  by_cases c43 : (l0.length : Int) > 1048576
  · rw [if_pos c43] at H
    have c43b0 : decide (1048576 < (l0.length : Int)) = true := decide_eq_true c43
    have c43b1 : decide (1048576 < l0.length) = true := decide_eq_true (by omega)
    clear c43
    obtain rfl := Option.some.inj H
    go_enter Try.func14, Try.ntmps14
    try go_wp2
    go_ret
    exact ⟨by first | rfl | (simp; done) | (simp [*]; done), HB.out⟩
  rw [if_neg c43] at H
  have c43b0 : decide (1048576 < (l0.length : Int)) = false := decide_eq_false c43
  have c43b1 : decide (1048576 < l0.length) = false := decide_eq_false (by omega)
  clear c43
  obtain ⟨t2, AQ1_, H⟩ := Option.bind_eq_some_iff.mp H
  have AQ1 := Aside0.mk AQ1_
  clear AQ1_
  (try dsimp only at AQ1 H)
  obtain ⟨⟨t5, t6⟩, AQ4_, H⟩ := Option.bind_eq_some_iff.mp H
  have AQ4 := Aside0.mk AQ4_
  clear AQ4_
  (try dsimp only at AQ4 H)
  obtain ⟨t9, AQ8_, H⟩ := Option.bind_eq_some_iff.mp H
  have AQ8 := Aside0.mk AQ8_
  clear AQ8_
  (try dsimp only at AQ8 H)
  obtain ⟨⟨t12, t13⟩, AQ11_, H⟩ := Option.bind_eq_some_iff.mp H
  have AQ11 := Aside0.mk AQ11_
  clear AQ11_
  (try dsimp only at AQ11 H)
  obtain ⟨t16, AQ15_, H⟩ := Option.bind_eq_some_iff.mp H
  have AQ15 := Aside0.mk AQ15_
  clear AQ15_
  (try dsimp only at AQ15 H)
  rcases t16 with _ | _
  · rw [if_neg (by decide)] at H; cases H
  rw [if_pos rfl] at H
  by_cases c44 : (t13 != t6) = true
  · rw [if_pos c44] at H; cases H
  rw [if_neg c44] at H
  have c44b0 : (t13 != t6) = false := by simpa using c44
  have c44b1 : decide (t13 = t6) = true := by simpa using c44
  have c44b2 : (t13 == t6) = true := by simpa using c44
  clear c44
  obtain ⟨t18, AQ17_, H⟩ := Option.bind_eq_some_iff.mp H
  have AQ17 := Aside0.mk AQ17_
  clear AQ17_
  (try dsimp only at AQ17 H)
  obtain ⟨t21, AQ20_, H⟩ := Option.bind_eq_some_iff.mp H
  have AQ20 := Aside0.mk AQ20_
  clear AQ20_
  (try dsimp only at AQ20 H)
  rcases t21 with _ | _
  · rw [if_neg (by decide)] at H; cases H
  rw [if_pos rfl] at H
  obtain ⟨⟨t23, t24⟩, AQ22_, H⟩ := Option.bind_eq_some_iff.mp H
  have AQ22 := Aside0.mk AQ22_
  clear AQ22_
  (try dsimp only at AQ22 H)
  obtain ⟨t26, AQ25_, H⟩ := Option.bind_eq_some_iff.mp H
  have AQ25 := Aside0.mk AQ25_
  clear AQ25_
  (try dsimp only at AQ25 H)
  by_cases c45 : t23 < 0
  · rw [if_pos c45] at H; cases H
  rw [if_neg c45] at H
  have c45b0 : decide (t23 < 0) = false := decide_eq_false c45
  clear c45
  rcases t26 with _ | _
  · rw [if_neg (by decide)] at H; cases H
  rw [if_pos rfl] at H
  by_cases c46 : (t13 != t6) = true
  · rw [if_pos c46] at H; cases H
  rw [if_neg c46] at H
  have c46b0 : (t13 != t6) = false := by simpa using c46
  have c46b1 : decide (t13 = t6) = true := by simpa using c46
  have c46b2 : (t13 == t6) = true := by simpa using c46
  clear c46
  obtain ⟨⟨t28, t29⟩, AQ27_, H⟩ := Option.bind_eq_some_iff.mp H
  have AQ27 := Aside0.mk AQ27_
  clear AQ27_
  (try dsimp only at AQ27 H)
  obtain ⟨t31, AQ30_, H⟩ := Option.bind_eq_some_iff.mp H
  have AQ30 := Aside0.mk AQ30_
  clear AQ30_
  (try dsimp only at AQ30 H)
  by_cases c47 : t31 < 0
  · rw [if_pos c47] at H; cases H
  rw [if_neg c47] at H
  have c47b0 : decide (t31 < 0) = false := decide_eq_false c47
  clear c47
  by_cases c48 : t31 = t28
  rotate_left
  · rw [if_neg c48] at H; cases H
  rw [if_pos c48] at H
  have c48b0 : (t31 == t28) = true := beq_iff_eq.mpr c48
  have c48b1 : (t31 != t28) = false := bne_eq_false_iff_eq.mpr c48
  clear c48
  obtain ⟨t33, AQ32_, H⟩ := Option.bind_eq_some_iff.mp H
  have AQ32 := Aside0.mk AQ32_
  clear AQ32_
  (try dsimp only at AQ32 H)
  obtain ⟨⟨t36, t37⟩, AQ35_, H⟩ := Option.bind_eq_some_iff.mp H
  have AQ35 := Aside0.mk AQ35_
  clear AQ35_
  (try dsimp only at AQ35 H)
  obtain ⟨t40, AQ39_, H⟩ := Option.bind_eq_some_iff.mp H
  have AQ39 := Aside0.mk AQ39_
  clear AQ39_
  (try dsimp only at AQ39 H)
  rcases t40 with _ | _
  · rw [if_neg (by decide)] at H; cases H
  rw [if_pos rfl] at H
  by_cases c49 : (t37 != t6) = true
  · rw [if_pos c49] at H; cases H
  rw [if_neg c49] at H
  have c49b0 : (t37 != t6) = false := by simpa using c49
  have c49b1 : decide (t37 = t6) = true := by simpa using c49
  have c49b2 : (t37 == t6) = true := by simpa using c49
  clear c49
  obtain ⟨t42, AQ41_, H⟩ := Option.bind_eq_some_iff.mp H
  have AQ41 := Aside0.mk AQ41_
  clear AQ41_
  (try dsimp only at AQ41 H)
  by_cases c50 : t42 < 0
  · rw [if_pos c50] at H; cases H
  rw [if_neg c50] at H
  have c50b0 : decide (t42 < 0) = false := decide_eq_false c50
  clear c50
  by_cases c51 : t42 = t28
  rotate_left
  · rw [if_neg c51] at H; cases H
  rw [if_pos c51] at H
  have c51b0 : (t42 == t28) = true := beq_iff_eq.mpr c51
  have c51b1 : (t42 != t28) = false := bne_eq_false_iff_eq.mpr c51
  clear c51
  obtain rfl := Option.some.inj H
  clear H
  go_enter Try.func14, Try.ntmps14
  try go_wp2_with (first | ((with_reducible refine gate_dst (N := 18) rfl ?_); refine goesL_ (some 18) rfl rfl Try.func20 (by kernel_rfl) rfl #[.slice A0 l0.length c0] rfl (by (try simp only [List.map_toArray, List.map_cons, List.map_nil]); first | done | rfl) ?_; (with_reducible refine (laws_toIntS.calls k _ _ l0 t2 _ (Kd.C_below HR0.out HB.out) HC0.out AQ1.out).mono ?_); rintro e W1 ⟨v3, rfl, ho3, hb⟩; refine ⟨_, rfl, ?_⟩; obtain ⟨B3, d3, e_⟩ := Kd.R_slice ho3; subst e_; obtain ⟨lo3, hi3, nn, ht_, hO3⟩ := laws_FnExactPairPlan.newR ho3 HT.out (below_size HB.out) hb.size; replace HB := Aside0.mk (below_step HB.out hb); replace HT := Aside0.mk (Nat.le_trans HT.out hb.size); have HO3 := Aside0.mk hO3; replace HT := Aside0.mk ht_; replace HN := Aside0.mk (And.intro nn HN.out); clear ho3 hO3 nn ht_; clear hb) | ((with_reducible refine gate_dst (N := 19) rfl ?_); refine goesL_ (some 19) rfl rfl Try.func54 (by kernel_rfl) rfl #[.slice B3 t2.length d3] rfl (by (try simp only [List.map_toArray, List.map_cons, List.map_nil]); first | done | rfl) ?_; (with_reducible refine (spec_PairPlan.calls k _ _ t2 t5 t6 _ (Kd.R_reads' HO3.out).2.2 (Kd.R_reads' HO3.out).2.1 AQ4.out).mono ?_); rintro e W2 ⟨v7, rfl, ho7, hb⟩; refine ⟨_, rfl, ?_⟩; obtain ⟨B7, d7, e_⟩ := Kd.N_slice ho7; subst e_; obtain ⟨lo7, hi7, nn, ht_, hO7⟩ := laws_FnExactPairPlan.newN ho7 HT.out (below_size HB.out) hb.size; replace HO3 := Aside0.mk (Kd.R_below HO3.out hb); replace HB := Aside0.mk (below_step HB.out hb); replace HT := Aside0.mk (Nat.le_trans HT.out hb.size); have HO7 := Aside0.mk hO7; replace HT := Aside0.mk ht_; replace HN := Aside0.mk (And.intro nn HN.out); clear ho7 hO7 nn ht_; clear hb; clear HO3) | ((with_reducible refine gate_dst (N := 23) rfl ?_); refine goesL_ (some 23) rfl rfl Try.func20 (by kernel_rfl) rfl #[.slice A0 l0.length c0] rfl (by (try simp only [List.map_toArray, List.map_cons, List.map_nil]); first | done | rfl) ?_; (with_reducible refine (laws_toIntS.calls k _ _ l0 t9 _ (Kd.C_below HR0.out HB.out) HC0.out AQ8.out).mono ?_); rintro e W3 ⟨v10, rfl, ho10, hb⟩; refine ⟨_, rfl, ?_⟩; obtain ⟨B10, d10, e_⟩ := Kd.R_slice ho10; subst e_; obtain ⟨lo10, hi10, nn, ht_, hO10⟩ := laws_FnExactPairPlan.newR ho10 HT.out (below_size HB.out) hb.size; replace HO7 := Aside0.mk (Kd.N_below HO7.out hb); replace HB := Aside0.mk (below_step HB.out hb); replace HT := Aside0.mk (Nat.le_trans HT.out hb.size); have HO10 := Aside0.mk hO10; replace HT := Aside0.mk ht_; replace HN := Aside0.mk (And.intro nn HN.out); clear ho10 hO10 nn ht_; clear hb) | ((with_reducible refine gate_dst (N := 26) rfl ?_); refine goesL_ (some 26) rfl rfl Try.func55 (by kernel_rfl) rfl #[.slice B10 t9.length d10] rfl (by (try simp only [List.map_toArray, List.map_cons, List.map_nil]); first | done | rfl) ?_; (with_reducible refine (impl_PairPlan.calls k _ _ t9 t12 t13 _ (Kd.R_reads' HO10.out).2.2 (Kd.R_reads' HO10.out).2.1 AQ11.out).mono ?_); rintro e W4 ⟨v14, rfl, ho14, hb⟩; refine ⟨_, rfl, ?_⟩; obtain ⟨B14, d14, e_⟩ := Kd.S_slice ho14; subst e_; obtain ⟨lo14, hi14, nn, ht_, hO14⟩ := laws_FnExactPairPlan.newS ho14 HT.out (below_size HB.out) hb.size; replace HO7 := Aside0.mk (Kd.N_below HO7.out hb); replace HO10 := Aside0.mk (Kd.R_below HO10.out hb); replace HB := Aside0.mk (below_step HB.out hb); replace HT := Aside0.mk (Nat.le_trans HT.out hb.size); have HO14 := Aside0.mk hO14; replace HT := Aside0.mk ht_; replace HN := Aside0.mk (And.intro nn HN.out); clear ho14 hO14 nn ht_; clear hb) | ((with_reducible refine gate_dst (N := 31) rfl ?_); refine goesL_ (some 31) rfl rfl Try.func51 (by kernel_rfl) rfl #[.slice B14 t12.length d14, .slice B7 t5.length d7] rfl (by (try simp only [List.map_toArray, List.map_cons, List.map_nil]); first | done | rfl) ?_; (with_reducible refine (laws_eqIntSS.calls k _ _ t12 _ _ t5 true _ (Kd.R_reads' (Kd.S_R HO14.out)).2.2 (Kd.R_reads' (Kd.S_R HO14.out)).2.1 (Kd.N_reads' HO7.out).2.2 (Kd.N_reads' HO7.out).2.1 AQ15.out).mono ?_); rintro e W5 ⟨rfl, hd⟩; have hb := hd.below; clear hd; refine ⟨_, rfl, ?_⟩; replace HO7 := Aside0.mk (Kd.N_below HO7.out hb); replace HO10 := Aside0.mk (Kd.R_below HO10.out hb); replace HO14 := Aside0.mk (Kd.S_below HO14.out hb); replace HB := Aside0.mk (below_step HB.out hb); replace HT := Aside0.mk (Nat.le_trans HT.out hb.size); clear hb) | ((with_reducible refine gate_dst (N := 40) rfl ?_); refine goesL_ (some 40) rfl rfl Try.func20 (by kernel_rfl) rfl #[.slice A0 l0.length c0] rfl (by (try simp only [List.map_toArray, List.map_cons, List.map_nil]); first | done | rfl) ?_; (with_reducible refine (laws_toIntS.calls k _ _ l0 t18 _ (Kd.C_below HR0.out HB.out) HC0.out AQ17.out).mono ?_); rintro e W6 ⟨v19, rfl, ho19, hb⟩; refine ⟨_, rfl, ?_⟩; obtain ⟨B19, d19, e_⟩ := Kd.R_slice ho19; subst e_; obtain ⟨lo19, hi19, nn, ht_, hO19⟩ := laws_FnExactPairPlan.newR ho19 HT.out (below_size HB.out) hb.size; replace HO7 := Aside0.mk (Kd.N_below HO7.out hb); replace HO10 := Aside0.mk (Kd.R_below HO10.out hb); replace HO14 := Aside0.mk (Kd.S_below HO14.out hb); replace HB := Aside0.mk (below_step HB.out hb); replace HT := Aside0.mk (Nat.le_trans HT.out hb.size); have HO19 := Aside0.mk hO19; replace HT := Aside0.mk ht_; replace HN := Aside0.mk (And.intro nn HN.out); clear ho19 hO19 nn ht_; clear hb) | ((with_reducible refine gate_dst (N := 41) rfl ?_); refine goesL_ (some 41) rfl rfl Try.func22 (by kernel_rfl) rfl #[.slice B10 t9.length d10, .slice B19 t18.length d19] rfl (by (try simp only [List.map_toArray, List.map_cons, List.map_nil]); first | done | rfl) ?_; (with_reducible refine (laws_eqIntS.calls k _ _ t9 _ _ t18 true _ (Kd.R_reads' HO10.out).2.2 (Kd.R_reads' HO10.out).2.1 (Kd.R_reads' HO19.out).2.2 (Kd.R_reads' HO19.out).2.1 AQ20.out).mono ?_); rintro e W7 ⟨rfl, hd⟩; have hb := hd.below; clear hd; refine ⟨_, rfl, ?_⟩; replace HO7 := Aside0.mk (Kd.N_below HO7.out hb); replace HO10 := Aside0.mk (Kd.R_below HO10.out hb); replace HO14 := Aside0.mk (Kd.S_below HO14.out hb); replace HO19 := Aside0.mk (Kd.R_below HO19.out hb); replace HB := Aside0.mk (below_step HB.out hb); replace HT := Aside0.mk (Nat.le_trans HT.out hb.size); clear hb; clear HO19) | ((with_reducible refine gate_dst (N := 45) rfl ?_); refine goesL_ (some 45) rfl rfl Try.func25 (by kernel_rfl) rfl #[.slice B10 t9.length d10, .int .i64 1] rfl (by (try simp only [List.map_toArray, List.map_cons, List.map_nil]); first | done | rfl) ?_; (with_reducible refine (laws_markIntS.calls k (fun k_ => lo10 ≤ k_ ∧ k_ < hi10) (.slice B10 t9.length d10) t9 1 t23 t24 w _ HB.out HO10.out AQ22.out).mono ?_); rintro e W8 ⟨rfl, hy0, hb, hkp⟩; refine ⟨_, rfl, ?_⟩; replace HO7 := Aside0.mk (laws_FnExactPairPlan.keptN HO7.out hkp (by have hn_ := HN.out; omega)); replace HO14 := Aside0.mk (laws_FnExactPairPlan.keptS HO14.out hkp (by have hn_ := HN.out; omega)); replace HO10 := Aside0.mk (Kd.R_reok rfl hy0 (fun k_ e_ => HO10.out.1 k_ e_)); replace HB := Aside0.mk hb; replace HT := Aside0.mk (Nat.le_trans HT.out hkp.1); clear hy0 hb hkp; have hl_ := (Kd.R_reads' HO10.out).1; rw [hl_] at HO10; (try simp only [hl_]); clear hl_; clear HO10) | ((with_reducible refine gate_dst (N := 51) rfl ?_); (refine gate_guard (by rfl) ?_; dsimp only); refine goesL_ (some 51) rfl rfl Try.func51 (by kernel_rfl) rfl #[.slice B14 t12.length d14, .slice B7 t5.length d7] rfl (by (try simp only [List.map_toArray, List.map_cons, List.map_nil]); first | done | rfl) ?_; (with_reducible refine (laws_eqIntSS.calls k _ _ t12 _ _ t5 true _ (Kd.R_reads' (Kd.S_R HO14.out)).2.2 (Kd.R_reads' (Kd.S_R HO14.out)).2.1 (Kd.N_reads' HO7.out).2.2 (Kd.N_reads' HO7.out).2.1 AQ25.out).mono ?_); rintro e W9 ⟨rfl, hd⟩; have hb := hd.below; clear hd; refine ⟨_, rfl, ?_⟩; replace HO7 := Aside0.mk (Kd.N_below HO7.out hb); replace HO14 := Aside0.mk (Kd.S_below HO14.out hb); replace HB := Aside0.mk (below_step HB.out hb); replace HT := Aside0.mk (Nat.le_trans HT.out hb.size); clear hb) | ((with_reducible refine gate_dst (N := 61) rfl ?_); refine goesL_ (some 61) rfl rfl Try.func52 (by kernel_rfl) rfl #[.slice B14 t12.length d14, .int .i64 1] rfl (by (try simp only [List.map_toArray, List.map_cons, List.map_nil]); first | done | rfl) ?_; (with_reducible refine (laws_markIntSS.calls k (fun k_ => lo14 ≤ k_ ∧ k_ < hi14) (.slice B14 t12.length d14) t12 1 t28 t29 w _ HB.out HO14.out AQ27.out).mono ?_); rintro e W10 ⟨rfl, hy0, hb, hkp⟩; refine ⟨_, rfl, ?_⟩; replace HO7 := Aside0.mk (laws_FnExactPairPlan.keptN HO7.out hkp (by have hn_ := HN.out; omega)); replace HO14 := Aside0.mk (hy0); replace HB := Aside0.mk hb; replace HT := Aside0.mk (Nat.le_trans HT.out hkp.1); clear hy0 hb hkp; have hl_ := (Kd.R_reads' (Kd.S_R HO14.out)).1; rw [hl_] at HO14; (try simp only [hl_]); clear hl_) | ((with_reducible refine gate_dst (N := 64) rfl ?_); refine goesL_ (some 64) rfl rfl Try.func53 (by kernel_rfl) rfl #[.slice B14 t29.length d14, .int .i64 1] rfl (by (try simp only [List.map_toArray, List.map_cons, List.map_nil]); first | done | rfl) ?_; (with_reducible refine (laws_heldIntSS.calls k _ _ t29 1 t31 _ (Kd.R_reads' (Kd.S_R HO14.out)).2.2 (Kd.R_reads' (Kd.S_R HO14.out)).2.1 AQ30.out).mono ?_); rintro e W11 ⟨rfl, hd⟩; have hb := hd.below; clear hd; refine ⟨_, rfl, ?_⟩; replace HO7 := Aside0.mk (Kd.N_below HO7.out hb); replace HO14 := Aside0.mk (Kd.S_below HO14.out hb); replace HB := Aside0.mk (below_step HB.out hb); replace HT := Aside0.mk (Nat.le_trans HT.out hb.size); clear hb) | ((with_reducible refine gate_dst (N := 72) rfl ?_); refine goesL_ (some 72) rfl rfl Try.func20 (by kernel_rfl) rfl #[.slice A0 l0.length c0] rfl (by (try simp only [List.map_toArray, List.map_cons, List.map_nil]); first | done | rfl) ?_; (with_reducible refine (laws_toIntS.calls k _ _ l0 t33 _ (Kd.C_below HR0.out HB.out) HC0.out AQ32.out).mono ?_); rintro e W12 ⟨v34, rfl, ho34, hb⟩; refine ⟨_, rfl, ?_⟩; obtain ⟨B34, d34, e_⟩ := Kd.R_slice ho34; subst e_; obtain ⟨lo34, hi34, nn, ht_, hO34⟩ := laws_FnExactPairPlan.newR ho34 HT.out (below_size HB.out) hb.size; replace HO7 := Aside0.mk (Kd.N_below HO7.out hb); replace HO14 := Aside0.mk (Kd.S_below HO14.out hb); replace HB := Aside0.mk (below_step HB.out hb); replace HT := Aside0.mk (Nat.le_trans HT.out hb.size); have HO34 := Aside0.mk hO34; replace HT := Aside0.mk ht_; replace HN := Aside0.mk (And.intro nn HN.out); clear ho34 hO34 nn ht_; clear hb) | ((with_reducible refine gate_dst (N := 73) rfl ?_); refine goesL_ (some 73) rfl rfl Try.func55 (by kernel_rfl) rfl #[.slice B34 t33.length d34] rfl (by (try simp only [List.map_toArray, List.map_cons, List.map_nil]); first | done | rfl) ?_; (with_reducible refine (impl_PairPlan.calls k _ _ t33 t36 t37 _ (Kd.R_reads' HO34.out).2.2 (Kd.R_reads' HO34.out).2.1 AQ35.out).mono ?_); rintro e W13 ⟨v38, rfl, ho38, hb⟩; refine ⟨_, rfl, ?_⟩; obtain ⟨B38, d38, e_⟩ := Kd.S_slice ho38; subst e_; obtain ⟨lo38, hi38, nn, ht_, hO38⟩ := laws_FnExactPairPlan.newS ho38 HT.out (below_size HB.out) hb.size; replace HO7 := Aside0.mk (Kd.N_below HO7.out hb); replace HO14 := Aside0.mk (Kd.S_below HO14.out hb); replace HO34 := Aside0.mk (Kd.R_below HO34.out hb); replace HB := Aside0.mk (below_step HB.out hb); replace HT := Aside0.mk (Nat.le_trans HT.out hb.size); have HO38 := Aside0.mk hO38; replace HT := Aside0.mk ht_; replace HN := Aside0.mk (And.intro nn HN.out); clear ho38 hO38 nn ht_; clear hb; clear HO34) | ((with_reducible refine gate_dst (N := 78) rfl ?_); refine goesL_ (some 78) rfl rfl Try.func51 (by kernel_rfl) rfl #[.slice B38 t36.length d38, .slice B7 t5.length d7] rfl (by (try simp only [List.map_toArray, List.map_cons, List.map_nil]); first | done | rfl) ?_; (with_reducible refine (laws_eqIntSS.calls k _ _ t36 _ _ t5 true _ (Kd.R_reads' (Kd.S_R HO38.out)).2.2 (Kd.R_reads' (Kd.S_R HO38.out)).2.1 (Kd.N_reads' HO7.out).2.2 (Kd.N_reads' HO7.out).2.1 AQ39.out).mono ?_); rintro e W14 ⟨rfl, hd⟩; have hb := hd.below; clear hd; refine ⟨_, rfl, ?_⟩; replace HO7 := Aside0.mk (Kd.N_below HO7.out hb); replace HO14 := Aside0.mk (Kd.S_below HO14.out hb); replace HO38 := Aside0.mk (Kd.S_below HO38.out hb); replace HB := Aside0.mk (below_step HB.out hb); replace HT := Aside0.mk (Nat.le_trans HT.out hb.size); clear hb; clear HO7 HO38) | ((with_reducible refine gate_dst (N := 87) rfl ?_); refine goesL_ (some 87) rfl rfl Try.func53 (by kernel_rfl) rfl #[.slice B14 t29.length d14, .int .i64 1] rfl (by (try simp only [List.map_toArray, List.map_cons, List.map_nil]); first | done | rfl) ?_; (with_reducible refine (laws_heldIntSS.calls k _ _ t29 1 t42 _ (Kd.R_reads' (Kd.S_R HO14.out)).2.2 (Kd.R_reads' (Kd.S_R HO14.out)).2.1 AQ41.out).mono ?_); rintro e W15 ⟨rfl, hd⟩; have hb := hd.below; clear hd; refine ⟨_, rfl, ?_⟩; replace HO14 := Aside0.mk (Kd.S_below HO14.out hb); replace HB := Aside0.mk (below_step HB.out hb); replace HT := Aside0.mk (Nat.le_trans HT.out hb.size); clear hb; clear HO14))
  go_ret
  exact ⟨by first | rfl | (simp; done) | (simp [*]; done), HB.out⟩

/-! ### spec_CountFetches: function 42 -/
def spec_CountFetches.l0 (s : ByteArray) : Nat → Nat → Int → Option Int
  | 0, _, _ => none
  | k + 1, pos, n => if h : pos < s.size then spec_CountFetches.l0 s k (pos + (Utf8.decode s pos).2) (if (s[pos]'h).toNat = 102 then wrap64 (n + 1) else n) else some n
def spec_CountFetches.f (k : Nat) (l0 : List Int) : Option (Int × Bool) := (spec_prGood.f k l0).bind fun t => if t = true then (spec_prTrips.f k l0 false).bind fun r => (spec_CountFetches.l0 r.2.1 k 0 0).bind fun n => some (n, true) else some (0, false)
set_option maxHeartbeats 8000000 in
set_option maxRecDepth 100000 in
theorem spec_CountFetches.calls (k : Nat) (A0 : Option Addr) (c0 : Nat) (l0 : List Int) (r1 : Int) (r2 : Bool) (w : World) (hr0 : Kd.C (Kd.int .i64) w A0 l0.length l0) (hc0 : l0.length ≤ c0) (h : spec_CountFetches.f k l0 = some (r1, r2)) :
    Calls Try.prog 42 #[.slice A0 l0.length c0] w fun e w' => e = .returned (.tuple #[.int .i64 r1, .bool r2]) ∧ Below w.heap.size w w' := by
  have HR0 := Aside0.mk hr0
  have HC0 := Aside0.mk hc0
  clear hr0 hc0
  have HB := Aside0.mk (Below.refl w.heap.size w)
  have H : ((spec_prGood.f k l0).bind fun t => if t = true then (spec_prTrips.f k l0 false).bind fun r => (spec_CountFetches.l0 r.2.1 k 0 0).bind fun n => some (n, true) else some (0, false)) = some (r1, r2) := h
  clear h
  obtain ⟨t, A20, H⟩ := Option.bind_eq_some_iff.mp H
  have A2 := Aside0.mk A20
  clear A20
  cases t with
  | false =>
    simp only [Bool.false_eq_true, if_false, Option.some.injEq, Prod.mk.injEq] at H
    obtain ⟨rfl, rfl⟩ := H
    go_enter Try.func42, Try.ntmps42
    go_wp2_with (go_at_call 71; refine (spec_prGood.calls k _ _ l0 false _ HR0.out HC0.out A2.out).mono ?_; rintro e w5 ⟨rfl, hd⟩; have hb := hd.below; clear hd; replace HB := Aside0.mk (below_step HB.out hb); clear hb)
    go_ret2
    exact ⟨rfl, HB.out⟩
  | true =>
    simp only [if_true] at H
    obtain ⟨⟨q1, q2, q3⟩, A40, H⟩ := Option.bind_eq_some_iff.mp H
    have A4 := Aside0.mk A40
    clear A40
    obtain ⟨n1, A50, H⟩ := Option.bind_eq_some_iff.mp H
    have A5 : Aside0 (spec_CountFetches.l0 q2 k 0 0 = some n1) := ⟨A50⟩
    clear A50
    simp only [Option.some.injEq, Prod.mk.injEq] at H
    obtain ⟨rfl, rfl⟩ := H
    go_enter Try.func42, Try.ntmps42
    go_wp2_with (first | (go_at_call 71; refine (spec_prGood.calls k _ _ l0 true _ HR0.out HC0.out A2.out).mono ?_; rintro e w5 ⟨rfl, hd⟩; have hb := hd.below; clear hd; replace HB := Aside0.mk (below_step HB.out hb); clear hb) | (go_at_call 74; refine (spec_prTrips.calls k _ _ l0 false q1 q2 q3 _ (Kd.C_below HR0.out HB.out) HC0.out A4.out).mono ?_; rintro e w6 ⟨v6, rfl, ho, hb⟩; clear ho; replace HB := Aside0.mk (below_step HB.out hb); clear hb))
    have hit0 : (w6.iter q2 0).heap[w6.heap.size]? = some (.stringIter q2 0) := World.iter_heap w6 q2 0
    have hB7 : Below w.heap.size w (w6.iter q2 0) := below_alloc HB.out _
    have hg : w.heap.size ≤ w6.heap.size := below_size HB.out
    clear HB
    generalize w6.iter q2 0 = w7 at hit0 hB7 ⊢
    generalize w6.heap.size = gi at hit0 hg ⊢
    have HG := Aside0.mk hg
    have HI := Aside0.mk hit0
    have HB := Aside0.mk hB7
    clear hit0 hB7 hg
    go_loopg [7] k (fun gg v4 wr => ∃ (pos : Nat) (n : Int), v4 = .int .i64 n ∧ Aside0 (spec_CountFetches.l0 q2 gg pos n = some n1) ∧ Aside0 (wr.heap[gi]? = some (.stringIter q2 pos)) ∧ Aside0 (Below w.heap.size w wr))
    case atStart => exact ⟨0, 0, rfl, A5, HI, HB⟩
    case round =>
      clear HI HB
      obtain ⟨pos, n, rfl, HA, HI, HB⟩ := hrel
      cases gk with
      | zero => exact absurd HA.out (by simp [spec_CountFetches.l0])
      | succ k1 =>
        have H := HA.out
        clear HA
        simp only [spec_CountFetches.l0] at H
        by_cases hp : pos < q2.size
        · rw [dif_pos hp] at H
          have HH := Aside0.mk H
          clear H
          have hnx : ∀ ty, (Instr.next (.pointer (some ⟨gi, 0, none⟩)) true ty).run Try.prog wr = _ := fun ty => Lib.run_next_any_at wr gi q2 pos ty HI.out hp
          have HI2 := Aside0.mk (Lib.iterAt_heap wr gi q2 pos (pos + (Utf8.decode q2 pos).2) HI.out)
          have HB2 := Aside0.mk (Lib.below_iterAt HB.out (k := gi) HG.out q2 (pos + (Utf8.decode q2 pos).2))
          clear HI HB
          generalize wr.iterAt gi q2 (pos + (Utf8.decode q2 pos).2) = w8 at hnx HI2 HB2
          generalize (Utf8.decode q2 pos).2 = wd at HH HI2
          generalize (Utf8.decode q2 pos).1 = ch at hnx
          by_cases hc : (q2[pos]'hp).toNat = 102
          · have hcb : (((q2[pos]'hp).toNat : Int) == 102) = true := by rw [hc]; rfl
            replace HH := Aside0.mk (show spec_CountFetches.l0 q2 k1 (pos + wd) (wrap64 (n + 1)) = some n1 from by have h9 := HH.out; rw [if_pos hc] at h9; exact h9)
            go_wp2
            go_roundg k1
            case rel => exact ⟨_, _, rfl, HH, HI2, HB2⟩
            case measure => omega
          · have hcb : (((q2[pos]'hp).toNat : Int) == 102) = false := beq_eq_false_iff_ne.mpr (by omega)
            replace HH := Aside0.mk (show spec_CountFetches.l0 q2 k1 (pos + wd) n = some n1 from by have h9 := HH.out; rw [if_neg hc] at h9; exact h9)
            go_wp2
            go_roundg k1
            case rel => exact ⟨_, _, rfl, HH, HI2, HB2⟩
            case measure => omega
        · rw [dif_neg hp] at H
          have hnx : ∀ ty, (Instr.next (.pointer (some ⟨gi, 0, none⟩)) true ty).run Try.prog wr = _ := fun ty => Lib.run_next_end_at wr gi q2 pos ty HI.out hp
          cases H
          go_wp2
          go_ret2
          exact ⟨rfl, HB.out⟩

/-! ### impl_CountFetches: function 43 -/
def impl_CountFetches.l0 (s : ByteArray) : Nat → Nat → Int → Option Int
  | 0, _, _ => none
  | k + 1, pos, n => if pos < s.size then impl_CountFetches.l0 s k (pos + (Utf8.decode s pos).2) (wrap64 (n + (if (Utf8.decode s pos).1 = 102 then 1 else 0))) else some n
def impl_CountFetches.f (k : Nat) (l0 : List Int) : Option (Int × Bool) := (impl_isTimes.f l0).bind fun t => if t = true then (impl_cross.f k l0 false).bind fun r => (impl_CountFetches.l0 r.2.1 k 0 0).bind fun n => some (n, true) else some (0, false)
theorem impl_CountFetches.bit (b : Bool) (w : World) : Calls Try.prog 79 #[.bool b] w fun e w' => e = .returned (.int .i64 (if b = true then 1 else 0)) ∧ Below w.heap.size w w' := by
  have HB := Aside0.mk (Below.refl w.heap.size w)
  cases b with
  | false =>
    go_enter Try.func79, Try.ntmps79
    go_wp2
    go_ret
    exact ⟨rfl, HB.out⟩
  | true =>
    go_enter Try.func79, Try.ntmps79
    go_wp2
    go_ret
    exact ⟨rfl, HB.out⟩
set_option maxHeartbeats 8000000 in
set_option maxRecDepth 100000 in
attribute [local go_sem] impl_cross.field0 impl_cross.field1 impl_cross.field2 in
theorem impl_CountFetches.calls (k : Nat) (A0 : Option Addr) (c0 : Nat) (l0 : List Int) (r1 : Int) (r2 : Bool) (w : World) (hr0 : Kd.C (Kd.int .i64) w A0 l0.length l0) (hc0 : l0.length ≤ c0) (h : impl_CountFetches.f k l0 = some (r1, r2)) :
    Calls Try.prog 43 #[.slice A0 l0.length c0] w fun e w' => e = .returned (.tuple #[.int .i64 r1, .bool r2]) ∧ Below w.heap.size w w' := by
  have HR0 := Aside0.mk hr0
  have HC0 := Aside0.mk hc0
  clear hr0 hc0
  have HB := Aside0.mk (Below.refl w.heap.size w)
  have H : ((impl_isTimes.f l0).bind fun t => if t = true then (impl_cross.f k l0 false).bind fun r => (impl_CountFetches.l0 r.2.1 k 0 0).bind fun n => some (n, true) else some (0, false)) = some (r1, r2) := h
  clear h
  obtain ⟨t, A20, H⟩ := Option.bind_eq_some_iff.mp H
  have A2 := Aside0.mk A20
  clear A20
  cases t with
  | false =>
    simp only [Bool.false_eq_true, if_false, Option.some.injEq, Prod.mk.injEq] at H
    obtain ⟨rfl, rfl⟩ := H
    go_enter Try.func43, Try.ntmps43
    go_wp2_with (go_at_call 61; refine (impl_isTimes.calls _ _ l0 false _ HR0.out HC0.out A2.out).mono ?_; rintro e w5 ⟨rfl, hb⟩; replace HB := Aside0.mk (below_step HB.out hb); clear hb)
    go_ret2
    exact ⟨rfl, HB.out⟩
  | true =>
    simp only [if_true] at H
    obtain ⟨⟨q1, q2, q3⟩, A40, H⟩ := Option.bind_eq_some_iff.mp H
    have A4 := Aside0.mk A40
    clear A40
    obtain ⟨n1, A50, H⟩ := Option.bind_eq_some_iff.mp H
    have A5 : Aside0 (impl_CountFetches.l0 q2 k 0 0 = some n1) := ⟨A50⟩
    clear A50
    simp only [Option.some.injEq, Prod.mk.injEq] at H
    obtain ⟨rfl, rfl⟩ := H
    go_enter Try.func43, Try.ntmps43
    go_wp2_with (first | (go_at_call 61; refine (impl_isTimes.calls _ _ l0 true _ HR0.out HC0.out A2.out).mono ?_; rintro e w5 ⟨rfl, hb⟩; replace HB := Aside0.mk (below_step HB.out hb); clear hb) | (go_at_call 73; refine (impl_cross.calls k _ _ l0 false q1 q2 q3 _ (Kd.C_below HR0.out HB.out) HC0.out A4.out).mono ?_; rintro e w6 ⟨v6, rfl, ho, hb⟩; clear ho; replace HB := Aside0.mk (below_step HB.out hb); clear hb))
    have hit0 : (w6.iter q2 0).heap[w6.heap.size]? = some (.stringIter q2 0) := World.iter_heap w6 q2 0
    have hB7 : Below w.heap.size w (w6.iter q2 0) := below_alloc HB.out _
    have hg : w.heap.size ≤ w6.heap.size := below_size HB.out
    clear HB
    generalize w6.iter q2 0 = w7 at hit0 hB7 ⊢
    generalize w6.heap.size = gi at hit0 hg ⊢
    have HG := Aside0.mk hg
    have HI := Aside0.mk hit0
    have HB := Aside0.mk hB7
    clear hit0 hB7 hg
    go_loopg [4] k (fun gg v4 wr => ∃ (pos : Nat) (n : Int), v4 = .int .i64 n ∧ Aside0 (impl_CountFetches.l0 q2 gg pos n = some n1) ∧ Aside0 (wr.heap[gi]? = some (.stringIter q2 pos)) ∧ Aside0 (Below w.heap.size w wr))
    case atStart => exact ⟨0, 0, rfl, A5, HI, HB⟩
    case round =>
      clear HI HB
      obtain ⟨pos, n, rfl, HA, HI, HB⟩ := hrel
      cases gk with
      | zero => exact absurd HA.out (by simp [impl_CountFetches.l0])
      | succ k1 =>
        have H := HA.out
        clear HA
        simp only [impl_CountFetches.l0] at H
        by_cases hp : pos < q2.size
        · rw [if_pos hp] at H
          have HH := Aside0.mk H
          clear H
          have hnx : ∀ ty, (Instr.next (.pointer (some ⟨gi, 0, none⟩)) true ty).run Try.prog wr = _ := fun ty => Lib.run_next_any_at wr gi q2 pos ty HI.out hp
          have HI2 := Aside0.mk (Lib.iterAt_heap wr gi q2 pos (pos + (Utf8.decode q2 pos).2) HI.out)
          have HB2 := Aside0.mk (Lib.below_iterAt HB.out (k := gi) HG.out q2 (pos + (Utf8.decode q2 pos).2))
          clear HI HB
          generalize wr.iterAt gi q2 (pos + (Utf8.decode q2 pos).2) = w8 at hnx HI2 HB2
          generalize (Utf8.decode q2 pos).2 = wd at HH HI2
          generalize (Utf8.decode q2 pos).1 = ch at HH hnx
          by_cases hc : ch = 102
          · subst hc
            replace HH := Aside0.mk (show impl_CountFetches.l0 q2 k1 (pos + wd) (wrap64 (n + 1)) = some n1 from HH.out)
            have hcb : (((102 : Nat) : Int) == 102) = true := rfl
            go_wp2_with (go_at_call 79; refine (impl_CountFetches.bit _ _).mono ?_; rintro e w9 ⟨rfl, hb⟩; replace HI2 := Aside0.mk ((hb.block gi (blk_lt HI2.out)).trans HI2.out); replace HB2 := Aside0.mk (below_step HB2.out hb); clear hb)
            go_roundg k1
            case rel => exact ⟨_, _, rfl, HH, HI2, HB2⟩
            case measure => omega
          · have hcb : ((ch : Int) == 102) = false := beq_eq_false_iff_ne.mpr (by omega)
            replace HH := Aside0.mk (show impl_CountFetches.l0 q2 k1 (pos + wd) (wrap64 n) = some n1 from by have h9 := HH.out; rw [if_neg hc, Int.add_zero] at h9; exact h9)
            go_wp2_with (go_at_call 79; refine (impl_CountFetches.bit _ _).mono ?_; rintro e w9 ⟨rfl, hb⟩; replace HI2 := Aside0.mk ((hb.block gi (blk_lt HI2.out)).trans HI2.out); replace HB2 := Aside0.mk (below_step HB2.out hb); clear hb)
            go_roundg k1
            case rel => exact ⟨_, _, rfl, HH, HI2, HB2⟩
            case measure => omega
        · rw [if_neg hp] at H
          have hnx : ∀ ty, (Instr.next (.pointer (some ⟨gi, 0, none⟩)) true ty).run Try.prog wr = _ := fun ty => Lib.run_next_end_at wr gi q2 pos ty HI.out hp
          cases H
          go_wp2
          go_ret2
          exact ⟨rfl, HB.out⟩

/-! ### laws_FnExactCountFetches: function 9 -/
def laws_FnExactCountFetches.f (k : Nat) (l0 : List Int) : Option (Bool) := if (l0.length : Int) > 1048576 then (some true) else ((laws_toIntS.f k l0).bind fun t325 => ((spec_CountFetches.f k t325).bind fun bt328 => ((laws_toIntS.f k l0).bind fun t330 => ((impl_CountFetches.f k t330).bind fun bt333 => (if bt333.1 = bt328.1 then (if (bt333.2 != bt328.2) = true then (none) else ((laws_toIntS.f k l0).bind fun t335 => ((laws_eqIntS.f k t330 t335).bind fun t338 => (if t338 = true then (some true) else (none))))) else (none))))))
set_option maxHeartbeats 8000000 in
set_option maxRecDepth 100000 in
theorem laws_FnExactCountFetches.calls (k : Nat) (A0 : Option Addr) (c0 : Nat) (l0 : List Int) (r : Bool) (w : World) (hr0 : Kd.C (Kd.int .i64) w A0 l0.length l0) (hc0 : l0.length ≤ c0) (h : laws_FnExactCountFetches.f k l0 = some r) :
    Calls Try.prog 9 #[.slice A0 l0.length c0] w fun e w' => e = .returned (.bool r) ∧ Below w.heap.size w w' := by
  have HR0 := Aside0.mk hr0
  have HC0 := Aside0.mk hc0
  clear hr0 hc0
  have HB := Aside0.mk (Below.refl w.heap.size w)
  have H : (if (l0.length : Int) > 1048576 then (some true) else ((laws_toIntS.f k l0).bind fun t325 => ((spec_CountFetches.f k t325).bind fun bt328 => ((laws_toIntS.f k l0).bind fun t330 => ((impl_CountFetches.f k t330).bind fun bt333 => (if bt333.1 = bt328.1 then (if (bt333.2 != bt328.2) = true then (none) else ((laws_toIntS.f k l0).bind fun t335 => ((laws_eqIntS.f k t330 t335).bind fun t338 => (if t338 = true then (some true) else (none))))) else (none))))))) = some r := h
  clear h
  by_cases c2 : (l0.length : Int) > 1048576
  · rw [if_pos c2] at H
    have c2b0 : decide (1048576 < (l0.length : Int)) = true := decide_eq_true c2
    have c2b1 : decide (1048576 < l0.length) = true := decide_eq_true (by omega)
    clear c2
    obtain rfl := Option.some.inj H
    go_enter Try.func9, Try.ntmps9
    go_wp2
    go_ret
    exact ⟨by first | rfl | (simp [errW_none, errW_some] <;> rfl) | (simp [*, errW_none, errW_some] <;> rfl), by repeat (first | (with_reducible first | exact HB.out | apply below_alloc | apply pw_below_drewN | apply below_drew1) | exact HB.out)⟩
  · rw [if_neg c2] at H
    have c2b0 : decide (1048576 < (l0.length : Int)) = false := decide_eq_false c2
    have c2b1 : decide (1048576 < l0.length) = false := decide_eq_false (by omega)
    clear c2
    replace H := Option.bind_eq_some_iff.mp H
    obtain ⟨t325, A30, H⟩ := H
    replace H : ((spec_CountFetches.f k t325).bind fun bt328 => ((laws_toIntS.f k l0).bind fun t330 => ((impl_CountFetches.f k t330).bind fun bt333 => (if bt333.1 = bt328.1 then (if (bt333.2 != bt328.2) = true then (none) else ((laws_toIntS.f k l0).bind fun t335 => ((laws_eqIntS.f k t330 t335).bind fun t338 => (if t338 = true then (some true) else (none))))) else (none))))) = some r := H
    have A3 := Aside0.mk A30
    clear A30
    replace H := Option.bind_eq_some_iff.mp H
    obtain ⟨⟨t328, t329⟩, A40, H⟩ := H
    replace H : ((laws_toIntS.f k l0).bind fun t330 => ((impl_CountFetches.f k t330).bind fun bt333 => (if bt333.1 = t328 then (if (bt333.2 != t329) = true then (none) else ((laws_toIntS.f k l0).bind fun t335 => ((laws_eqIntS.f k t330 t335).bind fun t338 => (if t338 = true then (some true) else (none))))) else (none)))) = some r := H
    have A4 := Aside0.mk A40
    clear A40
    replace H := Option.bind_eq_some_iff.mp H
    obtain ⟨t330, A50, H⟩ := H
    replace H : ((impl_CountFetches.f k t330).bind fun bt333 => (if bt333.1 = t328 then (if (bt333.2 != t329) = true then (none) else ((laws_toIntS.f k l0).bind fun t335 => ((laws_eqIntS.f k t330 t335).bind fun t338 => (if t338 = true then (some true) else (none))))) else (none))) = some r := H
    have A5 := Aside0.mk A50
    clear A50
    replace H := Option.bind_eq_some_iff.mp H
    obtain ⟨⟨t333, t334⟩, A60, H⟩ := H
    replace H : (if t333 = t328 then (if (t334 != t329) = true then (none) else ((laws_toIntS.f k l0).bind fun t335 => ((laws_eqIntS.f k t330 t335).bind fun t338 => (if t338 = true then (some true) else (none))))) else (none)) = some r := H
    have A6 := Aside0.mk A60
    clear A60
    by_cases c7 : t333 = t328
    · rw [if_pos c7] at H
      have c7b0 : (t333 == t328) = true := beq_iff_eq.mpr c7
      have c7b1 : (t333 != t328) = false := bne_eq_false_iff_eq.mpr c7
      clear c7
      by_cases c8 : (t334 != t329) = true
      · rw [if_pos c8] at H
        exact absurd H (by simp)
      · rw [if_neg c8] at H
        have c8b0 : (t334 != t329) = false := by simpa using c8
        (try (have c8b1 : decide (t334 = t329) = true := by simpa using c8))
        (try (have c8b2 : (t334 == t329) = true := by simpa using c8))
        clear c8
        replace H := Option.bind_eq_some_iff.mp H
        obtain ⟨t335, A90, H⟩ := H
        replace H : ((laws_eqIntS.f k t330 t335).bind fun t338 => (if t338 = true then (some true) else (none))) = some r := H
        have A9 := Aside0.mk A90
        clear A90
        replace H := Option.bind_eq_some_iff.mp H
        obtain ⟨t338, A100, H⟩ := H
        replace H : (if t338 = true then (some true) else (none)) = some r := H
        have A10 := Aside0.mk A100
        clear A100
        by_cases c11 : t338 = true
        · subst c11
          have H1 : (some true) = some r := by rw [if_pos rfl] at H; exact H
          clear H
          have H := H1
          clear H1
          obtain rfl := Option.some.inj H
          go_enter Try.func9, Try.ntmps9
          go_wp2_with (first | ((with_reducible refine gate_callee (f := 20) rfl ?_); refine goesL_ (some 13) rfl rfl Try.func20 (by kernel_rfl) rfl #[.slice A0 l0.length c0] rfl (by (try simp only [List.map_toArray, List.map_cons, List.map_nil]); first | done | rfl | (simp only [List.length_drop, List.length_take]; rfl)) ?_; (with_reducible refine (laws_toIntS.calls k _ _ l0 t325 _ ?side1 ?side2 A3.out).mono ?_); (case side1 => repeat (first | exact HR0.out | (with_reducible refine Kd.C_alloc ?_ _) | (with_reducible refine Kd.C_drewN ?_ _) | (with_reducible refine Kd.C_drew ?_))); (case side2 => exact HC0.out); rintro e w12 ⟨v326, rfl, ho0, hb⟩; refine ⟨_, rfl, ?_⟩; have n0_ := Aside0.mk (Kd.R_lower ho0 (below_size (by repeat (first | (with_reducible first | exact HB.out | apply below_alloc | apply pw_below_drewN | apply below_drew1) | exact HB.out)))); have n1_ := Aside0.mk (below_step (by repeat (first | (with_reducible first | exact HB.out | apply below_alloc | apply pw_below_drewN | apply below_drew1) | exact HB.out)) hb); clear HB; have HO327 := n0_; have HB := n1_; clear n0_ n1_; (try clear hb); (try clear hb2); (try clear hk); (try clear hi); (try clear ho0); obtain ⟨Ao13, co13, eo13⟩ := Kd.R_slice HO327.out; subst eo13) | ((with_reducible refine gate_callee (f := 42) rfl ?_); refine goesL_ (some 14) rfl rfl Try.func42 (by kernel_rfl) rfl #[.slice Ao13 t325.length co13] rfl (by (try simp only [List.map_toArray, List.map_cons, List.map_nil]); first | done | rfl | (simp only [List.length_drop, List.length_take]; rfl)) ?_; (with_reducible refine (spec_CountFetches.calls k _ _ t325 t328 t329 _ ?side1 ?side2 A4.out).mono ?_); (case side1 => repeat (first | exact (Kd.R_reads' HO327.out).2.2 | (with_reducible refine Kd.C_alloc ?_ _) | (with_reducible refine Kd.C_drewN ?_ _) | (with_reducible refine Kd.C_drew ?_))); (case side2 => exact (Kd.R_reads' HO327.out).2.1); rintro e w14 ⟨rfl, hb⟩; refine ⟨_, rfl, ?_⟩; have n0_ := Aside0.mk (Kd.R_below (by (with_reducible repeat (first | apply Kd.R_alloc | apply Kd.R_drewN | apply Kd.R_drew)); exact HO327.out) hb); have n1_ := Aside0.mk (below_step (by repeat (first | (with_reducible first | exact HB.out | apply below_alloc | apply pw_below_drewN | apply below_drew1) | exact HB.out)) hb); clear HO327; clear HB; have HO327 := n0_; have HB := n1_; clear n0_ n1_; (try clear hb); (try clear hb2); (try clear hk); (try clear hi)) | ((with_reducible refine gate_callee (f := 20) rfl ?_); refine goesL_ (some 18) rfl rfl Try.func20 (by kernel_rfl) rfl #[.slice A0 l0.length c0] rfl (by (try simp only [List.map_toArray, List.map_cons, List.map_nil]); first | done | rfl | (simp only [List.length_drop, List.length_take]; rfl)) ?_; (with_reducible refine (laws_toIntS.calls k _ _ l0 t330 _ ?side1 ?side2 A5.out).mono ?_); (case side1 => repeat (first | exact (Kd.C_below HR0.out HB.out) | (with_reducible refine Kd.C_alloc ?_ _) | (with_reducible refine Kd.C_drewN ?_ _) | (with_reducible refine Kd.C_drew ?_))); (case side2 => exact HC0.out); rintro e w15 ⟨v331, rfl, ho0, hb⟩; refine ⟨_, rfl, ?_⟩; have n0_ := Aside0.mk (Kd.R_elder' (by (with_reducible repeat (first | apply Kd.R_alloc | apply Kd.R_drewN | apply Kd.R_drew)); exact HO327.out) (Kd.R_base ho0) hb); have n1_ := Aside0.mk (Kd.R_lower (Kd.R_new' ho0 (Kd.R_lt (by (with_reducible repeat (first | apply Kd.R_alloc | apply Kd.R_drewN | apply Kd.R_drew)); exact HO327.out))) (below_size (by repeat (first | (with_reducible first | exact HB.out | apply below_alloc | apply pw_below_drewN | apply below_drew1) | exact HB.out)))); have n2_ := Aside0.mk (below_step (by repeat (first | (with_reducible first | exact HB.out | apply below_alloc | apply pw_below_drewN | apply below_drew1) | exact HB.out)) hb); clear HO327; clear HB; have HO327 := n0_; have HO332 := n1_; have HB := n2_; clear n0_ n1_ n2_; (try clear hb); (try clear hb2); (try clear hk); (try clear hi); (try clear ho0); obtain ⟨Ao16, co16, eo16⟩ := Kd.R_slice HO332.out; subst eo16) | ((with_reducible refine gate_callee (f := 43) rfl ?_); refine goesL_ (some 21) rfl rfl Try.func43 (by kernel_rfl) rfl #[.slice Ao16 t330.length co16] rfl (by (try simp only [List.map_toArray, List.map_cons, List.map_nil]); first | done | rfl | (simp only [List.length_drop, List.length_take]; rfl)) ?_; (with_reducible refine (impl_CountFetches.calls k _ _ t330 t333 t334 _ ?side1 ?side2 A6.out).mono ?_); (case side1 => repeat (first | exact (Kd.R_reads' HO332.out).2.2 | (with_reducible refine Kd.C_alloc ?_ _) | (with_reducible refine Kd.C_drewN ?_ _) | (with_reducible refine Kd.C_drew ?_))); (case side2 => exact (Kd.R_reads' HO332.out).2.1); rintro e w17 ⟨rfl, hb⟩; refine ⟨_, rfl, ?_⟩; have n0_ := Aside0.mk (Kd.R_below (by (with_reducible repeat (first | apply Kd.R_alloc | apply Kd.R_drewN | apply Kd.R_drew)); exact HO327.out) hb); have n1_ := Aside0.mk (Kd.R_below (by (with_reducible repeat (first | apply Kd.R_alloc | apply Kd.R_drewN | apply Kd.R_drew)); exact HO332.out) hb); have n2_ := Aside0.mk (below_step (by repeat (first | (with_reducible first | exact HB.out | apply below_alloc | apply pw_below_drewN | apply below_drew1) | exact HB.out)) hb); clear HO327; clear HO332; clear HB; have HO327 := n0_; have HO332 := n1_; have HB := n2_; clear n0_ n1_ n2_; (try clear hb); (try clear hb2); (try clear hk); (try clear hi)) | ((with_reducible refine gate_callee (f := 20) rfl ?_); refine goesL_ (some 34) rfl rfl Try.func20 (by kernel_rfl) rfl #[.slice A0 l0.length c0] rfl (by (try simp only [List.map_toArray, List.map_cons, List.map_nil]); first | done | rfl | (simp only [List.length_drop, List.length_take]; rfl)) ?_; (with_reducible refine (laws_toIntS.calls k _ _ l0 t335 _ ?side1 ?side2 A9.out).mono ?_); (case side1 => repeat (first | exact (Kd.C_below HR0.out HB.out) | (with_reducible refine Kd.C_alloc ?_ _) | (with_reducible refine Kd.C_drewN ?_ _) | (with_reducible refine Kd.C_drew ?_))); (case side2 => exact HC0.out); rintro e w18 ⟨v336, rfl, ho0, hb⟩; refine ⟨_, rfl, ?_⟩; have n0_ := Aside0.mk (Kd.R_elder' (by (with_reducible repeat (first | apply Kd.R_alloc | apply Kd.R_drewN | apply Kd.R_drew)); exact HO327.out) (Kd.R_base ho0) hb); have n1_ := Aside0.mk (Kd.R_elder' (by (with_reducible repeat (first | apply Kd.R_alloc | apply Kd.R_drewN | apply Kd.R_drew)); exact HO332.out) (Kd.R_base ho0) hb); have n2_ := Aside0.mk (Kd.R_lower (Kd.R_new' (Kd.R_new' ho0 (Kd.R_lt (by (with_reducible repeat (first | apply Kd.R_alloc | apply Kd.R_drewN | apply Kd.R_drew)); exact HO327.out))) (Kd.R_lt (by (with_reducible repeat (first | apply Kd.R_alloc | apply Kd.R_drewN | apply Kd.R_drew)); exact HO332.out))) (below_size (by repeat (first | (with_reducible first | exact HB.out | apply below_alloc | apply pw_below_drewN | apply below_drew1) | exact HB.out)))); have n3_ := Aside0.mk (below_step (by repeat (first | (with_reducible first | exact HB.out | apply below_alloc | apply pw_below_drewN | apply below_drew1) | exact HB.out)) hb); clear HO327; clear HO332; clear HB; have HO327 := n0_; have HO332 := n1_; have HO337 := n2_; have HB := n3_; clear n0_ n1_ n2_ n3_; (try clear hb); (try clear hb2); (try clear hk); (try clear hi); (try clear ho0); obtain ⟨Ao19, co19, eo19⟩ := Kd.R_slice HO337.out; subst eo19) | ((with_reducible refine gate_callee (f := 22) rfl ?_); refine goesL_ (some 35) rfl rfl Try.func22 (by kernel_rfl) rfl #[.slice Ao16 t330.length co16, .slice Ao19 t335.length co19] rfl (by (try simp only [List.map_toArray, List.map_cons, List.map_nil]); first | done | rfl | (simp only [List.length_drop, List.length_take]; rfl)) ?_; (with_reducible refine (laws_eqIntS.calls k _ _ t330 _ _ t335 true _ ?side1 ?side2 ?side3 ?side4 A10.out).mono ?_); (case side1 => repeat (first | exact (Kd.R_reads' HO332.out).2.2 | (with_reducible refine Kd.C_alloc ?_ _) | (with_reducible refine Kd.C_drewN ?_ _) | (with_reducible refine Kd.C_drew ?_))); (case side2 => exact (Kd.R_reads' HO332.out).2.1); (case side3 => repeat (first | exact (Kd.R_reads' HO337.out).2.2 | (with_reducible refine Kd.C_alloc ?_ _) | (with_reducible refine Kd.C_drewN ?_ _) | (with_reducible refine Kd.C_drew ?_))); (case side4 => exact (Kd.R_reads' HO337.out).2.1); rintro e w' ⟨rfl, ⟨nd, rfl⟩⟩; refine ⟨_, rfl, ?_⟩))
          go_ret
          exact ⟨by first | rfl | (simp [errW_none, errW_some] <;> rfl) | (simp [*, errW_none, errW_some] <;> rfl), by repeat (first | (with_reducible first | exact HB.out | apply below_alloc | apply pw_below_drewN | apply below_drew1) | exact HB.out)⟩
        · replace c11 := Bool.eq_false_iff.mpr c11
          subst c11
          have H1 : (none) = some r := by rw [if_neg (show ¬ (false = true) by decide)] at H; exact H
          clear H
          have H := H1
          clear H1
          exact absurd H (by simp)
    · rw [if_neg c7] at H
      exact absurd H (by simp)

/-- THE ONE PURE STATEMENT of laws_FnExactCountFetches: yours. -/
def laws_FnExactCountFetches.Pure : Prop := ∀ (l0 : List Int), l0.length ≤ maxLen → l0.length * 8 ≤ 140737488351232 → (∀ x ∈ l0, (Lit.int .i64 x).wf = true) → ∃ k, laws_FnExactCountFetches.f k l0 = some true
theorem laws_FnExactCountFetches.walk (P : laws_FnExactCountFetches.Pure) (a0 : Option Addr) (len0 cap0 : Nat) (z0 : List Int) (w : World) (w0 : (a0 = none ∧ len0 = 0 ∧ cap0 = 0 ∧ z0 = []) ∨ ∃ x, a0 = some x ∧ len0 ≤ cap0 ∧ cap0 ≤ maxLen ∧ z0.length = cap0 ∧ (∀ i, i < z0.length → w.cell? (x.add i) = some (.int .i64 (z0.getD i 0))) ∧ ∀ n ∈ z0, (Lit.int .i64 n).wf = true) (y0 : len0 * 8 ≤ 140737488351232) :
    Calls Try.prog 9 #[.slice a0 len0 cap0] w fun e w' => e = .returned (.bool true) ∧ Below w.heap.size w w' := by
  obtain ⟨l0, rfl, hr0, hm0, hw0, hc0⟩ := ReadsInt.ofRowC w0
  obtain ⟨k, h⟩ := P l0 hm0 y0 hw0
  refine (laws_FnExactCountFetches.calls k _ _ l0 true w (Kd.C_of_reads (d := (0 : Int)) (h1 := fun _ => rfl) hr0) hc0 h).mono ?_
  rintro e w' ⟨rfl, hd⟩
  exact ⟨rfl, hd⟩

end Go.Proofs.Ytlmiojnkjlnmjaa.G
