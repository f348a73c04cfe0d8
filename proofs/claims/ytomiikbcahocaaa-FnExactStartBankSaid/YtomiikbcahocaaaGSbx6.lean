-- Laid by wip/gprint.py (the session's own program, round the kit's printer) for this claim.
import Derived.Test.YtomiikbcahocaaaGSbx0
import Derived.Test.YtomiikbcahocaaaGSbx1
import Derived.Test.YtomiikbcahocaaaGSbx2
import Derived.Test.YtomiikbcahocaaaGSbx5
namespace Go.Proofs.Ytomiikbcahocaaa.G
open Go.RowKit Go.Proofs.YtomiikbcahocaaaW.PrintWords Go.Proofs.YtomiikbcahocaaaW.PrintLast Go.Proofs.YtomiikbcahocaaaW.PrintMore
attribute [local go_sem] max2_int min2_int max_two min_two max_three min_three max_four min_four   -- for this text's walks alone
set_option linter.unusedVariables false
set_option linter.unusedSimpArgs false

/-! ### laws_FnExactStartBank: function 6 -/
theorem laws_FnExactStartBank.newR {α : Type} {d : Kd α} {e T : Nat} {w W W' : World} {v : Value} {xs : List α} (h : d.R e W' W.heap.size (fun _ => True) v xs) (ht : T ≤ W.heap.size) (hw : w.heap.size ≤ W.heap.size) (hs : W.heap.size ≤ W'.heap.size) : ∃ lo hi : Nat, (T ≤ lo ∧ lo ≤ hi) ∧ hi ≤ W'.heap.size ∧ d.R e W' w.heap.size (fun k_ => lo ≤ k_ ∧ k_ < hi) v xs :=
  ⟨W.heap.size, W'.heap.size, ⟨ht, hs⟩, Nat.le_refl _, Kd.R_lower (Kd.R_mono (Kd.R_bound h) (fun _ hk => ⟨hk.2.1, hk.2.2.1⟩)) hw⟩
theorem laws_FnExactStartBank.newS {α : Type} {d : Kd α} {e T : Nat} {w W W' : World} {v : Value} {xs : List α} (h : Kd.S d e W' W.heap.size (fun _ => True) v xs) (ht : T ≤ W.heap.size) (hw : w.heap.size ≤ W.heap.size) (hs : W.heap.size ≤ W'.heap.size) : ∃ lo hi : Nat, (T ≤ lo ∧ lo ≤ hi) ∧ hi ≤ W'.heap.size ∧ Kd.S d e W' w.heap.size (fun k_ => lo ≤ k_ ∧ k_ < hi) v xs :=
  ⟨W.heap.size, W'.heap.size, ⟨ht, hs⟩, Nat.le_refl _, Kd.S_lower (Kd.S_mono (Kd.S_bound h) (fun _ hk => ⟨hk.2.1, hk.2.2.1⟩)) hw⟩
theorem laws_FnExactStartBank.grownR {α : Type} {d : Kd α} {e b lo hi g : Nat} {W W' : World} {v : Value} {xs : List α} (h : d.R e W b (fun k_ => lo ≤ k_ ∧ k_ < hi) v xs) (hg : W.grownBy W' (some g)) (hne : g < lo ∨ hi ≤ g) : d.R e W' b (fun k_ => lo ≤ k_ ∧ k_ < hi) v xs :=
  Kd.R_grown h hg (fun k hk he => by injection he with he; have h1 := hk.1; have h2 := hk.2; omega)
theorem laws_FnExactStartBank.grownS {α : Type} {d : Kd α} {e b lo hi g : Nat} {W W' : World} {v : Value} {xs : List α} (h : Kd.S d e W b (fun k_ => lo ≤ k_ ∧ k_ < hi) v xs) (hg : W.grownBy W' (some g)) (hne : g < lo ∨ hi ≤ g) : Kd.S d e W' b (fun k_ => lo ≤ k_ ∧ k_ < hi) v xs :=
  Kd.S_grown h hg (fun k hk he => by injection he with he; have h1 := hk.1; have h2 := hk.2; omega)
theorem laws_FnExactStartBank.keptR {α : Type} {d : Kd α} {e b lo hi lo' hi' : Nat} {W W' : World} {v : Value} {xs : List α} (h : d.R e W b (fun k_ => lo ≤ k_ ∧ k_ < hi) v xs) (hk : Kept W W' (fun k_ => lo' ≤ k_ ∧ k_ < hi')) (hne : hi ≤ lo' ∨ hi' ≤ lo) : d.R e W' b (fun k_ => lo ≤ k_ ∧ k_ < hi) v xs :=
  Kd.R_kept h hk (fun k h1 h2 => by have h3 := h1.1; have h4 := h1.2; have h5 := h2.1; have h6 := h2.2; omega)
theorem laws_FnExactStartBank.keptS {α : Type} {d : Kd α} {e b lo hi lo' hi' : Nat} {W W' : World} {v : Value} {xs : List α} (h : Kd.S d e W b (fun k_ => lo ≤ k_ ∧ k_ < hi) v xs) (hk : Kept W W' (fun k_ => lo' ≤ k_ ∧ k_ < hi')) (hne : hi ≤ lo' ∨ hi' ≤ lo) : Kd.S d e W' b (fun k_ => lo ≤ k_ ∧ k_ < hi) v xs :=
  Kd.S_kept h hk (fun k h1 h2 => by have h3 := h1.1; have h4 := h1.2; have h5 := h2.1; have h6 := h2.2; omega)
theorem laws_FnExactStartBank.keptB {lo hi g : Nat} {o : Obj} {W W' : World} (h : W.heap[g]? = some o) (hk : Kept W W' (fun k_ => lo ≤ k_ ∧ k_ < hi)) (hne : g < lo ∨ hi ≤ g) : W'.heap[g]? = some o :=
  blk_kept h hk (fun h2 => by have h5 := h2.1; have h6 := h2.2; omega)
theorem laws_FnExactStartBank.grownB {g g' : Nat} {o : Obj} {W W' : World} (h : W.heap[g]? = some o) (hg : W.grownBy W' (some g')) (hne : g ≠ g') : W'.heap[g]? = some o :=
  (hg.block g (blk_lt h) (fun he => hne (by injection he))).trans h
theorem laws_FnExactStartBank.runs {P : Program} {W : World} {g T : Nat} {cur : Array Value} (t : TypeId) (u : Value) (new : List Value) (hb : W.heap[g]? = some (.cells cur T (0, 0))) (hu : u.cells.toList = new) (ht : (P.info? t).map (·.size) = some new.length) (hsz : new.length = cur.size) (h1 : ∀ q ∈ new, q.oneCell' = true) :
    ∃ w1, (Instr.storeAt t (.pointer (some ⟨g, 0, none⟩)) u).run P W = .ok () w1 ∧ w1.heap[g]? = some (.cells new.toArray T (0, 0)) ∧ W.grownBy w1 (some g) := by
  refine ⟨W.setCells g 0 new, run_store_run t u new hb hu ht (by omega) h1, ?_, ?_⟩
  · obtain ⟨cur', c1, c2, c3⟩ := setCells_row new 0 W cur hb (by omega)
    rw [c1]
    rw [List.take_zero, List.nil_append, Nat.zero_add, hsz, List.drop_eq_nil_of_le (by rw [Array.length_toList]; omega), List.append_nil] at c3
    rw [← c3]
  · obtain ⟨s1, s2, s3, s4⟩ := setCells_same g new 0 W
    exact ⟨s1, s2, s3, by rw [s4]; exact Nat.le_refl _, fun k _ hk => setCells_far _ _ k (fun he => hk (by rw [he]))⟩
theorem laws_FnExactStartBank.store {P : Program} {ops : Array Oper} {rest : List Oper} {o : Oper} {a : Act} {Q : Exit → Act → World → Prop} {W : World} (hgd : o.guard = none) (hN : o.dst = none) {t : TypeId} {p : Tmp} {x : Operand} (ho : o.op = .store t (.tmp p) x) (g T : Nat) (cur : Array Value) (u : Value) (new : List Value) (haddr : a.eval (.tmp p) = .pointer (some ⟨g, 0, none⟩)) (hx : a.eval x = u) (hb : W.heap[g]? = some (.cells cur T (0, 0))) (hu : u.cells.toList = new) (ht : (P.info? t).map (·.size) = some new.length) (hsz : new.length = cur.size) (h1 : ∀ q ∈ new, q.oneCell' = true)
    (h : ∀ w1, w1.heap[g]? = some (.cells new.toArray T (0, 0)) → W.grownBy w1 (some g) → wpList P ops Q rest a w1) : wpList P ops Q (o :: rest) a W := by
  obtain ⟨w1, hrun, h2, h3⟩ := laws_FnExactStartBank.runs (P := P) t u new hb hu ht hsz h1
  refine wpList_plain hgd fun K hK => ?_
  unfold Oper.wp execOp
  simp only [ho, haddr, hx, Sem.run_bind, Sem.run_pure, Result.andThen_ok, hrun]
  show K (a.put o.dst undef) _
  rw [hN]
  exact hK _ _ (h w1 h2 h3)
theorem laws_FnExactStartBank.storeK {P : Program} {ops : Array Oper} {o : Oper} {a : Act} {Q : Exit → Act → World → Prop} {Kc : Act → World → Prop} {W : World} (hw : Region.wanted o (yielded ops a.tmps) = true) (hN : o.dst = none) {t : TypeId} {p : Tmp} {x : Operand} (ho : o.op = .store t (.tmp p) x) (g T : Nat) (cur : Array Value) (u : Value) (new : List Value) (haddr : a.eval (.tmp p) = .pointer (some ⟨g, 0, none⟩)) (hx : a.eval x = u) (hb : W.heap[g]? = some (.cells cur T (0, 0))) (hu : u.cells.toList = new) (ht : (P.info? t).map (·.size) = some new.length) (hsz : new.length = cur.size) (h1 : ∀ q ∈ new, q.oneCell' = true)
    (h : ∀ w1, w1.heap[g]? = some (.cells new.toArray T (0, 0)) → W.grownBy w1 (some g) → Kc a w1) : if Region.wanted o (yielded ops a.tmps) = true then Oper.wp P o a W Kc Q else Kc (a.put none undef) W := by
  obtain ⟨w1, hrun, h2, h3⟩ := laws_FnExactStartBank.runs (P := P) t u new hb hu ht hsz h1
  rw [if_pos hw]
  unfold Oper.wp execOp
  simp only [ho, haddr, hx, Sem.run_bind, Sem.run_pure, Result.andThen_ok, hrun]
  show Kc (a.put o.dst undef) _
  rw [hN]
  exact h w1 h2 h3
def laws_FnExactStartBank.f (k : Nat) (a0_0 : Int) (l0_1 : List (List Int)) (a0_2 : Int) : Option Bool := (laws_szKeep.f k a0_0 l0_1 a0_2 1048576).bind fun b1 => (if b1 < 0 then some true else ((laws_toKeep.f k a0_0 l0_1 a0_2).bind fun b3 => ((spec_StartBank.f k b3.1 b3.2.1 b3.2.2).bind fun b8 => ((laws_toKeep.f k a0_0 l0_1 a0_2).bind fun b13 => ((impl_StartBank.f k b13.1 b13.2.1 b13.2.2).bind fun b18 => ((laws_eqBank.f k b18.1 b18.2.1 b8.1 b8.2.1).bind fun b23 => (if b23 = true then (if (b18.2.2 != b8.2.2) = true then none else ((laws_toKeep.f k a0_0 l0_1 a0_2).bind fun b25 => ((laws_eqKeep.f k b13.1 b13.2.1 b13.2.2 b25.1 b25.2.1 b25.2.2).bind fun b30 => (if b30 = true then ((laws_markKeep.f k b13.1 b13.2.1 b13.2.2 1).bind fun b32 => ((laws_eqBank.f k b18.1 b18.2.1 b8.1 b8.2.1).bind fun b35 => (if b32.1 < 0 then none else (if b35 = true then (if (b18.2.2 != b8.2.2) = true then none else ((laws_markBank.f k b18.1 b18.2.1 1).bind fun b37 => ((laws_heldBank.f k b37.2 b18.2.1 1).bind fun b40 => (if b40 < 0 then none else (if b40 = b37.1 then ((laws_toKeep.f k a0_0 l0_1 a0_2).bind fun b42 => ((impl_StartBank.f k b42.1 b42.2.1 b42.2.2).bind fun b47 => ((laws_eqBank.f k b47.1 b47.2.1 b8.1 b8.2.1).bind fun b52 => (if b52 = true then (if (b47.2.2 != b8.2.2) = true then none else ((laws_heldBank.f k b37.2 b18.2.1 1).bind fun b54 => (if b54 < 0 then none else (if b54 = b37.1 then (some true) else none)))) else none)))) else none))))) else none)))) else none)))) else none)))))))
set_option maxHeartbeats 16000000 in
set_option maxRecDepth 100000 in
theorem laws_FnExactStartBank.calls (k : Nat) (a0_0 : Int) (A0_1 : Option Addr) (c0_1 : Nat) (l0_1 : List (List Int)) (a0_2 : Int) (r : Bool) (w : World) (hr0_1 : Kd.C (Kd.slice 3 (Kd.int .i64)) w A0_1 l0_1.length l0_1) (hc0_1 : l0_1.length ≤ c0_1) (h : laws_FnExactStartBank.f k a0_0 l0_1 a0_2 = some r) :
    Calls Try.prog 6 #[.agg #[.int .i64 a0_0, .slice A0_1 l0_1.length c0_1, .int .i64 a0_2]] w fun e w' => e = .returned (.bool r) ∧ Below w.heap.size w w' := by
  have hu24 := Try.underlying24
  have hu27 := Try.underlying27
  have hu39 := Try.underlying39
  have HR0_1 := Aside0.mk hr0_1
  have HC0_1 := Aside0.mk hc0_1
  clear hr0_1 hc0_1
  have HB := Aside0.mk (Below.refl w.heap.size w)
  have HT := Aside0.mk (Nat.le_refl w.heap.size)
  have HN := Aside0.mk trivial
  have H := h
  unfold laws_FnExactStartBank.f at H
  clear h
  obtain ⟨t2, A1_, H⟩ := Option.bind_eq_some_iff.mp H
  have A1 := Aside0.mk A1_
  clear A1_
  (try dsimp only at A1 H)
  by_cases c56 : t2 < 0
  · rw [if_pos c56] at H
    have c56b0 : decide (t2 < 0) = true := decide_eq_true c56
    clear c56
    obtain rfl := Option.some.inj H
    go_enter Try.func6, Try.ntmps6
    try go_wp2_with (first | ((with_reducible refine gate_dst (N := 1) rfl ?_); refine box_event ?hg (N := 1) ?hd (cs := #[.int .i64 a0_0, .slice A0_1 l0_1.length c0_1, .int .i64 a0_2]) (t := 24) ?hr ?_; (case hd => rfl); (case hg => rfl); (case hr => first | (go_simp; done) | (go_simp; rfl)); intro gb1 hg W1 hbox hb; have nn : w.heap.size ≤ gb1 := Nat.le_trans HT.out (Nat.le_of_eq hg.symm); have GE1 := Aside0.mk (Nat.le_trans (below_size HB.out) (Nat.le_of_eq hg.symm)); replace HB := Aside0.mk (below_step HB.out hb); replace HT := Aside0.mk (Nat.le_trans HT.out hb.size); have BK1 := Aside0.mk hbox; replace HT := Aside0.mk (Nat.succ_le_of_lt (blk_lt hbox)); replace HN := Aside0.mk (And.intro nn HN.out); clear hg hbox hb nn; have cz1_0 : W1.cell? ⟨gb1, 0, none⟩ = some (.int .i64 a0_0) := (blk_cell BK1.out 0).trans rfl; have cz1_1 : W1.cell? ⟨gb1, 1, none⟩ = some (.slice A0_1 l0_1.length c0_1) := (blk_cell BK1.out 1).trans rfl; have cz1_2 : W1.cell? ⟨gb1, 2, none⟩ = some (.int .i64 a0_2) := (blk_cell BK1.out 2).trans rfl) | ((with_reducible refine gate_dst (N := 16) rfl ?_); refine goesL_ (some 16) rfl rfl Try.func12 (by kernel_rfl) rfl #[.agg #[.int .i64 a0_0, .slice A0_1 l0_1.length c0_1, .int .i64 a0_2], .int .i64 1048576] rfl (by (try simp only [List.map_toArray, List.map_cons, List.map_nil]); first | done | rfl) ?_; (with_reducible refine (laws_szKeep.calls k a0_0 _ _ l0_1 a0_2 1048576 t2 _ (Kd.C_below HR0_1.out HB.out) HC0_1.out A1.out).mono ?_); rintro e W2 ⟨rfl, hb⟩; refine ⟨_, rfl, ?_⟩; replace BK1 := Aside0.mk (blk_below (g := gb1) (o := .cells #[.int .i64 a0_0, .slice A0_1 l0_1.length c0_1, .int .i64 a0_2] 24 (0, 0)) BK1.out hb); replace HB := Aside0.mk (below_step HB.out hb); replace HT := Aside0.mk (Nat.le_trans HT.out hb.size); clear hb; (try clear cz1_0 cz1_1 cz1_2)))
    go_ret
    exact ⟨by first | rfl | (simp; done) | (simp [*]; done), HB.out⟩
  rw [if_neg c56] at H
  have c56b0 : decide (t2 < 0) = false := decide_eq_false c56
  clear c56
  obtain ⟨⟨t4, t5, t6⟩, A3_, H⟩ := Option.bind_eq_some_iff.mp H
  have A3 := Aside0.mk A3_
  clear A3_
  (try dsimp only at A3 H)
  obtain ⟨⟨t9, t10, t11⟩, A8_, H⟩ := Option.bind_eq_some_iff.mp H
  have A8 := Aside0.mk A8_
  clear A8_
  (try dsimp only at A8 H)
  obtain ⟨⟨t14, t15, t16⟩, A13_, H⟩ := Option.bind_eq_some_iff.mp H
  have A13 := Aside0.mk A13_
  clear A13_
  (try dsimp only at A13 H)
  obtain ⟨⟨t19, t20, t21⟩, A18_, H⟩ := Option.bind_eq_some_iff.mp H
  have A18 := Aside0.mk A18_
  clear A18_
  (try dsimp only at A18 H)
  obtain ⟨t24, A23_, H⟩ := Option.bind_eq_some_iff.mp H
  have A23 := Aside0.mk A23_
  clear A23_
  (try dsimp only at A23 H)
  rcases t24 with _ | _
  · rw [if_neg (by decide)] at H; cases H
  rw [if_pos rfl] at H
  by_cases c57 : (t21 != t11) = true
  · rw [if_pos c57] at H; cases H
  rw [if_neg c57] at H
  have c57b0 : (t21 != t11) = false := by simpa using c57
  have c57b1 : decide (t21 = t11) = true := by simpa using c57
  have c57b2 : (t21 == t11) = true := by simpa using c57
  clear c57
  obtain ⟨⟨t26, t27, t28⟩, A25_, H⟩ := Option.bind_eq_some_iff.mp H
  have A25 := Aside0.mk A25_
  clear A25_
  (try dsimp only at A25 H)
  obtain ⟨t31, A30_, H⟩ := Option.bind_eq_some_iff.mp H
  have A30 := Aside0.mk A30_
  clear A30_
  (try dsimp only at A30 H)
  rcases t31 with _ | _
  · rw [if_neg (by decide)] at H; cases H
  rw [if_pos rfl] at H
  obtain ⟨⟨t33, t34⟩, A32_, H⟩ := Option.bind_eq_some_iff.mp H
  have A32 := Aside0.mk A32_
  clear A32_
  (try dsimp only at A32 H)
  obtain ⟨t36, A35_, H⟩ := Option.bind_eq_some_iff.mp H
  have A35 := Aside0.mk A35_
  clear A35_
  (try dsimp only at A35 H)
  by_cases c58 : t33 < 0
  · rw [if_pos c58] at H; cases H
  rw [if_neg c58] at H
  have c58b0 : decide (t33 < 0) = false := decide_eq_false c58
  clear c58
  rcases t36 with _ | _
  · rw [if_neg (by decide)] at H; cases H
  rw [if_pos rfl] at H
  by_cases c59 : (t21 != t11) = true
  · rw [if_pos c59] at H; cases H
  rw [if_neg c59] at H
  have c59b0 : (t21 != t11) = false := by simpa using c59
  have c59b1 : decide (t21 = t11) = true := by simpa using c59
  have c59b2 : (t21 == t11) = true := by simpa using c59
  clear c59
  obtain ⟨⟨t38, t39⟩, A37_, H⟩ := Option.bind_eq_some_iff.mp H
  have A37 := Aside0.mk A37_
  clear A37_
  (try dsimp only at A37 H)
  obtain ⟨t41, A40_, H⟩ := Option.bind_eq_some_iff.mp H
  have A40 := Aside0.mk A40_
  clear A40_
  (try dsimp only at A40 H)
  by_cases c60 : t41 < 0
  · rw [if_pos c60] at H; cases H
  rw [if_neg c60] at H
  have c60b0 : decide (t41 < 0) = false := decide_eq_false c60
  clear c60
  by_cases c61 : t41 = t38
  rotate_left
  · rw [if_neg c61] at H; cases H
  rw [if_pos c61] at H
  have c61b0 : (t41 == t38) = true := beq_iff_eq.mpr c61
  have c61b1 : (t41 != t38) = false := bne_eq_false_iff_eq.mpr c61
  clear c61
  obtain ⟨⟨t43, t44, t45⟩, A42_, H⟩ := Option.bind_eq_some_iff.mp H
  have A42 := Aside0.mk A42_
  clear A42_
  (try dsimp only at A42 H)
  obtain ⟨⟨t48, t49, t50⟩, A47_, H⟩ := Option.bind_eq_some_iff.mp H
  have A47 := Aside0.mk A47_
  clear A47_
  (try dsimp only at A47 H)
  obtain ⟨t53, A52_, H⟩ := Option.bind_eq_some_iff.mp H
  have A52 := Aside0.mk A52_
  clear A52_
  (try dsimp only at A52 H)
  rcases t53 with _ | _
  · rw [if_neg (by decide)] at H; cases H
  rw [if_pos rfl] at H
  by_cases c62 : (t50 != t11) = true
  · rw [if_pos c62] at H; cases H
  rw [if_neg c62] at H
  have c62b0 : (t50 != t11) = false := by simpa using c62
  have c62b1 : decide (t50 = t11) = true := by simpa using c62
  have c62b2 : (t50 == t11) = true := by simpa using c62
  clear c62
  obtain ⟨t55, A54_, H⟩ := Option.bind_eq_some_iff.mp H
  have A54 := Aside0.mk A54_
  clear A54_
  (try dsimp only at A54 H)
  by_cases c63 : t55 < 0
  · rw [if_pos c63] at H; cases H
  rw [if_neg c63] at H
  have c63b0 : decide (t55 < 0) = false := decide_eq_false c63
  clear c63
  by_cases c64 : t55 = t38
  rotate_left
  · rw [if_neg c64] at H; cases H
  rw [if_pos c64] at H
  have c64b0 : (t55 == t38) = true := beq_iff_eq.mpr c64
  have c64b1 : (t55 != t38) = false := bne_eq_false_iff_eq.mpr c64
  clear c64
  obtain rfl := Option.some.inj H
  clear H
  go_enter Try.func6, Try.ntmps6
  try go_wp2_with (first | ((with_reducible refine gate_dst (N := 1) rfl ?_); refine box_event ?hg (N := 1) ?hd (cs := #[.int .i64 a0_0, .slice A0_1 l0_1.length c0_1, .int .i64 a0_2]) (t := 24) ?hr ?_; (case hd => rfl); (case hg => rfl); (case hr => first | (go_simp; done) | (go_simp; rfl)); intro gb1 hg W3 hbox hb; have nn : w.heap.size ≤ gb1 := Nat.le_trans HT.out (Nat.le_of_eq hg.symm); have GE1 := Aside0.mk (Nat.le_trans (below_size HB.out) (Nat.le_of_eq hg.symm)); replace HB := Aside0.mk (below_step HB.out hb); replace HT := Aside0.mk (Nat.le_trans HT.out hb.size); have BK1 := Aside0.mk hbox; replace HT := Aside0.mk (Nat.succ_le_of_lt (blk_lt hbox)); replace HN := Aside0.mk (And.intro nn HN.out); clear hg hbox hb nn; have cz1_0 : W3.cell? ⟨gb1, 0, none⟩ = some (.int .i64 a0_0) := (blk_cell BK1.out 0).trans rfl; have cz1_1 : W3.cell? ⟨gb1, 1, none⟩ = some (.slice A0_1 l0_1.length c0_1) := (blk_cell BK1.out 1).trans rfl; have cz1_2 : W3.cell? ⟨gb1, 2, none⟩ = some (.int .i64 a0_2) := (blk_cell BK1.out 2).trans rfl) | ((with_reducible refine gate_dst (N := 16) rfl ?_); refine goesL_ (some 16) rfl rfl Try.func12 (by kernel_rfl) rfl #[.agg #[.int .i64 a0_0, .slice A0_1 l0_1.length c0_1, .int .i64 a0_2], .int .i64 1048576] rfl (by (try simp only [List.map_toArray, List.map_cons, List.map_nil]); first | done | rfl) ?_; (with_reducible refine (laws_szKeep.calls k a0_0 _ _ l0_1 a0_2 1048576 t2 _ (Kd.C_below HR0_1.out HB.out) HC0_1.out A1.out).mono ?_); rintro e W4 ⟨rfl, hb⟩; refine ⟨_, rfl, ?_⟩; replace BK1 := Aside0.mk (blk_below (g := gb1) (o := .cells #[.int .i64 a0_0, .slice A0_1 l0_1.length c0_1, .int .i64 a0_2] 24 (0, 0)) BK1.out hb); replace HB := Aside0.mk (below_step HB.out hb); replace HT := Aside0.mk (Nat.le_trans HT.out hb.size); clear hb; (try clear cz1_0 cz1_1 cz1_2); have cz1_0 : W4.cell? ⟨gb1, 0, none⟩ = some (.int .i64 a0_0) := (blk_cell BK1.out 0).trans rfl; have cz1_1 : W4.cell? ⟨gb1, 1, none⟩ = some (.slice A0_1 l0_1.length c0_1) := (blk_cell BK1.out 1).trans rfl; have cz1_2 : W4.cell? ⟨gb1, 2, none⟩ = some (.int .i64 a0_2) := (blk_cell BK1.out 2).trans rfl) | ((with_reducible refine gate_dst (N := 21) rfl ?_); refine goesL_ (some 21) rfl rfl Try.func14 (by kernel_rfl) rfl #[.agg #[.int .i64 a0_0, .slice A0_1 l0_1.length c0_1, .int .i64 a0_2]] rfl (by (try simp only [List.map_toArray, List.map_cons, List.map_nil]); first | done | rfl) ?_; (with_reducible refine (laws_toKeep.calls k a0_0 _ _ l0_1 a0_2 t4 t5 t6 _ (Kd.C_below HR0_1.out HB.out) HC0_1.out A3.out).mono ?_); rintro e W5 ⟨v7, rfl, ho7, hb⟩; refine ⟨_, rfl, ?_⟩; obtain ⟨B7, d7, e_⟩ := Kd.S_slice ho7; subst e_; obtain ⟨lo7, hi7, nn, ht_, hO7⟩ := laws_FnExactStartBank.newS ho7 HT.out (below_size HB.out) hb.size; replace BK1 := Aside0.mk (blk_below (g := gb1) (o := .cells #[.int .i64 a0_0, .slice A0_1 l0_1.length c0_1, .int .i64 a0_2] 24 (0, 0)) BK1.out hb); replace HB := Aside0.mk (below_step HB.out hb); replace HT := Aside0.mk (Nat.le_trans HT.out hb.size); have HO7 := Aside0.mk hO7; replace HT := Aside0.mk ht_; replace HN := Aside0.mk (And.intro nn HN.out); clear ho7 hO7 nn ht_; clear hb; (try clear cz1_0 cz1_1 cz1_2)) | ((with_reducible refine gate_dst (N := 22) rfl ?_); refine goesL_ (some 22) rfl rfl Try.func24 (by kernel_rfl) rfl #[.agg #[.int .i64 t4, .slice B7 t5.length d7, .int .i64 t6]] rfl (by (try simp only [List.map_toArray, List.map_cons, List.map_nil]); first | done | rfl) ?_; (with_reducible refine (spec_StartBank.calls k t4 _ _ t5 t6 t9 t10 t11 _ (Kd.R_reads' (Kd.S_R HO7.out)).2.2 (Kd.R_reads' (Kd.S_R HO7.out)).2.1 A8.out).mono ?_); rintro e W6 ⟨v12, rfl, ho12, hb⟩; refine ⟨_, rfl, ?_⟩; obtain ⟨B12, d12, e_⟩ := Kd.R_slice ho12; subst e_; obtain ⟨lo12, hi12, nn, ht_, hO12⟩ := laws_FnExactStartBank.newR ho12 HT.out (below_size HB.out) hb.size; replace HO7 := Aside0.mk (Kd.S_below HO7.out hb); replace BK1 := Aside0.mk (blk_below (g := gb1) (o := .cells #[.int .i64 a0_0, .slice A0_1 l0_1.length c0_1, .int .i64 a0_2] 24 (0, 0)) BK1.out hb); replace HB := Aside0.mk (below_step HB.out hb); replace HT := Aside0.mk (Nat.le_trans HT.out hb.size); have HO12 := Aside0.mk hO12; replace HT := Aside0.mk ht_; replace HN := Aside0.mk (And.intro nn HN.out); clear ho12 hO12 nn ht_; clear hb) | ((with_reducible refine gate_dst (N := 4) rfl ?_); refine box_event ?hg (N := 4) ?hd (cs := #[.slice none 0 0, .bool false]) (t := 39) ?hr ?_; (case hd => rfl); (case hg => rfl); (case hr => first | (go_simp; done) | (go_simp; rfl)); intro gb2 hg W7 hbox hb; have nn : hi12 ≤ gb2 := Nat.le_trans HT.out (Nat.le_of_eq hg.symm); have GE2 := Aside0.mk (Nat.le_trans (below_size HB.out) (Nat.le_of_eq hg.symm)); replace HO7 := Aside0.mk (Kd.S_below HO7.out hb); replace HO12 := Aside0.mk (Kd.R_below HO12.out hb); replace BK1 := Aside0.mk (blk_below (g := gb1) (o := .cells #[.int .i64 a0_0, .slice A0_1 l0_1.length c0_1, .int .i64 a0_2] 24 (0, 0)) BK1.out hb); replace HB := Aside0.mk (below_step HB.out hb); replace HT := Aside0.mk (Nat.le_trans HT.out hb.size); have BK2 := Aside0.mk hbox; replace HT := Aside0.mk (Nat.succ_le_of_lt (blk_lt hbox)); replace HN := Aside0.mk (And.intro nn HN.out); clear hg hbox hb nn) | ((with_reducible refine gate_store (t := 39) (p := 4) rfl ?_); refine laws_FnExactStartBank.store rfl rfl rfl gb2 39 #[.slice none 0 0, .bool false] (.agg #[.slice B12 t9.length d12, .bool t10]) [.slice B12 t9.length d12, .bool t10] rfl rfl BK2.out rfl (by kernel_rfl) rfl (by intro q_ hq_; simp only [List.mem_cons, List.not_mem_nil, or_false] at hq_; rcases hq_ with rfl | rfl <;> rfl) ?_; intro W8 hbx hg; replace HO7 := Aside0.mk (laws_FnExactStartBank.grownS HO7.out hg (by have hn_ := HN.out; omega)); replace HO12 := Aside0.mk (laws_FnExactStartBank.grownR HO12.out hg (by have hn_ := HN.out; omega)); replace BK1 := Aside0.mk (laws_FnExactStartBank.grownB BK1.out hg (by have hn_ := HN.out; omega)); replace HB := Aside0.mk (Below.grown HB.out hg (below_size HB.out) (fun k_ hk_ => by injection hk_ with hk_; subst hk_; exact GE2.out)); replace HT := Aside0.mk (Nat.le_trans HT.out hg.size); replace BK2 := Aside0.mk hbx; clear hbx hg; have cz1_0 : W8.cell? ⟨gb1, 0, none⟩ = some (.int .i64 a0_0) := (blk_cell BK1.out 0).trans rfl; have cz1_1 : W8.cell? ⟨gb1, 1, none⟩ = some (.slice A0_1 l0_1.length c0_1) := (blk_cell BK1.out 1).trans rfl; have cz1_2 : W8.cell? ⟨gb1, 2, none⟩ = some (.int .i64 a0_2) := (blk_cell BK1.out 2).trans rfl) | ((with_reducible refine gate_dst (N := 26) rfl ?_); refine goesL_ (some 26) rfl rfl Try.func14 (by kernel_rfl) rfl #[.agg #[.int .i64 a0_0, .slice A0_1 l0_1.length c0_1, .int .i64 a0_2]] rfl (by (try simp only [List.map_toArray, List.map_cons, List.map_nil]); first | done | rfl) ?_; (with_reducible refine (laws_toKeep.calls k a0_0 _ _ l0_1 a0_2 t14 t15 t16 _ (Kd.C_below HR0_1.out HB.out) HC0_1.out A13.out).mono ?_); rintro e W9 ⟨v17, rfl, ho17, hb⟩; refine ⟨_, rfl, ?_⟩; obtain ⟨B17, d17, e_⟩ := Kd.S_slice ho17; subst e_; obtain ⟨lo17, hi17, nn, ht_, hO17⟩ := laws_FnExactStartBank.newS ho17 HT.out (below_size HB.out) hb.size; replace HO7 := Aside0.mk (Kd.S_below HO7.out hb); replace HO12 := Aside0.mk (Kd.R_below HO12.out hb); replace BK1 := Aside0.mk (blk_below (g := gb1) (o := .cells #[.int .i64 a0_0, .slice A0_1 l0_1.length c0_1, .int .i64 a0_2] 24 (0, 0)) BK1.out hb); replace BK2 := Aside0.mk (blk_below (g := gb2) (o := .cells #[.slice B12 t9.length d12, .bool t10] 39 (0, 0)) BK2.out hb); replace HB := Aside0.mk (below_step HB.out hb); replace HT := Aside0.mk (Nat.le_trans HT.out hb.size); have HO17 := Aside0.mk hO17; replace HT := Aside0.mk ht_; replace HN := Aside0.mk (And.intro nn HN.out); clear ho17 hO17 nn ht_; clear hb; (try clear cz1_0 cz1_1 cz1_2)) | ((with_reducible refine gate_dst (N := 6) rfl ?_); refine box_event ?hg (N := 6) ?hd (cs := #[.int .i64 0, .slice none 0 0, .int .i64 0]) (t := 27) ?hr ?_; (case hd => rfl); (case hg => rfl); (case hr => first | (go_simp; done) | (go_simp; rfl)); intro gb3 hg W10 hbox hb; have nn : hi17 ≤ gb3 := Nat.le_trans HT.out (Nat.le_of_eq hg.symm); have GE3 := Aside0.mk (Nat.le_trans (below_size HB.out) (Nat.le_of_eq hg.symm)); replace HO7 := Aside0.mk (Kd.S_below HO7.out hb); replace HO12 := Aside0.mk (Kd.R_below HO12.out hb); replace HO17 := Aside0.mk (Kd.S_below HO17.out hb); replace BK1 := Aside0.mk (blk_below (g := gb1) (o := .cells #[.int .i64 a0_0, .slice A0_1 l0_1.length c0_1, .int .i64 a0_2] 24 (0, 0)) BK1.out hb); replace BK2 := Aside0.mk (blk_below (g := gb2) (o := .cells #[.slice B12 t9.length d12, .bool t10] 39 (0, 0)) BK2.out hb); replace HB := Aside0.mk (below_step HB.out hb); replace HT := Aside0.mk (Nat.le_trans HT.out hb.size); have BK3 := Aside0.mk hbox; replace HT := Aside0.mk (Nat.succ_le_of_lt (blk_lt hbox)); replace HN := Aside0.mk (And.intro nn HN.out); clear hg hbox hb nn) | ((with_reducible refine gate_store (t := 27) (p := 6) rfl ?_); refine laws_FnExactStartBank.store rfl rfl rfl gb3 27 #[.int .i64 0, .slice none 0 0, .int .i64 0] (.agg #[.int .i64 t14, .slice B17 t15.length d17, .int .i64 t16]) [.int .i64 t14, .slice B17 t15.length d17, .int .i64 t16] rfl rfl BK3.out rfl (by kernel_rfl) rfl (by intro q_ hq_; simp only [List.mem_cons, List.not_mem_nil, or_false] at hq_; rcases hq_ with rfl | rfl | rfl <;> rfl) ?_; intro W11 hbx hg; replace HO7 := Aside0.mk (laws_FnExactStartBank.grownS HO7.out hg (by have hn_ := HN.out; omega)); replace HO12 := Aside0.mk (laws_FnExactStartBank.grownR HO12.out hg (by have hn_ := HN.out; omega)); replace HO17 := Aside0.mk (laws_FnExactStartBank.grownS HO17.out hg (by have hn_ := HN.out; omega)); replace BK1 := Aside0.mk (laws_FnExactStartBank.grownB BK1.out hg (by have hn_ := HN.out; omega)); replace BK2 := Aside0.mk (laws_FnExactStartBank.grownB BK2.out hg (by have hn_ := HN.out; omega)); replace HB := Aside0.mk (Below.grown HB.out hg (below_size HB.out) (fun k_ hk_ => by injection hk_ with hk_; subst hk_; exact GE3.out)); replace HT := Aside0.mk (Nat.le_trans HT.out hg.size); replace BK3 := Aside0.mk hbx; clear hbx hg; have cz3_0 : W11.cell? ⟨gb3, 0, none⟩ = some (.int .i64 t14) := (blk_cell BK3.out 0).trans rfl; have cz3_1 : W11.cell? ⟨gb3, 1, none⟩ = some (.slice B17 t15.length d17) := (blk_cell BK3.out 1).trans rfl; have cz3_2 : W11.cell? ⟨gb3, 2, none⟩ = some (.int .i64 t16) := (blk_cell BK3.out 2).trans rfl) | ((with_reducible refine gate_dst (N := 29) rfl ?_); refine goesL_ (some 29) rfl rfl Try.func25 (by kernel_rfl) rfl #[.agg #[.int .i64 t14, .slice B17 t15.length d17, .int .i64 t16]] rfl (by (try simp only [List.map_toArray, List.map_cons, List.map_nil]); first | done | rfl) ?_; (with_reducible refine (impl_StartBank.calls k t14 _ _ t15 t16 t19 t20 t21 _ (Kd.R_reads' (Kd.S_R HO17.out)).2.2 (Kd.R_reads' (Kd.S_R HO17.out)).2.1 A18.out).mono ?_); rintro e W12 ⟨v22, rfl, ho22, hb⟩; refine ⟨_, rfl, ?_⟩; obtain ⟨B22, d22, e_⟩ := Kd.R_slice ho22; subst e_; obtain ⟨lo22, hi22, nn, ht_, hO22⟩ := laws_FnExactStartBank.newR ho22 HT.out (below_size HB.out) hb.size; replace HO7 := Aside0.mk (Kd.S_below HO7.out hb); replace HO12 := Aside0.mk (Kd.R_below HO12.out hb); replace HO17 := Aside0.mk (Kd.S_below HO17.out hb); replace BK1 := Aside0.mk (blk_below (g := gb1) (o := .cells #[.int .i64 a0_0, .slice A0_1 l0_1.length c0_1, .int .i64 a0_2] 24 (0, 0)) BK1.out hb); replace BK2 := Aside0.mk (blk_below (g := gb2) (o := .cells #[.slice B12 t9.length d12, .bool t10] 39 (0, 0)) BK2.out hb); replace BK3 := Aside0.mk (blk_below (g := gb3) (o := .cells #[.int .i64 t14, .slice B17 t15.length d17, .int .i64 t16] 27 (0, 0)) BK3.out hb); replace HB := Aside0.mk (below_step HB.out hb); replace HT := Aside0.mk (Nat.le_trans HT.out hb.size); have HO22 := Aside0.mk hO22; replace HT := Aside0.mk ht_; replace HN := Aside0.mk (And.intro nn HN.out); clear ho22 hO22 nn ht_; clear hb; (try clear cz3_0 cz3_1 cz3_2)) | ((with_reducible refine gate_dst (N := 7) rfl ?_); refine box_event ?hg (N := 7) ?hd (cs := #[.slice none 0 0, .bool false]) (t := 39) ?hr ?_; (case hd => rfl); (case hg => rfl); (case hr => first | (go_simp; done) | (go_simp; rfl)); intro gb4 hg W13 hbox hb; have nn : hi22 ≤ gb4 := Nat.le_trans HT.out (Nat.le_of_eq hg.symm); have GE4 := Aside0.mk (Nat.le_trans (below_size HB.out) (Nat.le_of_eq hg.symm)); replace HO7 := Aside0.mk (Kd.S_below HO7.out hb); replace HO12 := Aside0.mk (Kd.R_below HO12.out hb); replace HO17 := Aside0.mk (Kd.S_below HO17.out hb); replace HO22 := Aside0.mk (Kd.R_below HO22.out hb); replace BK1 := Aside0.mk (blk_below (g := gb1) (o := .cells #[.int .i64 a0_0, .slice A0_1 l0_1.length c0_1, .int .i64 a0_2] 24 (0, 0)) BK1.out hb); replace BK2 := Aside0.mk (blk_below (g := gb2) (o := .cells #[.slice B12 t9.length d12, .bool t10] 39 (0, 0)) BK2.out hb); replace BK3 := Aside0.mk (blk_below (g := gb3) (o := .cells #[.int .i64 t14, .slice B17 t15.length d17, .int .i64 t16] 27 (0, 0)) BK3.out hb); replace HB := Aside0.mk (below_step HB.out hb); replace HT := Aside0.mk (Nat.le_trans HT.out hb.size); have BK4 := Aside0.mk hbox; replace HT := Aside0.mk (Nat.succ_le_of_lt (blk_lt hbox)); replace HN := Aside0.mk (And.intro nn HN.out); clear hg hbox hb nn) | ((with_reducible refine gate_store (t := 39) (p := 7) rfl ?_); refine laws_FnExactStartBank.store rfl rfl rfl gb4 39 #[.slice none 0 0, .bool false] (.agg #[.slice B22 t19.length d22, .bool t20]) [.slice B22 t19.length d22, .bool t20] rfl rfl BK4.out rfl (by kernel_rfl) rfl (by intro q_ hq_; simp only [List.mem_cons, List.not_mem_nil, or_false] at hq_; rcases hq_ with rfl | rfl <;> rfl) ?_; intro W14 hbx hg; replace HO7 := Aside0.mk (laws_FnExactStartBank.grownS HO7.out hg (by have hn_ := HN.out; omega)); replace HO12 := Aside0.mk (laws_FnExactStartBank.grownR HO12.out hg (by have hn_ := HN.out; omega)); replace HO17 := Aside0.mk (laws_FnExactStartBank.grownS HO17.out hg (by have hn_ := HN.out; omega)); replace HO22 := Aside0.mk (laws_FnExactStartBank.grownR HO22.out hg (by have hn_ := HN.out; omega)); replace BK1 := Aside0.mk (laws_FnExactStartBank.grownB BK1.out hg (by have hn_ := HN.out; omega)); replace BK2 := Aside0.mk (laws_FnExactStartBank.grownB BK2.out hg (by have hn_ := HN.out; omega)); replace BK3 := Aside0.mk (laws_FnExactStartBank.grownB BK3.out hg (by have hn_ := HN.out; omega)); replace HB := Aside0.mk (Below.grown HB.out hg (below_size HB.out) (fun k_ hk_ => by injection hk_ with hk_; subst hk_; exact GE4.out)); replace HT := Aside0.mk (Nat.le_trans HT.out hg.size); replace BK4 := Aside0.mk hbx; clear hbx hg; have cz4_0 : W14.cell? ⟨gb4, 0, none⟩ = some (.slice B22 t19.length d22) := (blk_cell BK4.out 0).trans rfl; have cz4_1 : W14.cell? ⟨gb4, 1, none⟩ = some (.bool t20) := (blk_cell BK4.out 1).trans rfl; have cz2_0 : W14.cell? ⟨gb2, 0, none⟩ = some (.slice B12 t9.length d12) := (blk_cell BK2.out 0).trans rfl; have cz2_1 : W14.cell? ⟨gb2, 1, none⟩ = some (.bool t10) := (blk_cell BK2.out 1).trans rfl) | ((with_reducible refine gate_dst (N := 34) rfl ?_); refine goesL_ (some 34) rfl rfl Try.func23 (by kernel_rfl) rfl #[.agg #[.slice B22 t19.length d22, .bool t20], .agg #[.slice B12 t9.length d12, .bool t10]] rfl (by (try simp only [List.map_toArray, List.map_cons, List.map_nil]); first | done | rfl) ?_; (with_reducible refine (laws_eqBank.calls k _ _ t19 t20 _ _ t9 t10 true _ (Kd.R_reads' HO22.out).2.2 (Kd.R_reads' HO22.out).2.1 (Kd.R_reads' HO12.out).2.2 (Kd.R_reads' HO12.out).2.1 A23.out).mono ?_); rintro e W15 ⟨rfl, hb⟩; refine ⟨_, rfl, ?_⟩; replace HO7 := Aside0.mk (Kd.S_below HO7.out hb); replace HO12 := Aside0.mk (Kd.R_below HO12.out hb); replace HO17 := Aside0.mk (Kd.S_below HO17.out hb); replace HO22 := Aside0.mk (Kd.R_below HO22.out hb); replace BK1 := Aside0.mk (blk_below (g := gb1) (o := .cells #[.int .i64 a0_0, .slice A0_1 l0_1.length c0_1, .int .i64 a0_2] 24 (0, 0)) BK1.out hb); replace BK2 := Aside0.mk (blk_below (g := gb2) (o := .cells #[.slice B12 t9.length d12, .bool t10] 39 (0, 0)) BK2.out hb); replace BK3 := Aside0.mk (blk_below (g := gb3) (o := .cells #[.int .i64 t14, .slice B17 t15.length d17, .int .i64 t16] 27 (0, 0)) BK3.out hb); replace BK4 := Aside0.mk (blk_below (g := gb4) (o := .cells #[.slice B22 t19.length d22, .bool t20] 39 (0, 0)) BK4.out hb); replace HB := Aside0.mk (below_step HB.out hb); replace HT := Aside0.mk (Nat.le_trans HT.out hb.size); clear hb; (try clear cz4_0 cz4_1 cz2_0 cz2_1)))
  have hb : Below W15.heap.size W15 W15.drew := below_drew (Below.refl _ _)
  replace HO7 := Aside0.mk (Kd.S_below HO7.out hb)
  replace HO12 := Aside0.mk (Kd.R_below HO12.out hb)
  replace HO17 := Aside0.mk (Kd.S_below HO17.out hb)
  replace HO22 := Aside0.mk (Kd.R_below HO22.out hb)
  replace BK1 := Aside0.mk (blk_below (g := gb1) (o := .cells #[.int .i64 a0_0, .slice A0_1 l0_1.length c0_1, .int .i64 a0_2] 24 (0, 0)) BK1.out hb)
  replace BK2 := Aside0.mk (blk_below (g := gb2) (o := .cells #[.slice B12 t9.length d12, .bool t10] 39 (0, 0)) BK2.out hb)
  replace BK3 := Aside0.mk (blk_below (g := gb3) (o := .cells #[.int .i64 t14, .slice B17 t15.length d17, .int .i64 t16] 27 (0, 0)) BK3.out hb)
  replace BK4 := Aside0.mk (blk_below (g := gb4) (o := .cells #[.slice B22 t19.length d22, .bool t20] 39 (0, 0)) BK4.out hb)
  replace HB := Aside0.mk (below_step HB.out hb)
  replace HT := Aside0.mk (Nat.le_trans HT.out hb.size)
  clear hb
  refine start_ (n := 5) (S := fun w' => w'.cell? ⟨gb3, 0, none⟩ = some (.int .i64 t14) ∧ w'.cell? ⟨gb3, 1, none⟩ = some (.slice B17 t15.length d17) ∧ w'.cell? ⟨gb3, 2, none⟩ = some (.int .i64 t16) ∧ w'.cell? ⟨gb1, 0, none⟩ = some (.int .i64 a0_0) ∧ w'.cell? ⟨gb1, 1, none⟩ = some (.slice A0_1 l0_1.length c0_1) ∧ w'.cell? ⟨gb1, 2, none⟩ = some (.int .i64 a0_2)) (ds := []) #[false, false, false, false, false] (by kernel_rfl) rfl rfl ⟨(blk_cell BK3.out 0).trans rfl, (blk_cell BK3.out 1).trans rfl, (blk_cell BK3.out 2).trans rfl, (blk_cell BK1.out 0).trans rfl, (blk_cell BK1.out 1).trans rfl, (blk_cell BK1.out 2).trans rfl⟩ (fun hHeld => ?_)
  generalize W15.drew = W16 at HO7 HO12 HO17 HO22 BK1 BK2 BK3 BK4 HB HT hHeld ⊢
  refine take_ (i := 0) (N := some 41) (v := ?_) (a' := ?_) #[true, false, false, false, false] rfl rfl (by kernel_rfl) (fun _ _ _ h => h) (Or.inl ⟨by rfl, ?_⟩) hHeld ?_ ?_
  rotate_left
  · rintro w' ⟨s0, s1, s2, s3, s4, s5⟩
    go_simp
    with_reducible rfl
  rotate_left
  · simp only [Act.put, List.setIfInBounds_toArray, List.set_cons_zero, List.set_cons_succ, i64_w, i32_w]
    rfl
  refine take_ (i := 1) (N := some 42) (v := ?_) (a' := ?_) #[true, true, false, false, false] rfl rfl (by kernel_rfl) (fun _ _ _ h => h) (Or.inl ⟨by rfl, ?_⟩) hHeld ?_ ?_
  rotate_left
  · rintro w' ⟨s0, s1, s2, s3, s4, s5⟩
    go_simp
    with_reducible rfl
  rotate_left
  · simp only [Act.put, List.setIfInBounds_toArray, List.set_cons_zero, List.set_cons_succ, i64_w, i32_w]
    rfl
  refine one_ (i := 2) (N := some 43) #[true, true, true, false, false] rfl rfl (by kernel_rfl) (by decide) (fun K hK => ?_)
  refine goes_ Try.func14 (by kernel_rfl) rfl #[.agg #[.int .i64 a0_0, .slice A0_1 l0_1.length c0_1, .int .i64 a0_2]] (by rfl) rfl rfl (by (try simp only [List.map_toArray, List.map_cons, List.map_nil]); first | done | rfl) ?_
  with_reducible refine (laws_toKeep.calls k a0_0 _ _ l0_1 a0_2 t26 t27 t28 _ (Kd.C_below HR0_1.out HB.out) HC0_1.out A25.out).mono ?_
  rintro e W17 ⟨v29, rfl, ho29, hb⟩
  refine ⟨_, rfl, ?_⟩
  obtain ⟨B29, d29, e_⟩ := Kd.S_slice ho29
  subst e_
  obtain ⟨lo29, hi29, nn, ht_, hO29⟩ := laws_FnExactStartBank.newS ho29 HT.out (below_size HB.out) hb.size
  replace HO7 := Aside0.mk (Kd.S_below HO7.out hb)
  replace HO12 := Aside0.mk (Kd.R_below HO12.out hb)
  replace HO17 := Aside0.mk (Kd.S_below HO17.out hb)
  replace HO22 := Aside0.mk (Kd.R_below HO22.out hb)
  replace BK1 := Aside0.mk (blk_below (g := gb1) (o := .cells #[.int .i64 a0_0, .slice A0_1 l0_1.length c0_1, .int .i64 a0_2] 24 (0, 0)) BK1.out hb)
  replace BK2 := Aside0.mk (blk_below (g := gb2) (o := .cells #[.slice B12 t9.length d12, .bool t10] 39 (0, 0)) BK2.out hb)
  replace BK3 := Aside0.mk (blk_below (g := gb3) (o := .cells #[.int .i64 t14, .slice B17 t15.length d17, .int .i64 t16] 27 (0, 0)) BK3.out hb)
  replace BK4 := Aside0.mk (blk_below (g := gb4) (o := .cells #[.slice B22 t19.length d22, .bool t20] 39 (0, 0)) BK4.out hb)
  replace HB := Aside0.mk (below_step HB.out hb)
  replace HT := Aside0.mk (Nat.le_trans HT.out hb.size)
  have HO29 := Aside0.mk hO29
  replace HT := Aside0.mk ht_
  replace HN := Aside0.mk (And.intro nn HN.out)
  clear ho29 hO29 nn ht_
  clear hb
  refine hK.out _ _ ⟨(blk_cell BK3.out 0).trans rfl, (blk_cell BK3.out 1).trans rfl, (blk_cell BK3.out 2).trans rfl, (blk_cell BK1.out 0).trans rfl, (blk_cell BK1.out 1).trans rfl, (blk_cell BK1.out 2).trans rfl⟩ (fun hHeld => ?_)
  clear hK K
  refine norm_ (a' := ?_) ?_ ?_
  rotate_left
  · show Act.put _ (some 43) _ = _
    simp only [Act.put, List.setIfInBounds_toArray, List.set_cons_zero, List.set_cons_succ, i64_w, i32_w]
    rfl
  refine one_ (i := 3) (N := some 44) #[true, true, true, true, false] rfl rfl (by kernel_rfl) (by decide) (fun K hK => ?_)
  refine goes_ Try.func16 (by kernel_rfl) rfl #[.agg #[.int .i64 t14, .slice B17 t15.length d17, .int .i64 t16], .agg #[.int .i64 t26, .slice B29 t27.length d29, .int .i64 t28]] (by rfl) rfl rfl (by (try simp only [List.map_toArray, List.map_cons, List.map_nil]); first | done | rfl) ?_
  with_reducible refine (laws_eqKeep.calls k t14 _ _ t15 t16 t26 _ _ t27 t28 true _ (Kd.R_reads' (Kd.S_R HO17.out)).2.2 (Kd.R_reads' (Kd.S_R HO17.out)).2.1 (Kd.R_reads' (Kd.S_R HO29.out)).2.2 (Kd.R_reads' (Kd.S_R HO29.out)).2.1 A30.out).mono ?_
  rintro e W18 ⟨rfl, hb⟩
  refine ⟨_, rfl, ?_⟩
  replace HO7 := Aside0.mk (Kd.S_below HO7.out hb)
  replace HO12 := Aside0.mk (Kd.R_below HO12.out hb)
  replace HO17 := Aside0.mk (Kd.S_below HO17.out hb)
  replace HO22 := Aside0.mk (Kd.R_below HO22.out hb)
  replace HO29 := Aside0.mk (Kd.S_below HO29.out hb)
  replace BK1 := Aside0.mk (blk_below (g := gb1) (o := .cells #[.int .i64 a0_0, .slice A0_1 l0_1.length c0_1, .int .i64 a0_2] 24 (0, 0)) BK1.out hb)
  replace BK2 := Aside0.mk (blk_below (g := gb2) (o := .cells #[.slice B12 t9.length d12, .bool t10] 39 (0, 0)) BK2.out hb)
  replace BK3 := Aside0.mk (blk_below (g := gb3) (o := .cells #[.int .i64 t14, .slice B17 t15.length d17, .int .i64 t16] 27 (0, 0)) BK3.out hb)
  replace BK4 := Aside0.mk (blk_below (g := gb4) (o := .cells #[.slice B22 t19.length d22, .bool t20] 39 (0, 0)) BK4.out hb)
  replace HB := Aside0.mk (below_step HB.out hb)
  replace HT := Aside0.mk (Nat.le_trans HT.out hb.size)
  clear hb
  refine hK.out _ _ ⟨(blk_cell BK3.out 0).trans rfl, (blk_cell BK3.out 1).trans rfl, (blk_cell BK3.out 2).trans rfl, (blk_cell BK1.out 0).trans rfl, (blk_cell BK1.out 1).trans rfl, (blk_cell BK1.out 2).trans rfl⟩ (fun hHeld => ?_)
  clear hK K
  refine norm_ (a' := ?_) ?_ ?_
  rotate_left
  · show Act.put _ (some 44) _ = _
    simp only [Act.put, List.setIfInBounds_toArray, List.set_cons_zero, List.set_cons_succ, i64_w, i32_w]
    rfl
  refine pure_ (i := 4) (N := some 45) (v := ?_) (a' := ?_) #[true, true, true, true, true] rfl rfl (by kernel_rfl) (fun _ _ _ h => h) (Or.inl ⟨by rfl, ?_⟩) ?_ ?_
  rotate_left
  · intro w'
    go_simp
    with_reducible rfl
  rotate_left
  · simp only [Act.put, List.setIfInBounds_toArray, List.set_cons_zero, List.set_cons_succ, i64_w, i32_w]
    rfl
  refine done_ (by kernel_rfl) ?_
  try go_wp2_with (first | ((with_reducible refine gate_dst (N := 48) rfl ?_); refine goesL_ (some 48) rfl rfl Try.func26 (by kernel_rfl) rfl #[.agg #[.int .i64 t14, .slice B17 t15.length d17, .int .i64 t16], .int .i64 1] rfl (by (try simp only [List.map_toArray, List.map_cons, List.map_nil]); first | done | rfl) ?_; (with_reducible refine (laws_markKeep.calls k (fun k_ => lo17 ≤ k_ ∧ k_ < hi17) t14 (.slice B17 t15.length d17) t15 t16 1 t33 t34 w _ HB.out HO17.out A32.out).mono ?_); rintro e W19 ⟨rfl, hy0, hb, hkp⟩; refine ⟨_, rfl, ?_⟩; replace HO7 := Aside0.mk (laws_FnExactStartBank.keptS HO7.out hkp (by have hn_ := HN.out; omega)); replace HO12 := Aside0.mk (laws_FnExactStartBank.keptR HO12.out hkp (by have hn_ := HN.out; omega)); replace HO22 := Aside0.mk (laws_FnExactStartBank.keptR HO22.out hkp (by have hn_ := HN.out; omega)); replace HO29 := Aside0.mk (laws_FnExactStartBank.keptS HO29.out hkp (by have hn_ := HN.out; omega)); replace BK1 := Aside0.mk (laws_FnExactStartBank.keptB BK1.out hkp (by have hn_ := HN.out; omega)); replace BK2 := Aside0.mk (laws_FnExactStartBank.keptB BK2.out hkp (by have hn_ := HN.out; omega)); replace BK3 := Aside0.mk (laws_FnExactStartBank.keptB BK3.out hkp (by have hn_ := HN.out; omega)); replace BK4 := Aside0.mk (laws_FnExactStartBank.keptB BK4.out hkp (by have hn_ := HN.out; omega)); replace HO17 := Aside0.mk (hy0); replace HB := Aside0.mk hb; replace HT := Aside0.mk (Nat.le_trans HT.out hkp.1); clear hy0 hb hkp; have hl_ := (Kd.R_reads' (Kd.S_R HO17.out)).1; rw [hl_] at HO17 BK3; (try simp only [hl_]); clear hl_; have cz4_0 : W19.cell? ⟨gb4, 0, none⟩ = some (.slice B22 t19.length d22) := (blk_cell BK4.out 0).trans rfl; have cz4_1 : W19.cell? ⟨gb4, 1, none⟩ = some (.bool t20) := (blk_cell BK4.out 1).trans rfl; have cz2_0 : W19.cell? ⟨gb2, 0, none⟩ = some (.slice B12 t9.length d12) := (blk_cell BK2.out 0).trans rfl; have cz2_1 : W19.cell? ⟨gb2, 1, none⟩ = some (.bool t10) := (blk_cell BK2.out 1).trans rfl) | ((with_reducible refine gate_dst (N := 54) rfl ?_); (refine gate_guard (by rfl) ?_; dsimp only); refine goesL_ (some 54) rfl rfl Try.func23 (by kernel_rfl) rfl #[.agg #[.slice B22 t19.length d22, .bool t20], .agg #[.slice B12 t9.length d12, .bool t10]] rfl (by (try simp only [List.map_toArray, List.map_cons, List.map_nil]); first | done | rfl) ?_; (with_reducible refine (laws_eqBank.calls k _ _ t19 t20 _ _ t9 t10 true _ (Kd.R_reads' HO22.out).2.2 (Kd.R_reads' HO22.out).2.1 (Kd.R_reads' HO12.out).2.2 (Kd.R_reads' HO12.out).2.1 A35.out).mono ?_); rintro e W20 ⟨rfl, hb⟩; refine ⟨_, rfl, ?_⟩; replace HO7 := Aside0.mk (Kd.S_below HO7.out hb); replace HO12 := Aside0.mk (Kd.R_below HO12.out hb); replace HO17 := Aside0.mk (Kd.S_below HO17.out hb); replace HO22 := Aside0.mk (Kd.R_below HO22.out hb); replace HO29 := Aside0.mk (Kd.S_below HO29.out hb); replace BK1 := Aside0.mk (blk_below (g := gb1) (o := .cells #[.int .i64 a0_0, .slice A0_1 l0_1.length c0_1, .int .i64 a0_2] 24 (0, 0)) BK1.out hb); replace BK2 := Aside0.mk (blk_below (g := gb2) (o := .cells #[.slice B12 t9.length d12, .bool t10] 39 (0, 0)) BK2.out hb); replace BK3 := Aside0.mk (blk_below (g := gb3) (o := .cells #[.int .i64 t14, .slice B17 t34.length d17, .int .i64 t16] 27 (0, 0)) BK3.out hb); replace BK4 := Aside0.mk (blk_below (g := gb4) (o := .cells #[.slice B22 t19.length d22, .bool t20] 39 (0, 0)) BK4.out hb); replace HB := Aside0.mk (below_step HB.out hb); replace HT := Aside0.mk (Nat.le_trans HT.out hb.size); clear hb; (try clear cz4_0 cz4_1 cz2_0 cz2_1); have cz4_0 : W20.cell? ⟨gb4, 0, none⟩ = some (.slice B22 t19.length d22) := (blk_cell BK4.out 0).trans rfl; have cz4_1 : W20.cell? ⟨gb4, 1, none⟩ = some (.bool t20) := (blk_cell BK4.out 1).trans rfl) | ((with_reducible refine gate_dst (N := 64) rfl ?_); refine goesL_ (some 64) rfl rfl Try.func27 (by kernel_rfl) rfl #[.agg #[.slice B22 t19.length d22, .bool t20], .int .i64 1] rfl (by (try simp only [List.map_toArray, List.map_cons, List.map_nil]); first | done | rfl) ?_; (with_reducible refine (laws_markBank.calls k (fun k_ => lo22 ≤ k_ ∧ k_ < hi22) (.slice B22 t19.length d22) t19 t20 1 t38 t39 w _ HB.out HO22.out A37.out).mono ?_); rintro e W21 ⟨rfl, hy0, hb, hkp⟩; refine ⟨_, rfl, ?_⟩; replace HO7 := Aside0.mk (laws_FnExactStartBank.keptS HO7.out hkp (by have hn_ := HN.out; omega)); replace HO12 := Aside0.mk (laws_FnExactStartBank.keptR HO12.out hkp (by have hn_ := HN.out; omega)); replace HO17 := Aside0.mk (laws_FnExactStartBank.keptS HO17.out hkp (by have hn_ := HN.out; omega)); replace HO29 := Aside0.mk (laws_FnExactStartBank.keptS HO29.out hkp (by have hn_ := HN.out; omega)); replace BK1 := Aside0.mk (laws_FnExactStartBank.keptB BK1.out hkp (by have hn_ := HN.out; omega)); replace BK2 := Aside0.mk (laws_FnExactStartBank.keptB BK2.out hkp (by have hn_ := HN.out; omega)); replace BK3 := Aside0.mk (laws_FnExactStartBank.keptB BK3.out hkp (by have hn_ := HN.out; omega)); replace BK4 := Aside0.mk (laws_FnExactStartBank.keptB BK4.out hkp (by have hn_ := HN.out; omega)); replace HO22 := Aside0.mk (Kd.R_reok rfl hy0 (fun k_ e_ => HO22.out.1 k_ e_)); replace HB := Aside0.mk hb; replace HT := Aside0.mk (Nat.le_trans HT.out hkp.1); clear hy0 hb hkp; have hl_ := (Kd.R_reads' HO22.out).1; rw [hl_] at HO22 BK4; (try simp only [hl_]); clear hl_; (try clear cz4_0 cz4_1); have cz4_0 : W21.cell? ⟨gb4, 0, none⟩ = some (.slice B22 t39.length d22) := (blk_cell BK4.out 0).trans rfl; have cz4_1 : W21.cell? ⟨gb4, 1, none⟩ = some (.bool t20) := (blk_cell BK4.out 1).trans rfl) | ((with_reducible refine gate_dst (N := 67) rfl ?_); refine goesL_ (some 67) rfl rfl Try.func28 (by kernel_rfl) rfl #[.agg #[.slice B22 t39.length d22, .bool t20], .int .i64 1] rfl (by (try simp only [List.map_toArray, List.map_cons, List.map_nil]); first | done | rfl) ?_; (with_reducible refine (laws_heldBank.calls k _ _ t39 t20 1 t41 _ (Kd.R_reads' HO22.out).2.2 (Kd.R_reads' HO22.out).2.1 A40.out).mono ?_); rintro e W22 ⟨rfl, hb⟩; refine ⟨_, rfl, ?_⟩; replace HO7 := Aside0.mk (Kd.S_below HO7.out hb); replace HO12 := Aside0.mk (Kd.R_below HO12.out hb); replace HO17 := Aside0.mk (Kd.S_below HO17.out hb); replace HO22 := Aside0.mk (Kd.R_below HO22.out hb); replace HO29 := Aside0.mk (Kd.S_below HO29.out hb); replace BK1 := Aside0.mk (blk_below (g := gb1) (o := .cells #[.int .i64 a0_0, .slice A0_1 l0_1.length c0_1, .int .i64 a0_2] 24 (0, 0)) BK1.out hb); replace BK2 := Aside0.mk (blk_below (g := gb2) (o := .cells #[.slice B12 t9.length d12, .bool t10] 39 (0, 0)) BK2.out hb); replace BK3 := Aside0.mk (blk_below (g := gb3) (o := .cells #[.int .i64 t14, .slice B17 t34.length d17, .int .i64 t16] 27 (0, 0)) BK3.out hb); replace BK4 := Aside0.mk (blk_below (g := gb4) (o := .cells #[.slice B22 t39.length d22, .bool t20] 39 (0, 0)) BK4.out hb); replace HB := Aside0.mk (below_step HB.out hb); replace HT := Aside0.mk (Nat.le_trans HT.out hb.size); clear hb; (try clear cz4_0 cz4_1); have cz1_0 : W22.cell? ⟨gb1, 0, none⟩ = some (.int .i64 a0_0) := (blk_cell BK1.out 0).trans rfl; have cz1_1 : W22.cell? ⟨gb1, 1, none⟩ = some (.slice A0_1 l0_1.length c0_1) := (blk_cell BK1.out 1).trans rfl; have cz1_2 : W22.cell? ⟨gb1, 2, none⟩ = some (.int .i64 a0_2) := (blk_cell BK1.out 2).trans rfl) | ((with_reducible refine gate_dst (N := 75) rfl ?_); refine goesL_ (some 75) rfl rfl Try.func14 (by kernel_rfl) rfl #[.agg #[.int .i64 a0_0, .slice A0_1 l0_1.length c0_1, .int .i64 a0_2]] rfl (by (try simp only [List.map_toArray, List.map_cons, List.map_nil]); first | done | rfl) ?_; (with_reducible refine (laws_toKeep.calls k a0_0 _ _ l0_1 a0_2 t43 t44 t45 _ (Kd.C_below HR0_1.out HB.out) HC0_1.out A42.out).mono ?_); rintro e W23 ⟨v46, rfl, ho46, hb⟩; refine ⟨_, rfl, ?_⟩; obtain ⟨B46, d46, e_⟩ := Kd.S_slice ho46; subst e_; obtain ⟨lo46, hi46, nn, ht_, hO46⟩ := laws_FnExactStartBank.newS ho46 HT.out (below_size HB.out) hb.size; replace HO7 := Aside0.mk (Kd.S_below HO7.out hb); replace HO12 := Aside0.mk (Kd.R_below HO12.out hb); replace HO17 := Aside0.mk (Kd.S_below HO17.out hb); replace HO22 := Aside0.mk (Kd.R_below HO22.out hb); replace HO29 := Aside0.mk (Kd.S_below HO29.out hb); replace BK1 := Aside0.mk (blk_below (g := gb1) (o := .cells #[.int .i64 a0_0, .slice A0_1 l0_1.length c0_1, .int .i64 a0_2] 24 (0, 0)) BK1.out hb); replace BK2 := Aside0.mk (blk_below (g := gb2) (o := .cells #[.slice B12 t9.length d12, .bool t10] 39 (0, 0)) BK2.out hb); replace BK3 := Aside0.mk (blk_below (g := gb3) (o := .cells #[.int .i64 t14, .slice B17 t34.length d17, .int .i64 t16] 27 (0, 0)) BK3.out hb); replace BK4 := Aside0.mk (blk_below (g := gb4) (o := .cells #[.slice B22 t39.length d22, .bool t20] 39 (0, 0)) BK4.out hb); replace HB := Aside0.mk (below_step HB.out hb); replace HT := Aside0.mk (Nat.le_trans HT.out hb.size); have HO46 := Aside0.mk hO46; replace HT := Aside0.mk ht_; replace HN := Aside0.mk (And.intro nn HN.out); clear ho46 hO46 nn ht_; clear hb; (try clear cz1_0 cz1_1 cz1_2)) | ((with_reducible refine gate_dst (N := 76) rfl ?_); refine goesL_ (some 76) rfl rfl Try.func25 (by kernel_rfl) rfl #[.agg #[.int .i64 t43, .slice B46 t44.length d46, .int .i64 t45]] rfl (by (try simp only [List.map_toArray, List.map_cons, List.map_nil]); first | done | rfl) ?_; (with_reducible refine (impl_StartBank.calls k t43 _ _ t44 t45 t48 t49 t50 _ (Kd.R_reads' (Kd.S_R HO46.out)).2.2 (Kd.R_reads' (Kd.S_R HO46.out)).2.1 A47.out).mono ?_); rintro e W24 ⟨v51, rfl, ho51, hb⟩; refine ⟨_, rfl, ?_⟩; obtain ⟨B51, d51, e_⟩ := Kd.R_slice ho51; subst e_; obtain ⟨lo51, hi51, nn, ht_, hO51⟩ := laws_FnExactStartBank.newR ho51 HT.out (below_size HB.out) hb.size; replace HO7 := Aside0.mk (Kd.S_below HO7.out hb); replace HO12 := Aside0.mk (Kd.R_below HO12.out hb); replace HO17 := Aside0.mk (Kd.S_below HO17.out hb); replace HO22 := Aside0.mk (Kd.R_below HO22.out hb); replace HO29 := Aside0.mk (Kd.S_below HO29.out hb); replace HO46 := Aside0.mk (Kd.S_below HO46.out hb); replace BK1 := Aside0.mk (blk_below (g := gb1) (o := .cells #[.int .i64 a0_0, .slice A0_1 l0_1.length c0_1, .int .i64 a0_2] 24 (0, 0)) BK1.out hb); replace BK2 := Aside0.mk (blk_below (g := gb2) (o := .cells #[.slice B12 t9.length d12, .bool t10] 39 (0, 0)) BK2.out hb); replace BK3 := Aside0.mk (blk_below (g := gb3) (o := .cells #[.int .i64 t14, .slice B17 t34.length d17, .int .i64 t16] 27 (0, 0)) BK3.out hb); replace BK4 := Aside0.mk (blk_below (g := gb4) (o := .cells #[.slice B22 t39.length d22, .bool t20] 39 (0, 0)) BK4.out hb); replace HB := Aside0.mk (below_step HB.out hb); replace HT := Aside0.mk (Nat.le_trans HT.out hb.size); have HO51 := Aside0.mk hO51; replace HT := Aside0.mk ht_; replace HN := Aside0.mk (And.intro nn HN.out); clear ho51 hO51 nn ht_; clear hb) | ((with_reducible refine gate_dst (N := 12) rfl ?_); refine box_event ?hg (N := 12) ?hd (cs := #[.slice none 0 0, .bool false]) (t := 39) ?hr ?_; (case hd => rfl); (case hg => rfl); (case hr => first | (go_simp; done) | (go_simp; rfl)); intro gb5 hg W25 hbox hb; have nn : hi51 ≤ gb5 := Nat.le_trans HT.out (Nat.le_of_eq hg.symm); have GE5 := Aside0.mk (Nat.le_trans (below_size HB.out) (Nat.le_of_eq hg.symm)); replace HO7 := Aside0.mk (Kd.S_below HO7.out hb); replace HO12 := Aside0.mk (Kd.R_below HO12.out hb); replace HO17 := Aside0.mk (Kd.S_below HO17.out hb); replace HO22 := Aside0.mk (Kd.R_below HO22.out hb); replace HO29 := Aside0.mk (Kd.S_below HO29.out hb); replace HO46 := Aside0.mk (Kd.S_below HO46.out hb); replace HO51 := Aside0.mk (Kd.R_below HO51.out hb); replace BK1 := Aside0.mk (blk_below (g := gb1) (o := .cells #[.int .i64 a0_0, .slice A0_1 l0_1.length c0_1, .int .i64 a0_2] 24 (0, 0)) BK1.out hb); replace BK2 := Aside0.mk (blk_below (g := gb2) (o := .cells #[.slice B12 t9.length d12, .bool t10] 39 (0, 0)) BK2.out hb); replace BK3 := Aside0.mk (blk_below (g := gb3) (o := .cells #[.int .i64 t14, .slice B17 t34.length d17, .int .i64 t16] 27 (0, 0)) BK3.out hb); replace BK4 := Aside0.mk (blk_below (g := gb4) (o := .cells #[.slice B22 t39.length d22, .bool t20] 39 (0, 0)) BK4.out hb); replace HB := Aside0.mk (below_step HB.out hb); replace HT := Aside0.mk (Nat.le_trans HT.out hb.size); have BK5 := Aside0.mk hbox; replace HT := Aside0.mk (Nat.succ_le_of_lt (blk_lt hbox)); replace HN := Aside0.mk (And.intro nn HN.out); clear hg hbox hb nn) | ((with_reducible refine gate_store (t := 39) (p := 12) rfl ?_); refine laws_FnExactStartBank.store rfl rfl rfl gb5 39 #[.slice none 0 0, .bool false] (.agg #[.slice B51 t48.length d51, .bool t49]) [.slice B51 t48.length d51, .bool t49] rfl rfl BK5.out rfl (by kernel_rfl) rfl (by intro q_ hq_; simp only [List.mem_cons, List.not_mem_nil, or_false] at hq_; rcases hq_ with rfl | rfl <;> rfl) ?_; intro W26 hbx hg; replace HO7 := Aside0.mk (laws_FnExactStartBank.grownS HO7.out hg (by have hn_ := HN.out; omega)); replace HO12 := Aside0.mk (laws_FnExactStartBank.grownR HO12.out hg (by have hn_ := HN.out; omega)); replace HO17 := Aside0.mk (laws_FnExactStartBank.grownS HO17.out hg (by have hn_ := HN.out; omega)); replace HO22 := Aside0.mk (laws_FnExactStartBank.grownR HO22.out hg (by have hn_ := HN.out; omega)); replace HO29 := Aside0.mk (laws_FnExactStartBank.grownS HO29.out hg (by have hn_ := HN.out; omega)); replace HO46 := Aside0.mk (laws_FnExactStartBank.grownS HO46.out hg (by have hn_ := HN.out; omega)); replace HO51 := Aside0.mk (laws_FnExactStartBank.grownR HO51.out hg (by have hn_ := HN.out; omega)); replace BK1 := Aside0.mk (laws_FnExactStartBank.grownB BK1.out hg (by have hn_ := HN.out; omega)); replace BK2 := Aside0.mk (laws_FnExactStartBank.grownB BK2.out hg (by have hn_ := HN.out; omega)); replace BK3 := Aside0.mk (laws_FnExactStartBank.grownB BK3.out hg (by have hn_ := HN.out; omega)); replace BK4 := Aside0.mk (laws_FnExactStartBank.grownB BK4.out hg (by have hn_ := HN.out; omega)); replace HB := Aside0.mk (Below.grown HB.out hg (below_size HB.out) (fun k_ hk_ => by injection hk_ with hk_; subst hk_; exact GE5.out)); replace HT := Aside0.mk (Nat.le_trans HT.out hg.size); replace BK5 := Aside0.mk hbx; clear hbx hg; have cz5_0 : W26.cell? ⟨gb5, 0, none⟩ = some (.slice B51 t48.length d51) := (blk_cell BK5.out 0).trans rfl; have cz5_1 : W26.cell? ⟨gb5, 1, none⟩ = some (.bool t49) := (blk_cell BK5.out 1).trans rfl; have cz2_0 : W26.cell? ⟨gb2, 0, none⟩ = some (.slice B12 t9.length d12) := (blk_cell BK2.out 0).trans rfl; have cz2_1 : W26.cell? ⟨gb2, 1, none⟩ = some (.bool t10) := (blk_cell BK2.out 1).trans rfl) | ((with_reducible refine gate_dst (N := 81) rfl ?_); refine goesL_ (some 81) rfl rfl Try.func23 (by kernel_rfl) rfl #[.agg #[.slice B51 t48.length d51, .bool t49], .agg #[.slice B12 t9.length d12, .bool t10]] rfl (by (try simp only [List.map_toArray, List.map_cons, List.map_nil]); first | done | rfl) ?_; (with_reducible refine (laws_eqBank.calls k _ _ t48 t49 _ _ t9 t10 true _ (Kd.R_reads' HO51.out).2.2 (Kd.R_reads' HO51.out).2.1 (Kd.R_reads' HO12.out).2.2 (Kd.R_reads' HO12.out).2.1 A52.out).mono ?_); rintro e W27 ⟨rfl, hb⟩; refine ⟨_, rfl, ?_⟩; replace HO7 := Aside0.mk (Kd.S_below HO7.out hb); replace HO12 := Aside0.mk (Kd.R_below HO12.out hb); replace HO17 := Aside0.mk (Kd.S_below HO17.out hb); replace HO22 := Aside0.mk (Kd.R_below HO22.out hb); replace HO29 := Aside0.mk (Kd.S_below HO29.out hb); replace HO46 := Aside0.mk (Kd.S_below HO46.out hb); replace HO51 := Aside0.mk (Kd.R_below HO51.out hb); replace BK1 := Aside0.mk (blk_below (g := gb1) (o := .cells #[.int .i64 a0_0, .slice A0_1 l0_1.length c0_1, .int .i64 a0_2] 24 (0, 0)) BK1.out hb); replace BK2 := Aside0.mk (blk_below (g := gb2) (o := .cells #[.slice B12 t9.length d12, .bool t10] 39 (0, 0)) BK2.out hb); replace BK3 := Aside0.mk (blk_below (g := gb3) (o := .cells #[.int .i64 t14, .slice B17 t34.length d17, .int .i64 t16] 27 (0, 0)) BK3.out hb); replace BK4 := Aside0.mk (blk_below (g := gb4) (o := .cells #[.slice B22 t39.length d22, .bool t20] 39 (0, 0)) BK4.out hb); replace BK5 := Aside0.mk (blk_below (g := gb5) (o := .cells #[.slice B51 t48.length d51, .bool t49] 39 (0, 0)) BK5.out hb); replace HB := Aside0.mk (below_step HB.out hb); replace HT := Aside0.mk (Nat.le_trans HT.out hb.size); clear hb; (try clear cz5_0 cz5_1 cz2_0 cz2_1); have cz4_0 : W27.cell? ⟨gb4, 0, none⟩ = some (.slice B22 t39.length d22) := (blk_cell BK4.out 0).trans rfl; have cz4_1 : W27.cell? ⟨gb4, 1, none⟩ = some (.bool t20) := (blk_cell BK4.out 1).trans rfl) | ((with_reducible refine gate_dst (N := 90) rfl ?_); refine goesL_ (some 90) rfl rfl Try.func28 (by kernel_rfl) rfl #[.agg #[.slice B22 t39.length d22, .bool t20], .int .i64 1] rfl (by (try simp only [List.map_toArray, List.map_cons, List.map_nil]); first | done | rfl) ?_; (with_reducible refine (laws_heldBank.calls k _ _ t39 t20 1 t55 _ (Kd.R_reads' HO22.out).2.2 (Kd.R_reads' HO22.out).2.1 A54.out).mono ?_); rintro e W28 ⟨rfl, hb⟩; refine ⟨_, rfl, ?_⟩; replace HO7 := Aside0.mk (Kd.S_below HO7.out hb); replace HO12 := Aside0.mk (Kd.R_below HO12.out hb); replace HO17 := Aside0.mk (Kd.S_below HO17.out hb); replace HO22 := Aside0.mk (Kd.R_below HO22.out hb); replace HO29 := Aside0.mk (Kd.S_below HO29.out hb); replace HO46 := Aside0.mk (Kd.S_below HO46.out hb); replace HO51 := Aside0.mk (Kd.R_below HO51.out hb); replace BK1 := Aside0.mk (blk_below (g := gb1) (o := .cells #[.int .i64 a0_0, .slice A0_1 l0_1.length c0_1, .int .i64 a0_2] 24 (0, 0)) BK1.out hb); replace BK2 := Aside0.mk (blk_below (g := gb2) (o := .cells #[.slice B12 t9.length d12, .bool t10] 39 (0, 0)) BK2.out hb); replace BK3 := Aside0.mk (blk_below (g := gb3) (o := .cells #[.int .i64 t14, .slice B17 t34.length d17, .int .i64 t16] 27 (0, 0)) BK3.out hb); replace BK4 := Aside0.mk (blk_below (g := gb4) (o := .cells #[.slice B22 t39.length d22, .bool t20] 39 (0, 0)) BK4.out hb); replace BK5 := Aside0.mk (blk_below (g := gb5) (o := .cells #[.slice B51 t48.length d51, .bool t49] 39 (0, 0)) BK5.out hb); replace HB := Aside0.mk (below_step HB.out hb); replace HT := Aside0.mk (Nat.le_trans HT.out hb.size); clear hb; (try clear cz4_0 cz4_1)))
  go_ret
  exact ⟨by first | rfl | (simp; done) | (simp [*]; done), HB.out⟩

end Go.Proofs.Ytomiikbcahocaaa.G
