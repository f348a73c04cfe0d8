-- Laid by wip/gprint.py (the session's own program, round the kit's printer) for this claim.
import Derived.Test.YtokfpjebnkfccaaGRbx0
import Derived.Test.YtokfpjebnkfccaaGRbx1
import Derived.Test.YtokfpjebnkfccaaGRbx7
import Derived.Test.YtokfpjebnkfccaaGRbx9
import Derived.Test.YtokfpjebnkfccaaGRbx10
namespace Go.Proofs.Ytokfpjebnkfccaa.G
open Go.RowKit Go.Proofs.YtokfpjebnkfccaaW.PrintWords Go.Proofs.YtokfpjebnkfccaaW.PrintLast Go.Proofs.YtokfpjebnkfccaaW.PrintMore
attribute [local go_sem] max2_int min2_int max_two min_two max_three min_three max_four min_four   -- for this text's walks alone
set_option linter.unusedVariables false
set_option linter.unusedSimpArgs false

/-! ### laws_FnExactRowBoat: function 6 -/
theorem laws_FnExactRowBoat.newR {α : Type} {d : Kd α} {e T : Nat} {w W W' : World} {v : Value} {xs : List α} (h : d.R e W' W.heap.size (fun _ => True) v xs) (ht : T ≤ W.heap.size) (hw : w.heap.size ≤ W.heap.size) (hs : W.heap.size ≤ W'.heap.size) : ∃ lo hi : Nat, (T ≤ lo ∧ lo ≤ hi) ∧ hi ≤ W'.heap.size ∧ d.R e W' w.heap.size (fun k_ => lo ≤ k_ ∧ k_ < hi) v xs :=
  ⟨W.heap.size, W'.heap.size, ⟨ht, hs⟩, Nat.le_refl _, Kd.R_lower (Kd.R_mono (Kd.R_bound h) (fun _ hk => ⟨hk.2.1, hk.2.2.1⟩)) hw⟩
theorem laws_FnExactRowBoat.newS {α : Type} {d : Kd α} {e T : Nat} {w W W' : World} {v : Value} {xs : List α} (h : Kd.S d e W' W.heap.size (fun _ => True) v xs) (ht : T ≤ W.heap.size) (hw : w.heap.size ≤ W.heap.size) (hs : W.heap.size ≤ W'.heap.size) : ∃ lo hi : Nat, (T ≤ lo ∧ lo ≤ hi) ∧ hi ≤ W'.heap.size ∧ Kd.S d e W' w.heap.size (fun k_ => lo ≤ k_ ∧ k_ < hi) v xs :=
  ⟨W.heap.size, W'.heap.size, ⟨ht, hs⟩, Nat.le_refl _, Kd.S_lower (Kd.S_mono (Kd.S_bound h) (fun _ hk => ⟨hk.2.1, hk.2.2.1⟩)) hw⟩
theorem laws_FnExactRowBoat.newN {α : Type} {d : Kd α} {e T : Nat} {w W W' : World} {v : Value} {xs : List α} (h : Kd.N d e W' W.heap.size (fun k_ => W.heap.size ≤ k_) v xs) (ht : T ≤ W.heap.size) (hw : w.heap.size ≤ W.heap.size) (hs : W.heap.size ≤ W'.heap.size) : ∃ lo hi : Nat, (T ≤ lo ∧ lo ≤ hi) ∧ hi ≤ W'.heap.size ∧ Kd.N d e W' w.heap.size (fun k_ => lo ≤ k_ ∧ k_ < hi) v xs :=
  ⟨W.heap.size, W'.heap.size, ⟨ht, hs⟩, Nat.le_refl _, Kd.N_lower (Kd.N_mono (Kd.N_bound h) (fun _ hk => hk)) hw⟩
theorem laws_FnExactRowBoat.grownN {α : Type} {d : Kd α} {e b lo hi g : Nat} {W W' : World} {v : Value} {xs : List α} (h : Kd.N d e W b (fun k_ => lo ≤ k_ ∧ k_ < hi) v xs) (hg : W.grownBy W' (some g)) (hne : g < lo ∨ hi ≤ g) : Kd.N d e W' b (fun k_ => lo ≤ k_ ∧ k_ < hi) v xs :=
  Kd.N_grown h hg (fun k hk he => by injection he with he; have h1 := hk.1; have h2 := hk.2; omega)
theorem laws_FnExactRowBoat.keptN {α : Type} {d : Kd α} {e b lo hi lo' hi' : Nat} {W W' : World} {v : Value} {xs : List α} (h : Kd.N d e W b (fun k_ => lo ≤ k_ ∧ k_ < hi) v xs) (hk : Kept W W' (fun k_ => lo' ≤ k_ ∧ k_ < hi')) (hne : hi ≤ lo' ∨ hi' ≤ lo) : Kd.N d e W' b (fun k_ => lo ≤ k_ ∧ k_ < hi) v xs :=
  Kd.N_kept h hk (fun k h1 h2 => by have h3 := h1.1; have h4 := h1.2; have h5 := h2.1; have h6 := h2.2; omega)
theorem laws_FnExactRowBoat.grownR {α : Type} {d : Kd α} {e b lo hi g : Nat} {W W' : World} {v : Value} {xs : List α} (h : d.R e W b (fun k_ => lo ≤ k_ ∧ k_ < hi) v xs) (hg : W.grownBy W' (some g)) (hne : g < lo ∨ hi ≤ g) : d.R e W' b (fun k_ => lo ≤ k_ ∧ k_ < hi) v xs :=
  Kd.R_grown h hg (fun k hk he => by injection he with he; have h1 := hk.1; have h2 := hk.2; omega)
theorem laws_FnExactRowBoat.grownS {α : Type} {d : Kd α} {e b lo hi g : Nat} {W W' : World} {v : Value} {xs : List α} (h : Kd.S d e W b (fun k_ => lo ≤ k_ ∧ k_ < hi) v xs) (hg : W.grownBy W' (some g)) (hne : g < lo ∨ hi ≤ g) : Kd.S d e W' b (fun k_ => lo ≤ k_ ∧ k_ < hi) v xs :=
  Kd.S_grown h hg (fun k hk he => by injection he with he; have h1 := hk.1; have h2 := hk.2; omega)
theorem laws_FnExactRowBoat.keptR {α : Type} {d : Kd α} {e b lo hi lo' hi' : Nat} {W W' : World} {v : Value} {xs : List α} (h : d.R e W b (fun k_ => lo ≤ k_ ∧ k_ < hi) v xs) (hk : Kept W W' (fun k_ => lo' ≤ k_ ∧ k_ < hi')) (hne : hi ≤ lo' ∨ hi' ≤ lo) : d.R e W' b (fun k_ => lo ≤ k_ ∧ k_ < hi) v xs :=
  Kd.R_kept h hk (fun k h1 h2 => by have h3 := h1.1; have h4 := h1.2; have h5 := h2.1; have h6 := h2.2; omega)
theorem laws_FnExactRowBoat.keptS {α : Type} {d : Kd α} {e b lo hi lo' hi' : Nat} {W W' : World} {v : Value} {xs : List α} (h : Kd.S d e W b (fun k_ => lo ≤ k_ ∧ k_ < hi) v xs) (hk : Kept W W' (fun k_ => lo' ≤ k_ ∧ k_ < hi')) (hne : hi ≤ lo' ∨ hi' ≤ lo) : Kd.S d e W' b (fun k_ => lo ≤ k_ ∧ k_ < hi) v xs :=
  Kd.S_kept h hk (fun k h1 h2 => by have h3 := h1.1; have h4 := h1.2; have h5 := h2.1; have h6 := h2.2; omega)
theorem laws_FnExactRowBoat.keptB {lo hi g : Nat} {o : Obj} {W W' : World} (h : W.heap[g]? = some o) (hk : Kept W W' (fun k_ => lo ≤ k_ ∧ k_ < hi)) (hne : g < lo ∨ hi ≤ g) : W'.heap[g]? = some o :=
  blk_kept h hk (fun h2 => by have h5 := h2.1; have h6 := h2.2; omega)
theorem laws_FnExactRowBoat.grownB {g g' : Nat} {o : Obj} {W W' : World} (h : W.heap[g]? = some o) (hg : W.grownBy W' (some g')) (hne : g ≠ g') : W'.heap[g]? = some o :=
  (hg.block g (blk_lt h) (fun he => hne (by injection he))).trans h
theorem laws_FnExactRowBoat.runs {P : Program} {W : World} {g T : Nat} {cur : Array Value} (t : TypeId) (u : Value) (new : List Value) (hb : W.heap[g]? = some (.cells cur T (0, 0))) (hu : u.cells.toList = new) (ht : (P.info? t).map (·.size) = some new.length) (hsz : new.length = cur.size) (h1 : ∀ q ∈ new, q.oneCell' = true) :
    ∃ w1, (Instr.storeAt t (.pointer (some ⟨g, 0, none⟩)) u).run P W = .ok () w1 ∧ w1.heap[g]? = some (.cells new.toArray T (0, 0)) ∧ W.grownBy w1 (some g) := by
  refine ⟨W.setCells g 0 new, run_store_run t u new hb hu ht (by omega) h1, ?_, ?_⟩
  · obtain ⟨cur', c1, c2, c3⟩ := setCells_row new 0 W cur hb (by omega)
    rw [c1]
    rw [List.take_zero, List.nil_append, Nat.zero_add, hsz, List.drop_eq_nil_of_le (by rw [Array.length_toList]; omega), List.append_nil] at c3
    rw [← c3]
  · obtain ⟨s1, s2, s3, s4⟩ := setCells_same g new 0 W
    exact ⟨s1, s2, s3, by rw [s4]; exact Nat.le_refl _, fun k _ hk => setCells_far _ _ k (fun he => hk (by rw [he]))⟩
theorem laws_FnExactRowBoat.store {P : Program} {ops : Array Oper} {rest : List Oper} {o : Oper} {a : Act} {Q : Exit → Act → World → Prop} {W : World} (hgd : o.guard = none) (hN : o.dst = none) {t : TypeId} {p : Tmp} {x : Operand} (ho : o.op = .store t (.tmp p) x) (g T : Nat) (cur : Array Value) (u : Value) (new : List Value) (haddr : a.eval (.tmp p) = .pointer (some ⟨g, 0, none⟩)) (hx : a.eval x = u) (hb : W.heap[g]? = some (.cells cur T (0, 0))) (hu : u.cells.toList = new) (ht : (P.info? t).map (·.size) = some new.length) (hsz : new.length = cur.size) (h1 : ∀ q ∈ new, q.oneCell' = true)
    (h : ∀ w1, w1.heap[g]? = some (.cells new.toArray T (0, 0)) → W.grownBy w1 (some g) → wpList P ops Q rest a w1) : wpList P ops Q (o :: rest) a W := by
  obtain ⟨w1, hrun, h2, h3⟩ := laws_FnExactRowBoat.runs (P := P) t u new hb hu ht hsz h1
  refine wpList_plain hgd fun K hK => ?_
  unfold Oper.wp execOp
  simp only [ho, haddr, hx, Sem.run_bind, Sem.run_pure, Result.andThen_ok, hrun]
  show K (a.put o.dst undef) _
  rw [hN]
  exact hK _ _ (h w1 h2 h3)
theorem laws_FnExactRowBoat.storeK {P : Program} {ops : Array Oper} {o : Oper} {a : Act} {Q : Exit → Act → World → Prop} {Kc : Act → World → Prop} {W : World} (hw : Region.wanted o (yielded ops a.tmps) = true) (hN : o.dst = none) {t : TypeId} {p : Tmp} {x : Operand} (ho : o.op = .store t (.tmp p) x) (g T : Nat) (cur : Array Value) (u : Value) (new : List Value) (haddr : a.eval (.tmp p) = .pointer (some ⟨g, 0, none⟩)) (hx : a.eval x = u) (hb : W.heap[g]? = some (.cells cur T (0, 0))) (hu : u.cells.toList = new) (ht : (P.info? t).map (·.size) = some new.length) (hsz : new.length = cur.size) (h1 : ∀ q ∈ new, q.oneCell' = true)
    (h : ∀ w1, w1.heap[g]? = some (.cells new.toArray T (0, 0)) → W.grownBy w1 (some g) → Kc a w1) : if Region.wanted o (yielded ops a.tmps) = true then Oper.wp P o a W Kc Q else Kc (a.put none undef) W := by
  obtain ⟨w1, hrun, h2, h3⟩ := laws_FnExactRowBoat.runs (P := P) t u new hb hu ht hsz h1
  rw [if_pos hw]
  unfold Oper.wp execOp
  simp only [ho, haddr, hx, Sem.run_bind, Sem.run_pure, Result.andThen_ok, hrun]
  show Kc (a.put o.dst undef) _
  rw [hN]
  exact h w1 h2 h3
def laws_FnExactRowBoat.f (k : Nat) (a0_0 : Int) (a0_1 : Int) (l1_0 : List Bool) (a1_1 : Bool) (l2 : List Int) : Option Bool := if (l2.length : Int) > 1048576 then some true else ((laws_szState.f l1_0 a1_1 1048576).bind fun b1 => (if b1 < 0 then some true else ((laws_toCompany.f a0_0 a0_1).bind fun b3 => ((laws_toState.f k l1_0 a1_1).bind fun b6 => ((laws_toIntS.f k l2).bind fun b10 => ((spec_RowBoat.f k b3.1 b3.2 b6.1 b6.2 b10).bind fun b13 => ((laws_toState.f k l1_0 a1_1).bind fun b18 => ((laws_toIntS.f k l2).bind fun b22 => ((laws_toCompany.f a0_0 a0_1).bind fun b25 => ((impl_RowBoat.f k b25.1 b25.2 b18.1 b18.2 b22).bind fun b28 => ((laws_eqState.f k b28.1 b28.2.1 b13.1 b13.2.1).bind fun b33 => (if b33 = true then (if (b28.2.2 != b13.2.2) = true then none else ((laws_toState.f k l1_0 a1_1).bind fun b35 => ((laws_eqState.f k b18.1 b18.2 b35.1 b35.2).bind fun b39 => (if b39 = true then ((laws_toIntS.f k l2).bind fun b41 => ((laws_eqIntS.f k b22 b41).bind fun b44 => (if b44 = true then ((laws_markState.f k b18.1 b18.2 1).bind fun b46 => ((laws_markIntS.f k b22 b46.1).bind fun b49 => ((laws_eqState.f k b28.1 b28.2.1 b13.1 b13.2.1).bind fun b52 => (if b49.1 < 0 then none else (if b52 = true then (if (b28.2.2 != b13.2.2) = true then none else ((laws_markState.f k b28.1 b28.2.1 1).bind fun b54 => ((laws_heldState.f k b54.2 b28.2.1 1).bind fun b57 => (if b57 < 0 then none else (if b57 = b54.1 then ((laws_toCompany.f a0_0 a0_1).bind fun b59 => ((laws_toState.f k l1_0 a1_1).bind fun b62 => ((laws_toIntS.f k l2).bind fun b66 => ((impl_RowBoat.f k b59.1 b59.2 b62.1 b62.2 b66).bind fun b69 => ((laws_eqState.f k b69.1 b69.2.1 b13.1 b13.2.1).bind fun b74 => (if b74 = true then (if (b69.2.2 != b13.2.2) = true then none else ((laws_heldState.f k b54.2 b28.2.1 1).bind fun b76 => (if b76 < 0 then none else (if b76 = b54.1 then (some true) else none)))) else none)))))) else none))))) else none))))) else none))) else none)))) else none))))))))))))
set_option maxHeartbeats 16000000 in
set_option maxRecDepth 100000 in
theorem laws_FnExactRowBoat.calls (k : Nat) (a0_0 : Int) (a0_1 : Int) (A1_0 : Option Addr) (c1_0 : Nat) (l1_0 : List Bool) (a1_1 : Bool) (A2 : Option Addr) (c2 : Nat) (l2 : List Int) (r : Bool) (w : World) (hr1_0 : Kd.C Kd.bool w A1_0 l1_0.length l1_0) (hc1_0 : l1_0.length ≤ c1_0) (hr2 : Kd.C (Kd.int .i64) w A2 l2.length l2) (hc2 : l2.length ≤ c2) (h : laws_FnExactRowBoat.f k a0_0 a0_1 l1_0 a1_1 l2 = some r) :
    Calls Try.prog 6 #[.agg #[.int .i64 a0_0, .int .i64 a0_1], .agg #[.slice A1_0 l1_0.length c1_0, .bool a1_1], .slice A2 l2.length c2] w fun e w' => e = .returned (.bool r) ∧ Below w.heap.size w w' := by
  have hu29 := Try.underlying29
  have hu37 := Try.underlying37
  have hu40 := Try.underlying40
  have HR1_0 := Aside0.mk hr1_0
  have HC1_0 := Aside0.mk hc1_0
  have HR2 := Aside0.mk hr2
  have HC2 := Aside0.mk hc2
  clear hr1_0 hc1_0 hr2 hc2
  have HB := Aside0.mk (Below.refl w.heap.size w)
  have HT := Aside0.mk (Nat.le_refl w.heap.size)
  have HN := Aside0.mk trivial
  have H := h
  unfold laws_FnExactRowBoat.f at H
  clear h
  by_cases c78 : (l2.length : Int) > 1048576
  · rw [if_pos c78] at H
    have c78b0 : decide (1048576 < (l2.length : Int)) = true := decide_eq_true c78
    have c78b1 : decide (1048576 < l2.length) = true := decide_eq_true (by omega)
    clear c78
    obtain rfl := Option.some.inj H
    go_enter Try.func6, Try.ntmps6
    try go_wp2_with (first | ((with_reducible refine gate_dst (N := 3) rfl ?_); refine box_event ?hg (N := 3) ?hd (cs := #[.int .i64 a0_0, .int .i64 a0_1]) (t := 29) ?hr ?_; (case hd => rfl); (case hg => rfl); (case hr => first | (go_simp; done) | (go_simp; rfl)); intro gb1 hg W1 hbox hb; have nn : w.heap.size ≤ gb1 := Nat.le_trans HT.out (Nat.le_of_eq hg.symm); have GE1 := Aside0.mk (Nat.le_trans (below_size HB.out) (Nat.le_of_eq hg.symm)); replace HB := Aside0.mk (below_step HB.out hb); replace HT := Aside0.mk (Nat.le_trans HT.out hb.size); have BK1 := Aside0.mk hbox; replace HT := Aside0.mk (Nat.succ_le_of_lt (blk_lt hbox)); replace HN := Aside0.mk (And.intro nn HN.out); clear hg hbox hb nn) | ((with_reducible refine gate_dst (N := 4) rfl ?_); refine box_event ?hg (N := 4) ?hd (cs := #[.slice A1_0 l1_0.length c1_0, .bool a1_1]) (t := 37) ?hr ?_; (case hd => rfl); (case hg => rfl); (case hr => first | (go_simp; done) | (go_simp; rfl)); intro gb2 hg W2 hbox hb; have nn : gb1.succ ≤ gb2 := Nat.le_trans HT.out (Nat.le_of_eq hg.symm); have GE2 := Aside0.mk (Nat.le_trans (below_size HB.out) (Nat.le_of_eq hg.symm)); replace BK1 := Aside0.mk (blk_below (g := gb1) (o := .cells #[.int .i64 a0_0, .int .i64 a0_1] 29 (0, 0)) BK1.out hb); replace HB := Aside0.mk (below_step HB.out hb); replace HT := Aside0.mk (Nat.le_trans HT.out hb.size); have BK2 := Aside0.mk hbox; replace HT := Aside0.mk (Nat.succ_le_of_lt (blk_lt hbox)); replace HN := Aside0.mk (And.intro nn HN.out); clear hg hbox hb nn))
    go_ret
    exact ⟨by first | rfl | (simp; done) | (simp [*]; done), HB.out⟩
  rw [if_neg c78] at H
  have c78b0 : decide (1048576 < (l2.length : Int)) = false := decide_eq_false c78
  have c78b1 : decide (1048576 < l2.length) = false := decide_eq_false (by omega)
  clear c78
  obtain ⟨t2, A1_, H⟩ := Option.bind_eq_some_iff.mp H
  have A1 := Aside0.mk A1_
  clear A1_
  (try dsimp only at A1 H)
  by_cases c79 : t2 < 0
  · rw [if_pos c79] at H
    have c79b0 : decide (t2 < 0) = true := decide_eq_true c79
    clear c79
    obtain rfl := Option.some.inj H
    go_enter Try.func6, Try.ntmps6
    try go_wp2_with (first | ((with_reducible refine gate_dst (N := 3) rfl ?_); refine box_event ?hg (N := 3) ?hd (cs := #[.int .i64 a0_0, .int .i64 a0_1]) (t := 29) ?hr ?_; (case hd => rfl); (case hg => rfl); (case hr => first | (go_simp; done) | (go_simp; rfl)); intro gb1 hg W3 hbox hb; have nn : w.heap.size ≤ gb1 := Nat.le_trans HT.out (Nat.le_of_eq hg.symm); have GE1 := Aside0.mk (Nat.le_trans (below_size HB.out) (Nat.le_of_eq hg.symm)); replace HB := Aside0.mk (below_step HB.out hb); replace HT := Aside0.mk (Nat.le_trans HT.out hb.size); have BK1 := Aside0.mk hbox; replace HT := Aside0.mk (Nat.succ_le_of_lt (blk_lt hbox)); replace HN := Aside0.mk (And.intro nn HN.out); clear hg hbox hb nn) | ((with_reducible refine gate_dst (N := 4) rfl ?_); refine box_event ?hg (N := 4) ?hd (cs := #[.slice A1_0 l1_0.length c1_0, .bool a1_1]) (t := 37) ?hr ?_; (case hd => rfl); (case hg => rfl); (case hr => first | (go_simp; done) | (go_simp; rfl)); intro gb2 hg W4 hbox hb; have nn : gb1.succ ≤ gb2 := Nat.le_trans HT.out (Nat.le_of_eq hg.symm); have GE2 := Aside0.mk (Nat.le_trans (below_size HB.out) (Nat.le_of_eq hg.symm)); replace BK1 := Aside0.mk (blk_below (g := gb1) (o := .cells #[.int .i64 a0_0, .int .i64 a0_1] 29 (0, 0)) BK1.out hb); replace HB := Aside0.mk (below_step HB.out hb); replace HT := Aside0.mk (Nat.le_trans HT.out hb.size); have BK2 := Aside0.mk hbox; replace HT := Aside0.mk (Nat.succ_le_of_lt (blk_lt hbox)); replace HN := Aside0.mk (And.intro nn HN.out); clear hg hbox hb nn; have cz2_0 : W4.cell? ⟨gb2, 0, none⟩ = some (.slice A1_0 l1_0.length c1_0) := (blk_cell BK2.out 0).trans rfl; have cz2_1 : W4.cell? ⟨gb2, 1, none⟩ = some (.bool a1_1) := (blk_cell BK2.out 1).trans rfl) | ((with_reducible refine gate_dst (N := 24) rfl ?_); refine goesL_ (some 24) rfl rfl Try.func14 (by kernel_rfl) rfl #[.agg #[.slice A1_0 l1_0.length c1_0, .bool a1_1], .int .i64 1048576] rfl (by (try simp only [List.map_toArray, List.map_cons, List.map_nil]); first | done | rfl) ?_; (with_reducible refine (laws_szState.calls _ _ l1_0 a1_1 1048576 t2 _ (Kd.C_below HR1_0.out HB.out) HC1_0.out A1.out).mono ?_); rintro e W5 ⟨rfl, hb⟩; refine ⟨_, rfl, ?_⟩; replace BK1 := Aside0.mk (blk_below (g := gb1) (o := .cells #[.int .i64 a0_0, .int .i64 a0_1] 29 (0, 0)) BK1.out hb); replace BK2 := Aside0.mk (blk_below (g := gb2) (o := .cells #[.slice A1_0 l1_0.length c1_0, .bool a1_1] 37 (0, 0)) BK2.out hb); replace HB := Aside0.mk (below_step HB.out hb); replace HT := Aside0.mk (Nat.le_trans HT.out hb.size); clear hb; (try clear cz2_0 cz2_1)))
    go_ret
    exact ⟨by first | rfl | (simp; done) | (simp [*]; done), HB.out⟩
  rw [if_neg c79] at H
  have c79b0 : decide (t2 < 0) = false := decide_eq_false c79
  clear c79
  obtain ⟨⟨t4, t5⟩, A3_, H⟩ := Option.bind_eq_some_iff.mp H
  have A3 := Aside0.mk A3_
  clear A3_
  (try dsimp only at A3 H)
  obtain ⟨⟨t7, t8⟩, A6_, H⟩ := Option.bind_eq_some_iff.mp H
  have A6 := Aside0.mk A6_
  clear A6_
  (try dsimp only at A6 H)
  obtain ⟨t11, A10_, H⟩ := Option.bind_eq_some_iff.mp H
  have A10 := Aside0.mk A10_
  clear A10_
  (try dsimp only at A10 H)
  obtain ⟨⟨t14, t15, t16⟩, A13_, H⟩ := Option.bind_eq_some_iff.mp H
  have A13 := Aside0.mk A13_
  clear A13_
  (try dsimp only at A13 H)
  obtain ⟨⟨t19, t20⟩, A18_, H⟩ := Option.bind_eq_some_iff.mp H
  have A18 := Aside0.mk A18_
  clear A18_
  (try dsimp only at A18 H)
  obtain ⟨t23, A22_, H⟩ := Option.bind_eq_some_iff.mp H
  have A22 := Aside0.mk A22_
  clear A22_
  (try dsimp only at A22 H)
  obtain ⟨⟨t26, t27⟩, A25_, H⟩ := Option.bind_eq_some_iff.mp H
  have A25 := Aside0.mk A25_
  clear A25_
  (try dsimp only at A25 H)
  obtain ⟨⟨t29, t30, t31⟩, A28_, H⟩ := Option.bind_eq_some_iff.mp H
  have A28 := Aside0.mk A28_
  clear A28_
  (try dsimp only at A28 H)
  obtain ⟨t34, A33_, H⟩ := Option.bind_eq_some_iff.mp H
  have A33 := Aside0.mk A33_
  clear A33_
  (try dsimp only at A33 H)
  rcases t34 with _ | _
  · rw [if_neg (by decide)] at H; cases H
  rw [if_pos rfl] at H
  by_cases c80 : (t31 != t16) = true
  · rw [if_pos c80] at H; cases H
  rw [if_neg c80] at H
  have c80b0 : (t31 != t16) = false := by simpa using c80
  have c80b1 : decide (t31 = t16) = true := by simpa using c80
  have c80b2 : (t31 == t16) = true := by simpa using c80
  clear c80
  obtain ⟨⟨t36, t37⟩, A35_, H⟩ := Option.bind_eq_some_iff.mp H
  have A35 := Aside0.mk A35_
  clear A35_
  (try dsimp only at A35 H)
  obtain ⟨t40, A39_, H⟩ := Option.bind_eq_some_iff.mp H
  have A39 := Aside0.mk A39_
  clear A39_
  (try dsimp only at A39 H)
  rcases t40 with _ | _
  · rw [if_neg (by decide)] at H; cases H
  rw [if_pos rfl] at H
  obtain ⟨t42, A41_, H⟩ := Option.bind_eq_some_iff.mp H
  have A41 := Aside0.mk A41_
  clear A41_
  (try dsimp only at A41 H)
  obtain ⟨t45, A44_, H⟩ := Option.bind_eq_some_iff.mp H
  have A44 := Aside0.mk A44_
  clear A44_
  (try dsimp only at A44 H)
  rcases t45 with _ | _
  · rw [if_neg (by decide)] at H; cases H
  rw [if_pos rfl] at H
  obtain ⟨⟨t47, t48⟩, A46_, H⟩ := Option.bind_eq_some_iff.mp H
  have A46 := Aside0.mk A46_
  clear A46_
  (try dsimp only at A46 H)
  obtain ⟨⟨t50, t51⟩, A49_, H⟩ := Option.bind_eq_some_iff.mp H
  have A49 := Aside0.mk A49_
  clear A49_
  (try dsimp only at A49 H)
  obtain ⟨t53, A52_, H⟩ := Option.bind_eq_some_iff.mp H
  have A52 := Aside0.mk A52_
  clear A52_
  (try dsimp only at A52 H)
  by_cases c81 : t50 < 0
  · rw [if_pos c81] at H; cases H
  rw [if_neg c81] at H
  have c81b0 : decide (t50 < 0) = false := decide_eq_false c81
  clear c81
  rcases t53 with _ | _
  · rw [if_neg (by decide)] at H; cases H
  rw [if_pos rfl] at H
  by_cases c82 : (t31 != t16) = true
  · rw [if_pos c82] at H; cases H
  rw [if_neg c82] at H
  have c82b0 : (t31 != t16) = false := by simpa using c82
  have c82b1 : decide (t31 = t16) = true := by simpa using c82
  have c82b2 : (t31 == t16) = true := by simpa using c82
  clear c82
  obtain ⟨⟨t55, t56⟩, A54_, H⟩ := Option.bind_eq_some_iff.mp H
  have A54 := Aside0.mk A54_
  clear A54_
  (try dsimp only at A54 H)
  obtain ⟨t58, A57_, H⟩ := Option.bind_eq_some_iff.mp H
  have A57 := Aside0.mk A57_
  clear A57_
  (try dsimp only at A57 H)
  by_cases c83 : t58 < 0
  · rw [if_pos c83] at H; cases H
  rw [if_neg c83] at H
  have c83b0 : decide (t58 < 0) = false := decide_eq_false c83
  clear c83
  by_cases c84 : t58 = t55
  rotate_left
  · rw [if_neg c84] at H; cases H
  rw [if_pos c84] at H
  have c84b0 : (t58 == t55) = true := beq_iff_eq.mpr c84
  have c84b1 : (t58 != t55) = false := bne_eq_false_iff_eq.mpr c84
  clear c84
  obtain ⟨⟨t60, t61⟩, A59_, H⟩ := Option.bind_eq_some_iff.mp H
  have A59 := Aside0.mk A59_
  clear A59_
  (try dsimp only at A59 H)
  obtain ⟨⟨t63, t64⟩, A62_, H⟩ := Option.bind_eq_some_iff.mp H
  have A62 := Aside0.mk A62_
  clear A62_
  (try dsimp only at A62 H)
  obtain ⟨t67, A66_, H⟩ := Option.bind_eq_some_iff.mp H
  have A66 := Aside0.mk A66_
  clear A66_
  (try dsimp only at A66 H)
  obtain ⟨⟨t70, t71, t72⟩, A69_, H⟩ := Option.bind_eq_some_iff.mp H
  have A69 := Aside0.mk A69_
  clear A69_
  (try dsimp only at A69 H)
  obtain ⟨t75, A74_, H⟩ := Option.bind_eq_some_iff.mp H
  have A74 := Aside0.mk A74_
  clear A74_
  (try dsimp only at A74 H)
  rcases t75 with _ | _
  · rw [if_neg (by decide)] at H; cases H
  rw [if_pos rfl] at H
  by_cases c85 : (t72 != t16) = true
  · rw [if_pos c85] at H; cases H
  rw [if_neg c85] at H
  have c85b0 : (t72 != t16) = false := by simpa using c85
  have c85b1 : decide (t72 = t16) = true := by simpa using c85
  have c85b2 : (t72 == t16) = true := by simpa using c85
  clear c85
  obtain ⟨t77, A76_, H⟩ := Option.bind_eq_some_iff.mp H
  have A76 := Aside0.mk A76_
  clear A76_
  (try dsimp only at A76 H)
  by_cases c86 : t77 < 0
  · rw [if_pos c86] at H; cases H
  rw [if_neg c86] at H
  have c86b0 : decide (t77 < 0) = false := decide_eq_false c86
  clear c86
  by_cases c87 : t77 = t55
  rotate_left
  · rw [if_neg c87] at H; cases H
  rw [if_pos c87] at H
  have c87b0 : (t77 == t55) = true := beq_iff_eq.mpr c87
  have c87b1 : (t77 != t55) = false := bne_eq_false_iff_eq.mpr c87
  clear c87
  obtain rfl := Option.some.inj H
  clear H
  go_enter Try.func6, Try.ntmps6
  try go_wp2_with (first | ((with_reducible refine gate_dst (N := 3) rfl ?_); refine box_event ?hg (N := 3) ?hd (cs := #[.int .i64 a0_0, .int .i64 a0_1]) (t := 29) ?hr ?_; (case hd => rfl); (case hg => rfl); (case hr => first | (go_simp; done) | (go_simp; rfl)); intro gb1 hg W6 hbox hb; have nn : w.heap.size ≤ gb1 := Nat.le_trans HT.out (Nat.le_of_eq hg.symm); have GE1 := Aside0.mk (Nat.le_trans (below_size HB.out) (Nat.le_of_eq hg.symm)); replace HB := Aside0.mk (below_step HB.out hb); replace HT := Aside0.mk (Nat.le_trans HT.out hb.size); have BK1 := Aside0.mk hbox; replace HT := Aside0.mk (Nat.succ_le_of_lt (blk_lt hbox)); replace HN := Aside0.mk (And.intro nn HN.out); clear hg hbox hb nn) | ((with_reducible refine gate_dst (N := 4) rfl ?_); refine box_event ?hg (N := 4) ?hd (cs := #[.slice A1_0 l1_0.length c1_0, .bool a1_1]) (t := 37) ?hr ?_; (case hd => rfl); (case hg => rfl); (case hr => first | (go_simp; done) | (go_simp; rfl)); intro gb2 hg W7 hbox hb; have nn : gb1.succ ≤ gb2 := Nat.le_trans HT.out (Nat.le_of_eq hg.symm); have GE2 := Aside0.mk (Nat.le_trans (below_size HB.out) (Nat.le_of_eq hg.symm)); replace BK1 := Aside0.mk (blk_below (g := gb1) (o := .cells #[.int .i64 a0_0, .int .i64 a0_1] 29 (0, 0)) BK1.out hb); replace HB := Aside0.mk (below_step HB.out hb); replace HT := Aside0.mk (Nat.le_trans HT.out hb.size); have BK2 := Aside0.mk hbox; replace HT := Aside0.mk (Nat.succ_le_of_lt (blk_lt hbox)); replace HN := Aside0.mk (And.intro nn HN.out); clear hg hbox hb nn; have cz2_0 : W7.cell? ⟨gb2, 0, none⟩ = some (.slice A1_0 l1_0.length c1_0) := (blk_cell BK2.out 0).trans rfl; have cz2_1 : W7.cell? ⟨gb2, 1, none⟩ = some (.bool a1_1) := (blk_cell BK2.out 1).trans rfl) | ((with_reducible refine gate_dst (N := 24) rfl ?_); refine goesL_ (some 24) rfl rfl Try.func14 (by kernel_rfl) rfl #[.agg #[.slice A1_0 l1_0.length c1_0, .bool a1_1], .int .i64 1048576] rfl (by (try simp only [List.map_toArray, List.map_cons, List.map_nil]); first | done | rfl) ?_; (with_reducible refine (laws_szState.calls _ _ l1_0 a1_1 1048576 t2 _ (Kd.C_below HR1_0.out HB.out) HC1_0.out A1.out).mono ?_); rintro e W8 ⟨rfl, hb⟩; refine ⟨_, rfl, ?_⟩; replace BK1 := Aside0.mk (blk_below (g := gb1) (o := .cells #[.int .i64 a0_0, .int .i64 a0_1] 29 (0, 0)) BK1.out hb); replace BK2 := Aside0.mk (blk_below (g := gb2) (o := .cells #[.slice A1_0 l1_0.length c1_0, .bool a1_1] 37 (0, 0)) BK2.out hb); replace HB := Aside0.mk (below_step HB.out hb); replace HT := Aside0.mk (Nat.le_trans HT.out hb.size); clear hb; (try clear cz2_0 cz2_1)))
  have hb : Below W8.heap.size W8 W8.drew := below_drew (Below.refl _ _)
  replace BK1 := Aside0.mk (blk_below (g := gb1) (o := .cells #[.int .i64 a0_0, .int .i64 a0_1] 29 (0, 0)) BK1.out hb)
  replace BK2 := Aside0.mk (blk_below (g := gb2) (o := .cells #[.slice A1_0 l1_0.length c1_0, .bool a1_1] 37 (0, 0)) BK2.out hb)
  replace HB := Aside0.mk (below_step HB.out hb)
  replace HT := Aside0.mk (Nat.le_trans HT.out hb.size)
  clear hb
  refine start_ (n := 13) (S := fun w' => w'.cell? ⟨gb1, 0, none⟩ = some (.int .i64 a0_0) ∧ w'.cell? ⟨gb1, 1, none⟩ = some (.int .i64 a0_1) ∧ w'.cell? ⟨gb2, 0, none⟩ = some (.slice A1_0 l1_0.length c1_0) ∧ w'.cell? ⟨gb2, 1, none⟩ = some (.bool a1_1)) (ds := []) #[false, false, false, false, false, false, false, false, false, false, false, false, false] (by kernel_rfl) rfl rfl ⟨(blk_cell BK1.out 0).trans rfl, (blk_cell BK1.out 1).trans rfl, (blk_cell BK2.out 0).trans rfl, (blk_cell BK2.out 1).trans rfl⟩ (fun hHeld => ?_)
  generalize W8.drew = W9 at BK1 BK2 HB HT hHeld ⊢
  refine take_ (i := 0) (N := some 28) (v := ?_) (a' := ?_) #[true, false, false, false, false, false, false, false, false, false, false, false, false] rfl rfl (by kernel_rfl) (fun _ _ _ h => h) (Or.inl ⟨by rfl, ?_⟩) hHeld ?_ ?_
  rotate_left
  · rintro w' ⟨s0, s1, s2, s3⟩
    go_simp
    with_reducible rfl
  rotate_left
  · simp only [Act.put, List.setIfInBounds_toArray, List.set_cons_zero, List.set_cons_succ, i64_w, i32_w]
    rfl
  refine take_ (i := 2) (N := some 30) (v := ?_) (a' := ?_) #[true, false, true, false, false, false, false, false, false, false, false, false, false] rfl rfl (by kernel_rfl) (fun _ _ _ h => h) (Or.inl ⟨by rfl, ?_⟩) hHeld ?_ ?_
  rotate_left
  · rintro w' ⟨s0, s1, s2, s3⟩
    go_simp
    with_reducible rfl
  rotate_left
  · simp only [Act.put, List.setIfInBounds_toArray, List.set_cons_zero, List.set_cons_succ, i64_w, i32_w]
    rfl
  refine pure_ (i := 4) (N := some 32) (v := ?_) (a' := ?_) #[true, false, true, false, true, false, false, false, false, false, false, false, false] rfl rfl (by kernel_rfl) (fun _ _ _ h => h) (Or.inl ⟨by rfl, ?_⟩) ?_ ?_
  rotate_left
  · intro w'
    go_simp
    with_reducible rfl
  rotate_left
  · simp only [Act.put, List.setIfInBounds_toArray, List.set_cons_zero, List.set_cons_succ, i64_w, i32_w]
    rfl
  refine join_ (σ := Option Addr × Nat × Option Addr × Nat × Option Addr × Nat × Nat) 2 #[true, true, true, true, true, true, true, true, true, true, true, false, false] (fun s => [(29, .agg #[.int .i64 t4, .int .i64 t5]), (31, .agg #[.slice s.1 t7.length s.2.1, .bool t8]), (33, .slice s.2.2.1 t11.length s.2.2.2.1), (34, .tuple #[.agg #[.slice s.2.2.2.2.1 t14.length s.2.2.2.2.2.1, .bool t15], .bool t16]), (27, .tuple #[.agg #[.slice s.2.2.2.2.1 t14.length s.2.2.2.2.2.1, .bool t15], .bool t16]), (35, .agg #[.slice s.2.2.2.2.1 t14.length s.2.2.2.2.2.1, .bool t15]), (36, .bool t16), (8, .pointer (some ⟨s.2.2.2.2.2.2, 0, none⟩))]) (fun s w' => ∃ lo17 hi17 T_ : Nat, Aside0 (Kd.R Kd.bool 4 w' w.heap.size (fun k_ => lo17 ≤ k_ ∧ k_ < hi17) (.slice s.2.2.2.2.1 t14.length s.2.2.2.2.2.1) t14) ∧ Aside0 (w'.heap[gb1]? = some (.cells #[.int .i64 a0_0, .int .i64 a0_1] 29 (0, 0))) ∧ Aside0 (w'.heap[gb2]? = some (.cells #[.slice A1_0 l1_0.length c1_0, .bool a1_1] 37 (0, 0))) ∧ Aside0 (w'.heap[s.2.2.2.2.2.2]? = some (.cells #[.slice none 0 0, .bool false] 40 (0, 0))) ∧ Aside0 (Below w.heap.size w w') ∧ Aside0 (T_ ≤ w'.heap.size) ∧ Aside0 (w.heap.size ≤ s.2.2.2.2.2.2) ∧ Aside0 (gb2.succ ≤ s.2.2.2.2.2.2 ∧ s.2.2.2.2.2.2 < T_ ∧ gb2.succ ≤ lo17 ∧ lo17 ≤ hi17 ∧ hi17 ≤ T_ ∧ (s.2.2.2.2.2.2 < lo17 ∨ hi17 ≤ s.2.2.2.2.2.2))) ?_ ?_
  rotate_left
  · intro hJ4
    refine join_ (σ := Option Addr × Nat × Option Addr × Nat × Nat) 6 #[true, true, true, true, true, true, false, false, false, false, true, false, false] (fun s => [(29, .agg #[.int .i64 t4, .int .i64 t5]), (31, .agg #[.slice s.1 t7.length s.2.1, .bool t8]), (33, .slice s.2.2.1 t11.length s.2.2.2.1), (8, .pointer (some ⟨s.2.2.2.2, 0, none⟩))]) (fun s w' => ∃ lo9 hi9 lo12 hi12 T_ : Nat, Aside0 (Kd.R Kd.bool 4 w' w.heap.size (fun k_ => lo9 ≤ k_ ∧ k_ < hi9) (.slice s.1 t7.length s.2.1) t7) ∧ Aside0 (Kd.R (Kd.int .i64) 3 w' w.heap.size (fun k_ => lo12 ≤ k_ ∧ k_ < hi12) (.slice s.2.2.1 t11.length s.2.2.2.1) t11) ∧ Aside0 (w'.heap[gb1]? = some (.cells #[.int .i64 a0_0, .int .i64 a0_1] 29 (0, 0))) ∧ Aside0 (w'.heap[gb2]? = some (.cells #[.slice A1_0 l1_0.length c1_0, .bool a1_1] 37 (0, 0))) ∧ Aside0 (w'.heap[s.2.2.2.2]? = some (.cells #[.slice none 0 0, .bool false] 40 (0, 0))) ∧ Aside0 (Below w.heap.size w w') ∧ Aside0 (T_ ≤ w'.heap.size) ∧ Aside0 (w.heap.size ≤ s.2.2.2.2) ∧ Aside0 (gb2.succ ≤ s.2.2.2.2 ∧ s.2.2.2.2 < T_ ∧ gb2.succ ≤ lo9 ∧ lo9 ≤ hi9 ∧ hi9 ≤ T_ ∧ (s.2.2.2.2 < lo9 ∨ hi9 ≤ s.2.2.2.2) ∧ gb2.succ ≤ lo12 ∧ lo12 ≤ hi12 ∧ hi12 ≤ T_ ∧ (s.2.2.2.2 < lo12 ∨ hi12 ≤ s.2.2.2.2) ∧ hi9 ≤ lo12)) ?_ ?_
    rotate_left
    · intro hJ3
      refine join_ (σ := Option Addr × Nat × Nat) 7 #[true, true, true, true, true, false, false, false, false, false, true, false, false] (fun s => [(29, .agg #[.int .i64 t4, .int .i64 t5]), (31, .agg #[.slice s.1 t7.length s.2.1, .bool t8]), (8, .pointer (some ⟨s.2.2, 0, none⟩))]) (fun s w' => ∃ lo9 hi9 T_ : Nat, Aside0 (Kd.R Kd.bool 4 w' w.heap.size (fun k_ => lo9 ≤ k_ ∧ k_ < hi9) (.slice s.1 t7.length s.2.1) t7) ∧ Aside0 (w'.heap[gb1]? = some (.cells #[.int .i64 a0_0, .int .i64 a0_1] 29 (0, 0))) ∧ Aside0 (w'.heap[gb2]? = some (.cells #[.slice A1_0 l1_0.length c1_0, .bool a1_1] 37 (0, 0))) ∧ Aside0 (w'.heap[s.2.2]? = some (.cells #[.slice none 0 0, .bool false] 40 (0, 0))) ∧ Aside0 (Below w.heap.size w w') ∧ Aside0 (T_ ≤ w'.heap.size) ∧ Aside0 (w.heap.size ≤ s.2.2) ∧ Aside0 (gb2.succ ≤ s.2.2 ∧ s.2.2 < T_ ∧ gb2.succ ≤ lo9 ∧ lo9 ≤ hi9 ∧ hi9 ≤ T_ ∧ (s.2.2 < lo9 ∨ hi9 ≤ s.2.2))) ?_ ?_
      rotate_left
      · intro hJ2
        refine join_ (σ := Nat) 8 #[true, true, true, false, true, false, false, false, false, false, true, false, false] (fun s => [(29, .agg #[.int .i64 t4, .int .i64 t5]), (8, .pointer (some ⟨s, 0, none⟩))]) (fun s w' => ∃ T_ : Nat, Aside0 (w'.heap[gb1]? = some (.cells #[.int .i64 a0_0, .int .i64 a0_1] 29 (0, 0))) ∧ Aside0 (w'.heap[gb2]? = some (.cells #[.slice A1_0 l1_0.length c1_0, .bool a1_1] 37 (0, 0))) ∧ Aside0 (w'.heap[s]? = some (.cells #[.slice none 0 0, .bool false] 40 (0, 0))) ∧ Aside0 (Below w.heap.size w w') ∧ Aside0 (T_ ≤ w'.heap.size) ∧ Aside0 (w.heap.size ≤ s) ∧ Aside0 (gb2.succ ≤ s ∧ s < T_)) ?_ ?_
        rotate_left
        · intro hJ1
          refine join_ (σ := Nat) 9 #[true, false, true, false, true, false, false, false, false, false, true, false, false] (fun s => [(8, .pointer (some ⟨s, 0, none⟩))]) (fun s w' => ∃ T_ : Nat, Aside0 (w'.heap[gb1]? = some (.cells #[.int .i64 a0_0, .int .i64 a0_1] 29 (0, 0))) ∧ Aside0 (w'.heap[gb2]? = some (.cells #[.slice A1_0 l1_0.length c1_0, .bool a1_1] 37 (0, 0))) ∧ Aside0 (w'.heap[s]? = some (.cells #[.slice none 0 0, .bool false] 40 (0, 0))) ∧ Aside0 (Below w.heap.size w w') ∧ Aside0 (T_ ≤ w'.heap.size) ∧ Aside0 (w.heap.size ≤ s) ∧ Aside0 (gb2.succ ≤ s ∧ s < T_)) ?_ ?_
          rotate_left
          · intro hJ0
            refine two_ (i := 1) (j := 10) (Ni := some 29) (Nj := some 8) #[true, true, true, false, true, false, false, false, false, false, false, false, false] #[true, false, true, false, true, false, false, false, false, false, true, false, false] rfl rfl rfl rfl (by kernel_rfl) (by decide) (by decide) (fun K hK => ?_) (fun K hK => ?_)
            · skip
              refine goes_ Try.func12 (by kernel_rfl) rfl #[.agg #[.int .i64 a0_0, .int .i64 a0_1]] (by rfl) rfl rfl (by (try simp only [List.map_toArray, List.map_cons, List.map_nil]); first | done | rfl) ?_
              with_reducible refine (laws_toCompany.calls a0_0 a0_1 t4 t5 _  A3.out).mono ?_
              rintro e W10 ⟨rfl, hb⟩
              refine ⟨_, rfl, ?_⟩
              replace BK1 := Aside0.mk (blk_below (g := gb1) (o := .cells #[.int .i64 a0_0, .int .i64 a0_1] 29 (0, 0)) BK1.out hb)
              replace BK2 := Aside0.mk (blk_below (g := gb2) (o := .cells #[.slice A1_0 l1_0.length c1_0, .bool a1_1] 37 (0, 0)) BK2.out hb)
              replace HB := Aside0.mk (below_step HB.out hb)
              replace HT := Aside0.mk (Nat.le_trans HT.out hb.size)
              clear hb
              refine hK.out _ _ ⟨(blk_cell BK1.out 0).trans rfl, (blk_cell BK1.out 1).trans rfl, (blk_cell BK2.out 0).trans rfl, (blk_cell BK2.out 1).trans rfl⟩ (fun hHeld => ?_)
              clear hK K
              refine norm_ (a' := ?_) ?_ ?_
              rotate_left
              · show Act.put _ (some 29) _ = _
                simp only [Act.put, List.setIfInBounds_toArray, List.set_cons_zero, List.set_cons_succ, i64_w, i32_w]
                rfl
              refine two_ (i := 3) (j := 10) (Ni := some 31) (Nj := some 8) #[true, true, true, true, true, false, false, false, false, false, false, false, false] #[true, true, true, false, true, false, false, false, false, false, true, false, false] rfl rfl rfl rfl (by kernel_rfl) (by decide) (by decide) (fun K hK => ?_) (fun K hK => ?_)
              · skip
                refine goes_ Try.func16 (by kernel_rfl) rfl #[.agg #[.slice A1_0 l1_0.length c1_0, .bool a1_1]] (by rfl) rfl rfl (by (try simp only [List.map_toArray, List.map_cons, List.map_nil]); first | done | rfl) ?_
                with_reducible refine (laws_toState.calls k _ _ l1_0 a1_1 t7 t8 _ (Kd.C_below HR1_0.out HB.out) HC1_0.out A6.out).mono ?_
                rintro e W11 ⟨v9, rfl, ho9, hb⟩
                refine ⟨_, rfl, ?_⟩
                obtain ⟨B9, d9, e_⟩ := Kd.R_slice ho9
                subst e_
                obtain ⟨lo9, hi9, nn, ht_, hO9⟩ := laws_FnExactRowBoat.newR ho9 HT.out (below_size HB.out) hb.size
                replace BK1 := Aside0.mk (blk_below (g := gb1) (o := .cells #[.int .i64 a0_0, .int .i64 a0_1] 29 (0, 0)) BK1.out hb)
                replace BK2 := Aside0.mk (blk_below (g := gb2) (o := .cells #[.slice A1_0 l1_0.length c1_0, .bool a1_1] 37 (0, 0)) BK2.out hb)
                replace HB := Aside0.mk (below_step HB.out hb)
                replace HT := Aside0.mk (Nat.le_trans HT.out hb.size)
                have HO9 := Aside0.mk hO9
                replace HT := Aside0.mk ht_
                replace HN := Aside0.mk (And.intro nn HN.out)
                clear ho9 hO9 nn ht_
                clear hb
                refine hK.out _ _ ⟨(blk_cell BK1.out 0).trans rfl, (blk_cell BK1.out 1).trans rfl, (blk_cell BK2.out 0).trans rfl, (blk_cell BK2.out 1).trans rfl⟩ (fun hHeld => ?_)
                clear hK K
                refine norm_ (a' := ?_) ?_ ?_
                rotate_left
                · show Act.put _ (some 31) _ = _
                  simp only [Act.put, List.setIfInBounds_toArray, List.set_cons_zero, List.set_cons_succ, i64_w, i32_w]
                  rfl
                refine two_ (i := 5) (j := 10) (Ni := some 33) (Nj := some 8) #[true, true, true, true, true, true, false, false, false, false, false, false, false] #[true, true, true, true, true, false, false, false, false, false, true, false, false] rfl rfl rfl rfl (by kernel_rfl) (by decide) (by decide) (fun K hK => ?_) (fun K hK => ?_)
                · skip
                  refine goes_ Try.func8 (by kernel_rfl) rfl #[.slice A2 l2.length c2] (by rfl) rfl rfl (by (try simp only [List.map_toArray, List.map_cons, List.map_nil]); first | done | rfl) ?_
                  with_reducible refine (laws_toIntS.calls k _ _ l2 t11 _ (Kd.C_below HR2.out HB.out) HC2.out A10.out).mono ?_
                  rintro e W12 ⟨v12, rfl, ho12, hb⟩
                  refine ⟨_, rfl, ?_⟩
                  obtain ⟨B12, d12, e_⟩ := Kd.R_slice ho12
                  subst e_
                  obtain ⟨lo12, hi12, nn, ht_, hO12⟩ := laws_FnExactRowBoat.newR ho12 HT.out (below_size HB.out) hb.size
                  replace HO9 := Aside0.mk (Kd.R_below HO9.out hb)
                  replace BK1 := Aside0.mk (blk_below (g := gb1) (o := .cells #[.int .i64 a0_0, .int .i64 a0_1] 29 (0, 0)) BK1.out hb)
                  replace BK2 := Aside0.mk (blk_below (g := gb2) (o := .cells #[.slice A1_0 l1_0.length c1_0, .bool a1_1] 37 (0, 0)) BK2.out hb)
                  replace HB := Aside0.mk (below_step HB.out hb)
                  replace HT := Aside0.mk (Nat.le_trans HT.out hb.size)
                  have HO12 := Aside0.mk hO12
                  replace HT := Aside0.mk ht_
                  replace HN := Aside0.mk (And.intro nn HN.out)
                  clear ho12 hO12 nn ht_
                  clear hb
                  refine hK.out _ _ ⟨(blk_cell BK1.out 0).trans rfl, (blk_cell BK1.out 1).trans rfl, (blk_cell BK2.out 0).trans rfl, (blk_cell BK2.out 1).trans rfl⟩ (fun hHeld => ?_)
                  clear hK K
                  refine norm_ (a' := ?_) ?_ ?_
                  rotate_left
                  · show Act.put _ (some 33) _ = _
                    simp only [Act.put, List.setIfInBounds_toArray, List.set_cons_zero, List.set_cons_succ, i64_w, i32_w]
                    rfl
                  refine two_ (i := 6) (j := 10) (Ni := some 34) (Nj := some 8) #[true, true, true, true, true, true, true, false, false, false, false, false, false] #[true, true, true, true, true, true, false, false, false, false, true, false, false] rfl rfl rfl rfl (by kernel_rfl) (by decide) (by decide) (fun K hK => ?_) (fun K hK => ?_)
                  · skip
                    refine goes_ Try.func19 (by kernel_rfl) rfl #[.agg #[.int .i64 t4, .int .i64 t5], .agg #[.slice B9 t7.length d9, .bool t8], .slice B12 t11.length d12] (by rfl) rfl rfl (by (try simp only [List.map_toArray, List.map_cons, List.map_nil]); first | done | rfl) ?_
                    with_reducible refine (spec_RowBoat.calls k t4 t5 _ _ t7 t8 _ _ t11 t14 t15 t16 _ (Kd.R_reads' HO9.out).2.2 (Kd.R_reads' HO9.out).2.1 (Kd.R_reads' HO12.out).2.2 (Kd.R_reads' HO12.out).2.1 A13.out).mono ?_
                    rintro e W13 ⟨v17, rfl, ho17, hb⟩
                    refine ⟨_, rfl, ?_⟩
                    obtain ⟨B17, d17, e_⟩ := Kd.R_slice ho17
                    subst e_
                    obtain ⟨lo17, hi17, nn, ht_, hO17⟩ := laws_FnExactRowBoat.newR ho17 HT.out (below_size HB.out) hb.size
                    replace HO9 := Aside0.mk (Kd.R_below HO9.out hb)
                    replace HO12 := Aside0.mk (Kd.R_below HO12.out hb)
                    replace BK1 := Aside0.mk (blk_below (g := gb1) (o := .cells #[.int .i64 a0_0, .int .i64 a0_1] 29 (0, 0)) BK1.out hb)
                    replace BK2 := Aside0.mk (blk_below (g := gb2) (o := .cells #[.slice A1_0 l1_0.length c1_0, .bool a1_1] 37 (0, 0)) BK2.out hb)
                    replace HB := Aside0.mk (below_step HB.out hb)
                    replace HT := Aside0.mk (Nat.le_trans HT.out hb.size)
                    have HO17 := Aside0.mk hO17
                    replace HT := Aside0.mk ht_
                    replace HN := Aside0.mk (And.intro nn HN.out)
                    clear ho17 hO17 nn ht_
                    clear hb
                    clear HO9 HO12
                    refine hK.out _ _ ⟨(blk_cell BK1.out 0).trans rfl, (blk_cell BK1.out 1).trans rfl, (blk_cell BK2.out 0).trans rfl, (blk_cell BK2.out 1).trans rfl⟩ (fun hHeld => ?_)
                    clear hK K
                    refine norm_ (a' := ?_) ?_ ?_
                    rotate_left
                    · show Act.put _ (some 34) _ = _
                      simp only [Act.put, List.setIfInBounds_toArray, List.set_cons_zero, List.set_cons_succ, i64_w, i32_w]
                      rfl
                    refine pure_ (i := 7) (N := some 27) (v := ?_) (a' := ?_) #[true, true, true, true, true, true, true, true, false, false, false, false, false] rfl rfl (by kernel_rfl) (fun _ _ _ h => h) (Or.inl ⟨by rfl, ?_⟩) ?_ ?_
                    rotate_left
                    · intro w'
                      go_simp
                      with_reducible rfl
                    rotate_left
                    · simp only [Act.put, List.setIfInBounds_toArray, List.set_cons_zero, List.set_cons_succ, i64_w, i32_w]
                      rfl
                    refine pure_ (i := 8) (N := some 35) (v := ?_) (a' := ?_) #[true, true, true, true, true, true, true, true, true, false, false, false, false] rfl rfl (by kernel_rfl) (fun _ _ _ h => h) (Or.inl ⟨by rfl, ?_⟩) ?_ ?_
                    rotate_left
                    · intro w'
                      go_simp
                      with_reducible rfl
                    rotate_left
                    · simp only [Act.put, List.setIfInBounds_toArray, List.set_cons_zero, List.set_cons_succ, i64_w, i32_w]
                      rfl
                    refine pure_ (i := 9) (N := some 36) (v := ?_) (a' := ?_) #[true, true, true, true, true, true, true, true, true, true, false, false, false] rfl rfl (by kernel_rfl) (fun _ _ _ h => h) (Or.inl ⟨by rfl, ?_⟩) ?_ ?_
                    rotate_left
                    · intro w'
                      go_simp
                      with_reducible rfl
                    rotate_left
                    · simp only [Act.put, List.setIfInBounds_toArray, List.set_cons_zero, List.set_cons_succ, i64_w, i32_w]
                      rfl
                    refine one_ (i := 10) (N := some 8) #[true, true, true, true, true, true, true, true, true, true, true, false, false] rfl rfl (by kernel_rfl) (by decide) (fun K hK => ?_)
                    refine box_step (by rfl) (N := 8) rfl (cs := #[.slice none 0 0, .bool false]) (t := 40) ?hr ?_
                    (case hr => first | (go_simp; done) | (go_simp; rfl))
                    intro gb3 hg W14 hbox hb
                    have nn : hi17 ≤ gb3 := Nat.le_trans HT.out (Nat.le_of_eq hg.symm)
                    have GE3 := Aside0.mk (Nat.le_trans (below_size HB.out) (Nat.le_of_eq hg.symm))
                    replace HO17 := Aside0.mk (Kd.R_below HO17.out hb)
                    replace BK1 := Aside0.mk (blk_below (g := gb1) (o := .cells #[.int .i64 a0_0, .int .i64 a0_1] 29 (0, 0)) BK1.out hb)
                    replace BK2 := Aside0.mk (blk_below (g := gb2) (o := .cells #[.slice A1_0 l1_0.length c1_0, .bool a1_1] 37 (0, 0)) BK2.out hb)
                    replace HB := Aside0.mk (below_step HB.out hb)
                    replace HT := Aside0.mk (Nat.le_trans HT.out hb.size)
                    have BK3 := Aside0.mk hbox
                    replace HT := Aside0.mk (Nat.succ_le_of_lt (blk_lt hbox))
                    replace HN := Aside0.mk (And.intro nn HN.out)
                    clear hg hbox hb nn
                    refine hK.out _ _ ⟨(blk_cell BK1.out 0).trans rfl, (blk_cell BK1.out 1).trans rfl, (blk_cell BK2.out 0).trans rfl, (blk_cell BK2.out 1).trans rfl⟩ (fun hHeld => ?_)
                    clear hK K
                    refine norm_ (a' := ?_) ?_ ?_
                    rotate_left
                    · show Act.put _ (some 8) _ = _
                      simp only [Act.put, List.setIfInBounds_toArray, List.set_cons_zero, List.set_cons_succ, i64_w, i32_w]
                      rfl
                    exact norm_ (by first | (simp only [putAll, Act.put, List.setIfInBounds_toArray, List.set_cons_zero, List.set_cons_succ]; done) | (simp only [putAll, Act.put, List.setIfInBounds_toArray, List.set_cons_zero, List.set_cons_succ]; rfl)) (hJ4 (B9, d9, B12, d12, B17, d17, gb3) _ ⟨lo17, hi17, gb3.succ, HO17, BK1, BK2, BK3, HB, HT, GE3, ⟨by have hn_ := HN.out; (try dsimp only); omega⟩⟩)
                  · skip
                    refine box_step (by rfl) (N := 8) rfl (cs := #[.slice none 0 0, .bool false]) (t := 40) ?hr ?_
                    (case hr => first | (go_simp; done) | (go_simp; rfl))
                    intro gb3 hg W15 hbox hb
                    have nn : hi12 ≤ gb3 := Nat.le_trans HT.out (Nat.le_of_eq hg.symm)
                    have GE3 := Aside0.mk (Nat.le_trans (below_size HB.out) (Nat.le_of_eq hg.symm))
                    replace HO9 := Aside0.mk (Kd.R_below HO9.out hb)
                    replace HO12 := Aside0.mk (Kd.R_below HO12.out hb)
                    replace BK1 := Aside0.mk (blk_below (g := gb1) (o := .cells #[.int .i64 a0_0, .int .i64 a0_1] 29 (0, 0)) BK1.out hb)
                    replace BK2 := Aside0.mk (blk_below (g := gb2) (o := .cells #[.slice A1_0 l1_0.length c1_0, .bool a1_1] 37 (0, 0)) BK2.out hb)
                    replace HB := Aside0.mk (below_step HB.out hb)
                    replace HT := Aside0.mk (Nat.le_trans HT.out hb.size)
                    have BK3 := Aside0.mk hbox
                    replace HT := Aside0.mk (Nat.succ_le_of_lt (blk_lt hbox))
                    replace HN := Aside0.mk (And.intro nn HN.out)
                    clear hg hbox hb nn
                    refine hK.out _ _ ⟨(blk_cell BK1.out 0).trans rfl, (blk_cell BK1.out 1).trans rfl, (blk_cell BK2.out 0).trans rfl, (blk_cell BK2.out 1).trans rfl⟩ (fun hHeld => ?_)
                    clear hK K
                    refine norm_ (a' := ?_) ?_ ?_
                    rotate_left
                    · show Act.put _ (some 8) _ = _
                      simp only [Act.put, List.setIfInBounds_toArray, List.set_cons_zero, List.set_cons_succ, i64_w, i32_w]
                      rfl
                    exact norm_ (by first | (simp only [putAll, Act.put, List.setIfInBounds_toArray, List.set_cons_zero, List.set_cons_succ]; done) | (simp only [putAll, Act.put, List.setIfInBounds_toArray, List.set_cons_zero, List.set_cons_succ]; rfl)) (hJ3 (B9, d9, B12, d12, gb3) _ ⟨lo9, hi9, lo12, hi12, gb3.succ, HO9, HO12, BK1, BK2, BK3, HB, HT, GE3, ⟨by have hn_ := HN.out; (try dsimp only); omega⟩⟩)
                · skip
                  refine box_step (by rfl) (N := 8) rfl (cs := #[.slice none 0 0, .bool false]) (t := 40) ?hr ?_
                  (case hr => first | (go_simp; done) | (go_simp; rfl))
                  intro gb3 hg W16 hbox hb
                  have nn : hi9 ≤ gb3 := Nat.le_trans HT.out (Nat.le_of_eq hg.symm)
                  have GE3 := Aside0.mk (Nat.le_trans (below_size HB.out) (Nat.le_of_eq hg.symm))
                  replace HO9 := Aside0.mk (Kd.R_below HO9.out hb)
                  replace BK1 := Aside0.mk (blk_below (g := gb1) (o := .cells #[.int .i64 a0_0, .int .i64 a0_1] 29 (0, 0)) BK1.out hb)
                  replace BK2 := Aside0.mk (blk_below (g := gb2) (o := .cells #[.slice A1_0 l1_0.length c1_0, .bool a1_1] 37 (0, 0)) BK2.out hb)
                  replace HB := Aside0.mk (below_step HB.out hb)
                  replace HT := Aside0.mk (Nat.le_trans HT.out hb.size)
                  have BK3 := Aside0.mk hbox
                  replace HT := Aside0.mk (Nat.succ_le_of_lt (blk_lt hbox))
                  replace HN := Aside0.mk (And.intro nn HN.out)
                  clear hg hbox hb nn
                  refine hK.out _ _ ⟨(blk_cell BK1.out 0).trans rfl, (blk_cell BK1.out 1).trans rfl, (blk_cell BK2.out 0).trans rfl, (blk_cell BK2.out 1).trans rfl⟩ (fun hHeld => ?_)
                  clear hK K
                  refine norm_ (a' := ?_) ?_ ?_
                  rotate_left
                  · show Act.put _ (some 8) _ = _
                    simp only [Act.put, List.setIfInBounds_toArray, List.set_cons_zero, List.set_cons_succ, i64_w, i32_w]
                    rfl
                  exact norm_ (by first | (simp only [putAll, Act.put, List.setIfInBounds_toArray, List.set_cons_zero, List.set_cons_succ]; done) | (simp only [putAll, Act.put, List.setIfInBounds_toArray, List.set_cons_zero, List.set_cons_succ]; rfl)) (hJ2 (B9, d9, gb3) _ ⟨lo9, hi9, gb3.succ, HO9, BK1, BK2, BK3, HB, HT, GE3, ⟨by have hn_ := HN.out; (try dsimp only); omega⟩⟩)
              · skip
                refine box_step (by rfl) (N := 8) rfl (cs := #[.slice none 0 0, .bool false]) (t := 40) ?hr ?_
                (case hr => first | (go_simp; done) | (go_simp; rfl))
                intro gb3 hg W17 hbox hb
                have nn : gb2.succ ≤ gb3 := Nat.le_trans HT.out (Nat.le_of_eq hg.symm)
                have GE3 := Aside0.mk (Nat.le_trans (below_size HB.out) (Nat.le_of_eq hg.symm))
                replace BK1 := Aside0.mk (blk_below (g := gb1) (o := .cells #[.int .i64 a0_0, .int .i64 a0_1] 29 (0, 0)) BK1.out hb)
                replace BK2 := Aside0.mk (blk_below (g := gb2) (o := .cells #[.slice A1_0 l1_0.length c1_0, .bool a1_1] 37 (0, 0)) BK2.out hb)
                replace HB := Aside0.mk (below_step HB.out hb)
                replace HT := Aside0.mk (Nat.le_trans HT.out hb.size)
                have BK3 := Aside0.mk hbox
                replace HT := Aside0.mk (Nat.succ_le_of_lt (blk_lt hbox))
                replace HN := Aside0.mk (And.intro nn HN.out)
                clear hg hbox hb nn
                refine hK.out _ _ ⟨(blk_cell BK1.out 0).trans rfl, (blk_cell BK1.out 1).trans rfl, (blk_cell BK2.out 0).trans rfl, (blk_cell BK2.out 1).trans rfl⟩ (fun hHeld => ?_)
                clear hK K
                refine norm_ (a' := ?_) ?_ ?_
                rotate_left
                · show Act.put _ (some 8) _ = _
                  simp only [Act.put, List.setIfInBounds_toArray, List.set_cons_zero, List.set_cons_succ, i64_w, i32_w]
                  rfl
                exact norm_ (by first | (simp only [putAll, Act.put, List.setIfInBounds_toArray, List.set_cons_zero, List.set_cons_succ]; done) | (simp only [putAll, Act.put, List.setIfInBounds_toArray, List.set_cons_zero, List.set_cons_succ]; rfl)) (hJ1 (gb3) _ ⟨gb3.succ, BK1, BK2, BK3, HB, HT, GE3, ⟨by have hn_ := HN.out; (try dsimp only); omega⟩⟩)
            · skip
              refine box_step (by rfl) (N := 8) rfl (cs := #[.slice none 0 0, .bool false]) (t := 40) ?hr ?_
              (case hr => first | (go_simp; done) | (go_simp; rfl))
              intro gb3 hg W18 hbox hb
              have nn : gb2.succ ≤ gb3 := Nat.le_trans HT.out (Nat.le_of_eq hg.symm)
              have GE3 := Aside0.mk (Nat.le_trans (below_size HB.out) (Nat.le_of_eq hg.symm))
              replace BK1 := Aside0.mk (blk_below (g := gb1) (o := .cells #[.int .i64 a0_0, .int .i64 a0_1] 29 (0, 0)) BK1.out hb)
              replace BK2 := Aside0.mk (blk_below (g := gb2) (o := .cells #[.slice A1_0 l1_0.length c1_0, .bool a1_1] 37 (0, 0)) BK2.out hb)
              replace HB := Aside0.mk (below_step HB.out hb)
              replace HT := Aside0.mk (Nat.le_trans HT.out hb.size)
              have BK3 := Aside0.mk hbox
              replace HT := Aside0.mk (Nat.succ_le_of_lt (blk_lt hbox))
              replace HN := Aside0.mk (And.intro nn HN.out)
              clear hg hbox hb nn
              refine hK.out _ _ ⟨(blk_cell BK1.out 0).trans rfl, (blk_cell BK1.out 1).trans rfl, (blk_cell BK2.out 0).trans rfl, (blk_cell BK2.out 1).trans rfl⟩ (fun hHeld => ?_)
              clear hK K
              refine norm_ (a' := ?_) ?_ ?_
              rotate_left
              · show Act.put _ (some 8) _ = _
                simp only [Act.put, List.setIfInBounds_toArray, List.set_cons_zero, List.set_cons_succ, i64_w, i32_w]
                rfl
              exact norm_ (by first | (simp only [putAll, Act.put, List.setIfInBounds_toArray, List.set_cons_zero, List.set_cons_succ]; done) | (simp only [putAll, Act.put, List.setIfInBounds_toArray, List.set_cons_zero, List.set_cons_succ]; rfl)) (hJ0 (gb3) _ ⟨gb3.succ, BK1, BK2, BK3, HB, HT, GE3, ⟨by have hn_ := HN.out; (try dsimp only); omega⟩⟩)
          · skip
            clear BK1 BK2 HB HT
            (try clear hHeld)
            intro s_ W19 hF
            obtain ⟨gb3, hs_⟩ : ∃ x, x = s_ := ⟨_, rfl⟩
            subst hs_
            (try dsimp only at hF)
            obtain ⟨T0_, BK1, BK2, BK3, HB, HT, GE3, nn_⟩ := hF
            replace HN := Aside0.mk (And.intro nn_.out HN.out)
            clear nn_
            refine norm_ (a' := ?_) ?_ ?_
            rotate_left
            · simp only [putAll, Act.put, List.setIfInBounds_toArray, List.set_cons_zero, List.set_cons_succ]
              rfl
            refine one_ (i := 1) (N := some 29) #[true, true, true, false, true, false, false, false, false, false, true, false, false] rfl rfl (by kernel_rfl) (by decide) (fun K hK => ?_)
            refine goes_ Try.func12 (by kernel_rfl) rfl #[.agg #[.int .i64 a0_0, .int .i64 a0_1]] (by rfl) rfl rfl (by (try simp only [List.map_toArray, List.map_cons, List.map_nil]); first | done | rfl) ?_
            with_reducible refine (laws_toCompany.calls a0_0 a0_1 t4 t5 _  A3.out).mono ?_
            rintro e W20 ⟨rfl, hb⟩
            refine ⟨_, rfl, ?_⟩
            replace BK1 := Aside0.mk (blk_below (g := gb1) (o := .cells #[.int .i64 a0_0, .int .i64 a0_1] 29 (0, 0)) BK1.out hb)
            replace BK2 := Aside0.mk (blk_below (g := gb2) (o := .cells #[.slice A1_0 l1_0.length c1_0, .bool a1_1] 37 (0, 0)) BK2.out hb)
            replace BK3 := Aside0.mk (blk_below (g := gb3) (o := .cells #[.slice none 0 0, .bool false] 40 (0, 0)) BK3.out hb)
            replace HB := Aside0.mk (below_step HB.out hb)
            replace HT := Aside0.mk (Nat.le_trans HT.out hb.size)
            clear hb
            refine hK.out _ _ ⟨(blk_cell BK1.out 0).trans rfl, (blk_cell BK1.out 1).trans rfl, (blk_cell BK2.out 0).trans rfl, (blk_cell BK2.out 1).trans rfl⟩ (fun hHeld => ?_)
            clear hK K
            refine norm_ (a' := ?_) ?_ ?_
            rotate_left
            · show Act.put _ (some 29) _ = _
              simp only [Act.put, List.setIfInBounds_toArray, List.set_cons_zero, List.set_cons_succ, i64_w, i32_w]
              rfl
            exact norm_ (by first | (simp only [putAll, Act.put, List.setIfInBounds_toArray, List.set_cons_zero, List.set_cons_succ]; done) | (simp only [putAll, Act.put, List.setIfInBounds_toArray, List.set_cons_zero, List.set_cons_succ]; rfl)) (hJ1 (gb3) _ ⟨T0_, BK1, BK2, BK3, HB, HT, GE3, ⟨by have hn_ := HN.out; (try dsimp only); omega⟩⟩)
        · skip
          clear BK1 BK2 HB HT
          (try clear hHeld)
          intro s_ W21 hF
          obtain ⟨gb3, hs_⟩ : ∃ x, x = s_ := ⟨_, rfl⟩
          subst hs_
          (try dsimp only at hF)
          obtain ⟨T1_, BK1, BK2, BK3, HB, HT, GE3, nn_⟩ := hF
          replace HN := Aside0.mk (And.intro nn_.out HN.out)
          clear nn_
          refine norm_ (a' := ?_) ?_ ?_
          rotate_left
          · simp only [putAll, Act.put, List.setIfInBounds_toArray, List.set_cons_zero, List.set_cons_succ]
            rfl
          refine one_ (i := 3) (N := some 31) #[true, true, true, true, true, false, false, false, false, false, true, false, false] rfl rfl (by kernel_rfl) (by decide) (fun K hK => ?_)
          refine goes_ Try.func16 (by kernel_rfl) rfl #[.agg #[.slice A1_0 l1_0.length c1_0, .bool a1_1]] (by rfl) rfl rfl (by (try simp only [List.map_toArray, List.map_cons, List.map_nil]); first | done | rfl) ?_
          with_reducible refine (laws_toState.calls k _ _ l1_0 a1_1 t7 t8 _ (Kd.C_below HR1_0.out HB.out) HC1_0.out A6.out).mono ?_
          rintro e W22 ⟨v9, rfl, ho9, hb⟩
          refine ⟨_, rfl, ?_⟩
          obtain ⟨B9, d9, e_⟩ := Kd.R_slice ho9
          subst e_
          obtain ⟨lo9, hi9, nn, ht_, hO9⟩ := laws_FnExactRowBoat.newR ho9 HT.out (below_size HB.out) hb.size
          replace BK1 := Aside0.mk (blk_below (g := gb1) (o := .cells #[.int .i64 a0_0, .int .i64 a0_1] 29 (0, 0)) BK1.out hb)
          replace BK2 := Aside0.mk (blk_below (g := gb2) (o := .cells #[.slice A1_0 l1_0.length c1_0, .bool a1_1] 37 (0, 0)) BK2.out hb)
          replace BK3 := Aside0.mk (blk_below (g := gb3) (o := .cells #[.slice none 0 0, .bool false] 40 (0, 0)) BK3.out hb)
          replace HB := Aside0.mk (below_step HB.out hb)
          replace HT := Aside0.mk (Nat.le_trans HT.out hb.size)
          have HO9 := Aside0.mk hO9
          replace HT := Aside0.mk ht_
          replace HN := Aside0.mk (And.intro nn HN.out)
          clear ho9 hO9 nn ht_
          clear hb
          refine hK.out _ _ ⟨(blk_cell BK1.out 0).trans rfl, (blk_cell BK1.out 1).trans rfl, (blk_cell BK2.out 0).trans rfl, (blk_cell BK2.out 1).trans rfl⟩ (fun hHeld => ?_)
          clear hK K
          refine norm_ (a' := ?_) ?_ ?_
          rotate_left
          · show Act.put _ (some 31) _ = _
            simp only [Act.put, List.setIfInBounds_toArray, List.set_cons_zero, List.set_cons_succ, i64_w, i32_w]
            rfl
          exact norm_ (by first | (simp only [putAll, Act.put, List.setIfInBounds_toArray, List.set_cons_zero, List.set_cons_succ]; done) | (simp only [putAll, Act.put, List.setIfInBounds_toArray, List.set_cons_zero, List.set_cons_succ]; rfl)) (hJ2 (B9, d9, gb3) _ ⟨lo9, hi9, hi9, HO9, BK1, BK2, BK3, HB, HT, GE3, ⟨by have hn_ := HN.out; (try dsimp only); omega⟩⟩)
      · skip
        clear BK1 BK2 HB HT
        (try clear hHeld)
        intro s_ W23 hF
        obtain ⟨B9, d9, gb3⟩ := s_
        (try dsimp only at hF)
        obtain ⟨lo9, hi9, T2_, HO9, BK1, BK2, BK3, HB, HT, GE3, nn_⟩ := hF
        replace HN := Aside0.mk (And.intro nn_.out HN.out)
        clear nn_
        refine norm_ (a' := ?_) ?_ ?_
        rotate_left
        · simp only [putAll, Act.put, List.setIfInBounds_toArray, List.set_cons_zero, List.set_cons_succ]
          rfl
        refine one_ (i := 5) (N := some 33) #[true, true, true, true, true, true, false, false, false, false, true, false, false] rfl rfl (by kernel_rfl) (by decide) (fun K hK => ?_)
        refine goes_ Try.func8 (by kernel_rfl) rfl #[.slice A2 l2.length c2] (by rfl) rfl rfl (by (try simp only [List.map_toArray, List.map_cons, List.map_nil]); first | done | rfl) ?_
        with_reducible refine (laws_toIntS.calls k _ _ l2 t11 _ (Kd.C_below HR2.out HB.out) HC2.out A10.out).mono ?_
        rintro e W24 ⟨v12, rfl, ho12, hb⟩
        refine ⟨_, rfl, ?_⟩
        obtain ⟨B12, d12, e_⟩ := Kd.R_slice ho12
        subst e_
        obtain ⟨lo12, hi12, nn, ht_, hO12⟩ := laws_FnExactRowBoat.newR ho12 HT.out (below_size HB.out) hb.size
        replace HO9 := Aside0.mk (Kd.R_below HO9.out hb)
        replace BK1 := Aside0.mk (blk_below (g := gb1) (o := .cells #[.int .i64 a0_0, .int .i64 a0_1] 29 (0, 0)) BK1.out hb)
        replace BK2 := Aside0.mk (blk_below (g := gb2) (o := .cells #[.slice A1_0 l1_0.length c1_0, .bool a1_1] 37 (0, 0)) BK2.out hb)
        replace BK3 := Aside0.mk (blk_below (g := gb3) (o := .cells #[.slice none 0 0, .bool false] 40 (0, 0)) BK3.out hb)
        replace HB := Aside0.mk (below_step HB.out hb)
        replace HT := Aside0.mk (Nat.le_trans HT.out hb.size)
        have HO12 := Aside0.mk hO12
        replace HT := Aside0.mk ht_
        replace HN := Aside0.mk (And.intro nn HN.out)
        clear ho12 hO12 nn ht_
        clear hb
        refine hK.out _ _ ⟨(blk_cell BK1.out 0).trans rfl, (blk_cell BK1.out 1).trans rfl, (blk_cell BK2.out 0).trans rfl, (blk_cell BK2.out 1).trans rfl⟩ (fun hHeld => ?_)
        clear hK K
        refine norm_ (a' := ?_) ?_ ?_
        rotate_left
        · show Act.put _ (some 33) _ = _
          simp only [Act.put, List.setIfInBounds_toArray, List.set_cons_zero, List.set_cons_succ, i64_w, i32_w]
          rfl
        exact norm_ (by first | (simp only [putAll, Act.put, List.setIfInBounds_toArray, List.set_cons_zero, List.set_cons_succ]; done) | (simp only [putAll, Act.put, List.setIfInBounds_toArray, List.set_cons_zero, List.set_cons_succ]; rfl)) (hJ3 (B9, d9, B12, d12, gb3) _ ⟨lo9, hi9, lo12, hi12, hi12, HO9, HO12, BK1, BK2, BK3, HB, HT, GE3, ⟨by have hn_ := HN.out; (try dsimp only); omega⟩⟩)
    · skip
      clear BK1 BK2 HB HT
      (try clear hHeld)
      intro s_ W25 hF
      obtain ⟨B9, d9, B12, d12, gb3⟩ := s_
      (try dsimp only at hF)
      obtain ⟨lo9, hi9, lo12, hi12, T3_, HO9, HO12, BK1, BK2, BK3, HB, HT, GE3, nn_⟩ := hF
      replace HN := Aside0.mk (And.intro nn_.out HN.out)
      clear nn_
      refine norm_ (a' := ?_) ?_ ?_
      rotate_left
      · simp only [putAll, Act.put, List.setIfInBounds_toArray, List.set_cons_zero, List.set_cons_succ]
        rfl
      refine one_ (i := 6) (N := some 34) #[true, true, true, true, true, true, true, false, false, false, true, false, false] rfl rfl (by kernel_rfl) (by decide) (fun K hK => ?_)
      refine goes_ Try.func19 (by kernel_rfl) rfl #[.agg #[.int .i64 t4, .int .i64 t5], .agg #[.slice B9 t7.length d9, .bool t8], .slice B12 t11.length d12] (by rfl) rfl rfl (by (try simp only [List.map_toArray, List.map_cons, List.map_nil]); first | done | rfl) ?_
      with_reducible refine (spec_RowBoat.calls k t4 t5 _ _ t7 t8 _ _ t11 t14 t15 t16 _ (Kd.R_reads' HO9.out).2.2 (Kd.R_reads' HO9.out).2.1 (Kd.R_reads' HO12.out).2.2 (Kd.R_reads' HO12.out).2.1 A13.out).mono ?_
      rintro e W26 ⟨v17, rfl, ho17, hb⟩
      refine ⟨_, rfl, ?_⟩
      obtain ⟨B17, d17, e_⟩ := Kd.R_slice ho17
      subst e_
      obtain ⟨lo17, hi17, nn, ht_, hO17⟩ := laws_FnExactRowBoat.newR ho17 HT.out (below_size HB.out) hb.size
      replace HO9 := Aside0.mk (Kd.R_below HO9.out hb)
      replace HO12 := Aside0.mk (Kd.R_below HO12.out hb)
      replace BK1 := Aside0.mk (blk_below (g := gb1) (o := .cells #[.int .i64 a0_0, .int .i64 a0_1] 29 (0, 0)) BK1.out hb)
      replace BK2 := Aside0.mk (blk_below (g := gb2) (o := .cells #[.slice A1_0 l1_0.length c1_0, .bool a1_1] 37 (0, 0)) BK2.out hb)
      replace BK3 := Aside0.mk (blk_below (g := gb3) (o := .cells #[.slice none 0 0, .bool false] 40 (0, 0)) BK3.out hb)
      replace HB := Aside0.mk (below_step HB.out hb)
      replace HT := Aside0.mk (Nat.le_trans HT.out hb.size)
      have HO17 := Aside0.mk hO17
      replace HT := Aside0.mk ht_
      replace HN := Aside0.mk (And.intro nn HN.out)
      clear ho17 hO17 nn ht_
      clear hb
      clear HO9 HO12
      refine hK.out _ _ ⟨(blk_cell BK1.out 0).trans rfl, (blk_cell BK1.out 1).trans rfl, (blk_cell BK2.out 0).trans rfl, (blk_cell BK2.out 1).trans rfl⟩ (fun hHeld => ?_)
      clear hK K
      refine norm_ (a' := ?_) ?_ ?_
      rotate_left
      · show Act.put _ (some 34) _ = _
        simp only [Act.put, List.setIfInBounds_toArray, List.set_cons_zero, List.set_cons_succ, i64_w, i32_w]
        rfl
      refine pure_ (i := 7) (N := some 27) (v := ?_) (a' := ?_) #[true, true, true, true, true, true, true, true, false, false, true, false, false] rfl rfl (by kernel_rfl) (fun _ _ _ h => h) (Or.inl ⟨by rfl, ?_⟩) ?_ ?_
      rotate_left
      · intro w'
        go_simp
        with_reducible rfl
      rotate_left
      · simp only [Act.put, List.setIfInBounds_toArray, List.set_cons_zero, List.set_cons_succ, i64_w, i32_w]
        rfl
      refine pure_ (i := 8) (N := some 35) (v := ?_) (a' := ?_) #[true, true, true, true, true, true, true, true, true, false, true, false, false] rfl rfl (by kernel_rfl) (fun _ _ _ h => h) (Or.inl ⟨by rfl, ?_⟩) ?_ ?_
      rotate_left
      · intro w'
        go_simp
        with_reducible rfl
      rotate_left
      · simp only [Act.put, List.setIfInBounds_toArray, List.set_cons_zero, List.set_cons_succ, i64_w, i32_w]
        rfl
      refine pure_ (i := 9) (N := some 36) (v := ?_) (a' := ?_) #[true, true, true, true, true, true, true, true, true, true, true, false, false] rfl rfl (by kernel_rfl) (fun _ _ _ h => h) (Or.inl ⟨by rfl, ?_⟩) ?_ ?_
      rotate_left
      · intro w'
        go_simp
        with_reducible rfl
      rotate_left
      · simp only [Act.put, List.setIfInBounds_toArray, List.set_cons_zero, List.set_cons_succ, i64_w, i32_w]
        rfl
      exact norm_ (by first | (simp only [putAll, Act.put, List.setIfInBounds_toArray, List.set_cons_zero, List.set_cons_succ]; done) | (simp only [putAll, Act.put, List.setIfInBounds_toArray, List.set_cons_zero, List.set_cons_succ]; rfl)) (hJ4 (B9, d9, B12, d12, B17, d17, gb3) _ ⟨lo17, hi17, hi17, HO17, BK1, BK2, BK3, HB, HT, GE3, ⟨by have hn_ := HN.out; (try dsimp only); omega⟩⟩)
  clear BK1 BK2 HB HT
  (try clear hHeld)
  intro s_ W27 hF
  obtain ⟨B9, d9, B12, d12, B17, d17, gb3⟩ := s_
  (try dsimp only at hF)
  obtain ⟨lo17, hi17, T4_, HO17, BK1, BK2, BK3, HB, HT, GE3, nn_⟩ := hF
  replace HN := Aside0.mk (And.intro nn_.out HN.out)
  clear nn_
  refine norm_ (a' := ?_) ?_ ?_
  rotate_left
  · simp only [putAll, Act.put, List.setIfInBounds_toArray, List.set_cons_zero, List.set_cons_succ]
    rfl
  refine one_ (i := 11) (N := none) #[true, true, true, true, true, true, true, true, true, true, true, true, false] rfl rfl (by kernel_rfl) (by decide) (fun K hK => ?_)
  refine laws_FnExactRowBoat.storeK (by rfl) rfl rfl gb3 40 #[.slice none 0 0, .bool false] (.agg #[.slice B17 t14.length d17, .bool t15]) [.slice B17 t14.length d17, .bool t15] rfl rfl BK3.out rfl (by kernel_rfl) rfl (by intro q_ hq_; simp only [List.mem_cons, List.not_mem_nil, or_false] at hq_; rcases hq_ with rfl | rfl <;> rfl) ?_
  intro W28 hbx hg
  replace HO17 := Aside0.mk (laws_FnExactRowBoat.grownR HO17.out hg (by have hn_ := HN.out; omega))
  replace BK1 := Aside0.mk (laws_FnExactRowBoat.grownB BK1.out hg (by have hn_ := HN.out; omega))
  replace BK2 := Aside0.mk (laws_FnExactRowBoat.grownB BK2.out hg (by have hn_ := HN.out; omega))
  replace HB := Aside0.mk (Below.grown HB.out hg (below_size HB.out) (fun k_ hk_ => by injection hk_ with hk_; subst hk_; exact GE3.out))
  replace HT := Aside0.mk (Nat.le_trans HT.out hg.size)
  replace BK3 := Aside0.mk hbx
  clear hbx hg
  refine hK.out _ _ ⟨(blk_cell BK1.out 0).trans rfl, (blk_cell BK1.out 1).trans rfl, (blk_cell BK2.out 0).trans rfl, (blk_cell BK2.out 1).trans rfl⟩ (fun hHeld => ?_)
  clear hK K
  refine pure_ (i := 12) (N := some 9) (v := ?_) (a' := ?_) #[true, true, true, true, true, true, true, true, true, true, true, true, true] rfl rfl (by kernel_rfl) (fun _ _ _ h => h) (Or.inl ⟨by rfl, ?_⟩) ?_ ?_
  rotate_left
  · intro w'
    go_simp
    with_reducible rfl
  rotate_left
  · simp only [Act.put, List.setIfInBounds_toArray, List.set_cons_zero, List.set_cons_succ, i64_w, i32_w]
    rfl
  refine done_ (by kernel_rfl) ?_
  have cz2_0 : W28.cell? ⟨gb2, 0, none⟩ = some (.slice A1_0 l1_0.length c1_0) := (blk_cell BK2.out 0).trans rfl
  have cz2_1 : W28.cell? ⟨gb2, 1, none⟩ = some (.bool a1_1) := (blk_cell BK2.out 1).trans rfl
  try go_wp2_with (first | ((with_reducible refine gate_dst (N := 38) rfl ?_); refine goesL_ (some 38) rfl rfl Try.func16 (by kernel_rfl) rfl #[.agg #[.slice A1_0 l1_0.length c1_0, .bool a1_1]] rfl (by (try simp only [List.map_toArray, List.map_cons, List.map_nil]); first | done | rfl) ?_; (with_reducible refine (laws_toState.calls k _ _ l1_0 a1_1 t19 t20 _ (Kd.C_below HR1_0.out HB.out) HC1_0.out A18.out).mono ?_); rintro e W29 ⟨v21, rfl, ho21, hb⟩; refine ⟨_, rfl, ?_⟩; obtain ⟨B21, d21, e_⟩ := Kd.R_slice ho21; subst e_; obtain ⟨lo21, hi21, nn, ht_, hO21⟩ := laws_FnExactRowBoat.newR ho21 HT.out (below_size HB.out) hb.size; replace HO17 := Aside0.mk (Kd.R_below HO17.out hb); replace BK1 := Aside0.mk (blk_below (g := gb1) (o := .cells #[.int .i64 a0_0, .int .i64 a0_1] 29 (0, 0)) BK1.out hb); replace BK2 := Aside0.mk (blk_below (g := gb2) (o := .cells #[.slice A1_0 l1_0.length c1_0, .bool a1_1] 37 (0, 0)) BK2.out hb); replace BK3 := Aside0.mk (blk_below (g := gb3) (o := .cells #[.slice B17 t14.length d17, .bool t15] 40 (0, 0)) BK3.out hb); replace HB := Aside0.mk (below_step HB.out hb); replace HT := Aside0.mk (Nat.le_trans HT.out hb.size); have HO21 := Aside0.mk hO21; replace HT := Aside0.mk ht_; replace HN := Aside0.mk (And.intro nn HN.out); clear ho21 hO21 nn ht_; clear hb; (try clear cz2_0 cz2_1)) | ((with_reducible refine gate_dst (N := 10) rfl ?_); refine box_event ?hg (N := 10) ?hd (cs := #[.slice none 0 0, .bool false]) (t := 40) ?hr ?_; (case hd => rfl); (case hg => rfl); (case hr => first | (go_simp; done) | (go_simp; rfl)); intro gb4 hg W30 hbox hb; have nn : hi21 ≤ gb4 := Nat.le_trans HT.out (Nat.le_of_eq hg.symm); have GE4 := Aside0.mk (Nat.le_trans (below_size HB.out) (Nat.le_of_eq hg.symm)); replace HO17 := Aside0.mk (Kd.R_below HO17.out hb); replace HO21 := Aside0.mk (Kd.R_below HO21.out hb); replace BK1 := Aside0.mk (blk_below (g := gb1) (o := .cells #[.int .i64 a0_0, .int .i64 a0_1] 29 (0, 0)) BK1.out hb); replace BK2 := Aside0.mk (blk_below (g := gb2) (o := .cells #[.slice A1_0 l1_0.length c1_0, .bool a1_1] 37 (0, 0)) BK2.out hb); replace BK3 := Aside0.mk (blk_below (g := gb3) (o := .cells #[.slice B17 t14.length d17, .bool t15] 40 (0, 0)) BK3.out hb); replace HB := Aside0.mk (below_step HB.out hb); replace HT := Aside0.mk (Nat.le_trans HT.out hb.size); have BK4 := Aside0.mk hbox; replace HT := Aside0.mk (Nat.succ_le_of_lt (blk_lt hbox)); replace HN := Aside0.mk (And.intro nn HN.out); clear hg hbox hb nn) | ((with_reducible refine gate_store (t := 40) (p := 10) rfl ?_); refine laws_FnExactRowBoat.store rfl rfl rfl gb4 40 #[.slice none 0 0, .bool false] (.agg #[.slice B21 t19.length d21, .bool t20]) [.slice B21 t19.length d21, .bool t20] rfl rfl BK4.out rfl (by kernel_rfl) rfl (by intro q_ hq_; simp only [List.mem_cons, List.not_mem_nil, or_false] at hq_; rcases hq_ with rfl | rfl <;> rfl) ?_; intro W31 hbx hg; replace HO17 := Aside0.mk (laws_FnExactRowBoat.grownR HO17.out hg (by have hn_ := HN.out; omega)); replace HO21 := Aside0.mk (laws_FnExactRowBoat.grownR HO21.out hg (by have hn_ := HN.out; omega)); replace BK1 := Aside0.mk (laws_FnExactRowBoat.grownB BK1.out hg (by have hn_ := HN.out; omega)); replace BK2 := Aside0.mk (laws_FnExactRowBoat.grownB BK2.out hg (by have hn_ := HN.out; omega)); replace BK3 := Aside0.mk (laws_FnExactRowBoat.grownB BK3.out hg (by have hn_ := HN.out; omega)); replace HB := Aside0.mk (Below.grown HB.out hg (below_size HB.out) (fun k_ hk_ => by injection hk_ with hk_; subst hk_; exact GE4.out)); replace HT := Aside0.mk (Nat.le_trans HT.out hg.size); replace BK4 := Aside0.mk hbx; clear hbx hg) | ((with_reducible refine gate_dst (N := 40) rfl ?_); refine goesL_ (some 40) rfl rfl Try.func8 (by kernel_rfl) rfl #[.slice A2 l2.length c2] rfl (by (try simp only [List.map_toArray, List.map_cons, List.map_nil]); first | done | rfl) ?_; (with_reducible refine (laws_toIntS.calls k _ _ l2 t23 _ (Kd.C_below HR2.out HB.out) HC2.out A22.out).mono ?_); rintro e W32 ⟨v24, rfl, ho24, hb⟩; refine ⟨_, rfl, ?_⟩; obtain ⟨B24, d24, e_⟩ := Kd.R_slice ho24; subst e_; obtain ⟨lo24, hi24, nn, ht_, hO24⟩ := laws_FnExactRowBoat.newR ho24 HT.out (below_size HB.out) hb.size; replace HO17 := Aside0.mk (Kd.R_below HO17.out hb); replace HO21 := Aside0.mk (Kd.R_below HO21.out hb); replace BK1 := Aside0.mk (blk_below (g := gb1) (o := .cells #[.int .i64 a0_0, .int .i64 a0_1] 29 (0, 0)) BK1.out hb); replace BK2 := Aside0.mk (blk_below (g := gb2) (o := .cells #[.slice A1_0 l1_0.length c1_0, .bool a1_1] 37 (0, 0)) BK2.out hb); replace BK3 := Aside0.mk (blk_below (g := gb3) (o := .cells #[.slice B17 t14.length d17, .bool t15] 40 (0, 0)) BK3.out hb); replace BK4 := Aside0.mk (blk_below (g := gb4) (o := .cells #[.slice B21 t19.length d21, .bool t20] 40 (0, 0)) BK4.out hb); replace HB := Aside0.mk (below_step HB.out hb); replace HT := Aside0.mk (Nat.le_trans HT.out hb.size); have HO24 := Aside0.mk hO24; replace HT := Aside0.mk ht_; replace HN := Aside0.mk (And.intro nn HN.out); clear ho24 hO24 nn ht_; clear hb))
  have hb : Below W32.heap.size W32 W32.drew := below_drew (Below.refl _ _)
  replace HO17 := Aside0.mk (Kd.R_below HO17.out hb)
  replace HO21 := Aside0.mk (Kd.R_below HO21.out hb)
  replace HO24 := Aside0.mk (Kd.R_below HO24.out hb)
  replace BK1 := Aside0.mk (blk_below (g := gb1) (o := .cells #[.int .i64 a0_0, .int .i64 a0_1] 29 (0, 0)) BK1.out hb)
  replace BK2 := Aside0.mk (blk_below (g := gb2) (o := .cells #[.slice A1_0 l1_0.length c1_0, .bool a1_1] 37 (0, 0)) BK2.out hb)
  replace BK3 := Aside0.mk (blk_below (g := gb3) (o := .cells #[.slice B17 t14.length d17, .bool t15] 40 (0, 0)) BK3.out hb)
  replace BK4 := Aside0.mk (blk_below (g := gb4) (o := .cells #[.slice B21 t19.length d21, .bool t20] 40 (0, 0)) BK4.out hb)
  replace HB := Aside0.mk (below_step HB.out hb)
  replace HT := Aside0.mk (Nat.le_trans HT.out hb.size)
  clear hb
  refine start_ (n := 11) (S := fun w' => w'.cell? ⟨gb1, 0, none⟩ = some (.int .i64 a0_0) ∧ w'.cell? ⟨gb1, 1, none⟩ = some (.int .i64 a0_1) ∧ w'.cell? ⟨gb4, 0, none⟩ = some (.slice B21 t19.length d21) ∧ w'.cell? ⟨gb4, 1, none⟩ = some (.bool t20)) (ds := []) #[false, false, false, false, false, false, false, false, false, false, false] (by kernel_rfl) rfl rfl ⟨(blk_cell BK1.out 0).trans rfl, (blk_cell BK1.out 1).trans rfl, (blk_cell BK4.out 0).trans rfl, (blk_cell BK4.out 1).trans rfl⟩ (fun hHeld => ?_)
  generalize W32.drew = W33 at HO17 HO21 HO24 BK1 BK2 BK3 BK4 HB HT hHeld ⊢
  refine take_ (i := 0) (N := some 42) (v := ?_) (a' := ?_) #[true, false, false, false, false, false, false, false, false, false, false] rfl rfl (by kernel_rfl) (fun _ _ _ h => h) (Or.inl ⟨by rfl, ?_⟩) hHeld ?_ ?_
  rotate_left
  · rintro w' ⟨s0, s1, s2, s3⟩
    go_simp
    with_reducible rfl
  rotate_left
  · simp only [Act.put, List.setIfInBounds_toArray, List.set_cons_zero, List.set_cons_succ, i64_w, i32_w]
    rfl
  refine take_ (i := 2) (N := some 44) (v := ?_) (a' := ?_) #[true, false, true, false, false, false, false, false, false, false, false] rfl rfl (by kernel_rfl) (fun _ _ _ h => h) (Or.inl ⟨by rfl, ?_⟩) hHeld ?_ ?_
  rotate_left
  · rintro w' ⟨s0, s1, s2, s3⟩
    go_simp
    with_reducible rfl
  rotate_left
  · simp only [Act.put, List.setIfInBounds_toArray, List.set_cons_zero, List.set_cons_succ, i64_w, i32_w]
    rfl
  refine pure_ (i := 3) (N := some 45) (v := ?_) (a' := ?_) #[true, false, true, true, false, false, false, false, false, false, false] rfl rfl (by kernel_rfl) (fun _ _ _ h => h) (Or.inl ⟨by rfl, ?_⟩) ?_ ?_
  rotate_left
  · intro w'
    go_simp
    with_reducible rfl
  rotate_left
  · simp only [Act.put, List.setIfInBounds_toArray, List.set_cons_zero, List.set_cons_succ, i64_w, i32_w]
    rfl
  refine join_ (σ := Option Addr × Nat × Nat) 2 #[true, true, true, true, true, true, true, true, true, false, false] (fun s => [(43, .agg #[.int .i64 t26, .int .i64 t27]), (46, .tuple #[.agg #[.slice s.1 t29.length s.2.1, .bool t30], .bool t31]), (41, .tuple #[.agg #[.slice s.1 t29.length s.2.1, .bool t30], .bool t31]), (47, .agg #[.slice s.1 t29.length s.2.1, .bool t30]), (48, .bool t31), (12, .pointer (some ⟨s.2.2, 0, none⟩))]) (fun s w' => ∃ lo32 hi32 T_ : Nat, Aside0 (Kd.R Kd.bool 4 w' w.heap.size (fun k_ => lo17 ≤ k_ ∧ k_ < hi17) (.slice B17 t14.length d17) t14) ∧ Aside0 (Kd.R Kd.bool 4 w' w.heap.size (fun k_ => lo21 ≤ k_ ∧ k_ < hi21) (.slice B21 t19.length d21) t19) ∧ Aside0 (Kd.R (Kd.int .i64) 3 w' w.heap.size (fun k_ => lo24 ≤ k_ ∧ k_ < hi24) (.slice B24 t23.length d24) t23) ∧ Aside0 (Kd.R Kd.bool 4 w' w.heap.size (fun k_ => lo32 ≤ k_ ∧ k_ < hi32) (.slice s.1 t29.length s.2.1) t29) ∧ Aside0 (w'.heap[gb1]? = some (.cells #[.int .i64 a0_0, .int .i64 a0_1] 29 (0, 0))) ∧ Aside0 (w'.heap[gb2]? = some (.cells #[.slice A1_0 l1_0.length c1_0, .bool a1_1] 37 (0, 0))) ∧ Aside0 (w'.heap[gb3]? = some (.cells #[.slice B17 t14.length d17, .bool t15] 40 (0, 0))) ∧ Aside0 (w'.heap[gb4]? = some (.cells #[.slice B21 t19.length d21, .bool t20] 40 (0, 0))) ∧ Aside0 (w'.heap[s.2.2]? = some (.cells #[.slice none 0 0, .bool false] 40 (0, 0))) ∧ Aside0 (Below w.heap.size w w') ∧ Aside0 (T_ ≤ w'.heap.size) ∧ Aside0 (w.heap.size ≤ s.2.2) ∧ Aside0 (hi24 ≤ s.2.2 ∧ s.2.2 < T_ ∧ hi24 ≤ lo32 ∧ lo32 ≤ hi32 ∧ hi32 ≤ T_ ∧ (s.2.2 < lo32 ∨ hi32 ≤ s.2.2))) ?_ ?_
  rotate_left
  · intro hJ2
    refine join_ (σ := Nat) 6 #[true, true, true, true, false, false, false, false, true, false, false] (fun s => [(43, .agg #[.int .i64 t26, .int .i64 t27]), (12, .pointer (some ⟨s, 0, none⟩))]) (fun s w' => ∃ T_ : Nat, Aside0 (Kd.R Kd.bool 4 w' w.heap.size (fun k_ => lo17 ≤ k_ ∧ k_ < hi17) (.slice B17 t14.length d17) t14) ∧ Aside0 (Kd.R Kd.bool 4 w' w.heap.size (fun k_ => lo21 ≤ k_ ∧ k_ < hi21) (.slice B21 t19.length d21) t19) ∧ Aside0 (Kd.R (Kd.int .i64) 3 w' w.heap.size (fun k_ => lo24 ≤ k_ ∧ k_ < hi24) (.slice B24 t23.length d24) t23) ∧ Aside0 (w'.heap[gb1]? = some (.cells #[.int .i64 a0_0, .int .i64 a0_1] 29 (0, 0))) ∧ Aside0 (w'.heap[gb2]? = some (.cells #[.slice A1_0 l1_0.length c1_0, .bool a1_1] 37 (0, 0))) ∧ Aside0 (w'.heap[gb3]? = some (.cells #[.slice B17 t14.length d17, .bool t15] 40 (0, 0))) ∧ Aside0 (w'.heap[gb4]? = some (.cells #[.slice B21 t19.length d21, .bool t20] 40 (0, 0))) ∧ Aside0 (w'.heap[s]? = some (.cells #[.slice none 0 0, .bool false] 40 (0, 0))) ∧ Aside0 (Below w.heap.size w w') ∧ Aside0 (T_ ≤ w'.heap.size) ∧ Aside0 (w.heap.size ≤ s) ∧ Aside0 (hi24 ≤ s ∧ s < T_)) ?_ ?_
    rotate_left
    · intro hJ1
      refine join_ (σ := Nat) 7 #[true, false, true, true, false, false, false, false, true, false, false] (fun s => [(12, .pointer (some ⟨s, 0, none⟩))]) (fun s w' => ∃ T_ : Nat, Aside0 (Kd.R Kd.bool 4 w' w.heap.size (fun k_ => lo17 ≤ k_ ∧ k_ < hi17) (.slice B17 t14.length d17) t14) ∧ Aside0 (Kd.R Kd.bool 4 w' w.heap.size (fun k_ => lo21 ≤ k_ ∧ k_ < hi21) (.slice B21 t19.length d21) t19) ∧ Aside0 (Kd.R (Kd.int .i64) 3 w' w.heap.size (fun k_ => lo24 ≤ k_ ∧ k_ < hi24) (.slice B24 t23.length d24) t23) ∧ Aside0 (w'.heap[gb1]? = some (.cells #[.int .i64 a0_0, .int .i64 a0_1] 29 (0, 0))) ∧ Aside0 (w'.heap[gb2]? = some (.cells #[.slice A1_0 l1_0.length c1_0, .bool a1_1] 37 (0, 0))) ∧ Aside0 (w'.heap[gb3]? = some (.cells #[.slice B17 t14.length d17, .bool t15] 40 (0, 0))) ∧ Aside0 (w'.heap[gb4]? = some (.cells #[.slice B21 t19.length d21, .bool t20] 40 (0, 0))) ∧ Aside0 (w'.heap[s]? = some (.cells #[.slice none 0 0, .bool false] 40 (0, 0))) ∧ Aside0 (Below w.heap.size w w') ∧ Aside0 (T_ ≤ w'.heap.size) ∧ Aside0 (w.heap.size ≤ s) ∧ Aside0 (hi24 ≤ s ∧ s < T_)) ?_ ?_
      rotate_left
      · intro hJ0
        refine two_ (i := 1) (j := 8) (Ni := some 43) (Nj := some 12) #[true, true, true, true, false, false, false, false, false, false, false] #[true, false, true, true, false, false, false, false, true, false, false] rfl rfl rfl rfl (by kernel_rfl) (by decide) (by decide) (fun K hK => ?_) (fun K hK => ?_)
        · skip
          refine goes_ Try.func12 (by kernel_rfl) rfl #[.agg #[.int .i64 a0_0, .int .i64 a0_1]] (by rfl) rfl rfl (by (try simp only [List.map_toArray, List.map_cons, List.map_nil]); first | done | rfl) ?_
          with_reducible refine (laws_toCompany.calls a0_0 a0_1 t26 t27 _  A25.out).mono ?_
          rintro e W34 ⟨rfl, hb⟩
          refine ⟨_, rfl, ?_⟩
          replace HO17 := Aside0.mk (Kd.R_below HO17.out hb)
          replace HO21 := Aside0.mk (Kd.R_below HO21.out hb)
          replace HO24 := Aside0.mk (Kd.R_below HO24.out hb)
          replace BK1 := Aside0.mk (blk_below (g := gb1) (o := .cells #[.int .i64 a0_0, .int .i64 a0_1] 29 (0, 0)) BK1.out hb)
          replace BK2 := Aside0.mk (blk_below (g := gb2) (o := .cells #[.slice A1_0 l1_0.length c1_0, .bool a1_1] 37 (0, 0)) BK2.out hb)
          replace BK3 := Aside0.mk (blk_below (g := gb3) (o := .cells #[.slice B17 t14.length d17, .bool t15] 40 (0, 0)) BK3.out hb)
          replace BK4 := Aside0.mk (blk_below (g := gb4) (o := .cells #[.slice B21 t19.length d21, .bool t20] 40 (0, 0)) BK4.out hb)
          replace HB := Aside0.mk (below_step HB.out hb)
          replace HT := Aside0.mk (Nat.le_trans HT.out hb.size)
          clear hb
          refine hK.out _ _ ⟨(blk_cell BK1.out 0).trans rfl, (blk_cell BK1.out 1).trans rfl, (blk_cell BK4.out 0).trans rfl, (blk_cell BK4.out 1).trans rfl⟩ (fun hHeld => ?_)
          clear hK K
          refine norm_ (a' := ?_) ?_ ?_
          rotate_left
          · show Act.put _ (some 43) _ = _
            simp only [Act.put, List.setIfInBounds_toArray, List.set_cons_zero, List.set_cons_succ, i64_w, i32_w]
            rfl
          refine two_ (i := 4) (j := 8) (Ni := some 46) (Nj := some 12) #[true, true, true, true, true, false, false, false, false, false, false] #[true, true, true, true, false, false, false, false, true, false, false] rfl rfl rfl rfl (by kernel_rfl) (by decide) (by decide) (fun K hK => ?_) (fun K hK => ?_)
          · skip
            refine goes_ Try.func20 (by kernel_rfl) rfl #[.agg #[.int .i64 t26, .int .i64 t27], .agg #[.slice B21 t19.length d21, .bool t20], .slice B24 t23.length d24] (by rfl) rfl rfl (by (try simp only [List.map_toArray, List.map_cons, List.map_nil]); first | done | rfl) ?_
            with_reducible refine (impl_RowBoat.calls k t26 t27 _ _ t19 t20 _ _ t23 t29 t30 t31 _ (Kd.R_reads' HO21.out).2.2 (Kd.R_reads' HO21.out).2.1 (Kd.R_reads' HO24.out).2.2 (Kd.R_reads' HO24.out).2.1 A28.out).mono ?_
            rintro e W35 ⟨v32, rfl, ho32, hb⟩
            refine ⟨_, rfl, ?_⟩
            obtain ⟨B32, d32, e_⟩ := Kd.R_slice ho32
            subst e_
            obtain ⟨lo32, hi32, nn, ht_, hO32⟩ := laws_FnExactRowBoat.newR ho32 HT.out (below_size HB.out) hb.size
            replace HO17 := Aside0.mk (Kd.R_below HO17.out hb)
            replace HO21 := Aside0.mk (Kd.R_below HO21.out hb)
            replace HO24 := Aside0.mk (Kd.R_below HO24.out hb)
            replace BK1 := Aside0.mk (blk_below (g := gb1) (o := .cells #[.int .i64 a0_0, .int .i64 a0_1] 29 (0, 0)) BK1.out hb)
            replace BK2 := Aside0.mk (blk_below (g := gb2) (o := .cells #[.slice A1_0 l1_0.length c1_0, .bool a1_1] 37 (0, 0)) BK2.out hb)
            replace BK3 := Aside0.mk (blk_below (g := gb3) (o := .cells #[.slice B17 t14.length d17, .bool t15] 40 (0, 0)) BK3.out hb)
            replace BK4 := Aside0.mk (blk_below (g := gb4) (o := .cells #[.slice B21 t19.length d21, .bool t20] 40 (0, 0)) BK4.out hb)
            replace HB := Aside0.mk (below_step HB.out hb)
            replace HT := Aside0.mk (Nat.le_trans HT.out hb.size)
            have HO32 := Aside0.mk hO32
            replace HT := Aside0.mk ht_
            replace HN := Aside0.mk (And.intro nn HN.out)
            clear ho32 hO32 nn ht_
            clear hb
            refine hK.out _ _ ⟨(blk_cell BK1.out 0).trans rfl, (blk_cell BK1.out 1).trans rfl, (blk_cell BK4.out 0).trans rfl, (blk_cell BK4.out 1).trans rfl⟩ (fun hHeld => ?_)
            clear hK K
            refine norm_ (a' := ?_) ?_ ?_
            rotate_left
            · show Act.put _ (some 46) _ = _
              simp only [Act.put, List.setIfInBounds_toArray, List.set_cons_zero, List.set_cons_succ, i64_w, i32_w]
              rfl
            refine pure_ (i := 5) (N := some 41) (v := ?_) (a' := ?_) #[true, true, true, true, true, true, false, false, false, false, false] rfl rfl (by kernel_rfl) (fun _ _ _ h => h) (Or.inl ⟨by rfl, ?_⟩) ?_ ?_
            rotate_left
            · intro w'
              go_simp
              with_reducible rfl
            rotate_left
            · simp only [Act.put, List.setIfInBounds_toArray, List.set_cons_zero, List.set_cons_succ, i64_w, i32_w]
              rfl
            refine pure_ (i := 6) (N := some 47) (v := ?_) (a' := ?_) #[true, true, true, true, true, true, true, false, false, false, false] rfl rfl (by kernel_rfl) (fun _ _ _ h => h) (Or.inl ⟨by rfl, ?_⟩) ?_ ?_
            rotate_left
            · intro w'
              go_simp
              with_reducible rfl
            rotate_left
            · simp only [Act.put, List.setIfInBounds_toArray, List.set_cons_zero, List.set_cons_succ, i64_w, i32_w]
              rfl
            refine pure_ (i := 7) (N := some 48) (v := ?_) (a' := ?_) #[true, true, true, true, true, true, true, true, false, false, false] rfl rfl (by kernel_rfl) (fun _ _ _ h => h) (Or.inl ⟨by rfl, ?_⟩) ?_ ?_
            rotate_left
            · intro w'
              go_simp
              with_reducible rfl
            rotate_left
            · simp only [Act.put, List.setIfInBounds_toArray, List.set_cons_zero, List.set_cons_succ, i64_w, i32_w]
              rfl
            refine one_ (i := 8) (N := some 12) #[true, true, true, true, true, true, true, true, true, false, false] rfl rfl (by kernel_rfl) (by decide) (fun K hK => ?_)
            refine box_step (by rfl) (N := 12) rfl (cs := #[.slice none 0 0, .bool false]) (t := 40) ?hr ?_
            (case hr => first | (go_simp; done) | (go_simp; rfl))
            intro gb5 hg W36 hbox hb
            have nn : hi32 ≤ gb5 := Nat.le_trans HT.out (Nat.le_of_eq hg.symm)
            have GE5 := Aside0.mk (Nat.le_trans (below_size HB.out) (Nat.le_of_eq hg.symm))
            replace HO17 := Aside0.mk (Kd.R_below HO17.out hb)
            replace HO21 := Aside0.mk (Kd.R_below HO21.out hb)
            replace HO24 := Aside0.mk (Kd.R_below HO24.out hb)
            replace HO32 := Aside0.mk (Kd.R_below HO32.out hb)
            replace BK1 := Aside0.mk (blk_below (g := gb1) (o := .cells #[.int .i64 a0_0, .int .i64 a0_1] 29 (0, 0)) BK1.out hb)
            replace BK2 := Aside0.mk (blk_below (g := gb2) (o := .cells #[.slice A1_0 l1_0.length c1_0, .bool a1_1] 37 (0, 0)) BK2.out hb)
            replace BK3 := Aside0.mk (blk_below (g := gb3) (o := .cells #[.slice B17 t14.length d17, .bool t15] 40 (0, 0)) BK3.out hb)
            replace BK4 := Aside0.mk (blk_below (g := gb4) (o := .cells #[.slice B21 t19.length d21, .bool t20] 40 (0, 0)) BK4.out hb)
            replace HB := Aside0.mk (below_step HB.out hb)
            replace HT := Aside0.mk (Nat.le_trans HT.out hb.size)
            have BK5 := Aside0.mk hbox
            replace HT := Aside0.mk (Nat.succ_le_of_lt (blk_lt hbox))
            replace HN := Aside0.mk (And.intro nn HN.out)
            clear hg hbox hb nn
            refine hK.out _ _ ⟨(blk_cell BK1.out 0).trans rfl, (blk_cell BK1.out 1).trans rfl, (blk_cell BK4.out 0).trans rfl, (blk_cell BK4.out 1).trans rfl⟩ (fun hHeld => ?_)
            clear hK K
            refine norm_ (a' := ?_) ?_ ?_
            rotate_left
            · show Act.put _ (some 12) _ = _
              simp only [Act.put, List.setIfInBounds_toArray, List.set_cons_zero, List.set_cons_succ, i64_w, i32_w]
              rfl
            exact norm_ (by first | (simp only [putAll, Act.put, List.setIfInBounds_toArray, List.set_cons_zero, List.set_cons_succ]; done) | (simp only [putAll, Act.put, List.setIfInBounds_toArray, List.set_cons_zero, List.set_cons_succ]; rfl)) (hJ2 (B32, d32, gb5) _ ⟨lo32, hi32, gb5.succ, HO17, HO21, HO24, HO32, BK1, BK2, BK3, BK4, BK5, HB, HT, GE5, ⟨by have hn_ := HN.out; (try dsimp only); omega⟩⟩)
          · skip
            refine box_step (by rfl) (N := 12) rfl (cs := #[.slice none 0 0, .bool false]) (t := 40) ?hr ?_
            (case hr => first | (go_simp; done) | (go_simp; rfl))
            intro gb5 hg W37 hbox hb
            have nn : hi24 ≤ gb5 := Nat.le_trans HT.out (Nat.le_of_eq hg.symm)
            have GE5 := Aside0.mk (Nat.le_trans (below_size HB.out) (Nat.le_of_eq hg.symm))
            replace HO17 := Aside0.mk (Kd.R_below HO17.out hb)
            replace HO21 := Aside0.mk (Kd.R_below HO21.out hb)
            replace HO24 := Aside0.mk (Kd.R_below HO24.out hb)
            replace BK1 := Aside0.mk (blk_below (g := gb1) (o := .cells #[.int .i64 a0_0, .int .i64 a0_1] 29 (0, 0)) BK1.out hb)
            replace BK2 := Aside0.mk (blk_below (g := gb2) (o := .cells #[.slice A1_0 l1_0.length c1_0, .bool a1_1] 37 (0, 0)) BK2.out hb)
            replace BK3 := Aside0.mk (blk_below (g := gb3) (o := .cells #[.slice B17 t14.length d17, .bool t15] 40 (0, 0)) BK3.out hb)
            replace BK4 := Aside0.mk (blk_below (g := gb4) (o := .cells #[.slice B21 t19.length d21, .bool t20] 40 (0, 0)) BK4.out hb)
            replace HB := Aside0.mk (below_step HB.out hb)
            replace HT := Aside0.mk (Nat.le_trans HT.out hb.size)
            have BK5 := Aside0.mk hbox
            replace HT := Aside0.mk (Nat.succ_le_of_lt (blk_lt hbox))
            replace HN := Aside0.mk (And.intro nn HN.out)
            clear hg hbox hb nn
            refine hK.out _ _ ⟨(blk_cell BK1.out 0).trans rfl, (blk_cell BK1.out 1).trans rfl, (blk_cell BK4.out 0).trans rfl, (blk_cell BK4.out 1).trans rfl⟩ (fun hHeld => ?_)
            clear hK K
            refine norm_ (a' := ?_) ?_ ?_
            rotate_left
            · show Act.put _ (some 12) _ = _
              simp only [Act.put, List.setIfInBounds_toArray, List.set_cons_zero, List.set_cons_succ, i64_w, i32_w]
              rfl
            exact norm_ (by first | (simp only [putAll, Act.put, List.setIfInBounds_toArray, List.set_cons_zero, List.set_cons_succ]; done) | (simp only [putAll, Act.put, List.setIfInBounds_toArray, List.set_cons_zero, List.set_cons_succ]; rfl)) (hJ1 (gb5) _ ⟨gb5.succ, HO17, HO21, HO24, BK1, BK2, BK3, BK4, BK5, HB, HT, GE5, ⟨by have hn_ := HN.out; (try dsimp only); omega⟩⟩)
        · skip
          refine box_step (by rfl) (N := 12) rfl (cs := #[.slice none 0 0, .bool false]) (t := 40) ?hr ?_
          (case hr => first | (go_simp; done) | (go_simp; rfl))
          intro gb5 hg W38 hbox hb
          have nn : hi24 ≤ gb5 := Nat.le_trans HT.out (Nat.le_of_eq hg.symm)
          have GE5 := Aside0.mk (Nat.le_trans (below_size HB.out) (Nat.le_of_eq hg.symm))
          replace HO17 := Aside0.mk (Kd.R_below HO17.out hb)
          replace HO21 := Aside0.mk (Kd.R_below HO21.out hb)
          replace HO24 := Aside0.mk (Kd.R_below HO24.out hb)
          replace BK1 := Aside0.mk (blk_below (g := gb1) (o := .cells #[.int .i64 a0_0, .int .i64 a0_1] 29 (0, 0)) BK1.out hb)
          replace BK2 := Aside0.mk (blk_below (g := gb2) (o := .cells #[.slice A1_0 l1_0.length c1_0, .bool a1_1] 37 (0, 0)) BK2.out hb)
          replace BK3 := Aside0.mk (blk_below (g := gb3) (o := .cells #[.slice B17 t14.length d17, .bool t15] 40 (0, 0)) BK3.out hb)
          replace BK4 := Aside0.mk (blk_below (g := gb4) (o := .cells #[.slice B21 t19.length d21, .bool t20] 40 (0, 0)) BK4.out hb)
          replace HB := Aside0.mk (below_step HB.out hb)
          replace HT := Aside0.mk (Nat.le_trans HT.out hb.size)
          have BK5 := Aside0.mk hbox
          replace HT := Aside0.mk (Nat.succ_le_of_lt (blk_lt hbox))
          replace HN := Aside0.mk (And.intro nn HN.out)
          clear hg hbox hb nn
          refine hK.out _ _ ⟨(blk_cell BK1.out 0).trans rfl, (blk_cell BK1.out 1).trans rfl, (blk_cell BK4.out 0).trans rfl, (blk_cell BK4.out 1).trans rfl⟩ (fun hHeld => ?_)
          clear hK K
          refine norm_ (a' := ?_) ?_ ?_
          rotate_left
          · show Act.put _ (some 12) _ = _
            simp only [Act.put, List.setIfInBounds_toArray, List.set_cons_zero, List.set_cons_succ, i64_w, i32_w]
            rfl
          exact norm_ (by first | (simp only [putAll, Act.put, List.setIfInBounds_toArray, List.set_cons_zero, List.set_cons_succ]; done) | (simp only [putAll, Act.put, List.setIfInBounds_toArray, List.set_cons_zero, List.set_cons_succ]; rfl)) (hJ0 (gb5) _ ⟨gb5.succ, HO17, HO21, HO24, BK1, BK2, BK3, BK4, BK5, HB, HT, GE5, ⟨by have hn_ := HN.out; (try dsimp only); omega⟩⟩)
      · skip
        clear HO17 HO21 HO24 BK1 BK2 BK3 BK4 HB HT
        (try clear hHeld)
        intro s_ W39 hF
        obtain ⟨gb5, hs_⟩ : ∃ x, x = s_ := ⟨_, rfl⟩
        subst hs_
        (try dsimp only at hF)
        obtain ⟨T0_, HO17, HO21, HO24, BK1, BK2, BK3, BK4, BK5, HB, HT, GE5, nn_⟩ := hF
        replace HN := Aside0.mk (And.intro nn_.out HN.out)
        clear nn_
        refine norm_ (a' := ?_) ?_ ?_
        rotate_left
        · simp only [putAll, Act.put, List.setIfInBounds_toArray, List.set_cons_zero, List.set_cons_succ]
          rfl
        refine one_ (i := 1) (N := some 43) #[true, true, true, true, false, false, false, false, true, false, false] rfl rfl (by kernel_rfl) (by decide) (fun K hK => ?_)
        refine goes_ Try.func12 (by kernel_rfl) rfl #[.agg #[.int .i64 a0_0, .int .i64 a0_1]] (by rfl) rfl rfl (by (try simp only [List.map_toArray, List.map_cons, List.map_nil]); first | done | rfl) ?_
        with_reducible refine (laws_toCompany.calls a0_0 a0_1 t26 t27 _  A25.out).mono ?_
        rintro e W40 ⟨rfl, hb⟩
        refine ⟨_, rfl, ?_⟩
        replace HO17 := Aside0.mk (Kd.R_below HO17.out hb)
        replace HO21 := Aside0.mk (Kd.R_below HO21.out hb)
        replace HO24 := Aside0.mk (Kd.R_below HO24.out hb)
        replace BK1 := Aside0.mk (blk_below (g := gb1) (o := .cells #[.int .i64 a0_0, .int .i64 a0_1] 29 (0, 0)) BK1.out hb)
        replace BK2 := Aside0.mk (blk_below (g := gb2) (o := .cells #[.slice A1_0 l1_0.length c1_0, .bool a1_1] 37 (0, 0)) BK2.out hb)
        replace BK3 := Aside0.mk (blk_below (g := gb3) (o := .cells #[.slice B17 t14.length d17, .bool t15] 40 (0, 0)) BK3.out hb)
        replace BK4 := Aside0.mk (blk_below (g := gb4) (o := .cells #[.slice B21 t19.length d21, .bool t20] 40 (0, 0)) BK4.out hb)
        replace BK5 := Aside0.mk (blk_below (g := gb5) (o := .cells #[.slice none 0 0, .bool false] 40 (0, 0)) BK5.out hb)
        replace HB := Aside0.mk (below_step HB.out hb)
        replace HT := Aside0.mk (Nat.le_trans HT.out hb.size)
        clear hb
        refine hK.out _ _ ⟨(blk_cell BK1.out 0).trans rfl, (blk_cell BK1.out 1).trans rfl, (blk_cell BK4.out 0).trans rfl, (blk_cell BK4.out 1).trans rfl⟩ (fun hHeld => ?_)
        clear hK K
        refine norm_ (a' := ?_) ?_ ?_
        rotate_left
        · show Act.put _ (some 43) _ = _
          simp only [Act.put, List.setIfInBounds_toArray, List.set_cons_zero, List.set_cons_succ, i64_w, i32_w]
          rfl
        exact norm_ (by first | (simp only [putAll, Act.put, List.setIfInBounds_toArray, List.set_cons_zero, List.set_cons_succ]; done) | (simp only [putAll, Act.put, List.setIfInBounds_toArray, List.set_cons_zero, List.set_cons_succ]; rfl)) (hJ1 (gb5) _ ⟨T0_, HO17, HO21, HO24, BK1, BK2, BK3, BK4, BK5, HB, HT, GE5, ⟨by have hn_ := HN.out; (try dsimp only); omega⟩⟩)
    · skip
      clear HO17 HO21 HO24 BK1 BK2 BK3 BK4 HB HT
      (try clear hHeld)
      intro s_ W41 hF
      obtain ⟨gb5, hs_⟩ : ∃ x, x = s_ := ⟨_, rfl⟩
      subst hs_
      (try dsimp only at hF)
      obtain ⟨T1_, HO17, HO21, HO24, BK1, BK2, BK3, BK4, BK5, HB, HT, GE5, nn_⟩ := hF
      replace HN := Aside0.mk (And.intro nn_.out HN.out)
      clear nn_
      refine norm_ (a' := ?_) ?_ ?_
      rotate_left
      · simp only [putAll, Act.put, List.setIfInBounds_toArray, List.set_cons_zero, List.set_cons_succ]
        rfl
      refine one_ (i := 4) (N := some 46) #[true, true, true, true, true, false, false, false, true, false, false] rfl rfl (by kernel_rfl) (by decide) (fun K hK => ?_)
      refine goes_ Try.func20 (by kernel_rfl) rfl #[.agg #[.int .i64 t26, .int .i64 t27], .agg #[.slice B21 t19.length d21, .bool t20], .slice B24 t23.length d24] (by rfl) rfl rfl (by (try simp only [List.map_toArray, List.map_cons, List.map_nil]); first | done | rfl) ?_
      with_reducible refine (impl_RowBoat.calls k t26 t27 _ _ t19 t20 _ _ t23 t29 t30 t31 _ (Kd.R_reads' HO21.out).2.2 (Kd.R_reads' HO21.out).2.1 (Kd.R_reads' HO24.out).2.2 (Kd.R_reads' HO24.out).2.1 A28.out).mono ?_
      rintro e W42 ⟨v32, rfl, ho32, hb⟩
      refine ⟨_, rfl, ?_⟩
      obtain ⟨B32, d32, e_⟩ := Kd.R_slice ho32
      subst e_
      obtain ⟨lo32, hi32, nn, ht_, hO32⟩ := laws_FnExactRowBoat.newR ho32 HT.out (below_size HB.out) hb.size
      replace HO17 := Aside0.mk (Kd.R_below HO17.out hb)
      replace HO21 := Aside0.mk (Kd.R_below HO21.out hb)
      replace HO24 := Aside0.mk (Kd.R_below HO24.out hb)
      replace BK1 := Aside0.mk (blk_below (g := gb1) (o := .cells #[.int .i64 a0_0, .int .i64 a0_1] 29 (0, 0)) BK1.out hb)
      replace BK2 := Aside0.mk (blk_below (g := gb2) (o := .cells #[.slice A1_0 l1_0.length c1_0, .bool a1_1] 37 (0, 0)) BK2.out hb)
      replace BK3 := Aside0.mk (blk_below (g := gb3) (o := .cells #[.slice B17 t14.length d17, .bool t15] 40 (0, 0)) BK3.out hb)
      replace BK4 := Aside0.mk (blk_below (g := gb4) (o := .cells #[.slice B21 t19.length d21, .bool t20] 40 (0, 0)) BK4.out hb)
      replace BK5 := Aside0.mk (blk_below (g := gb5) (o := .cells #[.slice none 0 0, .bool false] 40 (0, 0)) BK5.out hb)
      replace HB := Aside0.mk (below_step HB.out hb)
      replace HT := Aside0.mk (Nat.le_trans HT.out hb.size)
      have HO32 := Aside0.mk hO32
      replace HT := Aside0.mk ht_
      replace HN := Aside0.mk (And.intro nn HN.out)
      clear ho32 hO32 nn ht_
      clear hb
      refine hK.out _ _ ⟨(blk_cell BK1.out 0).trans rfl, (blk_cell BK1.out 1).trans rfl, (blk_cell BK4.out 0).trans rfl, (blk_cell BK4.out 1).trans rfl⟩ (fun hHeld => ?_)
      clear hK K
      refine norm_ (a' := ?_) ?_ ?_
      rotate_left
      · show Act.put _ (some 46) _ = _
        simp only [Act.put, List.setIfInBounds_toArray, List.set_cons_zero, List.set_cons_succ, i64_w, i32_w]
        rfl
      refine pure_ (i := 5) (N := some 41) (v := ?_) (a' := ?_) #[true, true, true, true, true, true, false, false, true, false, false] rfl rfl (by kernel_rfl) (fun _ _ _ h => h) (Or.inl ⟨by rfl, ?_⟩) ?_ ?_
      rotate_left
      · intro w'
        go_simp
        with_reducible rfl
      rotate_left
      · simp only [Act.put, List.setIfInBounds_toArray, List.set_cons_zero, List.set_cons_succ, i64_w, i32_w]
        rfl
      refine pure_ (i := 6) (N := some 47) (v := ?_) (a' := ?_) #[true, true, true, true, true, true, true, false, true, false, false] rfl rfl (by kernel_rfl) (fun _ _ _ h => h) (Or.inl ⟨by rfl, ?_⟩) ?_ ?_
      rotate_left
      · intro w'
        go_simp
        with_reducible rfl
      rotate_left
      · simp only [Act.put, List.setIfInBounds_toArray, List.set_cons_zero, List.set_cons_succ, i64_w, i32_w]
        rfl
      refine pure_ (i := 7) (N := some 48) (v := ?_) (a' := ?_) #[true, true, true, true, true, true, true, true, true, false, false] rfl rfl (by kernel_rfl) (fun _ _ _ h => h) (Or.inl ⟨by rfl, ?_⟩) ?_ ?_
      rotate_left
      · intro w'
        go_simp
        with_reducible rfl
      rotate_left
      · simp only [Act.put, List.setIfInBounds_toArray, List.set_cons_zero, List.set_cons_succ, i64_w, i32_w]
        rfl
      exact norm_ (by first | (simp only [putAll, Act.put, List.setIfInBounds_toArray, List.set_cons_zero, List.set_cons_succ]; done) | (simp only [putAll, Act.put, List.setIfInBounds_toArray, List.set_cons_zero, List.set_cons_succ]; rfl)) (hJ2 (B32, d32, gb5) _ ⟨lo32, hi32, hi32, HO17, HO21, HO24, HO32, BK1, BK2, BK3, BK4, BK5, HB, HT, GE5, ⟨by have hn_ := HN.out; (try dsimp only); omega⟩⟩)
  clear HO17 HO21 HO24 BK1 BK2 BK3 BK4 HB HT
  (try clear hHeld)
  intro s_ W43 hF
  obtain ⟨B32, d32, gb5⟩ := s_
  (try dsimp only at hF)
  obtain ⟨lo32, hi32, T2_, HO17, HO21, HO24, HO32, BK1, BK2, BK3, BK4, BK5, HB, HT, GE5, nn_⟩ := hF
  replace HN := Aside0.mk (And.intro nn_.out HN.out)
  clear nn_
  refine norm_ (a' := ?_) ?_ ?_
  rotate_left
  · simp only [putAll, Act.put, List.setIfInBounds_toArray, List.set_cons_zero, List.set_cons_succ]
    rfl
  refine one_ (i := 9) (N := none) #[true, true, true, true, true, true, true, true, true, true, false] rfl rfl (by kernel_rfl) (by decide) (fun K hK => ?_)
  refine laws_FnExactRowBoat.storeK (by rfl) rfl rfl gb5 40 #[.slice none 0 0, .bool false] (.agg #[.slice B32 t29.length d32, .bool t30]) [.slice B32 t29.length d32, .bool t30] rfl rfl BK5.out rfl (by kernel_rfl) rfl (by intro q_ hq_; simp only [List.mem_cons, List.not_mem_nil, or_false] at hq_; rcases hq_ with rfl | rfl <;> rfl) ?_
  intro W44 hbx hg
  replace HO17 := Aside0.mk (laws_FnExactRowBoat.grownR HO17.out hg (by have hn_ := HN.out; omega))
  replace HO21 := Aside0.mk (laws_FnExactRowBoat.grownR HO21.out hg (by have hn_ := HN.out; omega))
  replace HO24 := Aside0.mk (laws_FnExactRowBoat.grownR HO24.out hg (by have hn_ := HN.out; omega))
  replace HO32 := Aside0.mk (laws_FnExactRowBoat.grownR HO32.out hg (by have hn_ := HN.out; omega))
  replace BK1 := Aside0.mk (laws_FnExactRowBoat.grownB BK1.out hg (by have hn_ := HN.out; omega))
  replace BK2 := Aside0.mk (laws_FnExactRowBoat.grownB BK2.out hg (by have hn_ := HN.out; omega))
  replace BK3 := Aside0.mk (laws_FnExactRowBoat.grownB BK3.out hg (by have hn_ := HN.out; omega))
  replace BK4 := Aside0.mk (laws_FnExactRowBoat.grownB BK4.out hg (by have hn_ := HN.out; omega))
  replace HB := Aside0.mk (Below.grown HB.out hg (below_size HB.out) (fun k_ hk_ => by injection hk_ with hk_; subst hk_; exact GE5.out))
  replace HT := Aside0.mk (Nat.le_trans HT.out hg.size)
  replace BK5 := Aside0.mk hbx
  clear hbx hg
  refine hK.out _ _ ⟨(blk_cell BK1.out 0).trans rfl, (blk_cell BK1.out 1).trans rfl, (blk_cell BK4.out 0).trans rfl, (blk_cell BK4.out 1).trans rfl⟩ (fun hHeld => ?_)
  clear hK K
  refine pure_ (i := 10) (N := some 13) (v := ?_) (a' := ?_) #[true, true, true, true, true, true, true, true, true, true, true] rfl rfl (by kernel_rfl) (fun _ _ _ h => h) (Or.inl ⟨by rfl, ?_⟩) ?_ ?_
  rotate_left
  · intro w'
    go_simp
    with_reducible rfl
  rotate_left
  · simp only [Act.put, List.setIfInBounds_toArray, List.set_cons_zero, List.set_cons_succ, i64_w, i32_w]
    rfl
  refine done_ (by kernel_rfl) ?_
  have cz5_0 : W44.cell? ⟨gb5, 0, none⟩ = some (.slice B32 t29.length d32) := (blk_cell BK5.out 0).trans rfl
  have cz5_1 : W44.cell? ⟨gb5, 1, none⟩ = some (.bool t30) := (blk_cell BK5.out 1).trans rfl
  have cz3_0 : W44.cell? ⟨gb3, 0, none⟩ = some (.slice B17 t14.length d17) := (blk_cell BK3.out 0).trans rfl
  have cz3_1 : W44.cell? ⟨gb3, 1, none⟩ = some (.bool t15) := (blk_cell BK3.out 1).trans rfl
  try go_wp2_with (first | ((with_reducible refine gate_dst (N := 51) rfl ?_); refine goesL_ (some 51) rfl rfl Try.func18 (by kernel_rfl) rfl #[.agg #[.slice B32 t29.length d32, .bool t30], .agg #[.slice B17 t14.length d17, .bool t15]] rfl (by (try simp only [List.map_toArray, List.map_cons, List.map_nil]); first | done | rfl) ?_; (with_reducible refine (laws_eqState.calls k _ _ t29 t30 _ _ t14 t15 true _ (Kd.R_reads' HO32.out).2.2 (Kd.R_reads' HO32.out).2.1 (Kd.R_reads' HO17.out).2.2 (Kd.R_reads' HO17.out).2.1 A33.out).mono ?_); rintro e W45 ⟨rfl, hb⟩; refine ⟨_, rfl, ?_⟩; replace HO17 := Aside0.mk (Kd.R_below HO17.out hb); replace HO21 := Aside0.mk (Kd.R_below HO21.out hb); replace HO24 := Aside0.mk (Kd.R_below HO24.out hb); replace HO32 := Aside0.mk (Kd.R_below HO32.out hb); replace BK1 := Aside0.mk (blk_below (g := gb1) (o := .cells #[.int .i64 a0_0, .int .i64 a0_1] 29 (0, 0)) BK1.out hb); replace BK2 := Aside0.mk (blk_below (g := gb2) (o := .cells #[.slice A1_0 l1_0.length c1_0, .bool a1_1] 37 (0, 0)) BK2.out hb); replace BK3 := Aside0.mk (blk_below (g := gb3) (o := .cells #[.slice B17 t14.length d17, .bool t15] 40 (0, 0)) BK3.out hb); replace BK4 := Aside0.mk (blk_below (g := gb4) (o := .cells #[.slice B21 t19.length d21, .bool t20] 40 (0, 0)) BK4.out hb); replace BK5 := Aside0.mk (blk_below (g := gb5) (o := .cells #[.slice B32 t29.length d32, .bool t30] 40 (0, 0)) BK5.out hb); replace HB := Aside0.mk (below_step HB.out hb); replace HT := Aside0.mk (Nat.le_trans HT.out hb.size); clear hb; (try clear cz5_0 cz5_1 cz3_0 cz3_1)))
  have hb : Below W45.heap.size W45 W45.drew := below_drew (Below.refl _ _)
  replace HO17 := Aside0.mk (Kd.R_below HO17.out hb)
  replace HO21 := Aside0.mk (Kd.R_below HO21.out hb)
  replace HO24 := Aside0.mk (Kd.R_below HO24.out hb)
  replace HO32 := Aside0.mk (Kd.R_below HO32.out hb)
  replace BK1 := Aside0.mk (blk_below (g := gb1) (o := .cells #[.int .i64 a0_0, .int .i64 a0_1] 29 (0, 0)) BK1.out hb)
  replace BK2 := Aside0.mk (blk_below (g := gb2) (o := .cells #[.slice A1_0 l1_0.length c1_0, .bool a1_1] 37 (0, 0)) BK2.out hb)
  replace BK3 := Aside0.mk (blk_below (g := gb3) (o := .cells #[.slice B17 t14.length d17, .bool t15] 40 (0, 0)) BK3.out hb)
  replace BK4 := Aside0.mk (blk_below (g := gb4) (o := .cells #[.slice B21 t19.length d21, .bool t20] 40 (0, 0)) BK4.out hb)
  replace BK5 := Aside0.mk (blk_below (g := gb5) (o := .cells #[.slice B32 t29.length d32, .bool t30] 40 (0, 0)) BK5.out hb)
  replace HB := Aside0.mk (below_step HB.out hb)
  replace HT := Aside0.mk (Nat.le_trans HT.out hb.size)
  clear hb
  refine start_ (n := 5) (S := fun w' => w'.cell? ⟨gb4, 0, none⟩ = some (.slice B21 t19.length d21) ∧ w'.cell? ⟨gb4, 1, none⟩ = some (.bool t20) ∧ w'.cell? ⟨gb2, 0, none⟩ = some (.slice A1_0 l1_0.length c1_0) ∧ w'.cell? ⟨gb2, 1, none⟩ = some (.bool a1_1)) (ds := []) #[false, false, false, false, false] (by kernel_rfl) rfl rfl ⟨(blk_cell BK4.out 0).trans rfl, (blk_cell BK4.out 1).trans rfl, (blk_cell BK2.out 0).trans rfl, (blk_cell BK2.out 1).trans rfl⟩ (fun hHeld => ?_)
  generalize W45.drew = W46 at HO17 HO21 HO24 HO32 BK1 BK2 BK3 BK4 BK5 HB HT hHeld ⊢
  refine take_ (i := 0) (N := some 58) (v := ?_) (a' := ?_) #[true, false, false, false, false] rfl rfl (by kernel_rfl) (fun _ _ _ h => h) (Or.inl ⟨by rfl, ?_⟩) hHeld ?_ ?_
  rotate_left
  · rintro w' ⟨s0, s1, s2, s3⟩
    go_simp
    with_reducible rfl
  rotate_left
  · simp only [Act.put, List.setIfInBounds_toArray, List.set_cons_zero, List.set_cons_succ, i64_w, i32_w]
    rfl
  refine take_ (i := 1) (N := some 59) (v := ?_) (a' := ?_) #[true, true, false, false, false] rfl rfl (by kernel_rfl) (fun _ _ _ h => h) (Or.inl ⟨by rfl, ?_⟩) hHeld ?_ ?_
  rotate_left
  · rintro w' ⟨s0, s1, s2, s3⟩
    go_simp
    with_reducible rfl
  rotate_left
  · simp only [Act.put, List.setIfInBounds_toArray, List.set_cons_zero, List.set_cons_succ, i64_w, i32_w]
    rfl
  refine one_ (i := 2) (N := some 60) #[true, true, true, false, false] rfl rfl (by kernel_rfl) (by decide) (fun K hK => ?_)
  refine goes_ Try.func16 (by kernel_rfl) rfl #[.agg #[.slice A1_0 l1_0.length c1_0, .bool a1_1]] (by rfl) rfl rfl (by (try simp only [List.map_toArray, List.map_cons, List.map_nil]); first | done | rfl) ?_
  with_reducible refine (laws_toState.calls k _ _ l1_0 a1_1 t36 t37 _ (Kd.C_below HR1_0.out HB.out) HC1_0.out A35.out).mono ?_
  rintro e W47 ⟨v38, rfl, ho38, hb⟩
  refine ⟨_, rfl, ?_⟩
  obtain ⟨B38, d38, e_⟩ := Kd.R_slice ho38
  subst e_
  obtain ⟨lo38, hi38, nn, ht_, hO38⟩ := laws_FnExactRowBoat.newR ho38 HT.out (below_size HB.out) hb.size
  replace HO17 := Aside0.mk (Kd.R_below HO17.out hb)
  replace HO21 := Aside0.mk (Kd.R_below HO21.out hb)
  replace HO24 := Aside0.mk (Kd.R_below HO24.out hb)
  replace HO32 := Aside0.mk (Kd.R_below HO32.out hb)
  replace BK1 := Aside0.mk (blk_below (g := gb1) (o := .cells #[.int .i64 a0_0, .int .i64 a0_1] 29 (0, 0)) BK1.out hb)
  replace BK2 := Aside0.mk (blk_below (g := gb2) (o := .cells #[.slice A1_0 l1_0.length c1_0, .bool a1_1] 37 (0, 0)) BK2.out hb)
  replace BK3 := Aside0.mk (blk_below (g := gb3) (o := .cells #[.slice B17 t14.length d17, .bool t15] 40 (0, 0)) BK3.out hb)
  replace BK4 := Aside0.mk (blk_below (g := gb4) (o := .cells #[.slice B21 t19.length d21, .bool t20] 40 (0, 0)) BK4.out hb)
  replace BK5 := Aside0.mk (blk_below (g := gb5) (o := .cells #[.slice B32 t29.length d32, .bool t30] 40 (0, 0)) BK5.out hb)
  replace HB := Aside0.mk (below_step HB.out hb)
  replace HT := Aside0.mk (Nat.le_trans HT.out hb.size)
  have HO38 := Aside0.mk hO38
  replace HT := Aside0.mk ht_
  replace HN := Aside0.mk (And.intro nn HN.out)
  clear ho38 hO38 nn ht_
  clear hb
  refine hK.out _ _ ⟨(blk_cell BK4.out 0).trans rfl, (blk_cell BK4.out 1).trans rfl, (blk_cell BK2.out 0).trans rfl, (blk_cell BK2.out 1).trans rfl⟩ (fun hHeld => ?_)
  clear hK K
  refine norm_ (a' := ?_) ?_ ?_
  rotate_left
  · show Act.put _ (some 60) _ = _
    simp only [Act.put, List.setIfInBounds_toArray, List.set_cons_zero, List.set_cons_succ, i64_w, i32_w]
    rfl
  refine one_ (i := 3) (N := some 61) #[true, true, true, true, false] rfl rfl (by kernel_rfl) (by decide) (fun K hK => ?_)
  refine goes_ Try.func18 (by kernel_rfl) rfl #[.agg #[.slice B21 t19.length d21, .bool t20], .agg #[.slice B38 t36.length d38, .bool t37]] (by rfl) rfl rfl (by (try simp only [List.map_toArray, List.map_cons, List.map_nil]); first | done | rfl) ?_
  with_reducible refine (laws_eqState.calls k _ _ t19 t20 _ _ t36 t37 true _ (Kd.R_reads' HO21.out).2.2 (Kd.R_reads' HO21.out).2.1 (Kd.R_reads' HO38.out).2.2 (Kd.R_reads' HO38.out).2.1 A39.out).mono ?_
  rintro e W48 ⟨rfl, hb⟩
  refine ⟨_, rfl, ?_⟩
  replace HO17 := Aside0.mk (Kd.R_below HO17.out hb)
  replace HO21 := Aside0.mk (Kd.R_below HO21.out hb)
  replace HO24 := Aside0.mk (Kd.R_below HO24.out hb)
  replace HO32 := Aside0.mk (Kd.R_below HO32.out hb)
  replace HO38 := Aside0.mk (Kd.R_below HO38.out hb)
  replace BK1 := Aside0.mk (blk_below (g := gb1) (o := .cells #[.int .i64 a0_0, .int .i64 a0_1] 29 (0, 0)) BK1.out hb)
  replace BK2 := Aside0.mk (blk_below (g := gb2) (o := .cells #[.slice A1_0 l1_0.length c1_0, .bool a1_1] 37 (0, 0)) BK2.out hb)
  replace BK3 := Aside0.mk (blk_below (g := gb3) (o := .cells #[.slice B17 t14.length d17, .bool t15] 40 (0, 0)) BK3.out hb)
  replace BK4 := Aside0.mk (blk_below (g := gb4) (o := .cells #[.slice B21 t19.length d21, .bool t20] 40 (0, 0)) BK4.out hb)
  replace BK5 := Aside0.mk (blk_below (g := gb5) (o := .cells #[.slice B32 t29.length d32, .bool t30] 40 (0, 0)) BK5.out hb)
  replace HB := Aside0.mk (below_step HB.out hb)
  replace HT := Aside0.mk (Nat.le_trans HT.out hb.size)
  clear hb
  clear HO38
  refine hK.out _ _ ⟨(blk_cell BK4.out 0).trans rfl, (blk_cell BK4.out 1).trans rfl, (blk_cell BK2.out 0).trans rfl, (blk_cell BK2.out 1).trans rfl⟩ (fun hHeld => ?_)
  clear hK K
  refine norm_ (a' := ?_) ?_ ?_
  rotate_left
  · show Act.put _ (some 61) _ = _
    simp only [Act.put, List.setIfInBounds_toArray, List.set_cons_zero, List.set_cons_succ, i64_w, i32_w]
    rfl
  refine pure_ (i := 4) (N := some 62) (v := ?_) (a' := ?_) #[true, true, true, true, true] rfl rfl (by kernel_rfl) (fun _ _ _ h => h) (Or.inl ⟨by rfl, ?_⟩) ?_ ?_
  rotate_left
  · intro w'
    go_simp
    with_reducible rfl
  rotate_left
  · simp only [Act.put, List.setIfInBounds_toArray, List.set_cons_zero, List.set_cons_succ, i64_w, i32_w]
    rfl
  refine done_ (by kernel_rfl) ?_
  try go_wp2_with (first | ((with_reducible refine gate_dst (N := 65) rfl ?_); refine goesL_ (some 65) rfl rfl Try.func8 (by kernel_rfl) rfl #[.slice A2 l2.length c2] rfl (by (try simp only [List.map_toArray, List.map_cons, List.map_nil]); first | done | rfl) ?_; (with_reducible refine (laws_toIntS.calls k _ _ l2 t42 _ (Kd.C_below HR2.out HB.out) HC2.out A41.out).mono ?_); rintro e W49 ⟨v43, rfl, ho43, hb⟩; refine ⟨_, rfl, ?_⟩; obtain ⟨B43, d43, e_⟩ := Kd.R_slice ho43; subst e_; obtain ⟨lo43, hi43, nn, ht_, hO43⟩ := laws_FnExactRowBoat.newR ho43 HT.out (below_size HB.out) hb.size; replace HO17 := Aside0.mk (Kd.R_below HO17.out hb); replace HO21 := Aside0.mk (Kd.R_below HO21.out hb); replace HO24 := Aside0.mk (Kd.R_below HO24.out hb); replace HO32 := Aside0.mk (Kd.R_below HO32.out hb); replace BK1 := Aside0.mk (blk_below (g := gb1) (o := .cells #[.int .i64 a0_0, .int .i64 a0_1] 29 (0, 0)) BK1.out hb); replace BK2 := Aside0.mk (blk_below (g := gb2) (o := .cells #[.slice A1_0 l1_0.length c1_0, .bool a1_1] 37 (0, 0)) BK2.out hb); replace BK3 := Aside0.mk (blk_below (g := gb3) (o := .cells #[.slice B17 t14.length d17, .bool t15] 40 (0, 0)) BK3.out hb); replace BK4 := Aside0.mk (blk_below (g := gb4) (o := .cells #[.slice B21 t19.length d21, .bool t20] 40 (0, 0)) BK4.out hb); replace BK5 := Aside0.mk (blk_below (g := gb5) (o := .cells #[.slice B32 t29.length d32, .bool t30] 40 (0, 0)) BK5.out hb); replace HB := Aside0.mk (below_step HB.out hb); replace HT := Aside0.mk (Nat.le_trans HT.out hb.size); have HO43 := Aside0.mk hO43; replace HT := Aside0.mk ht_; replace HN := Aside0.mk (And.intro nn HN.out); clear ho43 hO43 nn ht_; clear hb) | ((with_reducible refine gate_dst (N := 66) rfl ?_); refine goesL_ (some 66) rfl rfl Try.func10 (by kernel_rfl) rfl #[.slice B24 t23.length d24, .slice B43 t42.length d43] rfl (by (try simp only [List.map_toArray, List.map_cons, List.map_nil]); first | done | rfl) ?_; (with_reducible refine (laws_eqIntS.calls k _ _ t23 _ _ t42 true _ (Kd.R_reads' HO24.out).2.2 (Kd.R_reads' HO24.out).2.1 (Kd.R_reads' HO43.out).2.2 (Kd.R_reads' HO43.out).2.1 A44.out).mono ?_); rintro e W50 ⟨rfl, hd⟩; have hb := hd.below; clear hd; refine ⟨_, rfl, ?_⟩; replace HO17 := Aside0.mk (Kd.R_below HO17.out hb); replace HO21 := Aside0.mk (Kd.R_below HO21.out hb); replace HO24 := Aside0.mk (Kd.R_below HO24.out hb); replace HO32 := Aside0.mk (Kd.R_below HO32.out hb); replace HO43 := Aside0.mk (Kd.R_below HO43.out hb); replace BK1 := Aside0.mk (blk_below (g := gb1) (o := .cells #[.int .i64 a0_0, .int .i64 a0_1] 29 (0, 0)) BK1.out hb); replace BK2 := Aside0.mk (blk_below (g := gb2) (o := .cells #[.slice A1_0 l1_0.length c1_0, .bool a1_1] 37 (0, 0)) BK2.out hb); replace BK3 := Aside0.mk (blk_below (g := gb3) (o := .cells #[.slice B17 t14.length d17, .bool t15] 40 (0, 0)) BK3.out hb); replace BK4 := Aside0.mk (blk_below (g := gb4) (o := .cells #[.slice B21 t19.length d21, .bool t20] 40 (0, 0)) BK4.out hb); replace BK5 := Aside0.mk (blk_below (g := gb5) (o := .cells #[.slice B32 t29.length d32, .bool t30] 40 (0, 0)) BK5.out hb); replace HB := Aside0.mk (below_step HB.out hb); replace HT := Aside0.mk (Nat.le_trans HT.out hb.size); clear hb; clear HO43; have cz4_0 : W50.cell? ⟨gb4, 0, none⟩ = some (.slice B21 t19.length d21) := (blk_cell BK4.out 0).trans rfl; have cz4_1 : W50.cell? ⟨gb4, 1, none⟩ = some (.bool t20) := (blk_cell BK4.out 1).trans rfl) | ((with_reducible refine gate_dst (N := 70) rfl ?_); refine goesL_ (some 70) rfl rfl Try.func21 (by kernel_rfl) rfl #[.agg #[.slice B21 t19.length d21, .bool t20], .int .i64 1] rfl (by (try simp only [List.map_toArray, List.map_cons, List.map_nil]); first | done | rfl) ?_; (with_reducible refine (laws_markState.calls k (fun k_ => lo21 ≤ k_ ∧ k_ < hi21) (.slice B21 t19.length d21) t19 t20 1 t47 t48 w _ HB.out HO21.out A46.out).mono ?_); rintro e W51 ⟨rfl, hy0, hb, hkp⟩; refine ⟨_, rfl, ?_⟩; replace HO17 := Aside0.mk (laws_FnExactRowBoat.keptR HO17.out hkp (by have hn_ := HN.out; omega)); replace HO24 := Aside0.mk (laws_FnExactRowBoat.keptR HO24.out hkp (by have hn_ := HN.out; omega)); replace HO32 := Aside0.mk (laws_FnExactRowBoat.keptR HO32.out hkp (by have hn_ := HN.out; omega)); replace BK1 := Aside0.mk (laws_FnExactRowBoat.keptB BK1.out hkp (by have hn_ := HN.out; omega)); replace BK2 := Aside0.mk (laws_FnExactRowBoat.keptB BK2.out hkp (by have hn_ := HN.out; omega)); replace BK3 := Aside0.mk (laws_FnExactRowBoat.keptB BK3.out hkp (by have hn_ := HN.out; omega)); replace BK4 := Aside0.mk (laws_FnExactRowBoat.keptB BK4.out hkp (by have hn_ := HN.out; omega)); replace BK5 := Aside0.mk (laws_FnExactRowBoat.keptB BK5.out hkp (by have hn_ := HN.out; omega)); replace HO21 := Aside0.mk (Kd.R_reok rfl hy0 (fun k_ e_ => HO21.out.1 k_ e_)); replace HB := Aside0.mk hb; replace HT := Aside0.mk (Nat.le_trans HT.out hkp.1); clear hy0 hb hkp; have hl_ := (Kd.R_reads' HO21.out).1; rw [hl_] at HO21 BK4; (try simp only [hl_]); clear hl_; clear HO21; (try clear cz4_0 cz4_1)) | ((with_reducible refine gate_dst (N := 73) rfl ?_); refine goesL_ (some 73) rfl rfl Try.func22 (by kernel_rfl) rfl #[.slice B24 t23.length d24, .int .i64 t47] rfl (by (try simp only [List.map_toArray, List.map_cons, List.map_nil]); first | done | rfl) ?_; (with_reducible refine (laws_markIntS.calls k (fun k_ => lo24 ≤ k_ ∧ k_ < hi24) (.slice B24 t23.length d24) t23 t47 t50 t51 w _ HB.out HO24.out A49.out).mono ?_); rintro e W52 ⟨rfl, hy0, hb, hkp⟩; refine ⟨_, rfl, ?_⟩; replace HO17 := Aside0.mk (laws_FnExactRowBoat.keptR HO17.out hkp (by have hn_ := HN.out; omega)); replace HO32 := Aside0.mk (laws_FnExactRowBoat.keptR HO32.out hkp (by have hn_ := HN.out; omega)); replace BK1 := Aside0.mk (laws_FnExactRowBoat.keptB BK1.out hkp (by have hn_ := HN.out; omega)); replace BK2 := Aside0.mk (laws_FnExactRowBoat.keptB BK2.out hkp (by have hn_ := HN.out; omega)); replace BK3 := Aside0.mk (laws_FnExactRowBoat.keptB BK3.out hkp (by have hn_ := HN.out; omega)); replace BK4 := Aside0.mk (laws_FnExactRowBoat.keptB BK4.out hkp (by have hn_ := HN.out; omega)); replace BK5 := Aside0.mk (laws_FnExactRowBoat.keptB BK5.out hkp (by have hn_ := HN.out; omega)); replace HO24 := Aside0.mk (Kd.R_reok rfl hy0 (fun k_ e_ => HO24.out.1 k_ e_)); replace HB := Aside0.mk hb; replace HT := Aside0.mk (Nat.le_trans HT.out hkp.1); clear hy0 hb hkp; have hl_ := (Kd.R_reads' HO24.out).1; rw [hl_] at HO24; (try simp only [hl_]); clear hl_; clear HO24; have cz5_0 : W52.cell? ⟨gb5, 0, none⟩ = some (.slice B32 t29.length d32) := (blk_cell BK5.out 0).trans rfl; have cz5_1 : W52.cell? ⟨gb5, 1, none⟩ = some (.bool t30) := (blk_cell BK5.out 1).trans rfl; have cz3_0 : W52.cell? ⟨gb3, 0, none⟩ = some (.slice B17 t14.length d17) := (blk_cell BK3.out 0).trans rfl; have cz3_1 : W52.cell? ⟨gb3, 1, none⟩ = some (.bool t15) := (blk_cell BK3.out 1).trans rfl) | ((with_reducible refine gate_dst (N := 79) rfl ?_); (refine gate_guard (by rfl) ?_; dsimp only); refine goesL_ (some 79) rfl rfl Try.func18 (by kernel_rfl) rfl #[.agg #[.slice B32 t29.length d32, .bool t30], .agg #[.slice B17 t14.length d17, .bool t15]] rfl (by (try simp only [List.map_toArray, List.map_cons, List.map_nil]); first | done | rfl) ?_; (with_reducible refine (laws_eqState.calls k _ _ t29 t30 _ _ t14 t15 true _ (Kd.R_reads' HO32.out).2.2 (Kd.R_reads' HO32.out).2.1 (Kd.R_reads' HO17.out).2.2 (Kd.R_reads' HO17.out).2.1 A52.out).mono ?_); rintro e W53 ⟨rfl, hb⟩; refine ⟨_, rfl, ?_⟩; replace HO17 := Aside0.mk (Kd.R_below HO17.out hb); replace HO32 := Aside0.mk (Kd.R_below HO32.out hb); replace BK1 := Aside0.mk (blk_below (g := gb1) (o := .cells #[.int .i64 a0_0, .int .i64 a0_1] 29 (0, 0)) BK1.out hb); replace BK2 := Aside0.mk (blk_below (g := gb2) (o := .cells #[.slice A1_0 l1_0.length c1_0, .bool a1_1] 37 (0, 0)) BK2.out hb); replace BK3 := Aside0.mk (blk_below (g := gb3) (o := .cells #[.slice B17 t14.length d17, .bool t15] 40 (0, 0)) BK3.out hb); replace BK4 := Aside0.mk (blk_below (g := gb4) (o := .cells #[.slice B21 t48.length d21, .bool t20] 40 (0, 0)) BK4.out hb); replace BK5 := Aside0.mk (blk_below (g := gb5) (o := .cells #[.slice B32 t29.length d32, .bool t30] 40 (0, 0)) BK5.out hb); replace HB := Aside0.mk (below_step HB.out hb); replace HT := Aside0.mk (Nat.le_trans HT.out hb.size); clear hb; (try clear cz5_0 cz5_1 cz3_0 cz3_1); have cz5_0 : W53.cell? ⟨gb5, 0, none⟩ = some (.slice B32 t29.length d32) := (blk_cell BK5.out 0).trans rfl; have cz5_1 : W53.cell? ⟨gb5, 1, none⟩ = some (.bool t30) := (blk_cell BK5.out 1).trans rfl) | ((with_reducible refine gate_dst (N := 89) rfl ?_); refine goesL_ (some 89) rfl rfl Try.func21 (by kernel_rfl) rfl #[.agg #[.slice B32 t29.length d32, .bool t30], .int .i64 1] rfl (by (try simp only [List.map_toArray, List.map_cons, List.map_nil]); first | done | rfl) ?_; (with_reducible refine (laws_markState.calls k (fun k_ => lo32 ≤ k_ ∧ k_ < hi32) (.slice B32 t29.length d32) t29 t30 1 t55 t56 w _ HB.out HO32.out A54.out).mono ?_); rintro e W54 ⟨rfl, hy0, hb, hkp⟩; refine ⟨_, rfl, ?_⟩; replace HO17 := Aside0.mk (laws_FnExactRowBoat.keptR HO17.out hkp (by have hn_ := HN.out; omega)); replace BK1 := Aside0.mk (laws_FnExactRowBoat.keptB BK1.out hkp (by have hn_ := HN.out; omega)); replace BK2 := Aside0.mk (laws_FnExactRowBoat.keptB BK2.out hkp (by have hn_ := HN.out; omega)); replace BK3 := Aside0.mk (laws_FnExactRowBoat.keptB BK3.out hkp (by have hn_ := HN.out; omega)); replace BK4 := Aside0.mk (laws_FnExactRowBoat.keptB BK4.out hkp (by have hn_ := HN.out; omega)); replace BK5 := Aside0.mk (laws_FnExactRowBoat.keptB BK5.out hkp (by have hn_ := HN.out; omega)); replace HO32 := Aside0.mk (Kd.R_reok rfl hy0 (fun k_ e_ => HO32.out.1 k_ e_)); replace HB := Aside0.mk hb; replace HT := Aside0.mk (Nat.le_trans HT.out hkp.1); clear hy0 hb hkp; have hl_ := (Kd.R_reads' HO32.out).1; rw [hl_] at HO32 BK5; (try simp only [hl_]); clear hl_; (try clear cz5_0 cz5_1); have cz5_0 : W54.cell? ⟨gb5, 0, none⟩ = some (.slice B32 t56.length d32) := (blk_cell BK5.out 0).trans rfl; have cz5_1 : W54.cell? ⟨gb5, 1, none⟩ = some (.bool t30) := (blk_cell BK5.out 1).trans rfl) | ((with_reducible refine gate_dst (N := 92) rfl ?_); refine goesL_ (some 92) rfl rfl Try.func23 (by kernel_rfl) rfl #[.agg #[.slice B32 t56.length d32, .bool t30], .int .i64 1] rfl (by (try simp only [List.map_toArray, List.map_cons, List.map_nil]); first | done | rfl) ?_; (with_reducible refine (laws_heldState.calls k _ _ t56 t30 1 t58 _ (Kd.R_reads' HO32.out).2.2 (Kd.R_reads' HO32.out).2.1 A57.out).mono ?_); rintro e W55 ⟨rfl, hb⟩; refine ⟨_, rfl, ?_⟩; replace HO17 := Aside0.mk (Kd.R_below HO17.out hb); replace HO32 := Aside0.mk (Kd.R_below HO32.out hb); replace BK1 := Aside0.mk (blk_below (g := gb1) (o := .cells #[.int .i64 a0_0, .int .i64 a0_1] 29 (0, 0)) BK1.out hb); replace BK2 := Aside0.mk (blk_below (g := gb2) (o := .cells #[.slice A1_0 l1_0.length c1_0, .bool a1_1] 37 (0, 0)) BK2.out hb); replace BK3 := Aside0.mk (blk_below (g := gb3) (o := .cells #[.slice B17 t14.length d17, .bool t15] 40 (0, 0)) BK3.out hb); replace BK4 := Aside0.mk (blk_below (g := gb4) (o := .cells #[.slice B21 t48.length d21, .bool t20] 40 (0, 0)) BK4.out hb); replace BK5 := Aside0.mk (blk_below (g := gb5) (o := .cells #[.slice B32 t56.length d32, .bool t30] 40 (0, 0)) BK5.out hb); replace HB := Aside0.mk (below_step HB.out hb); replace HT := Aside0.mk (Nat.le_trans HT.out hb.size); clear hb; (try clear cz5_0 cz5_1)))
  have hb : Below W55.heap.size W55 W55.drew := below_drew (Below.refl _ _)
  replace HO17 := Aside0.mk (Kd.R_below HO17.out hb)
  replace HO32 := Aside0.mk (Kd.R_below HO32.out hb)
  replace BK1 := Aside0.mk (blk_below (g := gb1) (o := .cells #[.int .i64 a0_0, .int .i64 a0_1] 29 (0, 0)) BK1.out hb)
  replace BK2 := Aside0.mk (blk_below (g := gb2) (o := .cells #[.slice A1_0 l1_0.length c1_0, .bool a1_1] 37 (0, 0)) BK2.out hb)
  replace BK3 := Aside0.mk (blk_below (g := gb3) (o := .cells #[.slice B17 t14.length d17, .bool t15] 40 (0, 0)) BK3.out hb)
  replace BK4 := Aside0.mk (blk_below (g := gb4) (o := .cells #[.slice B21 t48.length d21, .bool t20] 40 (0, 0)) BK4.out hb)
  replace BK5 := Aside0.mk (blk_below (g := gb5) (o := .cells #[.slice B32 t56.length d32, .bool t30] 40 (0, 0)) BK5.out hb)
  replace HB := Aside0.mk (below_step HB.out hb)
  replace HT := Aside0.mk (Nat.le_trans HT.out hb.size)
  clear hb
  refine start_ (n := 13) (S := fun w' => w'.cell? ⟨gb1, 0, none⟩ = some (.int .i64 a0_0) ∧ w'.cell? ⟨gb1, 1, none⟩ = some (.int .i64 a0_1) ∧ w'.cell? ⟨gb2, 0, none⟩ = some (.slice A1_0 l1_0.length c1_0) ∧ w'.cell? ⟨gb2, 1, none⟩ = some (.bool a1_1)) (ds := []) #[false, false, false, false, false, false, false, false, false, false, false, false, false] (by kernel_rfl) rfl rfl ⟨(blk_cell BK1.out 0).trans rfl, (blk_cell BK1.out 1).trans rfl, (blk_cell BK2.out 0).trans rfl, (blk_cell BK2.out 1).trans rfl⟩ (fun hHeld => ?_)
  generalize W55.drew = W56 at HO17 HO32 BK1 BK2 BK3 BK4 BK5 HB HT hHeld ⊢
  refine take_ (i := 0) (N := some 99) (v := ?_) (a' := ?_) #[true, false, false, false, false, false, false, false, false, false, false, false, false] rfl rfl (by kernel_rfl) (fun _ _ _ h => h) (Or.inl ⟨by rfl, ?_⟩) hHeld ?_ ?_
  rotate_left
  · rintro w' ⟨s0, s1, s2, s3⟩
    go_simp
    with_reducible rfl
  rotate_left
  · simp only [Act.put, List.setIfInBounds_toArray, List.set_cons_zero, List.set_cons_succ, i64_w, i32_w]
    rfl
  refine take_ (i := 2) (N := some 101) (v := ?_) (a' := ?_) #[true, false, true, false, false, false, false, false, false, false, false, false, false] rfl rfl (by kernel_rfl) (fun _ _ _ h => h) (Or.inl ⟨by rfl, ?_⟩) hHeld ?_ ?_
  rotate_left
  · rintro w' ⟨s0, s1, s2, s3⟩
    go_simp
    with_reducible rfl
  rotate_left
  · simp only [Act.put, List.setIfInBounds_toArray, List.set_cons_zero, List.set_cons_succ, i64_w, i32_w]
    rfl
  refine pure_ (i := 4) (N := some 103) (v := ?_) (a' := ?_) #[true, false, true, false, true, false, false, false, false, false, false, false, false] rfl rfl (by kernel_rfl) (fun _ _ _ h => h) (Or.inl ⟨by rfl, ?_⟩) ?_ ?_
  rotate_left
  · intro w'
    go_simp
    with_reducible rfl
  rotate_left
  · simp only [Act.put, List.setIfInBounds_toArray, List.set_cons_zero, List.set_cons_succ, i64_w, i32_w]
    rfl
  refine join_ (σ := Option Addr × Nat × Option Addr × Nat × Option Addr × Nat × Nat) 2 #[true, true, true, true, true, true, true, true, true, true, true, false, false] (fun s => [(100, .agg #[.int .i64 t60, .int .i64 t61]), (102, .agg #[.slice s.1 t63.length s.2.1, .bool t64]), (104, .slice s.2.2.1 t67.length s.2.2.2.1), (105, .tuple #[.agg #[.slice s.2.2.2.2.1 t70.length s.2.2.2.2.2.1, .bool t71], .bool t72]), (98, .tuple #[.agg #[.slice s.2.2.2.2.1 t70.length s.2.2.2.2.2.1, .bool t71], .bool t72]), (106, .agg #[.slice s.2.2.2.2.1 t70.length s.2.2.2.2.2.1, .bool t71]), (107, .bool t72), (17, .pointer (some ⟨s.2.2.2.2.2.2, 0, none⟩))]) (fun s w' => ∃ lo73 hi73 T_ : Nat, Aside0 (Kd.R Kd.bool 4 w' w.heap.size (fun k_ => lo17 ≤ k_ ∧ k_ < hi17) (.slice B17 t14.length d17) t14) ∧ Aside0 (Kd.R Kd.bool 4 w' w.heap.size (fun k_ => lo32 ≤ k_ ∧ k_ < hi32) (.slice B32 t56.length d32) t56) ∧ Aside0 (Kd.R Kd.bool 4 w' w.heap.size (fun k_ => lo73 ≤ k_ ∧ k_ < hi73) (.slice s.2.2.2.2.1 t70.length s.2.2.2.2.2.1) t70) ∧ Aside0 (w'.heap[gb1]? = some (.cells #[.int .i64 a0_0, .int .i64 a0_1] 29 (0, 0))) ∧ Aside0 (w'.heap[gb2]? = some (.cells #[.slice A1_0 l1_0.length c1_0, .bool a1_1] 37 (0, 0))) ∧ Aside0 (w'.heap[gb3]? = some (.cells #[.slice B17 t14.length d17, .bool t15] 40 (0, 0))) ∧ Aside0 (w'.heap[gb4]? = some (.cells #[.slice B21 t48.length d21, .bool t20] 40 (0, 0))) ∧ Aside0 (w'.heap[gb5]? = some (.cells #[.slice B32 t56.length d32, .bool t30] 40 (0, 0))) ∧ Aside0 (w'.heap[s.2.2.2.2.2.2]? = some (.cells #[.slice none 0 0, .bool false] 40 (0, 0))) ∧ Aside0 (Below w.heap.size w w') ∧ Aside0 (T_ ≤ w'.heap.size) ∧ Aside0 (w.heap.size ≤ s.2.2.2.2.2.2) ∧ Aside0 (hi43 ≤ s.2.2.2.2.2.2 ∧ s.2.2.2.2.2.2 < T_ ∧ hi43 ≤ lo73 ∧ lo73 ≤ hi73 ∧ hi73 ≤ T_ ∧ (s.2.2.2.2.2.2 < lo73 ∨ hi73 ≤ s.2.2.2.2.2.2))) ?_ ?_
  rotate_left
  · intro hJ4
    refine join_ (σ := Option Addr × Nat × Option Addr × Nat × Nat) 6 #[true, true, true, true, true, true, false, false, false, false, true, false, false] (fun s => [(100, .agg #[.int .i64 t60, .int .i64 t61]), (102, .agg #[.slice s.1 t63.length s.2.1, .bool t64]), (104, .slice s.2.2.1 t67.length s.2.2.2.1), (17, .pointer (some ⟨s.2.2.2.2, 0, none⟩))]) (fun s w' => ∃ lo65 hi65 lo68 hi68 T_ : Nat, Aside0 (Kd.R Kd.bool 4 w' w.heap.size (fun k_ => lo17 ≤ k_ ∧ k_ < hi17) (.slice B17 t14.length d17) t14) ∧ Aside0 (Kd.R Kd.bool 4 w' w.heap.size (fun k_ => lo32 ≤ k_ ∧ k_ < hi32) (.slice B32 t56.length d32) t56) ∧ Aside0 (Kd.R Kd.bool 4 w' w.heap.size (fun k_ => lo65 ≤ k_ ∧ k_ < hi65) (.slice s.1 t63.length s.2.1) t63) ∧ Aside0 (Kd.R (Kd.int .i64) 3 w' w.heap.size (fun k_ => lo68 ≤ k_ ∧ k_ < hi68) (.slice s.2.2.1 t67.length s.2.2.2.1) t67) ∧ Aside0 (w'.heap[gb1]? = some (.cells #[.int .i64 a0_0, .int .i64 a0_1] 29 (0, 0))) ∧ Aside0 (w'.heap[gb2]? = some (.cells #[.slice A1_0 l1_0.length c1_0, .bool a1_1] 37 (0, 0))) ∧ Aside0 (w'.heap[gb3]? = some (.cells #[.slice B17 t14.length d17, .bool t15] 40 (0, 0))) ∧ Aside0 (w'.heap[gb4]? = some (.cells #[.slice B21 t48.length d21, .bool t20] 40 (0, 0))) ∧ Aside0 (w'.heap[gb5]? = some (.cells #[.slice B32 t56.length d32, .bool t30] 40 (0, 0))) ∧ Aside0 (w'.heap[s.2.2.2.2]? = some (.cells #[.slice none 0 0, .bool false] 40 (0, 0))) ∧ Aside0 (Below w.heap.size w w') ∧ Aside0 (T_ ≤ w'.heap.size) ∧ Aside0 (w.heap.size ≤ s.2.2.2.2) ∧ Aside0 (hi43 ≤ s.2.2.2.2 ∧ s.2.2.2.2 < T_ ∧ hi43 ≤ lo65 ∧ lo65 ≤ hi65 ∧ hi65 ≤ T_ ∧ (s.2.2.2.2 < lo65 ∨ hi65 ≤ s.2.2.2.2) ∧ hi43 ≤ lo68 ∧ lo68 ≤ hi68 ∧ hi68 ≤ T_ ∧ (s.2.2.2.2 < lo68 ∨ hi68 ≤ s.2.2.2.2) ∧ hi65 ≤ lo68)) ?_ ?_
    rotate_left
    · intro hJ3
      refine join_ (σ := Option Addr × Nat × Nat) 7 #[true, true, true, true, true, false, false, false, false, false, true, false, false] (fun s => [(100, .agg #[.int .i64 t60, .int .i64 t61]), (102, .agg #[.slice s.1 t63.length s.2.1, .bool t64]), (17, .pointer (some ⟨s.2.2, 0, none⟩))]) (fun s w' => ∃ lo65 hi65 T_ : Nat, Aside0 (Kd.R Kd.bool 4 w' w.heap.size (fun k_ => lo17 ≤ k_ ∧ k_ < hi17) (.slice B17 t14.length d17) t14) ∧ Aside0 (Kd.R Kd.bool 4 w' w.heap.size (fun k_ => lo32 ≤ k_ ∧ k_ < hi32) (.slice B32 t56.length d32) t56) ∧ Aside0 (Kd.R Kd.bool 4 w' w.heap.size (fun k_ => lo65 ≤ k_ ∧ k_ < hi65) (.slice s.1 t63.length s.2.1) t63) ∧ Aside0 (w'.heap[gb1]? = some (.cells #[.int .i64 a0_0, .int .i64 a0_1] 29 (0, 0))) ∧ Aside0 (w'.heap[gb2]? = some (.cells #[.slice A1_0 l1_0.length c1_0, .bool a1_1] 37 (0, 0))) ∧ Aside0 (w'.heap[gb3]? = some (.cells #[.slice B17 t14.length d17, .bool t15] 40 (0, 0))) ∧ Aside0 (w'.heap[gb4]? = some (.cells #[.slice B21 t48.length d21, .bool t20] 40 (0, 0))) ∧ Aside0 (w'.heap[gb5]? = some (.cells #[.slice B32 t56.length d32, .bool t30] 40 (0, 0))) ∧ Aside0 (w'.heap[s.2.2]? = some (.cells #[.slice none 0 0, .bool false] 40 (0, 0))) ∧ Aside0 (Below w.heap.size w w') ∧ Aside0 (T_ ≤ w'.heap.size) ∧ Aside0 (w.heap.size ≤ s.2.2) ∧ Aside0 (hi43 ≤ s.2.2 ∧ s.2.2 < T_ ∧ hi43 ≤ lo65 ∧ lo65 ≤ hi65 ∧ hi65 ≤ T_ ∧ (s.2.2 < lo65 ∨ hi65 ≤ s.2.2))) ?_ ?_
      rotate_left
      · intro hJ2
        refine join_ (σ := Nat) 8 #[true, true, true, false, true, false, false, false, false, false, true, false, false] (fun s => [(100, .agg #[.int .i64 t60, .int .i64 t61]), (17, .pointer (some ⟨s, 0, none⟩))]) (fun s w' => ∃ T_ : Nat, Aside0 (Kd.R Kd.bool 4 w' w.heap.size (fun k_ => lo17 ≤ k_ ∧ k_ < hi17) (.slice B17 t14.length d17) t14) ∧ Aside0 (Kd.R Kd.bool 4 w' w.heap.size (fun k_ => lo32 ≤ k_ ∧ k_ < hi32) (.slice B32 t56.length d32) t56) ∧ Aside0 (w'.heap[gb1]? = some (.cells #[.int .i64 a0_0, .int .i64 a0_1] 29 (0, 0))) ∧ Aside0 (w'.heap[gb2]? = some (.cells #[.slice A1_0 l1_0.length c1_0, .bool a1_1] 37 (0, 0))) ∧ Aside0 (w'.heap[gb3]? = some (.cells #[.slice B17 t14.length d17, .bool t15] 40 (0, 0))) ∧ Aside0 (w'.heap[gb4]? = some (.cells #[.slice B21 t48.length d21, .bool t20] 40 (0, 0))) ∧ Aside0 (w'.heap[gb5]? = some (.cells #[.slice B32 t56.length d32, .bool t30] 40 (0, 0))) ∧ Aside0 (w'.heap[s]? = some (.cells #[.slice none 0 0, .bool false] 40 (0, 0))) ∧ Aside0 (Below w.heap.size w w') ∧ Aside0 (T_ ≤ w'.heap.size) ∧ Aside0 (w.heap.size ≤ s) ∧ Aside0 (hi43 ≤ s ∧ s < T_)) ?_ ?_
        rotate_left
        · intro hJ1
          refine join_ (σ := Nat) 9 #[true, false, true, false, true, false, false, false, false, false, true, false, false] (fun s => [(17, .pointer (some ⟨s, 0, none⟩))]) (fun s w' => ∃ T_ : Nat, Aside0 (Kd.R Kd.bool 4 w' w.heap.size (fun k_ => lo17 ≤ k_ ∧ k_ < hi17) (.slice B17 t14.length d17) t14) ∧ Aside0 (Kd.R Kd.bool 4 w' w.heap.size (fun k_ => lo32 ≤ k_ ∧ k_ < hi32) (.slice B32 t56.length d32) t56) ∧ Aside0 (w'.heap[gb1]? = some (.cells #[.int .i64 a0_0, .int .i64 a0_1] 29 (0, 0))) ∧ Aside0 (w'.heap[gb2]? = some (.cells #[.slice A1_0 l1_0.length c1_0, .bool a1_1] 37 (0, 0))) ∧ Aside0 (w'.heap[gb3]? = some (.cells #[.slice B17 t14.length d17, .bool t15] 40 (0, 0))) ∧ Aside0 (w'.heap[gb4]? = some (.cells #[.slice B21 t48.length d21, .bool t20] 40 (0, 0))) ∧ Aside0 (w'.heap[gb5]? = some (.cells #[.slice B32 t56.length d32, .bool t30] 40 (0, 0))) ∧ Aside0 (w'.heap[s]? = some (.cells #[.slice none 0 0, .bool false] 40 (0, 0))) ∧ Aside0 (Below w.heap.size w w') ∧ Aside0 (T_ ≤ w'.heap.size) ∧ Aside0 (w.heap.size ≤ s) ∧ Aside0 (hi43 ≤ s ∧ s < T_)) ?_ ?_
          rotate_left
          · intro hJ0
            refine two_ (i := 1) (j := 10) (Ni := some 100) (Nj := some 17) #[true, true, true, false, true, false, false, false, false, false, false, false, false] #[true, false, true, false, true, false, false, false, false, false, true, false, false] rfl rfl rfl rfl (by kernel_rfl) (by decide) (by decide) (fun K hK => ?_) (fun K hK => ?_)
            · skip
              refine goes_ Try.func12 (by kernel_rfl) rfl #[.agg #[.int .i64 a0_0, .int .i64 a0_1]] (by rfl) rfl rfl (by (try simp only [List.map_toArray, List.map_cons, List.map_nil]); first | done | rfl) ?_
              with_reducible refine (laws_toCompany.calls a0_0 a0_1 t60 t61 _  A59.out).mono ?_
              rintro e W57 ⟨rfl, hb⟩
              refine ⟨_, rfl, ?_⟩
              replace HO17 := Aside0.mk (Kd.R_below HO17.out hb)
              replace HO32 := Aside0.mk (Kd.R_below HO32.out hb)
              replace BK1 := Aside0.mk (blk_below (g := gb1) (o := .cells #[.int .i64 a0_0, .int .i64 a0_1] 29 (0, 0)) BK1.out hb)
              replace BK2 := Aside0.mk (blk_below (g := gb2) (o := .cells #[.slice A1_0 l1_0.length c1_0, .bool a1_1] 37 (0, 0)) BK2.out hb)
              replace BK3 := Aside0.mk (blk_below (g := gb3) (o := .cells #[.slice B17 t14.length d17, .bool t15] 40 (0, 0)) BK3.out hb)
              replace BK4 := Aside0.mk (blk_below (g := gb4) (o := .cells #[.slice B21 t48.length d21, .bool t20] 40 (0, 0)) BK4.out hb)
              replace BK5 := Aside0.mk (blk_below (g := gb5) (o := .cells #[.slice B32 t56.length d32, .bool t30] 40 (0, 0)) BK5.out hb)
              replace HB := Aside0.mk (below_step HB.out hb)
              replace HT := Aside0.mk (Nat.le_trans HT.out hb.size)
              clear hb
              refine hK.out _ _ ⟨(blk_cell BK1.out 0).trans rfl, (blk_cell BK1.out 1).trans rfl, (blk_cell BK2.out 0).trans rfl, (blk_cell BK2.out 1).trans rfl⟩ (fun hHeld => ?_)
              clear hK K
              refine norm_ (a' := ?_) ?_ ?_
              rotate_left
              · show Act.put _ (some 100) _ = _
                simp only [Act.put, List.setIfInBounds_toArray, List.set_cons_zero, List.set_cons_succ, i64_w, i32_w]
                rfl
              refine two_ (i := 3) (j := 10) (Ni := some 102) (Nj := some 17) #[true, true, true, true, true, false, false, false, false, false, false, false, false] #[true, true, true, false, true, false, false, false, false, false, true, false, false] rfl rfl rfl rfl (by kernel_rfl) (by decide) (by decide) (fun K hK => ?_) (fun K hK => ?_)
              · skip
                refine goes_ Try.func16 (by kernel_rfl) rfl #[.agg #[.slice A1_0 l1_0.length c1_0, .bool a1_1]] (by rfl) rfl rfl (by (try simp only [List.map_toArray, List.map_cons, List.map_nil]); first | done | rfl) ?_
                with_reducible refine (laws_toState.calls k _ _ l1_0 a1_1 t63 t64 _ (Kd.C_below HR1_0.out HB.out) HC1_0.out A62.out).mono ?_
                rintro e W58 ⟨v65, rfl, ho65, hb⟩
                refine ⟨_, rfl, ?_⟩
                obtain ⟨B65, d65, e_⟩ := Kd.R_slice ho65
                subst e_
                obtain ⟨lo65, hi65, nn, ht_, hO65⟩ := laws_FnExactRowBoat.newR ho65 HT.out (below_size HB.out) hb.size
                replace HO17 := Aside0.mk (Kd.R_below HO17.out hb)
                replace HO32 := Aside0.mk (Kd.R_below HO32.out hb)
                replace BK1 := Aside0.mk (blk_below (g := gb1) (o := .cells #[.int .i64 a0_0, .int .i64 a0_1] 29 (0, 0)) BK1.out hb)
                replace BK2 := Aside0.mk (blk_below (g := gb2) (o := .cells #[.slice A1_0 l1_0.length c1_0, .bool a1_1] 37 (0, 0)) BK2.out hb)
                replace BK3 := Aside0.mk (blk_below (g := gb3) (o := .cells #[.slice B17 t14.length d17, .bool t15] 40 (0, 0)) BK3.out hb)
                replace BK4 := Aside0.mk (blk_below (g := gb4) (o := .cells #[.slice B21 t48.length d21, .bool t20] 40 (0, 0)) BK4.out hb)
                replace BK5 := Aside0.mk (blk_below (g := gb5) (o := .cells #[.slice B32 t56.length d32, .bool t30] 40 (0, 0)) BK5.out hb)
                replace HB := Aside0.mk (below_step HB.out hb)
                replace HT := Aside0.mk (Nat.le_trans HT.out hb.size)
                have HO65 := Aside0.mk hO65
                replace HT := Aside0.mk ht_
                replace HN := Aside0.mk (And.intro nn HN.out)
                clear ho65 hO65 nn ht_
                clear hb
                refine hK.out _ _ ⟨(blk_cell BK1.out 0).trans rfl, (blk_cell BK1.out 1).trans rfl, (blk_cell BK2.out 0).trans rfl, (blk_cell BK2.out 1).trans rfl⟩ (fun hHeld => ?_)
                clear hK K
                refine norm_ (a' := ?_) ?_ ?_
                rotate_left
                · show Act.put _ (some 102) _ = _
                  simp only [Act.put, List.setIfInBounds_toArray, List.set_cons_zero, List.set_cons_succ, i64_w, i32_w]
                  rfl
                refine two_ (i := 5) (j := 10) (Ni := some 104) (Nj := some 17) #[true, true, true, true, true, true, false, false, false, false, false, false, false] #[true, true, true, true, true, false, false, false, false, false, true, false, false] rfl rfl rfl rfl (by kernel_rfl) (by decide) (by decide) (fun K hK => ?_) (fun K hK => ?_)
                · skip
                  refine goes_ Try.func8 (by kernel_rfl) rfl #[.slice A2 l2.length c2] (by rfl) rfl rfl (by (try simp only [List.map_toArray, List.map_cons, List.map_nil]); first | done | rfl) ?_
                  with_reducible refine (laws_toIntS.calls k _ _ l2 t67 _ (Kd.C_below HR2.out HB.out) HC2.out A66.out).mono ?_
                  rintro e W59 ⟨v68, rfl, ho68, hb⟩
                  refine ⟨_, rfl, ?_⟩
                  obtain ⟨B68, d68, e_⟩ := Kd.R_slice ho68
                  subst e_
                  obtain ⟨lo68, hi68, nn, ht_, hO68⟩ := laws_FnExactRowBoat.newR ho68 HT.out (below_size HB.out) hb.size
                  replace HO17 := Aside0.mk (Kd.R_below HO17.out hb)
                  replace HO32 := Aside0.mk (Kd.R_below HO32.out hb)
                  replace HO65 := Aside0.mk (Kd.R_below HO65.out hb)
                  replace BK1 := Aside0.mk (blk_below (g := gb1) (o := .cells #[.int .i64 a0_0, .int .i64 a0_1] 29 (0, 0)) BK1.out hb)
                  replace BK2 := Aside0.mk (blk_below (g := gb2) (o := .cells #[.slice A1_0 l1_0.length c1_0, .bool a1_1] 37 (0, 0)) BK2.out hb)
                  replace BK3 := Aside0.mk (blk_below (g := gb3) (o := .cells #[.slice B17 t14.length d17, .bool t15] 40 (0, 0)) BK3.out hb)
                  replace BK4 := Aside0.mk (blk_below (g := gb4) (o := .cells #[.slice B21 t48.length d21, .bool t20] 40 (0, 0)) BK4.out hb)
                  replace BK5 := Aside0.mk (blk_below (g := gb5) (o := .cells #[.slice B32 t56.length d32, .bool t30] 40 (0, 0)) BK5.out hb)
                  replace HB := Aside0.mk (below_step HB.out hb)
                  replace HT := Aside0.mk (Nat.le_trans HT.out hb.size)
                  have HO68 := Aside0.mk hO68
                  replace HT := Aside0.mk ht_
                  replace HN := Aside0.mk (And.intro nn HN.out)
                  clear ho68 hO68 nn ht_
                  clear hb
                  refine hK.out _ _ ⟨(blk_cell BK1.out 0).trans rfl, (blk_cell BK1.out 1).trans rfl, (blk_cell BK2.out 0).trans rfl, (blk_cell BK2.out 1).trans rfl⟩ (fun hHeld => ?_)
                  clear hK K
                  refine norm_ (a' := ?_) ?_ ?_
                  rotate_left
                  · show Act.put _ (some 104) _ = _
                    simp only [Act.put, List.setIfInBounds_toArray, List.set_cons_zero, List.set_cons_succ, i64_w, i32_w]
                    rfl
                  refine two_ (i := 6) (j := 10) (Ni := some 105) (Nj := some 17) #[true, true, true, true, true, true, true, false, false, false, false, false, false] #[true, true, true, true, true, true, false, false, false, false, true, false, false] rfl rfl rfl rfl (by kernel_rfl) (by decide) (by decide) (fun K hK => ?_) (fun K hK => ?_)
                  · skip
                    refine goes_ Try.func20 (by kernel_rfl) rfl #[.agg #[.int .i64 t60, .int .i64 t61], .agg #[.slice B65 t63.length d65, .bool t64], .slice B68 t67.length d68] (by rfl) rfl rfl (by (try simp only [List.map_toArray, List.map_cons, List.map_nil]); first | done | rfl) ?_
                    with_reducible refine (impl_RowBoat.calls k t60 t61 _ _ t63 t64 _ _ t67 t70 t71 t72 _ (Kd.R_reads' HO65.out).2.2 (Kd.R_reads' HO65.out).2.1 (Kd.R_reads' HO68.out).2.2 (Kd.R_reads' HO68.out).2.1 A69.out).mono ?_
                    rintro e W60 ⟨v73, rfl, ho73, hb⟩
                    refine ⟨_, rfl, ?_⟩
                    obtain ⟨B73, d73, e_⟩ := Kd.R_slice ho73
                    subst e_
                    obtain ⟨lo73, hi73, nn, ht_, hO73⟩ := laws_FnExactRowBoat.newR ho73 HT.out (below_size HB.out) hb.size
                    replace HO17 := Aside0.mk (Kd.R_below HO17.out hb)
                    replace HO32 := Aside0.mk (Kd.R_below HO32.out hb)
                    replace HO65 := Aside0.mk (Kd.R_below HO65.out hb)
                    replace HO68 := Aside0.mk (Kd.R_below HO68.out hb)
                    replace BK1 := Aside0.mk (blk_below (g := gb1) (o := .cells #[.int .i64 a0_0, .int .i64 a0_1] 29 (0, 0)) BK1.out hb)
                    replace BK2 := Aside0.mk (blk_below (g := gb2) (o := .cells #[.slice A1_0 l1_0.length c1_0, .bool a1_1] 37 (0, 0)) BK2.out hb)
                    replace BK3 := Aside0.mk (blk_below (g := gb3) (o := .cells #[.slice B17 t14.length d17, .bool t15] 40 (0, 0)) BK3.out hb)
                    replace BK4 := Aside0.mk (blk_below (g := gb4) (o := .cells #[.slice B21 t48.length d21, .bool t20] 40 (0, 0)) BK4.out hb)
                    replace BK5 := Aside0.mk (blk_below (g := gb5) (o := .cells #[.slice B32 t56.length d32, .bool t30] 40 (0, 0)) BK5.out hb)
                    replace HB := Aside0.mk (below_step HB.out hb)
                    replace HT := Aside0.mk (Nat.le_trans HT.out hb.size)
                    have HO73 := Aside0.mk hO73
                    replace HT := Aside0.mk ht_
                    replace HN := Aside0.mk (And.intro nn HN.out)
                    clear ho73 hO73 nn ht_
                    clear hb
                    clear HO65 HO68
                    refine hK.out _ _ ⟨(blk_cell BK1.out 0).trans rfl, (blk_cell BK1.out 1).trans rfl, (blk_cell BK2.out 0).trans rfl, (blk_cell BK2.out 1).trans rfl⟩ (fun hHeld => ?_)
                    clear hK K
                    refine norm_ (a' := ?_) ?_ ?_
                    rotate_left
                    · show Act.put _ (some 105) _ = _
                      simp only [Act.put, List.setIfInBounds_toArray, List.set_cons_zero, List.set_cons_succ, i64_w, i32_w]
                      rfl
                    refine pure_ (i := 7) (N := some 98) (v := ?_) (a' := ?_) #[true, true, true, true, true, true, true, true, false, false, false, false, false] rfl rfl (by kernel_rfl) (fun _ _ _ h => h) (Or.inl ⟨by rfl, ?_⟩) ?_ ?_
                    rotate_left
                    · intro w'
                      go_simp
                      with_reducible rfl
                    rotate_left
                    · simp only [Act.put, List.setIfInBounds_toArray, List.set_cons_zero, List.set_cons_succ, i64_w, i32_w]
                      rfl
                    refine pure_ (i := 8) (N := some 106) (v := ?_) (a' := ?_) #[true, true, true, true, true, true, true, true, true, false, false, false, false] rfl rfl (by kernel_rfl) (fun _ _ _ h => h) (Or.inl ⟨by rfl, ?_⟩) ?_ ?_
                    rotate_left
                    · intro w'
                      go_simp
                      with_reducible rfl
                    rotate_left
                    · simp only [Act.put, List.setIfInBounds_toArray, List.set_cons_zero, List.set_cons_succ, i64_w, i32_w]
                      rfl
                    refine pure_ (i := 9) (N := some 107) (v := ?_) (a' := ?_) #[true, true, true, true, true, true, true, true, true, true, false, false, false] rfl rfl (by kernel_rfl) (fun _ _ _ h => h) (Or.inl ⟨by rfl, ?_⟩) ?_ ?_
                    rotate_left
                    · intro w'
                      go_simp
                      with_reducible rfl
                    rotate_left
                    · simp only [Act.put, List.setIfInBounds_toArray, List.set_cons_zero, List.set_cons_succ, i64_w, i32_w]
                      rfl
                    refine one_ (i := 10) (N := some 17) #[true, true, true, true, true, true, true, true, true, true, true, false, false] rfl rfl (by kernel_rfl) (by decide) (fun K hK => ?_)
                    refine box_step (by rfl) (N := 17) rfl (cs := #[.slice none 0 0, .bool false]) (t := 40) ?hr ?_
                    (case hr => first | (go_simp; done) | (go_simp; rfl))
                    intro gb6 hg W61 hbox hb
                    have nn : hi73 ≤ gb6 := Nat.le_trans HT.out (Nat.le_of_eq hg.symm)
                    have GE6 := Aside0.mk (Nat.le_trans (below_size HB.out) (Nat.le_of_eq hg.symm))
                    replace HO17 := Aside0.mk (Kd.R_below HO17.out hb)
                    replace HO32 := Aside0.mk (Kd.R_below HO32.out hb)
                    replace HO73 := Aside0.mk (Kd.R_below HO73.out hb)
                    replace BK1 := Aside0.mk (blk_below (g := gb1) (o := .cells #[.int .i64 a0_0, .int .i64 a0_1] 29 (0, 0)) BK1.out hb)
                    replace BK2 := Aside0.mk (blk_below (g := gb2) (o := .cells #[.slice A1_0 l1_0.length c1_0, .bool a1_1] 37 (0, 0)) BK2.out hb)
                    replace BK3 := Aside0.mk (blk_below (g := gb3) (o := .cells #[.slice B17 t14.length d17, .bool t15] 40 (0, 0)) BK3.out hb)
                    replace BK4 := Aside0.mk (blk_below (g := gb4) (o := .cells #[.slice B21 t48.length d21, .bool t20] 40 (0, 0)) BK4.out hb)
                    replace BK5 := Aside0.mk (blk_below (g := gb5) (o := .cells #[.slice B32 t56.length d32, .bool t30] 40 (0, 0)) BK5.out hb)
                    replace HB := Aside0.mk (below_step HB.out hb)
                    replace HT := Aside0.mk (Nat.le_trans HT.out hb.size)
                    have BK6 := Aside0.mk hbox
                    replace HT := Aside0.mk (Nat.succ_le_of_lt (blk_lt hbox))
                    replace HN := Aside0.mk (And.intro nn HN.out)
                    clear hg hbox hb nn
                    refine hK.out _ _ ⟨(blk_cell BK1.out 0).trans rfl, (blk_cell BK1.out 1).trans rfl, (blk_cell BK2.out 0).trans rfl, (blk_cell BK2.out 1).trans rfl⟩ (fun hHeld => ?_)
                    clear hK K
                    refine norm_ (a' := ?_) ?_ ?_
                    rotate_left
                    · show Act.put _ (some 17) _ = _
                      simp only [Act.put, List.setIfInBounds_toArray, List.set_cons_zero, List.set_cons_succ, i64_w, i32_w]
                      rfl
                    exact norm_ (by first | (simp only [putAll, Act.put, List.setIfInBounds_toArray, List.set_cons_zero, List.set_cons_succ]; done) | (simp only [putAll, Act.put, List.setIfInBounds_toArray, List.set_cons_zero, List.set_cons_succ]; rfl)) (hJ4 (B65, d65, B68, d68, B73, d73, gb6) _ ⟨lo73, hi73, gb6.succ, HO17, HO32, HO73, BK1, BK2, BK3, BK4, BK5, BK6, HB, HT, GE6, ⟨by have hn_ := HN.out; (try dsimp only); omega⟩⟩)
                  · skip
                    refine box_step (by rfl) (N := 17) rfl (cs := #[.slice none 0 0, .bool false]) (t := 40) ?hr ?_
                    (case hr => first | (go_simp; done) | (go_simp; rfl))
                    intro gb6 hg W62 hbox hb
                    have nn : hi68 ≤ gb6 := Nat.le_trans HT.out (Nat.le_of_eq hg.symm)
                    have GE6 := Aside0.mk (Nat.le_trans (below_size HB.out) (Nat.le_of_eq hg.symm))
                    replace HO17 := Aside0.mk (Kd.R_below HO17.out hb)
                    replace HO32 := Aside0.mk (Kd.R_below HO32.out hb)
                    replace HO65 := Aside0.mk (Kd.R_below HO65.out hb)
                    replace HO68 := Aside0.mk (Kd.R_below HO68.out hb)
                    replace BK1 := Aside0.mk (blk_below (g := gb1) (o := .cells #[.int .i64 a0_0, .int .i64 a0_1] 29 (0, 0)) BK1.out hb)
                    replace BK2 := Aside0.mk (blk_below (g := gb2) (o := .cells #[.slice A1_0 l1_0.length c1_0, .bool a1_1] 37 (0, 0)) BK2.out hb)
                    replace BK3 := Aside0.mk (blk_below (g := gb3) (o := .cells #[.slice B17 t14.length d17, .bool t15] 40 (0, 0)) BK3.out hb)
                    replace BK4 := Aside0.mk (blk_below (g := gb4) (o := .cells #[.slice B21 t48.length d21, .bool t20] 40 (0, 0)) BK4.out hb)
                    replace BK5 := Aside0.mk (blk_below (g := gb5) (o := .cells #[.slice B32 t56.length d32, .bool t30] 40 (0, 0)) BK5.out hb)
                    replace HB := Aside0.mk (below_step HB.out hb)
                    replace HT := Aside0.mk (Nat.le_trans HT.out hb.size)
                    have BK6 := Aside0.mk hbox
                    replace HT := Aside0.mk (Nat.succ_le_of_lt (blk_lt hbox))
                    replace HN := Aside0.mk (And.intro nn HN.out)
                    clear hg hbox hb nn
                    refine hK.out _ _ ⟨(blk_cell BK1.out 0).trans rfl, (blk_cell BK1.out 1).trans rfl, (blk_cell BK2.out 0).trans rfl, (blk_cell BK2.out 1).trans rfl⟩ (fun hHeld => ?_)
                    clear hK K
                    refine norm_ (a' := ?_) ?_ ?_
                    rotate_left
                    · show Act.put _ (some 17) _ = _
                      simp only [Act.put, List.setIfInBounds_toArray, List.set_cons_zero, List.set_cons_succ, i64_w, i32_w]
                      rfl
                    exact norm_ (by first | (simp only [putAll, Act.put, List.setIfInBounds_toArray, List.set_cons_zero, List.set_cons_succ]; done) | (simp only [putAll, Act.put, List.setIfInBounds_toArray, List.set_cons_zero, List.set_cons_succ]; rfl)) (hJ3 (B65, d65, B68, d68, gb6) _ ⟨lo65, hi65, lo68, hi68, gb6.succ, HO17, HO32, HO65, HO68, BK1, BK2, BK3, BK4, BK5, BK6, HB, HT, GE6, ⟨by have hn_ := HN.out; (try dsimp only); omega⟩⟩)
                · skip
                  refine box_step (by rfl) (N := 17) rfl (cs := #[.slice none 0 0, .bool false]) (t := 40) ?hr ?_
                  (case hr => first | (go_simp; done) | (go_simp; rfl))
                  intro gb6 hg W63 hbox hb
                  have nn : hi65 ≤ gb6 := Nat.le_trans HT.out (Nat.le_of_eq hg.symm)
                  have GE6 := Aside0.mk (Nat.le_trans (below_size HB.out) (Nat.le_of_eq hg.symm))
                  replace HO17 := Aside0.mk (Kd.R_below HO17.out hb)
                  replace HO32 := Aside0.mk (Kd.R_below HO32.out hb)
                  replace HO65 := Aside0.mk (Kd.R_below HO65.out hb)
                  replace BK1 := Aside0.mk (blk_below (g := gb1) (o := .cells #[.int .i64 a0_0, .int .i64 a0_1] 29 (0, 0)) BK1.out hb)
                  replace BK2 := Aside0.mk (blk_below (g := gb2) (o := .cells #[.slice A1_0 l1_0.length c1_0, .bool a1_1] 37 (0, 0)) BK2.out hb)
                  replace BK3 := Aside0.mk (blk_below (g := gb3) (o := .cells #[.slice B17 t14.length d17, .bool t15] 40 (0, 0)) BK3.out hb)
                  replace BK4 := Aside0.mk (blk_below (g := gb4) (o := .cells #[.slice B21 t48.length d21, .bool t20] 40 (0, 0)) BK4.out hb)
                  replace BK5 := Aside0.mk (blk_below (g := gb5) (o := .cells #[.slice B32 t56.length d32, .bool t30] 40 (0, 0)) BK5.out hb)
                  replace HB := Aside0.mk (below_step HB.out hb)
                  replace HT := Aside0.mk (Nat.le_trans HT.out hb.size)
                  have BK6 := Aside0.mk hbox
                  replace HT := Aside0.mk (Nat.succ_le_of_lt (blk_lt hbox))
                  replace HN := Aside0.mk (And.intro nn HN.out)
                  clear hg hbox hb nn
                  refine hK.out _ _ ⟨(blk_cell BK1.out 0).trans rfl, (blk_cell BK1.out 1).trans rfl, (blk_cell BK2.out 0).trans rfl, (blk_cell BK2.out 1).trans rfl⟩ (fun hHeld => ?_)
                  clear hK K
                  refine norm_ (a' := ?_) ?_ ?_
                  rotate_left
                  · show Act.put _ (some 17) _ = _
                    simp only [Act.put, List.setIfInBounds_toArray, List.set_cons_zero, List.set_cons_succ, i64_w, i32_w]
                    rfl
                  exact norm_ (by first | (simp only [putAll, Act.put, List.setIfInBounds_toArray, List.set_cons_zero, List.set_cons_succ]; done) | (simp only [putAll, Act.put, List.setIfInBounds_toArray, List.set_cons_zero, List.set_cons_succ]; rfl)) (hJ2 (B65, d65, gb6) _ ⟨lo65, hi65, gb6.succ, HO17, HO32, HO65, BK1, BK2, BK3, BK4, BK5, BK6, HB, HT, GE6, ⟨by have hn_ := HN.out; (try dsimp only); omega⟩⟩)
              · skip
                refine box_step (by rfl) (N := 17) rfl (cs := #[.slice none 0 0, .bool false]) (t := 40) ?hr ?_
                (case hr => first | (go_simp; done) | (go_simp; rfl))
                intro gb6 hg W64 hbox hb
                have nn : hi43 ≤ gb6 := Nat.le_trans HT.out (Nat.le_of_eq hg.symm)
                have GE6 := Aside0.mk (Nat.le_trans (below_size HB.out) (Nat.le_of_eq hg.symm))
                replace HO17 := Aside0.mk (Kd.R_below HO17.out hb)
                replace HO32 := Aside0.mk (Kd.R_below HO32.out hb)
                replace BK1 := Aside0.mk (blk_below (g := gb1) (o := .cells #[.int .i64 a0_0, .int .i64 a0_1] 29 (0, 0)) BK1.out hb)
                replace BK2 := Aside0.mk (blk_below (g := gb2) (o := .cells #[.slice A1_0 l1_0.length c1_0, .bool a1_1] 37 (0, 0)) BK2.out hb)
                replace BK3 := Aside0.mk (blk_below (g := gb3) (o := .cells #[.slice B17 t14.length d17, .bool t15] 40 (0, 0)) BK3.out hb)
                replace BK4 := Aside0.mk (blk_below (g := gb4) (o := .cells #[.slice B21 t48.length d21, .bool t20] 40 (0, 0)) BK4.out hb)
                replace BK5 := Aside0.mk (blk_below (g := gb5) (o := .cells #[.slice B32 t56.length d32, .bool t30] 40 (0, 0)) BK5.out hb)
                replace HB := Aside0.mk (below_step HB.out hb)
                replace HT := Aside0.mk (Nat.le_trans HT.out hb.size)
                have BK6 := Aside0.mk hbox
                replace HT := Aside0.mk (Nat.succ_le_of_lt (blk_lt hbox))
                replace HN := Aside0.mk (And.intro nn HN.out)
                clear hg hbox hb nn
                refine hK.out _ _ ⟨(blk_cell BK1.out 0).trans rfl, (blk_cell BK1.out 1).trans rfl, (blk_cell BK2.out 0).trans rfl, (blk_cell BK2.out 1).trans rfl⟩ (fun hHeld => ?_)
                clear hK K
                refine norm_ (a' := ?_) ?_ ?_
                rotate_left
                · show Act.put _ (some 17) _ = _
                  simp only [Act.put, List.setIfInBounds_toArray, List.set_cons_zero, List.set_cons_succ, i64_w, i32_w]
                  rfl
                exact norm_ (by first | (simp only [putAll, Act.put, List.setIfInBounds_toArray, List.set_cons_zero, List.set_cons_succ]; done) | (simp only [putAll, Act.put, List.setIfInBounds_toArray, List.set_cons_zero, List.set_cons_succ]; rfl)) (hJ1 (gb6) _ ⟨gb6.succ, HO17, HO32, BK1, BK2, BK3, BK4, BK5, BK6, HB, HT, GE6, ⟨by have hn_ := HN.out; (try dsimp only); omega⟩⟩)
            · skip
              refine box_step (by rfl) (N := 17) rfl (cs := #[.slice none 0 0, .bool false]) (t := 40) ?hr ?_
              (case hr => first | (go_simp; done) | (go_simp; rfl))
              intro gb6 hg W65 hbox hb
              have nn : hi43 ≤ gb6 := Nat.le_trans HT.out (Nat.le_of_eq hg.symm)
              have GE6 := Aside0.mk (Nat.le_trans (below_size HB.out) (Nat.le_of_eq hg.symm))
              replace HO17 := Aside0.mk (Kd.R_below HO17.out hb)
              replace HO32 := Aside0.mk (Kd.R_below HO32.out hb)
              replace BK1 := Aside0.mk (blk_below (g := gb1) (o := .cells #[.int .i64 a0_0, .int .i64 a0_1] 29 (0, 0)) BK1.out hb)
              replace BK2 := Aside0.mk (blk_below (g := gb2) (o := .cells #[.slice A1_0 l1_0.length c1_0, .bool a1_1] 37 (0, 0)) BK2.out hb)
              replace BK3 := Aside0.mk (blk_below (g := gb3) (o := .cells #[.slice B17 t14.length d17, .bool t15] 40 (0, 0)) BK3.out hb)
              replace BK4 := Aside0.mk (blk_below (g := gb4) (o := .cells #[.slice B21 t48.length d21, .bool t20] 40 (0, 0)) BK4.out hb)
              replace BK5 := Aside0.mk (blk_below (g := gb5) (o := .cells #[.slice B32 t56.length d32, .bool t30] 40 (0, 0)) BK5.out hb)
              replace HB := Aside0.mk (below_step HB.out hb)
              replace HT := Aside0.mk (Nat.le_trans HT.out hb.size)
              have BK6 := Aside0.mk hbox
              replace HT := Aside0.mk (Nat.succ_le_of_lt (blk_lt hbox))
              replace HN := Aside0.mk (And.intro nn HN.out)
              clear hg hbox hb nn
              refine hK.out _ _ ⟨(blk_cell BK1.out 0).trans rfl, (blk_cell BK1.out 1).trans rfl, (blk_cell BK2.out 0).trans rfl, (blk_cell BK2.out 1).trans rfl⟩ (fun hHeld => ?_)
              clear hK K
              refine norm_ (a' := ?_) ?_ ?_
              rotate_left
              · show Act.put _ (some 17) _ = _
                simp only [Act.put, List.setIfInBounds_toArray, List.set_cons_zero, List.set_cons_succ, i64_w, i32_w]
                rfl
              exact norm_ (by first | (simp only [putAll, Act.put, List.setIfInBounds_toArray, List.set_cons_zero, List.set_cons_succ]; done) | (simp only [putAll, Act.put, List.setIfInBounds_toArray, List.set_cons_zero, List.set_cons_succ]; rfl)) (hJ0 (gb6) _ ⟨gb6.succ, HO17, HO32, BK1, BK2, BK3, BK4, BK5, BK6, HB, HT, GE6, ⟨by have hn_ := HN.out; (try dsimp only); omega⟩⟩)
          · skip
            clear HO17 HO32 BK1 BK2 BK3 BK4 BK5 HB HT
            (try clear hHeld)
            intro s_ W66 hF
            obtain ⟨gb6, hs_⟩ : ∃ x, x = s_ := ⟨_, rfl⟩
            subst hs_
            (try dsimp only at hF)
            obtain ⟨T0_, HO17, HO32, BK1, BK2, BK3, BK4, BK5, BK6, HB, HT, GE6, nn_⟩ := hF
            replace HN := Aside0.mk (And.intro nn_.out HN.out)
            clear nn_
            refine norm_ (a' := ?_) ?_ ?_
            rotate_left
            · simp only [putAll, Act.put, List.setIfInBounds_toArray, List.set_cons_zero, List.set_cons_succ]
              rfl
            refine one_ (i := 1) (N := some 100) #[true, true, true, false, true, false, false, false, false, false, true, false, false] rfl rfl (by kernel_rfl) (by decide) (fun K hK => ?_)
            refine goes_ Try.func12 (by kernel_rfl) rfl #[.agg #[.int .i64 a0_0, .int .i64 a0_1]] (by rfl) rfl rfl (by (try simp only [List.map_toArray, List.map_cons, List.map_nil]); first | done | rfl) ?_
            with_reducible refine (laws_toCompany.calls a0_0 a0_1 t60 t61 _  A59.out).mono ?_
            rintro e W67 ⟨rfl, hb⟩
            refine ⟨_, rfl, ?_⟩
            replace HO17 := Aside0.mk (Kd.R_below HO17.out hb)
            replace HO32 := Aside0.mk (Kd.R_below HO32.out hb)
            replace BK1 := Aside0.mk (blk_below (g := gb1) (o := .cells #[.int .i64 a0_0, .int .i64 a0_1] 29 (0, 0)) BK1.out hb)
            replace BK2 := Aside0.mk (blk_below (g := gb2) (o := .cells #[.slice A1_0 l1_0.length c1_0, .bool a1_1] 37 (0, 0)) BK2.out hb)
            replace BK3 := Aside0.mk (blk_below (g := gb3) (o := .cells #[.slice B17 t14.length d17, .bool t15] 40 (0, 0)) BK3.out hb)
            replace BK4 := Aside0.mk (blk_below (g := gb4) (o := .cells #[.slice B21 t48.length d21, .bool t20] 40 (0, 0)) BK4.out hb)
            replace BK5 := Aside0.mk (blk_below (g := gb5) (o := .cells #[.slice B32 t56.length d32, .bool t30] 40 (0, 0)) BK5.out hb)
            replace BK6 := Aside0.mk (blk_below (g := gb6) (o := .cells #[.slice none 0 0, .bool false] 40 (0, 0)) BK6.out hb)
            replace HB := Aside0.mk (below_step HB.out hb)
            replace HT := Aside0.mk (Nat.le_trans HT.out hb.size)
            clear hb
            refine hK.out _ _ ⟨(blk_cell BK1.out 0).trans rfl, (blk_cell BK1.out 1).trans rfl, (blk_cell BK2.out 0).trans rfl, (blk_cell BK2.out 1).trans rfl⟩ (fun hHeld => ?_)
            clear hK K
            refine norm_ (a' := ?_) ?_ ?_
            rotate_left
            · show Act.put _ (some 100) _ = _
              simp only [Act.put, List.setIfInBounds_toArray, List.set_cons_zero, List.set_cons_succ, i64_w, i32_w]
              rfl
            exact norm_ (by first | (simp only [putAll, Act.put, List.setIfInBounds_toArray, List.set_cons_zero, List.set_cons_succ]; done) | (simp only [putAll, Act.put, List.setIfInBounds_toArray, List.set_cons_zero, List.set_cons_succ]; rfl)) (hJ1 (gb6) _ ⟨T0_, HO17, HO32, BK1, BK2, BK3, BK4, BK5, BK6, HB, HT, GE6, ⟨by have hn_ := HN.out; (try dsimp only); omega⟩⟩)
        · skip
          clear HO17 HO32 BK1 BK2 BK3 BK4 BK5 HB HT
          (try clear hHeld)
          intro s_ W68 hF
          obtain ⟨gb6, hs_⟩ : ∃ x, x = s_ := ⟨_, rfl⟩
          subst hs_
          (try dsimp only at hF)
          obtain ⟨T1_, HO17, HO32, BK1, BK2, BK3, BK4, BK5, BK6, HB, HT, GE6, nn_⟩ := hF
          replace HN := Aside0.mk (And.intro nn_.out HN.out)
          clear nn_
          refine norm_ (a' := ?_) ?_ ?_
          rotate_left
          · simp only [putAll, Act.put, List.setIfInBounds_toArray, List.set_cons_zero, List.set_cons_succ]
            rfl
          refine one_ (i := 3) (N := some 102) #[true, true, true, true, true, false, false, false, false, false, true, false, false] rfl rfl (by kernel_rfl) (by decide) (fun K hK => ?_)
          refine goes_ Try.func16 (by kernel_rfl) rfl #[.agg #[.slice A1_0 l1_0.length c1_0, .bool a1_1]] (by rfl) rfl rfl (by (try simp only [List.map_toArray, List.map_cons, List.map_nil]); first | done | rfl) ?_
          with_reducible refine (laws_toState.calls k _ _ l1_0 a1_1 t63 t64 _ (Kd.C_below HR1_0.out HB.out) HC1_0.out A62.out).mono ?_
          rintro e W69 ⟨v65, rfl, ho65, hb⟩
          refine ⟨_, rfl, ?_⟩
          obtain ⟨B65, d65, e_⟩ := Kd.R_slice ho65
          subst e_
          obtain ⟨lo65, hi65, nn, ht_, hO65⟩ := laws_FnExactRowBoat.newR ho65 HT.out (below_size HB.out) hb.size
          replace HO17 := Aside0.mk (Kd.R_below HO17.out hb)
          replace HO32 := Aside0.mk (Kd.R_below HO32.out hb)
          replace BK1 := Aside0.mk (blk_below (g := gb1) (o := .cells #[.int .i64 a0_0, .int .i64 a0_1] 29 (0, 0)) BK1.out hb)
          replace BK2 := Aside0.mk (blk_below (g := gb2) (o := .cells #[.slice A1_0 l1_0.length c1_0, .bool a1_1] 37 (0, 0)) BK2.out hb)
          replace BK3 := Aside0.mk (blk_below (g := gb3) (o := .cells #[.slice B17 t14.length d17, .bool t15] 40 (0, 0)) BK3.out hb)
          replace BK4 := Aside0.mk (blk_below (g := gb4) (o := .cells #[.slice B21 t48.length d21, .bool t20] 40 (0, 0)) BK4.out hb)
          replace BK5 := Aside0.mk (blk_below (g := gb5) (o := .cells #[.slice B32 t56.length d32, .bool t30] 40 (0, 0)) BK5.out hb)
          replace BK6 := Aside0.mk (blk_below (g := gb6) (o := .cells #[.slice none 0 0, .bool false] 40 (0, 0)) BK6.out hb)
          replace HB := Aside0.mk (below_step HB.out hb)
          replace HT := Aside0.mk (Nat.le_trans HT.out hb.size)
          have HO65 := Aside0.mk hO65
          replace HT := Aside0.mk ht_
          replace HN := Aside0.mk (And.intro nn HN.out)
          clear ho65 hO65 nn ht_
          clear hb
          refine hK.out _ _ ⟨(blk_cell BK1.out 0).trans rfl, (blk_cell BK1.out 1).trans rfl, (blk_cell BK2.out 0).trans rfl, (blk_cell BK2.out 1).trans rfl⟩ (fun hHeld => ?_)
          clear hK K
          refine norm_ (a' := ?_) ?_ ?_
          rotate_left
          · show Act.put _ (some 102) _ = _
            simp only [Act.put, List.setIfInBounds_toArray, List.set_cons_zero, List.set_cons_succ, i64_w, i32_w]
            rfl
          exact norm_ (by first | (simp only [putAll, Act.put, List.setIfInBounds_toArray, List.set_cons_zero, List.set_cons_succ]; done) | (simp only [putAll, Act.put, List.setIfInBounds_toArray, List.set_cons_zero, List.set_cons_succ]; rfl)) (hJ2 (B65, d65, gb6) _ ⟨lo65, hi65, hi65, HO17, HO32, HO65, BK1, BK2, BK3, BK4, BK5, BK6, HB, HT, GE6, ⟨by have hn_ := HN.out; (try dsimp only); omega⟩⟩)
      · skip
        clear HO17 HO32 BK1 BK2 BK3 BK4 BK5 HB HT
        (try clear hHeld)
        intro s_ W70 hF
        obtain ⟨B65, d65, gb6⟩ := s_
        (try dsimp only at hF)
        obtain ⟨lo65, hi65, T2_, HO17, HO32, HO65, BK1, BK2, BK3, BK4, BK5, BK6, HB, HT, GE6, nn_⟩ := hF
        replace HN := Aside0.mk (And.intro nn_.out HN.out)
        clear nn_
        refine norm_ (a' := ?_) ?_ ?_
        rotate_left
        · simp only [putAll, Act.put, List.setIfInBounds_toArray, List.set_cons_zero, List.set_cons_succ]
          rfl
        refine one_ (i := 5) (N := some 104) #[true, true, true, true, true, true, false, false, false, false, true, false, false] rfl rfl (by kernel_rfl) (by decide) (fun K hK => ?_)
        refine goes_ Try.func8 (by kernel_rfl) rfl #[.slice A2 l2.length c2] (by rfl) rfl rfl (by (try simp only [List.map_toArray, List.map_cons, List.map_nil]); first | done | rfl) ?_
        with_reducible refine (laws_toIntS.calls k _ _ l2 t67 _ (Kd.C_below HR2.out HB.out) HC2.out A66.out).mono ?_
        rintro e W71 ⟨v68, rfl, ho68, hb⟩
        refine ⟨_, rfl, ?_⟩
        obtain ⟨B68, d68, e_⟩ := Kd.R_slice ho68
        subst e_
        obtain ⟨lo68, hi68, nn, ht_, hO68⟩ := laws_FnExactRowBoat.newR ho68 HT.out (below_size HB.out) hb.size
        replace HO17 := Aside0.mk (Kd.R_below HO17.out hb)
        replace HO32 := Aside0.mk (Kd.R_below HO32.out hb)
        replace HO65 := Aside0.mk (Kd.R_below HO65.out hb)
        replace BK1 := Aside0.mk (blk_below (g := gb1) (o := .cells #[.int .i64 a0_0, .int .i64 a0_1] 29 (0, 0)) BK1.out hb)
        replace BK2 := Aside0.mk (blk_below (g := gb2) (o := .cells #[.slice A1_0 l1_0.length c1_0, .bool a1_1] 37 (0, 0)) BK2.out hb)
        replace BK3 := Aside0.mk (blk_below (g := gb3) (o := .cells #[.slice B17 t14.length d17, .bool t15] 40 (0, 0)) BK3.out hb)
        replace BK4 := Aside0.mk (blk_below (g := gb4) (o := .cells #[.slice B21 t48.length d21, .bool t20] 40 (0, 0)) BK4.out hb)
        replace BK5 := Aside0.mk (blk_below (g := gb5) (o := .cells #[.slice B32 t56.length d32, .bool t30] 40 (0, 0)) BK5.out hb)
        replace BK6 := Aside0.mk (blk_below (g := gb6) (o := .cells #[.slice none 0 0, .bool false] 40 (0, 0)) BK6.out hb)
        replace HB := Aside0.mk (below_step HB.out hb)
        replace HT := Aside0.mk (Nat.le_trans HT.out hb.size)
        have HO68 := Aside0.mk hO68
        replace HT := Aside0.mk ht_
        replace HN := Aside0.mk (And.intro nn HN.out)
        clear ho68 hO68 nn ht_
        clear hb
        refine hK.out _ _ ⟨(blk_cell BK1.out 0).trans rfl, (blk_cell BK1.out 1).trans rfl, (blk_cell BK2.out 0).trans rfl, (blk_cell BK2.out 1).trans rfl⟩ (fun hHeld => ?_)
        clear hK K
        refine norm_ (a' := ?_) ?_ ?_
        rotate_left
        · show Act.put _ (some 104) _ = _
          simp only [Act.put, List.setIfInBounds_toArray, List.set_cons_zero, List.set_cons_succ, i64_w, i32_w]
          rfl
        exact norm_ (by first | (simp only [putAll, Act.put, List.setIfInBounds_toArray, List.set_cons_zero, List.set_cons_succ]; done) | (simp only [putAll, Act.put, List.setIfInBounds_toArray, List.set_cons_zero, List.set_cons_succ]; rfl)) (hJ3 (B65, d65, B68, d68, gb6) _ ⟨lo65, hi65, lo68, hi68, hi68, HO17, HO32, HO65, HO68, BK1, BK2, BK3, BK4, BK5, BK6, HB, HT, GE6, ⟨by have hn_ := HN.out; (try dsimp only); omega⟩⟩)
    · skip
      clear HO17 HO32 BK1 BK2 BK3 BK4 BK5 HB HT
      (try clear hHeld)
      intro s_ W72 hF
      obtain ⟨B65, d65, B68, d68, gb6⟩ := s_
      (try dsimp only at hF)
      obtain ⟨lo65, hi65, lo68, hi68, T3_, HO17, HO32, HO65, HO68, BK1, BK2, BK3, BK4, BK5, BK6, HB, HT, GE6, nn_⟩ := hF
      replace HN := Aside0.mk (And.intro nn_.out HN.out)
      clear nn_
      refine norm_ (a' := ?_) ?_ ?_
      rotate_left
      · simp only [putAll, Act.put, List.setIfInBounds_toArray, List.set_cons_zero, List.set_cons_succ]
        rfl
      refine one_ (i := 6) (N := some 105) #[true, true, true, true, true, true, true, false, false, false, true, false, false] rfl rfl (by kernel_rfl) (by decide) (fun K hK => ?_)
      refine goes_ Try.func20 (by kernel_rfl) rfl #[.agg #[.int .i64 t60, .int .i64 t61], .agg #[.slice B65 t63.length d65, .bool t64], .slice B68 t67.length d68] (by rfl) rfl rfl (by (try simp only [List.map_toArray, List.map_cons, List.map_nil]); first | done | rfl) ?_
      with_reducible refine (impl_RowBoat.calls k t60 t61 _ _ t63 t64 _ _ t67 t70 t71 t72 _ (Kd.R_reads' HO65.out).2.2 (Kd.R_reads' HO65.out).2.1 (Kd.R_reads' HO68.out).2.2 (Kd.R_reads' HO68.out).2.1 A69.out).mono ?_
      rintro e W73 ⟨v73, rfl, ho73, hb⟩
      refine ⟨_, rfl, ?_⟩
      obtain ⟨B73, d73, e_⟩ := Kd.R_slice ho73
      subst e_
      obtain ⟨lo73, hi73, nn, ht_, hO73⟩ := laws_FnExactRowBoat.newR ho73 HT.out (below_size HB.out) hb.size
      replace HO17 := Aside0.mk (Kd.R_below HO17.out hb)
      replace HO32 := Aside0.mk (Kd.R_below HO32.out hb)
      replace HO65 := Aside0.mk (Kd.R_below HO65.out hb)
      replace HO68 := Aside0.mk (Kd.R_below HO68.out hb)
      replace BK1 := Aside0.mk (blk_below (g := gb1) (o := .cells #[.int .i64 a0_0, .int .i64 a0_1] 29 (0, 0)) BK1.out hb)
      replace BK2 := Aside0.mk (blk_below (g := gb2) (o := .cells #[.slice A1_0 l1_0.length c1_0, .bool a1_1] 37 (0, 0)) BK2.out hb)
      replace BK3 := Aside0.mk (blk_below (g := gb3) (o := .cells #[.slice B17 t14.length d17, .bool t15] 40 (0, 0)) BK3.out hb)
      replace BK4 := Aside0.mk (blk_below (g := gb4) (o := .cells #[.slice B21 t48.length d21, .bool t20] 40 (0, 0)) BK4.out hb)
      replace BK5 := Aside0.mk (blk_below (g := gb5) (o := .cells #[.slice B32 t56.length d32, .bool t30] 40 (0, 0)) BK5.out hb)
      replace BK6 := Aside0.mk (blk_below (g := gb6) (o := .cells #[.slice none 0 0, .bool false] 40 (0, 0)) BK6.out hb)
      replace HB := Aside0.mk (below_step HB.out hb)
      replace HT := Aside0.mk (Nat.le_trans HT.out hb.size)
      have HO73 := Aside0.mk hO73
      replace HT := Aside0.mk ht_
      replace HN := Aside0.mk (And.intro nn HN.out)
      clear ho73 hO73 nn ht_
      clear hb
      clear HO65 HO68
      refine hK.out _ _ ⟨(blk_cell BK1.out 0).trans rfl, (blk_cell BK1.out 1).trans rfl, (blk_cell BK2.out 0).trans rfl, (blk_cell BK2.out 1).trans rfl⟩ (fun hHeld => ?_)
      clear hK K
      refine norm_ (a' := ?_) ?_ ?_
      rotate_left
      · show Act.put _ (some 105) _ = _
        simp only [Act.put, List.setIfInBounds_toArray, List.set_cons_zero, List.set_cons_succ, i64_w, i32_w]
        rfl
      refine pure_ (i := 7) (N := some 98) (v := ?_) (a' := ?_) #[true, true, true, true, true, true, true, true, false, false, true, false, false] rfl rfl (by kernel_rfl) (fun _ _ _ h => h) (Or.inl ⟨by rfl, ?_⟩) ?_ ?_
      rotate_left
      · intro w'
        go_simp
        with_reducible rfl
      rotate_left
      · simp only [Act.put, List.setIfInBounds_toArray, List.set_cons_zero, List.set_cons_succ, i64_w, i32_w]
        rfl
      refine pure_ (i := 8) (N := some 106) (v := ?_) (a' := ?_) #[true, true, true, true, true, true, true, true, true, false, true, false, false] rfl rfl (by kernel_rfl) (fun _ _ _ h => h) (Or.inl ⟨by rfl, ?_⟩) ?_ ?_
      rotate_left
      · intro w'
        go_simp
        with_reducible rfl
      rotate_left
      · simp only [Act.put, List.setIfInBounds_toArray, List.set_cons_zero, List.set_cons_succ, i64_w, i32_w]
        rfl
      refine pure_ (i := 9) (N := some 107) (v := ?_) (a' := ?_) #[true, true, true, true, true, true, true, true, true, true, true, false, false] rfl rfl (by kernel_rfl) (fun _ _ _ h => h) (Or.inl ⟨by rfl, ?_⟩) ?_ ?_
      rotate_left
      · intro w'
        go_simp
        with_reducible rfl
      rotate_left
      · simp only [Act.put, List.setIfInBounds_toArray, List.set_cons_zero, List.set_cons_succ, i64_w, i32_w]
        rfl
      exact norm_ (by first | (simp only [putAll, Act.put, List.setIfInBounds_toArray, List.set_cons_zero, List.set_cons_succ]; done) | (simp only [putAll, Act.put, List.setIfInBounds_toArray, List.set_cons_zero, List.set_cons_succ]; rfl)) (hJ4 (B65, d65, B68, d68, B73, d73, gb6) _ ⟨lo73, hi73, hi73, HO17, HO32, HO73, BK1, BK2, BK3, BK4, BK5, BK6, HB, HT, GE6, ⟨by have hn_ := HN.out; (try dsimp only); omega⟩⟩)
  clear HO17 HO32 BK1 BK2 BK3 BK4 BK5 HB HT
  (try clear hHeld)
  intro s_ W74 hF
  obtain ⟨B65, d65, B68, d68, B73, d73, gb6⟩ := s_
  (try dsimp only at hF)
  obtain ⟨lo73, hi73, T4_, HO17, HO32, HO73, BK1, BK2, BK3, BK4, BK5, BK6, HB, HT, GE6, nn_⟩ := hF
  replace HN := Aside0.mk (And.intro nn_.out HN.out)
  clear nn_
  refine norm_ (a' := ?_) ?_ ?_
  rotate_left
  · simp only [putAll, Act.put, List.setIfInBounds_toArray, List.set_cons_zero, List.set_cons_succ]
    rfl
  refine one_ (i := 11) (N := none) #[true, true, true, true, true, true, true, true, true, true, true, true, false] rfl rfl (by kernel_rfl) (by decide) (fun K hK => ?_)
  refine laws_FnExactRowBoat.storeK (by rfl) rfl rfl gb6 40 #[.slice none 0 0, .bool false] (.agg #[.slice B73 t70.length d73, .bool t71]) [.slice B73 t70.length d73, .bool t71] rfl rfl BK6.out rfl (by kernel_rfl) rfl (by intro q_ hq_; simp only [List.mem_cons, List.not_mem_nil, or_false] at hq_; rcases hq_ with rfl | rfl <;> rfl) ?_
  intro W75 hbx hg
  replace HO17 := Aside0.mk (laws_FnExactRowBoat.grownR HO17.out hg (by have hn_ := HN.out; omega))
  replace HO32 := Aside0.mk (laws_FnExactRowBoat.grownR HO32.out hg (by have hn_ := HN.out; omega))
  replace HO73 := Aside0.mk (laws_FnExactRowBoat.grownR HO73.out hg (by have hn_ := HN.out; omega))
  replace BK1 := Aside0.mk (laws_FnExactRowBoat.grownB BK1.out hg (by have hn_ := HN.out; omega))
  replace BK2 := Aside0.mk (laws_FnExactRowBoat.grownB BK2.out hg (by have hn_ := HN.out; omega))
  replace BK3 := Aside0.mk (laws_FnExactRowBoat.grownB BK3.out hg (by have hn_ := HN.out; omega))
  replace BK4 := Aside0.mk (laws_FnExactRowBoat.grownB BK4.out hg (by have hn_ := HN.out; omega))
  replace BK5 := Aside0.mk (laws_FnExactRowBoat.grownB BK5.out hg (by have hn_ := HN.out; omega))
  replace HB := Aside0.mk (Below.grown HB.out hg (below_size HB.out) (fun k_ hk_ => by injection hk_ with hk_; subst hk_; exact GE6.out))
  replace HT := Aside0.mk (Nat.le_trans HT.out hg.size)
  replace BK6 := Aside0.mk hbx
  clear hbx hg
  refine hK.out _ _ ⟨(blk_cell BK1.out 0).trans rfl, (blk_cell BK1.out 1).trans rfl, (blk_cell BK2.out 0).trans rfl, (blk_cell BK2.out 1).trans rfl⟩ (fun hHeld => ?_)
  clear hK K
  refine pure_ (i := 12) (N := some 18) (v := ?_) (a' := ?_) #[true, true, true, true, true, true, true, true, true, true, true, true, true] rfl rfl (by kernel_rfl) (fun _ _ _ h => h) (Or.inl ⟨by rfl, ?_⟩) ?_ ?_
  rotate_left
  · intro w'
    go_simp
    with_reducible rfl
  rotate_left
  · simp only [Act.put, List.setIfInBounds_toArray, List.set_cons_zero, List.set_cons_succ, i64_w, i32_w]
    rfl
  refine done_ (by kernel_rfl) ?_
  have cz6_0 : W75.cell? ⟨gb6, 0, none⟩ = some (.slice B73 t70.length d73) := (blk_cell BK6.out 0).trans rfl
  have cz6_1 : W75.cell? ⟨gb6, 1, none⟩ = some (.bool t71) := (blk_cell BK6.out 1).trans rfl
  have cz3_0 : W75.cell? ⟨gb3, 0, none⟩ = some (.slice B17 t14.length d17) := (blk_cell BK3.out 0).trans rfl
  have cz3_1 : W75.cell? ⟨gb3, 1, none⟩ = some (.bool t15) := (blk_cell BK3.out 1).trans rfl
  try go_wp2_with (first | ((with_reducible refine gate_dst (N := 110) rfl ?_); refine goesL_ (some 110) rfl rfl Try.func18 (by kernel_rfl) rfl #[.agg #[.slice B73 t70.length d73, .bool t71], .agg #[.slice B17 t14.length d17, .bool t15]] rfl (by (try simp only [List.map_toArray, List.map_cons, List.map_nil]); first | done | rfl) ?_; (with_reducible refine (laws_eqState.calls k _ _ t70 t71 _ _ t14 t15 true _ (Kd.R_reads' HO73.out).2.2 (Kd.R_reads' HO73.out).2.1 (Kd.R_reads' HO17.out).2.2 (Kd.R_reads' HO17.out).2.1 A74.out).mono ?_); rintro e W76 ⟨rfl, hb⟩; refine ⟨_, rfl, ?_⟩; replace HO17 := Aside0.mk (Kd.R_below HO17.out hb); replace HO32 := Aside0.mk (Kd.R_below HO32.out hb); replace HO73 := Aside0.mk (Kd.R_below HO73.out hb); replace BK1 := Aside0.mk (blk_below (g := gb1) (o := .cells #[.int .i64 a0_0, .int .i64 a0_1] 29 (0, 0)) BK1.out hb); replace BK2 := Aside0.mk (blk_below (g := gb2) (o := .cells #[.slice A1_0 l1_0.length c1_0, .bool a1_1] 37 (0, 0)) BK2.out hb); replace BK3 := Aside0.mk (blk_below (g := gb3) (o := .cells #[.slice B17 t14.length d17, .bool t15] 40 (0, 0)) BK3.out hb); replace BK4 := Aside0.mk (blk_below (g := gb4) (o := .cells #[.slice B21 t48.length d21, .bool t20] 40 (0, 0)) BK4.out hb); replace BK5 := Aside0.mk (blk_below (g := gb5) (o := .cells #[.slice B32 t56.length d32, .bool t30] 40 (0, 0)) BK5.out hb); replace BK6 := Aside0.mk (blk_below (g := gb6) (o := .cells #[.slice B73 t70.length d73, .bool t71] 40 (0, 0)) BK6.out hb); replace HB := Aside0.mk (below_step HB.out hb); replace HT := Aside0.mk (Nat.le_trans HT.out hb.size); clear hb; clear HO17 HO73; (try clear cz6_0 cz6_1 cz3_0 cz3_1); have cz5_0 : W76.cell? ⟨gb5, 0, none⟩ = some (.slice B32 t56.length d32) := (blk_cell BK5.out 0).trans rfl; have cz5_1 : W76.cell? ⟨gb5, 1, none⟩ = some (.bool t30) := (blk_cell BK5.out 1).trans rfl) | ((with_reducible refine gate_dst (N := 119) rfl ?_); refine goesL_ (some 119) rfl rfl Try.func23 (by kernel_rfl) rfl #[.agg #[.slice B32 t56.length d32, .bool t30], .int .i64 1] rfl (by (try simp only [List.map_toArray, List.map_cons, List.map_nil]); first | done | rfl) ?_; (with_reducible refine (laws_heldState.calls k _ _ t56 t30 1 t77 _ (Kd.R_reads' HO32.out).2.2 (Kd.R_reads' HO32.out).2.1 A76.out).mono ?_); rintro e W77 ⟨rfl, hb⟩; refine ⟨_, rfl, ?_⟩; replace HO32 := Aside0.mk (Kd.R_below HO32.out hb); replace BK1 := Aside0.mk (blk_below (g := gb1) (o := .cells #[.int .i64 a0_0, .int .i64 a0_1] 29 (0, 0)) BK1.out hb); replace BK2 := Aside0.mk (blk_below (g := gb2) (o := .cells #[.slice A1_0 l1_0.length c1_0, .bool a1_1] 37 (0, 0)) BK2.out hb); replace BK3 := Aside0.mk (blk_below (g := gb3) (o := .cells #[.slice B17 t14.length d17, .bool t15] 40 (0, 0)) BK3.out hb); replace BK4 := Aside0.mk (blk_below (g := gb4) (o := .cells #[.slice B21 t48.length d21, .bool t20] 40 (0, 0)) BK4.out hb); replace BK5 := Aside0.mk (blk_below (g := gb5) (o := .cells #[.slice B32 t56.length d32, .bool t30] 40 (0, 0)) BK5.out hb); replace BK6 := Aside0.mk (blk_below (g := gb6) (o := .cells #[.slice B73 t70.length d73, .bool t71] 40 (0, 0)) BK6.out hb); replace HB := Aside0.mk (below_step HB.out hb); replace HT := Aside0.mk (Nat.le_trans HT.out hb.size); clear hb; clear HO32; (try clear cz5_0 cz5_1)))
  go_ret
  exact ⟨by first | rfl | (simp; done) | (simp [*]; done), HB.out⟩

end Go.Proofs.Ytokfpjebnkfccaa.G
