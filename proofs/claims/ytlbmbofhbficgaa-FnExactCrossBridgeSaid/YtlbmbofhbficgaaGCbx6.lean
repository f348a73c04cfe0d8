-- Laid by wip/gprint.py (the session's own program, round the kit's printer) for this claim.
import Derived.Test.YtlbmbofhbficgaaGCbx0
import Derived.Test.YtlbmbofhbficgaaGCbx1
import Derived.Test.YtlbmbofhbficgaaGCbx2
import Derived.Test.YtlbmbofhbficgaaGCbx4
import Derived.Test.YtlbmbofhbficgaaGCbx5
namespace Go.Proofs.Ytlbmbofhbficgaa.G
open Go.RowKit Go.Proofs.YtlbmbofhbficgaaW.PrintWords Go.Proofs.YtlbmbofhbficgaaW.PrintLast Go.Proofs.YtlbmbofhbficgaaW.PrintMore
attribute [local go_sem] max2_int min2_int max_two min_two max_three min_three max_four min_four   -- for this text's walks alone
set_option linter.unusedVariables false
set_option linter.unusedSimpArgs false

/-! ### laws_FnExactCrossBridge: function 11 -/
theorem laws_FnExactCrossBridge.newR {α : Type} {d : Kd α} {e T : Nat} {w W W' : World} {v : Value} {xs : List α} (h : d.R e W' W.heap.size (fun _ => True) v xs) (ht : T ≤ W.heap.size) (hw : w.heap.size ≤ W.heap.size) (hs : W.heap.size ≤ W'.heap.size) : ∃ lo hi : Nat, (T ≤ lo ∧ lo ≤ hi) ∧ hi ≤ W'.heap.size ∧ d.R e W' w.heap.size (fun k_ => lo ≤ k_ ∧ k_ < hi) v xs :=
  ⟨W.heap.size, W'.heap.size, ⟨ht, hs⟩, Nat.le_refl _, Kd.R_lower (Kd.R_mono (Kd.R_bound h) (fun _ hk => ⟨hk.2.1, hk.2.2.1⟩)) hw⟩
theorem laws_FnExactCrossBridge.newS {α : Type} {d : Kd α} {e T : Nat} {w W W' : World} {v : Value} {xs : List α} (h : Kd.S d e W' W.heap.size (fun _ => True) v xs) (ht : T ≤ W.heap.size) (hw : w.heap.size ≤ W.heap.size) (hs : W.heap.size ≤ W'.heap.size) : ∃ lo hi : Nat, (T ≤ lo ∧ lo ≤ hi) ∧ hi ≤ W'.heap.size ∧ Kd.S d e W' w.heap.size (fun k_ => lo ≤ k_ ∧ k_ < hi) v xs :=
  ⟨W.heap.size, W'.heap.size, ⟨ht, hs⟩, Nat.le_refl _, Kd.S_lower (Kd.S_mono (Kd.S_bound h) (fun _ hk => ⟨hk.2.1, hk.2.2.1⟩)) hw⟩
theorem laws_FnExactCrossBridge.grownR {α : Type} {d : Kd α} {e b lo hi g : Nat} {W W' : World} {v : Value} {xs : List α} (h : d.R e W b (fun k_ => lo ≤ k_ ∧ k_ < hi) v xs) (hg : W.grownBy W' (some g)) (hne : g < lo ∨ hi ≤ g) : d.R e W' b (fun k_ => lo ≤ k_ ∧ k_ < hi) v xs :=
  Kd.R_grown h hg (fun k hk he => by injection he with he; have h1 := hk.1; have h2 := hk.2; omega)
theorem laws_FnExactCrossBridge.grownS {α : Type} {d : Kd α} {e b lo hi g : Nat} {W W' : World} {v : Value} {xs : List α} (h : Kd.S d e W b (fun k_ => lo ≤ k_ ∧ k_ < hi) v xs) (hg : W.grownBy W' (some g)) (hne : g < lo ∨ hi ≤ g) : Kd.S d e W' b (fun k_ => lo ≤ k_ ∧ k_ < hi) v xs :=
  Kd.S_grown h hg (fun k hk he => by injection he with he; have h1 := hk.1; have h2 := hk.2; omega)
theorem laws_FnExactCrossBridge.keptR {α : Type} {d : Kd α} {e b lo hi lo' hi' : Nat} {W W' : World} {v : Value} {xs : List α} (h : d.R e W b (fun k_ => lo ≤ k_ ∧ k_ < hi) v xs) (hk : Kept W W' (fun k_ => lo' ≤ k_ ∧ k_ < hi')) (hne : hi ≤ lo' ∨ hi' ≤ lo) : d.R e W' b (fun k_ => lo ≤ k_ ∧ k_ < hi) v xs :=
  Kd.R_kept h hk (fun k h1 h2 => by have h3 := h1.1; have h4 := h1.2; have h5 := h2.1; have h6 := h2.2; omega)
theorem laws_FnExactCrossBridge.keptS {α : Type} {d : Kd α} {e b lo hi lo' hi' : Nat} {W W' : World} {v : Value} {xs : List α} (h : Kd.S d e W b (fun k_ => lo ≤ k_ ∧ k_ < hi) v xs) (hk : Kept W W' (fun k_ => lo' ≤ k_ ∧ k_ < hi')) (hne : hi ≤ lo' ∨ hi' ≤ lo) : Kd.S d e W' b (fun k_ => lo ≤ k_ ∧ k_ < hi) v xs :=
  Kd.S_kept h hk (fun k h1 h2 => by have h3 := h1.1; have h4 := h1.2; have h5 := h2.1; have h6 := h2.2; omega)
theorem laws_FnExactCrossBridge.keptB {lo hi g : Nat} {o : Obj} {W W' : World} (h : W.heap[g]? = some o) (hk : Kept W W' (fun k_ => lo ≤ k_ ∧ k_ < hi)) (hne : g < lo ∨ hi ≤ g) : W'.heap[g]? = some o :=
  blk_kept h hk (fun h2 => by have h5 := h2.1; have h6 := h2.2; omega)
theorem laws_FnExactCrossBridge.grownB {g g' : Nat} {o : Obj} {W W' : World} (h : W.heap[g]? = some o) (hg : W.grownBy W' (some g')) (hne : g ≠ g') : W'.heap[g]? = some o :=
  (hg.block g (blk_lt h) (fun he => hne (by injection he))).trans h
theorem laws_FnExactCrossBridge.runs {P : Program} {W : World} {g T : Nat} {cur : Array Value} (t : TypeId) (u : Value) (new : List Value) (hb : W.heap[g]? = some (.cells cur T (0, 0))) (hu : u.cells.toList = new) (ht : (P.info? t).map (·.size) = some new.length) (hsz : new.length = cur.size) (h1 : ∀ q ∈ new, q.oneCell' = true) :
    ∃ w1, (Instr.storeAt t (.pointer (some ⟨g, 0, none⟩)) u).run P W = .ok () w1 ∧ w1.heap[g]? = some (.cells new.toArray T (0, 0)) ∧ W.grownBy w1 (some g) := by
  refine ⟨W.setCells g 0 new, run_store_run t u new hb hu ht (by omega) h1, ?_, ?_⟩
  · obtain ⟨cur', c1, c2, c3⟩ := setCells_row new 0 W cur hb (by omega)
    rw [c1]
    rw [List.take_zero, List.nil_append, Nat.zero_add, hsz, List.drop_eq_nil_of_le (by rw [Array.length_toList]; omega), List.append_nil] at c3
    rw [← c3]
  · obtain ⟨s1, s2, s3, s4⟩ := setCells_same g new 0 W
    exact ⟨s1, s2, s3, by rw [s4]; exact Nat.le_refl _, fun k _ hk => setCells_far _ _ k (fun he => hk (by rw [he]))⟩
theorem laws_FnExactCrossBridge.store {P : Program} {ops : Array Oper} {rest : List Oper} {o : Oper} {a : Act} {Q : Exit → Act → World → Prop} {W : World} (hgd : o.guard = none) (hN : o.dst = none) {t : TypeId} {p : Tmp} {x : Operand} (ho : o.op = .store t (.tmp p) x) (g T : Nat) (cur : Array Value) (u : Value) (new : List Value) (haddr : a.eval (.tmp p) = .pointer (some ⟨g, 0, none⟩)) (hx : a.eval x = u) (hb : W.heap[g]? = some (.cells cur T (0, 0))) (hu : u.cells.toList = new) (ht : (P.info? t).map (·.size) = some new.length) (hsz : new.length = cur.size) (h1 : ∀ q ∈ new, q.oneCell' = true)
    (h : ∀ w1, w1.heap[g]? = some (.cells new.toArray T (0, 0)) → W.grownBy w1 (some g) → wpList P ops Q rest a w1) : wpList P ops Q (o :: rest) a W := by
  obtain ⟨w1, hrun, h2, h3⟩ := laws_FnExactCrossBridge.runs (P := P) t u new hb hu ht hsz h1
  refine wpList_plain hgd fun K hK => ?_
  unfold Oper.wp execOp
  simp only [ho, haddr, hx, Sem.run_bind, Sem.run_pure, Result.andThen_ok, hrun]
  show K (a.put o.dst undef) _
  rw [hN]
  exact hK _ _ (h w1 h2 h3)
theorem laws_FnExactCrossBridge.storeK {P : Program} {ops : Array Oper} {o : Oper} {a : Act} {Q : Exit → Act → World → Prop} {Kc : Act → World → Prop} {W : World} (hw : Region.wanted o (yielded ops a.tmps) = true) (hN : o.dst = none) {t : TypeId} {p : Tmp} {x : Operand} (ho : o.op = .store t (.tmp p) x) (g T : Nat) (cur : Array Value) (u : Value) (new : List Value) (haddr : a.eval (.tmp p) = .pointer (some ⟨g, 0, none⟩)) (hx : a.eval x = u) (hb : W.heap[g]? = some (.cells cur T (0, 0))) (hu : u.cells.toList = new) (ht : (P.info? t).map (·.size) = some new.length) (hsz : new.length = cur.size) (h1 : ∀ q ∈ new, q.oneCell' = true)
    (h : ∀ w1, w1.heap[g]? = some (.cells new.toArray T (0, 0)) → W.grownBy w1 (some g) → Kc a w1) : if Region.wanted o (yielded ops a.tmps) = true then Oper.wp P o a W Kc Q else Kc (a.put none undef) W := by
  obtain ⟨w1, hrun, h2, h3⟩ := laws_FnExactCrossBridge.runs (P := P) t u new hb hu ht hsz h1
  rw [if_pos hw]
  unfold Oper.wp execOp
  simp only [ho, haddr, hx, Sem.run_bind, Sem.run_pure, Result.andThen_ok, hrun]
  show Kc (a.put o.dst undef) _
  rw [hN]
  exact h w1 h2 h3
def laws_FnExactCrossBridge.f (k : Nat) (l0_0 : List Int) (a0_1 : Int) (l1_0 : List Bool) (a1_1 : Bool) (l2 : List Int) : Option Bool := if (l2.length : Int) > 1048576 then some true else ((laws_szParty.f l0_0 a0_1 1048576).bind fun b1 => (if b1 < 0 then some true else ((laws_szState.f l1_0 a1_1 b1).bind fun b3 => (if b3 < 0 then some true else ((laws_toParty.f k l0_0 a0_1).bind fun b5 => ((laws_toState.f k l1_0 a1_1).bind fun b9 => ((laws_toIntS.f k l2).bind fun b13 => ((spec_CrossBridge.f k b5.1 b5.2 b9.1 b9.2 b13).bind fun b16 => ((laws_toParty.f k l0_0 a0_1).bind fun b21 => ((laws_toState.f k l1_0 a1_1).bind fun b25 => ((laws_toIntS.f k l2).bind fun b29 => ((impl_CrossBridge.f k b21.1 b21.2 b25.1 b25.2 b29).bind fun b32 => ((laws_eqState.f k b32.1 b32.2.1 b16.1 b16.2.1).bind fun b37 => (if b37 = true then (if (b32.2.2 != b16.2.2) = true then none else ((laws_toParty.f k l0_0 a0_1).bind fun b39 => ((laws_eqParty.f k b21.1 b21.2 b39.1 b39.2).bind fun b43 => (if b43 = true then ((laws_toState.f k l1_0 a1_1).bind fun b45 => ((laws_eqState.f k b25.1 b25.2 b45.1 b45.2).bind fun b49 => (if b49 = true then ((laws_toIntS.f k l2).bind fun b51 => ((laws_eqIntS.f k b29 b51).bind fun b54 => (if b54 = true then ((laws_markParty.f k b21.1 b21.2 1).bind fun b56 => ((laws_markState.f k b25.1 b25.2 b56.1).bind fun b59 => ((laws_markIntS.f k b29 b59.1).bind fun b62 => ((laws_eqState.f k b32.1 b32.2.1 b16.1 b16.2.1).bind fun b65 => (if b62.1 < 0 then none else (if b65 = true then (if (b32.2.2 != b16.2.2) = true then none else ((laws_markState.f k b32.1 b32.2.1 1).bind fun b67 => ((laws_heldState.f k b67.2 b32.2.1 1).bind fun b70 => (if b70 < 0 then none else (if b70 = b67.1 then ((laws_toParty.f k l0_0 a0_1).bind fun b72 => ((laws_toState.f k l1_0 a1_1).bind fun b76 => ((laws_toIntS.f k l2).bind fun b80 => ((impl_CrossBridge.f k b72.1 b72.2 b76.1 b76.2 b80).bind fun b83 => ((laws_eqState.f k b83.1 b83.2.1 b16.1 b16.2.1).bind fun b88 => (if b88 = true then (if (b83.2.2 != b16.2.2) = true then none else ((laws_heldState.f k b67.2 b32.2.1 1).bind fun b90 => (if b90 < 0 then none else (if b90 = b67.1 then (some true) else none)))) else none)))))) else none))))) else none)))))) else none))) else none))) else none)))) else none))))))))))))))
set_option maxHeartbeats 16000000 in
set_option maxRecDepth 100000 in
theorem laws_FnExactCrossBridge.calls (k : Nat) (A0_0 : Option Addr) (c0_0 : Nat) (l0_0 : List Int) (a0_1 : Int) (A1_0 : Option Addr) (c1_0 : Nat) (l1_0 : List Bool) (a1_1 : Bool) (A2 : Option Addr) (c2 : Nat) (l2 : List Int) (r : Bool) (w : World) (hr0_0 : Kd.C (Kd.int .i64) w A0_0 l0_0.length l0_0) (hc0_0 : l0_0.length ≤ c0_0) (hr1_0 : Kd.C Kd.bool w A1_0 l1_0.length l1_0) (hc1_0 : l1_0.length ≤ c1_0) (hr2 : Kd.C (Kd.int .i64) w A2 l2.length l2) (hc2 : l2.length ≤ c2) (h : laws_FnExactCrossBridge.f k l0_0 a0_1 l1_0 a1_1 l2 = some r) :
    Calls Try.prog 11 #[.agg #[.slice A0_0 l0_0.length c0_0, .int .i64 a0_1], .agg #[.slice A1_0 l1_0.length c1_0, .bool a1_1], .slice A2 l2.length c2] w fun e w' => e = .returned (.bool r) ∧ Below w.heap.size w w' := by
  have hu24 := Try.underlying24
  have hu27 := Try.underlying27
  have hu42 := Try.underlying42
  have hu46 := Try.underlying46
  have HR0_0 := Aside0.mk hr0_0
  have HC0_0 := Aside0.mk hc0_0
  have HR1_0 := Aside0.mk hr1_0
  have HC1_0 := Aside0.mk hc1_0
  have HR2 := Aside0.mk hr2
  have HC2 := Aside0.mk hc2
  clear hr0_0 hc0_0 hr1_0 hc1_0 hr2 hc2
  have HB := Aside0.mk (Below.refl w.heap.size w)
  have HT := Aside0.mk (Nat.le_refl w.heap.size)
  have HN := Aside0.mk trivial
  have H := h
  unfold laws_FnExactCrossBridge.f at H
  clear h
  by_cases c92 : (l2.length : Int) > 1048576
  · rw [if_pos c92] at H
    have c92b0 : decide (1048576 < (l2.length : Int)) = true := decide_eq_true c92
    have c92b1 : decide (1048576 < l2.length) = true := decide_eq_true (by omega)
    clear c92
    obtain rfl := Option.some.inj H
    go_enter Try.func11, Try.ntmps11
    try go_wp2_with (first | ((with_reducible refine gate_dst (N := 3) rfl ?_); refine box_event ?hg (N := 3) ?hd (cs := #[.slice A0_0 l0_0.length c0_0, .int .i64 a0_1]) (t := 24) ?hr ?_; (case hd => rfl); (case hg => rfl); (case hr => first | (go_simp; done) | (go_simp; rfl)); intro gb1 hg W1 hbox hb; have nn : w.heap.size ≤ gb1 := Nat.le_trans HT.out (Nat.le_of_eq hg.symm); have GE1 := Aside0.mk (Nat.le_trans (below_size HB.out) (Nat.le_of_eq hg.symm)); replace HB := Aside0.mk (below_step HB.out hb); replace HT := Aside0.mk (Nat.le_trans HT.out hb.size); have BK1 := Aside0.mk hbox; replace HT := Aside0.mk (Nat.succ_le_of_lt (blk_lt hbox)); replace HN := Aside0.mk (And.intro nn HN.out); clear hg hbox hb nn) | ((with_reducible refine gate_dst (N := 4) rfl ?_); refine box_event ?hg (N := 4) ?hd (cs := #[.slice A1_0 l1_0.length c1_0, .bool a1_1]) (t := 42) ?hr ?_; (case hd => rfl); (case hg => rfl); (case hr => first | (go_simp; done) | (go_simp; rfl)); intro gb2 hg W2 hbox hb; have nn : gb1.succ ≤ gb2 := Nat.le_trans HT.out (Nat.le_of_eq hg.symm); have GE2 := Aside0.mk (Nat.le_trans (below_size HB.out) (Nat.le_of_eq hg.symm)); replace BK1 := Aside0.mk (blk_below (g := gb1) (o := .cells #[.slice A0_0 l0_0.length c0_0, .int .i64 a0_1] 24 (0, 0)) BK1.out hb); replace HB := Aside0.mk (below_step HB.out hb); replace HT := Aside0.mk (Nat.le_trans HT.out hb.size); have BK2 := Aside0.mk hbox; replace HT := Aside0.mk (Nat.succ_le_of_lt (blk_lt hbox)); replace HN := Aside0.mk (And.intro nn HN.out); clear hg hbox hb nn))
    go_ret
    exact ⟨by first | rfl | (simp; done) | (simp [*]; done), HB.out⟩
  rw [if_neg c92] at H
  have c92b0 : decide (1048576 < (l2.length : Int)) = false := decide_eq_false c92
  have c92b1 : decide (1048576 < l2.length) = false := decide_eq_false (by omega)
  clear c92
  obtain ⟨t2, A1_, H⟩ := Option.bind_eq_some_iff.mp H
  have A1 := Aside0.mk A1_
  clear A1_
  (try dsimp only at A1 H)
  by_cases c93 : t2 < 0
  · rw [if_pos c93] at H
    have c93b0 : decide (t2 < 0) = true := decide_eq_true c93
    clear c93
    obtain rfl := Option.some.inj H
    go_enter Try.func11, Try.ntmps11
    try go_wp2_with (first | ((with_reducible refine gate_dst (N := 3) rfl ?_); refine box_event ?hg (N := 3) ?hd (cs := #[.slice A0_0 l0_0.length c0_0, .int .i64 a0_1]) (t := 24) ?hr ?_; (case hd => rfl); (case hg => rfl); (case hr => first | (go_simp; done) | (go_simp; rfl)); intro gb1 hg W3 hbox hb; have nn : w.heap.size ≤ gb1 := Nat.le_trans HT.out (Nat.le_of_eq hg.symm); have GE1 := Aside0.mk (Nat.le_trans (below_size HB.out) (Nat.le_of_eq hg.symm)); replace HB := Aside0.mk (below_step HB.out hb); replace HT := Aside0.mk (Nat.le_trans HT.out hb.size); have BK1 := Aside0.mk hbox; replace HT := Aside0.mk (Nat.succ_le_of_lt (blk_lt hbox)); replace HN := Aside0.mk (And.intro nn HN.out); clear hg hbox hb nn) | ((with_reducible refine gate_dst (N := 4) rfl ?_); refine box_event ?hg (N := 4) ?hd (cs := #[.slice A1_0 l1_0.length c1_0, .bool a1_1]) (t := 42) ?hr ?_; (case hd => rfl); (case hg => rfl); (case hr => first | (go_simp; done) | (go_simp; rfl)); intro gb2 hg W4 hbox hb; have nn : gb1.succ ≤ gb2 := Nat.le_trans HT.out (Nat.le_of_eq hg.symm); have GE2 := Aside0.mk (Nat.le_trans (below_size HB.out) (Nat.le_of_eq hg.symm)); replace BK1 := Aside0.mk (blk_below (g := gb1) (o := .cells #[.slice A0_0 l0_0.length c0_0, .int .i64 a0_1] 24 (0, 0)) BK1.out hb); replace HB := Aside0.mk (below_step HB.out hb); replace HT := Aside0.mk (Nat.le_trans HT.out hb.size); have BK2 := Aside0.mk hbox; replace HT := Aside0.mk (Nat.succ_le_of_lt (blk_lt hbox)); replace HN := Aside0.mk (And.intro nn HN.out); clear hg hbox hb nn; have cz1_0 : W4.cell? ⟨gb1, 0, none⟩ = some (.slice A0_0 l0_0.length c0_0) := (blk_cell BK1.out 0).trans rfl; have cz1_1 : W4.cell? ⟨gb1, 1, none⟩ = some (.int .i64 a0_1) := (blk_cell BK1.out 1).trans rfl) | ((with_reducible refine gate_dst (N := 25) rfl ?_); refine goesL_ (some 25) rfl rfl Try.func15 (by kernel_rfl) rfl #[.agg #[.slice A0_0 l0_0.length c0_0, .int .i64 a0_1], .int .i64 1048576] rfl (by (try simp only [List.map_toArray, List.map_cons, List.map_nil]); first | done | rfl) ?_; (with_reducible refine (laws_szParty.calls _ _ l0_0 a0_1 1048576 t2 _ (Kd.C_below HR0_0.out HB.out) HC0_0.out A1.out).mono ?_); rintro e W5 ⟨rfl, hb⟩; refine ⟨_, rfl, ?_⟩; replace BK1 := Aside0.mk (blk_below (g := gb1) (o := .cells #[.slice A0_0 l0_0.length c0_0, .int .i64 a0_1] 24 (0, 0)) BK1.out hb); replace BK2 := Aside0.mk (blk_below (g := gb2) (o := .cells #[.slice A1_0 l1_0.length c1_0, .bool a1_1] 42 (0, 0)) BK2.out hb); replace HB := Aside0.mk (below_step HB.out hb); replace HT := Aside0.mk (Nat.le_trans HT.out hb.size); clear hb; (try clear cz1_0 cz1_1)))
    go_ret
    exact ⟨by first | rfl | (simp; done) | (simp [*]; done), HB.out⟩
  rw [if_neg c93] at H
  have c93b0 : decide (t2 < 0) = false := decide_eq_false c93
  clear c93
  obtain ⟨t4, A3_, H⟩ := Option.bind_eq_some_iff.mp H
  have A3 := Aside0.mk A3_
  clear A3_
  (try dsimp only at A3 H)
  by_cases c94 : t4 < 0
  · rw [if_pos c94] at H
    have c94b0 : decide (t4 < 0) = true := decide_eq_true c94
    clear c94
    obtain rfl := Option.some.inj H
    go_enter Try.func11, Try.ntmps11
    try go_wp2_with (first | ((with_reducible refine gate_dst (N := 3) rfl ?_); refine box_event ?hg (N := 3) ?hd (cs := #[.slice A0_0 l0_0.length c0_0, .int .i64 a0_1]) (t := 24) ?hr ?_; (case hd => rfl); (case hg => rfl); (case hr => first | (go_simp; done) | (go_simp; rfl)); intro gb1 hg W6 hbox hb; have nn : w.heap.size ≤ gb1 := Nat.le_trans HT.out (Nat.le_of_eq hg.symm); have GE1 := Aside0.mk (Nat.le_trans (below_size HB.out) (Nat.le_of_eq hg.symm)); replace HB := Aside0.mk (below_step HB.out hb); replace HT := Aside0.mk (Nat.le_trans HT.out hb.size); have BK1 := Aside0.mk hbox; replace HT := Aside0.mk (Nat.succ_le_of_lt (blk_lt hbox)); replace HN := Aside0.mk (And.intro nn HN.out); clear hg hbox hb nn) | ((with_reducible refine gate_dst (N := 4) rfl ?_); refine box_event ?hg (N := 4) ?hd (cs := #[.slice A1_0 l1_0.length c1_0, .bool a1_1]) (t := 42) ?hr ?_; (case hd => rfl); (case hg => rfl); (case hr => first | (go_simp; done) | (go_simp; rfl)); intro gb2 hg W7 hbox hb; have nn : gb1.succ ≤ gb2 := Nat.le_trans HT.out (Nat.le_of_eq hg.symm); have GE2 := Aside0.mk (Nat.le_trans (below_size HB.out) (Nat.le_of_eq hg.symm)); replace BK1 := Aside0.mk (blk_below (g := gb1) (o := .cells #[.slice A0_0 l0_0.length c0_0, .int .i64 a0_1] 24 (0, 0)) BK1.out hb); replace HB := Aside0.mk (below_step HB.out hb); replace HT := Aside0.mk (Nat.le_trans HT.out hb.size); have BK2 := Aside0.mk hbox; replace HT := Aside0.mk (Nat.succ_le_of_lt (blk_lt hbox)); replace HN := Aside0.mk (And.intro nn HN.out); clear hg hbox hb nn; have cz1_0 : W7.cell? ⟨gb1, 0, none⟩ = some (.slice A0_0 l0_0.length c0_0) := (blk_cell BK1.out 0).trans rfl; have cz1_1 : W7.cell? ⟨gb1, 1, none⟩ = some (.int .i64 a0_1) := (blk_cell BK1.out 1).trans rfl) | ((with_reducible refine gate_dst (N := 25) rfl ?_); refine goesL_ (some 25) rfl rfl Try.func15 (by kernel_rfl) rfl #[.agg #[.slice A0_0 l0_0.length c0_0, .int .i64 a0_1], .int .i64 1048576] rfl (by (try simp only [List.map_toArray, List.map_cons, List.map_nil]); first | done | rfl) ?_; (with_reducible refine (laws_szParty.calls _ _ l0_0 a0_1 1048576 t2 _ (Kd.C_below HR0_0.out HB.out) HC0_0.out A1.out).mono ?_); rintro e W8 ⟨rfl, hb⟩; refine ⟨_, rfl, ?_⟩; replace BK1 := Aside0.mk (blk_below (g := gb1) (o := .cells #[.slice A0_0 l0_0.length c0_0, .int .i64 a0_1] 24 (0, 0)) BK1.out hb); replace BK2 := Aside0.mk (blk_below (g := gb2) (o := .cells #[.slice A1_0 l1_0.length c1_0, .bool a1_1] 42 (0, 0)) BK2.out hb); replace HB := Aside0.mk (below_step HB.out hb); replace HT := Aside0.mk (Nat.le_trans HT.out hb.size); clear hb; (try clear cz1_0 cz1_1); have cz2_0 : W8.cell? ⟨gb2, 0, none⟩ = some (.slice A1_0 l1_0.length c1_0) := (blk_cell BK2.out 0).trans rfl; have cz2_1 : W8.cell? ⟨gb2, 1, none⟩ = some (.bool a1_1) := (blk_cell BK2.out 1).trans rfl) | ((with_reducible refine gate_dst (N := 30) rfl ?_); refine goesL_ (some 30) rfl rfl Try.func30 (by kernel_rfl) rfl #[.agg #[.slice A1_0 l1_0.length c1_0, .bool a1_1], .int .i64 t2] rfl (by (try simp only [List.map_toArray, List.map_cons, List.map_nil]); first | done | rfl) ?_; (with_reducible refine (laws_szState.calls _ _ l1_0 a1_1 t2 t4 _ (Kd.C_below HR1_0.out HB.out) HC1_0.out A3.out).mono ?_); rintro e W9 ⟨rfl, hb⟩; refine ⟨_, rfl, ?_⟩; replace BK1 := Aside0.mk (blk_below (g := gb1) (o := .cells #[.slice A0_0 l0_0.length c0_0, .int .i64 a0_1] 24 (0, 0)) BK1.out hb); replace BK2 := Aside0.mk (blk_below (g := gb2) (o := .cells #[.slice A1_0 l1_0.length c1_0, .bool a1_1] 42 (0, 0)) BK2.out hb); replace HB := Aside0.mk (below_step HB.out hb); replace HT := Aside0.mk (Nat.le_trans HT.out hb.size); clear hb; (try clear cz2_0 cz2_1)))
    go_ret
    exact ⟨by first | rfl | (simp; done) | (simp [*]; done), HB.out⟩
  rw [if_neg c94] at H
  have c94b0 : decide (t4 < 0) = false := decide_eq_false c94
  clear c94
  obtain ⟨⟨t6, t7⟩, A5_, H⟩ := Option.bind_eq_some_iff.mp H
  have A5 := Aside0.mk A5_
  clear A5_
  (try dsimp only at A5 H)
  obtain ⟨⟨t10, t11⟩, A9_, H⟩ := Option.bind_eq_some_iff.mp H
  have A9 := Aside0.mk A9_
  clear A9_
  (try dsimp only at A9 H)
  obtain ⟨t14, A13_, H⟩ := Option.bind_eq_some_iff.mp H
  have A13 := Aside0.mk A13_
  clear A13_
  (try dsimp only at A13 H)
  obtain ⟨⟨t17, t18, t19⟩, A16_, H⟩ := Option.bind_eq_some_iff.mp H
  have A16 := Aside0.mk A16_
  clear A16_
  (try dsimp only at A16 H)
  obtain ⟨⟨t22, t23⟩, A21_, H⟩ := Option.bind_eq_some_iff.mp H
  have A21 := Aside0.mk A21_
  clear A21_
  (try dsimp only at A21 H)
  obtain ⟨⟨t26, t27⟩, A25_, H⟩ := Option.bind_eq_some_iff.mp H
  have A25 := Aside0.mk A25_
  clear A25_
  (try dsimp only at A25 H)
  obtain ⟨t30, A29_, H⟩ := Option.bind_eq_some_iff.mp H
  have A29 := Aside0.mk A29_
  clear A29_
  (try dsimp only at A29 H)
  obtain ⟨⟨t33, t34, t35⟩, A32_, H⟩ := Option.bind_eq_some_iff.mp H
  have A32 := Aside0.mk A32_
  clear A32_
  (try dsimp only at A32 H)
  obtain ⟨t38, A37_, H⟩ := Option.bind_eq_some_iff.mp H
  have A37 := Aside0.mk A37_
  clear A37_
  (try dsimp only at A37 H)
  rcases t38 with _ | _
  · rw [if_neg (by decide)] at H; cases H
  rw [if_pos rfl] at H
  by_cases c95 : (t35 != t19) = true
  · rw [if_pos c95] at H; cases H
  rw [if_neg c95] at H
  have c95b0 : (t35 != t19) = false := by simpa using c95
  have c95b1 : decide (t35 = t19) = true := by simpa using c95
  have c95b2 : (t35 == t19) = true := by simpa using c95
  clear c95
  obtain ⟨⟨t40, t41⟩, A39_, H⟩ := Option.bind_eq_some_iff.mp H
  have A39 := Aside0.mk A39_
  clear A39_
  (try dsimp only at A39 H)
  obtain ⟨t44, A43_, H⟩ := Option.bind_eq_some_iff.mp H
  have A43 := Aside0.mk A43_
  clear A43_
  (try dsimp only at A43 H)
  rcases t44 with _ | _
  · rw [if_neg (by decide)] at H; cases H
  rw [if_pos rfl] at H
  obtain ⟨⟨t46, t47⟩, A45_, H⟩ := Option.bind_eq_some_iff.mp H
  have A45 := Aside0.mk A45_
  clear A45_
  (try dsimp only at A45 H)
  obtain ⟨t50, A49_, H⟩ := Option.bind_eq_some_iff.mp H
  have A49 := Aside0.mk A49_
  clear A49_
  (try dsimp only at A49 H)
  rcases t50 with _ | _
  · rw [if_neg (by decide)] at H; cases H
  rw [if_pos rfl] at H
  obtain ⟨t52, A51_, H⟩ := Option.bind_eq_some_iff.mp H
  have A51 := Aside0.mk A51_
  clear A51_
  (try dsimp only at A51 H)
  obtain ⟨t55, A54_, H⟩ := Option.bind_eq_some_iff.mp H
  have A54 := Aside0.mk A54_
  clear A54_
  (try dsimp only at A54 H)
  rcases t55 with _ | _
  · rw [if_neg (by decide)] at H; cases H
  rw [if_pos rfl] at H
  obtain ⟨⟨t57, t58⟩, A56_, H⟩ := Option.bind_eq_some_iff.mp H
  have A56 := Aside0.mk A56_
  clear A56_
  (try dsimp only at A56 H)
  obtain ⟨⟨t60, t61⟩, A59_, H⟩ := Option.bind_eq_some_iff.mp H
  have A59 := Aside0.mk A59_
  clear A59_
  (try dsimp only at A59 H)
  obtain ⟨⟨t63, t64⟩, A62_, H⟩ := Option.bind_eq_some_iff.mp H
  have A62 := Aside0.mk A62_
  clear A62_
  (try dsimp only at A62 H)
  obtain ⟨t66, A65_, H⟩ := Option.bind_eq_some_iff.mp H
  have A65 := Aside0.mk A65_
  clear A65_
  (try dsimp only at A65 H)
  by_cases c96 : t63 < 0
  · rw [if_pos c96] at H; cases H
  rw [if_neg c96] at H
  have c96b0 : decide (t63 < 0) = false := decide_eq_false c96
  clear c96
  rcases t66 with _ | _
  · rw [if_neg (by decide)] at H; cases H
  rw [if_pos rfl] at H
  by_cases c97 : (t35 != t19) = true
  · rw [if_pos c97] at H; cases H
  rw [if_neg c97] at H
  have c97b0 : (t35 != t19) = false := by simpa using c97
  have c97b1 : decide (t35 = t19) = true := by simpa using c97
  have c97b2 : (t35 == t19) = true := by simpa using c97
  clear c97
  obtain ⟨⟨t68, t69⟩, A67_, H⟩ := Option.bind_eq_some_iff.mp H
  have A67 := Aside0.mk A67_
  clear A67_
  (try dsimp only at A67 H)
  obtain ⟨t71, A70_, H⟩ := Option.bind_eq_some_iff.mp H
  have A70 := Aside0.mk A70_
  clear A70_
  (try dsimp only at A70 H)
  by_cases c98 : t71 < 0
  · rw [if_pos c98] at H; cases H
  rw [if_neg c98] at H
  have c98b0 : decide (t71 < 0) = false := decide_eq_false c98
  clear c98
  by_cases c99 : t71 = t68
  rotate_left
  · rw [if_neg c99] at H; cases H
  rw [if_pos c99] at H
  have c99b0 : (t71 == t68) = true := beq_iff_eq.mpr c99
  have c99b1 : (t71 != t68) = false := bne_eq_false_iff_eq.mpr c99
  clear c99
  obtain ⟨⟨t73, t74⟩, A72_, H⟩ := Option.bind_eq_some_iff.mp H
  have A72 := Aside0.mk A72_
  clear A72_
  (try dsimp only at A72 H)
  obtain ⟨⟨t77, t78⟩, A76_, H⟩ := Option.bind_eq_some_iff.mp H
  have A76 := Aside0.mk A76_
  clear A76_
  (try dsimp only at A76 H)
  obtain ⟨t81, A80_, H⟩ := Option.bind_eq_some_iff.mp H
  have A80 := Aside0.mk A80_
  clear A80_
  (try dsimp only at A80 H)
  obtain ⟨⟨t84, t85, t86⟩, A83_, H⟩ := Option.bind_eq_some_iff.mp H
  have A83 := Aside0.mk A83_
  clear A83_
  (try dsimp only at A83 H)
  obtain ⟨t89, A88_, H⟩ := Option.bind_eq_some_iff.mp H
  have A88 := Aside0.mk A88_
  clear A88_
  (try dsimp only at A88 H)
  rcases t89 with _ | _
  · rw [if_neg (by decide)] at H; cases H
  rw [if_pos rfl] at H
  by_cases c100 : (t86 != t19) = true
  · rw [if_pos c100] at H; cases H
  rw [if_neg c100] at H
  have c100b0 : (t86 != t19) = false := by simpa using c100
  have c100b1 : decide (t86 = t19) = true := by simpa using c100
  have c100b2 : (t86 == t19) = true := by simpa using c100
  clear c100
  obtain ⟨t91, A90_, H⟩ := Option.bind_eq_some_iff.mp H
  have A90 := Aside0.mk A90_
  clear A90_
  (try dsimp only at A90 H)
  by_cases c101 : t91 < 0
  · rw [if_pos c101] at H; cases H
  rw [if_neg c101] at H
  have c101b0 : decide (t91 < 0) = false := decide_eq_false c101
  clear c101
  by_cases c102 : t91 = t68
  rotate_left
  · rw [if_neg c102] at H; cases H
  rw [if_pos c102] at H
  have c102b0 : (t91 == t68) = true := beq_iff_eq.mpr c102
  have c102b1 : (t91 != t68) = false := bne_eq_false_iff_eq.mpr c102
  clear c102
  obtain rfl := Option.some.inj H
  clear H
  go_enter Try.func11, Try.ntmps11
  try go_wp2_with (first | ((with_reducible refine gate_dst (N := 3) rfl ?_); refine box_event ?hg (N := 3) ?hd (cs := #[.slice A0_0 l0_0.length c0_0, .int .i64 a0_1]) (t := 24) ?hr ?_; (case hd => rfl); (case hg => rfl); (case hr => first | (go_simp; done) | (go_simp; rfl)); intro gb1 hg W10 hbox hb; have nn : w.heap.size ≤ gb1 := Nat.le_trans HT.out (Nat.le_of_eq hg.symm); have GE1 := Aside0.mk (Nat.le_trans (below_size HB.out) (Nat.le_of_eq hg.symm)); replace HB := Aside0.mk (below_step HB.out hb); replace HT := Aside0.mk (Nat.le_trans HT.out hb.size); have BK1 := Aside0.mk hbox; replace HT := Aside0.mk (Nat.succ_le_of_lt (blk_lt hbox)); replace HN := Aside0.mk (And.intro nn HN.out); clear hg hbox hb nn) | ((with_reducible refine gate_dst (N := 4) rfl ?_); refine box_event ?hg (N := 4) ?hd (cs := #[.slice A1_0 l1_0.length c1_0, .bool a1_1]) (t := 42) ?hr ?_; (case hd => rfl); (case hg => rfl); (case hr => first | (go_simp; done) | (go_simp; rfl)); intro gb2 hg W11 hbox hb; have nn : gb1.succ ≤ gb2 := Nat.le_trans HT.out (Nat.le_of_eq hg.symm); have GE2 := Aside0.mk (Nat.le_trans (below_size HB.out) (Nat.le_of_eq hg.symm)); replace BK1 := Aside0.mk (blk_below (g := gb1) (o := .cells #[.slice A0_0 l0_0.length c0_0, .int .i64 a0_1] 24 (0, 0)) BK1.out hb); replace HB := Aside0.mk (below_step HB.out hb); replace HT := Aside0.mk (Nat.le_trans HT.out hb.size); have BK2 := Aside0.mk hbox; replace HT := Aside0.mk (Nat.succ_le_of_lt (blk_lt hbox)); replace HN := Aside0.mk (And.intro nn HN.out); clear hg hbox hb nn; have cz1_0 : W11.cell? ⟨gb1, 0, none⟩ = some (.slice A0_0 l0_0.length c0_0) := (blk_cell BK1.out 0).trans rfl; have cz1_1 : W11.cell? ⟨gb1, 1, none⟩ = some (.int .i64 a0_1) := (blk_cell BK1.out 1).trans rfl) | ((with_reducible refine gate_dst (N := 25) rfl ?_); refine goesL_ (some 25) rfl rfl Try.func15 (by kernel_rfl) rfl #[.agg #[.slice A0_0 l0_0.length c0_0, .int .i64 a0_1], .int .i64 1048576] rfl (by (try simp only [List.map_toArray, List.map_cons, List.map_nil]); first | done | rfl) ?_; (with_reducible refine (laws_szParty.calls _ _ l0_0 a0_1 1048576 t2 _ (Kd.C_below HR0_0.out HB.out) HC0_0.out A1.out).mono ?_); rintro e W12 ⟨rfl, hb⟩; refine ⟨_, rfl, ?_⟩; replace BK1 := Aside0.mk (blk_below (g := gb1) (o := .cells #[.slice A0_0 l0_0.length c0_0, .int .i64 a0_1] 24 (0, 0)) BK1.out hb); replace BK2 := Aside0.mk (blk_below (g := gb2) (o := .cells #[.slice A1_0 l1_0.length c1_0, .bool a1_1] 42 (0, 0)) BK2.out hb); replace HB := Aside0.mk (below_step HB.out hb); replace HT := Aside0.mk (Nat.le_trans HT.out hb.size); clear hb; (try clear cz1_0 cz1_1); have cz2_0 : W12.cell? ⟨gb2, 0, none⟩ = some (.slice A1_0 l1_0.length c1_0) := (blk_cell BK2.out 0).trans rfl; have cz2_1 : W12.cell? ⟨gb2, 1, none⟩ = some (.bool a1_1) := (blk_cell BK2.out 1).trans rfl) | ((with_reducible refine gate_dst (N := 30) rfl ?_); refine goesL_ (some 30) rfl rfl Try.func30 (by kernel_rfl) rfl #[.agg #[.slice A1_0 l1_0.length c1_0, .bool a1_1], .int .i64 t2] rfl (by (try simp only [List.map_toArray, List.map_cons, List.map_nil]); first | done | rfl) ?_; (with_reducible refine (laws_szState.calls _ _ l1_0 a1_1 t2 t4 _ (Kd.C_below HR1_0.out HB.out) HC1_0.out A3.out).mono ?_); rintro e W13 ⟨rfl, hb⟩; refine ⟨_, rfl, ?_⟩; replace BK1 := Aside0.mk (blk_below (g := gb1) (o := .cells #[.slice A0_0 l0_0.length c0_0, .int .i64 a0_1] 24 (0, 0)) BK1.out hb); replace BK2 := Aside0.mk (blk_below (g := gb2) (o := .cells #[.slice A1_0 l1_0.length c1_0, .bool a1_1] 42 (0, 0)) BK2.out hb); replace HB := Aside0.mk (below_step HB.out hb); replace HT := Aside0.mk (Nat.le_trans HT.out hb.size); clear hb; (try clear cz2_0 cz2_1)))
  have hb : Below W13.heap.size W13 W13.drew := below_drew (Below.refl _ _)
  replace BK1 := Aside0.mk (blk_below (g := gb1) (o := .cells #[.slice A0_0 l0_0.length c0_0, .int .i64 a0_1] 24 (0, 0)) BK1.out hb)
  replace BK2 := Aside0.mk (blk_below (g := gb2) (o := .cells #[.slice A1_0 l1_0.length c1_0, .bool a1_1] 42 (0, 0)) BK2.out hb)
  replace HB := Aside0.mk (below_step HB.out hb)
  replace HT := Aside0.mk (Nat.le_trans HT.out hb.size)
  clear hb
  refine start_ (n := 13) (S := fun w' => w'.cell? ⟨gb1, 0, none⟩ = some (.slice A0_0 l0_0.length c0_0) ∧ w'.cell? ⟨gb1, 1, none⟩ = some (.int .i64 a0_1) ∧ w'.cell? ⟨gb2, 0, none⟩ = some (.slice A1_0 l1_0.length c1_0) ∧ w'.cell? ⟨gb2, 1, none⟩ = some (.bool a1_1)) (ds := []) #[false, false, false, false, false, false, false, false, false, false, false, false, false] (by kernel_rfl) rfl rfl ⟨(blk_cell BK1.out 0).trans rfl, (blk_cell BK1.out 1).trans rfl, (blk_cell BK2.out 0).trans rfl, (blk_cell BK2.out 1).trans rfl⟩ (fun hHeld => ?_)
  generalize W13.drew = W14 at BK1 BK2 HB HT hHeld ⊢
  refine take_ (i := 0) (N := some 34) (v := ?_) (a' := ?_) #[true, false, false, false, false, false, false, false, false, false, false, false, false] rfl rfl (by kernel_rfl) (fun _ _ _ h => h) (Or.inl ⟨by rfl, ?_⟩) hHeld ?_ ?_
  rotate_left
  · rintro w' ⟨s0, s1, s2, s3⟩
    go_simp
    with_reducible rfl
  rotate_left
  · simp only [Act.put, List.setIfInBounds_toArray, List.set_cons_zero, List.set_cons_succ, i64_w, i32_w]
    rfl
  refine take_ (i := 2) (N := some 36) (v := ?_) (a' := ?_) #[true, false, true, false, false, false, false, false, false, false, false, false, false] rfl rfl (by kernel_rfl) (fun _ _ _ h => h) (Or.inl ⟨by rfl, ?_⟩) hHeld ?_ ?_
  rotate_left
  · rintro w' ⟨s0, s1, s2, s3⟩
    go_simp
    with_reducible rfl
  rotate_left
  · simp only [Act.put, List.setIfInBounds_toArray, List.set_cons_zero, List.set_cons_succ, i64_w, i32_w]
    rfl
  refine pure_ (i := 4) (N := some 38) (v := ?_) (a' := ?_) #[true, false, true, false, true, false, false, false, false, false, false, false, false] rfl rfl (by kernel_rfl) (fun _ _ _ h => h) (Or.inl ⟨by rfl, ?_⟩) ?_ ?_
  rotate_left
  · intro w'
    go_simp
    with_reducible rfl
  rotate_left
  · simp only [Act.put, List.setIfInBounds_toArray, List.set_cons_zero, List.set_cons_succ, i64_w, i32_w]
    rfl
  refine join_ (σ := Option Addr × Nat × Option Addr × Nat × Option Addr × Nat × Option Addr × Nat × Nat) 2 #[true, true, true, true, true, true, true, true, true, true, true, false, false] (fun s => [(35, .agg #[.slice s.1 t6.length s.2.1, .int .i64 t7]), (37, .agg #[.slice s.2.2.1 t10.length s.2.2.2.1, .bool t11]), (39, .slice s.2.2.2.2.1 t14.length s.2.2.2.2.2.1), (40, .tuple #[.agg #[.slice s.2.2.2.2.2.2.1 t17.length s.2.2.2.2.2.2.2.1, .bool t18], .bool t19]), (33, .tuple #[.agg #[.slice s.2.2.2.2.2.2.1 t17.length s.2.2.2.2.2.2.2.1, .bool t18], .bool t19]), (41, .agg #[.slice s.2.2.2.2.2.2.1 t17.length s.2.2.2.2.2.2.2.1, .bool t18]), (42, .bool t19), (8, .pointer (some ⟨s.2.2.2.2.2.2.2.2, 0, none⟩))]) (fun s w' => ∃ lo20 hi20 T_ : Nat, Aside0 (Kd.R Kd.bool 4 w' w.heap.size (fun k_ => lo20 ≤ k_ ∧ k_ < hi20) (.slice s.2.2.2.2.2.2.1 t17.length s.2.2.2.2.2.2.2.1) t17) ∧ Aside0 (w'.heap[gb1]? = some (.cells #[.slice A0_0 l0_0.length c0_0, .int .i64 a0_1] 24 (0, 0))) ∧ Aside0 (w'.heap[gb2]? = some (.cells #[.slice A1_0 l1_0.length c1_0, .bool a1_1] 42 (0, 0))) ∧ Aside0 (w'.heap[s.2.2.2.2.2.2.2.2]? = some (.cells #[.slice none 0 0, .bool false] 46 (0, 0))) ∧ Aside0 (Below w.heap.size w w') ∧ Aside0 (T_ ≤ w'.heap.size) ∧ Aside0 (w.heap.size ≤ s.2.2.2.2.2.2.2.2) ∧ Aside0 (gb2.succ ≤ s.2.2.2.2.2.2.2.2 ∧ s.2.2.2.2.2.2.2.2 < T_ ∧ gb2.succ ≤ lo20 ∧ lo20 ≤ hi20 ∧ hi20 ≤ T_ ∧ (s.2.2.2.2.2.2.2.2 < lo20 ∨ hi20 ≤ s.2.2.2.2.2.2.2.2))) ?_ ?_
  rotate_left
  · intro hJ4
    refine join_ (σ := Option Addr × Nat × Option Addr × Nat × Option Addr × Nat × Nat) 6 #[true, true, true, true, true, true, false, false, false, false, true, false, false] (fun s => [(35, .agg #[.slice s.1 t6.length s.2.1, .int .i64 t7]), (37, .agg #[.slice s.2.2.1 t10.length s.2.2.2.1, .bool t11]), (39, .slice s.2.2.2.2.1 t14.length s.2.2.2.2.2.1), (8, .pointer (some ⟨s.2.2.2.2.2.2, 0, none⟩))]) (fun s w' => ∃ lo8 hi8 lo12 hi12 lo15 hi15 T_ : Nat, Aside0 (Kd.R (Kd.int .i64) 3 w' w.heap.size (fun k_ => lo8 ≤ k_ ∧ k_ < hi8) (.slice s.1 t6.length s.2.1) t6) ∧ Aside0 (Kd.R Kd.bool 4 w' w.heap.size (fun k_ => lo12 ≤ k_ ∧ k_ < hi12) (.slice s.2.2.1 t10.length s.2.2.2.1) t10) ∧ Aside0 (Kd.R (Kd.int .i64) 3 w' w.heap.size (fun k_ => lo15 ≤ k_ ∧ k_ < hi15) (.slice s.2.2.2.2.1 t14.length s.2.2.2.2.2.1) t14) ∧ Aside0 (w'.heap[gb1]? = some (.cells #[.slice A0_0 l0_0.length c0_0, .int .i64 a0_1] 24 (0, 0))) ∧ Aside0 (w'.heap[gb2]? = some (.cells #[.slice A1_0 l1_0.length c1_0, .bool a1_1] 42 (0, 0))) ∧ Aside0 (w'.heap[s.2.2.2.2.2.2]? = some (.cells #[.slice none 0 0, .bool false] 46 (0, 0))) ∧ Aside0 (Below w.heap.size w w') ∧ Aside0 (T_ ≤ w'.heap.size) ∧ Aside0 (w.heap.size ≤ s.2.2.2.2.2.2) ∧ Aside0 (gb2.succ ≤ s.2.2.2.2.2.2 ∧ s.2.2.2.2.2.2 < T_ ∧ gb2.succ ≤ lo8 ∧ lo8 ≤ hi8 ∧ hi8 ≤ T_ ∧ (s.2.2.2.2.2.2 < lo8 ∨ hi8 ≤ s.2.2.2.2.2.2) ∧ gb2.succ ≤ lo12 ∧ lo12 ≤ hi12 ∧ hi12 ≤ T_ ∧ (s.2.2.2.2.2.2 < lo12 ∨ hi12 ≤ s.2.2.2.2.2.2) ∧ gb2.succ ≤ lo15 ∧ lo15 ≤ hi15 ∧ hi15 ≤ T_ ∧ (s.2.2.2.2.2.2 < lo15 ∨ hi15 ≤ s.2.2.2.2.2.2) ∧ hi8 ≤ lo12 ∧ hi8 ≤ lo15 ∧ hi12 ≤ lo15)) ?_ ?_
    rotate_left
    · intro hJ3
      refine join_ (σ := Option Addr × Nat × Option Addr × Nat × Nat) 7 #[true, true, true, true, true, false, false, false, false, false, true, false, false] (fun s => [(35, .agg #[.slice s.1 t6.length s.2.1, .int .i64 t7]), (37, .agg #[.slice s.2.2.1 t10.length s.2.2.2.1, .bool t11]), (8, .pointer (some ⟨s.2.2.2.2, 0, none⟩))]) (fun s w' => ∃ lo8 hi8 lo12 hi12 T_ : Nat, Aside0 (Kd.R (Kd.int .i64) 3 w' w.heap.size (fun k_ => lo8 ≤ k_ ∧ k_ < hi8) (.slice s.1 t6.length s.2.1) t6) ∧ Aside0 (Kd.R Kd.bool 4 w' w.heap.size (fun k_ => lo12 ≤ k_ ∧ k_ < hi12) (.slice s.2.2.1 t10.length s.2.2.2.1) t10) ∧ Aside0 (w'.heap[gb1]? = some (.cells #[.slice A0_0 l0_0.length c0_0, .int .i64 a0_1] 24 (0, 0))) ∧ Aside0 (w'.heap[gb2]? = some (.cells #[.slice A1_0 l1_0.length c1_0, .bool a1_1] 42 (0, 0))) ∧ Aside0 (w'.heap[s.2.2.2.2]? = some (.cells #[.slice none 0 0, .bool false] 46 (0, 0))) ∧ Aside0 (Below w.heap.size w w') ∧ Aside0 (T_ ≤ w'.heap.size) ∧ Aside0 (w.heap.size ≤ s.2.2.2.2) ∧ Aside0 (gb2.succ ≤ s.2.2.2.2 ∧ s.2.2.2.2 < T_ ∧ gb2.succ ≤ lo8 ∧ lo8 ≤ hi8 ∧ hi8 ≤ T_ ∧ (s.2.2.2.2 < lo8 ∨ hi8 ≤ s.2.2.2.2) ∧ gb2.succ ≤ lo12 ∧ lo12 ≤ hi12 ∧ hi12 ≤ T_ ∧ (s.2.2.2.2 < lo12 ∨ hi12 ≤ s.2.2.2.2) ∧ hi8 ≤ lo12)) ?_ ?_
      rotate_left
      · intro hJ2
        refine join_ (σ := Option Addr × Nat × Nat) 8 #[true, true, true, false, true, false, false, false, false, false, true, false, false] (fun s => [(35, .agg #[.slice s.1 t6.length s.2.1, .int .i64 t7]), (8, .pointer (some ⟨s.2.2, 0, none⟩))]) (fun s w' => ∃ lo8 hi8 T_ : Nat, Aside0 (Kd.R (Kd.int .i64) 3 w' w.heap.size (fun k_ => lo8 ≤ k_ ∧ k_ < hi8) (.slice s.1 t6.length s.2.1) t6) ∧ Aside0 (w'.heap[gb1]? = some (.cells #[.slice A0_0 l0_0.length c0_0, .int .i64 a0_1] 24 (0, 0))) ∧ Aside0 (w'.heap[gb2]? = some (.cells #[.slice A1_0 l1_0.length c1_0, .bool a1_1] 42 (0, 0))) ∧ Aside0 (w'.heap[s.2.2]? = some (.cells #[.slice none 0 0, .bool false] 46 (0, 0))) ∧ Aside0 (Below w.heap.size w w') ∧ Aside0 (T_ ≤ w'.heap.size) ∧ Aside0 (w.heap.size ≤ s.2.2) ∧ Aside0 (gb2.succ ≤ s.2.2 ∧ s.2.2 < T_ ∧ gb2.succ ≤ lo8 ∧ lo8 ≤ hi8 ∧ hi8 ≤ T_ ∧ (s.2.2 < lo8 ∨ hi8 ≤ s.2.2))) ?_ ?_
        rotate_left
        · intro hJ1
          refine join_ (σ := Nat) 9 #[true, false, true, false, true, false, false, false, false, false, true, false, false] (fun s => [(8, .pointer (some ⟨s, 0, none⟩))]) (fun s w' => ∃ T_ : Nat, Aside0 (w'.heap[gb1]? = some (.cells #[.slice A0_0 l0_0.length c0_0, .int .i64 a0_1] 24 (0, 0))) ∧ Aside0 (w'.heap[gb2]? = some (.cells #[.slice A1_0 l1_0.length c1_0, .bool a1_1] 42 (0, 0))) ∧ Aside0 (w'.heap[s]? = some (.cells #[.slice none 0 0, .bool false] 46 (0, 0))) ∧ Aside0 (Below w.heap.size w w') ∧ Aside0 (T_ ≤ w'.heap.size) ∧ Aside0 (w.heap.size ≤ s) ∧ Aside0 (gb2.succ ≤ s ∧ s < T_)) ?_ ?_
          rotate_left
          · intro hJ0
            refine two_ (i := 1) (j := 10) (Ni := some 35) (Nj := some 8) #[true, true, true, false, true, false, false, false, false, false, false, false, false] #[true, false, true, false, true, false, false, false, false, false, true, false, false] rfl rfl rfl rfl (by kernel_rfl) (by decide) (by decide) (fun K hK => ?_) (fun K hK => ?_)
            · skip
              refine goes_ Try.func17 (by kernel_rfl) rfl #[.agg #[.slice A0_0 l0_0.length c0_0, .int .i64 a0_1]] (by rfl) rfl rfl (by (try simp only [List.map_toArray, List.map_cons, List.map_nil]); first | done | rfl) ?_
              with_reducible refine (laws_toParty.calls k _ _ l0_0 a0_1 t6 t7 _ (Kd.C_below HR0_0.out HB.out) HC0_0.out A5.out).mono ?_
              rintro e W15 ⟨v8, rfl, ho8, hb⟩
              refine ⟨_, rfl, ?_⟩
              obtain ⟨B8, d8, e_⟩ := Kd.R_slice ho8
              subst e_
              obtain ⟨lo8, hi8, nn, ht_, hO8⟩ := laws_FnExactCrossBridge.newR ho8 HT.out (below_size HB.out) hb.size
              replace BK1 := Aside0.mk (blk_below (g := gb1) (o := .cells #[.slice A0_0 l0_0.length c0_0, .int .i64 a0_1] 24 (0, 0)) BK1.out hb)
              replace BK2 := Aside0.mk (blk_below (g := gb2) (o := .cells #[.slice A1_0 l1_0.length c1_0, .bool a1_1] 42 (0, 0)) BK2.out hb)
              replace HB := Aside0.mk (below_step HB.out hb)
              replace HT := Aside0.mk (Nat.le_trans HT.out hb.size)
              have HO8 := Aside0.mk hO8
              replace HT := Aside0.mk ht_
              replace HN := Aside0.mk (And.intro nn HN.out)
              clear ho8 hO8 nn ht_
              clear hb
              refine hK.out _ _ ⟨(blk_cell BK1.out 0).trans rfl, (blk_cell BK1.out 1).trans rfl, (blk_cell BK2.out 0).trans rfl, (blk_cell BK2.out 1).trans rfl⟩ (fun hHeld => ?_)
              clear hK K
              refine norm_ (a' := ?_) ?_ ?_
              rotate_left
              · show Act.put _ (some 35) _ = _
                simp only [Act.put, List.setIfInBounds_toArray, List.set_cons_zero, List.set_cons_succ, i64_w, i32_w]
                rfl
              refine two_ (i := 3) (j := 10) (Ni := some 37) (Nj := some 8) #[true, true, true, true, true, false, false, false, false, false, false, false, false] #[true, true, true, false, true, false, false, false, false, false, true, false, false] rfl rfl rfl rfl (by kernel_rfl) (by decide) (by decide) (fun K hK => ?_) (fun K hK => ?_)
              · skip
                refine goes_ Try.func32 (by kernel_rfl) rfl #[.agg #[.slice A1_0 l1_0.length c1_0, .bool a1_1]] (by rfl) rfl rfl (by (try simp only [List.map_toArray, List.map_cons, List.map_nil]); first | done | rfl) ?_
                with_reducible refine (laws_toState.calls k _ _ l1_0 a1_1 t10 t11 _ (Kd.C_below HR1_0.out HB.out) HC1_0.out A9.out).mono ?_
                rintro e W16 ⟨v12, rfl, ho12, hb⟩
                refine ⟨_, rfl, ?_⟩
                obtain ⟨B12, d12, e_⟩ := Kd.R_slice ho12
                subst e_
                obtain ⟨lo12, hi12, nn, ht_, hO12⟩ := laws_FnExactCrossBridge.newR ho12 HT.out (below_size HB.out) hb.size
                replace HO8 := Aside0.mk (Kd.R_below HO8.out hb)
                replace BK1 := Aside0.mk (blk_below (g := gb1) (o := .cells #[.slice A0_0 l0_0.length c0_0, .int .i64 a0_1] 24 (0, 0)) BK1.out hb)
                replace BK2 := Aside0.mk (blk_below (g := gb2) (o := .cells #[.slice A1_0 l1_0.length c1_0, .bool a1_1] 42 (0, 0)) BK2.out hb)
                replace HB := Aside0.mk (below_step HB.out hb)
                replace HT := Aside0.mk (Nat.le_trans HT.out hb.size)
                have HO12 := Aside0.mk hO12
                replace HT := Aside0.mk ht_
                replace HN := Aside0.mk (And.intro nn HN.out)
                clear ho12 hO12 nn ht_
                clear hb
                refine hK.out _ _ ⟨(blk_cell BK1.out 0).trans rfl, (blk_cell BK1.out 1).trans rfl, (blk_cell BK2.out 0).trans rfl, (blk_cell BK2.out 1).trans rfl⟩ (fun hHeld => ?_)
                clear hK K
                refine norm_ (a' := ?_) ?_ ?_
                rotate_left
                · show Act.put _ (some 37) _ = _
                  simp only [Act.put, List.setIfInBounds_toArray, List.set_cons_zero, List.set_cons_succ, i64_w, i32_w]
                  rfl
                refine two_ (i := 5) (j := 10) (Ni := some 39) (Nj := some 8) #[true, true, true, true, true, true, false, false, false, false, false, false, false] #[true, true, true, true, true, false, false, false, false, false, true, false, false] rfl rfl rfl rfl (by kernel_rfl) (by decide) (by decide) (fun K hK => ?_) (fun K hK => ?_)
                · skip
                  refine goes_ Try.func21 (by kernel_rfl) rfl #[.slice A2 l2.length c2] (by rfl) rfl rfl (by (try simp only [List.map_toArray, List.map_cons, List.map_nil]); first | done | rfl) ?_
                  with_reducible refine (laws_toIntS.calls k _ _ l2 t14 _ (Kd.C_below HR2.out HB.out) HC2.out A13.out).mono ?_
                  rintro e W17 ⟨v15, rfl, ho15, hb⟩
                  refine ⟨_, rfl, ?_⟩
                  obtain ⟨B15, d15, e_⟩ := Kd.R_slice ho15
                  subst e_
                  obtain ⟨lo15, hi15, nn, ht_, hO15⟩ := laws_FnExactCrossBridge.newR ho15 HT.out (below_size HB.out) hb.size
                  replace HO8 := Aside0.mk (Kd.R_below HO8.out hb)
                  replace HO12 := Aside0.mk (Kd.R_below HO12.out hb)
                  replace BK1 := Aside0.mk (blk_below (g := gb1) (o := .cells #[.slice A0_0 l0_0.length c0_0, .int .i64 a0_1] 24 (0, 0)) BK1.out hb)
                  replace BK2 := Aside0.mk (blk_below (g := gb2) (o := .cells #[.slice A1_0 l1_0.length c1_0, .bool a1_1] 42 (0, 0)) BK2.out hb)
                  replace HB := Aside0.mk (below_step HB.out hb)
                  replace HT := Aside0.mk (Nat.le_trans HT.out hb.size)
                  have HO15 := Aside0.mk hO15
                  replace HT := Aside0.mk ht_
                  replace HN := Aside0.mk (And.intro nn HN.out)
                  clear ho15 hO15 nn ht_
                  clear hb
                  refine hK.out _ _ ⟨(blk_cell BK1.out 0).trans rfl, (blk_cell BK1.out 1).trans rfl, (blk_cell BK2.out 0).trans rfl, (blk_cell BK2.out 1).trans rfl⟩ (fun hHeld => ?_)
                  clear hK K
                  refine norm_ (a' := ?_) ?_ ?_
                  rotate_left
                  · show Act.put _ (some 39) _ = _
                    simp only [Act.put, List.setIfInBounds_toArray, List.set_cons_zero, List.set_cons_succ, i64_w, i32_w]
                    rfl
                  refine two_ (i := 6) (j := 10) (Ni := some 40) (Nj := some 8) #[true, true, true, true, true, true, true, false, false, false, false, false, false] #[true, true, true, true, true, true, false, false, false, false, true, false, false] rfl rfl rfl rfl (by kernel_rfl) (by decide) (by decide) (fun K hK => ?_) (fun K hK => ?_)
                  · skip
                    refine goes_ Try.func43 (by kernel_rfl) rfl #[.agg #[.slice B8 t6.length d8, .int .i64 t7], .agg #[.slice B12 t10.length d12, .bool t11], .slice B15 t14.length d15] (by rfl) rfl rfl (by (try simp only [List.map_toArray, List.map_cons, List.map_nil]); first | done | rfl) ?_
                    with_reducible refine (spec_CrossBridge.calls k _ _ t6 t7 _ _ t10 t11 _ _ t14 t17 t18 t19 _ (Kd.R_reads' HO8.out).2.2 (Kd.R_reads' HO8.out).2.1 (Kd.R_reads' HO12.out).2.2 (Kd.R_reads' HO12.out).2.1 (Kd.R_reads' HO15.out).2.2 (Kd.R_reads' HO15.out).2.1 A16.out).mono ?_
                    rintro e W18 ⟨v20, rfl, ho20, hb⟩
                    refine ⟨_, rfl, ?_⟩
                    obtain ⟨B20, d20, e_⟩ := Kd.R_slice ho20
                    subst e_
                    obtain ⟨lo20, hi20, nn, ht_, hO20⟩ := laws_FnExactCrossBridge.newR ho20 HT.out (below_size HB.out) hb.size
                    replace HO8 := Aside0.mk (Kd.R_below HO8.out hb)
                    replace HO12 := Aside0.mk (Kd.R_below HO12.out hb)
                    replace HO15 := Aside0.mk (Kd.R_below HO15.out hb)
                    replace BK1 := Aside0.mk (blk_below (g := gb1) (o := .cells #[.slice A0_0 l0_0.length c0_0, .int .i64 a0_1] 24 (0, 0)) BK1.out hb)
                    replace BK2 := Aside0.mk (blk_below (g := gb2) (o := .cells #[.slice A1_0 l1_0.length c1_0, .bool a1_1] 42 (0, 0)) BK2.out hb)
                    replace HB := Aside0.mk (below_step HB.out hb)
                    replace HT := Aside0.mk (Nat.le_trans HT.out hb.size)
                    have HO20 := Aside0.mk hO20
                    replace HT := Aside0.mk ht_
                    replace HN := Aside0.mk (And.intro nn HN.out)
                    clear ho20 hO20 nn ht_
                    clear hb
                    clear HO8 HO12 HO15
                    refine hK.out _ _ ⟨(blk_cell BK1.out 0).trans rfl, (blk_cell BK1.out 1).trans rfl, (blk_cell BK2.out 0).trans rfl, (blk_cell BK2.out 1).trans rfl⟩ (fun hHeld => ?_)
                    clear hK K
                    refine norm_ (a' := ?_) ?_ ?_
                    rotate_left
                    · show Act.put _ (some 40) _ = _
                      simp only [Act.put, List.setIfInBounds_toArray, List.set_cons_zero, List.set_cons_succ, i64_w, i32_w]
                      rfl
                    refine pure_ (i := 7) (N := some 33) (v := ?_) (a' := ?_) #[true, true, true, true, true, true, true, true, false, false, false, false, false] rfl rfl (by kernel_rfl) (fun _ _ _ h => h) (Or.inl ⟨by rfl, ?_⟩) ?_ ?_
                    rotate_left
                    · intro w'
                      go_simp
                      with_reducible rfl
                    rotate_left
                    · simp only [Act.put, List.setIfInBounds_toArray, List.set_cons_zero, List.set_cons_succ, i64_w, i32_w]
                      rfl
                    refine pure_ (i := 8) (N := some 41) (v := ?_) (a' := ?_) #[true, true, true, true, true, true, true, true, true, false, false, false, false] rfl rfl (by kernel_rfl) (fun _ _ _ h => h) (Or.inl ⟨by rfl, ?_⟩) ?_ ?_
                    rotate_left
                    · intro w'
                      go_simp
                      with_reducible rfl
                    rotate_left
                    · simp only [Act.put, List.setIfInBounds_toArray, List.set_cons_zero, List.set_cons_succ, i64_w, i32_w]
                      rfl
                    refine pure_ (i := 9) (N := some 42) (v := ?_) (a' := ?_) #[true, true, true, true, true, true, true, true, true, true, false, false, false] rfl rfl (by kernel_rfl) (fun _ _ _ h => h) (Or.inl ⟨by rfl, ?_⟩) ?_ ?_
                    rotate_left
                    · intro w'
                      go_simp
                      with_reducible rfl
                    rotate_left
                    · simp only [Act.put, List.setIfInBounds_toArray, List.set_cons_zero, List.set_cons_succ, i64_w, i32_w]
                      rfl
                    refine one_ (i := 10) (N := some 8) #[true, true, true, true, true, true, true, true, true, true, true, false, false] rfl rfl (by kernel_rfl) (by decide) (fun K hK => ?_)
                    refine box_step (by rfl) (N := 8) rfl (cs := #[.slice none 0 0, .bool false]) (t := 46) ?hr ?_
                    (case hr => first | (go_simp; done) | (go_simp; rfl))
                    intro gb3 hg W19 hbox hb
                    have nn : hi20 ≤ gb3 := Nat.le_trans HT.out (Nat.le_of_eq hg.symm)
                    have GE3 := Aside0.mk (Nat.le_trans (below_size HB.out) (Nat.le_of_eq hg.symm))
                    replace HO20 := Aside0.mk (Kd.R_below HO20.out hb)
                    replace BK1 := Aside0.mk (blk_below (g := gb1) (o := .cells #[.slice A0_0 l0_0.length c0_0, .int .i64 a0_1] 24 (0, 0)) BK1.out hb)
                    replace BK2 := Aside0.mk (blk_below (g := gb2) (o := .cells #[.slice A1_0 l1_0.length c1_0, .bool a1_1] 42 (0, 0)) BK2.out hb)
                    replace HB := Aside0.mk (below_step HB.out hb)
                    replace HT := Aside0.mk (Nat.le_trans HT.out hb.size)
                    have BK3 := Aside0.mk hbox
                    replace HT := Aside0.mk (Nat.succ_le_of_lt (blk_lt hbox))
                    replace HN := Aside0.mk (And.intro nn HN.out)
                    clear hg hbox hb nn
                    refine hK.out _ _ ⟨(blk_cell BK1.out 0).trans rfl, (blk_cell BK1.out 1).trans rfl, (blk_cell BK2.out 0).trans rfl, (blk_cell BK2.out 1).trans rfl⟩ (fun hHeld => ?_)
                    clear hK K
                    refine norm_ (a' := ?_) ?_ ?_
                    rotate_left
                    · show Act.put _ (some 8) _ = _
                      simp only [Act.put, List.setIfInBounds_toArray, List.set_cons_zero, List.set_cons_succ, i64_w, i32_w]
                      rfl
                    exact norm_ (by first | (simp only [putAll, Act.put, List.setIfInBounds_toArray, List.set_cons_zero, List.set_cons_succ]; done) | (simp only [putAll, Act.put, List.setIfInBounds_toArray, List.set_cons_zero, List.set_cons_succ]; rfl)) (hJ4 (B8, d8, B12, d12, B15, d15, B20, d20, gb3) _ ⟨lo20, hi20, gb3.succ, HO20, BK1, BK2, BK3, HB, HT, GE3, ⟨by have hn_ := HN.out; (try dsimp only); omega⟩⟩)
                  · skip
                    refine box_step (by rfl) (N := 8) rfl (cs := #[.slice none 0 0, .bool false]) (t := 46) ?hr ?_
                    (case hr => first | (go_simp; done) | (go_simp; rfl))
                    intro gb3 hg W20 hbox hb
                    have nn : hi15 ≤ gb3 := Nat.le_trans HT.out (Nat.le_of_eq hg.symm)
                    have GE3 := Aside0.mk (Nat.le_trans (below_size HB.out) (Nat.le_of_eq hg.symm))
                    replace HO8 := Aside0.mk (Kd.R_below HO8.out hb)
                    replace HO12 := Aside0.mk (Kd.R_below HO12.out hb)
                    replace HO15 := Aside0.mk (Kd.R_below HO15.out hb)
                    replace BK1 := Aside0.mk (blk_below (g := gb1) (o := .cells #[.slice A0_0 l0_0.length c0_0, .int .i64 a0_1] 24 (0, 0)) BK1.out hb)
                    replace BK2 := Aside0.mk (blk_below (g := gb2) (o := .cells #[.slice A1_0 l1_0.length c1_0, .bool a1_1] 42 (0, 0)) BK2.out hb)
                    replace HB := Aside0.mk (below_step HB.out hb)
                    replace HT := Aside0.mk (Nat.le_trans HT.out hb.size)
                    have BK3 := Aside0.mk hbox
                    replace HT := Aside0.mk (Nat.succ_le_of_lt (blk_lt hbox))
                    replace HN := Aside0.mk (And.intro nn HN.out)
                    clear hg hbox hb nn
                    refine hK.out _ _ ⟨(blk_cell BK1.out 0).trans rfl, (blk_cell BK1.out 1).trans rfl, (blk_cell BK2.out 0).trans rfl, (blk_cell BK2.out 1).trans rfl⟩ (fun hHeld => ?_)
                    clear hK K
                    refine norm_ (a' := ?_) ?_ ?_
                    rotate_left
                    · show Act.put _ (some 8) _ = _
                      simp only [Act.put, List.setIfInBounds_toArray, List.set_cons_zero, List.set_cons_succ, i64_w, i32_w]
                      rfl
                    exact norm_ (by first | (simp only [putAll, Act.put, List.setIfInBounds_toArray, List.set_cons_zero, List.set_cons_succ]; done) | (simp only [putAll, Act.put, List.setIfInBounds_toArray, List.set_cons_zero, List.set_cons_succ]; rfl)) (hJ3 (B8, d8, B12, d12, B15, d15, gb3) _ ⟨lo8, hi8, lo12, hi12, lo15, hi15, gb3.succ, HO8, HO12, HO15, BK1, BK2, BK3, HB, HT, GE3, ⟨by have hn_ := HN.out; (try dsimp only); omega⟩⟩)
                · skip
                  refine box_step (by rfl) (N := 8) rfl (cs := #[.slice none 0 0, .bool false]) (t := 46) ?hr ?_
                  (case hr => first | (go_simp; done) | (go_simp; rfl))
                  intro gb3 hg W21 hbox hb
                  have nn : hi12 ≤ gb3 := Nat.le_trans HT.out (Nat.le_of_eq hg.symm)
                  have GE3 := Aside0.mk (Nat.le_trans (below_size HB.out) (Nat.le_of_eq hg.symm))
                  replace HO8 := Aside0.mk (Kd.R_below HO8.out hb)
                  replace HO12 := Aside0.mk (Kd.R_below HO12.out hb)
                  replace BK1 := Aside0.mk (blk_below (g := gb1) (o := .cells #[.slice A0_0 l0_0.length c0_0, .int .i64 a0_1] 24 (0, 0)) BK1.out hb)
                  replace BK2 := Aside0.mk (blk_below (g := gb2) (o := .cells #[.slice A1_0 l1_0.length c1_0, .bool a1_1] 42 (0, 0)) BK2.out hb)
                  replace HB := Aside0.mk (below_step HB.out hb)
                  replace HT := Aside0.mk (Nat.le_trans HT.out hb.size)
                  have BK3 := Aside0.mk hbox
                  replace HT := Aside0.mk (Nat.succ_le_of_lt (blk_lt hbox))
                  replace HN := Aside0.mk (And.intro nn HN.out)
                  clear hg hbox hb nn
                  refine hK.out _ _ ⟨(blk_cell BK1.out 0).trans rfl, (blk_cell BK1.out 1).trans rfl, (blk_cell BK2.out 0).trans rfl, (blk_cell BK2.out 1).trans rfl⟩ (fun hHeld => ?_)
                  clear hK K
                  refine norm_ (a' := ?_) ?_ ?_
                  rotate_left
                  · show Act.put _ (some 8) _ = _
                    simp only [Act.put, List.setIfInBounds_toArray, List.set_cons_zero, List.set_cons_succ, i64_w, i32_w]
                    rfl
                  exact norm_ (by first | (simp only [putAll, Act.put, List.setIfInBounds_toArray, List.set_cons_zero, List.set_cons_succ]; done) | (simp only [putAll, Act.put, List.setIfInBounds_toArray, List.set_cons_zero, List.set_cons_succ]; rfl)) (hJ2 (B8, d8, B12, d12, gb3) _ ⟨lo8, hi8, lo12, hi12, gb3.succ, HO8, HO12, BK1, BK2, BK3, HB, HT, GE3, ⟨by have hn_ := HN.out; (try dsimp only); omega⟩⟩)
              · skip
                refine box_step (by rfl) (N := 8) rfl (cs := #[.slice none 0 0, .bool false]) (t := 46) ?hr ?_
                (case hr => first | (go_simp; done) | (go_simp; rfl))
                intro gb3 hg W22 hbox hb
                have nn : hi8 ≤ gb3 := Nat.le_trans HT.out (Nat.le_of_eq hg.symm)
                have GE3 := Aside0.mk (Nat.le_trans (below_size HB.out) (Nat.le_of_eq hg.symm))
                replace HO8 := Aside0.mk (Kd.R_below HO8.out hb)
                replace BK1 := Aside0.mk (blk_below (g := gb1) (o := .cells #[.slice A0_0 l0_0.length c0_0, .int .i64 a0_1] 24 (0, 0)) BK1.out hb)
                replace BK2 := Aside0.mk (blk_below (g := gb2) (o := .cells #[.slice A1_0 l1_0.length c1_0, .bool a1_1] 42 (0, 0)) BK2.out hb)
                replace HB := Aside0.mk (below_step HB.out hb)
                replace HT := Aside0.mk (Nat.le_trans HT.out hb.size)
                have BK3 := Aside0.mk hbox
                replace HT := Aside0.mk (Nat.succ_le_of_lt (blk_lt hbox))
                replace HN := Aside0.mk (And.intro nn HN.out)
                clear hg hbox hb nn
                refine hK.out _ _ ⟨(blk_cell BK1.out 0).trans rfl, (blk_cell BK1.out 1).trans rfl, (blk_cell BK2.out 0).trans rfl, (blk_cell BK2.out 1).trans rfl⟩ (fun hHeld => ?_)
                clear hK K
                refine norm_ (a' := ?_) ?_ ?_
                rotate_left
                · show Act.put _ (some 8) _ = _
                  simp only [Act.put, List.setIfInBounds_toArray, List.set_cons_zero, List.set_cons_succ, i64_w, i32_w]
                  rfl
                exact norm_ (by first | (simp only [putAll, Act.put, List.setIfInBounds_toArray, List.set_cons_zero, List.set_cons_succ]; done) | (simp only [putAll, Act.put, List.setIfInBounds_toArray, List.set_cons_zero, List.set_cons_succ]; rfl)) (hJ1 (B8, d8, gb3) _ ⟨lo8, hi8, gb3.succ, HO8, BK1, BK2, BK3, HB, HT, GE3, ⟨by have hn_ := HN.out; (try dsimp only); omega⟩⟩)
            · skip
              refine box_step (by rfl) (N := 8) rfl (cs := #[.slice none 0 0, .bool false]) (t := 46) ?hr ?_
              (case hr => first | (go_simp; done) | (go_simp; rfl))
              intro gb3 hg W23 hbox hb
              have nn : gb2.succ ≤ gb3 := Nat.le_trans HT.out (Nat.le_of_eq hg.symm)
              have GE3 := Aside0.mk (Nat.le_trans (below_size HB.out) (Nat.le_of_eq hg.symm))
              replace BK1 := Aside0.mk (blk_below (g := gb1) (o := .cells #[.slice A0_0 l0_0.length c0_0, .int .i64 a0_1] 24 (0, 0)) BK1.out hb)
              replace BK2 := Aside0.mk (blk_below (g := gb2) (o := .cells #[.slice A1_0 l1_0.length c1_0, .bool a1_1] 42 (0, 0)) BK2.out hb)
              replace HB := Aside0.mk (below_step HB.out hb)
              replace HT := Aside0.mk (Nat.le_trans HT.out hb.size)
              have BK3 := Aside0.mk hbox
              replace HT := Aside0.mk (Nat.succ_le_of_lt (blk_lt hbox))
              replace HN := Aside0.mk (And.intro nn HN.out)
              clear hg hbox hb nn
              refine hK.out _ _ ⟨(blk_cell BK1.out 0).trans rfl, (blk_cell BK1.out 1).trans rfl, (blk_cell BK2.out 0).trans rfl, (blk_cell BK2.out 1).trans rfl⟩ (fun hHeld => ?_)
              clear hK K
              refine norm_ (a' := ?_) ?_ ?_
              rotate_left
              · show Act.put _ (some 8) _ = _
                simp only [Act.put, List.setIfInBounds_toArray, List.set_cons_zero, List.set_cons_succ, i64_w, i32_w]
                rfl
              exact norm_ (by first | (simp only [putAll, Act.put, List.setIfInBounds_toArray, List.set_cons_zero, List.set_cons_succ]; done) | (simp only [putAll, Act.put, List.setIfInBounds_toArray, List.set_cons_zero, List.set_cons_succ]; rfl)) (hJ0 (gb3) _ ⟨gb3.succ, BK1, BK2, BK3, HB, HT, GE3, ⟨by have hn_ := HN.out; (try dsimp only); omega⟩⟩)
          · skip
            clear BK1 BK2 HB HT
            (try clear hHeld)
            intro s_ W24 hF
            obtain ⟨gb3, hs_⟩ : ∃ x, x = s_ := ⟨_, rfl⟩
            subst hs_
            (try dsimp only at hF)
            obtain ⟨T0_, BK1, BK2, BK3, HB, HT, GE3, nn_⟩ := hF
            replace HN := Aside0.mk (And.intro nn_.out HN.out)
            clear nn_
            refine norm_ (a' := ?_) ?_ ?_
            rotate_left
            · simp only [putAll, Act.put, List.setIfInBounds_toArray, List.set_cons_zero, List.set_cons_succ]
              rfl
            refine one_ (i := 1) (N := some 35) #[true, true, true, false, true, false, false, false, false, false, true, false, false] rfl rfl (by kernel_rfl) (by decide) (fun K hK => ?_)
            refine goes_ Try.func17 (by kernel_rfl) rfl #[.agg #[.slice A0_0 l0_0.length c0_0, .int .i64 a0_1]] (by rfl) rfl rfl (by (try simp only [List.map_toArray, List.map_cons, List.map_nil]); first | done | rfl) ?_
            with_reducible refine (laws_toParty.calls k _ _ l0_0 a0_1 t6 t7 _ (Kd.C_below HR0_0.out HB.out) HC0_0.out A5.out).mono ?_
            rintro e W25 ⟨v8, rfl, ho8, hb⟩
            refine ⟨_, rfl, ?_⟩
            obtain ⟨B8, d8, e_⟩ := Kd.R_slice ho8
            subst e_
            obtain ⟨lo8, hi8, nn, ht_, hO8⟩ := laws_FnExactCrossBridge.newR ho8 HT.out (below_size HB.out) hb.size
            replace BK1 := Aside0.mk (blk_below (g := gb1) (o := .cells #[.slice A0_0 l0_0.length c0_0, .int .i64 a0_1] 24 (0, 0)) BK1.out hb)
            replace BK2 := Aside0.mk (blk_below (g := gb2) (o := .cells #[.slice A1_0 l1_0.length c1_0, .bool a1_1] 42 (0, 0)) BK2.out hb)
            replace BK3 := Aside0.mk (blk_below (g := gb3) (o := .cells #[.slice none 0 0, .bool false] 46 (0, 0)) BK3.out hb)
            replace HB := Aside0.mk (below_step HB.out hb)
            replace HT := Aside0.mk (Nat.le_trans HT.out hb.size)
            have HO8 := Aside0.mk hO8
            replace HT := Aside0.mk ht_
            replace HN := Aside0.mk (And.intro nn HN.out)
            clear ho8 hO8 nn ht_
            clear hb
            refine hK.out _ _ ⟨(blk_cell BK1.out 0).trans rfl, (blk_cell BK1.out 1).trans rfl, (blk_cell BK2.out 0).trans rfl, (blk_cell BK2.out 1).trans rfl⟩ (fun hHeld => ?_)
            clear hK K
            refine norm_ (a' := ?_) ?_ ?_
            rotate_left
            · show Act.put _ (some 35) _ = _
              simp only [Act.put, List.setIfInBounds_toArray, List.set_cons_zero, List.set_cons_succ, i64_w, i32_w]
              rfl
            exact norm_ (by first | (simp only [putAll, Act.put, List.setIfInBounds_toArray, List.set_cons_zero, List.set_cons_succ]; done) | (simp only [putAll, Act.put, List.setIfInBounds_toArray, List.set_cons_zero, List.set_cons_succ]; rfl)) (hJ1 (B8, d8, gb3) _ ⟨lo8, hi8, hi8, HO8, BK1, BK2, BK3, HB, HT, GE3, ⟨by have hn_ := HN.out; (try dsimp only); omega⟩⟩)
        · skip
          clear BK1 BK2 HB HT
          (try clear hHeld)
          intro s_ W26 hF
          obtain ⟨B8, d8, gb3⟩ := s_
          (try dsimp only at hF)
          obtain ⟨lo8, hi8, T1_, HO8, BK1, BK2, BK3, HB, HT, GE3, nn_⟩ := hF
          replace HN := Aside0.mk (And.intro nn_.out HN.out)
          clear nn_
          refine norm_ (a' := ?_) ?_ ?_
          rotate_left
          · simp only [putAll, Act.put, List.setIfInBounds_toArray, List.set_cons_zero, List.set_cons_succ]
            rfl
          refine one_ (i := 3) (N := some 37) #[true, true, true, true, true, false, false, false, false, false, true, false, false] rfl rfl (by kernel_rfl) (by decide) (fun K hK => ?_)
          refine goes_ Try.func32 (by kernel_rfl) rfl #[.agg #[.slice A1_0 l1_0.length c1_0, .bool a1_1]] (by rfl) rfl rfl (by (try simp only [List.map_toArray, List.map_cons, List.map_nil]); first | done | rfl) ?_
          with_reducible refine (laws_toState.calls k _ _ l1_0 a1_1 t10 t11 _ (Kd.C_below HR1_0.out HB.out) HC1_0.out A9.out).mono ?_
          rintro e W27 ⟨v12, rfl, ho12, hb⟩
          refine ⟨_, rfl, ?_⟩
          obtain ⟨B12, d12, e_⟩ := Kd.R_slice ho12
          subst e_
          obtain ⟨lo12, hi12, nn, ht_, hO12⟩ := laws_FnExactCrossBridge.newR ho12 HT.out (below_size HB.out) hb.size
          replace HO8 := Aside0.mk (Kd.R_below HO8.out hb)
          replace BK1 := Aside0.mk (blk_below (g := gb1) (o := .cells #[.slice A0_0 l0_0.length c0_0, .int .i64 a0_1] 24 (0, 0)) BK1.out hb)
          replace BK2 := Aside0.mk (blk_below (g := gb2) (o := .cells #[.slice A1_0 l1_0.length c1_0, .bool a1_1] 42 (0, 0)) BK2.out hb)
          replace BK3 := Aside0.mk (blk_below (g := gb3) (o := .cells #[.slice none 0 0, .bool false] 46 (0, 0)) BK3.out hb)
          replace HB := Aside0.mk (below_step HB.out hb)
          replace HT := Aside0.mk (Nat.le_trans HT.out hb.size)
          have HO12 := Aside0.mk hO12
          replace HT := Aside0.mk ht_
          replace HN := Aside0.mk (And.intro nn HN.out)
          clear ho12 hO12 nn ht_
          clear hb
          refine hK.out _ _ ⟨(blk_cell BK1.out 0).trans rfl, (blk_cell BK1.out 1).trans rfl, (blk_cell BK2.out 0).trans rfl, (blk_cell BK2.out 1).trans rfl⟩ (fun hHeld => ?_)
          clear hK K
          refine norm_ (a' := ?_) ?_ ?_
          rotate_left
          · show Act.put _ (some 37) _ = _
            simp only [Act.put, List.setIfInBounds_toArray, List.set_cons_zero, List.set_cons_succ, i64_w, i32_w]
            rfl
          exact norm_ (by first | (simp only [putAll, Act.put, List.setIfInBounds_toArray, List.set_cons_zero, List.set_cons_succ]; done) | (simp only [putAll, Act.put, List.setIfInBounds_toArray, List.set_cons_zero, List.set_cons_succ]; rfl)) (hJ2 (B8, d8, B12, d12, gb3) _ ⟨lo8, hi8, lo12, hi12, hi12, HO8, HO12, BK1, BK2, BK3, HB, HT, GE3, ⟨by have hn_ := HN.out; (try dsimp only); omega⟩⟩)
      · skip
        clear BK1 BK2 HB HT
        (try clear hHeld)
        intro s_ W28 hF
        obtain ⟨B8, d8, B12, d12, gb3⟩ := s_
        (try dsimp only at hF)
        obtain ⟨lo8, hi8, lo12, hi12, T2_, HO8, HO12, BK1, BK2, BK3, HB, HT, GE3, nn_⟩ := hF
        replace HN := Aside0.mk (And.intro nn_.out HN.out)
        clear nn_
        refine norm_ (a' := ?_) ?_ ?_
        rotate_left
        · simp only [putAll, Act.put, List.setIfInBounds_toArray, List.set_cons_zero, List.set_cons_succ]
          rfl
        refine one_ (i := 5) (N := some 39) #[true, true, true, true, true, true, false, false, false, false, true, false, false] rfl rfl (by kernel_rfl) (by decide) (fun K hK => ?_)
        refine goes_ Try.func21 (by kernel_rfl) rfl #[.slice A2 l2.length c2] (by rfl) rfl rfl (by (try simp only [List.map_toArray, List.map_cons, List.map_nil]); first | done | rfl) ?_
        with_reducible refine (laws_toIntS.calls k _ _ l2 t14 _ (Kd.C_below HR2.out HB.out) HC2.out A13.out).mono ?_
        rintro e W29 ⟨v15, rfl, ho15, hb⟩
        refine ⟨_, rfl, ?_⟩
        obtain ⟨B15, d15, e_⟩ := Kd.R_slice ho15
        subst e_
        obtain ⟨lo15, hi15, nn, ht_, hO15⟩ := laws_FnExactCrossBridge.newR ho15 HT.out (below_size HB.out) hb.size
        replace HO8 := Aside0.mk (Kd.R_below HO8.out hb)
        replace HO12 := Aside0.mk (Kd.R_below HO12.out hb)
        replace BK1 := Aside0.mk (blk_below (g := gb1) (o := .cells #[.slice A0_0 l0_0.length c0_0, .int .i64 a0_1] 24 (0, 0)) BK1.out hb)
        replace BK2 := Aside0.mk (blk_below (g := gb2) (o := .cells #[.slice A1_0 l1_0.length c1_0, .bool a1_1] 42 (0, 0)) BK2.out hb)
        replace BK3 := Aside0.mk (blk_below (g := gb3) (o := .cells #[.slice none 0 0, .bool false] 46 (0, 0)) BK3.out hb)
        replace HB := Aside0.mk (below_step HB.out hb)
        replace HT := Aside0.mk (Nat.le_trans HT.out hb.size)
        have HO15 := Aside0.mk hO15
        replace HT := Aside0.mk ht_
        replace HN := Aside0.mk (And.intro nn HN.out)
        clear ho15 hO15 nn ht_
        clear hb
        refine hK.out _ _ ⟨(blk_cell BK1.out 0).trans rfl, (blk_cell BK1.out 1).trans rfl, (blk_cell BK2.out 0).trans rfl, (blk_cell BK2.out 1).trans rfl⟩ (fun hHeld => ?_)
        clear hK K
        refine norm_ (a' := ?_) ?_ ?_
        rotate_left
        · show Act.put _ (some 39) _ = _
          simp only [Act.put, List.setIfInBounds_toArray, List.set_cons_zero, List.set_cons_succ, i64_w, i32_w]
          rfl
        exact norm_ (by first | (simp only [putAll, Act.put, List.setIfInBounds_toArray, List.set_cons_zero, List.set_cons_succ]; done) | (simp only [putAll, Act.put, List.setIfInBounds_toArray, List.set_cons_zero, List.set_cons_succ]; rfl)) (hJ3 (B8, d8, B12, d12, B15, d15, gb3) _ ⟨lo8, hi8, lo12, hi12, lo15, hi15, hi15, HO8, HO12, HO15, BK1, BK2, BK3, HB, HT, GE3, ⟨by have hn_ := HN.out; (try dsimp only); omega⟩⟩)
    · skip
      clear BK1 BK2 HB HT
      (try clear hHeld)
      intro s_ W30 hF
      obtain ⟨B8, d8, B12, d12, B15, d15, gb3⟩ := s_
      (try dsimp only at hF)
      obtain ⟨lo8, hi8, lo12, hi12, lo15, hi15, T3_, HO8, HO12, HO15, BK1, BK2, BK3, HB, HT, GE3, nn_⟩ := hF
      replace HN := Aside0.mk (And.intro nn_.out HN.out)
      clear nn_
      refine norm_ (a' := ?_) ?_ ?_
      rotate_left
      · simp only [putAll, Act.put, List.setIfInBounds_toArray, List.set_cons_zero, List.set_cons_succ]
        rfl
      refine one_ (i := 6) (N := some 40) #[true, true, true, true, true, true, true, false, false, false, true, false, false] rfl rfl (by kernel_rfl) (by decide) (fun K hK => ?_)
      refine goes_ Try.func43 (by kernel_rfl) rfl #[.agg #[.slice B8 t6.length d8, .int .i64 t7], .agg #[.slice B12 t10.length d12, .bool t11], .slice B15 t14.length d15] (by rfl) rfl rfl (by (try simp only [List.map_toArray, List.map_cons, List.map_nil]); first | done | rfl) ?_
      with_reducible refine (spec_CrossBridge.calls k _ _ t6 t7 _ _ t10 t11 _ _ t14 t17 t18 t19 _ (Kd.R_reads' HO8.out).2.2 (Kd.R_reads' HO8.out).2.1 (Kd.R_reads' HO12.out).2.2 (Kd.R_reads' HO12.out).2.1 (Kd.R_reads' HO15.out).2.2 (Kd.R_reads' HO15.out).2.1 A16.out).mono ?_
      rintro e W31 ⟨v20, rfl, ho20, hb⟩
      refine ⟨_, rfl, ?_⟩
      obtain ⟨B20, d20, e_⟩ := Kd.R_slice ho20
      subst e_
      obtain ⟨lo20, hi20, nn, ht_, hO20⟩ := laws_FnExactCrossBridge.newR ho20 HT.out (below_size HB.out) hb.size
      replace HO8 := Aside0.mk (Kd.R_below HO8.out hb)
      replace HO12 := Aside0.mk (Kd.R_below HO12.out hb)
      replace HO15 := Aside0.mk (Kd.R_below HO15.out hb)
      replace BK1 := Aside0.mk (blk_below (g := gb1) (o := .cells #[.slice A0_0 l0_0.length c0_0, .int .i64 a0_1] 24 (0, 0)) BK1.out hb)
      replace BK2 := Aside0.mk (blk_below (g := gb2) (o := .cells #[.slice A1_0 l1_0.length c1_0, .bool a1_1] 42 (0, 0)) BK2.out hb)
      replace BK3 := Aside0.mk (blk_below (g := gb3) (o := .cells #[.slice none 0 0, .bool false] 46 (0, 0)) BK3.out hb)
      replace HB := Aside0.mk (below_step HB.out hb)
      replace HT := Aside0.mk (Nat.le_trans HT.out hb.size)
      have HO20 := Aside0.mk hO20
      replace HT := Aside0.mk ht_
      replace HN := Aside0.mk (And.intro nn HN.out)
      clear ho20 hO20 nn ht_
      clear hb
      clear HO8 HO12 HO15
      refine hK.out _ _ ⟨(blk_cell BK1.out 0).trans rfl, (blk_cell BK1.out 1).trans rfl, (blk_cell BK2.out 0).trans rfl, (blk_cell BK2.out 1).trans rfl⟩ (fun hHeld => ?_)
      clear hK K
      refine norm_ (a' := ?_) ?_ ?_
      rotate_left
      · show Act.put _ (some 40) _ = _
        simp only [Act.put, List.setIfInBounds_toArray, List.set_cons_zero, List.set_cons_succ, i64_w, i32_w]
        rfl
      refine pure_ (i := 7) (N := some 33) (v := ?_) (a' := ?_) #[true, true, true, true, true, true, true, true, false, false, true, false, false] rfl rfl (by kernel_rfl) (fun _ _ _ h => h) (Or.inl ⟨by rfl, ?_⟩) ?_ ?_
      rotate_left
      · intro w'
        go_simp
        with_reducible rfl
      rotate_left
      · simp only [Act.put, List.setIfInBounds_toArray, List.set_cons_zero, List.set_cons_succ, i64_w, i32_w]
        rfl
      refine pure_ (i := 8) (N := some 41) (v := ?_) (a' := ?_) #[true, true, true, true, true, true, true, true, true, false, true, false, false] rfl rfl (by kernel_rfl) (fun _ _ _ h => h) (Or.inl ⟨by rfl, ?_⟩) ?_ ?_
      rotate_left
      · intro w'
        go_simp
        with_reducible rfl
      rotate_left
      · simp only [Act.put, List.setIfInBounds_toArray, List.set_cons_zero, List.set_cons_succ, i64_w, i32_w]
        rfl
      refine pure_ (i := 9) (N := some 42) (v := ?_) (a' := ?_) #[true, true, true, true, true, true, true, true, true, true, true, false, false] rfl rfl (by kernel_rfl) (fun _ _ _ h => h) (Or.inl ⟨by rfl, ?_⟩) ?_ ?_
      rotate_left
      · intro w'
        go_simp
        with_reducible rfl
      rotate_left
      · simp only [Act.put, List.setIfInBounds_toArray, List.set_cons_zero, List.set_cons_succ, i64_w, i32_w]
        rfl
      exact norm_ (by first | (simp only [putAll, Act.put, List.setIfInBounds_toArray, List.set_cons_zero, List.set_cons_succ]; done) | (simp only [putAll, Act.put, List.setIfInBounds_toArray, List.set_cons_zero, List.set_cons_succ]; rfl)) (hJ4 (B8, d8, B12, d12, B15, d15, B20, d20, gb3) _ ⟨lo20, hi20, hi20, HO20, BK1, BK2, BK3, HB, HT, GE3, ⟨by have hn_ := HN.out; (try dsimp only); omega⟩⟩)
  clear BK1 BK2 HB HT
  (try clear hHeld)
  intro s_ W32 hF
  obtain ⟨B8, d8, B12, d12, B15, d15, B20, d20, gb3⟩ := s_
  (try dsimp only at hF)
  obtain ⟨lo20, hi20, T4_, HO20, BK1, BK2, BK3, HB, HT, GE3, nn_⟩ := hF
  replace HN := Aside0.mk (And.intro nn_.out HN.out)
  clear nn_
  refine norm_ (a' := ?_) ?_ ?_
  rotate_left
  · simp only [putAll, Act.put, List.setIfInBounds_toArray, List.set_cons_zero, List.set_cons_succ]
    rfl
  refine one_ (i := 11) (N := none) #[true, true, true, true, true, true, true, true, true, true, true, true, false] rfl rfl (by kernel_rfl) (by decide) (fun K hK => ?_)
  refine laws_FnExactCrossBridge.storeK (by rfl) rfl rfl gb3 46 #[.slice none 0 0, .bool false] (.agg #[.slice B20 t17.length d20, .bool t18]) [.slice B20 t17.length d20, .bool t18] rfl rfl BK3.out rfl (by kernel_rfl) rfl (by intro q_ hq_; simp only [List.mem_cons, List.not_mem_nil, or_false] at hq_; rcases hq_ with rfl | rfl <;> rfl) ?_
  intro W33 hbx hg
  replace HO20 := Aside0.mk (laws_FnExactCrossBridge.grownR HO20.out hg (by have hn_ := HN.out; omega))
  replace BK1 := Aside0.mk (laws_FnExactCrossBridge.grownB BK1.out hg (by have hn_ := HN.out; omega))
  replace BK2 := Aside0.mk (laws_FnExactCrossBridge.grownB BK2.out hg (by have hn_ := HN.out; omega))
  replace HB := Aside0.mk (Below.grown HB.out hg (below_size HB.out) (fun k_ hk_ => by injection hk_ with hk_; subst hk_; exact GE3.out))
  replace HT := Aside0.mk (Nat.le_trans HT.out hg.size)
  replace BK3 := Aside0.mk hbx
  clear hbx hg
  refine hK.out _ _ ⟨(blk_cell BK1.out 0).trans rfl, (blk_cell BK1.out 1).trans rfl, (blk_cell BK2.out 0).trans rfl, (blk_cell BK2.out 1).trans rfl⟩ (fun hHeld => ?_)
  clear hK K
  refine pure_ (i := 12) (N := some 9) (v := ?_) (a' := ?_) #[true, true, true, true, true, true, true, true, true, true, true, true, true] rfl rfl (by kernel_rfl) (fun _ _ _ h => h) (Or.inl ⟨by rfl, ?_⟩) ?_ ?_
  rotate_left
  · intro w'
    go_simp
    with_reducible rfl
  rotate_left
  · simp only [Act.put, List.setIfInBounds_toArray, List.set_cons_zero, List.set_cons_succ, i64_w, i32_w]
    rfl
  refine done_ (by kernel_rfl) ?_
  have cz1_0 : W33.cell? ⟨gb1, 0, none⟩ = some (.slice A0_0 l0_0.length c0_0) := (blk_cell BK1.out 0).trans rfl
  have cz1_1 : W33.cell? ⟨gb1, 1, none⟩ = some (.int .i64 a0_1) := (blk_cell BK1.out 1).trans rfl
  try go_wp2_with (first | ((with_reducible refine gate_dst (N := 44) rfl ?_); refine goesL_ (some 44) rfl rfl Try.func17 (by kernel_rfl) rfl #[.agg #[.slice A0_0 l0_0.length c0_0, .int .i64 a0_1]] rfl (by (try simp only [List.map_toArray, List.map_cons, List.map_nil]); first | done | rfl) ?_; (with_reducible refine (laws_toParty.calls k _ _ l0_0 a0_1 t22 t23 _ (Kd.C_below HR0_0.out HB.out) HC0_0.out A21.out).mono ?_); rintro e W34 ⟨v24, rfl, ho24, hb⟩; refine ⟨_, rfl, ?_⟩; obtain ⟨B24, d24, e_⟩ := Kd.R_slice ho24; subst e_; obtain ⟨lo24, hi24, nn, ht_, hO24⟩ := laws_FnExactCrossBridge.newR ho24 HT.out (below_size HB.out) hb.size; replace HO20 := Aside0.mk (Kd.R_below HO20.out hb); replace BK1 := Aside0.mk (blk_below (g := gb1) (o := .cells #[.slice A0_0 l0_0.length c0_0, .int .i64 a0_1] 24 (0, 0)) BK1.out hb); replace BK2 := Aside0.mk (blk_below (g := gb2) (o := .cells #[.slice A1_0 l1_0.length c1_0, .bool a1_1] 42 (0, 0)) BK2.out hb); replace BK3 := Aside0.mk (blk_below (g := gb3) (o := .cells #[.slice B20 t17.length d20, .bool t18] 46 (0, 0)) BK3.out hb); replace HB := Aside0.mk (below_step HB.out hb); replace HT := Aside0.mk (Nat.le_trans HT.out hb.size); have HO24 := Aside0.mk hO24; replace HT := Aside0.mk ht_; replace HN := Aside0.mk (And.intro nn HN.out); clear ho24 hO24 nn ht_; clear hb; (try clear cz1_0 cz1_1)) | ((with_reducible refine gate_dst (N := 10) rfl ?_); refine box_event ?hg (N := 10) ?hd (cs := #[.slice none 0 0, .int .i64 0]) (t := 27) ?hr ?_; (case hd => rfl); (case hg => rfl); (case hr => first | (go_simp; done) | (go_simp; rfl)); intro gb4 hg W35 hbox hb; have nn : hi24 ≤ gb4 := Nat.le_trans HT.out (Nat.le_of_eq hg.symm); have GE4 := Aside0.mk (Nat.le_trans (below_size HB.out) (Nat.le_of_eq hg.symm)); replace HO20 := Aside0.mk (Kd.R_below HO20.out hb); replace HO24 := Aside0.mk (Kd.R_below HO24.out hb); replace BK1 := Aside0.mk (blk_below (g := gb1) (o := .cells #[.slice A0_0 l0_0.length c0_0, .int .i64 a0_1] 24 (0, 0)) BK1.out hb); replace BK2 := Aside0.mk (blk_below (g := gb2) (o := .cells #[.slice A1_0 l1_0.length c1_0, .bool a1_1] 42 (0, 0)) BK2.out hb); replace BK3 := Aside0.mk (blk_below (g := gb3) (o := .cells #[.slice B20 t17.length d20, .bool t18] 46 (0, 0)) BK3.out hb); replace HB := Aside0.mk (below_step HB.out hb); replace HT := Aside0.mk (Nat.le_trans HT.out hb.size); have BK4 := Aside0.mk hbox; replace HT := Aside0.mk (Nat.succ_le_of_lt (blk_lt hbox)); replace HN := Aside0.mk (And.intro nn HN.out); clear hg hbox hb nn) | ((with_reducible refine gate_store (t := 27) (p := 10) rfl ?_); refine laws_FnExactCrossBridge.store rfl rfl rfl gb4 27 #[.slice none 0 0, .int .i64 0] (.agg #[.slice B24 t22.length d24, .int .i64 t23]) [.slice B24 t22.length d24, .int .i64 t23] rfl rfl BK4.out rfl (by kernel_rfl) rfl (by intro q_ hq_; simp only [List.mem_cons, List.not_mem_nil, or_false] at hq_; rcases hq_ with rfl | rfl <;> rfl) ?_; intro W36 hbx hg; replace HO20 := Aside0.mk (laws_FnExactCrossBridge.grownR HO20.out hg (by have hn_ := HN.out; omega)); replace HO24 := Aside0.mk (laws_FnExactCrossBridge.grownR HO24.out hg (by have hn_ := HN.out; omega)); replace BK1 := Aside0.mk (laws_FnExactCrossBridge.grownB BK1.out hg (by have hn_ := HN.out; omega)); replace BK2 := Aside0.mk (laws_FnExactCrossBridge.grownB BK2.out hg (by have hn_ := HN.out; omega)); replace BK3 := Aside0.mk (laws_FnExactCrossBridge.grownB BK3.out hg (by have hn_ := HN.out; omega)); replace HB := Aside0.mk (Below.grown HB.out hg (below_size HB.out) (fun k_ hk_ => by injection hk_ with hk_; subst hk_; exact GE4.out)); replace HT := Aside0.mk (Nat.le_trans HT.out hg.size); replace BK4 := Aside0.mk hbx; clear hbx hg; have cz2_0 : W36.cell? ⟨gb2, 0, none⟩ = some (.slice A1_0 l1_0.length c1_0) := (blk_cell BK2.out 0).trans rfl; have cz2_1 : W36.cell? ⟨gb2, 1, none⟩ = some (.bool a1_1) := (blk_cell BK2.out 1).trans rfl) | ((with_reducible refine gate_dst (N := 46) rfl ?_); refine goesL_ (some 46) rfl rfl Try.func32 (by kernel_rfl) rfl #[.agg #[.slice A1_0 l1_0.length c1_0, .bool a1_1]] rfl (by (try simp only [List.map_toArray, List.map_cons, List.map_nil]); first | done | rfl) ?_; (with_reducible refine (laws_toState.calls k _ _ l1_0 a1_1 t26 t27 _ (Kd.C_below HR1_0.out HB.out) HC1_0.out A25.out).mono ?_); rintro e W37 ⟨v28, rfl, ho28, hb⟩; refine ⟨_, rfl, ?_⟩; obtain ⟨B28, d28, e_⟩ := Kd.R_slice ho28; subst e_; obtain ⟨lo28, hi28, nn, ht_, hO28⟩ := laws_FnExactCrossBridge.newR ho28 HT.out (below_size HB.out) hb.size; replace HO20 := Aside0.mk (Kd.R_below HO20.out hb); replace HO24 := Aside0.mk (Kd.R_below HO24.out hb); replace BK1 := Aside0.mk (blk_below (g := gb1) (o := .cells #[.slice A0_0 l0_0.length c0_0, .int .i64 a0_1] 24 (0, 0)) BK1.out hb); replace BK2 := Aside0.mk (blk_below (g := gb2) (o := .cells #[.slice A1_0 l1_0.length c1_0, .bool a1_1] 42 (0, 0)) BK2.out hb); replace BK3 := Aside0.mk (blk_below (g := gb3) (o := .cells #[.slice B20 t17.length d20, .bool t18] 46 (0, 0)) BK3.out hb); replace BK4 := Aside0.mk (blk_below (g := gb4) (o := .cells #[.slice B24 t22.length d24, .int .i64 t23] 27 (0, 0)) BK4.out hb); replace HB := Aside0.mk (below_step HB.out hb); replace HT := Aside0.mk (Nat.le_trans HT.out hb.size); have HO28 := Aside0.mk hO28; replace HT := Aside0.mk ht_; replace HN := Aside0.mk (And.intro nn HN.out); clear ho28 hO28 nn ht_; clear hb; (try clear cz2_0 cz2_1)) | ((with_reducible refine gate_dst (N := 11) rfl ?_); refine box_event ?hg (N := 11) ?hd (cs := #[.slice none 0 0, .bool false]) (t := 46) ?hr ?_; (case hd => rfl); (case hg => rfl); (case hr => first | (go_simp; done) | (go_simp; rfl)); intro gb5 hg W38 hbox hb; have nn : hi28 ≤ gb5 := Nat.le_trans HT.out (Nat.le_of_eq hg.symm); have GE5 := Aside0.mk (Nat.le_trans (below_size HB.out) (Nat.le_of_eq hg.symm)); replace HO20 := Aside0.mk (Kd.R_below HO20.out hb); replace HO24 := Aside0.mk (Kd.R_below HO24.out hb); replace HO28 := Aside0.mk (Kd.R_below HO28.out hb); replace BK1 := Aside0.mk (blk_below (g := gb1) (o := .cells #[.slice A0_0 l0_0.length c0_0, .int .i64 a0_1] 24 (0, 0)) BK1.out hb); replace BK2 := Aside0.mk (blk_below (g := gb2) (o := .cells #[.slice A1_0 l1_0.length c1_0, .bool a1_1] 42 (0, 0)) BK2.out hb); replace BK3 := Aside0.mk (blk_below (g := gb3) (o := .cells #[.slice B20 t17.length d20, .bool t18] 46 (0, 0)) BK3.out hb); replace BK4 := Aside0.mk (blk_below (g := gb4) (o := .cells #[.slice B24 t22.length d24, .int .i64 t23] 27 (0, 0)) BK4.out hb); replace HB := Aside0.mk (below_step HB.out hb); replace HT := Aside0.mk (Nat.le_trans HT.out hb.size); have BK5 := Aside0.mk hbox; replace HT := Aside0.mk (Nat.succ_le_of_lt (blk_lt hbox)); replace HN := Aside0.mk (And.intro nn HN.out); clear hg hbox hb nn) | ((with_reducible refine gate_store (t := 46) (p := 11) rfl ?_); refine laws_FnExactCrossBridge.store rfl rfl rfl gb5 46 #[.slice none 0 0, .bool false] (.agg #[.slice B28 t26.length d28, .bool t27]) [.slice B28 t26.length d28, .bool t27] rfl rfl BK5.out rfl (by kernel_rfl) rfl (by intro q_ hq_; simp only [List.mem_cons, List.not_mem_nil, or_false] at hq_; rcases hq_ with rfl | rfl <;> rfl) ?_; intro W39 hbx hg; replace HO20 := Aside0.mk (laws_FnExactCrossBridge.grownR HO20.out hg (by have hn_ := HN.out; omega)); replace HO24 := Aside0.mk (laws_FnExactCrossBridge.grownR HO24.out hg (by have hn_ := HN.out; omega)); replace HO28 := Aside0.mk (laws_FnExactCrossBridge.grownR HO28.out hg (by have hn_ := HN.out; omega)); replace BK1 := Aside0.mk (laws_FnExactCrossBridge.grownB BK1.out hg (by have hn_ := HN.out; omega)); replace BK2 := Aside0.mk (laws_FnExactCrossBridge.grownB BK2.out hg (by have hn_ := HN.out; omega)); replace BK3 := Aside0.mk (laws_FnExactCrossBridge.grownB BK3.out hg (by have hn_ := HN.out; omega)); replace BK4 := Aside0.mk (laws_FnExactCrossBridge.grownB BK4.out hg (by have hn_ := HN.out; omega)); replace HB := Aside0.mk (Below.grown HB.out hg (below_size HB.out) (fun k_ hk_ => by injection hk_ with hk_; subst hk_; exact GE5.out)); replace HT := Aside0.mk (Nat.le_trans HT.out hg.size); replace BK5 := Aside0.mk hbx; clear hbx hg) | ((with_reducible refine gate_dst (N := 48) rfl ?_); refine goesL_ (some 48) rfl rfl Try.func21 (by kernel_rfl) rfl #[.slice A2 l2.length c2] rfl (by (try simp only [List.map_toArray, List.map_cons, List.map_nil]); first | done | rfl) ?_; (with_reducible refine (laws_toIntS.calls k _ _ l2 t30 _ (Kd.C_below HR2.out HB.out) HC2.out A29.out).mono ?_); rintro e W40 ⟨v31, rfl, ho31, hb⟩; refine ⟨_, rfl, ?_⟩; obtain ⟨B31, d31, e_⟩ := Kd.R_slice ho31; subst e_; obtain ⟨lo31, hi31, nn, ht_, hO31⟩ := laws_FnExactCrossBridge.newR ho31 HT.out (below_size HB.out) hb.size; replace HO20 := Aside0.mk (Kd.R_below HO20.out hb); replace HO24 := Aside0.mk (Kd.R_below HO24.out hb); replace HO28 := Aside0.mk (Kd.R_below HO28.out hb); replace BK1 := Aside0.mk (blk_below (g := gb1) (o := .cells #[.slice A0_0 l0_0.length c0_0, .int .i64 a0_1] 24 (0, 0)) BK1.out hb); replace BK2 := Aside0.mk (blk_below (g := gb2) (o := .cells #[.slice A1_0 l1_0.length c1_0, .bool a1_1] 42 (0, 0)) BK2.out hb); replace BK3 := Aside0.mk (blk_below (g := gb3) (o := .cells #[.slice B20 t17.length d20, .bool t18] 46 (0, 0)) BK3.out hb); replace BK4 := Aside0.mk (blk_below (g := gb4) (o := .cells #[.slice B24 t22.length d24, .int .i64 t23] 27 (0, 0)) BK4.out hb); replace BK5 := Aside0.mk (blk_below (g := gb5) (o := .cells #[.slice B28 t26.length d28, .bool t27] 46 (0, 0)) BK5.out hb); replace HB := Aside0.mk (below_step HB.out hb); replace HT := Aside0.mk (Nat.le_trans HT.out hb.size); have HO31 := Aside0.mk hO31; replace HT := Aside0.mk ht_; replace HN := Aside0.mk (And.intro nn HN.out); clear ho31 hO31 nn ht_; clear hb; have cz4_0 : W40.cell? ⟨gb4, 0, none⟩ = some (.slice B24 t22.length d24) := (blk_cell BK4.out 0).trans rfl; have cz4_1 : W40.cell? ⟨gb4, 1, none⟩ = some (.int .i64 t23) := (blk_cell BK4.out 1).trans rfl; have cz5_0 : W40.cell? ⟨gb5, 0, none⟩ = some (.slice B28 t26.length d28) := (blk_cell BK5.out 0).trans rfl; have cz5_1 : W40.cell? ⟨gb5, 1, none⟩ = some (.bool t27) := (blk_cell BK5.out 1).trans rfl) | ((with_reducible refine gate_dst (N := 53) rfl ?_); refine goesL_ (some 53) rfl rfl Try.func44 (by kernel_rfl) rfl #[.agg #[.slice B24 t22.length d24, .int .i64 t23], .agg #[.slice B28 t26.length d28, .bool t27], .slice B31 t30.length d31] rfl (by (try simp only [List.map_toArray, List.map_cons, List.map_nil]); first | done | rfl) ?_; (with_reducible refine (impl_CrossBridge.calls k _ _ t22 t23 _ _ t26 t27 _ _ t30 t33 t34 t35 _ (Kd.R_reads' HO24.out).2.2 (Kd.R_reads' HO24.out).2.1 (Kd.R_reads' HO28.out).2.2 (Kd.R_reads' HO28.out).2.1 (Kd.R_reads' HO31.out).2.2 (Kd.R_reads' HO31.out).2.1 A32.out).mono ?_); rintro e W41 ⟨v36, rfl, ho36, hb⟩; refine ⟨_, rfl, ?_⟩; obtain ⟨B36, d36, e_⟩ := Kd.R_slice ho36; subst e_; obtain ⟨lo36, hi36, nn, ht_, hO36⟩ := laws_FnExactCrossBridge.newR ho36 HT.out (below_size HB.out) hb.size; replace HO20 := Aside0.mk (Kd.R_below HO20.out hb); replace HO24 := Aside0.mk (Kd.R_below HO24.out hb); replace HO28 := Aside0.mk (Kd.R_below HO28.out hb); replace HO31 := Aside0.mk (Kd.R_below HO31.out hb); replace BK1 := Aside0.mk (blk_below (g := gb1) (o := .cells #[.slice A0_0 l0_0.length c0_0, .int .i64 a0_1] 24 (0, 0)) BK1.out hb); replace BK2 := Aside0.mk (blk_below (g := gb2) (o := .cells #[.slice A1_0 l1_0.length c1_0, .bool a1_1] 42 (0, 0)) BK2.out hb); replace BK3 := Aside0.mk (blk_below (g := gb3) (o := .cells #[.slice B20 t17.length d20, .bool t18] 46 (0, 0)) BK3.out hb); replace BK4 := Aside0.mk (blk_below (g := gb4) (o := .cells #[.slice B24 t22.length d24, .int .i64 t23] 27 (0, 0)) BK4.out hb); replace BK5 := Aside0.mk (blk_below (g := gb5) (o := .cells #[.slice B28 t26.length d28, .bool t27] 46 (0, 0)) BK5.out hb); replace HB := Aside0.mk (below_step HB.out hb); replace HT := Aside0.mk (Nat.le_trans HT.out hb.size); have HO36 := Aside0.mk hO36; replace HT := Aside0.mk ht_; replace HN := Aside0.mk (And.intro nn HN.out); clear ho36 hO36 nn ht_; clear hb; (try clear cz4_0 cz4_1 cz5_0 cz5_1)) | ((with_reducible refine gate_dst (N := 13) rfl ?_); refine box_event ?hg (N := 13) ?hd (cs := #[.slice none 0 0, .bool false]) (t := 46) ?hr ?_; (case hd => rfl); (case hg => rfl); (case hr => first | (go_simp; done) | (go_simp; rfl)); intro gb6 hg W42 hbox hb; have nn : hi36 ≤ gb6 := Nat.le_trans HT.out (Nat.le_of_eq hg.symm); have GE6 := Aside0.mk (Nat.le_trans (below_size HB.out) (Nat.le_of_eq hg.symm)); replace HO20 := Aside0.mk (Kd.R_below HO20.out hb); replace HO24 := Aside0.mk (Kd.R_below HO24.out hb); replace HO28 := Aside0.mk (Kd.R_below HO28.out hb); replace HO31 := Aside0.mk (Kd.R_below HO31.out hb); replace HO36 := Aside0.mk (Kd.R_below HO36.out hb); replace BK1 := Aside0.mk (blk_below (g := gb1) (o := .cells #[.slice A0_0 l0_0.length c0_0, .int .i64 a0_1] 24 (0, 0)) BK1.out hb); replace BK2 := Aside0.mk (blk_below (g := gb2) (o := .cells #[.slice A1_0 l1_0.length c1_0, .bool a1_1] 42 (0, 0)) BK2.out hb); replace BK3 := Aside0.mk (blk_below (g := gb3) (o := .cells #[.slice B20 t17.length d20, .bool t18] 46 (0, 0)) BK3.out hb); replace BK4 := Aside0.mk (blk_below (g := gb4) (o := .cells #[.slice B24 t22.length d24, .int .i64 t23] 27 (0, 0)) BK4.out hb); replace BK5 := Aside0.mk (blk_below (g := gb5) (o := .cells #[.slice B28 t26.length d28, .bool t27] 46 (0, 0)) BK5.out hb); replace HB := Aside0.mk (below_step HB.out hb); replace HT := Aside0.mk (Nat.le_trans HT.out hb.size); have BK6 := Aside0.mk hbox; replace HT := Aside0.mk (Nat.succ_le_of_lt (blk_lt hbox)); replace HN := Aside0.mk (And.intro nn HN.out); clear hg hbox hb nn) | ((with_reducible refine gate_store (t := 46) (p := 13) rfl ?_); refine laws_FnExactCrossBridge.store rfl rfl rfl gb6 46 #[.slice none 0 0, .bool false] (.agg #[.slice B36 t33.length d36, .bool t34]) [.slice B36 t33.length d36, .bool t34] rfl rfl BK6.out rfl (by kernel_rfl) rfl (by intro q_ hq_; simp only [List.mem_cons, List.not_mem_nil, or_false] at hq_; rcases hq_ with rfl | rfl <;> rfl) ?_; intro W43 hbx hg; replace HO20 := Aside0.mk (laws_FnExactCrossBridge.grownR HO20.out hg (by have hn_ := HN.out; omega)); replace HO24 := Aside0.mk (laws_FnExactCrossBridge.grownR HO24.out hg (by have hn_ := HN.out; omega)); replace HO28 := Aside0.mk (laws_FnExactCrossBridge.grownR HO28.out hg (by have hn_ := HN.out; omega)); replace HO31 := Aside0.mk (laws_FnExactCrossBridge.grownR HO31.out hg (by have hn_ := HN.out; omega)); replace HO36 := Aside0.mk (laws_FnExactCrossBridge.grownR HO36.out hg (by have hn_ := HN.out; omega)); replace BK1 := Aside0.mk (laws_FnExactCrossBridge.grownB BK1.out hg (by have hn_ := HN.out; omega)); replace BK2 := Aside0.mk (laws_FnExactCrossBridge.grownB BK2.out hg (by have hn_ := HN.out; omega)); replace BK3 := Aside0.mk (laws_FnExactCrossBridge.grownB BK3.out hg (by have hn_ := HN.out; omega)); replace BK4 := Aside0.mk (laws_FnExactCrossBridge.grownB BK4.out hg (by have hn_ := HN.out; omega)); replace BK5 := Aside0.mk (laws_FnExactCrossBridge.grownB BK5.out hg (by have hn_ := HN.out; omega)); replace HB := Aside0.mk (Below.grown HB.out hg (below_size HB.out) (fun k_ hk_ => by injection hk_ with hk_; subst hk_; exact GE6.out)); replace HT := Aside0.mk (Nat.le_trans HT.out hg.size); replace BK6 := Aside0.mk hbx; clear hbx hg; have cz6_0 : W43.cell? ⟨gb6, 0, none⟩ = some (.slice B36 t33.length d36) := (blk_cell BK6.out 0).trans rfl; have cz6_1 : W43.cell? ⟨gb6, 1, none⟩ = some (.bool t34) := (blk_cell BK6.out 1).trans rfl; have cz3_0 : W43.cell? ⟨gb3, 0, none⟩ = some (.slice B20 t17.length d20) := (blk_cell BK3.out 0).trans rfl; have cz3_1 : W43.cell? ⟨gb3, 1, none⟩ = some (.bool t18) := (blk_cell BK3.out 1).trans rfl) | ((with_reducible refine gate_dst (N := 58) rfl ?_); refine goesL_ (some 58) rfl rfl Try.func34 (by kernel_rfl) rfl #[.agg #[.slice B36 t33.length d36, .bool t34], .agg #[.slice B20 t17.length d20, .bool t18]] rfl (by (try simp only [List.map_toArray, List.map_cons, List.map_nil]); first | done | rfl) ?_; (with_reducible refine (laws_eqState.calls k _ _ t33 t34 _ _ t17 t18 true _ (Kd.R_reads' HO36.out).2.2 (Kd.R_reads' HO36.out).2.1 (Kd.R_reads' HO20.out).2.2 (Kd.R_reads' HO20.out).2.1 A37.out).mono ?_); rintro e W44 ⟨rfl, hb⟩; refine ⟨_, rfl, ?_⟩; replace HO20 := Aside0.mk (Kd.R_below HO20.out hb); replace HO24 := Aside0.mk (Kd.R_below HO24.out hb); replace HO28 := Aside0.mk (Kd.R_below HO28.out hb); replace HO31 := Aside0.mk (Kd.R_below HO31.out hb); replace HO36 := Aside0.mk (Kd.R_below HO36.out hb); replace BK1 := Aside0.mk (blk_below (g := gb1) (o := .cells #[.slice A0_0 l0_0.length c0_0, .int .i64 a0_1] 24 (0, 0)) BK1.out hb); replace BK2 := Aside0.mk (blk_below (g := gb2) (o := .cells #[.slice A1_0 l1_0.length c1_0, .bool a1_1] 42 (0, 0)) BK2.out hb); replace BK3 := Aside0.mk (blk_below (g := gb3) (o := .cells #[.slice B20 t17.length d20, .bool t18] 46 (0, 0)) BK3.out hb); replace BK4 := Aside0.mk (blk_below (g := gb4) (o := .cells #[.slice B24 t22.length d24, .int .i64 t23] 27 (0, 0)) BK4.out hb); replace BK5 := Aside0.mk (blk_below (g := gb5) (o := .cells #[.slice B28 t26.length d28, .bool t27] 46 (0, 0)) BK5.out hb); replace BK6 := Aside0.mk (blk_below (g := gb6) (o := .cells #[.slice B36 t33.length d36, .bool t34] 46 (0, 0)) BK6.out hb); replace HB := Aside0.mk (below_step HB.out hb); replace HT := Aside0.mk (Nat.le_trans HT.out hb.size); clear hb; (try clear cz6_0 cz6_1 cz3_0 cz3_1)))
  have hb : Below W44.heap.size W44 W44.drew := below_drew (Below.refl _ _)
  replace HO20 := Aside0.mk (Kd.R_below HO20.out hb)
  replace HO24 := Aside0.mk (Kd.R_below HO24.out hb)
  replace HO28 := Aside0.mk (Kd.R_below HO28.out hb)
  replace HO31 := Aside0.mk (Kd.R_below HO31.out hb)
  replace HO36 := Aside0.mk (Kd.R_below HO36.out hb)
  replace BK1 := Aside0.mk (blk_below (g := gb1) (o := .cells #[.slice A0_0 l0_0.length c0_0, .int .i64 a0_1] 24 (0, 0)) BK1.out hb)
  replace BK2 := Aside0.mk (blk_below (g := gb2) (o := .cells #[.slice A1_0 l1_0.length c1_0, .bool a1_1] 42 (0, 0)) BK2.out hb)
  replace BK3 := Aside0.mk (blk_below (g := gb3) (o := .cells #[.slice B20 t17.length d20, .bool t18] 46 (0, 0)) BK3.out hb)
  replace BK4 := Aside0.mk (blk_below (g := gb4) (o := .cells #[.slice B24 t22.length d24, .int .i64 t23] 27 (0, 0)) BK4.out hb)
  replace BK5 := Aside0.mk (blk_below (g := gb5) (o := .cells #[.slice B28 t26.length d28, .bool t27] 46 (0, 0)) BK5.out hb)
  replace BK6 := Aside0.mk (blk_below (g := gb6) (o := .cells #[.slice B36 t33.length d36, .bool t34] 46 (0, 0)) BK6.out hb)
  replace HB := Aside0.mk (below_step HB.out hb)
  replace HT := Aside0.mk (Nat.le_trans HT.out hb.size)
  clear hb
  refine start_ (n := 5) (S := fun w' => w'.cell? ⟨gb4, 0, none⟩ = some (.slice B24 t22.length d24) ∧ w'.cell? ⟨gb4, 1, none⟩ = some (.int .i64 t23) ∧ w'.cell? ⟨gb1, 0, none⟩ = some (.slice A0_0 l0_0.length c0_0) ∧ w'.cell? ⟨gb1, 1, none⟩ = some (.int .i64 a0_1)) (ds := []) #[false, false, false, false, false] (by kernel_rfl) rfl rfl ⟨(blk_cell BK4.out 0).trans rfl, (blk_cell BK4.out 1).trans rfl, (blk_cell BK1.out 0).trans rfl, (blk_cell BK1.out 1).trans rfl⟩ (fun hHeld => ?_)
  generalize W44.drew = W45 at HO20 HO24 HO28 HO31 HO36 BK1 BK2 BK3 BK4 BK5 BK6 HB HT hHeld ⊢
  refine take_ (i := 0) (N := some 65) (v := ?_) (a' := ?_) #[true, false, false, false, false] rfl rfl (by kernel_rfl) (fun _ _ _ h => h) (Or.inl ⟨by rfl, ?_⟩) hHeld ?_ ?_
  rotate_left
  · rintro w' ⟨s0, s1, s2, s3⟩
    go_simp
    with_reducible rfl
  rotate_left
  · simp only [Act.put, List.setIfInBounds_toArray, List.set_cons_zero, List.set_cons_succ, i64_w, i32_w]
    rfl
  refine take_ (i := 1) (N := some 66) (v := ?_) (a' := ?_) #[true, true, false, false, false] rfl rfl (by kernel_rfl) (fun _ _ _ h => h) (Or.inl ⟨by rfl, ?_⟩) hHeld ?_ ?_
  rotate_left
  · rintro w' ⟨s0, s1, s2, s3⟩
    go_simp
    with_reducible rfl
  rotate_left
  · simp only [Act.put, List.setIfInBounds_toArray, List.set_cons_zero, List.set_cons_succ, i64_w, i32_w]
    rfl
  refine one_ (i := 2) (N := some 67) #[true, true, true, false, false] rfl rfl (by kernel_rfl) (by decide) (fun K hK => ?_)
  refine goes_ Try.func17 (by kernel_rfl) rfl #[.agg #[.slice A0_0 l0_0.length c0_0, .int .i64 a0_1]] (by rfl) rfl rfl (by (try simp only [List.map_toArray, List.map_cons, List.map_nil]); first | done | rfl) ?_
  with_reducible refine (laws_toParty.calls k _ _ l0_0 a0_1 t40 t41 _ (Kd.C_below HR0_0.out HB.out) HC0_0.out A39.out).mono ?_
  rintro e W46 ⟨v42, rfl, ho42, hb⟩
  refine ⟨_, rfl, ?_⟩
  obtain ⟨B42, d42, e_⟩ := Kd.R_slice ho42
  subst e_
  obtain ⟨lo42, hi42, nn, ht_, hO42⟩ := laws_FnExactCrossBridge.newR ho42 HT.out (below_size HB.out) hb.size
  replace HO20 := Aside0.mk (Kd.R_below HO20.out hb)
  replace HO24 := Aside0.mk (Kd.R_below HO24.out hb)
  replace HO28 := Aside0.mk (Kd.R_below HO28.out hb)
  replace HO31 := Aside0.mk (Kd.R_below HO31.out hb)
  replace HO36 := Aside0.mk (Kd.R_below HO36.out hb)
  replace BK1 := Aside0.mk (blk_below (g := gb1) (o := .cells #[.slice A0_0 l0_0.length c0_0, .int .i64 a0_1] 24 (0, 0)) BK1.out hb)
  replace BK2 := Aside0.mk (blk_below (g := gb2) (o := .cells #[.slice A1_0 l1_0.length c1_0, .bool a1_1] 42 (0, 0)) BK2.out hb)
  replace BK3 := Aside0.mk (blk_below (g := gb3) (o := .cells #[.slice B20 t17.length d20, .bool t18] 46 (0, 0)) BK3.out hb)
  replace BK4 := Aside0.mk (blk_below (g := gb4) (o := .cells #[.slice B24 t22.length d24, .int .i64 t23] 27 (0, 0)) BK4.out hb)
  replace BK5 := Aside0.mk (blk_below (g := gb5) (o := .cells #[.slice B28 t26.length d28, .bool t27] 46 (0, 0)) BK5.out hb)
  replace BK6 := Aside0.mk (blk_below (g := gb6) (o := .cells #[.slice B36 t33.length d36, .bool t34] 46 (0, 0)) BK6.out hb)
  replace HB := Aside0.mk (below_step HB.out hb)
  replace HT := Aside0.mk (Nat.le_trans HT.out hb.size)
  have HO42 := Aside0.mk hO42
  replace HT := Aside0.mk ht_
  replace HN := Aside0.mk (And.intro nn HN.out)
  clear ho42 hO42 nn ht_
  clear hb
  refine hK.out _ _ ⟨(blk_cell BK4.out 0).trans rfl, (blk_cell BK4.out 1).trans rfl, (blk_cell BK1.out 0).trans rfl, (blk_cell BK1.out 1).trans rfl⟩ (fun hHeld => ?_)
  clear hK K
  refine norm_ (a' := ?_) ?_ ?_
  rotate_left
  · show Act.put _ (some 67) _ = _
    simp only [Act.put, List.setIfInBounds_toArray, List.set_cons_zero, List.set_cons_succ, i64_w, i32_w]
    rfl
  refine one_ (i := 3) (N := some 68) #[true, true, true, true, false] rfl rfl (by kernel_rfl) (by decide) (fun K hK => ?_)
  refine goes_ Try.func19 (by kernel_rfl) rfl #[.agg #[.slice B24 t22.length d24, .int .i64 t23], .agg #[.slice B42 t40.length d42, .int .i64 t41]] (by rfl) rfl rfl (by (try simp only [List.map_toArray, List.map_cons, List.map_nil]); first | done | rfl) ?_
  with_reducible refine (laws_eqParty.calls k _ _ t22 t23 _ _ t40 t41 true _ (Kd.R_reads' HO24.out).2.2 (Kd.R_reads' HO24.out).2.1 (Kd.R_reads' HO42.out).2.2 (Kd.R_reads' HO42.out).2.1 A43.out).mono ?_
  rintro e W47 ⟨rfl, hb⟩
  refine ⟨_, rfl, ?_⟩
  replace HO20 := Aside0.mk (Kd.R_below HO20.out hb)
  replace HO24 := Aside0.mk (Kd.R_below HO24.out hb)
  replace HO28 := Aside0.mk (Kd.R_below HO28.out hb)
  replace HO31 := Aside0.mk (Kd.R_below HO31.out hb)
  replace HO36 := Aside0.mk (Kd.R_below HO36.out hb)
  replace HO42 := Aside0.mk (Kd.R_below HO42.out hb)
  replace BK1 := Aside0.mk (blk_below (g := gb1) (o := .cells #[.slice A0_0 l0_0.length c0_0, .int .i64 a0_1] 24 (0, 0)) BK1.out hb)
  replace BK2 := Aside0.mk (blk_below (g := gb2) (o := .cells #[.slice A1_0 l1_0.length c1_0, .bool a1_1] 42 (0, 0)) BK2.out hb)
  replace BK3 := Aside0.mk (blk_below (g := gb3) (o := .cells #[.slice B20 t17.length d20, .bool t18] 46 (0, 0)) BK3.out hb)
  replace BK4 := Aside0.mk (blk_below (g := gb4) (o := .cells #[.slice B24 t22.length d24, .int .i64 t23] 27 (0, 0)) BK4.out hb)
  replace BK5 := Aside0.mk (blk_below (g := gb5) (o := .cells #[.slice B28 t26.length d28, .bool t27] 46 (0, 0)) BK5.out hb)
  replace BK6 := Aside0.mk (blk_below (g := gb6) (o := .cells #[.slice B36 t33.length d36, .bool t34] 46 (0, 0)) BK6.out hb)
  replace HB := Aside0.mk (below_step HB.out hb)
  replace HT := Aside0.mk (Nat.le_trans HT.out hb.size)
  clear hb
  clear HO42
  refine hK.out _ _ ⟨(blk_cell BK4.out 0).trans rfl, (blk_cell BK4.out 1).trans rfl, (blk_cell BK1.out 0).trans rfl, (blk_cell BK1.out 1).trans rfl⟩ (fun hHeld => ?_)
  clear hK K
  refine norm_ (a' := ?_) ?_ ?_
  rotate_left
  · show Act.put _ (some 68) _ = _
    simp only [Act.put, List.setIfInBounds_toArray, List.set_cons_zero, List.set_cons_succ, i64_w, i32_w]
    rfl
  refine pure_ (i := 4) (N := some 69) (v := ?_) (a' := ?_) #[true, true, true, true, true] rfl rfl (by kernel_rfl) (fun _ _ _ h => h) (Or.inl ⟨by rfl, ?_⟩) ?_ ?_
  rotate_left
  · intro w'
    go_simp
    with_reducible rfl
  rotate_left
  · simp only [Act.put, List.setIfInBounds_toArray, List.set_cons_zero, List.set_cons_succ, i64_w, i32_w]
    rfl
  refine done_ (by kernel_rfl) ?_
  try go_wp2
  have hb : Below W47.heap.size W47 W47.drew := below_drew (Below.refl _ _)
  replace HO20 := Aside0.mk (Kd.R_below HO20.out hb)
  replace HO24 := Aside0.mk (Kd.R_below HO24.out hb)
  replace HO28 := Aside0.mk (Kd.R_below HO28.out hb)
  replace HO31 := Aside0.mk (Kd.R_below HO31.out hb)
  replace HO36 := Aside0.mk (Kd.R_below HO36.out hb)
  replace BK1 := Aside0.mk (blk_below (g := gb1) (o := .cells #[.slice A0_0 l0_0.length c0_0, .int .i64 a0_1] 24 (0, 0)) BK1.out hb)
  replace BK2 := Aside0.mk (blk_below (g := gb2) (o := .cells #[.slice A1_0 l1_0.length c1_0, .bool a1_1] 42 (0, 0)) BK2.out hb)
  replace BK3 := Aside0.mk (blk_below (g := gb3) (o := .cells #[.slice B20 t17.length d20, .bool t18] 46 (0, 0)) BK3.out hb)
  replace BK4 := Aside0.mk (blk_below (g := gb4) (o := .cells #[.slice B24 t22.length d24, .int .i64 t23] 27 (0, 0)) BK4.out hb)
  replace BK5 := Aside0.mk (blk_below (g := gb5) (o := .cells #[.slice B28 t26.length d28, .bool t27] 46 (0, 0)) BK5.out hb)
  replace BK6 := Aside0.mk (blk_below (g := gb6) (o := .cells #[.slice B36 t33.length d36, .bool t34] 46 (0, 0)) BK6.out hb)
  replace HB := Aside0.mk (below_step HB.out hb)
  replace HT := Aside0.mk (Nat.le_trans HT.out hb.size)
  clear hb
  refine start_ (n := 5) (S := fun w' => w'.cell? ⟨gb5, 0, none⟩ = some (.slice B28 t26.length d28) ∧ w'.cell? ⟨gb5, 1, none⟩ = some (.bool t27) ∧ w'.cell? ⟨gb2, 0, none⟩ = some (.slice A1_0 l1_0.length c1_0) ∧ w'.cell? ⟨gb2, 1, none⟩ = some (.bool a1_1)) (ds := []) #[false, false, false, false, false] (by kernel_rfl) rfl rfl ⟨(blk_cell BK5.out 0).trans rfl, (blk_cell BK5.out 1).trans rfl, (blk_cell BK2.out 0).trans rfl, (blk_cell BK2.out 1).trans rfl⟩ (fun hHeld => ?_)
  generalize W47.drew = W48 at HO20 HO24 HO28 HO31 HO36 BK1 BK2 BK3 BK4 BK5 BK6 HB HT hHeld ⊢
  refine take_ (i := 0) (N := some 70) (v := ?_) (a' := ?_) #[true, false, false, false, false] rfl rfl (by kernel_rfl) (fun _ _ _ h => h) (Or.inl ⟨by rfl, ?_⟩) hHeld ?_ ?_
  rotate_left
  · rintro w' ⟨s0, s1, s2, s3⟩
    go_simp
    with_reducible rfl
  rotate_left
  · simp only [Act.put, List.setIfInBounds_toArray, List.set_cons_zero, List.set_cons_succ, i64_w, i32_w]
    rfl
  refine take_ (i := 1) (N := some 71) (v := ?_) (a' := ?_) #[true, true, false, false, false] rfl rfl (by kernel_rfl) (fun _ _ _ h => h) (Or.inl ⟨by rfl, ?_⟩) hHeld ?_ ?_
  rotate_left
  · rintro w' ⟨s0, s1, s2, s3⟩
    go_simp
    with_reducible rfl
  rotate_left
  · simp only [Act.put, List.setIfInBounds_toArray, List.set_cons_zero, List.set_cons_succ, i64_w, i32_w]
    rfl
  refine one_ (i := 2) (N := some 72) #[true, true, true, false, false] rfl rfl (by kernel_rfl) (by decide) (fun K hK => ?_)
  refine goes_ Try.func32 (by kernel_rfl) rfl #[.agg #[.slice A1_0 l1_0.length c1_0, .bool a1_1]] (by rfl) rfl rfl (by (try simp only [List.map_toArray, List.map_cons, List.map_nil]); first | done | rfl) ?_
  with_reducible refine (laws_toState.calls k _ _ l1_0 a1_1 t46 t47 _ (Kd.C_below HR1_0.out HB.out) HC1_0.out A45.out).mono ?_
  rintro e W49 ⟨v48, rfl, ho48, hb⟩
  refine ⟨_, rfl, ?_⟩
  obtain ⟨B48, d48, e_⟩ := Kd.R_slice ho48
  subst e_
  obtain ⟨lo48, hi48, nn, ht_, hO48⟩ := laws_FnExactCrossBridge.newR ho48 HT.out (below_size HB.out) hb.size
  replace HO20 := Aside0.mk (Kd.R_below HO20.out hb)
  replace HO24 := Aside0.mk (Kd.R_below HO24.out hb)
  replace HO28 := Aside0.mk (Kd.R_below HO28.out hb)
  replace HO31 := Aside0.mk (Kd.R_below HO31.out hb)
  replace HO36 := Aside0.mk (Kd.R_below HO36.out hb)
  replace BK1 := Aside0.mk (blk_below (g := gb1) (o := .cells #[.slice A0_0 l0_0.length c0_0, .int .i64 a0_1] 24 (0, 0)) BK1.out hb)
  replace BK2 := Aside0.mk (blk_below (g := gb2) (o := .cells #[.slice A1_0 l1_0.length c1_0, .bool a1_1] 42 (0, 0)) BK2.out hb)
  replace BK3 := Aside0.mk (blk_below (g := gb3) (o := .cells #[.slice B20 t17.length d20, .bool t18] 46 (0, 0)) BK3.out hb)
  replace BK4 := Aside0.mk (blk_below (g := gb4) (o := .cells #[.slice B24 t22.length d24, .int .i64 t23] 27 (0, 0)) BK4.out hb)
  replace BK5 := Aside0.mk (blk_below (g := gb5) (o := .cells #[.slice B28 t26.length d28, .bool t27] 46 (0, 0)) BK5.out hb)
  replace BK6 := Aside0.mk (blk_below (g := gb6) (o := .cells #[.slice B36 t33.length d36, .bool t34] 46 (0, 0)) BK6.out hb)
  replace HB := Aside0.mk (below_step HB.out hb)
  replace HT := Aside0.mk (Nat.le_trans HT.out hb.size)
  have HO48 := Aside0.mk hO48
  replace HT := Aside0.mk ht_
  replace HN := Aside0.mk (And.intro nn HN.out)
  clear ho48 hO48 nn ht_
  clear hb
  refine hK.out _ _ ⟨(blk_cell BK5.out 0).trans rfl, (blk_cell BK5.out 1).trans rfl, (blk_cell BK2.out 0).trans rfl, (blk_cell BK2.out 1).trans rfl⟩ (fun hHeld => ?_)
  clear hK K
  refine norm_ (a' := ?_) ?_ ?_
  rotate_left
  · show Act.put _ (some 72) _ = _
    simp only [Act.put, List.setIfInBounds_toArray, List.set_cons_zero, List.set_cons_succ, i64_w, i32_w]
    rfl
  refine one_ (i := 3) (N := some 73) #[true, true, true, true, false] rfl rfl (by kernel_rfl) (by decide) (fun K hK => ?_)
  refine goes_ Try.func34 (by kernel_rfl) rfl #[.agg #[.slice B28 t26.length d28, .bool t27], .agg #[.slice B48 t46.length d48, .bool t47]] (by rfl) rfl rfl (by (try simp only [List.map_toArray, List.map_cons, List.map_nil]); first | done | rfl) ?_
  with_reducible refine (laws_eqState.calls k _ _ t26 t27 _ _ t46 t47 true _ (Kd.R_reads' HO28.out).2.2 (Kd.R_reads' HO28.out).2.1 (Kd.R_reads' HO48.out).2.2 (Kd.R_reads' HO48.out).2.1 A49.out).mono ?_
  rintro e W50 ⟨rfl, hb⟩
  refine ⟨_, rfl, ?_⟩
  replace HO20 := Aside0.mk (Kd.R_below HO20.out hb)
  replace HO24 := Aside0.mk (Kd.R_below HO24.out hb)
  replace HO28 := Aside0.mk (Kd.R_below HO28.out hb)
  replace HO31 := Aside0.mk (Kd.R_below HO31.out hb)
  replace HO36 := Aside0.mk (Kd.R_below HO36.out hb)
  replace HO48 := Aside0.mk (Kd.R_below HO48.out hb)
  replace BK1 := Aside0.mk (blk_below (g := gb1) (o := .cells #[.slice A0_0 l0_0.length c0_0, .int .i64 a0_1] 24 (0, 0)) BK1.out hb)
  replace BK2 := Aside0.mk (blk_below (g := gb2) (o := .cells #[.slice A1_0 l1_0.length c1_0, .bool a1_1] 42 (0, 0)) BK2.out hb)
  replace BK3 := Aside0.mk (blk_below (g := gb3) (o := .cells #[.slice B20 t17.length d20, .bool t18] 46 (0, 0)) BK3.out hb)
  replace BK4 := Aside0.mk (blk_below (g := gb4) (o := .cells #[.slice B24 t22.length d24, .int .i64 t23] 27 (0, 0)) BK4.out hb)
  replace BK5 := Aside0.mk (blk_below (g := gb5) (o := .cells #[.slice B28 t26.length d28, .bool t27] 46 (0, 0)) BK5.out hb)
  replace BK6 := Aside0.mk (blk_below (g := gb6) (o := .cells #[.slice B36 t33.length d36, .bool t34] 46 (0, 0)) BK6.out hb)
  replace HB := Aside0.mk (below_step HB.out hb)
  replace HT := Aside0.mk (Nat.le_trans HT.out hb.size)
  clear hb
  clear HO48
  refine hK.out _ _ ⟨(blk_cell BK5.out 0).trans rfl, (blk_cell BK5.out 1).trans rfl, (blk_cell BK2.out 0).trans rfl, (blk_cell BK2.out 1).trans rfl⟩ (fun hHeld => ?_)
  clear hK K
  refine norm_ (a' := ?_) ?_ ?_
  rotate_left
  · show Act.put _ (some 73) _ = _
    simp only [Act.put, List.setIfInBounds_toArray, List.set_cons_zero, List.set_cons_succ, i64_w, i32_w]
    rfl
  refine pure_ (i := 4) (N := some 74) (v := ?_) (a' := ?_) #[true, true, true, true, true] rfl rfl (by kernel_rfl) (fun _ _ _ h => h) (Or.inl ⟨by rfl, ?_⟩) ?_ ?_
  rotate_left
  · intro w'
    go_simp
    with_reducible rfl
  rotate_left
  · simp only [Act.put, List.setIfInBounds_toArray, List.set_cons_zero, List.set_cons_succ, i64_w, i32_w]
    rfl
  refine done_ (by kernel_rfl) ?_
  try go_wp2_with (first | ((with_reducible refine gate_dst (N := 77) rfl ?_); refine goesL_ (some 77) rfl rfl Try.func21 (by kernel_rfl) rfl #[.slice A2 l2.length c2] rfl (by (try simp only [List.map_toArray, List.map_cons, List.map_nil]); first | done | rfl) ?_; (with_reducible refine (laws_toIntS.calls k _ _ l2 t52 _ (Kd.C_below HR2.out HB.out) HC2.out A51.out).mono ?_); rintro e W51 ⟨v53, rfl, ho53, hb⟩; refine ⟨_, rfl, ?_⟩; obtain ⟨B53, d53, e_⟩ := Kd.R_slice ho53; subst e_; obtain ⟨lo53, hi53, nn, ht_, hO53⟩ := laws_FnExactCrossBridge.newR ho53 HT.out (below_size HB.out) hb.size; replace HO20 := Aside0.mk (Kd.R_below HO20.out hb); replace HO24 := Aside0.mk (Kd.R_below HO24.out hb); replace HO28 := Aside0.mk (Kd.R_below HO28.out hb); replace HO31 := Aside0.mk (Kd.R_below HO31.out hb); replace HO36 := Aside0.mk (Kd.R_below HO36.out hb); replace BK1 := Aside0.mk (blk_below (g := gb1) (o := .cells #[.slice A0_0 l0_0.length c0_0, .int .i64 a0_1] 24 (0, 0)) BK1.out hb); replace BK2 := Aside0.mk (blk_below (g := gb2) (o := .cells #[.slice A1_0 l1_0.length c1_0, .bool a1_1] 42 (0, 0)) BK2.out hb); replace BK3 := Aside0.mk (blk_below (g := gb3) (o := .cells #[.slice B20 t17.length d20, .bool t18] 46 (0, 0)) BK3.out hb); replace BK4 := Aside0.mk (blk_below (g := gb4) (o := .cells #[.slice B24 t22.length d24, .int .i64 t23] 27 (0, 0)) BK4.out hb); replace BK5 := Aside0.mk (blk_below (g := gb5) (o := .cells #[.slice B28 t26.length d28, .bool t27] 46 (0, 0)) BK5.out hb); replace BK6 := Aside0.mk (blk_below (g := gb6) (o := .cells #[.slice B36 t33.length d36, .bool t34] 46 (0, 0)) BK6.out hb); replace HB := Aside0.mk (below_step HB.out hb); replace HT := Aside0.mk (Nat.le_trans HT.out hb.size); have HO53 := Aside0.mk hO53; replace HT := Aside0.mk ht_; replace HN := Aside0.mk (And.intro nn HN.out); clear ho53 hO53 nn ht_; clear hb) | ((with_reducible refine gate_dst (N := 78) rfl ?_); refine goesL_ (some 78) rfl rfl Try.func23 (by kernel_rfl) rfl #[.slice B31 t30.length d31, .slice B53 t52.length d53] rfl (by (try simp only [List.map_toArray, List.map_cons, List.map_nil]); first | done | rfl) ?_; (with_reducible refine (laws_eqIntS.calls k _ _ t30 _ _ t52 true _ (Kd.R_reads' HO31.out).2.2 (Kd.R_reads' HO31.out).2.1 (Kd.R_reads' HO53.out).2.2 (Kd.R_reads' HO53.out).2.1 A54.out).mono ?_); rintro e W52 ⟨rfl, hd⟩; have hb := hd.below; clear hd; refine ⟨_, rfl, ?_⟩; replace HO20 := Aside0.mk (Kd.R_below HO20.out hb); replace HO24 := Aside0.mk (Kd.R_below HO24.out hb); replace HO28 := Aside0.mk (Kd.R_below HO28.out hb); replace HO31 := Aside0.mk (Kd.R_below HO31.out hb); replace HO36 := Aside0.mk (Kd.R_below HO36.out hb); replace HO53 := Aside0.mk (Kd.R_below HO53.out hb); replace BK1 := Aside0.mk (blk_below (g := gb1) (o := .cells #[.slice A0_0 l0_0.length c0_0, .int .i64 a0_1] 24 (0, 0)) BK1.out hb); replace BK2 := Aside0.mk (blk_below (g := gb2) (o := .cells #[.slice A1_0 l1_0.length c1_0, .bool a1_1] 42 (0, 0)) BK2.out hb); replace BK3 := Aside0.mk (blk_below (g := gb3) (o := .cells #[.slice B20 t17.length d20, .bool t18] 46 (0, 0)) BK3.out hb); replace BK4 := Aside0.mk (blk_below (g := gb4) (o := .cells #[.slice B24 t22.length d24, .int .i64 t23] 27 (0, 0)) BK4.out hb); replace BK5 := Aside0.mk (blk_below (g := gb5) (o := .cells #[.slice B28 t26.length d28, .bool t27] 46 (0, 0)) BK5.out hb); replace BK6 := Aside0.mk (blk_below (g := gb6) (o := .cells #[.slice B36 t33.length d36, .bool t34] 46 (0, 0)) BK6.out hb); replace HB := Aside0.mk (below_step HB.out hb); replace HT := Aside0.mk (Nat.le_trans HT.out hb.size); clear hb; clear HO53; have cz4_0 : W52.cell? ⟨gb4, 0, none⟩ = some (.slice B24 t22.length d24) := (blk_cell BK4.out 0).trans rfl; have cz4_1 : W52.cell? ⟨gb4, 1, none⟩ = some (.int .i64 t23) := (blk_cell BK4.out 1).trans rfl) | ((with_reducible refine gate_dst (N := 82) rfl ?_); refine goesL_ (some 82) rfl rfl Try.func26 (by kernel_rfl) rfl #[.agg #[.slice B24 t22.length d24, .int .i64 t23], .int .i64 1] rfl (by (try simp only [List.map_toArray, List.map_cons, List.map_nil]); first | done | rfl) ?_; (with_reducible refine (laws_markParty.calls k (fun k_ => lo24 ≤ k_ ∧ k_ < hi24) (.slice B24 t22.length d24) t22 t23 1 t57 t58 w _ HB.out HO24.out A56.out).mono ?_); rintro e W53 ⟨rfl, hy0, hb, hkp⟩; refine ⟨_, rfl, ?_⟩; replace HO20 := Aside0.mk (laws_FnExactCrossBridge.keptR HO20.out hkp (by have hn_ := HN.out; omega)); replace HO28 := Aside0.mk (laws_FnExactCrossBridge.keptR HO28.out hkp (by have hn_ := HN.out; omega)); replace HO31 := Aside0.mk (laws_FnExactCrossBridge.keptR HO31.out hkp (by have hn_ := HN.out; omega)); replace HO36 := Aside0.mk (laws_FnExactCrossBridge.keptR HO36.out hkp (by have hn_ := HN.out; omega)); replace BK1 := Aside0.mk (laws_FnExactCrossBridge.keptB BK1.out hkp (by have hn_ := HN.out; omega)); replace BK2 := Aside0.mk (laws_FnExactCrossBridge.keptB BK2.out hkp (by have hn_ := HN.out; omega)); replace BK3 := Aside0.mk (laws_FnExactCrossBridge.keptB BK3.out hkp (by have hn_ := HN.out; omega)); replace BK4 := Aside0.mk (laws_FnExactCrossBridge.keptB BK4.out hkp (by have hn_ := HN.out; omega)); replace BK5 := Aside0.mk (laws_FnExactCrossBridge.keptB BK5.out hkp (by have hn_ := HN.out; omega)); replace BK6 := Aside0.mk (laws_FnExactCrossBridge.keptB BK6.out hkp (by have hn_ := HN.out; omega)); replace HO24 := Aside0.mk (Kd.R_reok rfl hy0 (fun k_ e_ => HO24.out.1 k_ e_)); replace HB := Aside0.mk hb; replace HT := Aside0.mk (Nat.le_trans HT.out hkp.1); clear hy0 hb hkp; have hl_ := (Kd.R_reads' HO24.out).1; rw [hl_] at HO24 BK4; (try simp only [hl_]); clear hl_; clear HO24; (try clear cz4_0 cz4_1); have cz5_0 : W53.cell? ⟨gb5, 0, none⟩ = some (.slice B28 t26.length d28) := (blk_cell BK5.out 0).trans rfl; have cz5_1 : W53.cell? ⟨gb5, 1, none⟩ = some (.bool t27) := (blk_cell BK5.out 1).trans rfl) | ((with_reducible refine gate_dst (N := 85) rfl ?_); refine goesL_ (some 85) rfl rfl Try.func37 (by kernel_rfl) rfl #[.agg #[.slice B28 t26.length d28, .bool t27], .int .i64 t57] rfl (by (try simp only [List.map_toArray, List.map_cons, List.map_nil]); first | done | rfl) ?_; (with_reducible refine (laws_markState.calls k (fun k_ => lo28 ≤ k_ ∧ k_ < hi28) (.slice B28 t26.length d28) t26 t27 t57 t60 t61 w _ HB.out HO28.out A59.out).mono ?_); rintro e W54 ⟨rfl, hy0, hb, hkp⟩; refine ⟨_, rfl, ?_⟩; replace HO20 := Aside0.mk (laws_FnExactCrossBridge.keptR HO20.out hkp (by have hn_ := HN.out; omega)); replace HO31 := Aside0.mk (laws_FnExactCrossBridge.keptR HO31.out hkp (by have hn_ := HN.out; omega)); replace HO36 := Aside0.mk (laws_FnExactCrossBridge.keptR HO36.out hkp (by have hn_ := HN.out; omega)); replace BK1 := Aside0.mk (laws_FnExactCrossBridge.keptB BK1.out hkp (by have hn_ := HN.out; omega)); replace BK2 := Aside0.mk (laws_FnExactCrossBridge.keptB BK2.out hkp (by have hn_ := HN.out; omega)); replace BK3 := Aside0.mk (laws_FnExactCrossBridge.keptB BK3.out hkp (by have hn_ := HN.out; omega)); replace BK4 := Aside0.mk (laws_FnExactCrossBridge.keptB BK4.out hkp (by have hn_ := HN.out; omega)); replace BK5 := Aside0.mk (laws_FnExactCrossBridge.keptB BK5.out hkp (by have hn_ := HN.out; omega)); replace BK6 := Aside0.mk (laws_FnExactCrossBridge.keptB BK6.out hkp (by have hn_ := HN.out; omega)); replace HO28 := Aside0.mk (Kd.R_reok rfl hy0 (fun k_ e_ => HO28.out.1 k_ e_)); replace HB := Aside0.mk hb; replace HT := Aside0.mk (Nat.le_trans HT.out hkp.1); clear hy0 hb hkp; have hl_ := (Kd.R_reads' HO28.out).1; rw [hl_] at HO28 BK5; (try simp only [hl_]); clear hl_; clear HO28; (try clear cz5_0 cz5_1)) | ((with_reducible refine gate_dst (N := 88) rfl ?_); refine goesL_ (some 88) rfl rfl Try.func45 (by kernel_rfl) rfl #[.slice B31 t30.length d31, .int .i64 t60] rfl (by (try simp only [List.map_toArray, List.map_cons, List.map_nil]); first | done | rfl) ?_; (with_reducible refine (laws_markIntS.calls k (fun k_ => lo31 ≤ k_ ∧ k_ < hi31) (.slice B31 t30.length d31) t30 t60 t63 t64 w _ HB.out HO31.out A62.out).mono ?_); rintro e W55 ⟨rfl, hy0, hb, hkp⟩; refine ⟨_, rfl, ?_⟩; replace HO20 := Aside0.mk (laws_FnExactCrossBridge.keptR HO20.out hkp (by have hn_ := HN.out; omega)); replace HO36 := Aside0.mk (laws_FnExactCrossBridge.keptR HO36.out hkp (by have hn_ := HN.out; omega)); replace BK1 := Aside0.mk (laws_FnExactCrossBridge.keptB BK1.out hkp (by have hn_ := HN.out; omega)); replace BK2 := Aside0.mk (laws_FnExactCrossBridge.keptB BK2.out hkp (by have hn_ := HN.out; omega)); replace BK3 := Aside0.mk (laws_FnExactCrossBridge.keptB BK3.out hkp (by have hn_ := HN.out; omega)); replace BK4 := Aside0.mk (laws_FnExactCrossBridge.keptB BK4.out hkp (by have hn_ := HN.out; omega)); replace BK5 := Aside0.mk (laws_FnExactCrossBridge.keptB BK5.out hkp (by have hn_ := HN.out; omega)); replace BK6 := Aside0.mk (laws_FnExactCrossBridge.keptB BK6.out hkp (by have hn_ := HN.out; omega)); replace HO31 := Aside0.mk (Kd.R_reok rfl hy0 (fun k_ e_ => HO31.out.1 k_ e_)); replace HB := Aside0.mk hb; replace HT := Aside0.mk (Nat.le_trans HT.out hkp.1); clear hy0 hb hkp; have hl_ := (Kd.R_reads' HO31.out).1; rw [hl_] at HO31; (try simp only [hl_]); clear hl_; clear HO31; have cz6_0 : W55.cell? ⟨gb6, 0, none⟩ = some (.slice B36 t33.length d36) := (blk_cell BK6.out 0).trans rfl; have cz6_1 : W55.cell? ⟨gb6, 1, none⟩ = some (.bool t34) := (blk_cell BK6.out 1).trans rfl; have cz3_0 : W55.cell? ⟨gb3, 0, none⟩ = some (.slice B20 t17.length d20) := (blk_cell BK3.out 0).trans rfl; have cz3_1 : W55.cell? ⟨gb3, 1, none⟩ = some (.bool t18) := (blk_cell BK3.out 1).trans rfl) | ((with_reducible refine gate_dst (N := 94) rfl ?_); (refine gate_guard (by rfl) ?_; dsimp only); refine goesL_ (some 94) rfl rfl Try.func34 (by kernel_rfl) rfl #[.agg #[.slice B36 t33.length d36, .bool t34], .agg #[.slice B20 t17.length d20, .bool t18]] rfl (by (try simp only [List.map_toArray, List.map_cons, List.map_nil]); first | done | rfl) ?_; (with_reducible refine (laws_eqState.calls k _ _ t33 t34 _ _ t17 t18 true _ (Kd.R_reads' HO36.out).2.2 (Kd.R_reads' HO36.out).2.1 (Kd.R_reads' HO20.out).2.2 (Kd.R_reads' HO20.out).2.1 A65.out).mono ?_); rintro e W56 ⟨rfl, hb⟩; refine ⟨_, rfl, ?_⟩; replace HO20 := Aside0.mk (Kd.R_below HO20.out hb); replace HO36 := Aside0.mk (Kd.R_below HO36.out hb); replace BK1 := Aside0.mk (blk_below (g := gb1) (o := .cells #[.slice A0_0 l0_0.length c0_0, .int .i64 a0_1] 24 (0, 0)) BK1.out hb); replace BK2 := Aside0.mk (blk_below (g := gb2) (o := .cells #[.slice A1_0 l1_0.length c1_0, .bool a1_1] 42 (0, 0)) BK2.out hb); replace BK3 := Aside0.mk (blk_below (g := gb3) (o := .cells #[.slice B20 t17.length d20, .bool t18] 46 (0, 0)) BK3.out hb); replace BK4 := Aside0.mk (blk_below (g := gb4) (o := .cells #[.slice B24 t58.length d24, .int .i64 t23] 27 (0, 0)) BK4.out hb); replace BK5 := Aside0.mk (blk_below (g := gb5) (o := .cells #[.slice B28 t61.length d28, .bool t27] 46 (0, 0)) BK5.out hb); replace BK6 := Aside0.mk (blk_below (g := gb6) (o := .cells #[.slice B36 t33.length d36, .bool t34] 46 (0, 0)) BK6.out hb); replace HB := Aside0.mk (below_step HB.out hb); replace HT := Aside0.mk (Nat.le_trans HT.out hb.size); clear hb; (try clear cz6_0 cz6_1 cz3_0 cz3_1); have cz6_0 : W56.cell? ⟨gb6, 0, none⟩ = some (.slice B36 t33.length d36) := (blk_cell BK6.out 0).trans rfl; have cz6_1 : W56.cell? ⟨gb6, 1, none⟩ = some (.bool t34) := (blk_cell BK6.out 1).trans rfl) | ((with_reducible refine gate_dst (N := 104) rfl ?_); refine goesL_ (some 104) rfl rfl Try.func37 (by kernel_rfl) rfl #[.agg #[.slice B36 t33.length d36, .bool t34], .int .i64 1] rfl (by (try simp only [List.map_toArray, List.map_cons, List.map_nil]); first | done | rfl) ?_; (with_reducible refine (laws_markState.calls k (fun k_ => lo36 ≤ k_ ∧ k_ < hi36) (.slice B36 t33.length d36) t33 t34 1 t68 t69 w _ HB.out HO36.out A67.out).mono ?_); rintro e W57 ⟨rfl, hy0, hb, hkp⟩; refine ⟨_, rfl, ?_⟩; replace HO20 := Aside0.mk (laws_FnExactCrossBridge.keptR HO20.out hkp (by have hn_ := HN.out; omega)); replace BK1 := Aside0.mk (laws_FnExactCrossBridge.keptB BK1.out hkp (by have hn_ := HN.out; omega)); replace BK2 := Aside0.mk (laws_FnExactCrossBridge.keptB BK2.out hkp (by have hn_ := HN.out; omega)); replace BK3 := Aside0.mk (laws_FnExactCrossBridge.keptB BK3.out hkp (by have hn_ := HN.out; omega)); replace BK4 := Aside0.mk (laws_FnExactCrossBridge.keptB BK4.out hkp (by have hn_ := HN.out; omega)); replace BK5 := Aside0.mk (laws_FnExactCrossBridge.keptB BK5.out hkp (by have hn_ := HN.out; omega)); replace BK6 := Aside0.mk (laws_FnExactCrossBridge.keptB BK6.out hkp (by have hn_ := HN.out; omega)); replace HO36 := Aside0.mk (Kd.R_reok rfl hy0 (fun k_ e_ => HO36.out.1 k_ e_)); replace HB := Aside0.mk hb; replace HT := Aside0.mk (Nat.le_trans HT.out hkp.1); clear hy0 hb hkp; have hl_ := (Kd.R_reads' HO36.out).1; rw [hl_] at HO36 BK6; (try simp only [hl_]); clear hl_; (try clear cz6_0 cz6_1); have cz6_0 : W57.cell? ⟨gb6, 0, none⟩ = some (.slice B36 t69.length d36) := (blk_cell BK6.out 0).trans rfl; have cz6_1 : W57.cell? ⟨gb6, 1, none⟩ = some (.bool t34) := (blk_cell BK6.out 1).trans rfl) | ((with_reducible refine gate_dst (N := 107) rfl ?_); refine goesL_ (some 107) rfl rfl Try.func38 (by kernel_rfl) rfl #[.agg #[.slice B36 t69.length d36, .bool t34], .int .i64 1] rfl (by (try simp only [List.map_toArray, List.map_cons, List.map_nil]); first | done | rfl) ?_; (with_reducible refine (laws_heldState.calls k _ _ t69 t34 1 t71 _ (Kd.R_reads' HO36.out).2.2 (Kd.R_reads' HO36.out).2.1 A70.out).mono ?_); rintro e W58 ⟨rfl, hb⟩; refine ⟨_, rfl, ?_⟩; replace HO20 := Aside0.mk (Kd.R_below HO20.out hb); replace HO36 := Aside0.mk (Kd.R_below HO36.out hb); replace BK1 := Aside0.mk (blk_below (g := gb1) (o := .cells #[.slice A0_0 l0_0.length c0_0, .int .i64 a0_1] 24 (0, 0)) BK1.out hb); replace BK2 := Aside0.mk (blk_below (g := gb2) (o := .cells #[.slice A1_0 l1_0.length c1_0, .bool a1_1] 42 (0, 0)) BK2.out hb); replace BK3 := Aside0.mk (blk_below (g := gb3) (o := .cells #[.slice B20 t17.length d20, .bool t18] 46 (0, 0)) BK3.out hb); replace BK4 := Aside0.mk (blk_below (g := gb4) (o := .cells #[.slice B24 t58.length d24, .int .i64 t23] 27 (0, 0)) BK4.out hb); replace BK5 := Aside0.mk (blk_below (g := gb5) (o := .cells #[.slice B28 t61.length d28, .bool t27] 46 (0, 0)) BK5.out hb); replace BK6 := Aside0.mk (blk_below (g := gb6) (o := .cells #[.slice B36 t69.length d36, .bool t34] 46 (0, 0)) BK6.out hb); replace HB := Aside0.mk (below_step HB.out hb); replace HT := Aside0.mk (Nat.le_trans HT.out hb.size); clear hb; (try clear cz6_0 cz6_1)))
  have hb : Below W58.heap.size W58 W58.drew := below_drew (Below.refl _ _)
  replace HO20 := Aside0.mk (Kd.R_below HO20.out hb)
  replace HO36 := Aside0.mk (Kd.R_below HO36.out hb)
  replace BK1 := Aside0.mk (blk_below (g := gb1) (o := .cells #[.slice A0_0 l0_0.length c0_0, .int .i64 a0_1] 24 (0, 0)) BK1.out hb)
  replace BK2 := Aside0.mk (blk_below (g := gb2) (o := .cells #[.slice A1_0 l1_0.length c1_0, .bool a1_1] 42 (0, 0)) BK2.out hb)
  replace BK3 := Aside0.mk (blk_below (g := gb3) (o := .cells #[.slice B20 t17.length d20, .bool t18] 46 (0, 0)) BK3.out hb)
  replace BK4 := Aside0.mk (blk_below (g := gb4) (o := .cells #[.slice B24 t58.length d24, .int .i64 t23] 27 (0, 0)) BK4.out hb)
  replace BK5 := Aside0.mk (blk_below (g := gb5) (o := .cells #[.slice B28 t61.length d28, .bool t27] 46 (0, 0)) BK5.out hb)
  replace BK6 := Aside0.mk (blk_below (g := gb6) (o := .cells #[.slice B36 t69.length d36, .bool t34] 46 (0, 0)) BK6.out hb)
  replace HB := Aside0.mk (below_step HB.out hb)
  replace HT := Aside0.mk (Nat.le_trans HT.out hb.size)
  clear hb
  refine start_ (n := 13) (S := fun w' => w'.cell? ⟨gb1, 0, none⟩ = some (.slice A0_0 l0_0.length c0_0) ∧ w'.cell? ⟨gb1, 1, none⟩ = some (.int .i64 a0_1) ∧ w'.cell? ⟨gb2, 0, none⟩ = some (.slice A1_0 l1_0.length c1_0) ∧ w'.cell? ⟨gb2, 1, none⟩ = some (.bool a1_1)) (ds := []) #[false, false, false, false, false, false, false, false, false, false, false, false, false] (by kernel_rfl) rfl rfl ⟨(blk_cell BK1.out 0).trans rfl, (blk_cell BK1.out 1).trans rfl, (blk_cell BK2.out 0).trans rfl, (blk_cell BK2.out 1).trans rfl⟩ (fun hHeld => ?_)
  generalize W58.drew = W59 at HO20 HO36 BK1 BK2 BK3 BK4 BK5 BK6 HB HT hHeld ⊢
  refine take_ (i := 0) (N := some 114) (v := ?_) (a' := ?_) #[true, false, false, false, false, false, false, false, false, false, false, false, false] rfl rfl (by kernel_rfl) (fun _ _ _ h => h) (Or.inl ⟨by rfl, ?_⟩) hHeld ?_ ?_
  rotate_left
  · rintro w' ⟨s0, s1, s2, s3⟩
    go_simp
    with_reducible rfl
  rotate_left
  · simp only [Act.put, List.setIfInBounds_toArray, List.set_cons_zero, List.set_cons_succ, i64_w, i32_w]
    rfl
  refine take_ (i := 2) (N := some 116) (v := ?_) (a' := ?_) #[true, false, true, false, false, false, false, false, false, false, false, false, false] rfl rfl (by kernel_rfl) (fun _ _ _ h => h) (Or.inl ⟨by rfl, ?_⟩) hHeld ?_ ?_
  rotate_left
  · rintro w' ⟨s0, s1, s2, s3⟩
    go_simp
    with_reducible rfl
  rotate_left
  · simp only [Act.put, List.setIfInBounds_toArray, List.set_cons_zero, List.set_cons_succ, i64_w, i32_w]
    rfl
  refine pure_ (i := 4) (N := some 118) (v := ?_) (a' := ?_) #[true, false, true, false, true, false, false, false, false, false, false, false, false] rfl rfl (by kernel_rfl) (fun _ _ _ h => h) (Or.inl ⟨by rfl, ?_⟩) ?_ ?_
  rotate_left
  · intro w'
    go_simp
    with_reducible rfl
  rotate_left
  · simp only [Act.put, List.setIfInBounds_toArray, List.set_cons_zero, List.set_cons_succ, i64_w, i32_w]
    rfl
  refine join_ (σ := Option Addr × Nat × Option Addr × Nat × Option Addr × Nat × Option Addr × Nat × Nat) 2 #[true, true, true, true, true, true, true, true, true, true, true, false, false] (fun s => [(115, .agg #[.slice s.1 t73.length s.2.1, .int .i64 t74]), (117, .agg #[.slice s.2.2.1 t77.length s.2.2.2.1, .bool t78]), (119, .slice s.2.2.2.2.1 t81.length s.2.2.2.2.2.1), (120, .tuple #[.agg #[.slice s.2.2.2.2.2.2.1 t84.length s.2.2.2.2.2.2.2.1, .bool t85], .bool t86]), (113, .tuple #[.agg #[.slice s.2.2.2.2.2.2.1 t84.length s.2.2.2.2.2.2.2.1, .bool t85], .bool t86]), (121, .agg #[.slice s.2.2.2.2.2.2.1 t84.length s.2.2.2.2.2.2.2.1, .bool t85]), (122, .bool t86), (18, .pointer (some ⟨s.2.2.2.2.2.2.2.2, 0, none⟩))]) (fun s w' => ∃ lo87 hi87 T_ : Nat, Aside0 (Kd.R Kd.bool 4 w' w.heap.size (fun k_ => lo20 ≤ k_ ∧ k_ < hi20) (.slice B20 t17.length d20) t17) ∧ Aside0 (Kd.R Kd.bool 4 w' w.heap.size (fun k_ => lo36 ≤ k_ ∧ k_ < hi36) (.slice B36 t69.length d36) t69) ∧ Aside0 (Kd.R Kd.bool 4 w' w.heap.size (fun k_ => lo87 ≤ k_ ∧ k_ < hi87) (.slice s.2.2.2.2.2.2.1 t84.length s.2.2.2.2.2.2.2.1) t84) ∧ Aside0 (w'.heap[gb1]? = some (.cells #[.slice A0_0 l0_0.length c0_0, .int .i64 a0_1] 24 (0, 0))) ∧ Aside0 (w'.heap[gb2]? = some (.cells #[.slice A1_0 l1_0.length c1_0, .bool a1_1] 42 (0, 0))) ∧ Aside0 (w'.heap[gb3]? = some (.cells #[.slice B20 t17.length d20, .bool t18] 46 (0, 0))) ∧ Aside0 (w'.heap[gb4]? = some (.cells #[.slice B24 t58.length d24, .int .i64 t23] 27 (0, 0))) ∧ Aside0 (w'.heap[gb5]? = some (.cells #[.slice B28 t61.length d28, .bool t27] 46 (0, 0))) ∧ Aside0 (w'.heap[gb6]? = some (.cells #[.slice B36 t69.length d36, .bool t34] 46 (0, 0))) ∧ Aside0 (w'.heap[s.2.2.2.2.2.2.2.2]? = some (.cells #[.slice none 0 0, .bool false] 46 (0, 0))) ∧ Aside0 (Below w.heap.size w w') ∧ Aside0 (T_ ≤ w'.heap.size) ∧ Aside0 (w.heap.size ≤ s.2.2.2.2.2.2.2.2) ∧ Aside0 (hi53 ≤ s.2.2.2.2.2.2.2.2 ∧ s.2.2.2.2.2.2.2.2 < T_ ∧ hi53 ≤ lo87 ∧ lo87 ≤ hi87 ∧ hi87 ≤ T_ ∧ (s.2.2.2.2.2.2.2.2 < lo87 ∨ hi87 ≤ s.2.2.2.2.2.2.2.2))) ?_ ?_
  rotate_left
  · intro hJ4
    refine join_ (σ := Option Addr × Nat × Option Addr × Nat × Option Addr × Nat × Nat) 6 #[true, true, true, true, true, true, false, false, false, false, true, false, false] (fun s => [(115, .agg #[.slice s.1 t73.length s.2.1, .int .i64 t74]), (117, .agg #[.slice s.2.2.1 t77.length s.2.2.2.1, .bool t78]), (119, .slice s.2.2.2.2.1 t81.length s.2.2.2.2.2.1), (18, .pointer (some ⟨s.2.2.2.2.2.2, 0, none⟩))]) (fun s w' => ∃ lo75 hi75 lo79 hi79 lo82 hi82 T_ : Nat, Aside0 (Kd.R Kd.bool 4 w' w.heap.size (fun k_ => lo20 ≤ k_ ∧ k_ < hi20) (.slice B20 t17.length d20) t17) ∧ Aside0 (Kd.R Kd.bool 4 w' w.heap.size (fun k_ => lo36 ≤ k_ ∧ k_ < hi36) (.slice B36 t69.length d36) t69) ∧ Aside0 (Kd.R (Kd.int .i64) 3 w' w.heap.size (fun k_ => lo75 ≤ k_ ∧ k_ < hi75) (.slice s.1 t73.length s.2.1) t73) ∧ Aside0 (Kd.R Kd.bool 4 w' w.heap.size (fun k_ => lo79 ≤ k_ ∧ k_ < hi79) (.slice s.2.2.1 t77.length s.2.2.2.1) t77) ∧ Aside0 (Kd.R (Kd.int .i64) 3 w' w.heap.size (fun k_ => lo82 ≤ k_ ∧ k_ < hi82) (.slice s.2.2.2.2.1 t81.length s.2.2.2.2.2.1) t81) ∧ Aside0 (w'.heap[gb1]? = some (.cells #[.slice A0_0 l0_0.length c0_0, .int .i64 a0_1] 24 (0, 0))) ∧ Aside0 (w'.heap[gb2]? = some (.cells #[.slice A1_0 l1_0.length c1_0, .bool a1_1] 42 (0, 0))) ∧ Aside0 (w'.heap[gb3]? = some (.cells #[.slice B20 t17.length d20, .bool t18] 46 (0, 0))) ∧ Aside0 (w'.heap[gb4]? = some (.cells #[.slice B24 t58.length d24, .int .i64 t23] 27 (0, 0))) ∧ Aside0 (w'.heap[gb5]? = some (.cells #[.slice B28 t61.length d28, .bool t27] 46 (0, 0))) ∧ Aside0 (w'.heap[gb6]? = some (.cells #[.slice B36 t69.length d36, .bool t34] 46 (0, 0))) ∧ Aside0 (w'.heap[s.2.2.2.2.2.2]? = some (.cells #[.slice none 0 0, .bool false] 46 (0, 0))) ∧ Aside0 (Below w.heap.size w w') ∧ Aside0 (T_ ≤ w'.heap.size) ∧ Aside0 (w.heap.size ≤ s.2.2.2.2.2.2) ∧ Aside0 (hi53 ≤ s.2.2.2.2.2.2 ∧ s.2.2.2.2.2.2 < T_ ∧ hi53 ≤ lo75 ∧ lo75 ≤ hi75 ∧ hi75 ≤ T_ ∧ (s.2.2.2.2.2.2 < lo75 ∨ hi75 ≤ s.2.2.2.2.2.2) ∧ hi53 ≤ lo79 ∧ lo79 ≤ hi79 ∧ hi79 ≤ T_ ∧ (s.2.2.2.2.2.2 < lo79 ∨ hi79 ≤ s.2.2.2.2.2.2) ∧ hi53 ≤ lo82 ∧ lo82 ≤ hi82 ∧ hi82 ≤ T_ ∧ (s.2.2.2.2.2.2 < lo82 ∨ hi82 ≤ s.2.2.2.2.2.2) ∧ hi75 ≤ lo79 ∧ hi75 ≤ lo82 ∧ hi79 ≤ lo82)) ?_ ?_
    rotate_left
    · intro hJ3
      refine join_ (σ := Option Addr × Nat × Option Addr × Nat × Nat) 7 #[true, true, true, true, true, false, false, false, false, false, true, false, false] (fun s => [(115, .agg #[.slice s.1 t73.length s.2.1, .int .i64 t74]), (117, .agg #[.slice s.2.2.1 t77.length s.2.2.2.1, .bool t78]), (18, .pointer (some ⟨s.2.2.2.2, 0, none⟩))]) (fun s w' => ∃ lo75 hi75 lo79 hi79 T_ : Nat, Aside0 (Kd.R Kd.bool 4 w' w.heap.size (fun k_ => lo20 ≤ k_ ∧ k_ < hi20) (.slice B20 t17.length d20) t17) ∧ Aside0 (Kd.R Kd.bool 4 w' w.heap.size (fun k_ => lo36 ≤ k_ ∧ k_ < hi36) (.slice B36 t69.length d36) t69) ∧ Aside0 (Kd.R (Kd.int .i64) 3 w' w.heap.size (fun k_ => lo75 ≤ k_ ∧ k_ < hi75) (.slice s.1 t73.length s.2.1) t73) ∧ Aside0 (Kd.R Kd.bool 4 w' w.heap.size (fun k_ => lo79 ≤ k_ ∧ k_ < hi79) (.slice s.2.2.1 t77.length s.2.2.2.1) t77) ∧ Aside0 (w'.heap[gb1]? = some (.cells #[.slice A0_0 l0_0.length c0_0, .int .i64 a0_1] 24 (0, 0))) ∧ Aside0 (w'.heap[gb2]? = some (.cells #[.slice A1_0 l1_0.length c1_0, .bool a1_1] 42 (0, 0))) ∧ Aside0 (w'.heap[gb3]? = some (.cells #[.slice B20 t17.length d20, .bool t18] 46 (0, 0))) ∧ Aside0 (w'.heap[gb4]? = some (.cells #[.slice B24 t58.length d24, .int .i64 t23] 27 (0, 0))) ∧ Aside0 (w'.heap[gb5]? = some (.cells #[.slice B28 t61.length d28, .bool t27] 46 (0, 0))) ∧ Aside0 (w'.heap[gb6]? = some (.cells #[.slice B36 t69.length d36, .bool t34] 46 (0, 0))) ∧ Aside0 (w'.heap[s.2.2.2.2]? = some (.cells #[.slice none 0 0, .bool false] 46 (0, 0))) ∧ Aside0 (Below w.heap.size w w') ∧ Aside0 (T_ ≤ w'.heap.size) ∧ Aside0 (w.heap.size ≤ s.2.2.2.2) ∧ Aside0 (hi53 ≤ s.2.2.2.2 ∧ s.2.2.2.2 < T_ ∧ hi53 ≤ lo75 ∧ lo75 ≤ hi75 ∧ hi75 ≤ T_ ∧ (s.2.2.2.2 < lo75 ∨ hi75 ≤ s.2.2.2.2) ∧ hi53 ≤ lo79 ∧ lo79 ≤ hi79 ∧ hi79 ≤ T_ ∧ (s.2.2.2.2 < lo79 ∨ hi79 ≤ s.2.2.2.2) ∧ hi75 ≤ lo79)) ?_ ?_
      rotate_left
      · intro hJ2
        refine join_ (σ := Option Addr × Nat × Nat) 8 #[true, true, true, false, true, false, false, false, false, false, true, false, false] (fun s => [(115, .agg #[.slice s.1 t73.length s.2.1, .int .i64 t74]), (18, .pointer (some ⟨s.2.2, 0, none⟩))]) (fun s w' => ∃ lo75 hi75 T_ : Nat, Aside0 (Kd.R Kd.bool 4 w' w.heap.size (fun k_ => lo20 ≤ k_ ∧ k_ < hi20) (.slice B20 t17.length d20) t17) ∧ Aside0 (Kd.R Kd.bool 4 w' w.heap.size (fun k_ => lo36 ≤ k_ ∧ k_ < hi36) (.slice B36 t69.length d36) t69) ∧ Aside0 (Kd.R (Kd.int .i64) 3 w' w.heap.size (fun k_ => lo75 ≤ k_ ∧ k_ < hi75) (.slice s.1 t73.length s.2.1) t73) ∧ Aside0 (w'.heap[gb1]? = some (.cells #[.slice A0_0 l0_0.length c0_0, .int .i64 a0_1] 24 (0, 0))) ∧ Aside0 (w'.heap[gb2]? = some (.cells #[.slice A1_0 l1_0.length c1_0, .bool a1_1] 42 (0, 0))) ∧ Aside0 (w'.heap[gb3]? = some (.cells #[.slice B20 t17.length d20, .bool t18] 46 (0, 0))) ∧ Aside0 (w'.heap[gb4]? = some (.cells #[.slice B24 t58.length d24, .int .i64 t23] 27 (0, 0))) ∧ Aside0 (w'.heap[gb5]? = some (.cells #[.slice B28 t61.length d28, .bool t27] 46 (0, 0))) ∧ Aside0 (w'.heap[gb6]? = some (.cells #[.slice B36 t69.length d36, .bool t34] 46 (0, 0))) ∧ Aside0 (w'.heap[s.2.2]? = some (.cells #[.slice none 0 0, .bool false] 46 (0, 0))) ∧ Aside0 (Below w.heap.size w w') ∧ Aside0 (T_ ≤ w'.heap.size) ∧ Aside0 (w.heap.size ≤ s.2.2) ∧ Aside0 (hi53 ≤ s.2.2 ∧ s.2.2 < T_ ∧ hi53 ≤ lo75 ∧ lo75 ≤ hi75 ∧ hi75 ≤ T_ ∧ (s.2.2 < lo75 ∨ hi75 ≤ s.2.2))) ?_ ?_
        rotate_left
        · intro hJ1
          refine join_ (σ := Nat) 9 #[true, false, true, false, true, false, false, false, false, false, true, false, false] (fun s => [(18, .pointer (some ⟨s, 0, none⟩))]) (fun s w' => ∃ T_ : Nat, Aside0 (Kd.R Kd.bool 4 w' w.heap.size (fun k_ => lo20 ≤ k_ ∧ k_ < hi20) (.slice B20 t17.length d20) t17) ∧ Aside0 (Kd.R Kd.bool 4 w' w.heap.size (fun k_ => lo36 ≤ k_ ∧ k_ < hi36) (.slice B36 t69.length d36) t69) ∧ Aside0 (w'.heap[gb1]? = some (.cells #[.slice A0_0 l0_0.length c0_0, .int .i64 a0_1] 24 (0, 0))) ∧ Aside0 (w'.heap[gb2]? = some (.cells #[.slice A1_0 l1_0.length c1_0, .bool a1_1] 42 (0, 0))) ∧ Aside0 (w'.heap[gb3]? = some (.cells #[.slice B20 t17.length d20, .bool t18] 46 (0, 0))) ∧ Aside0 (w'.heap[gb4]? = some (.cells #[.slice B24 t58.length d24, .int .i64 t23] 27 (0, 0))) ∧ Aside0 (w'.heap[gb5]? = some (.cells #[.slice B28 t61.length d28, .bool t27] 46 (0, 0))) ∧ Aside0 (w'.heap[gb6]? = some (.cells #[.slice B36 t69.length d36, .bool t34] 46 (0, 0))) ∧ Aside0 (w'.heap[s]? = some (.cells #[.slice none 0 0, .bool false] 46 (0, 0))) ∧ Aside0 (Below w.heap.size w w') ∧ Aside0 (T_ ≤ w'.heap.size) ∧ Aside0 (w.heap.size ≤ s) ∧ Aside0 (hi53 ≤ s ∧ s < T_)) ?_ ?_
          rotate_left
          · intro hJ0
            refine two_ (i := 1) (j := 10) (Ni := some 115) (Nj := some 18) #[true, true, true, false, true, false, false, false, false, false, false, false, false] #[true, false, true, false, true, false, false, false, false, false, true, false, false] rfl rfl rfl rfl (by kernel_rfl) (by decide) (by decide) (fun K hK => ?_) (fun K hK => ?_)
            · skip
              refine goes_ Try.func17 (by kernel_rfl) rfl #[.agg #[.slice A0_0 l0_0.length c0_0, .int .i64 a0_1]] (by rfl) rfl rfl (by (try simp only [List.map_toArray, List.map_cons, List.map_nil]); first | done | rfl) ?_
              with_reducible refine (laws_toParty.calls k _ _ l0_0 a0_1 t73 t74 _ (Kd.C_below HR0_0.out HB.out) HC0_0.out A72.out).mono ?_
              rintro e W60 ⟨v75, rfl, ho75, hb⟩
              refine ⟨_, rfl, ?_⟩
              obtain ⟨B75, d75, e_⟩ := Kd.R_slice ho75
              subst e_
              obtain ⟨lo75, hi75, nn, ht_, hO75⟩ := laws_FnExactCrossBridge.newR ho75 HT.out (below_size HB.out) hb.size
              replace HO20 := Aside0.mk (Kd.R_below HO20.out hb)
              replace HO36 := Aside0.mk (Kd.R_below HO36.out hb)
              replace BK1 := Aside0.mk (blk_below (g := gb1) (o := .cells #[.slice A0_0 l0_0.length c0_0, .int .i64 a0_1] 24 (0, 0)) BK1.out hb)
              replace BK2 := Aside0.mk (blk_below (g := gb2) (o := .cells #[.slice A1_0 l1_0.length c1_0, .bool a1_1] 42 (0, 0)) BK2.out hb)
              replace BK3 := Aside0.mk (blk_below (g := gb3) (o := .cells #[.slice B20 t17.length d20, .bool t18] 46 (0, 0)) BK3.out hb)
              replace BK4 := Aside0.mk (blk_below (g := gb4) (o := .cells #[.slice B24 t58.length d24, .int .i64 t23] 27 (0, 0)) BK4.out hb)
              replace BK5 := Aside0.mk (blk_below (g := gb5) (o := .cells #[.slice B28 t61.length d28, .bool t27] 46 (0, 0)) BK5.out hb)
              replace BK6 := Aside0.mk (blk_below (g := gb6) (o := .cells #[.slice B36 t69.length d36, .bool t34] 46 (0, 0)) BK6.out hb)
              replace HB := Aside0.mk (below_step HB.out hb)
              replace HT := Aside0.mk (Nat.le_trans HT.out hb.size)
              have HO75 := Aside0.mk hO75
              replace HT := Aside0.mk ht_
              replace HN := Aside0.mk (And.intro nn HN.out)
              clear ho75 hO75 nn ht_
              clear hb
              refine hK.out _ _ ⟨(blk_cell BK1.out 0).trans rfl, (blk_cell BK1.out 1).trans rfl, (blk_cell BK2.out 0).trans rfl, (blk_cell BK2.out 1).trans rfl⟩ (fun hHeld => ?_)
              clear hK K
              refine norm_ (a' := ?_) ?_ ?_
              rotate_left
              · show Act.put _ (some 115) _ = _
                simp only [Act.put, List.setIfInBounds_toArray, List.set_cons_zero, List.set_cons_succ, i64_w, i32_w]
                rfl
              refine two_ (i := 3) (j := 10) (Ni := some 117) (Nj := some 18) #[true, true, true, true, true, false, false, false, false, false, false, false, false] #[true, true, true, false, true, false, false, false, false, false, true, false, false] rfl rfl rfl rfl (by kernel_rfl) (by decide) (by decide) (fun K hK => ?_) (fun K hK => ?_)
              · skip
                refine goes_ Try.func32 (by kernel_rfl) rfl #[.agg #[.slice A1_0 l1_0.length c1_0, .bool a1_1]] (by rfl) rfl rfl (by (try simp only [List.map_toArray, List.map_cons, List.map_nil]); first | done | rfl) ?_
                with_reducible refine (laws_toState.calls k _ _ l1_0 a1_1 t77 t78 _ (Kd.C_below HR1_0.out HB.out) HC1_0.out A76.out).mono ?_
                rintro e W61 ⟨v79, rfl, ho79, hb⟩
                refine ⟨_, rfl, ?_⟩
                obtain ⟨B79, d79, e_⟩ := Kd.R_slice ho79
                subst e_
                obtain ⟨lo79, hi79, nn, ht_, hO79⟩ := laws_FnExactCrossBridge.newR ho79 HT.out (below_size HB.out) hb.size
                replace HO20 := Aside0.mk (Kd.R_below HO20.out hb)
                replace HO36 := Aside0.mk (Kd.R_below HO36.out hb)
                replace HO75 := Aside0.mk (Kd.R_below HO75.out hb)
                replace BK1 := Aside0.mk (blk_below (g := gb1) (o := .cells #[.slice A0_0 l0_0.length c0_0, .int .i64 a0_1] 24 (0, 0)) BK1.out hb)
                replace BK2 := Aside0.mk (blk_below (g := gb2) (o := .cells #[.slice A1_0 l1_0.length c1_0, .bool a1_1] 42 (0, 0)) BK2.out hb)
                replace BK3 := Aside0.mk (blk_below (g := gb3) (o := .cells #[.slice B20 t17.length d20, .bool t18] 46 (0, 0)) BK3.out hb)
                replace BK4 := Aside0.mk (blk_below (g := gb4) (o := .cells #[.slice B24 t58.length d24, .int .i64 t23] 27 (0, 0)) BK4.out hb)
                replace BK5 := Aside0.mk (blk_below (g := gb5) (o := .cells #[.slice B28 t61.length d28, .bool t27] 46 (0, 0)) BK5.out hb)
                replace BK6 := Aside0.mk (blk_below (g := gb6) (o := .cells #[.slice B36 t69.length d36, .bool t34] 46 (0, 0)) BK6.out hb)
                replace HB := Aside0.mk (below_step HB.out hb)
                replace HT := Aside0.mk (Nat.le_trans HT.out hb.size)
                have HO79 := Aside0.mk hO79
                replace HT := Aside0.mk ht_
                replace HN := Aside0.mk (And.intro nn HN.out)
                clear ho79 hO79 nn ht_
                clear hb
                refine hK.out _ _ ⟨(blk_cell BK1.out 0).trans rfl, (blk_cell BK1.out 1).trans rfl, (blk_cell BK2.out 0).trans rfl, (blk_cell BK2.out 1).trans rfl⟩ (fun hHeld => ?_)
                clear hK K
                refine norm_ (a' := ?_) ?_ ?_
                rotate_left
                · show Act.put _ (some 117) _ = _
                  simp only [Act.put, List.setIfInBounds_toArray, List.set_cons_zero, List.set_cons_succ, i64_w, i32_w]
                  rfl
                refine two_ (i := 5) (j := 10) (Ni := some 119) (Nj := some 18) #[true, true, true, true, true, true, false, false, false, false, false, false, false] #[true, true, true, true, true, false, false, false, false, false, true, false, false] rfl rfl rfl rfl (by kernel_rfl) (by decide) (by decide) (fun K hK => ?_) (fun K hK => ?_)
                · skip
                  refine goes_ Try.func21 (by kernel_rfl) rfl #[.slice A2 l2.length c2] (by rfl) rfl rfl (by (try simp only [List.map_toArray, List.map_cons, List.map_nil]); first | done | rfl) ?_
                  with_reducible refine (laws_toIntS.calls k _ _ l2 t81 _ (Kd.C_below HR2.out HB.out) HC2.out A80.out).mono ?_
                  rintro e W62 ⟨v82, rfl, ho82, hb⟩
                  refine ⟨_, rfl, ?_⟩
                  obtain ⟨B82, d82, e_⟩ := Kd.R_slice ho82
                  subst e_
                  obtain ⟨lo82, hi82, nn, ht_, hO82⟩ := laws_FnExactCrossBridge.newR ho82 HT.out (below_size HB.out) hb.size
                  replace HO20 := Aside0.mk (Kd.R_below HO20.out hb)
                  replace HO36 := Aside0.mk (Kd.R_below HO36.out hb)
                  replace HO75 := Aside0.mk (Kd.R_below HO75.out hb)
                  replace HO79 := Aside0.mk (Kd.R_below HO79.out hb)
                  replace BK1 := Aside0.mk (blk_below (g := gb1) (o := .cells #[.slice A0_0 l0_0.length c0_0, .int .i64 a0_1] 24 (0, 0)) BK1.out hb)
                  replace BK2 := Aside0.mk (blk_below (g := gb2) (o := .cells #[.slice A1_0 l1_0.length c1_0, .bool a1_1] 42 (0, 0)) BK2.out hb)
                  replace BK3 := Aside0.mk (blk_below (g := gb3) (o := .cells #[.slice B20 t17.length d20, .bool t18] 46 (0, 0)) BK3.out hb)
                  replace BK4 := Aside0.mk (blk_below (g := gb4) (o := .cells #[.slice B24 t58.length d24, .int .i64 t23] 27 (0, 0)) BK4.out hb)
                  replace BK5 := Aside0.mk (blk_below (g := gb5) (o := .cells #[.slice B28 t61.length d28, .bool t27] 46 (0, 0)) BK5.out hb)
                  replace BK6 := Aside0.mk (blk_below (g := gb6) (o := .cells #[.slice B36 t69.length d36, .bool t34] 46 (0, 0)) BK6.out hb)
                  replace HB := Aside0.mk (below_step HB.out hb)
                  replace HT := Aside0.mk (Nat.le_trans HT.out hb.size)
                  have HO82 := Aside0.mk hO82
                  replace HT := Aside0.mk ht_
                  replace HN := Aside0.mk (And.intro nn HN.out)
                  clear ho82 hO82 nn ht_
                  clear hb
                  refine hK.out _ _ ⟨(blk_cell BK1.out 0).trans rfl, (blk_cell BK1.out 1).trans rfl, (blk_cell BK2.out 0).trans rfl, (blk_cell BK2.out 1).trans rfl⟩ (fun hHeld => ?_)
                  clear hK K
                  refine norm_ (a' := ?_) ?_ ?_
                  rotate_left
                  · show Act.put _ (some 119) _ = _
                    simp only [Act.put, List.setIfInBounds_toArray, List.set_cons_zero, List.set_cons_succ, i64_w, i32_w]
                    rfl
                  refine two_ (i := 6) (j := 10) (Ni := some 120) (Nj := some 18) #[true, true, true, true, true, true, true, false, false, false, false, false, false] #[true, true, true, true, true, true, false, false, false, false, true, false, false] rfl rfl rfl rfl (by kernel_rfl) (by decide) (by decide) (fun K hK => ?_) (fun K hK => ?_)
                  · skip
                    refine goes_ Try.func44 (by kernel_rfl) rfl #[.agg #[.slice B75 t73.length d75, .int .i64 t74], .agg #[.slice B79 t77.length d79, .bool t78], .slice B82 t81.length d82] (by rfl) rfl rfl (by (try simp only [List.map_toArray, List.map_cons, List.map_nil]); first | done | rfl) ?_
                    with_reducible refine (impl_CrossBridge.calls k _ _ t73 t74 _ _ t77 t78 _ _ t81 t84 t85 t86 _ (Kd.R_reads' HO75.out).2.2 (Kd.R_reads' HO75.out).2.1 (Kd.R_reads' HO79.out).2.2 (Kd.R_reads' HO79.out).2.1 (Kd.R_reads' HO82.out).2.2 (Kd.R_reads' HO82.out).2.1 A83.out).mono ?_
                    rintro e W63 ⟨v87, rfl, ho87, hb⟩
                    refine ⟨_, rfl, ?_⟩
                    obtain ⟨B87, d87, e_⟩ := Kd.R_slice ho87
                    subst e_
                    obtain ⟨lo87, hi87, nn, ht_, hO87⟩ := laws_FnExactCrossBridge.newR ho87 HT.out (below_size HB.out) hb.size
                    replace HO20 := Aside0.mk (Kd.R_below HO20.out hb)
                    replace HO36 := Aside0.mk (Kd.R_below HO36.out hb)
                    replace HO75 := Aside0.mk (Kd.R_below HO75.out hb)
                    replace HO79 := Aside0.mk (Kd.R_below HO79.out hb)
                    replace HO82 := Aside0.mk (Kd.R_below HO82.out hb)
                    replace BK1 := Aside0.mk (blk_below (g := gb1) (o := .cells #[.slice A0_0 l0_0.length c0_0, .int .i64 a0_1] 24 (0, 0)) BK1.out hb)
                    replace BK2 := Aside0.mk (blk_below (g := gb2) (o := .cells #[.slice A1_0 l1_0.length c1_0, .bool a1_1] 42 (0, 0)) BK2.out hb)
                    replace BK3 := Aside0.mk (blk_below (g := gb3) (o := .cells #[.slice B20 t17.length d20, .bool t18] 46 (0, 0)) BK3.out hb)
                    replace BK4 := Aside0.mk (blk_below (g := gb4) (o := .cells #[.slice B24 t58.length d24, .int .i64 t23] 27 (0, 0)) BK4.out hb)
                    replace BK5 := Aside0.mk (blk_below (g := gb5) (o := .cells #[.slice B28 t61.length d28, .bool t27] 46 (0, 0)) BK5.out hb)
                    replace BK6 := Aside0.mk (blk_below (g := gb6) (o := .cells #[.slice B36 t69.length d36, .bool t34] 46 (0, 0)) BK6.out hb)
                    replace HB := Aside0.mk (below_step HB.out hb)
                    replace HT := Aside0.mk (Nat.le_trans HT.out hb.size)
                    have HO87 := Aside0.mk hO87
                    replace HT := Aside0.mk ht_
                    replace HN := Aside0.mk (And.intro nn HN.out)
                    clear ho87 hO87 nn ht_
                    clear hb
                    clear HO75 HO79 HO82
                    refine hK.out _ _ ⟨(blk_cell BK1.out 0).trans rfl, (blk_cell BK1.out 1).trans rfl, (blk_cell BK2.out 0).trans rfl, (blk_cell BK2.out 1).trans rfl⟩ (fun hHeld => ?_)
                    clear hK K
                    refine norm_ (a' := ?_) ?_ ?_
                    rotate_left
                    · show Act.put _ (some 120) _ = _
                      simp only [Act.put, List.setIfInBounds_toArray, List.set_cons_zero, List.set_cons_succ, i64_w, i32_w]
                      rfl
                    refine pure_ (i := 7) (N := some 113) (v := ?_) (a' := ?_) #[true, true, true, true, true, true, true, true, false, false, false, false, false] rfl rfl (by kernel_rfl) (fun _ _ _ h => h) (Or.inl ⟨by rfl, ?_⟩) ?_ ?_
                    rotate_left
                    · intro w'
                      go_simp
                      with_reducible rfl
                    rotate_left
                    · simp only [Act.put, List.setIfInBounds_toArray, List.set_cons_zero, List.set_cons_succ, i64_w, i32_w]
                      rfl
                    refine pure_ (i := 8) (N := some 121) (v := ?_) (a' := ?_) #[true, true, true, true, true, true, true, true, true, false, false, false, false] rfl rfl (by kernel_rfl) (fun _ _ _ h => h) (Or.inl ⟨by rfl, ?_⟩) ?_ ?_
                    rotate_left
                    · intro w'
                      go_simp
                      with_reducible rfl
                    rotate_left
                    · simp only [Act.put, List.setIfInBounds_toArray, List.set_cons_zero, List.set_cons_succ, i64_w, i32_w]
                      rfl
                    refine pure_ (i := 9) (N := some 122) (v := ?_) (a' := ?_) #[true, true, true, true, true, true, true, true, true, true, false, false, false] rfl rfl (by kernel_rfl) (fun _ _ _ h => h) (Or.inl ⟨by rfl, ?_⟩) ?_ ?_
                    rotate_left
                    · intro w'
                      go_simp
                      with_reducible rfl
                    rotate_left
                    · simp only [Act.put, List.setIfInBounds_toArray, List.set_cons_zero, List.set_cons_succ, i64_w, i32_w]
                      rfl
                    refine one_ (i := 10) (N := some 18) #[true, true, true, true, true, true, true, true, true, true, true, false, false] rfl rfl (by kernel_rfl) (by decide) (fun K hK => ?_)
                    refine box_step (by rfl) (N := 18) rfl (cs := #[.slice none 0 0, .bool false]) (t := 46) ?hr ?_
                    (case hr => first | (go_simp; done) | (go_simp; rfl))
                    intro gb7 hg W64 hbox hb
                    have nn : hi87 ≤ gb7 := Nat.le_trans HT.out (Nat.le_of_eq hg.symm)
                    have GE7 := Aside0.mk (Nat.le_trans (below_size HB.out) (Nat.le_of_eq hg.symm))
                    replace HO20 := Aside0.mk (Kd.R_below HO20.out hb)
                    replace HO36 := Aside0.mk (Kd.R_below HO36.out hb)
                    replace HO87 := Aside0.mk (Kd.R_below HO87.out hb)
                    replace BK1 := Aside0.mk (blk_below (g := gb1) (o := .cells #[.slice A0_0 l0_0.length c0_0, .int .i64 a0_1] 24 (0, 0)) BK1.out hb)
                    replace BK2 := Aside0.mk (blk_below (g := gb2) (o := .cells #[.slice A1_0 l1_0.length c1_0, .bool a1_1] 42 (0, 0)) BK2.out hb)
                    replace BK3 := Aside0.mk (blk_below (g := gb3) (o := .cells #[.slice B20 t17.length d20, .bool t18] 46 (0, 0)) BK3.out hb)
                    replace BK4 := Aside0.mk (blk_below (g := gb4) (o := .cells #[.slice B24 t58.length d24, .int .i64 t23] 27 (0, 0)) BK4.out hb)
                    replace BK5 := Aside0.mk (blk_below (g := gb5) (o := .cells #[.slice B28 t61.length d28, .bool t27] 46 (0, 0)) BK5.out hb)
                    replace BK6 := Aside0.mk (blk_below (g := gb6) (o := .cells #[.slice B36 t69.length d36, .bool t34] 46 (0, 0)) BK6.out hb)
                    replace HB := Aside0.mk (below_step HB.out hb)
                    replace HT := Aside0.mk (Nat.le_trans HT.out hb.size)
                    have BK7 := Aside0.mk hbox
                    replace HT := Aside0.mk (Nat.succ_le_of_lt (blk_lt hbox))
                    replace HN := Aside0.mk (And.intro nn HN.out)
                    clear hg hbox hb nn
                    refine hK.out _ _ ⟨(blk_cell BK1.out 0).trans rfl, (blk_cell BK1.out 1).trans rfl, (blk_cell BK2.out 0).trans rfl, (blk_cell BK2.out 1).trans rfl⟩ (fun hHeld => ?_)
                    clear hK K
                    refine norm_ (a' := ?_) ?_ ?_
                    rotate_left
                    · show Act.put _ (some 18) _ = _
                      simp only [Act.put, List.setIfInBounds_toArray, List.set_cons_zero, List.set_cons_succ, i64_w, i32_w]
                      rfl
                    exact norm_ (by first | (simp only [putAll, Act.put, List.setIfInBounds_toArray, List.set_cons_zero, List.set_cons_succ]; done) | (simp only [putAll, Act.put, List.setIfInBounds_toArray, List.set_cons_zero, List.set_cons_succ]; rfl)) (hJ4 (B75, d75, B79, d79, B82, d82, B87, d87, gb7) _ ⟨lo87, hi87, gb7.succ, HO20, HO36, HO87, BK1, BK2, BK3, BK4, BK5, BK6, BK7, HB, HT, GE7, ⟨by have hn_ := HN.out; (try dsimp only); omega⟩⟩)
                  · skip
                    refine box_step (by rfl) (N := 18) rfl (cs := #[.slice none 0 0, .bool false]) (t := 46) ?hr ?_
                    (case hr => first | (go_simp; done) | (go_simp; rfl))
                    intro gb7 hg W65 hbox hb
                    have nn : hi82 ≤ gb7 := Nat.le_trans HT.out (Nat.le_of_eq hg.symm)
                    have GE7 := Aside0.mk (Nat.le_trans (below_size HB.out) (Nat.le_of_eq hg.symm))
                    replace HO20 := Aside0.mk (Kd.R_below HO20.out hb)
                    replace HO36 := Aside0.mk (Kd.R_below HO36.out hb)
                    replace HO75 := Aside0.mk (Kd.R_below HO75.out hb)
                    replace HO79 := Aside0.mk (Kd.R_below HO79.out hb)
                    replace HO82 := Aside0.mk (Kd.R_below HO82.out hb)
                    replace BK1 := Aside0.mk (blk_below (g := gb1) (o := .cells #[.slice A0_0 l0_0.length c0_0, .int .i64 a0_1] 24 (0, 0)) BK1.out hb)
                    replace BK2 := Aside0.mk (blk_below (g := gb2) (o := .cells #[.slice A1_0 l1_0.length c1_0, .bool a1_1] 42 (0, 0)) BK2.out hb)
                    replace BK3 := Aside0.mk (blk_below (g := gb3) (o := .cells #[.slice B20 t17.length d20, .bool t18] 46 (0, 0)) BK3.out hb)
                    replace BK4 := Aside0.mk (blk_below (g := gb4) (o := .cells #[.slice B24 t58.length d24, .int .i64 t23] 27 (0, 0)) BK4.out hb)
                    replace BK5 := Aside0.mk (blk_below (g := gb5) (o := .cells #[.slice B28 t61.length d28, .bool t27] 46 (0, 0)) BK5.out hb)
                    replace BK6 := Aside0.mk (blk_below (g := gb6) (o := .cells #[.slice B36 t69.length d36, .bool t34] 46 (0, 0)) BK6.out hb)
                    replace HB := Aside0.mk (below_step HB.out hb)
                    replace HT := Aside0.mk (Nat.le_trans HT.out hb.size)
                    have BK7 := Aside0.mk hbox
                    replace HT := Aside0.mk (Nat.succ_le_of_lt (blk_lt hbox))
                    replace HN := Aside0.mk (And.intro nn HN.out)
                    clear hg hbox hb nn
                    refine hK.out _ _ ⟨(blk_cell BK1.out 0).trans rfl, (blk_cell BK1.out 1).trans rfl, (blk_cell BK2.out 0).trans rfl, (blk_cell BK2.out 1).trans rfl⟩ (fun hHeld => ?_)
                    clear hK K
                    refine norm_ (a' := ?_) ?_ ?_
                    rotate_left
                    · show Act.put _ (some 18) _ = _
                      simp only [Act.put, List.setIfInBounds_toArray, List.set_cons_zero, List.set_cons_succ, i64_w, i32_w]
                      rfl
                    exact norm_ (by first | (simp only [putAll, Act.put, List.setIfInBounds_toArray, List.set_cons_zero, List.set_cons_succ]; done) | (simp only [putAll, Act.put, List.setIfInBounds_toArray, List.set_cons_zero, List.set_cons_succ]; rfl)) (hJ3 (B75, d75, B79, d79, B82, d82, gb7) _ ⟨lo75, hi75, lo79, hi79, lo82, hi82, gb7.succ, HO20, HO36, HO75, HO79, HO82, BK1, BK2, BK3, BK4, BK5, BK6, BK7, HB, HT, GE7, ⟨by have hn_ := HN.out; (try dsimp only); omega⟩⟩)
                · skip
                  refine box_step (by rfl) (N := 18) rfl (cs := #[.slice none 0 0, .bool false]) (t := 46) ?hr ?_
                  (case hr => first | (go_simp; done) | (go_simp; rfl))
                  intro gb7 hg W66 hbox hb
                  have nn : hi79 ≤ gb7 := Nat.le_trans HT.out (Nat.le_of_eq hg.symm)
                  have GE7 := Aside0.mk (Nat.le_trans (below_size HB.out) (Nat.le_of_eq hg.symm))
                  replace HO20 := Aside0.mk (Kd.R_below HO20.out hb)
                  replace HO36 := Aside0.mk (Kd.R_below HO36.out hb)
                  replace HO75 := Aside0.mk (Kd.R_below HO75.out hb)
                  replace HO79 := Aside0.mk (Kd.R_below HO79.out hb)
                  replace BK1 := Aside0.mk (blk_below (g := gb1) (o := .cells #[.slice A0_0 l0_0.length c0_0, .int .i64 a0_1] 24 (0, 0)) BK1.out hb)
                  replace BK2 := Aside0.mk (blk_below (g := gb2) (o := .cells #[.slice A1_0 l1_0.length c1_0, .bool a1_1] 42 (0, 0)) BK2.out hb)
                  replace BK3 := Aside0.mk (blk_below (g := gb3) (o := .cells #[.slice B20 t17.length d20, .bool t18] 46 (0, 0)) BK3.out hb)
                  replace BK4 := Aside0.mk (blk_below (g := gb4) (o := .cells #[.slice B24 t58.length d24, .int .i64 t23] 27 (0, 0)) BK4.out hb)
                  replace BK5 := Aside0.mk (blk_below (g := gb5) (o := .cells #[.slice B28 t61.length d28, .bool t27] 46 (0, 0)) BK5.out hb)
                  replace BK6 := Aside0.mk (blk_below (g := gb6) (o := .cells #[.slice B36 t69.length d36, .bool t34] 46 (0, 0)) BK6.out hb)
                  replace HB := Aside0.mk (below_step HB.out hb)
                  replace HT := Aside0.mk (Nat.le_trans HT.out hb.size)
                  have BK7 := Aside0.mk hbox
                  replace HT := Aside0.mk (Nat.succ_le_of_lt (blk_lt hbox))
                  replace HN := Aside0.mk (And.intro nn HN.out)
                  clear hg hbox hb nn
                  refine hK.out _ _ ⟨(blk_cell BK1.out 0).trans rfl, (blk_cell BK1.out 1).trans rfl, (blk_cell BK2.out 0).trans rfl, (blk_cell BK2.out 1).trans rfl⟩ (fun hHeld => ?_)
                  clear hK K
                  refine norm_ (a' := ?_) ?_ ?_
                  rotate_left
                  · show Act.put _ (some 18) _ = _
                    simp only [Act.put, List.setIfInBounds_toArray, List.set_cons_zero, List.set_cons_succ, i64_w, i32_w]
                    rfl
                  exact norm_ (by first | (simp only [putAll, Act.put, List.setIfInBounds_toArray, List.set_cons_zero, List.set_cons_succ]; done) | (simp only [putAll, Act.put, List.setIfInBounds_toArray, List.set_cons_zero, List.set_cons_succ]; rfl)) (hJ2 (B75, d75, B79, d79, gb7) _ ⟨lo75, hi75, lo79, hi79, gb7.succ, HO20, HO36, HO75, HO79, BK1, BK2, BK3, BK4, BK5, BK6, BK7, HB, HT, GE7, ⟨by have hn_ := HN.out; (try dsimp only); omega⟩⟩)
              · skip
                refine box_step (by rfl) (N := 18) rfl (cs := #[.slice none 0 0, .bool false]) (t := 46) ?hr ?_
                (case hr => first | (go_simp; done) | (go_simp; rfl))
                intro gb7 hg W67 hbox hb
                have nn : hi75 ≤ gb7 := Nat.le_trans HT.out (Nat.le_of_eq hg.symm)
                have GE7 := Aside0.mk (Nat.le_trans (below_size HB.out) (Nat.le_of_eq hg.symm))
                replace HO20 := Aside0.mk (Kd.R_below HO20.out hb)
                replace HO36 := Aside0.mk (Kd.R_below HO36.out hb)
                replace HO75 := Aside0.mk (Kd.R_below HO75.out hb)
                replace BK1 := Aside0.mk (blk_below (g := gb1) (o := .cells #[.slice A0_0 l0_0.length c0_0, .int .i64 a0_1] 24 (0, 0)) BK1.out hb)
                replace BK2 := Aside0.mk (blk_below (g := gb2) (o := .cells #[.slice A1_0 l1_0.length c1_0, .bool a1_1] 42 (0, 0)) BK2.out hb)
                replace BK3 := Aside0.mk (blk_below (g := gb3) (o := .cells #[.slice B20 t17.length d20, .bool t18] 46 (0, 0)) BK3.out hb)
                replace BK4 := Aside0.mk (blk_below (g := gb4) (o := .cells #[.slice B24 t58.length d24, .int .i64 t23] 27 (0, 0)) BK4.out hb)
                replace BK5 := Aside0.mk (blk_below (g := gb5) (o := .cells #[.slice B28 t61.length d28, .bool t27] 46 (0, 0)) BK5.out hb)
                replace BK6 := Aside0.mk (blk_below (g := gb6) (o := .cells #[.slice B36 t69.length d36, .bool t34] 46 (0, 0)) BK6.out hb)
                replace HB := Aside0.mk (below_step HB.out hb)
                replace HT := Aside0.mk (Nat.le_trans HT.out hb.size)
                have BK7 := Aside0.mk hbox
                replace HT := Aside0.mk (Nat.succ_le_of_lt (blk_lt hbox))
                replace HN := Aside0.mk (And.intro nn HN.out)
                clear hg hbox hb nn
                refine hK.out _ _ ⟨(blk_cell BK1.out 0).trans rfl, (blk_cell BK1.out 1).trans rfl, (blk_cell BK2.out 0).trans rfl, (blk_cell BK2.out 1).trans rfl⟩ (fun hHeld => ?_)
                clear hK K
                refine norm_ (a' := ?_) ?_ ?_
                rotate_left
                · show Act.put _ (some 18) _ = _
                  simp only [Act.put, List.setIfInBounds_toArray, List.set_cons_zero, List.set_cons_succ, i64_w, i32_w]
                  rfl
                exact norm_ (by first | (simp only [putAll, Act.put, List.setIfInBounds_toArray, List.set_cons_zero, List.set_cons_succ]; done) | (simp only [putAll, Act.put, List.setIfInBounds_toArray, List.set_cons_zero, List.set_cons_succ]; rfl)) (hJ1 (B75, d75, gb7) _ ⟨lo75, hi75, gb7.succ, HO20, HO36, HO75, BK1, BK2, BK3, BK4, BK5, BK6, BK7, HB, HT, GE7, ⟨by have hn_ := HN.out; (try dsimp only); omega⟩⟩)
            · skip
              refine box_step (by rfl) (N := 18) rfl (cs := #[.slice none 0 0, .bool false]) (t := 46) ?hr ?_
              (case hr => first | (go_simp; done) | (go_simp; rfl))
              intro gb7 hg W68 hbox hb
              have nn : hi53 ≤ gb7 := Nat.le_trans HT.out (Nat.le_of_eq hg.symm)
              have GE7 := Aside0.mk (Nat.le_trans (below_size HB.out) (Nat.le_of_eq hg.symm))
              replace HO20 := Aside0.mk (Kd.R_below HO20.out hb)
              replace HO36 := Aside0.mk (Kd.R_below HO36.out hb)
              replace BK1 := Aside0.mk (blk_below (g := gb1) (o := .cells #[.slice A0_0 l0_0.length c0_0, .int .i64 a0_1] 24 (0, 0)) BK1.out hb)
              replace BK2 := Aside0.mk (blk_below (g := gb2) (o := .cells #[.slice A1_0 l1_0.length c1_0, .bool a1_1] 42 (0, 0)) BK2.out hb)
              replace BK3 := Aside0.mk (blk_below (g := gb3) (o := .cells #[.slice B20 t17.length d20, .bool t18] 46 (0, 0)) BK3.out hb)
              replace BK4 := Aside0.mk (blk_below (g := gb4) (o := .cells #[.slice B24 t58.length d24, .int .i64 t23] 27 (0, 0)) BK4.out hb)
              replace BK5 := Aside0.mk (blk_below (g := gb5) (o := .cells #[.slice B28 t61.length d28, .bool t27] 46 (0, 0)) BK5.out hb)
              replace BK6 := Aside0.mk (blk_below (g := gb6) (o := .cells #[.slice B36 t69.length d36, .bool t34] 46 (0, 0)) BK6.out hb)
              replace HB := Aside0.mk (below_step HB.out hb)
              replace HT := Aside0.mk (Nat.le_trans HT.out hb.size)
              have BK7 := Aside0.mk hbox
              replace HT := Aside0.mk (Nat.succ_le_of_lt (blk_lt hbox))
              replace HN := Aside0.mk (And.intro nn HN.out)
              clear hg hbox hb nn
              refine hK.out _ _ ⟨(blk_cell BK1.out 0).trans rfl, (blk_cell BK1.out 1).trans rfl, (blk_cell BK2.out 0).trans rfl, (blk_cell BK2.out 1).trans rfl⟩ (fun hHeld => ?_)
              clear hK K
              refine norm_ (a' := ?_) ?_ ?_
              rotate_left
              · show Act.put _ (some 18) _ = _
                simp only [Act.put, List.setIfInBounds_toArray, List.set_cons_zero, List.set_cons_succ, i64_w, i32_w]
                rfl
              exact norm_ (by first | (simp only [putAll, Act.put, List.setIfInBounds_toArray, List.set_cons_zero, List.set_cons_succ]; done) | (simp only [putAll, Act.put, List.setIfInBounds_toArray, List.set_cons_zero, List.set_cons_succ]; rfl)) (hJ0 (gb7) _ ⟨gb7.succ, HO20, HO36, BK1, BK2, BK3, BK4, BK5, BK6, BK7, HB, HT, GE7, ⟨by have hn_ := HN.out; (try dsimp only); omega⟩⟩)
          · skip
            clear HO20 HO36 BK1 BK2 BK3 BK4 BK5 BK6 HB HT
            (try clear hHeld)
            intro s_ W69 hF
            obtain ⟨gb7, hs_⟩ : ∃ x, x = s_ := ⟨_, rfl⟩
            subst hs_
            (try dsimp only at hF)
            obtain ⟨T0_, HO20, HO36, BK1, BK2, BK3, BK4, BK5, BK6, BK7, HB, HT, GE7, nn_⟩ := hF
            replace HN := Aside0.mk (And.intro nn_.out HN.out)
            clear nn_
            refine norm_ (a' := ?_) ?_ ?_
            rotate_left
            · simp only [putAll, Act.put, List.setIfInBounds_toArray, List.set_cons_zero, List.set_cons_succ]
              rfl
            refine one_ (i := 1) (N := some 115) #[true, true, true, false, true, false, false, false, false, false, true, false, false] rfl rfl (by kernel_rfl) (by decide) (fun K hK => ?_)
            refine goes_ Try.func17 (by kernel_rfl) rfl #[.agg #[.slice A0_0 l0_0.length c0_0, .int .i64 a0_1]] (by rfl) rfl rfl (by (try simp only [List.map_toArray, List.map_cons, List.map_nil]); first | done | rfl) ?_
            with_reducible refine (laws_toParty.calls k _ _ l0_0 a0_1 t73 t74 _ (Kd.C_below HR0_0.out HB.out) HC0_0.out A72.out).mono ?_
            rintro e W70 ⟨v75, rfl, ho75, hb⟩
            refine ⟨_, rfl, ?_⟩
            obtain ⟨B75, d75, e_⟩ := Kd.R_slice ho75
            subst e_
            obtain ⟨lo75, hi75, nn, ht_, hO75⟩ := laws_FnExactCrossBridge.newR ho75 HT.out (below_size HB.out) hb.size
            replace HO20 := Aside0.mk (Kd.R_below HO20.out hb)
            replace HO36 := Aside0.mk (Kd.R_below HO36.out hb)
            replace BK1 := Aside0.mk (blk_below (g := gb1) (o := .cells #[.slice A0_0 l0_0.length c0_0, .int .i64 a0_1] 24 (0, 0)) BK1.out hb)
            replace BK2 := Aside0.mk (blk_below (g := gb2) (o := .cells #[.slice A1_0 l1_0.length c1_0, .bool a1_1] 42 (0, 0)) BK2.out hb)
            replace BK3 := Aside0.mk (blk_below (g := gb3) (o := .cells #[.slice B20 t17.length d20, .bool t18] 46 (0, 0)) BK3.out hb)
            replace BK4 := Aside0.mk (blk_below (g := gb4) (o := .cells #[.slice B24 t58.length d24, .int .i64 t23] 27 (0, 0)) BK4.out hb)
            replace BK5 := Aside0.mk (blk_below (g := gb5) (o := .cells #[.slice B28 t61.length d28, .bool t27] 46 (0, 0)) BK5.out hb)
            replace BK6 := Aside0.mk (blk_below (g := gb6) (o := .cells #[.slice B36 t69.length d36, .bool t34] 46 (0, 0)) BK6.out hb)
            replace BK7 := Aside0.mk (blk_below (g := gb7) (o := .cells #[.slice none 0 0, .bool false] 46 (0, 0)) BK7.out hb)
            replace HB := Aside0.mk (below_step HB.out hb)
            replace HT := Aside0.mk (Nat.le_trans HT.out hb.size)
            have HO75 := Aside0.mk hO75
            replace HT := Aside0.mk ht_
            replace HN := Aside0.mk (And.intro nn HN.out)
            clear ho75 hO75 nn ht_
            clear hb
            refine hK.out _ _ ⟨(blk_cell BK1.out 0).trans rfl, (blk_cell BK1.out 1).trans rfl, (blk_cell BK2.out 0).trans rfl, (blk_cell BK2.out 1).trans rfl⟩ (fun hHeld => ?_)
            clear hK K
            refine norm_ (a' := ?_) ?_ ?_
            rotate_left
            · show Act.put _ (some 115) _ = _
              simp only [Act.put, List.setIfInBounds_toArray, List.set_cons_zero, List.set_cons_succ, i64_w, i32_w]
              rfl
            exact norm_ (by first | (simp only [putAll, Act.put, List.setIfInBounds_toArray, List.set_cons_zero, List.set_cons_succ]; done) | (simp only [putAll, Act.put, List.setIfInBounds_toArray, List.set_cons_zero, List.set_cons_succ]; rfl)) (hJ1 (B75, d75, gb7) _ ⟨lo75, hi75, hi75, HO20, HO36, HO75, BK1, BK2, BK3, BK4, BK5, BK6, BK7, HB, HT, GE7, ⟨by have hn_ := HN.out; (try dsimp only); omega⟩⟩)
        · skip
          clear HO20 HO36 BK1 BK2 BK3 BK4 BK5 BK6 HB HT
          (try clear hHeld)
          intro s_ W71 hF
          obtain ⟨B75, d75, gb7⟩ := s_
          (try dsimp only at hF)
          obtain ⟨lo75, hi75, T1_, HO20, HO36, HO75, BK1, BK2, BK3, BK4, BK5, BK6, BK7, HB, HT, GE7, nn_⟩ := hF
          replace HN := Aside0.mk (And.intro nn_.out HN.out)
          clear nn_
          refine norm_ (a' := ?_) ?_ ?_
          rotate_left
          · simp only [putAll, Act.put, List.setIfInBounds_toArray, List.set_cons_zero, List.set_cons_succ]
            rfl
          refine one_ (i := 3) (N := some 117) #[true, true, true, true, true, false, false, false, false, false, true, false, false] rfl rfl (by kernel_rfl) (by decide) (fun K hK => ?_)
          refine goes_ Try.func32 (by kernel_rfl) rfl #[.agg #[.slice A1_0 l1_0.length c1_0, .bool a1_1]] (by rfl) rfl rfl (by (try simp only [List.map_toArray, List.map_cons, List.map_nil]); first | done | rfl) ?_
          with_reducible refine (laws_toState.calls k _ _ l1_0 a1_1 t77 t78 _ (Kd.C_below HR1_0.out HB.out) HC1_0.out A76.out).mono ?_
          rintro e W72 ⟨v79, rfl, ho79, hb⟩
          refine ⟨_, rfl, ?_⟩
          obtain ⟨B79, d79, e_⟩ := Kd.R_slice ho79
          subst e_
          obtain ⟨lo79, hi79, nn, ht_, hO79⟩ := laws_FnExactCrossBridge.newR ho79 HT.out (below_size HB.out) hb.size
          replace HO20 := Aside0.mk (Kd.R_below HO20.out hb)
          replace HO36 := Aside0.mk (Kd.R_below HO36.out hb)
          replace HO75 := Aside0.mk (Kd.R_below HO75.out hb)
          replace BK1 := Aside0.mk (blk_below (g := gb1) (o := .cells #[.slice A0_0 l0_0.length c0_0, .int .i64 a0_1] 24 (0, 0)) BK1.out hb)
          replace BK2 := Aside0.mk (blk_below (g := gb2) (o := .cells #[.slice A1_0 l1_0.length c1_0, .bool a1_1] 42 (0, 0)) BK2.out hb)
          replace BK3 := Aside0.mk (blk_below (g := gb3) (o := .cells #[.slice B20 t17.length d20, .bool t18] 46 (0, 0)) BK3.out hb)
          replace BK4 := Aside0.mk (blk_below (g := gb4) (o := .cells #[.slice B24 t58.length d24, .int .i64 t23] 27 (0, 0)) BK4.out hb)
          replace BK5 := Aside0.mk (blk_below (g := gb5) (o := .cells #[.slice B28 t61.length d28, .bool t27] 46 (0, 0)) BK5.out hb)
          replace BK6 := Aside0.mk (blk_below (g := gb6) (o := .cells #[.slice B36 t69.length d36, .bool t34] 46 (0, 0)) BK6.out hb)
          replace BK7 := Aside0.mk (blk_below (g := gb7) (o := .cells #[.slice none 0 0, .bool false] 46 (0, 0)) BK7.out hb)
          replace HB := Aside0.mk (below_step HB.out hb)
          replace HT := Aside0.mk (Nat.le_trans HT.out hb.size)
          have HO79 := Aside0.mk hO79
          replace HT := Aside0.mk ht_
          replace HN := Aside0.mk (And.intro nn HN.out)
          clear ho79 hO79 nn ht_
          clear hb
          refine hK.out _ _ ⟨(blk_cell BK1.out 0).trans rfl, (blk_cell BK1.out 1).trans rfl, (blk_cell BK2.out 0).trans rfl, (blk_cell BK2.out 1).trans rfl⟩ (fun hHeld => ?_)
          clear hK K
          refine norm_ (a' := ?_) ?_ ?_
          rotate_left
          · show Act.put _ (some 117) _ = _
            simp only [Act.put, List.setIfInBounds_toArray, List.set_cons_zero, List.set_cons_succ, i64_w, i32_w]
            rfl
          exact norm_ (by first | (simp only [putAll, Act.put, List.setIfInBounds_toArray, List.set_cons_zero, List.set_cons_succ]; done) | (simp only [putAll, Act.put, List.setIfInBounds_toArray, List.set_cons_zero, List.set_cons_succ]; rfl)) (hJ2 (B75, d75, B79, d79, gb7) _ ⟨lo75, hi75, lo79, hi79, hi79, HO20, HO36, HO75, HO79, BK1, BK2, BK3, BK4, BK5, BK6, BK7, HB, HT, GE7, ⟨by have hn_ := HN.out; (try dsimp only); omega⟩⟩)
      · skip
        clear HO20 HO36 BK1 BK2 BK3 BK4 BK5 BK6 HB HT
        (try clear hHeld)
        intro s_ W73 hF
        obtain ⟨B75, d75, B79, d79, gb7⟩ := s_
        (try dsimp only at hF)
        obtain ⟨lo75, hi75, lo79, hi79, T2_, HO20, HO36, HO75, HO79, BK1, BK2, BK3, BK4, BK5, BK6, BK7, HB, HT, GE7, nn_⟩ := hF
        replace HN := Aside0.mk (And.intro nn_.out HN.out)
        clear nn_
        refine norm_ (a' := ?_) ?_ ?_
        rotate_left
        · simp only [putAll, Act.put, List.setIfInBounds_toArray, List.set_cons_zero, List.set_cons_succ]
          rfl
        refine one_ (i := 5) (N := some 119) #[true, true, true, true, true, true, false, false, false, false, true, false, false] rfl rfl (by kernel_rfl) (by decide) (fun K hK => ?_)
        refine goes_ Try.func21 (by kernel_rfl) rfl #[.slice A2 l2.length c2] (by rfl) rfl rfl (by (try simp only [List.map_toArray, List.map_cons, List.map_nil]); first | done | rfl) ?_
        with_reducible refine (laws_toIntS.calls k _ _ l2 t81 _ (Kd.C_below HR2.out HB.out) HC2.out A80.out).mono ?_
        rintro e W74 ⟨v82, rfl, ho82, hb⟩
        refine ⟨_, rfl, ?_⟩
        obtain ⟨B82, d82, e_⟩ := Kd.R_slice ho82
        subst e_
        obtain ⟨lo82, hi82, nn, ht_, hO82⟩ := laws_FnExactCrossBridge.newR ho82 HT.out (below_size HB.out) hb.size
        replace HO20 := Aside0.mk (Kd.R_below HO20.out hb)
        replace HO36 := Aside0.mk (Kd.R_below HO36.out hb)
        replace HO75 := Aside0.mk (Kd.R_below HO75.out hb)
        replace HO79 := Aside0.mk (Kd.R_below HO79.out hb)
        replace BK1 := Aside0.mk (blk_below (g := gb1) (o := .cells #[.slice A0_0 l0_0.length c0_0, .int .i64 a0_1] 24 (0, 0)) BK1.out hb)
        replace BK2 := Aside0.mk (blk_below (g := gb2) (o := .cells #[.slice A1_0 l1_0.length c1_0, .bool a1_1] 42 (0, 0)) BK2.out hb)
        replace BK3 := Aside0.mk (blk_below (g := gb3) (o := .cells #[.slice B20 t17.length d20, .bool t18] 46 (0, 0)) BK3.out hb)
        replace BK4 := Aside0.mk (blk_below (g := gb4) (o := .cells #[.slice B24 t58.length d24, .int .i64 t23] 27 (0, 0)) BK4.out hb)
        replace BK5 := Aside0.mk (blk_below (g := gb5) (o := .cells #[.slice B28 t61.length d28, .bool t27] 46 (0, 0)) BK5.out hb)
        replace BK6 := Aside0.mk (blk_below (g := gb6) (o := .cells #[.slice B36 t69.length d36, .bool t34] 46 (0, 0)) BK6.out hb)
        replace BK7 := Aside0.mk (blk_below (g := gb7) (o := .cells #[.slice none 0 0, .bool false] 46 (0, 0)) BK7.out hb)
        replace HB := Aside0.mk (below_step HB.out hb)
        replace HT := Aside0.mk (Nat.le_trans HT.out hb.size)
        have HO82 := Aside0.mk hO82
        replace HT := Aside0.mk ht_
        replace HN := Aside0.mk (And.intro nn HN.out)
        clear ho82 hO82 nn ht_
        clear hb
        refine hK.out _ _ ⟨(blk_cell BK1.out 0).trans rfl, (blk_cell BK1.out 1).trans rfl, (blk_cell BK2.out 0).trans rfl, (blk_cell BK2.out 1).trans rfl⟩ (fun hHeld => ?_)
        clear hK K
        refine norm_ (a' := ?_) ?_ ?_
        rotate_left
        · show Act.put _ (some 119) _ = _
          simp only [Act.put, List.setIfInBounds_toArray, List.set_cons_zero, List.set_cons_succ, i64_w, i32_w]
          rfl
        exact norm_ (by first | (simp only [putAll, Act.put, List.setIfInBounds_toArray, List.set_cons_zero, List.set_cons_succ]; done) | (simp only [putAll, Act.put, List.setIfInBounds_toArray, List.set_cons_zero, List.set_cons_succ]; rfl)) (hJ3 (B75, d75, B79, d79, B82, d82, gb7) _ ⟨lo75, hi75, lo79, hi79, lo82, hi82, hi82, HO20, HO36, HO75, HO79, HO82, BK1, BK2, BK3, BK4, BK5, BK6, BK7, HB, HT, GE7, ⟨by have hn_ := HN.out; (try dsimp only); omega⟩⟩)
    · skip
      clear HO20 HO36 BK1 BK2 BK3 BK4 BK5 BK6 HB HT
      (try clear hHeld)
      intro s_ W75 hF
      obtain ⟨B75, d75, B79, d79, B82, d82, gb7⟩ := s_
      (try dsimp only at hF)
      obtain ⟨lo75, hi75, lo79, hi79, lo82, hi82, T3_, HO20, HO36, HO75, HO79, HO82, BK1, BK2, BK3, BK4, BK5, BK6, BK7, HB, HT, GE7, nn_⟩ := hF
      replace HN := Aside0.mk (And.intro nn_.out HN.out)
      clear nn_
      refine norm_ (a' := ?_) ?_ ?_
      rotate_left
      · simp only [putAll, Act.put, List.setIfInBounds_toArray, List.set_cons_zero, List.set_cons_succ]
        rfl
      refine one_ (i := 6) (N := some 120) #[true, true, true, true, true, true, true, false, false, false, true, false, false] rfl rfl (by kernel_rfl) (by decide) (fun K hK => ?_)
      refine goes_ Try.func44 (by kernel_rfl) rfl #[.agg #[.slice B75 t73.length d75, .int .i64 t74], .agg #[.slice B79 t77.length d79, .bool t78], .slice B82 t81.length d82] (by rfl) rfl rfl (by (try simp only [List.map_toArray, List.map_cons, List.map_nil]); first | done | rfl) ?_
      with_reducible refine (impl_CrossBridge.calls k _ _ t73 t74 _ _ t77 t78 _ _ t81 t84 t85 t86 _ (Kd.R_reads' HO75.out).2.2 (Kd.R_reads' HO75.out).2.1 (Kd.R_reads' HO79.out).2.2 (Kd.R_reads' HO79.out).2.1 (Kd.R_reads' HO82.out).2.2 (Kd.R_reads' HO82.out).2.1 A83.out).mono ?_
      rintro e W76 ⟨v87, rfl, ho87, hb⟩
      refine ⟨_, rfl, ?_⟩
      obtain ⟨B87, d87, e_⟩ := Kd.R_slice ho87
      subst e_
      obtain ⟨lo87, hi87, nn, ht_, hO87⟩ := laws_FnExactCrossBridge.newR ho87 HT.out (below_size HB.out) hb.size
      replace HO20 := Aside0.mk (Kd.R_below HO20.out hb)
      replace HO36 := Aside0.mk (Kd.R_below HO36.out hb)
      replace HO75 := Aside0.mk (Kd.R_below HO75.out hb)
      replace HO79 := Aside0.mk (Kd.R_below HO79.out hb)
      replace HO82 := Aside0.mk (Kd.R_below HO82.out hb)
      replace BK1 := Aside0.mk (blk_below (g := gb1) (o := .cells #[.slice A0_0 l0_0.length c0_0, .int .i64 a0_1] 24 (0, 0)) BK1.out hb)
      replace BK2 := Aside0.mk (blk_below (g := gb2) (o := .cells #[.slice A1_0 l1_0.length c1_0, .bool a1_1] 42 (0, 0)) BK2.out hb)
      replace BK3 := Aside0.mk (blk_below (g := gb3) (o := .cells #[.slice B20 t17.length d20, .bool t18] 46 (0, 0)) BK3.out hb)
      replace BK4 := Aside0.mk (blk_below (g := gb4) (o := .cells #[.slice B24 t58.length d24, .int .i64 t23] 27 (0, 0)) BK4.out hb)
      replace BK5 := Aside0.mk (blk_below (g := gb5) (o := .cells #[.slice B28 t61.length d28, .bool t27] 46 (0, 0)) BK5.out hb)
      replace BK6 := Aside0.mk (blk_below (g := gb6) (o := .cells #[.slice B36 t69.length d36, .bool t34] 46 (0, 0)) BK6.out hb)
      replace BK7 := Aside0.mk (blk_below (g := gb7) (o := .cells #[.slice none 0 0, .bool false] 46 (0, 0)) BK7.out hb)
      replace HB := Aside0.mk (below_step HB.out hb)
      replace HT := Aside0.mk (Nat.le_trans HT.out hb.size)
      have HO87 := Aside0.mk hO87
      replace HT := Aside0.mk ht_
      replace HN := Aside0.mk (And.intro nn HN.out)
      clear ho87 hO87 nn ht_
      clear hb
      clear HO75 HO79 HO82
      refine hK.out _ _ ⟨(blk_cell BK1.out 0).trans rfl, (blk_cell BK1.out 1).trans rfl, (blk_cell BK2.out 0).trans rfl, (blk_cell BK2.out 1).trans rfl⟩ (fun hHeld => ?_)
      clear hK K
      refine norm_ (a' := ?_) ?_ ?_
      rotate_left
      · show Act.put _ (some 120) _ = _
        simp only [Act.put, List.setIfInBounds_toArray, List.set_cons_zero, List.set_cons_succ, i64_w, i32_w]
        rfl
      refine pure_ (i := 7) (N := some 113) (v := ?_) (a' := ?_) #[true, true, true, true, true, true, true, true, false, false, true, false, false] rfl rfl (by kernel_rfl) (fun _ _ _ h => h) (Or.inl ⟨by rfl, ?_⟩) ?_ ?_
      rotate_left
      · intro w'
        go_simp
        with_reducible rfl
      rotate_left
      · simp only [Act.put, List.setIfInBounds_toArray, List.set_cons_zero, List.set_cons_succ, i64_w, i32_w]
        rfl
      refine pure_ (i := 8) (N := some 121) (v := ?_) (a' := ?_) #[true, true, true, true, true, true, true, true, true, false, true, false, false] rfl rfl (by kernel_rfl) (fun _ _ _ h => h) (Or.inl ⟨by rfl, ?_⟩) ?_ ?_
      rotate_left
      · intro w'
        go_simp
        with_reducible rfl
      rotate_left
      · simp only [Act.put, List.setIfInBounds_toArray, List.set_cons_zero, List.set_cons_succ, i64_w, i32_w]
        rfl
      refine pure_ (i := 9) (N := some 122) (v := ?_) (a' := ?_) #[true, true, true, true, true, true, true, true, true, true, true, false, false] rfl rfl (by kernel_rfl) (fun _ _ _ h => h) (Or.inl ⟨by rfl, ?_⟩) ?_ ?_
      rotate_left
      · intro w'
        go_simp
        with_reducible rfl
      rotate_left
      · simp only [Act.put, List.setIfInBounds_toArray, List.set_cons_zero, List.set_cons_succ, i64_w, i32_w]
        rfl
      exact norm_ (by first | (simp only [putAll, Act.put, List.setIfInBounds_toArray, List.set_cons_zero, List.set_cons_succ]; done) | (simp only [putAll, Act.put, List.setIfInBounds_toArray, List.set_cons_zero, List.set_cons_succ]; rfl)) (hJ4 (B75, d75, B79, d79, B82, d82, B87, d87, gb7) _ ⟨lo87, hi87, hi87, HO20, HO36, HO87, BK1, BK2, BK3, BK4, BK5, BK6, BK7, HB, HT, GE7, ⟨by have hn_ := HN.out; (try dsimp only); omega⟩⟩)
  clear HO20 HO36 BK1 BK2 BK3 BK4 BK5 BK6 HB HT
  (try clear hHeld)
  intro s_ W77 hF
  obtain ⟨B75, d75, B79, d79, B82, d82, B87, d87, gb7⟩ := s_
  (try dsimp only at hF)
  obtain ⟨lo87, hi87, T4_, HO20, HO36, HO87, BK1, BK2, BK3, BK4, BK5, BK6, BK7, HB, HT, GE7, nn_⟩ := hF
  replace HN := Aside0.mk (And.intro nn_.out HN.out)
  clear nn_
  refine norm_ (a' := ?_) ?_ ?_
  rotate_left
  · simp only [putAll, Act.put, List.setIfInBounds_toArray, List.set_cons_zero, List.set_cons_succ]
    rfl
  refine one_ (i := 11) (N := none) #[true, true, true, true, true, true, true, true, true, true, true, true, false] rfl rfl (by kernel_rfl) (by decide) (fun K hK => ?_)
  refine laws_FnExactCrossBridge.storeK (by rfl) rfl rfl gb7 46 #[.slice none 0 0, .bool false] (.agg #[.slice B87 t84.length d87, .bool t85]) [.slice B87 t84.length d87, .bool t85] rfl rfl BK7.out rfl (by kernel_rfl) rfl (by intro q_ hq_; simp only [List.mem_cons, List.not_mem_nil, or_false] at hq_; rcases hq_ with rfl | rfl <;> rfl) ?_
  intro W78 hbx hg
  replace HO20 := Aside0.mk (laws_FnExactCrossBridge.grownR HO20.out hg (by have hn_ := HN.out; omega))
  replace HO36 := Aside0.mk (laws_FnExactCrossBridge.grownR HO36.out hg (by have hn_ := HN.out; omega))
  replace HO87 := Aside0.mk (laws_FnExactCrossBridge.grownR HO87.out hg (by have hn_ := HN.out; omega))
  replace BK1 := Aside0.mk (laws_FnExactCrossBridge.grownB BK1.out hg (by have hn_ := HN.out; omega))
  replace BK2 := Aside0.mk (laws_FnExactCrossBridge.grownB BK2.out hg (by have hn_ := HN.out; omega))
  replace BK3 := Aside0.mk (laws_FnExactCrossBridge.grownB BK3.out hg (by have hn_ := HN.out; omega))
  replace BK4 := Aside0.mk (laws_FnExactCrossBridge.grownB BK4.out hg (by have hn_ := HN.out; omega))
  replace BK5 := Aside0.mk (laws_FnExactCrossBridge.grownB BK5.out hg (by have hn_ := HN.out; omega))
  replace BK6 := Aside0.mk (laws_FnExactCrossBridge.grownB BK6.out hg (by have hn_ := HN.out; omega))
  replace HB := Aside0.mk (Below.grown HB.out hg (below_size HB.out) (fun k_ hk_ => by injection hk_ with hk_; subst hk_; exact GE7.out))
  replace HT := Aside0.mk (Nat.le_trans HT.out hg.size)
  replace BK7 := Aside0.mk hbx
  clear hbx hg
  refine hK.out _ _ ⟨(blk_cell BK1.out 0).trans rfl, (blk_cell BK1.out 1).trans rfl, (blk_cell BK2.out 0).trans rfl, (blk_cell BK2.out 1).trans rfl⟩ (fun hHeld => ?_)
  clear hK K
  refine pure_ (i := 12) (N := some 19) (v := ?_) (a' := ?_) #[true, true, true, true, true, true, true, true, true, true, true, true, true] rfl rfl (by kernel_rfl) (fun _ _ _ h => h) (Or.inl ⟨by rfl, ?_⟩) ?_ ?_
  rotate_left
  · intro w'
    go_simp
    with_reducible rfl
  rotate_left
  · simp only [Act.put, List.setIfInBounds_toArray, List.set_cons_zero, List.set_cons_succ, i64_w, i32_w]
    rfl
  refine done_ (by kernel_rfl) ?_
  have cz7_0 : W78.cell? ⟨gb7, 0, none⟩ = some (.slice B87 t84.length d87) := (blk_cell BK7.out 0).trans rfl
  have cz7_1 : W78.cell? ⟨gb7, 1, none⟩ = some (.bool t85) := (blk_cell BK7.out 1).trans rfl
  have cz3_0 : W78.cell? ⟨gb3, 0, none⟩ = some (.slice B20 t17.length d20) := (blk_cell BK3.out 0).trans rfl
  have cz3_1 : W78.cell? ⟨gb3, 1, none⟩ = some (.bool t18) := (blk_cell BK3.out 1).trans rfl
  try go_wp2_with (first | ((with_reducible refine gate_dst (N := 125) rfl ?_); refine goesL_ (some 125) rfl rfl Try.func34 (by kernel_rfl) rfl #[.agg #[.slice B87 t84.length d87, .bool t85], .agg #[.slice B20 t17.length d20, .bool t18]] rfl (by (try simp only [List.map_toArray, List.map_cons, List.map_nil]); first | done | rfl) ?_; (with_reducible refine (laws_eqState.calls k _ _ t84 t85 _ _ t17 t18 true _ (Kd.R_reads' HO87.out).2.2 (Kd.R_reads' HO87.out).2.1 (Kd.R_reads' HO20.out).2.2 (Kd.R_reads' HO20.out).2.1 A88.out).mono ?_); rintro e W79 ⟨rfl, hb⟩; refine ⟨_, rfl, ?_⟩; replace HO20 := Aside0.mk (Kd.R_below HO20.out hb); replace HO36 := Aside0.mk (Kd.R_below HO36.out hb); replace HO87 := Aside0.mk (Kd.R_below HO87.out hb); replace BK1 := Aside0.mk (blk_below (g := gb1) (o := .cells #[.slice A0_0 l0_0.length c0_0, .int .i64 a0_1] 24 (0, 0)) BK1.out hb); replace BK2 := Aside0.mk (blk_below (g := gb2) (o := .cells #[.slice A1_0 l1_0.length c1_0, .bool a1_1] 42 (0, 0)) BK2.out hb); replace BK3 := Aside0.mk (blk_below (g := gb3) (o := .cells #[.slice B20 t17.length d20, .bool t18] 46 (0, 0)) BK3.out hb); replace BK4 := Aside0.mk (blk_below (g := gb4) (o := .cells #[.slice B24 t58.length d24, .int .i64 t23] 27 (0, 0)) BK4.out hb); replace BK5 := Aside0.mk (blk_below (g := gb5) (o := .cells #[.slice B28 t61.length d28, .bool t27] 46 (0, 0)) BK5.out hb); replace BK6 := Aside0.mk (blk_below (g := gb6) (o := .cells #[.slice B36 t69.length d36, .bool t34] 46 (0, 0)) BK6.out hb); replace BK7 := Aside0.mk (blk_below (g := gb7) (o := .cells #[.slice B87 t84.length d87, .bool t85] 46 (0, 0)) BK7.out hb); replace HB := Aside0.mk (below_step HB.out hb); replace HT := Aside0.mk (Nat.le_trans HT.out hb.size); clear hb; clear HO20 HO87; (try clear cz7_0 cz7_1 cz3_0 cz3_1); have cz6_0 : W79.cell? ⟨gb6, 0, none⟩ = some (.slice B36 t69.length d36) := (blk_cell BK6.out 0).trans rfl; have cz6_1 : W79.cell? ⟨gb6, 1, none⟩ = some (.bool t34) := (blk_cell BK6.out 1).trans rfl) | ((with_reducible refine gate_dst (N := 134) rfl ?_); refine goesL_ (some 134) rfl rfl Try.func38 (by kernel_rfl) rfl #[.agg #[.slice B36 t69.length d36, .bool t34], .int .i64 1] rfl (by (try simp only [List.map_toArray, List.map_cons, List.map_nil]); first | done | rfl) ?_; (with_reducible refine (laws_heldState.calls k _ _ t69 t34 1 t91 _ (Kd.R_reads' HO36.out).2.2 (Kd.R_reads' HO36.out).2.1 A90.out).mono ?_); rintro e W80 ⟨rfl, hb⟩; refine ⟨_, rfl, ?_⟩; replace HO36 := Aside0.mk (Kd.R_below HO36.out hb); replace BK1 := Aside0.mk (blk_below (g := gb1) (o := .cells #[.slice A0_0 l0_0.length c0_0, .int .i64 a0_1] 24 (0, 0)) BK1.out hb); replace BK2 := Aside0.mk (blk_below (g := gb2) (o := .cells #[.slice A1_0 l1_0.length c1_0, .bool a1_1] 42 (0, 0)) BK2.out hb); replace BK3 := Aside0.mk (blk_below (g := gb3) (o := .cells #[.slice B20 t17.length d20, .bool t18] 46 (0, 0)) BK3.out hb); replace BK4 := Aside0.mk (blk_below (g := gb4) (o := .cells #[.slice B24 t58.length d24, .int .i64 t23] 27 (0, 0)) BK4.out hb); replace BK5 := Aside0.mk (blk_below (g := gb5) (o := .cells #[.slice B28 t61.length d28, .bool t27] 46 (0, 0)) BK5.out hb); replace BK6 := Aside0.mk (blk_below (g := gb6) (o := .cells #[.slice B36 t69.length d36, .bool t34] 46 (0, 0)) BK6.out hb); replace BK7 := Aside0.mk (blk_below (g := gb7) (o := .cells #[.slice B87 t84.length d87, .bool t85] 46 (0, 0)) BK7.out hb); replace HB := Aside0.mk (below_step HB.out hb); replace HT := Aside0.mk (Nat.le_trans HT.out hb.size); clear hb; clear HO36; (try clear cz6_0 cz6_1)))
  go_ret
  exact ⟨by first | rfl | (simp; done) | (simp [*]; done), HB.out⟩

end Go.Proofs.Ytlbmbofhbficgaa.G
